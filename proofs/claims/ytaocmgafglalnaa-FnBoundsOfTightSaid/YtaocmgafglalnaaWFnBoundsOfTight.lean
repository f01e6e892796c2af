/- The walk of the law FnBoundsOfTight: it returns true, and writes nothing that was there. -/
import Derived.Test.YtaocmgafglalnaaSDraw5
import Derived.Test.YtaocmgafglalnaaSAid
import Derived.Test.YtaocmgafglalnaaPlainL
import Derived.Test.YtaocmgafglalnaaFrom
import Derived.Test.YtaocmgafglalnaaBox2
import Derived.Test.YtaocmgafglalnaaDraw
import Derived.Test.YtaocmgafglalnaaVec
namespace Go.Proofs.Ytaocmgafglalnaa
set_option linter.unusedVariables false
open Go Go.RowKit

theorem eqInts_same (A B : Option Addr) (xs : List Int) (c d : Nat) (w : World) (hx : RI w w.heap.size A xs) (hy : RI w w.heap.size B xs) :
    Calls Try.prog 38 #[.slice A xs.length c, .slice B xs.length d] w fun e w' => e = .returned (.bool true) ∧ Grow w w' := by
  have he := eqB_self xs
  refine (laws_equalInts A B xs xs c d w hx hy).mono ?_
  rintro e w' ⟨rfl, n, rfl⟩
  exact ⟨by rw [he], Grow.drewN _ _⟩
set_option maxHeartbeats 6400000 in
theorem walk_FnBoundsOfTight (a0 : Option Addr) (n0 c0 : Nat) (x0 : List Int) (w : World) (h0 : ArgB w a0 n0 c0 x0) :
    Calls Try.prog 12 #[.slice a0 n0 c0] w fun e w' => e = .returned (.bool true) ∧ Below w.heap.size w w' := by
  by_cases hn : n0 ≤ 1048576
  · go_enter Try.func12, Try.ntmps12
    go_wp2_with fail
    refine (spec_DrawBoundsOf _ _ _ _ _ h0).mono ?_
    rintro e w2 ⟨A1, c1, l, rfl, q2, g2⟩
    have hlc := q2.cap
    have hct := q2.top
    have hl17 := q2.few
    unfold maxLen at hct
    clear h0
    go_wp2_with fail
    refine (impl_BoundsOf _ _ l _ q2.rs).mono ?_
    rintro e w3 ⟨u3, v3, rfl, ⟨m3, _, _, o3, p3⟩, g3⟩
    obtain ⟨A3, c3, rfl, _, _, r3⟩ := o3.open_
    obtain ⟨B3, d3, rfl, _, _, s3⟩ := p3.open_
    clear o3 p3
    go_wp2_with fail
    refine (spec_BoundsOf _ _ l _ (q2.grow g3).rs).mono ?_
    rintro e w4 ⟨u4, v4, rfl, ⟨m4, _, _, o4, p4⟩, g4⟩
    obtain ⟨A4, c4, rfl, _, _, r4⟩ := o4.open_
    obtain ⟨B4, d4, rfl, _, _, s4⟩ := p4.open_
    clear o4 p4
    go_wp2_with fail
    refine (eqInts_same _ _ (lowV l) _ _ _ (r3.grow g4) r4).mono ?_; rintro e w5 ⟨rfl, g5⟩
    go_wp2_with fail
    refine (eqInts_same _ _ (highV l) _ _ _ (s3.grow (g4.trans g5)) (s4.grow g5)).mono ?_; rintro e w6 ⟨rfl, g6⟩
    have k6 : Grow w2 w6 := g3.trans (g4.trans (g5.trans g6))
    have K6 : Grow w w6 := g2.trans k6
    have q6 := q2.grow k6
    have r36 := r3.grow (g4.trans (g5.trans g6))
    have s36 := s3.grow (g4.trans (g5.trans g6))
    have r46 := r4.grow (g5.trans g6)
    have s46 := s4.grow (g5.trans g6)
    clear r3 s3 r4 s4
    cases hp : boundsOk l
    · go_wp2_with fail
      refine (eqInts_same _ _ (lowV l) _ _ _ r36 r46).mono ?_; rintro e w7 ⟨rfl, g7⟩
      go_wp2_with fail
      refine (eqInts_same _ _ (highV l) _ _ _ (s36.grow g7) (s46.grow g7)).mono ?_; rintro e w8 ⟨rfl, g8⟩
      go_wp2_with fail
      go_ret
      exact ⟨rfl, K6.trans (g7.trans g8)⟩
    · have HP := Lib.hid hp
      have hl4 := vecB_four (lowV_vec hp)
      have hh4 := vecB_four (highV_vec hp)
      have HL := Lib.hid hl4
      have HH := Lib.hid hh4
      have hs := Lib.hid (boundsOk_iff.1 hp).1
      clear hl4 hh4
      go_wp2_with fail
      clear hp
      go_loopw [10] (fun k wr => ∃ c : Nat, c ≤ 4 ∧ k = .int .i64 c ∧ Grow w6 wr) (fun k _ => 4 - (intOf k).toNat)
      case atStart => exact ⟨0, by omega, rfl, Grow.refl _⟩
      case round =>
        obtain ⟨c, hc, rfl, kr⟩ := hrel
        by_cases hc4 : c < 4
        · go_wp2_with fail
          go_loopw [11, 12, 13] (fun a b i wo => ∃ j : Nat, j ≤ l.length ∧ i = .int .i64 j ∧ a = .bool (hitTo (lowAt l c) j) ∧ b = .bool (hitTo (highAt l c) j) ∧ Grow wr wo) (fun _ _ i _ => l.length - (intOf i).toNat)
          case atStart => exact ⟨0, Nat.zero_le _, rfl, rfl, rfl, Grow.refl _⟩
          case round =>
            obtain ⟨j, hj, rfl, rfl, rfl, ko⟩ := hrel
            have kz := kr.trans ko
            by_cases hjl : j < l.length
            · obtain ⟨ad, Ak, ck, x, rfl, had, _, e1, _, _, _, hri, _, _, hx⟩ := (q6.grow kz).rs.at_ hjl
              have hx4 : x.pt.length = 4 := by have := vecB_four (store_vec hs.out hjl); rwa [itI_of hx.out] at this
              obtain ⟨pd, p, rfl, hpb, hcp, _, _, hkp⟩ := hri.at_ (k := c) (by omega)
              obtain ⟨qd, q, rfl, hqb, hcq, _, _, hkq⟩ := (r36.grow kz).at_ (k := c) (by rw [HL.out]; omega)
              obtain ⟨rd, r, rfl, hrb, hcr, _, _, hkr⟩ := (s36.grow kz).at_ (k := c) (by rw [HH.out]; omega)
              have hsa : hitTo (lowAt l c) (j + 1) = (hitTo (lowAt l c) j || p == q) := by rw [hitTo, lowAt, itI_of hx.out, gI_of hkp.out, gI_of hkq.out]
              have hsb : hitTo (highAt l c) (j + 1) = (hitTo (highAt l c) j || p == r) := by rw [hitTo, highAt, itI_of hx.out, gI_of hkp.out, gI_of hkr.out]
              have HSA := Lib.hid hsa
              have HSB := Lib.hid hsb
              have hcx : c < x.pt.length := by omega
              have hcl : c < (lowV l).length := by rw [HL.out]; omega
              have hch : c < (highV l).length := by rw [HH.out]; omega
              have z1 : ∀ s : From wr, s.w.cell? ⟨(ad.add (j * 3)).block, (ad.add (j * 3)).off + 1, none⟩ = some (.slice (some pd) x.pt.length ck) := fun s => (s.cell (by rw [block_of_add]; exact had)).trans e1
              have z2 : ∀ s : From wr, s.w.cell? (pd.add c) = some (.int .i64 p) := fun s => (s.cell (by rw [block_of_add]; exact hpb)).trans hcp
              have z3 : ∀ s : From wr, s.w.cell? (qd.add c) = some (.int .i64 q) := fun s => (s.cell (by rw [block_of_add]; exact hqb)).trans hcq
              have z4 : ∀ s : From wr, s.w.cell? (rd.add c) = some (.int .i64 r) := fun s => (s.cell (by rw [block_of_add]; exact hrb)).trans hcr
              clear hsa hsb e1 hcp hcq hcr hx4
              cases ha : hitTo (lowAt l c) j
              all_goals
                go_wp2_with fail
                refine wp_region_from (by kernel_rfl) (by kernel_rfl) ?_
                repeat (go_big_quiet_step (fail))
                refine wpQuiet_nil ?_
                intro w7 g7
                go_wp2_with fail
                have hadw : (ad.add (j * 3)).block < w7.heap.size := by rw [block_of_add]; exact Nat.lt_of_lt_of_le had g7.size
                have z1 : ∀ s : From w7, s.w.cell? ⟨(ad.add (j * 3)).block, (ad.add (j * 3)).off + 1, none⟩ = some (.slice (some pd) x.pt.length ck) := fun s => (From.cell s (p := ⟨(ad.add (j * 3)).block, (ad.add (j * 3)).off + 1, none⟩) hadw).trans (z1 ⟨w7, g7⟩)
                have z2 : ∀ s : From w7, s.w.cell? (pd.add c) = some (.int .i64 p) := fun s => (s.cell (by rw [block_of_add]; exact Nat.lt_of_lt_of_le hpb g7.size)).trans (z2 ⟨w7, g7⟩)
                have z4 : ∀ s : From w7, s.w.cell? (rd.add c) = some (.int .i64 r) := fun s => (s.cell (by rw [block_of_add]; exact Nat.lt_of_lt_of_le hrb g7.size)).trans (z4 ⟨w7, g7⟩)
                cases hb : hitTo (highAt l c) j
                all_goals
                  go_wp2_with fail
                  refine wp_region_from (by kernel_rfl) (by kernel_rfl) ?_
                  repeat (go_big_quiet_step (fail))
                  refine wpQuiet_nil ?_
                  intro w8 g8
                  go_wp2_with fail
                  go_roundw
                  case rel => exact ⟨j + 1, by omega, by go_num, by rw [HSA.out, ha]; simp, by rw [HSB.out, hb]; simp, ko.trans (g7.trans g8)⟩
                  case measure => simp [intOf]; omega
            · obtain rfl : j = l.length := by omega
              obtain ⟨t1, t2⟩ := tight HP.out hc4
              rw [t1, t2]
              clear t1 t2
              go_wp2_with fail
              go_roundw
              case rel => exact ⟨c + 1, by omega, by go_num, kz⟩
              case measure => simp [intOf]; omega
        · go_wp2_with fail
          go_ret
          exact ⟨rfl, K6.trans kr⟩
  · go_enter Try.func12, Try.ntmps12
    go_wp2_with fail
    go_ret
    exact ⟨rfl, Below.refl _ _⟩
end Go.Proofs.Ytaocmgafglalnaa
