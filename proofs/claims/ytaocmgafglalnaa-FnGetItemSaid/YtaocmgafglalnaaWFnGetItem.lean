/- The walk of the law FnGetItem: it returns true, and writes nothing that was there. -/
import Derived.Test.YtaocmgafglalnaaSDraw5
import Derived.Test.YtaocmgafglalnaaSAid
import Derived.Test.YtaocmgafglalnaaPlainL
import Derived.Test.YtaocmgafglalnaaFrom
namespace Go.Proofs.Ytaocmgafglalnaa
set_option linter.unusedVariables false
open Go Go.RowKit

set_option maxHeartbeats 6400000 in
theorem walk_FnGetItem (a0 : Option Addr) (n0 c0 : Nat) (x0 : List Int) (w : World) (h0 : ArgB w a0 n0 c0 x0) :
    Calls Try.prog 21 #[.slice a0 n0 c0] w fun e w' => e = .returned (.bool true) ∧ Below w.heap.size w w' := by
  by_cases hn : n0 ≤ 1048576
  · go_enter Try.func21, Try.ntmps21
    go_wp2_with fail
    refine (spec_DrawGetItem _ _ _ _ _ h0).mono ?_
    rintro e w2 ⟨A1, c1, l, k, rfl, fk, q2, g2⟩
    have hlc := q2.cap
    have hct := q2.top
    have hl17 := q2.few
    unfold maxLen at hct
    unfold Fits at fk
    clear h0
    go_wp2_with fail
    refine (impl_GetItem _ _ l k _ q2.rs).mono ?_
    rintro e w3 ⟨u3, rfl, o3, g3⟩
    obtain ⟨A3, c3, rfl, _, _, _⟩ := o3.open_
    obtain ⟨w4, hw4⟩ : ∃ W, W = w3.alloc (.cells #[.int .i64 (getV l k).key, .slice A3 (getV l k).pt.length c3, .int .i64 (getV l k).tags] 53) := ⟨_, rfl⟩
    have g4 : Grow w3 w4 := by rw [hw4]; exact (Below.refl _ _).alloc (Nat.le_refl _) _
    have b4 : Blk w4 w3.heap.size 53 #[.int .i64 (getV l k).key, .slice A3 (getV l k).pt.length c3, .int .i64 (getV l k).tags] := by rw [hw4]; exact Blk.new _ _ _
    have HW := Lib.hid hw4
    have o34 := o3.grow g4
    have k4 : Grow w2 w4 := g3.trans g4
    clear hw4 o3
    go_wp2_with fail
    rw [← HW.out]
    refine (spec_GetItem _ _ l k _ (q2.grow k4).rs).mono ?_
    rintro e w5 ⟨u5, rfl, o5, g5⟩
    obtain ⟨A5, c5, rfl, _, _, _⟩ := o5.open_
    obtain ⟨w6, hw6⟩ : ∃ W, W = w5.alloc (.cells #[.int .i64 (getV l k).key, .slice A5 (getV l k).pt.length c5, .int .i64 (getV l k).tags] 53) := ⟨_, rfl⟩
    have g6 : Grow w5 w6 := by rw [hw6]; exact (Below.refl _ _).alloc (Nat.le_refl _) _
    have b6 : Blk w6 w5.heap.size 53 #[.int .i64 (getV l k).key, .slice A5 (getV l k).pt.length c5, .int .i64 (getV l k).tags] := by rw [hw6]; exact Blk.new _ _ _
    have HV := Lib.hid hw6
    have k6 : Grow w4 w6 := g5.trans g6
    have o56 := o5.grow g6
    have o36 := o34.grow k6
    have hlt3 : w3.heap.size < w5.heap.size := by have := b4.lt; have := g5.size; omega
    obtain ⟨s0, s1, s2, _⟩ := cells3 b4 g5
    obtain ⟨s0', s1', s2', _⟩ := cells3 b4 k6
    obtain ⟨r0, r1, r2, _⟩ := cells3 b6 (Grow.refl _)
    clear hw6 o5 HW
    go_wp2_with fail
    rw [← HV.out]
    refine (laws_equalItem_same (getV l k) _ _ _ _ _ o36.ri o56.ri).mono ?_; rintro e w7 ⟨rfl, g7⟩
    have k7 : Grow w2 w7 := k4.trans (k6.trans g7)
    have q7 := q2.grow k7
    have o37 := o36.grow g7
    have o57 := o56.grow g7
    clear s0 s1 s2 s0' s1' s2' r0 r1 r2 HV
    have goal : ∀ b : Bool, dropOk l k = b → True := fun _ _ => trivial
    cases hd : dropOk l k
    all_goals
      go_wp2_with fail
      refine (impl_ValidStore _ _ _ _ q7.rs).mono ?_; rintro e w8 ⟨rfl, g8⟩
      have q8 := q7.grow g8
      have K8 : Grow w w8 := g2.trans (k7.trans g8)
      cases hs : storeB l
      · obtain ⟨s0, s1, s2, _⟩ := cells3 b4 (k6.trans (g7.trans g8))
        obtain ⟨r0, r1, r2, _⟩ := cells3 b6 (g7.trans g8)
        go_wp2_with fail
        refine (laws_equalItem_same (getV l k) _ _ _ _ _ (o37.grow g8).ri (o57.grow g8).ri).mono ?_; rintro e w9 ⟨rfl, g9⟩
        go_wp2_with fail
        go_ret
        exact ⟨rfl, K8.trans g9⟩
      · have HS := Lib.hid hs
        go_wp2_with fail
        clear hs
        have HD := Lib.hid hd
        clear hd
        go_loopw [9, 10] (fun a i wr => ∃ j : Nat, j ≤ l.length ∧ i = .int .i64 j ∧ a = .bool (hitTo (keyAt' l k) j) ∧ Grow w8 wr) (fun _ i _ => l.length - (intOf i).toNat)
        case atStart => exact ⟨0, Nat.zero_le _, rfl, rfl, Grow.refl _⟩
        case round =>
          obtain ⟨j, hj, rfl, rfl, kr⟩ := hrel
          have K9 := K8.trans kr
          by_cases hjl : j < l.length
          · obtain ⟨ad, Ak, ck, x, rfl, had, e0, e1, e2, _, _, hri, fx, ft, hx⟩ := (q8.grow kr).rs.at_ hjl
            have hst : hitTo (keyAt' l k) (j + 1) = (hitTo (keyAt' l k) j || x.key == k) := by rw [hitTo, keyAt', itI_of hx.out]
            have HST := Lib.hid hst
            clear hst
            cases ha : hitTo (keyAt' l k) j
            · by_cases hxk : x.key = k
              · have hxk' : (x.key == k) = true := by rw [hxk]; simp
                have hgv : getV l k = x := by rw [← hxk]; exact getV_at HS.out hx.out
                rw [hgv] at b4 o37
                obtain ⟨s0, s1, s2, _⟩ := cells3 b4 (k6.trans (g7.trans (g8.trans kr)))
                have hlt4 : w3.heap.size < wr.heap.size := (b4.below (k6.trans (g7.trans (g8.trans kr))) b4.lt).lt
                have o3r := (o37.grow (g8.trans kr)).ri
                have z0 : ∀ s : From wr, s.w.cell? (ad.add (j * 3)) = some (.int .i64 x.key) := fun s => (s.cell (by rw [block_of_add]; exact had)).trans e0
                have z1 : ∀ s : From wr, s.w.cell? ⟨(ad.add (j * 3)).block, (ad.add (j * 3)).off + 1, none⟩ = some (.slice Ak x.pt.length ck) := fun s => (s.cell (by rw [block_of_add]; exact had)).trans e1
                have z2 : ∀ s : From wr, s.w.cell? ⟨(ad.add (j * 3)).block, (ad.add (j * 3)).off + 2, none⟩ = some (.int .i64 x.tags) := fun s => (s.cell (by rw [block_of_add]; exact had)).trans e2
                have y0 : ∀ s : From wr, s.w.cell? ⟨w3.heap.size, 0, none⟩ = some (.int .i64 x.key) := fun s => (s.cell hlt4).trans s0
                have y1 : ∀ s : From wr, s.w.cell? ⟨w3.heap.size, 1, none⟩ = some (.slice A3 x.pt.length c3) := fun s => (s.cell hlt4).trans s1
                have y2 : ∀ s : From wr, s.w.cell? ⟨w3.heap.size, 2, none⟩ = some (.int .i64 x.tags) := fun s => (s.cell hlt4).trans s2
                have HC := fun s : From wr => From.call (laws_equalItem_same x Ak A3 ck c3 s.w (hri.grow s.g) (o3r.grow s.g))
                have HG := Lib.hid hxk
                rw [hgv]
                clear s0 s1 s2 e0 e1 e2 hxk hgv
                go_wp2_with fail
                refine wp_region_from (by kernel_rfl) (by kernel_rfl) ?_
                repeat (go_big_quiet_step (exact HC _))
                refine wpQuiet_nil ?_
                intro w9 g9
                go_wp2_with fail
                go_roundw
                case rel => exact ⟨j + 1, by omega, by go_num, by rw [HST.out, ha, hxk']; rfl, kr.trans g9⟩
                case measure => simp [intOf]; omega
              · have hxk' : (x.key == k) = false := by rw [beq_eq_false_iff_ne]; exact hxk
                have z0 : ∀ s : From wr, s.w.cell? (ad.add (j * 3)) = some (.int .i64 x.key) := fun s => (s.cell (by rw [block_of_add]; exact had)).trans e0
                clear e0 e1 e2
                go_wp2_with fail
                refine wp_region_from (by kernel_rfl) (by kernel_rfl) ?_
                repeat (go_big_quiet_step (fail))
                refine wpQuiet_nil ?_
                intro w9 g9
                go_wp2_with fail
                go_roundw
                case rel => exact ⟨j + 1, by omega, by go_num, by rw [HST.out, ha, hxk']; rfl, kr.trans g9⟩
                case measure => simp [intOf]; omega
            · go_wp2_with fail
              refine wp_region_from (by kernel_rfl) (by kernel_rfl) ?_
              repeat (go_big_quiet_step (fail))
              refine wpQuiet_nil ?_
              intro w9 g9
              go_wp2_with fail
              go_roundw
              case rel => exact ⟨j + 1, by omega, by go_num, by rw [HST.out, ha]; rfl, kr.trans g9⟩
              case measure => simp [intOf]; omega
          · obtain rfl : j = l.length := by omega
            rw [hit_drop HS.out, HD.out]
            go_wp2_with fail
            go_ret
            exact ⟨rfl, K9⟩
  · go_enter Try.func21, Try.ntmps21
    go_wp2_with fail
    go_ret
    exact ⟨rfl, Below.refl _ _⟩
end Go.Proofs.Ytaocmgafglalnaa
