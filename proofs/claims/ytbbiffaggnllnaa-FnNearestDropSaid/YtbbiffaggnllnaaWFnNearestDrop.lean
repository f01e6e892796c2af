/- The walk of the law FnNearestDrop: it returns true, and writes nothing that was there. -/
import Derived.Test.YtbbiffaggnllnaaSDraw7
import Derived.Test.YtbbiffaggnllnaaNear4
import Derived.Test.YtbbiffaggnllnaaHLaw
import Derived.Test.YtbbiffaggnllnaaSAid
import Derived.Test.YtbbiffaggnllnaaPlainM
import Derived.Test.YtbbiffaggnllnaaPut
import Derived.Test.YtbbiffaggnllnaaIsIn
import Derived.Deep.CutRange
import Derived.Deep.DeepCutAuto
namespace Go.Proofs.Ytbbiffaggnllnaa
set_option linter.unusedVariables false
open Go Go.RowKit

set_option maxRecDepth 100000 in
set_option maxHeartbeats 1200000 in
theorem walk_FnNearestDrop (a0 : Option Addr) (n0 c0 : Nat) (x0 : List Int) (w : World) (h0 : ArgB w a0 n0 c0 x0) :
    Calls Try.prog 17 #[.slice a0 n0 c0] w fun e w' => e = .returned (.bool true) ∧ Below w.heap.size w w' := by
  by_cases hn : n0 ≤ 1048576
  · go_enter Try.func17, Try.ntmps17
    go_wp2_with fail
    refine (spec_DrawNearest _ _ _ _ _ h0).mono ?_
    rintro e w2 ⟨A1, c1, l, kind, B1, d1, xs, k, rfl, ⟨kb0, kb5⟩, ⟨k0, k1⟩, qv, qs, hl17, g2⟩
    obtain ⟨_, q2⟩ := qs.shape (lo' := 0) (w' := w) hl17
    obtain ⟨_, v2⟩ := qv.shape
    have hlc := q2.cap
    have hct := q2.top
    have hvc := v2.cap
    have hvt := v2.top
    clear h0 qs qv
    go_wp2_with fail
    refine (impl_Nearest _ _ l kind _ _ xs k _ q2.rs v2.ri).mono ?_; rintro e w3 ⟨u3, rfl, o3, g3⟩
    obtain ⟨S, hS⟩ : ∃ S, S = nearV l kind xs k := ⟨_, rfl⟩
    have hSf : S.length ≤ 16 := by rw [hS]; exact nearV_few _ _ _ _
    rw [← hS] at o3
    have HS := Lib.hid hS
    clear hS
    obtain ⟨A3, c3, rfl, hc3, hm3, _⟩ := o3.open_
    go_wp2_with fail
    refine (spec_Nearest _ _ l kind _ _ xs k _ (q2.grow g3).rs (v2.grow g3).ri).mono ?_; rintro e w4 ⟨u4, rfl, o4, g4⟩
    rw [← HS.out] at o4
    obtain ⟨A4, c4, rfl, _, _, _⟩ := o4.open_
    go_wp2_with fail
    refine (laws_equalHits_same _ _ _ _ S _ (o3.grow g4).ri o4.ri).mono ?_; rintro e w5 ⟨rfl, g5⟩
    have k5 : Grow w2 w5 := g3.trans (g4.trans g5)
    have K5 : Grow w w5 := g2.trans k5
    have q5 := q2.grow k5
    have v5 := v2.grow k5
    have o5 := (o3.grow g4).grow g5
    clear o3 o4 q2 v2
    by_cases hS0 : S.length = 0
    · have e0 : ((S.length : Int) == 0) = true := by rw [hS0]; rfl
      clear hS0
      go_wp2_with fail
      refine (spec_Nearest _ _ l kind _ _ xs k _ q5.rs v5.ri).mono ?_; rintro e w6 ⟨u6, rfl, o6, g6⟩
      rw [← HS.out] at o6
      obtain ⟨A6, c6, rfl, _, _, _⟩ := o6.open_
      go_wp2_with fail
      refine (laws_equalHits_same _ _ _ _ S _ (o5.grow g6).ri o6.ri).mono ?_; rintro e w7 ⟨rfl, g7⟩
      go_wp2_with fail
      go_ret
      exact ⟨rfl, K5.trans (g6.trans g7)⟩
    · have e0 : ((S.length : Int) == 0) = false := by rw [beq_eq_false_iff_ne]; omega
      have drop := fun x hx hno => law_nearDrop (l := l) (kind := kind) (c := xs) (k := k) (by rw [← HS.out]; exact hS0) (x := x) hx (by rw [← HS.out]; exact hno)
      have DROP := Lib.hid drop
      clear drop
      go_wp2_with fail
      go_loopw [8] (fun i wr => ∃ n : Nat, n ≤ l.length ∧ i = .int .i64 n ∧ Grow w5 wr) (fun i _ => l.length - (intOf i).toNat)
      case atStart => exact ⟨0, Nat.zero_le _, rfl, Grow.refl _⟩
      case round =>
        obtain ⟨n, hnl, rfl, kr⟩ := hrel
        by_cases hn1 : n < l.length
        · obtain ⟨ad, Ai, ci, x, rfl, had, z0, z1, _, _, _, hri, fx, _, hx⟩ := (q5.grow kr).rs.at_ (k := n) hn1
          have hl2 : n + 1 ≤ l.length := hn1
          have hS1 : S.length ≤ 1000 := by omega
          have hkk := fun W (hW : Grow wr W) => laws_keys A3 c3 S W (o5.grow (kr.trans hW)).ri hS1
          have hz := fun W (hW : Grow wr W) => (hW.cell (p := ad.add (n * 3)) (by rw [block_of_add]; exact had)).trans z0
          have HZ := Lib.hid hz
          clear hz
          obtain ⟨KS, hKS⟩ : ∃ KS, KS = S.map Ht.key := ⟨_, rfl⟩
          have hii := fun (W : World) (A : Option Addr) (c : Nat) (h : RI W W.heap.size A KS) => laws_isIn A c KS x.key W h
          obtain ⟨b, hb⟩ : ∃ b, b = decide (x.key ∈ KS) := ⟨_, rfl⟩
          rw [← hb] at hii
          rw [← hKS] at hkk
          have HB := Lib.hid hb
          have HKS := Lib.hid hKS
          clear hb hKS
          go_wp2_with fail
          go_region_law (first
            | (go_simp; go_at_call 31; refine (hkk _ (Grow.drew _)).mono ?_; rintro e w6 ⟨u6, rfl, o6, g6⟩; obtain ⟨A6, c6, rfl, _, _, r6⟩ := o6.open_; have z0' := HZ.out w6 (Grow.trans (Grow.drew _) g6))
            | (go_simp; go_at_call 66; refine (hii _ _ _ r6).mono ?_; rintro e w7 ⟨rfl, rfl⟩))
          all_goals
            have k6 : Grow wr w6 := Grow.trans (Grow.drew _) g6
            have kr6 : Grow w5 w6 := kr.trans k6
            clear hkk hii z0
            cases b
            · obtain ⟨t1, t2⟩ := DROP.out x (List.mem_of_getElem? hx.out) (by rw [← HKS.out]; exact of_decide_eq_false HB.out.symm)
              rw [← HS.out] at t2
              obtain ⟨D, hD⟩ : ∃ D, D = dropV l x.key := ⟨_, rfl⟩
              rw [← hD] at t2
              have T2 := Lib.hid t2
              have HD := Lib.hid hD
              clear t2 hD
              go_wp2_with fail
              refine (impl_DropItem _ _ l x.key _ (q5.grow kr6).rs).mono ?_; rintro e w8 ⟨u8, rfl, o8, g8⟩
              rw [t1]
              rw [← HD.out] at o8
              clear t1
              obtain ⟨A8, c8, rfl, _, _, _⟩ := o8.open_
              go_wp2_with fail
              refine (impl_Nearest _ _ D kind _ _ xs k _ o8.ri (v5.grow (kr6.trans g8)).ri).mono ?_; rintro e w9 ⟨u9, rfl, o9, g9⟩
              rw [T2.out] at o9
              obtain ⟨A9, c9, rfl, _, _, _⟩ := o9.open_
              go_wp2_with fail
              have k9 : Grow w5 w9 := kr6.trans (g8.trans g9)
              refine (laws_equalHits_same _ _ _ _ S _ o9.ri (o5.grow k9).ri).mono ?_; rintro e w10 ⟨rfl, g10⟩
              go_wp2_with fail
              go_roundw
              case rel => exact ⟨n + 1, by omega, by go_num, k9.trans g10⟩
              case measure => simp [intOf]; omega
            · go_wp2_with fail
              go_roundw
              case rel => exact ⟨n + 1, by omega, by go_num, kr6⟩
              case measure => simp [intOf]; omega
        · go_wp2_with fail
          go_ret
          exact ⟨rfl, K5.trans kr⟩
  · go_enter Try.func17, Try.ntmps17
    go_wp2_with fail
    go_ret
    exact ⟨rfl, Below.refl _ _⟩
end Go.Proofs.Ytbbiffaggnllnaa
