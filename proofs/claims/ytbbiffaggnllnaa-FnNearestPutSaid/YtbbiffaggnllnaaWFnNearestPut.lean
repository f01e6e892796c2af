/- The walk of the law FnNearestPut: it returns true, and writes nothing that was there. -/
import Derived.Test.YtbbiffaggnllnaaSDraw7
import Derived.Test.YtbbiffaggnllnaaNear4
import Derived.Test.YtbbiffaggnllnaaHLaw
import Derived.Test.YtbbiffaggnllnaaSAid
import Derived.Test.YtbbiffaggnllnaaPlainM
import Derived.Test.YtbbiffaggnllnaaPut
namespace Go.Proofs.Ytbbiffaggnllnaa
set_option linter.unusedVariables false
open Go Go.RowKit

set_option maxRecDepth 100000 in
set_option maxHeartbeats 1200000 in
theorem walk_FnNearestPut (a0 : Option Addr) (n0 c0 : Nat) (x0 : List Int) (w : World) (h0 : ArgB w a0 n0 c0 x0) :
    Calls Try.prog 11 #[.slice a0 n0 c0] w fun e w' => e = .returned (.bool true) ∧ Below w.heap.size w w' := by
  by_cases hn : n0 ≤ 1048576
  · go_enter Try.func11, Try.ntmps11
    go_wp2_with fail
    refine (spec_DrawNearest _ _ _ _ _ h0).mono ?_
    rintro e w2 ⟨A1, c1, l, kind, B1, d1, xs, k, rfl, ⟨kb0, kb5⟩, ⟨k0, k1⟩, qv, qs, hl17, g2⟩
    obtain ⟨_, q2⟩ := qs.shape (lo' := 0) (w' := w) hl17
    obtain ⟨_, v2⟩ := qv.shape
    have hlc := q2.cap
    have hct := q2.top
    have hvc := v2.cap
    have hvt := v2.top
    clear h0 qs qv
    go_wp2_with fail
    refine (impl_Nearest _ _ l kind _ _ xs k _ q2.rs v2.ri).mono ?_; rintro e w3 ⟨u3, rfl, o3, g3⟩
    obtain ⟨S, hS⟩ : ∃ S, S = nearV l kind xs k := ⟨_, rfl⟩
    have hSf : S.length ≤ 16 := by rw [hS]; exact nearV_few _ _ _ _
    rw [← hS] at o3
    have HS := Lib.hid hS
    clear hS
    obtain ⟨A3, c3, rfl, hc3, hm3, _⟩ := o3.open_
    go_wp2_with fail
    refine (spec_Nearest _ _ l kind _ _ xs k _ (q2.grow g3).rs (v2.grow g3).ri).mono ?_; rintro e w4 ⟨u4, rfl, o4, g4⟩
    rw [← HS.out] at o4
    obtain ⟨A4, c4, rfl, _, _, _⟩ := o4.open_
    go_wp2_with fail
    refine (laws_equalHits_same _ _ _ _ S _ (o3.grow g4).ri o4.ri).mono ?_; rintro e w5 ⟨rfl, g5⟩
    have k5 : Grow w2 w5 := g3.trans (g4.trans g5)
    have K5 : Grow w w5 := g2.trans k5
    have q5 := q2.grow k5
    have v5 := v2.grow k5
    have o5 := (o3.grow g4).grow g5
    clear o3 o4 q2 v2
    by_cases hS0 : S.length = 0
    · have e0 : ((S.length : Int) == 0) = true := by rw [hS0]; rfl
      clear hS0
      go_wp2_with fail
      refine (spec_Nearest _ _ l kind _ _ xs k _ q5.rs v5.ri).mono ?_; rintro e w6 ⟨u6, rfl, o6, g6⟩
      rw [← HS.out] at o6
      obtain ⟨A6, c6, rfl, _, _, _⟩ := o6.open_
      go_wp2_with fail
      refine (laws_equalHits_same _ _ _ _ S _ (o5.grow g6).ri o6.ri).mono ?_; rintro e w7 ⟨rfl, g7⟩
      go_wp2_with fail
      go_ret
      exact ⟨rfl, K5.trans (g6.trans g7)⟩
    · have e0 : ((S.length : Int) == 0) = false := by rw [beq_eq_false_iff_ne]; omega
      have put := fun h => law_nearPut (l := l) (kind := kind) (c := xs) (k := k) (by rw [← HS.out]; exact hS0) h
      have PUT := Lib.hid put
      clear put
      go_wp2_with fail
      refine (impl_PutItem _ _ l (⟨60, xs, 0⟩ : It) _ _ _ q5.rs v5.ri (show Fits 60 from ⟨by omega, by omega⟩) (show Fits 0 from ⟨by omega, by omega⟩)).mono ?_; rintro e w6 ⟨u6, rfl, o6, g6⟩
      obtain ⟨M, hM⟩ : ∃ M, M = putV l (⟨60, xs, 0⟩ : It) := ⟨_, rfl⟩
      rw [← hM] at o6
      have HM := Lib.hid hM
      clear hM
      obtain ⟨A6, c6, rfl, _, _, _⟩ := o6.open_
      go_wp2_with fail
      refine (impl_Nearest _ _ M kind _ _ xs k _ o6.ri (v5.grow g6).ri).mono ?_; rintro e w7 ⟨u7, rfl, o7, g7⟩
      obtain ⟨F, hF⟩ : ∃ F, F = nearV M kind xs k := ⟨_, rfl⟩
      rw [← hF] at o7
      have HF := Lib.hid hF
      clear hF
      obtain ⟨A7, c7, rfl, _, _, r7⟩ := o7.open_
      cases hp : putOk l (⟨60, xs, 0⟩ : It)
      · go_wp2_with fail
        go_ret
        exact ⟨rfl, K5.trans (g6.trans g7)⟩
      · obtain ⟨hd, t, hdt, hd0⟩ := PUT.out hp
        rw [← HM.out, ← HF.out] at hdt
        have hpos : 0 < F.length := by rw [hdt]; simp
        obtain ⟨bd, y, rfl, _, y0, y1, _, _, hy⟩ := r7.hit (i := 0) hpos
        obtain rfl : hd = y := by have := hy.out; rw [hdt] at this; simpa using this
        rw [hd0] at y1
        simp only [Nat.zero_mul, show ∀ b : Addr, b.add 0 = b from fun b => rfl] at y0 y1
        have hp2 : (0 : Int) < (F.length : Int) := by omega
        have hp3 : decide ((0 : Int) < (F.length : Int)) = true := decide_eq_true hp2
        clear hdt r7 hp
        go_wp2_with fail
        go_ret
        exact ⟨rfl, K5.trans (g6.trans g7)⟩
  · go_enter Try.func11, Try.ntmps11
    go_wp2_with fail
    go_ret
    exact ⟨rfl, Below.refl _ _⟩
end Go.Proofs.Ytbbiffaggnllnaa
