/- The walk of the law FnWithinDistMore: it returns true, and writes nothing that was there. -/
import Derived.Test.YtbbiffaggnllnaaSDraw7
import Derived.Test.YtbbiffaggnllnaaNear4
import Derived.Test.YtbbiffaggnllnaaHLaw
import Derived.Test.YtbbiffaggnllnaaSAid
import Derived.Test.YtbbiffaggnllnaaPlainM
namespace Go.Proofs.Ytbbiffaggnllnaa
set_option linter.unusedVariables false
open Go Go.RowKit

set_option maxRecDepth 100000 in
set_option maxHeartbeats 1200000 in
theorem walk_FnWithinDistMore (a0 : Option Addr) (n0 c0 : Nat) (x0 : List Int) (w : World) (h0 : ArgB w a0 n0 c0 x0) :
    Calls Try.prog 8 #[.slice a0 n0 c0] w fun e w' => e = .returned (.bool true) ∧ Below w.heap.size w w' := by
  by_cases hn : n0 ≤ 1048576
  · go_enter Try.func8, Try.ntmps8
    go_wp2_with fail
    refine (spec_DrawWithinDist _ _ _ _ _ h0).mono ?_
    rintro e w2 ⟨A1, c1, l, kind, B1, d1, xs, k, rfl, ⟨kb0, kb5⟩, ⟨k0, k1⟩, qv, qs, hl17, g2⟩
    obtain ⟨_, q2⟩ := qs.shape (lo' := 0) (w' := w) hl17
    obtain ⟨_, v2⟩ := qv.shape
    have hlc := q2.cap
    have hct := q2.top
    have hvc := v2.cap
    have hvt := v2.top
    clear h0 qs qv
    go_wp2_with fail
    refine (impl_WithinDist _ _ l kind _ _ xs k _ q2.rs v2.ri).mono ?_; rintro e w3 ⟨u3, rfl, o3, g3⟩
    obtain ⟨S, hS⟩ : ∃ S, S = withinV l kind xs k := ⟨_, rfl⟩
    have hSf : S.length ≤ 16 := by rw [hS]; exact withinV_few
    rw [← hS] at o3
    have HS := Lib.hid hS
    clear hS
    obtain ⟨A3, c3, rfl, hc3, hm3, _⟩ := o3.open_
    go_wp2_with fail
    refine (spec_WithinDist _ _ l kind _ _ xs k _ (q2.grow g3).rs (v2.grow g3).ri).mono ?_; rintro e w4 ⟨u4, rfl, o4, g4⟩
    rw [← HS.out] at o4
    obtain ⟨A4, c4, rfl, _, _, _⟩ := o4.open_
    go_wp2_with fail
    refine (laws_equalHits_same _ _ _ _ S _ (o3.grow g4).ri o4.ri).mono ?_; rintro e w5 ⟨rfl, g5⟩
    have k5 : Grow w2 w5 := g3.trans (g4.trans g5)
    have K5 : Grow w w5 := g2.trans k5
    have q5 := q2.grow k5
    have v5 := v2.grow k5
    have o5 := (o3.grow g4).grow g5
    clear o3 o4 q2 v2
    by_cases hS0 : S.length = 0
    · have e0 : ((S.length : Int) == 0) = true := by rw [hS0]; rfl
      clear hS0
      go_wp2_with fail
      refine (spec_WithinDist _ _ l kind _ _ xs k _ q5.rs v5.ri).mono ?_; rintro e w6 ⟨u6, rfl, o6, g6⟩
      rw [← HS.out] at o6
      obtain ⟨A6, c6, rfl, _, _, _⟩ := o6.open_
      go_wp2_with fail
      refine (laws_equalHits_same _ _ _ _ S _ (o5.grow g6).ri o6.ri).mono ?_; rintro e w7 ⟨rfl, g7⟩
      go_wp2_with fail
      go_ret
      exact ⟨rfl, K5.trans (g6.trans g7)⟩
    · have e0 : ((S.length : Int) == 0) = false := by rw [beq_eq_false_iff_ne]; omega
      obtain ⟨m1, m2, m5⟩ := law_within (l := l) (kind := kind) (c := xs) (most := k) (by rw [← HS.out]; exact hS0)
      rw [← HS.out] at m1 m2
      have hb5 : -9223372036854775808 ≤ k + 10 ∧ k + 10 ≤ 9223372036854775807 := by omega
      go_wp2_with fail
      refine (impl_WithinDist _ _ l kind _ _ xs (k + 10) _ q5.rs v5.ri).mono ?_; rintro e w6 ⟨u6, rfl, o6, g6⟩
      obtain ⟨F, hF⟩ : ∃ F, F = withinV l kind xs (k + 10) := ⟨_, rfl⟩
      rw [← hF] at o6 m1 m2
      clear hF
      obtain ⟨A6, c6, rfl, hc6, _, _⟩ := o6.open_
      have r6 := o6.ri.take S.length
      rw [m2] at r6
      have m3 : (S.length : Int) ≤ (F.length : Int) := by omega
      have m4 : (S.length : Int) ≤ (c6 : Int) := by omega
      have M5 := Lib.hid m5
      clear m2 m5
      go_wp2_with fail
      refine (laws_equalHits_same _ _ _ _ S _ r6 (o5.grow g6).ri).mono ?_; rintro e w7 ⟨rfl, g7⟩
      go_wp2_with fail
      have g57 : Grow w5 w7 := g6.trans g7
      refine (impl_WithinDist _ _ l kind _ _ xs 1000000 _ (q5.grow g57).rs (v5.grow g57).ri).mono ?_; rintro e w8 ⟨u8, rfl, o8, g8⟩
      obtain ⟨G, hG⟩ : ∃ G, G = withinV l kind xs 1000000 := ⟨_, rfl⟩
      have m5 := M5.out
      rw [← hG] at o8 m5
      clear hG
      obtain ⟨A8, c8, rfl, _, _, _⟩ := o8.open_
      have m6 : ((G.length : Int) == (l.length : Int)) = true := by rw [m5]; simp
      clear m5
      go_wp2_with fail
      go_ret
      exact ⟨rfl, K5.trans (g57.trans g8)⟩
  · go_enter Try.func8, Try.ntmps8
    go_wp2_with fail
    go_ret
    exact ⟨rfl, Below.refl _ _⟩
end Go.Proofs.Ytbbiffaggnllnaa
