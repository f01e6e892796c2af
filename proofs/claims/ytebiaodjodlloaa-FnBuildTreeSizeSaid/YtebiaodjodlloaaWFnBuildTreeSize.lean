/- The walk of the law FnBuildTreeSize: it returns true, and writes nothing that was there. -/
import Derived.Test.YtebiaodjodlloaaSDraws
import Derived.Test.YtebiaodjodlloaaTreeJ
import Derived.Test.YtebiaodjodlloaaSAid
import Derived.Test.YtebiaodjodlloaaPlainD
namespace Go.Proofs.Ytebiaodjodlloaa
set_option linter.unusedVariables false
open Go Go.RowKit

set_option maxRecDepth 100000 in
set_option maxHeartbeats 3200000 in
theorem walk_FnBuildTreeSize (a0 : Option Addr) (n0 c0 : Nat) (x0 : List Int) (w : World) (h0 : ArgB w a0 n0 c0 x0) :
    Calls Try.prog 3 #[.slice a0 n0 c0] w fun e w' => e = .returned (.bool true) ∧ Below w.heap.size w w' := by
  by_cases hn : n0 ≤ 1048576
  · go_enter Try.func3, Try.ntmps3
    go_wp2_with fail
    refine (spec_DrawBuildTree _ _ _ _ _ h0).mono ?_
    rintro e w2 ⟨A1, c1, l, kind, rfl, kb0, kb5, q2, g2⟩
    have hlc := q2.cap
    have hct := q2.top
    have hl17 := q2.few
    clear h0
    go_wp2_with fail
    refine (impl_BuildTree _ _ l kind _ q2.rs hlc hct).mono ?_; rintro e w3 ⟨u3, rfl, o3, g3⟩
    obtain ⟨S, hS⟩ : ∃ S, S = treeV l kind := ⟨_, rfl⟩
    have hSf : S.length ≤ 16 := by rw [hS]; exact treeV_few
    rw [← hS] at o3
    have HS := Lib.hid hS
    clear hS
    obtain ⟨A3, c3, rfl, hc3, hm3, _⟩ := o3.open_
    go_wp2_with fail
    refine (spec_BuildTree _ _ l kind _ (q2.grow g3).rs hlc hct).mono ?_; rintro e w4 ⟨u4, rfl, o4, g4⟩
    rw [← HS.out] at o4
    obtain ⟨A4, c4, rfl, _, _, _⟩ := o4.open_
    go_wp2_with fail
    refine (laws_equalNodes_same _ _ _ _ S _ (o3.grow g4).ri o4.ri).mono ?_; rintro e w5 ⟨rfl, g5⟩
    have k5 : Grow w2 w5 := g3.trans (g4.trans g5)
    have K5 : Grow w w5 := g2.trans k5
    have q5 := q2.grow k5
    have o5 := (o3.grow g4).grow g5
    clear o3 o4 q2
    by_cases hS2 : S.length < 2
    · have e2 : decide ((S.length : Int) < 2) = true := by simp; omega
      go_wp2_with fail
      refine (spec_BuildTree _ _ l kind _ q5.rs hlc hct).mono ?_; rintro e w6 ⟨u6, rfl, o6, g6⟩
      rw [← HS.out] at o6
      obtain ⟨A6, c6, rfl, _, _, _⟩ := o6.open_
      go_wp2_with fail
      refine (laws_equalNodes_same _ _ _ _ S _ (o5.grow g6).ri o6.ri).mono ?_; rintro e w7 ⟨rfl, g7⟩
      go_wp2_with fail
      go_ret
      exact ⟨rfl, K5.trans (g6.trans g7)⟩
    · have e2 : decide ((S.length : Int) < 2) = false := by simp; omega
      have hS0 : (treeV l kind).length ≠ 0 := by rw [← HS.out]; omega
      have hSl : S.length = l.length := by rw [HS.out]; exact treeV_len (treeV_ok hS0)
      obtain ⟨x, r, near, far, _, ht, hd⟩ := treeV_top hS0
      obtain ⟨rfl, hd2, hd3⟩ := hd (by omega)
      rw [← HS.out] at ht
      obtain ⟨ad, nd, rfl, had, b0, b1, b2, b3, hnd⟩ := o5.ri.nd0 (by omega)
      have hnd' := hnd.out
      rw [ht] at hnd'
      injection hnd' with hnd'
      subst hnd'
      simp only at b0 b1 b2 b3
      have i0 : (0 : Int) < (S.length : Int) := by omega
      by_cases h22 : S.length = 2
      · obtain rfl := hd2 (by omega)
        have hq : Int.tdiv (S.length : Int) 2 = 1 := by rw [h22]; rfl
        have e22 : ((S.length : Int) == 2) = true := by rw [h22]; rfl
        have HL := Lib.hid hSl
        clear h22 hd2 hd3 hSl ht hd
        go_wp2_with fail
        go_ret
        exact ⟨rfl, K5⟩
      · obtain ⟨hf, hhf⟩ : ∃ h : Nat, h = S.length / 2 := ⟨_, rfl⟩
        have hfar := hd3 (by omega)
        rw [← hSl, ← hhf] at hfar
        subst hfar
        have hq : Int.tdiv (S.length : Int) 2 = (hf : Int) := by rw [Int.tdiv_eq_ediv_of_nonneg (by omega)]; omega
        have hf8 : hf ≤ 8 := by omega
        have HL := Lib.hid hSl
        have HF := Lib.hid hhf
        clear h22 hd2 hd3 hSl ht hd hhf
        go_wp2_with fail
        go_ret
        exact ⟨rfl, K5⟩
  · go_enter Try.func3, Try.ntmps3
    go_wp2_with fail
    go_ret
    exact ⟨rfl, Below.refl _ _⟩
end Go.Proofs.Ytebiaodjodlloaa
