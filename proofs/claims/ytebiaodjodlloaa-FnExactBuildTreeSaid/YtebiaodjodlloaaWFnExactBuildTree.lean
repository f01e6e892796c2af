/- The walk of the exact law on BuildTree: it returns true, and writes nothing that was there. -/
import Derived.Test.YtebiaodjodlloaaSMark
import Derived.Test.YtebiaodjodlloaaTreeJ
import Derived.Test.YtebiaodjodlloaaSAid
namespace Go.Proofs.Ytebiaodjodlloaa
set_option linter.unusedVariables false
open Go Go.RowKit

set_option maxHeartbeats 6400000 in
theorem walk_FnExactBuildTree (a0 : Option Addr) (n0 c0 : Nat) (z0 : List It) (a1 : Int) (w : World) (h0 : ArgS w a0 n0 c0 z0) (h1 : -9223372036854775808 ≤ a1 ∧ a1 ≤ 9223372036854775807) :
    Calls Try.prog 7 #[.slice a0 n0 c0, .int .i64 a1] w fun e w' => e = .returned (.bool true) ∧ Below w.heap.size w w' := by
  go_enter Try.func7, Try.ntmps7
  go_wp2_with fail
  refine (laws_szItemS _ _ _ z0 1048576 _ h0 (by omega) (by omega)).mono ?_; rintro e w1 ⟨l1, rfl, hz1, g1⟩
  have s1 := g1.size
  have b1 := below_grow (Below.refl w.heap.size w) g1 (by omega)
  rcases hz1 with hz1 | ⟨hz1, hy1, hq1⟩
  · go_wp2_with fail
    go_ret
    exact ⟨rfl, b1⟩
  · have hl1 : l1 ≤ 1048576 := by omega
    have r0 := hq1
    obtain rfl := h0.len
    obtain ⟨zs0, hz0'⟩ : ∃ z, z = treeV z0 a1 := ⟨_, rfl⟩
    have HZ0 := Lib.hid hz0'
    clear hz0'
    clear h0
    go_wp2_with fail
    refine (laws_toItemS _ _ z0 _ (r0.far b1)).mono ?_; rintro e w2 ⟨v2, rfl, o2, g2⟩
    obtain ⟨A2, c2', rfl, _, _, _⟩ := o2.open_
    have s2 := g2.size
    have b2 := below_grow b1 g2 (by omega)
    go_wp2_with fail
    refine (spec_BuildTree _ _ z0 a1 _ o2.ri (by assumption) (by assumption)).mono ?_; rintro e w3 ⟨u3_0, rfl, o3_0, g3⟩
    rw [← HZ0.out] at o3_0
    obtain ⟨B3_0, c3_0', rfl, _, _, _⟩ := o3_0.open_
    have s3 := g3.size
    have b3 := below_grow b2 g3 (by omega)
    have x2_3 := o2.grow g3
    clear o2
    go_wp2_with fail
    refine (laws_toItemS _ _ z0 _ (r0.far b3)).mono ?_; rintro e w4 ⟨v4, rfl, o4, g4⟩
    obtain ⟨A4, c4', rfl, _, _, _⟩ := o4.open_
    have s4 := g4.size
    have b4 := below_grow b3 g4 (by omega)
    have w0_4 := o3_0.grow g4
    clear o3_0
    go_wp2_with fail
    refine (impl_BuildTree _ _ z0 a1 _ o4.ri (by assumption) (by assumption)).mono ?_; rintro e w5 ⟨u5_0, rfl, o5_0, g5⟩
    rw [← HZ0.out] at o5_0
    obtain ⟨B5_0, c5_0', rfl, _, _, _⟩ := o5_0.open_
    have s5 := g5.size
    have b5 := below_grow b4 g5 (by omega)
    have w0_5 := w0_4.grow g5
    have x4_5 := o4.grow g5
    clear w0_4 o4
    go_wp2_with fail
    refine (laws_eqNodeS_same _ _ _ _ zs0 _ o5_0.ri w0_5.ri).mono ?_; rintro e w6 ⟨rfl, g6⟩
    have s6 := g6.size
    have b6 := below_grow b5 g6 (by omega)
    have w0_6 := w0_5.grow g6
    have x4_6 := x4_5.grow g6
    have g0_6 := o5_0.grow g6
    clear w0_5 x4_5 o5_0
    go_wp2_with fail
    refine (laws_toItemS _ _ z0 _ (r0.far b6)).mono ?_; rintro e w7 ⟨v7, rfl, o7, g7⟩
    obtain ⟨A7, c7', rfl, _, _, _⟩ := o7.open_
    have s7 := g7.size
    have b7 := below_grow b6 g7 (by omega)
    have w0_7 := w0_6.grow g7
    have x4_7 := x4_6.grow g7
    have g0_7 := g0_6.grow g7
    clear w0_6 x4_6 g0_6
    go_wp2_with fail
    refine (laws_eqItemS_same _ _ _ _ z0 _ x4_7.ri o7.ri).mono ?_; rintro e w8 ⟨rfl, g8⟩
    have s8 := g8.size
    have b8 := below_grow b7 g8 (by omega)
    have w0_8 := w0_7.grow g8
    have x4_8 := x4_7.grow g8
    have g0_8 := g0_7.grow g8
    clear w0_7 x4_7 g0_7
    go_wp2_with fail
    have hk9 := endS_bd r0 (k := 1) (by omega)
    refine (laws_markItemS _ _ z0 (1) _ _ _ x4_8 (by omega) (by omega)).mono ?_; rintro e w9 ⟨rfl, _, t9⟩
    clear x4_8
    have s9 := t9.size
    have b9 := below_turn b8 t9 (by omega) (by omega)
    have w0_9 := w0_8.turn t9 (by omega)
    have g0_9 := g0_8.turn t9 (by omega)
    clear w0_8 g0_8
    have hkk : ¬ endS z0 (1) < 0 := by omega
    go_wp2_with fail
    refine (laws_eqNodeS_same _ _ _ _ zs0 _ g0_9.ri w0_9.ri).mono ?_; rintro e w10 ⟨rfl, g10⟩
    have s10 := g10.size
    have b10 := below_grow b9 g10 (by omega)
    have w0_10 := w0_9.grow g10
    have g0_10 := g0_9.grow g10
    clear w0_9 g0_9
    go_wp2_with fail
    have hm11 := g0_10.len
    refine (laws_markNodeS _ _ zs0 (1) _ _ _ g0_10 (by omega) (by omega)).mono ?_; rintro e w11 ⟨rfl, m11, t11⟩
    clear g0_10
    have s11 := t11.size
    have b11 := below_turn b10 t11 (by omega) (by omega)
    have w0_11 := w0_10.turn t11 (by omega)
    clear w0_10
    go_wp2_with fail
    refine (laws_heldNodeS _ _ zs0.length (1) _ m11.ri (by omega) (by omega)).mono ?_; rintro e w' ⟨rfl, rfl⟩
    go_wp2_with fail
    refine (laws_toItemS _ _ z0 _ (r0.far b11)).mono ?_; rintro e w12 ⟨v12, rfl, o12, g12⟩
    obtain ⟨A12, c12', rfl, _, _, _⟩ := o12.open_
    have s12 := g12.size
    have b12 := below_grow b11 g12 (by omega)
    have w0_12 := w0_11.grow g12
    have m0_12 := m11.grow g12
    clear w0_11 m11
    go_wp2_with fail
    refine (impl_BuildTree _ _ z0 a1 _ o12.ri (by assumption) (by assumption)).mono ?_; rintro e w13 ⟨u13_0, rfl, o13_0, g13⟩
    rw [← HZ0.out] at o13_0
    obtain ⟨B13_0, c13_0', rfl, _, _, _⟩ := o13_0.open_
    have s13 := g13.size
    have b13 := below_grow b12 g13 (by omega)
    have w0_13 := w0_12.grow g13
    have m0_13 := m0_12.grow g13
    have x12_13 := o12.grow g13
    clear w0_12 m0_12 o12
    go_wp2_with fail
    refine (laws_eqNodeS_same _ _ _ _ zs0 _ o13_0.ri w0_13.ri).mono ?_; rintro e w14 ⟨rfl, g14⟩
    have s14 := g14.size
    have b14 := below_grow b13 g14 (by omega)
    have w0_14 := w0_13.grow g14
    have m0_14 := m0_13.grow g14
    have h0_14 := o13_0.grow g14
    clear w0_13 m0_13 o13_0
    go_wp2_with fail
    refine (laws_heldNodeS _ _ zs0.length (1) _ m0_14.ri (by omega) (by omega)).mono ?_; rintro e w' ⟨rfl, rfl⟩
    go_wp2_with fail
    go_ret
    exact ⟨rfl, b14⟩
end Go.Proofs.Ytebiaodjodlloaa
