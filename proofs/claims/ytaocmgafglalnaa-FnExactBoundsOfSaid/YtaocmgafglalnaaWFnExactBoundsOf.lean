/- The walk of the exact law on BoundsOf: it returns true, and writes nothing that was there. -/
import Derived.Test.YtaocmgafglalnaaSMark
import Derived.Test.YtaocmgafglalnaaBox2
import Derived.Test.YtaocmgafglalnaaSAid
namespace Go.Proofs.Ytaocmgafglalnaa
set_option linter.unusedVariables false
open Go Go.RowKit

set_option maxHeartbeats 6400000 in
theorem walk_FnExactBoundsOf (a0 : Option Addr) (n0 c0 : Nat) (z0 : List It) (w : World) (h0 : ArgS w a0 n0 c0 z0) :
    Calls Try.prog 9 #[.slice a0 n0 c0] w fun e w' => e = .returned (.bool true) ∧ Below w.heap.size w w' := by
  go_enter Try.func9, Try.ntmps9
  go_wp2_with fail
  refine (laws_szItemS _ _ _ z0 1048576 _ h0 (by omega) (by omega)).mono ?_; rintro e w1 ⟨l1, rfl, hz1, g1⟩
  have s1 := g1.size
  have b1 := below_grow (Below.refl w.heap.size w) g1 (by omega)
  rcases hz1 with hz1 | ⟨hz1, hy1, hq1⟩
  · go_wp2_with fail
    go_ret
    exact ⟨rfl, b1⟩
  · have hl1 : l1 ≤ 1048576 := by omega
    have r0 := hq1
    obtain rfl := h0.len
    obtain ⟨zs0, hz0'⟩ : ∃ z, z = lowV z0 := ⟨_, rfl⟩
    have HZ0 := Lib.hid hz0'
    clear hz0'
    obtain ⟨zs1, hz1'⟩ : ∃ z, z = highV z0 := ⟨_, rfl⟩
    have HZ1 := Lib.hid hz1'
    clear hz1'
    clear h0
    go_wp2_with fail
    refine (laws_toItemS _ _ z0 _ (r0.far b1)).mono ?_; rintro e w2 ⟨v2, rfl, o2, g2⟩
    obtain ⟨A2, c2', rfl, _, _, _⟩ := o2.open_
    have s2 := g2.size
    have b2 := below_grow b1 g2 (by omega)
    go_wp2_with fail
    refine (spec_BoundsOf _ _ z0 _ o2.ri).mono ?_; rintro e w3 ⟨u3_0, u3_1, rfl, ⟨m3', hm3_1, hm3_2, o3_0, o3_1⟩, g3⟩
    rw [← HZ0.out] at o3_0
    obtain ⟨B3_0, c3_0', rfl, _, _, _⟩ := o3_0.open_
    rw [← HZ1.out] at o3_1
    obtain ⟨B3_1, c3_1', rfl, _, _, _⟩ := o3_1.open_
    have s3 := g3.size
    have b3 := below_grow b2 g3 (by omega)
    have x2_3 := o2.grow g3
    clear o2
    go_wp2_with fail
    refine (laws_toItemS _ _ z0 _ (r0.far b3)).mono ?_; rintro e w4 ⟨v4, rfl, o4, g4⟩
    obtain ⟨A4, c4', rfl, _, _, _⟩ := o4.open_
    have s4 := g4.size
    have b4 := below_grow b3 g4 (by omega)
    have w0_4 := o3_0.grow g4
    have w1_4 := o3_1.grow g4
    clear o3_0 o3_1
    go_wp2_with fail
    refine (impl_BoundsOf _ _ z0 _ o4.ri).mono ?_; rintro e w5 ⟨u5_0, u5_1, rfl, ⟨m5', hm5_1, hm5_2, o5_0, o5_1⟩, g5⟩
    rw [← HZ0.out] at o5_0
    obtain ⟨B5_0, c5_0', rfl, _, _, _⟩ := o5_0.open_
    rw [← HZ1.out] at o5_1
    obtain ⟨B5_1, c5_1', rfl, _, _, _⟩ := o5_1.open_
    have s5 := g5.size
    have b5 := below_grow b4 g5 (by omega)
    have w0_5 := w0_4.grow g5
    have w1_5 := w1_4.grow g5
    have x4_5 := o4.grow g5
    clear w0_4 w1_4 o4
    go_wp2_with fail
    refine (laws_eqIntS_same _ _ _ _ zs0 _ o5_0.ri w0_5.ri).mono ?_; rintro e w6 ⟨rfl, g6⟩
    have s6 := g6.size
    have b6 := below_grow b5 g6 (by omega)
    have w0_6 := w0_5.grow g6
    have w1_6 := w1_5.grow g6
    have x4_6 := x4_5.grow g6
    have g0_6 := o5_0.grow g6
    have g1_6 := o5_1.grow g6
    clear w0_5 w1_5 x4_5 o5_0 o5_1
    go_wp2_with fail
    refine (laws_eqIntS_same _ _ _ _ zs1 _ g1_6.ri w1_6.ri).mono ?_; rintro e w7 ⟨rfl, g7⟩
    have s7 := g7.size
    have b7 := below_grow b6 g7 (by omega)
    have w0_7 := w0_6.grow g7
    have w1_7 := w1_6.grow g7
    have x4_7 := x4_6.grow g7
    have g0_7 := g0_6.grow g7
    have g1_7 := g1_6.grow g7
    clear w0_6 w1_6 x4_6 g0_6 g1_6
    go_wp2_with fail
    refine (laws_toItemS _ _ z0 _ (r0.far b7)).mono ?_; rintro e w8 ⟨v8, rfl, o8, g8⟩
    obtain ⟨A8, c8', rfl, _, _, _⟩ := o8.open_
    have s8 := g8.size
    have b8 := below_grow b7 g8 (by omega)
    have w0_8 := w0_7.grow g8
    have w1_8 := w1_7.grow g8
    have x4_8 := x4_7.grow g8
    have g0_8 := g0_7.grow g8
    have g1_8 := g1_7.grow g8
    clear w0_7 w1_7 x4_7 g0_7 g1_7
    go_wp2_with fail
    refine (laws_eqItemS_same _ _ _ _ z0 _ x4_8.ri o8.ri).mono ?_; rintro e w9 ⟨rfl, g9⟩
    have s9 := g9.size
    have b9 := below_grow b8 g9 (by omega)
    have w0_9 := w0_8.grow g9
    have w1_9 := w1_8.grow g9
    have x4_9 := x4_8.grow g9
    have g0_9 := g0_8.grow g9
    have g1_9 := g1_8.grow g9
    clear w0_8 w1_8 x4_8 g0_8 g1_8
    go_wp2_with fail
    have hk10 := endS_bd r0 (k := 1) (by omega)
    refine (laws_markItemS _ _ z0 (1) _ _ _ x4_9 (by omega) (by omega)).mono ?_; rintro e w10 ⟨rfl, _, t10⟩
    clear x4_9
    have s10 := t10.size
    have b10 := below_turn b9 t10 (by omega) (by omega)
    have w0_10 := w0_9.turn t10 (by omega)
    have w1_10 := w1_9.turn t10 (by omega)
    have g0_10 := g0_9.turn t10 (by omega)
    have g1_10 := g1_9.turn t10 (by omega)
    clear w0_9 w1_9 g0_9 g1_9
    have hkk : ¬ endS z0 (1) < 0 := by omega
    go_wp2_with fail
    refine (laws_eqIntS_same _ _ _ _ zs0 _ g0_10.ri w0_10.ri).mono ?_; rintro e w11 ⟨rfl, g11⟩
    have s11 := g11.size
    have b11 := below_grow b10 g11 (by omega)
    have w0_11 := w0_10.grow g11
    have w1_11 := w1_10.grow g11
    have g0_11 := g0_10.grow g11
    have g1_11 := g1_10.grow g11
    clear w0_10 w1_10 g0_10 g1_10
    go_wp2_with fail
    refine (laws_eqIntS_same _ _ _ _ zs1 _ g1_11.ri w1_11.ri).mono ?_; rintro e w12 ⟨rfl, g12⟩
    have s12 := g12.size
    have b12 := below_grow b11 g12 (by omega)
    have w0_12 := w0_11.grow g12
    have w1_12 := w1_11.grow g12
    have g0_12 := g0_11.grow g12
    have g1_12 := g1_11.grow g12
    clear w0_11 w1_11 g0_11 g1_11
    go_wp2_with fail
    have hm13 := g0_12.len
    refine (laws_markIntS _ _ zs0 (1) _ _ _ g0_12 (by omega) (by omega)).mono ?_; rintro e w13 ⟨rfl, m13, t13⟩
    clear g0_12
    have s13 := t13.size
    have b13 := below_turn b12 t13 (by omega) (by omega)
    have w0_13 := w0_12.turn t13 (by omega)
    have w1_13 := w1_12.turn t13 (by omega)
    have g1_13 := g1_12.turn t13 (by omega)
    clear w0_12 w1_12 g1_12
    go_wp2_with fail
    have hm14 := g1_13.len
    refine (laws_markIntS _ _ zs1 (1 + zs0.length) _ _ _ g1_13 (by omega) (by omega)).mono ?_; rintro e w14 ⟨rfl, m14, t14⟩
    clear g1_13
    have s14 := t14.size
    have b14 := below_turn b13 t14 (by omega) (by omega)
    have w0_14 := w0_13.turn t14 (by omega)
    have w1_14 := w1_13.turn t14 (by omega)
    have m0_14 := m13.turn t14 (by omega)
    clear w0_13 w1_13 m13
    go_wp2_with fail
    refine (laws_heldIntS _ _ zs0.length (1) _ m0_14.ri (by omega) (by omega)).mono ?_; rintro e w' ⟨rfl, rfl⟩
    go_wp2_with fail
    refine (laws_heldIntS _ _ zs1.length (1 + zs0.length) _ m14.ri (by omega) (by omega)).mono ?_; rintro e w' ⟨rfl, rfl⟩
    go_wp2_with fail
    refine (laws_toItemS _ _ z0 _ (r0.far b14)).mono ?_; rintro e w15 ⟨v15, rfl, o15, g15⟩
    obtain ⟨A15, c15', rfl, _, _, _⟩ := o15.open_
    have s15 := g15.size
    have b15 := below_grow b14 g15 (by omega)
    have w0_15 := w0_14.grow g15
    have w1_15 := w1_14.grow g15
    have m0_15 := m0_14.grow g15
    have m1_15 := m14.grow g15
    clear w0_14 w1_14 m0_14 m14
    go_wp2_with fail
    refine (impl_BoundsOf _ _ z0 _ o15.ri).mono ?_; rintro e w16 ⟨u16_0, u16_1, rfl, ⟨m16', hm16_1, hm16_2, o16_0, o16_1⟩, g16⟩
    rw [← HZ0.out] at o16_0
    obtain ⟨B16_0, c16_0', rfl, _, _, _⟩ := o16_0.open_
    rw [← HZ1.out] at o16_1
    obtain ⟨B16_1, c16_1', rfl, _, _, _⟩ := o16_1.open_
    have s16 := g16.size
    have b16 := below_grow b15 g16 (by omega)
    have w0_16 := w0_15.grow g16
    have w1_16 := w1_15.grow g16
    have m0_16 := m0_15.grow g16
    have m1_16 := m1_15.grow g16
    have x15_16 := o15.grow g16
    clear w0_15 w1_15 m0_15 m1_15 o15
    go_wp2_with fail
    refine (laws_eqIntS_same _ _ _ _ zs0 _ o16_0.ri w0_16.ri).mono ?_; rintro e w17 ⟨rfl, g17⟩
    have s17 := g17.size
    have b17 := below_grow b16 g17 (by omega)
    have w0_17 := w0_16.grow g17
    have w1_17 := w1_16.grow g17
    have m0_17 := m0_16.grow g17
    have m1_17 := m1_16.grow g17
    have h0_17 := o16_0.grow g17
    have h1_17 := o16_1.grow g17
    clear w0_16 w1_16 m0_16 m1_16 o16_0 o16_1
    go_wp2_with fail
    refine (laws_eqIntS_same _ _ _ _ zs1 _ h1_17.ri w1_17.ri).mono ?_; rintro e w18 ⟨rfl, g18⟩
    have s18 := g18.size
    have b18 := below_grow b17 g18 (by omega)
    have w0_18 := w0_17.grow g18
    have w1_18 := w1_17.grow g18
    have m0_18 := m0_17.grow g18
    have m1_18 := m1_17.grow g18
    have h0_18 := h0_17.grow g18
    have h1_18 := h1_17.grow g18
    clear w0_17 w1_17 m0_17 m1_17 h0_17 h1_17
    go_wp2_with fail
    refine (laws_heldIntS _ _ zs0.length (1) _ m0_18.ri (by omega) (by omega)).mono ?_; rintro e w' ⟨rfl, rfl⟩
    go_wp2_with fail
    refine (laws_heldIntS _ _ zs1.length (1 + zs0.length) _ m1_18.ri (by omega) (by omega)).mono ?_; rintro e w' ⟨rfl, rfl⟩
    go_wp2_with fail
    go_ret
    exact ⟨rfl, b18⟩
end Go.Proofs.Ytaocmgafglalnaa
