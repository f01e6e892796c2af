/- The walk of the exact law on InBox: it returns true, and writes nothing that was there. -/
import Derived.Test.YtaocmgafglalnaaSMark
import Derived.Test.YtaocmgafglalnaaBox3
import Derived.Test.YtaocmgafglalnaaSAid
namespace Go.Proofs.Ytaocmgafglalnaa
set_option linter.unusedVariables false
open Go Go.RowKit

set_option maxHeartbeats 6400000 in
theorem walk_FnExactInBox (a0 : Option Addr) (n0 c0 : Nat) (z0 : List It) (a1 : Option Addr) (n1 c1 : Nat) (z1 : List Int) (a2 : Option Addr) (n2 c2 : Nat) (z2 : List Int) (w : World) (h0 : ArgS w a0 n0 c0 z0) (h1 : ArgI w a1 n1 c1 z1) (h2 : ArgI w a2 n2 c2 z2) :
    Calls Try.prog 10 #[.slice a0 n0 c0, .slice a1 n1 c1, .slice a2 n2 c2] w fun e w' => e = .returned (.bool true) ∧ Below w.heap.size w w' := by
  by_cases hn1 : 1048576 < n1
  · go_enter Try.func10, Try.ntmps10
    go_wp2_with fail
    go_ret
    exact ⟨rfl, Below.refl _ _⟩
  · have r1 := h1.ri (by omega)
    obtain rfl := h1.len
    by_cases hn2 : 1048576 < n2
    · go_enter Try.func10, Try.ntmps10
      go_wp2_with fail
      go_ret
      exact ⟨rfl, Below.refl _ _⟩
    · have r2 := h2.ri (by omega)
      obtain rfl := h2.len
      go_enter Try.func10, Try.ntmps10
      go_wp2_with fail
      refine (laws_szItemS _ _ _ z0 1048576 _ h0 (by omega) (by omega)).mono ?_; rintro e w1 ⟨l1, rfl, hz1, g1⟩
      have s1 := g1.size
      have b1 := below_grow (Below.refl w.heap.size w) g1 (by omega)
      rcases hz1 with hz1 | ⟨hz1, hy1, hq1⟩
      · go_wp2_with fail
        go_ret
        exact ⟨rfl, b1⟩
      · have hl1 : l1 ≤ 1048576 := by omega
        have r0 := hq1
        obtain rfl := h0.len
        obtain ⟨zs0, hz0'⟩ : ∃ z, z = boxV z0 z1 z2 := ⟨_, rfl⟩
        have HZ0 := Lib.hid hz0'
        clear hz0'
        clear h0 h1 h2
        go_wp2_with fail
        refine (laws_toItemS _ _ z0 _ (r0.far b1)).mono ?_; rintro e w2 ⟨v2, rfl, o2, g2⟩
        obtain ⟨A2, c2', rfl, _, _, _⟩ := o2.open_
        have s2 := g2.size
        have b2 := below_grow b1 g2 (by omega)
        go_wp2_with fail
        refine (laws_toIntS _ _ _ _ (r1.far b2)).mono ?_; rintro e w3 ⟨v3, rfl, o3, g3⟩
        obtain ⟨A3, c3', rfl, _, _, _⟩ := o3.open_
        have s3 := g3.size
        have b3 := below_grow b2 g3 (by omega)
        have x2_3 := o2.grow g3
        clear o2
        go_wp2_with fail
        refine (laws_toIntS _ _ _ _ (r2.far b3)).mono ?_; rintro e w4 ⟨v4, rfl, o4, g4⟩
        obtain ⟨A4, c4', rfl, _, _, _⟩ := o4.open_
        have s4 := g4.size
        have b4 := below_grow b3 g4 (by omega)
        have x2_4 := x2_3.grow g4
        have x3_4 := o3.grow g4
        clear x2_3 o3
        go_wp2_with fail
        refine (spec_InBox _ _ z0 _ _ z1 _ _ z2 _ x2_4.ri x3_4.ri o4.ri).mono ?_; rintro e w5 ⟨u5_0, rfl, o5_0, g5⟩
        rw [← HZ0.out] at o5_0
        obtain ⟨B5_0, c5_0', rfl, _, _, _⟩ := o5_0.open_
        have s5 := g5.size
        have b5 := below_grow b4 g5 (by omega)
        have x2_5 := x2_4.grow g5
        have x3_5 := x3_4.grow g5
        have x4_5 := o4.grow g5
        clear x2_4 x3_4 o4
        go_wp2_with fail
        refine (laws_toItemS _ _ z0 _ (r0.far b5)).mono ?_; rintro e w6 ⟨v6, rfl, o6, g6⟩
        obtain ⟨A6, c6', rfl, _, _, _⟩ := o6.open_
        have s6 := g6.size
        have b6 := below_grow b5 g6 (by omega)
        have w0_6 := o5_0.grow g6
        clear o5_0
        go_wp2_with fail
        refine (laws_toIntS _ _ _ _ (r1.far b6)).mono ?_; rintro e w7 ⟨v7, rfl, o7, g7⟩
        obtain ⟨A7, c7', rfl, _, _, _⟩ := o7.open_
        have s7 := g7.size
        have b7 := below_grow b6 g7 (by omega)
        have w0_7 := w0_6.grow g7
        have x6_7 := o6.grow g7
        clear w0_6 o6
        go_wp2_with fail
        refine (laws_toIntS _ _ _ _ (r2.far b7)).mono ?_; rintro e w8 ⟨v8, rfl, o8, g8⟩
        obtain ⟨A8, c8', rfl, _, _, _⟩ := o8.open_
        have s8 := g8.size
        have b8 := below_grow b7 g8 (by omega)
        have w0_8 := w0_7.grow g8
        have x6_8 := x6_7.grow g8
        have x7_8 := o7.grow g8
        clear w0_7 x6_7 o7
        go_wp2_with fail
        refine (impl_InBox _ _ z0 _ _ z1 _ _ z2 _ x6_8.ri x7_8.ri o8.ri).mono ?_; rintro e w9 ⟨u9_0, rfl, o9_0, g9⟩
        rw [← HZ0.out] at o9_0
        obtain ⟨B9_0, c9_0', rfl, _, _, _⟩ := o9_0.open_
        have s9 := g9.size
        have b9 := below_grow b8 g9 (by omega)
        have w0_9 := w0_8.grow g9
        have x6_9 := x6_8.grow g9
        have x7_9 := x7_8.grow g9
        have x8_9 := o8.grow g9
        clear w0_8 x6_8 x7_8 o8
        go_wp2_with fail
        refine (laws_eqIntS_same _ _ _ _ zs0 _ o9_0.ri w0_9.ri).mono ?_; rintro e w10 ⟨rfl, g10⟩
        have s10 := g10.size
        have b10 := below_grow b9 g10 (by omega)
        have w0_10 := w0_9.grow g10
        have x6_10 := x6_9.grow g10
        have x7_10 := x7_9.grow g10
        have x8_10 := x8_9.grow g10
        have g0_10 := o9_0.grow g10
        clear w0_9 x6_9 x7_9 x8_9 o9_0
        go_wp2_with fail
        refine (laws_toItemS _ _ z0 _ (r0.far b10)).mono ?_; rintro e w11 ⟨v11, rfl, o11, g11⟩
        obtain ⟨A11, c11', rfl, _, _, _⟩ := o11.open_
        have s11 := g11.size
        have b11 := below_grow b10 g11 (by omega)
        have w0_11 := w0_10.grow g11
        have x6_11 := x6_10.grow g11
        have x7_11 := x7_10.grow g11
        have x8_11 := x8_10.grow g11
        have g0_11 := g0_10.grow g11
        clear w0_10 x6_10 x7_10 x8_10 g0_10
        go_wp2_with fail
        refine (laws_eqItemS_same _ _ _ _ z0 _ x6_11.ri o11.ri).mono ?_; rintro e w12 ⟨rfl, g12⟩
        have s12 := g12.size
        have b12 := below_grow b11 g12 (by omega)
        have w0_12 := w0_11.grow g12
        have x6_12 := x6_11.grow g12
        have x7_12 := x7_11.grow g12
        have x8_12 := x8_11.grow g12
        have g0_12 := g0_11.grow g12
        clear w0_11 x6_11 x7_11 x8_11 g0_11
        go_wp2_with fail
        refine (laws_toIntS _ _ _ _ (r1.far b12)).mono ?_; rintro e w13 ⟨v13, rfl, o13, g13⟩
        obtain ⟨A13, c13', rfl, _, _, _⟩ := o13.open_
        have s13 := g13.size
        have b13 := below_grow b12 g13 (by omega)
        have w0_13 := w0_12.grow g13
        have x6_13 := x6_12.grow g13
        have x7_13 := x7_12.grow g13
        have x8_13 := x8_12.grow g13
        have g0_13 := g0_12.grow g13
        clear w0_12 x6_12 x7_12 x8_12 g0_12
        go_wp2_with fail
        refine (laws_eqIntS_same _ _ _ _ z1 _ x7_13.ri o13.ri).mono ?_; rintro e w14 ⟨rfl, g14⟩
        have s14 := g14.size
        have b14 := below_grow b13 g14 (by omega)
        have w0_14 := w0_13.grow g14
        have x6_14 := x6_13.grow g14
        have x7_14 := x7_13.grow g14
        have x8_14 := x8_13.grow g14
        have g0_14 := g0_13.grow g14
        clear w0_13 x6_13 x7_13 x8_13 g0_13
        go_wp2_with fail
        refine (laws_toIntS _ _ _ _ (r2.far b14)).mono ?_; rintro e w15 ⟨v15, rfl, o15, g15⟩
        obtain ⟨A15, c15', rfl, _, _, _⟩ := o15.open_
        have s15 := g15.size
        have b15 := below_grow b14 g15 (by omega)
        have w0_15 := w0_14.grow g15
        have x6_15 := x6_14.grow g15
        have x7_15 := x7_14.grow g15
        have x8_15 := x8_14.grow g15
        have g0_15 := g0_14.grow g15
        clear w0_14 x6_14 x7_14 x8_14 g0_14
        go_wp2_with fail
        refine (laws_eqIntS_same _ _ _ _ z2 _ x8_15.ri o15.ri).mono ?_; rintro e w16 ⟨rfl, g16⟩
        have s16 := g16.size
        have b16 := below_grow b15 g16 (by omega)
        have w0_16 := w0_15.grow g16
        have x6_16 := x6_15.grow g16
        have x7_16 := x7_15.grow g16
        have x8_16 := x8_15.grow g16
        have g0_16 := g0_15.grow g16
        clear w0_15 x6_15 x7_15 x8_15 g0_15
        go_wp2_with fail
        have hk17 := endS_bd r0 (k := 1) (by omega)
        refine (laws_markItemS _ _ z0 (1) _ _ _ x6_16 (by omega) (by omega)).mono ?_; rintro e w17 ⟨rfl, _, t17⟩
        clear x6_16
        have s17 := t17.size
        have b17 := below_turn b16 t17 (by omega) (by omega)
        have w0_17 := w0_16.turn t17 (by omega)
        have x7_17 := x7_16.turn t17 (by omega)
        have x8_17 := x8_16.turn t17 (by omega)
        have g0_17 := g0_16.turn t17 (by omega)
        clear w0_16 x7_16 x8_16 g0_16
        go_wp2_with fail
        have hk18 := r1.len
        refine (laws_markIntS _ _ z1 (endS z0 (1)) _ _ _ x7_17 (by omega) (by omega)).mono ?_; rintro e w18 ⟨rfl, _, t18⟩
        clear x7_17
        have s18 := t18.size
        have b18 := below_turn b17 t18 (by omega) (by omega)
        have w0_18 := w0_17.turn t18 (by omega)
        have x8_18 := x8_17.turn t18 (by omega)
        have g0_18 := g0_17.turn t18 (by omega)
        clear w0_17 x8_17 g0_17
        go_wp2_with fail
        have hk19 := r2.len
        refine (laws_markIntS _ _ z2 (endS z0 (1) + z1.length) _ _ _ x8_18 (by omega) (by omega)).mono ?_; rintro e w19 ⟨rfl, _, t19⟩
        clear x8_18
        have s19 := t19.size
        have b19 := below_turn b18 t19 (by omega) (by omega)
        have w0_19 := w0_18.turn t19 (by omega)
        have g0_19 := g0_18.turn t19 (by omega)
        clear w0_18 g0_18
        have hkk : ¬ endS z0 (1) + z1.length + z2.length < 0 := by omega
        go_wp2_with fail
        refine (laws_eqIntS_same _ _ _ _ zs0 _ g0_19.ri w0_19.ri).mono ?_; rintro e w20 ⟨rfl, g20⟩
        have s20 := g20.size
        have b20 := below_grow b19 g20 (by omega)
        have w0_20 := w0_19.grow g20
        have g0_20 := g0_19.grow g20
        clear w0_19 g0_19
        go_wp2_with fail
        have hm21 := g0_20.len
        refine (laws_markIntS _ _ zs0 (1) _ _ _ g0_20 (by omega) (by omega)).mono ?_; rintro e w21 ⟨rfl, m21, t21⟩
        clear g0_20
        have s21 := t21.size
        have b21 := below_turn b20 t21 (by omega) (by omega)
        have w0_21 := w0_20.turn t21 (by omega)
        clear w0_20
        go_wp2_with fail
        refine (laws_heldIntS _ _ zs0.length (1) _ m21.ri (by omega) (by omega)).mono ?_; rintro e w' ⟨rfl, rfl⟩
        go_wp2_with fail
        refine (laws_toItemS _ _ z0 _ (r0.far b21)).mono ?_; rintro e w22 ⟨v22, rfl, o22, g22⟩
        obtain ⟨A22, c22', rfl, _, _, _⟩ := o22.open_
        have s22 := g22.size
        have b22 := below_grow b21 g22 (by omega)
        have w0_22 := w0_21.grow g22
        have m0_22 := m21.grow g22
        clear w0_21 m21
        go_wp2_with fail
        refine (laws_toIntS _ _ _ _ (r1.far b22)).mono ?_; rintro e w23 ⟨v23, rfl, o23, g23⟩
        obtain ⟨A23, c23', rfl, _, _, _⟩ := o23.open_
        have s23 := g23.size
        have b23 := below_grow b22 g23 (by omega)
        have w0_23 := w0_22.grow g23
        have m0_23 := m0_22.grow g23
        have x22_23 := o22.grow g23
        clear w0_22 m0_22 o22
        go_wp2_with fail
        refine (laws_toIntS _ _ _ _ (r2.far b23)).mono ?_; rintro e w24 ⟨v24, rfl, o24, g24⟩
        obtain ⟨A24, c24', rfl, _, _, _⟩ := o24.open_
        have s24 := g24.size
        have b24 := below_grow b23 g24 (by omega)
        have w0_24 := w0_23.grow g24
        have m0_24 := m0_23.grow g24
        have x22_24 := x22_23.grow g24
        have x23_24 := o23.grow g24
        clear w0_23 m0_23 x22_23 o23
        go_wp2_with fail
        refine (impl_InBox _ _ z0 _ _ z1 _ _ z2 _ x22_24.ri x23_24.ri o24.ri).mono ?_; rintro e w25 ⟨u25_0, rfl, o25_0, g25⟩
        rw [← HZ0.out] at o25_0
        obtain ⟨B25_0, c25_0', rfl, _, _, _⟩ := o25_0.open_
        have s25 := g25.size
        have b25 := below_grow b24 g25 (by omega)
        have w0_25 := w0_24.grow g25
        have m0_25 := m0_24.grow g25
        have x22_25 := x22_24.grow g25
        have x23_25 := x23_24.grow g25
        have x24_25 := o24.grow g25
        clear w0_24 m0_24 x22_24 x23_24 o24
        go_wp2_with fail
        refine (laws_eqIntS_same _ _ _ _ zs0 _ o25_0.ri w0_25.ri).mono ?_; rintro e w26 ⟨rfl, g26⟩
        have s26 := g26.size
        have b26 := below_grow b25 g26 (by omega)
        have w0_26 := w0_25.grow g26
        have m0_26 := m0_25.grow g26
        have h0_26 := o25_0.grow g26
        clear w0_25 m0_25 o25_0
        go_wp2_with fail
        refine (laws_heldIntS _ _ zs0.length (1) _ m0_26.ri (by omega) (by omega)).mono ?_; rintro e w' ⟨rfl, rfl⟩
        go_wp2_with fail
        go_ret
        exact ⟨rfl, b26⟩
end Go.Proofs.Ytaocmgafglalnaa
