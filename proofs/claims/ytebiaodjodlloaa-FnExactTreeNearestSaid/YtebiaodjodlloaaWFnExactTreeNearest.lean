/- The walk of the exact law on TreeNearest: it returns true, and writes nothing that was there. -/
import Derived.Test.YtebiaodjodlloaaSMark
import Derived.Test.YtebiaodjodlloaaTreeU
import Derived.Test.YtebiaodjodlloaaHLaw
import Derived.Test.YtebiaodjodlloaaSAid
namespace Go.Proofs.Ytebiaodjodlloaa
set_option linter.unusedVariables false
open Go Go.RowKit

set_option maxHeartbeats 6400000 in
theorem walk_FnExactTreeNearest (a0 : Option Addr) (n0 c0 : Nat) (z0 : List It) (a1 : Int) (a2 : Option Addr) (n2 c2 : Nat) (z2 : List Int) (a3 : Int) (w : World) (h0 : ArgS w a0 n0 c0 z0) (h1 : -9223372036854775808 ≤ a1 ∧ a1 ≤ 9223372036854775807) (h2 : ArgI w a2 n2 c2 z2) (h3 : -9223372036854775808 ≤ a3 ∧ a3 ≤ 9223372036854775807) :
    Calls Try.prog 9 #[.slice a0 n0 c0, .int .i64 a1, .slice a2 n2 c2, .int .i64 a3] w fun e w' => e = .returned (.bool true) ∧ Below w.heap.size w w' := by
  by_cases hn2 : 1048576 < n2
  · go_enter Try.func9, Try.ntmps9
    go_wp2_with fail
    go_ret
    exact ⟨rfl, Below.refl _ _⟩
  · have r2 := h2.ri (by omega)
    obtain rfl := h2.len
    go_enter Try.func9, Try.ntmps9
    go_wp2_with fail
    refine (laws_szItemS _ _ _ z0 1048576 _ h0 (by omega) (by omega)).mono ?_; rintro e w1 ⟨l1, rfl, hz1, g1⟩
    have s1 := g1.size
    have b1 := below_grow (Below.refl w.heap.size w) g1 (by omega)
    rcases hz1 with hz1 | ⟨hz1, hy1, hq1⟩
    · go_wp2_with fail
      go_ret
      exact ⟨rfl, b1⟩
    · have hl1 : l1 ≤ 1048576 := by omega
      have r0 := hq1
      obtain rfl := h0.len
      obtain ⟨zs0, hz0'⟩ : ∃ z, z = seekV z0 a1 z2 a3 := ⟨_, rfl⟩
      have HZ0 := Lib.hid hz0'
      clear hz0'
      clear h0 h2
      go_wp2_with fail
      refine (laws_toItemS _ _ z0 _ (r0.far b1)).mono ?_; rintro e w2 ⟨v2, rfl, o2, g2⟩
      obtain ⟨A2, c2', rfl, _, _, _⟩ := o2.open_
      have s2 := g2.size
      have b2 := below_grow b1 g2 (by omega)
      go_wp2_with fail
      refine (laws_toIntS _ _ _ _ (r2.far b2)).mono ?_; rintro e w3 ⟨v3, rfl, o3, g3⟩
      obtain ⟨A3, c3', rfl, _, _, _⟩ := o3.open_
      have s3 := g3.size
      have b3 := below_grow b2 g3 (by omega)
      have x2_3 := o2.grow g3
      clear o2
      go_wp2_with fail
      refine (spec_TreeNearest _ _ z0 a1 _ _ z2 a3 _ x2_3.ri o3.ri (by assumption) (by assumption)).mono ?_; rintro e w4 ⟨u4_0, rfl, o4_0, g4⟩
      rw [← HZ0.out] at o4_0
      obtain ⟨B4_0, c4_0', rfl, _, _, _⟩ := o4_0.open_
      have s4 := g4.size
      have b4 := below_grow b3 g4 (by omega)
      have x2_4 := x2_3.grow g4
      have x3_4 := o3.grow g4
      clear x2_3 o3
      go_wp2_with fail
      refine (laws_toItemS _ _ z0 _ (r0.far b4)).mono ?_; rintro e w5 ⟨v5, rfl, o5, g5⟩
      obtain ⟨A5, c5', rfl, _, _, _⟩ := o5.open_
      have s5 := g5.size
      have b5 := below_grow b4 g5 (by omega)
      have w0_5 := o4_0.grow g5
      clear o4_0
      go_wp2_with fail
      refine (laws_toIntS _ _ _ _ (r2.far b5)).mono ?_; rintro e w6 ⟨v6, rfl, o6, g6⟩
      obtain ⟨A6, c6', rfl, _, _, _⟩ := o6.open_
      have s6 := g6.size
      have b6 := below_grow b5 g6 (by omega)
      have w0_6 := w0_5.grow g6
      have x5_6 := o5.grow g6
      clear w0_5 o5
      go_wp2_with fail
      refine (impl_TreeNearest _ _ z0 a1 _ _ z2 a3 _ x5_6.ri o6.ri (by assumption) (by assumption)).mono ?_; rintro e w7 ⟨u7_0, rfl, o7_0, g7⟩
      rw [← HZ0.out] at o7_0
      obtain ⟨B7_0, c7_0', rfl, _, _, _⟩ := o7_0.open_
      have s7 := g7.size
      have b7 := below_grow b6 g7 (by omega)
      have w0_7 := w0_6.grow g7
      have x5_7 := x5_6.grow g7
      have x6_7 := o6.grow g7
      clear w0_6 x5_6 o6
      go_wp2_with fail
      refine (laws_eqHitS_same _ _ _ _ zs0 _ o7_0.ri w0_7.ri).mono ?_; rintro e w8 ⟨rfl, g8⟩
      have s8 := g8.size
      have b8 := below_grow b7 g8 (by omega)
      have w0_8 := w0_7.grow g8
      have x5_8 := x5_7.grow g8
      have x6_8 := x6_7.grow g8
      have g0_8 := o7_0.grow g8
      clear w0_7 x5_7 x6_7 o7_0
      go_wp2_with fail
      refine (laws_toItemS _ _ z0 _ (r0.far b8)).mono ?_; rintro e w9 ⟨v9, rfl, o9, g9⟩
      obtain ⟨A9, c9', rfl, _, _, _⟩ := o9.open_
      have s9 := g9.size
      have b9 := below_grow b8 g9 (by omega)
      have w0_9 := w0_8.grow g9
      have x5_9 := x5_8.grow g9
      have x6_9 := x6_8.grow g9
      have g0_9 := g0_8.grow g9
      clear w0_8 x5_8 x6_8 g0_8
      go_wp2_with fail
      refine (laws_eqItemS_same _ _ _ _ z0 _ x5_9.ri o9.ri).mono ?_; rintro e w10 ⟨rfl, g10⟩
      have s10 := g10.size
      have b10 := below_grow b9 g10 (by omega)
      have w0_10 := w0_9.grow g10
      have x5_10 := x5_9.grow g10
      have x6_10 := x6_9.grow g10
      have g0_10 := g0_9.grow g10
      clear w0_9 x5_9 x6_9 g0_9
      go_wp2_with fail
      refine (laws_toIntS _ _ _ _ (r2.far b10)).mono ?_; rintro e w11 ⟨v11, rfl, o11, g11⟩
      obtain ⟨A11, c11', rfl, _, _, _⟩ := o11.open_
      have s11 := g11.size
      have b11 := below_grow b10 g11 (by omega)
      have w0_11 := w0_10.grow g11
      have x5_11 := x5_10.grow g11
      have x6_11 := x6_10.grow g11
      have g0_11 := g0_10.grow g11
      clear w0_10 x5_10 x6_10 g0_10
      go_wp2_with fail
      refine (laws_eqIntS_same _ _ _ _ z2 _ x6_11.ri o11.ri).mono ?_; rintro e w12 ⟨rfl, g12⟩
      have s12 := g12.size
      have b12 := below_grow b11 g12 (by omega)
      have w0_12 := w0_11.grow g12
      have x5_12 := x5_11.grow g12
      have x6_12 := x6_11.grow g12
      have g0_12 := g0_11.grow g12
      clear w0_11 x5_11 x6_11 g0_11
      go_wp2_with fail
      have hk13 := endS_bd r0 (k := 1) (by omega)
      refine (laws_markItemS _ _ z0 (1) _ _ _ x5_12 (by omega) (by omega)).mono ?_; rintro e w13 ⟨rfl, _, t13⟩
      clear x5_12
      have s13 := t13.size
      have b13 := below_turn b12 t13 (by omega) (by omega)
      have w0_13 := w0_12.turn t13 (by omega)
      have x6_13 := x6_12.turn t13 (by omega)
      have g0_13 := g0_12.turn t13 (by omega)
      clear w0_12 x6_12 g0_12
      go_wp2_with fail
      have hk14 := r2.len
      refine (laws_markIntS _ _ z2 (endS z0 (1)) _ _ _ x6_13 (by omega) (by omega)).mono ?_; rintro e w14 ⟨rfl, _, t14⟩
      clear x6_13
      have s14 := t14.size
      have b14 := below_turn b13 t14 (by omega) (by omega)
      have w0_14 := w0_13.turn t14 (by omega)
      have g0_14 := g0_13.turn t14 (by omega)
      clear w0_13 g0_13
      have hkk : ¬ endS z0 (1) + z2.length < 0 := by omega
      go_wp2_with fail
      refine (laws_eqHitS_same _ _ _ _ zs0 _ g0_14.ri w0_14.ri).mono ?_; rintro e w15 ⟨rfl, g15⟩
      have s15 := g15.size
      have b15 := below_grow b14 g15 (by omega)
      have w0_15 := w0_14.grow g15
      have g0_15 := g0_14.grow g15
      clear w0_14 g0_14
      go_wp2_with fail
      have hm16 := g0_15.len
      refine (laws_markHitS _ _ zs0 (1) _ _ _ g0_15 (by omega) (by omega)).mono ?_; rintro e w16 ⟨rfl, m16, t16⟩
      clear g0_15
      have s16 := t16.size
      have b16 := below_turn b15 t16 (by omega) (by omega)
      have w0_16 := w0_15.turn t16 (by omega)
      clear w0_15
      go_wp2_with fail
      refine (laws_heldHitS _ _ zs0.length (1) _ m16.ri (by omega) (by omega)).mono ?_; rintro e w' ⟨rfl, rfl⟩
      go_wp2_with fail
      refine (laws_toItemS _ _ z0 _ (r0.far b16)).mono ?_; rintro e w17 ⟨v17, rfl, o17, g17⟩
      obtain ⟨A17, c17', rfl, _, _, _⟩ := o17.open_
      have s17 := g17.size
      have b17 := below_grow b16 g17 (by omega)
      have w0_17 := w0_16.grow g17
      have m0_17 := m16.grow g17
      clear w0_16 m16
      go_wp2_with fail
      refine (laws_toIntS _ _ _ _ (r2.far b17)).mono ?_; rintro e w18 ⟨v18, rfl, o18, g18⟩
      obtain ⟨A18, c18', rfl, _, _, _⟩ := o18.open_
      have s18 := g18.size
      have b18 := below_grow b17 g18 (by omega)
      have w0_18 := w0_17.grow g18
      have m0_18 := m0_17.grow g18
      have x17_18 := o17.grow g18
      clear w0_17 m0_17 o17
      go_wp2_with fail
      refine (impl_TreeNearest _ _ z0 a1 _ _ z2 a3 _ x17_18.ri o18.ri (by assumption) (by assumption)).mono ?_; rintro e w19 ⟨u19_0, rfl, o19_0, g19⟩
      rw [← HZ0.out] at o19_0
      obtain ⟨B19_0, c19_0', rfl, _, _, _⟩ := o19_0.open_
      have s19 := g19.size
      have b19 := below_grow b18 g19 (by omega)
      have w0_19 := w0_18.grow g19
      have m0_19 := m0_18.grow g19
      have x17_19 := x17_18.grow g19
      have x18_19 := o18.grow g19
      clear w0_18 m0_18 x17_18 o18
      go_wp2_with fail
      refine (laws_eqHitS_same _ _ _ _ zs0 _ o19_0.ri w0_19.ri).mono ?_; rintro e w20 ⟨rfl, g20⟩
      have s20 := g20.size
      have b20 := below_grow b19 g20 (by omega)
      have w0_20 := w0_19.grow g20
      have m0_20 := m0_19.grow g20
      have h0_20 := o19_0.grow g20
      clear w0_19 m0_19 o19_0
      go_wp2_with fail
      refine (laws_heldHitS _ _ zs0.length (1) _ m0_20.ri (by omega) (by omega)).mono ?_; rintro e w' ⟨rfl, rfl⟩
      go_wp2_with fail
      go_ret
      exact ⟨rfl, b20⟩
end Go.Proofs.Ytebiaodjodlloaa
