/- The walk of the exact law on GetItem: it returns true, and writes nothing that was there. -/
import Derived.Test.YtaocmgafglalnaaSMark
import Derived.Test.YtaocmgafglalnaaGet
import Derived.Test.YtaocmgafglalnaaSAid
namespace Go.Proofs.Ytaocmgafglalnaa
set_option linter.unusedVariables false
open Go Go.RowKit

set_option maxHeartbeats 6400000 in
theorem walk_FnExactGetItem (a0 : Option Addr) (n0 c0 : Nat) (z0 : List It) (a1 : Int) (w : World) (h0 : ArgS w a0 n0 c0 z0) (h1 : -9223372036854775808 ≤ a1 ∧ a1 ≤ 9223372036854775807) :
    Calls Try.prog 13 #[.slice a0 n0 c0, .int .i64 a1] w fun e w' => e = .returned (.bool true) ∧ Below w.heap.size w w' := by
  go_enter Try.func13, Try.ntmps13
  go_wp2_with fail
  refine (laws_szItemS _ _ _ z0 1048576 _ h0 (by omega) (by omega)).mono ?_; rintro e w1 ⟨l1, rfl, hz1, g1⟩
  have s1 := g1.size
  have b1 := below_grow (Below.refl w.heap.size w) g1 (by omega)
  rcases hz1 with hz1 | ⟨hz1, hy1, hq1⟩
  · go_wp2_with fail
    go_ret
    exact ⟨rfl, b1⟩
  · have hl1 : l1 ≤ 1048576 := by omega
    have r0 := hq1
    obtain rfl := h0.len
    obtain ⟨zs0, hz0'⟩ : ∃ z, z = getV z0 a1 := ⟨_, rfl⟩
    have HZ0 := Lib.hid hz0'
    clear hz0'
    clear h0
    go_wp2_with fail
    refine (laws_toItemS _ _ z0 _ (r0.far b1)).mono ?_; rintro e w2 ⟨v2, rfl, o2, g2⟩
    obtain ⟨A2, c2', rfl, _, _, _⟩ := o2.open_
    have s2 := g2.size
    have b2 := below_grow b1 g2 (by omega)
    go_wp2_with fail
    refine (spec_GetItem _ _ z0 a1 _ o2.ri).mono ?_; rintro e w3 ⟨u3_0, rfl, o3_0, g3⟩
    rw [← HZ0.out] at o3_0 ⊢
    obtain ⟨B3_0, c3_0', rfl, _, _, _⟩ := o3_0.open_
    have s3 := g3.size
    have b3 := below_grow b2 g3 (by omega)
    have x2_3 := o2.grow g3
    clear o2
    obtain ⟨w4, hw4⟩ : ∃ W, W = w3.alloc (.cells #[.int .i64 zs0.key, .slice B3_0 zs0.pt.length c3_0', .int .i64 zs0.tags] 53) := ⟨_, rfl⟩
    have g4 : Grow w3 w4 := by rw [hw4]; exact (Below.refl _ _).alloc (Nat.le_refl _) _
    have k4 : Blk w4 w3.heap.size 53 #[.int .i64 zs0.key, .slice B3_0 zs0.pt.length c3_0', .int .i64 zs0.tags] := by rw [hw4]; exact Blk.new _ _ _
    have e4 : w4.heap.size ≤ w3.heap.size + 1 := by rw [hw4]; simp
    have e4' := k4.lt
    have H4 := Lib.hid hw4
    clear hw4
    have s4 := g4.size
    have b4 := below_grow b3 g4 (by omega)
    have x2_4 := x2_3.grow g4
    have w0_4 := o3_0.grow g4
    clear x2_3 o3_0
    have kk5 := k4
    rw [H4.out] at kk5
    obtain ⟨q5_0, q5_1, q5_2, _, _, _⟩ := cells3 kk5 (Grow.refl _)
    go_wp2_with fail
    rw [← H4.out]
    clear H4
    clear kk5 q5_0 q5_1 q5_2
    refine (laws_toItemS _ _ z0 _ (r0.far b4)).mono ?_; rintro e w6 ⟨v6, rfl, o6, g6⟩
    obtain ⟨A6, c6', rfl, _, _, _⟩ := o6.open_
    have s6 := g6.size
    have b6 := below_grow b4 g6 (by omega)
    have w0_6 := w0_4.grow g6
    have bw0_6 := k4.below g6 k4.lt
    clear w0_4 k4
    obtain ⟨q7_0, q7_1, q7_2, _, _, _⟩ := cells3 bw0_6 (Grow.refl _)
    go_wp2_with fail
    clear q7_0 q7_1 q7_2
    refine (impl_GetItem _ _ z0 a1 _ o6.ri).mono ?_; rintro e w8 ⟨u8_0, rfl, o8_0, g8⟩
    rw [← HZ0.out] at o8_0 ⊢
    obtain ⟨B8_0, c8_0', rfl, _, _, _⟩ := o8_0.open_
    have s8 := g8.size
    have b8 := below_grow b6 g8 (by omega)
    have w0_8 := w0_6.grow g8
    have bw0_8 := bw0_6.below g8 bw0_6.lt
    have x6_8 := o6.grow g8
    clear w0_6 bw0_6 o6
    obtain ⟨w9, hw9⟩ : ∃ W, W = w8.alloc (.cells #[.int .i64 zs0.key, .slice B8_0 zs0.pt.length c8_0', .int .i64 zs0.tags] 53) := ⟨_, rfl⟩
    have g9 : Grow w8 w9 := by rw [hw9]; exact (Below.refl _ _).alloc (Nat.le_refl _) _
    have k9 : Blk w9 w8.heap.size 53 #[.int .i64 zs0.key, .slice B8_0 zs0.pt.length c8_0', .int .i64 zs0.tags] := by rw [hw9]; exact Blk.new _ _ _
    have e9 : w9.heap.size ≤ w8.heap.size + 1 := by rw [hw9]; simp
    have e9' := k9.lt
    have H9 := Lib.hid hw9
    clear hw9
    have s9 := g9.size
    have b9 := below_grow b8 g9 (by omega)
    have w0_9 := w0_8.grow g9
    have bw0_9 := bw0_8.below g9 bw0_8.lt
    have x6_9 := x6_8.grow g9
    have g0_9 := o8_0.grow g9
    clear w0_8 bw0_8 x6_8 o8_0
    have kk10 := bw0_9
    rw [H9.out] at kk10
    obtain ⟨q10_0, q10_1, q10_2, _, _, _⟩ := cells3 kk10 (Grow.refl _)
    have kk11 := k9
    rw [H9.out] at kk11
    obtain ⟨q11_0, q11_1, q11_2, _, _, _⟩ := cells3 kk11 (Grow.refl _)
    go_wp2_with fail
    rw [← H9.out]
    clear H9
    clear kk10 q10_0 q10_1 q10_2 kk11 q11_0 q11_1 q11_2
    refine (laws_eqItem_same zs0 _ _ _ _ _ g0_9.ri w0_9.ri).mono ?_; rintro e w12 ⟨rfl, g12⟩
    have s12 := g12.size
    have b12 := below_grow b9 g12 (by omega)
    have w0_12 := w0_9.grow g12
    have bw0_12 := bw0_9.below g12 bw0_9.lt
    have x6_12 := x6_9.grow g12
    have g0_12 := g0_9.grow g12
    have bg0_12 := k9.below g12 k9.lt
    clear w0_9 bw0_9 x6_9 g0_9 k9
    obtain ⟨q13_0, q13_1, q13_2, _, _, _⟩ := cells3 bw0_12 (Grow.refl _)
    obtain ⟨q14_0, q14_1, q14_2, _, _, _⟩ := cells3 bg0_12 (Grow.refl _)
    go_wp2_with fail
    clear q13_0 q13_1 q13_2 q14_0 q14_1 q14_2
    refine (laws_toItemS _ _ z0 _ (r0.far b12)).mono ?_; rintro e w15 ⟨v15, rfl, o15, g15⟩
    obtain ⟨A15, c15', rfl, _, _, _⟩ := o15.open_
    have s15 := g15.size
    have b15 := below_grow b12 g15 (by omega)
    have w0_15 := w0_12.grow g15
    have bw0_15 := bw0_12.below g15 bw0_12.lt
    have x6_15 := x6_12.grow g15
    have g0_15 := g0_12.grow g15
    have bg0_15 := bg0_12.below g15 bg0_12.lt
    clear w0_12 bw0_12 x6_12 g0_12 bg0_12
    obtain ⟨q16_0, q16_1, q16_2, _, _, _⟩ := cells3 bw0_15 (Grow.refl _)
    obtain ⟨q17_0, q17_1, q17_2, _, _, _⟩ := cells3 bg0_15 (Grow.refl _)
    go_wp2_with fail
    clear q16_0 q16_1 q16_2 q17_0 q17_1 q17_2
    refine (laws_eqItemS_same _ _ _ _ z0 _ x6_15.ri o15.ri).mono ?_; rintro e w18 ⟨rfl, g18⟩
    have s18 := g18.size
    have b18 := below_grow b15 g18 (by omega)
    have w0_18 := w0_15.grow g18
    have bw0_18 := bw0_15.below g18 bw0_15.lt
    have x6_18 := x6_15.grow g18
    have g0_18 := g0_15.grow g18
    have bg0_18 := bg0_15.below g18 bg0_15.lt
    clear w0_15 bw0_15 x6_15 g0_15 bg0_15
    obtain ⟨q19_0, q19_1, q19_2, _, _, _⟩ := cells3 bw0_18 (Grow.refl _)
    obtain ⟨q20_0, q20_1, q20_2, _, _, _⟩ := cells3 bg0_18 (Grow.refl _)
    go_wp2_with fail
    clear q19_0 q19_1 q19_2 q20_0 q20_1 q20_2
    have hk21 := endS_bd r0 (k := 1) (by omega)
    refine (laws_markItemS _ _ z0 (1) _ _ _ x6_18 (by omega) (by omega)).mono ?_; rintro e w21 ⟨rfl, _, t21⟩
    clear x6_18
    have s21 := t21.size
    have b21 := below_turn b18 t21 (by omega) (by omega)
    have w0_21 := w0_18.turn t21 (by omega)
    have bw0_21 := bw0_18.turn t21 (by omega)
    have g0_21 := g0_18.turn t21 (by omega)
    have bg0_21 := bg0_18.turn t21 (by omega)
    clear w0_18 bw0_18 g0_18 bg0_18
    have hkk : ¬ endS z0 (1) < 0 := by omega
    obtain ⟨q22_0, q22_1, q22_2, _, _, _⟩ := cells3 bw0_21 (Grow.refl _)
    obtain ⟨q23_0, q23_1, q23_2, _, _, _⟩ := cells3 bg0_21 (Grow.refl _)
    go_wp2_with fail
    clear q22_0 q22_1 q22_2 q23_0 q23_1 q23_2
    refine (laws_eqItem_same zs0 _ _ _ _ _ g0_21.ri w0_21.ri).mono ?_; rintro e w24 ⟨rfl, g24⟩
    have s24 := g24.size
    have b24 := below_grow b21 g24 (by omega)
    have w0_24 := w0_21.grow g24
    have bw0_24 := bw0_21.below g24 bw0_21.lt
    have g0_24 := g0_21.grow g24
    have bg0_24 := bg0_21.below g24 bg0_21.lt
    clear w0_21 bw0_21 g0_21 bg0_21
    obtain ⟨q25_0, q25_1, q25_2, _, _, _⟩ := cells3 bw0_24 (Grow.refl _)
    obtain ⟨q26_0, q26_1, q26_2, _, _, _⟩ := cells3 bg0_24 (Grow.refl _)
    go_wp2_with fail
    clear q25_0 q25_1 q25_2 q26_0 q26_1 q26_2
    have hm27 := g0_24.len
    refine (laws_markItem zs0 _ _ (1) _ _ _ g0_24 (by omega) (by omega) (by omega)).mono ?_; rintro e w27 ⟨rfl, m27, t27⟩
    clear g0_24
    have s27 := t27.size
    have b27 := below_turn b24 t27 (by omega) (by omega)
    have w0_27 := w0_24.turn t27 (by omega)
    have bw0_27 := bw0_24.turn t27 (by omega)
    have bg0_27 := bg0_24.turn t27 (by omega)
    clear w0_24 bw0_24 bg0_24
    obtain ⟨q28_0, q28_1, q28_2, _, _, _⟩ := cells3 bw0_27 (Grow.refl _)
    obtain ⟨q29_0, q29_1, q29_2, _, _, _⟩ := cells3 bg0_27 (Grow.refl _)
    go_wp2_with fail
    clear q28_0 q28_1 q28_2 q29_0 q29_1 q29_2
    refine (laws_heldItem _ _ _ _ zs0.pt.length (1) _ m27.ri (by omega) (by omega)).mono ?_; rintro e w30 ⟨rfl, g30⟩
    have s30 := g30.size
    have b30 := below_grow b27 g30 (by omega)
    have w0_30 := w0_27.grow g30
    have bw0_30 := bw0_27.below g30 bw0_27.lt
    have bg0_30 := bg0_27.below g30 bg0_27.lt
    have m0_30 := m27.grow g30
    clear w0_27 bw0_27 bg0_27 m27
    obtain ⟨q31_0, q31_1, q31_2, _, _, _⟩ := cells3 bw0_30 (Grow.refl _)
    obtain ⟨q32_0, q32_1, q32_2, _, _, _⟩ := cells3 bg0_30 (Grow.refl _)
    go_wp2_with fail
    clear q31_0 q31_1 q31_2 q32_0 q32_1 q32_2
    refine (laws_toItemS _ _ z0 _ (r0.far b30)).mono ?_; rintro e w33 ⟨v33, rfl, o33, g33⟩
    obtain ⟨A33, c33', rfl, _, _, _⟩ := o33.open_
    have s33 := g33.size
    have b33 := below_grow b30 g33 (by omega)
    have w0_33 := w0_30.grow g33
    have bw0_33 := bw0_30.below g33 bw0_30.lt
    have bg0_33 := bg0_30.below g33 bg0_30.lt
    have m0_33 := m0_30.grow g33
    clear w0_30 bw0_30 bg0_30 m0_30
    obtain ⟨q34_0, q34_1, q34_2, _, _, _⟩ := cells3 bw0_33 (Grow.refl _)
    obtain ⟨q35_0, q35_1, q35_2, _, _, _⟩ := cells3 bg0_33 (Grow.refl _)
    go_wp2_with fail
    clear q34_0 q34_1 q34_2 q35_0 q35_1 q35_2
    refine (impl_GetItem _ _ z0 a1 _ o33.ri).mono ?_; rintro e w36 ⟨u36_0, rfl, o36_0, g36⟩
    rw [← HZ0.out] at o36_0 ⊢
    obtain ⟨B36_0, c36_0', rfl, _, _, _⟩ := o36_0.open_
    have s36 := g36.size
    have b36 := below_grow b33 g36 (by omega)
    have w0_36 := w0_33.grow g36
    have bw0_36 := bw0_33.below g36 bw0_33.lt
    have bg0_36 := bg0_33.below g36 bg0_33.lt
    have m0_36 := m0_33.grow g36
    have x33_36 := o33.grow g36
    clear w0_33 bw0_33 bg0_33 m0_33 o33
    obtain ⟨w37, hw37⟩ : ∃ W, W = w36.alloc (.cells #[.int .i64 zs0.key, .slice B36_0 zs0.pt.length c36_0', .int .i64 zs0.tags] 53) := ⟨_, rfl⟩
    have g37 : Grow w36 w37 := by rw [hw37]; exact (Below.refl _ _).alloc (Nat.le_refl _) _
    have k37 : Blk w37 w36.heap.size 53 #[.int .i64 zs0.key, .slice B36_0 zs0.pt.length c36_0', .int .i64 zs0.tags] := by rw [hw37]; exact Blk.new _ _ _
    have e37 : w37.heap.size ≤ w36.heap.size + 1 := by rw [hw37]; simp
    have e37' := k37.lt
    have H37 := Lib.hid hw37
    clear hw37
    have s37 := g37.size
    have b37 := below_grow b36 g37 (by omega)
    have w0_37 := w0_36.grow g37
    have bw0_37 := bw0_36.below g37 bw0_36.lt
    have bg0_37 := bg0_36.below g37 bg0_36.lt
    have m0_37 := m0_36.grow g37
    have x33_37 := x33_36.grow g37
    have h0_37 := o36_0.grow g37
    clear w0_36 bw0_36 bg0_36 m0_36 x33_36 o36_0
    have kk38 := bw0_37
    rw [H37.out] at kk38
    obtain ⟨q38_0, q38_1, q38_2, _, _, _⟩ := cells3 kk38 (Grow.refl _)
    have kk39 := bg0_37
    rw [H37.out] at kk39
    obtain ⟨q39_0, q39_1, q39_2, _, _, _⟩ := cells3 kk39 (Grow.refl _)
    have kk40 := k37
    rw [H37.out] at kk40
    obtain ⟨q40_0, q40_1, q40_2, _, _, _⟩ := cells3 kk40 (Grow.refl _)
    go_wp2_with fail
    rw [← H37.out]
    clear H37
    clear kk38 q38_0 q38_1 q38_2 kk39 q39_0 q39_1 q39_2 kk40 q40_0 q40_1 q40_2
    refine (laws_eqItem_same zs0 _ _ _ _ _ h0_37.ri w0_37.ri).mono ?_; rintro e w41 ⟨rfl, g41⟩
    have s41 := g41.size
    have b41 := below_grow b37 g41 (by omega)
    have w0_41 := w0_37.grow g41
    have bw0_41 := bw0_37.below g41 bw0_37.lt
    have bg0_41 := bg0_37.below g41 bg0_37.lt
    have m0_41 := m0_37.grow g41
    have h0_41 := h0_37.grow g41
    have bh0_41 := k37.below g41 k37.lt
    clear w0_37 bw0_37 bg0_37 m0_37 h0_37 k37
    obtain ⟨q42_0, q42_1, q42_2, _, _, _⟩ := cells3 bw0_41 (Grow.refl _)
    obtain ⟨q43_0, q43_1, q43_2, _, _, _⟩ := cells3 bg0_41 (Grow.refl _)
    obtain ⟨q44_0, q44_1, q44_2, _, _, _⟩ := cells3 bh0_41 (Grow.refl _)
    go_wp2_with fail
    clear q42_0 q42_1 q42_2 q43_0 q43_1 q43_2 q44_0 q44_1 q44_2
    refine (laws_heldItem _ _ _ _ zs0.pt.length (1) _ m0_41.ri (by omega) (by omega)).mono ?_; rintro e w45 ⟨rfl, g45⟩
    have s45 := g45.size
    have b45 := below_grow b41 g45 (by omega)
    have w0_45 := w0_41.grow g45
    have bw0_45 := bw0_41.below g45 bw0_41.lt
    have bg0_45 := bg0_41.below g45 bg0_41.lt
    have m0_45 := m0_41.grow g45
    have h0_45 := h0_41.grow g45
    have bh0_45 := bh0_41.below g45 bh0_41.lt
    clear w0_41 bw0_41 bg0_41 m0_41 h0_41 bh0_41
    go_wp2_with fail
    go_ret
    exact ⟨rfl, b45⟩
end Go.Proofs.Ytaocmgafglalnaa
