/- The walk of the exact law on PutItem: it returns true, and writes nothing that was there. -/
import Derived.Test.YtaocmgafglalnaaSMark
import Derived.Test.YtaocmgafglalnaaPut2
import Derived.Test.YtaocmgafglalnaaSAid
namespace Go.Proofs.Ytaocmgafglalnaa
set_option linter.unusedVariables false
open Go Go.RowKit

set_option maxHeartbeats 6400000 in
theorem walk_FnExactPutItem (a0 : Option Addr) (n0 c0 : Nat) (z0 : List It) (k1 : Int) (a1 : Option Addr) (n1 c1 : Nat) (t1 : Int) (z1 : List Int) (w : World) (h0 : ArgS w a0 n0 c0 z0) (h1 : ArgT w k1 a1 n1 c1 t1 z1) :
    Calls Try.prog 18 #[.slice a0 n0 c0, .agg #[.int .i64 k1, .slice a1 n1 c1, .int .i64 t1]] w fun e w' => e = .returned (.bool true) ∧ Below w.heap.size w w' := by
  have bx : Blk (w.alloc (.cells #[.int .i64 k1, .slice a1 n1 c1, .int .i64 t1] 63)) w.heap.size 63 #[.int .i64 k1, .slice a1 n1 c1, .int .i64 t1] := Blk.new _ _ _
  obtain ⟨w0, hw0⟩ : ∃ W, W = w.alloc (.cells #[.int .i64 k1, .slice a1 n1 c1, .int .i64 t1] 63) := ⟨_, rfl⟩
  rw [← hw0] at bx
  have g0 : Grow w w0 := by rw [hw0]; exact (Below.refl _ _).alloc (Nat.le_refl _) _
  have s0 := g0.size
  have bxl := bx.lt
  have H0 := Lib.hid hw0
  clear hw0
  go_enter Try.func18, Try.ntmps18
  obtain ⟨q2_0, q2_1, q2_2, _, _, _⟩ := cells3 bx (Grow.refl _)
  go_wp2_with fail
  clear q2_0 q2_1 q2_2
  rw [← H0.out]
  clear H0
  refine (laws_szItemS _ _ _ z0 1048576 _ (h0.grow g0) (by omega) (by omega)).mono ?_; rintro e w1 ⟨l1, rfl, hz1, g1⟩
  have s1 := g1.size
  have b1 := below_grow (show Below w.heap.size w w0 from g0) g1 (by omega)
  have bx_1 := bx.below g1 bx.lt
  clear bx
  rcases hz1 with hz1 | ⟨hz1, hy1, hq1⟩
  · go_wp2_with fail
    go_ret
    exact ⟨rfl, b1⟩
  · have hl1 : l1 ≤ 1048576 := by omega
    have hS0 := hq1
    obtain ⟨q4_0, q4_1, q4_2, _, _, _⟩ := cells3 bx_1 (Grow.refl _)
    obtain ⟨q5_0, q5_1, q5_2, _, _, _⟩ := cells3 bx_1 (Grow.refl _)
    go_wp2_with fail
    clear q5_0 q5_1 q5_2
    clear q4_0 q4_1 q4_2
    refine (laws_szItem k1 a1 n1 c1 t1 l1 _ (Nat.le_trans h1.arg.cap h1.arg.top) (by omega) (by omega)).mono ?_; rintro e w3 ⟨l3, rfl, hz3, g3⟩
    have s3 := g3.size
    have b3 := below_grow b1 g3 (by omega)
    have bx_3 := bx_1.below g3 bx_1.lt
    clear bx_1
    rcases hz3 with hz3 | ⟨hz3, hy3, hq3⟩
    · go_wp2_with fail
      go_ret
      exact ⟨rfl, b3⟩
    · have hl3 : l3 ≤ 1048576 := by omega
      have r1 := h1.arg.ri (show n1 ≤ 2000000 by omega)
      obtain rfl := h1.arg.len
      have f1_0 := h1.fk
      have f1_1 := h1.ft
      obtain ⟨y1, hy1'⟩ : ∃ y : It, y = ⟨k1, z1, t1⟩ := ⟨_, rfl⟩
      have r0 : RS w w.heap.size a0 z0 := h0.rs_short hS0
      obtain rfl := h0.len
      obtain rfl : k1 = y1.key := by rw [hy1']
      obtain rfl : z1 = y1.pt := by rw [hy1']
      obtain rfl : t1 = y1.tags := by rw [hy1']
      clear hy1'
      obtain ⟨zs0, hz0'⟩ : ∃ z, z = putV z0 y1 := ⟨_, rfl⟩
      have HZ0 := Lib.hid hz0'
      clear hz0'
      clear h0 h1
      obtain ⟨q6_0, q6_1, q6_2, _, _, _⟩ := cells3 bx_3 (Grow.refl _)
      go_wp2_with fail
      clear q6_0 q6_1 q6_2
      obtain ⟨Q0_0, Q0_1, Q0_2, _, _, _⟩ := cells3 bx_3 (Grow.refl _)
      go_region_held3 (fun w' => w'.cell? ⟨w.heap.size, 0, none⟩ = some (.int .i64 y1.key) ∧ w'.cell? ⟨w.heap.size, 1, none⟩ = some (.slice a1 y1.pt.length c1) ∧ w'.cell? ⟨w.heap.size, 2, none⟩ = some (.int .i64 y1.tags))
        (first | assumption | (exact ⟨Q0_0, Q0_1, Q0_2⟩) | go_keep)
        (first
          | ((go_at_call 42; have g7 := Grow.drew w3; have s7 := g7.size; have b7 := below_grow b3 g7 (by omega); have bx_7 := bx_3.below g7 bx_3.lt; clear bx_3; refine (laws_toItemS _ _ z0 _ (r0.far b7)).mono ?_; rintro e w8 ⟨v8, rfl, o8, g8⟩; obtain ⟨A8, c8', rfl, _, _, _⟩ := o8.open_; have s8 := g8.size; have b8 := below_grow b7 g8 (by omega); have bx_8 := bx_7.below g8 bx_7.lt; clear bx_7; obtain ⟨Q0_0, Q0_1, Q0_2, _, _, _⟩ := cells3 bx_8 (Grow.refl _)))
          | ((go_at_call 68; refine (laws_toItem y1 _ _ _ (r1.far b8)).mono ?_; rintro e w9 ⟨v9, rfl, o9, g9⟩; obtain ⟨A9, c9', rfl, _, _, _⟩ := o9.open_; have s9 := g9.size; have b9 := below_grow b8 g9 (by omega); have bx_9 := bx_8.below g9 bx_8.lt; have x8_9 := o8.grow g9; clear bx_8 o8; obtain ⟨Q0_0, Q0_1, Q0_2, _, _, _⟩ := cells3 bx_9 (Grow.refl _)))
          | ((go_at_call 62; refine (spec_PutItem _ _ z0 y1 _ _ _ x8_9.ri o9.ri f1_0 f1_1).mono ?_; rintro e w10 ⟨u10_0, rfl, o10_0, g10⟩; rw [← HZ0.out] at o10_0; obtain ⟨B10_0, c10_0', rfl, _, _, _⟩ := o10_0.open_; have s10 := g10.size; have b10 := below_grow b9 g10 (by omega); have bx_10 := bx_9.below g10 bx_9.lt; have x8_10 := x8_9.grow g10; have x9_10 := o9.grow g10; clear bx_9 x8_9 o9; obtain ⟨Q0_0, Q0_1, Q0_2, _, _, _⟩ := cells3 bx_10 (Grow.refl _))))
      obtain ⟨q11_0, q11_1, q11_2, _, _, _⟩ := cells3 bx_10 (Grow.refl _)
      go_wp2_with fail
      clear q11_0 q11_1 q11_2
      refine (laws_toItemS _ _ z0 _ (r0.far b10)).mono ?_; rintro e w12 ⟨v12, rfl, o12, g12⟩
      obtain ⟨A12, c12', rfl, _, _, _⟩ := o12.open_
      have s12 := g12.size
      have b12 := below_grow b10 g12 (by omega)
      have bx_12 := bx_10.below g12 bx_10.lt
      have w0_12 := o10_0.grow g12
      clear bx_10 o10_0
      obtain ⟨q13_0, q13_1, q13_2, _, _, _⟩ := cells3 bx_12 (Grow.refl _)
      go_wp2_with fail
      clear q13_0 q13_1 q13_2
      refine (laws_toItem y1 _ _ _ (r1.far b12)).mono ?_; rintro e w14 ⟨v14, rfl, o14, g14⟩
      obtain ⟨A14, c14', rfl, _, _, _⟩ := o14.open_
      have s14 := g14.size
      have b14 := below_grow b12 g14 (by omega)
      have bx_14 := bx_12.below g14 bx_12.lt
      have w0_14 := w0_12.grow g14
      have x12_14 := o12.grow g14
      clear bx_12 w0_12 o12
      obtain ⟨w15, hw15⟩ : ∃ W, W = w14.alloc (.cells #[.int .i64 y1.key, .slice A14 y1.pt.length c14', .int .i64 y1.tags] 53) := ⟨_, rfl⟩
      have g15 : Grow w14 w15 := by rw [hw15]; exact (Below.refl _ _).alloc (Nat.le_refl _) _
      have k15 : Blk w15 w14.heap.size 53 #[.int .i64 y1.key, .slice A14 y1.pt.length c14', .int .i64 y1.tags] := by rw [hw15]; exact Blk.new _ _ _
      have e15 : w15.heap.size ≤ w14.heap.size + 1 := by rw [hw15]; simp
      have e15' := k15.lt
      have H15 := Lib.hid hw15
      clear hw15
      have s15 := g15.size
      have b15 := below_grow b14 g15 (by omega)
      have bx_15 := bx_14.below g15 bx_14.lt
      have w0_15 := w0_14.grow g15
      have x12_15 := x12_14.grow g15
      have x14_15 := o14.grow g15
      clear bx_14 w0_14 x12_14 o14
      have kk16 := bx_15
      rw [H15.out] at kk16
      obtain ⟨q16_0, q16_1, q16_2, _, _, _⟩ := cells3 kk16 (Grow.refl _)
      have kk17 := k15
      rw [H15.out] at kk17
      obtain ⟨q17_0, q17_1, q17_2, _, _, _⟩ := cells3 kk17 (Grow.refl _)
      go_wp2_with fail
      rw [← H15.out]
      clear H15
      clear kk16 q16_0 q16_1 q16_2 kk17 q17_0 q17_1 q17_2
      refine (impl_PutItem _ _ z0 y1 _ _ _ x12_15.ri x14_15.ri f1_0 f1_1).mono ?_; rintro e w18 ⟨u18_0, rfl, o18_0, g18⟩
      rw [← HZ0.out] at o18_0
      obtain ⟨B18_0, c18_0', rfl, _, _, _⟩ := o18_0.open_
      have s18 := g18.size
      have b18 := below_grow b15 g18 (by omega)
      have bx_18 := bx_15.below g18 bx_15.lt
      have w0_18 := w0_15.grow g18
      have x12_18 := x12_15.grow g18
      have x14_18 := x14_15.grow g18
      have barg1_18 := k15.below g18 k15.lt
      clear bx_15 w0_15 x12_15 x14_15 k15
      obtain ⟨q19_0, q19_1, q19_2, _, _, _⟩ := cells3 bx_18 (Grow.refl _)
      obtain ⟨q20_0, q20_1, q20_2, _, _, _⟩ := cells3 barg1_18 (Grow.refl _)
      go_wp2_with fail
      clear q19_0 q19_1 q19_2 q20_0 q20_1 q20_2
      refine (laws_eqItemS_same _ _ _ _ zs0 _ o18_0.ri w0_18.ri).mono ?_; rintro e w21 ⟨rfl, g21⟩
      have s21 := g21.size
      have b21 := below_grow b18 g21 (by omega)
      have bx_21 := bx_18.below g21 bx_18.lt
      have w0_21 := w0_18.grow g21
      have x12_21 := x12_18.grow g21
      have x14_21 := x14_18.grow g21
      have barg1_21 := barg1_18.below g21 barg1_18.lt
      have g0_21 := o18_0.grow g21
      clear bx_18 w0_18 x12_18 x14_18 barg1_18 o18_0
      obtain ⟨q22_0, q22_1, q22_2, _, _, _⟩ := cells3 bx_21 (Grow.refl _)
      obtain ⟨q23_0, q23_1, q23_2, _, _, _⟩ := cells3 barg1_21 (Grow.refl _)
      go_wp2_with fail
      clear q22_0 q22_1 q22_2 q23_0 q23_1 q23_2
      refine (laws_toItemS _ _ z0 _ (r0.far b21)).mono ?_; rintro e w24 ⟨v24, rfl, o24, g24⟩
      obtain ⟨A24, c24', rfl, _, _, _⟩ := o24.open_
      have s24 := g24.size
      have b24 := below_grow b21 g24 (by omega)
      have bx_24 := bx_21.below g24 bx_21.lt
      have w0_24 := w0_21.grow g24
      have x12_24 := x12_21.grow g24
      have x14_24 := x14_21.grow g24
      have barg1_24 := barg1_21.below g24 barg1_21.lt
      have g0_24 := g0_21.grow g24
      clear bx_21 w0_21 x12_21 x14_21 barg1_21 g0_21
      obtain ⟨q25_0, q25_1, q25_2, _, _, _⟩ := cells3 bx_24 (Grow.refl _)
      obtain ⟨q26_0, q26_1, q26_2, _, _, _⟩ := cells3 barg1_24 (Grow.refl _)
      go_wp2_with fail
      clear q25_0 q25_1 q25_2 q26_0 q26_1 q26_2
      refine (laws_eqItemS_same _ _ _ _ z0 _ x12_24.ri o24.ri).mono ?_; rintro e w27 ⟨rfl, g27⟩
      have s27 := g27.size
      have b27 := below_grow b24 g27 (by omega)
      have bx_27 := bx_24.below g27 bx_24.lt
      have w0_27 := w0_24.grow g27
      have x12_27 := x12_24.grow g27
      have x14_27 := x14_24.grow g27
      have barg1_27 := barg1_24.below g27 barg1_24.lt
      have g0_27 := g0_24.grow g27
      clear bx_24 w0_24 x12_24 x14_24 barg1_24 g0_24
      obtain ⟨q28_0, q28_1, q28_2, _, _, _⟩ := cells3 bx_27 (Grow.refl _)
      obtain ⟨q29_0, q29_1, q29_2, _, _, _⟩ := cells3 barg1_27 (Grow.refl _)
      go_wp2_with fail
      clear q28_0 q28_1 q28_2 q29_0 q29_1 q29_2
      obtain ⟨Q0_0, Q0_1, Q0_2, _, _, _⟩ := cells3 bx_27 (Grow.refl _)
      obtain ⟨Q1_0, Q1_1, Q1_2, _, _, _⟩ := cells3 barg1_27 (Grow.refl _)
      go_region_held3 (fun w' => w'.cell? ⟨w.heap.size, 0, none⟩ = some (.int .i64 y1.key) ∧ w'.cell? ⟨w.heap.size, 1, none⟩ = some (.slice a1 y1.pt.length c1) ∧ w'.cell? ⟨w.heap.size, 2, none⟩ = some (.int .i64 y1.tags) ∧ w'.cell? ⟨w14.heap.size, 0, none⟩ = some (.int .i64 y1.key) ∧ w'.cell? ⟨w14.heap.size, 1, none⟩ = some (.slice A14 y1.pt.length c14') ∧ w'.cell? ⟨w14.heap.size, 2, none⟩ = some (.int .i64 y1.tags))
        (first | assumption | (exact ⟨Q0_0, Q0_1, Q0_2, Q1_0, Q1_1, Q1_2⟩) | go_keep)
        (first
          | ((go_at_call 68; have g30 := Grow.drew w27; have s30 := g30.size; have b30 := below_grow b27 g30 (by omega); have bx_30 := bx_27.below g30 bx_27.lt; have w0_30 := w0_27.grow g30; have x12_30 := x12_27.grow g30; have x14_30 := x14_27.grow g30; have barg1_30 := barg1_27.below g30 barg1_27.lt; have g0_30 := g0_27.grow g30; clear bx_27 w0_27 x12_27 x14_27 barg1_27 g0_27; refine (laws_toItem y1 _ _ _ (r1.far b30)).mono ?_; rintro e w31 ⟨v31, rfl, o31, g31⟩; obtain ⟨A31, c31', rfl, _, _, _⟩ := o31.open_; have s31 := g31.size; have b31 := below_grow b30 g31 (by omega); have bx_31 := bx_30.below g31 bx_30.lt; have w0_31 := w0_30.grow g31; have x12_31 := x12_30.grow g31; have x14_31 := x14_30.grow g31; have barg1_31 := barg1_30.below g31 barg1_30.lt; have g0_31 := g0_30.grow g31; clear bx_30 w0_30 x12_30 x14_30 barg1_30 g0_30; obtain ⟨Q0_0, Q0_1, Q0_2, _, _, _⟩ := cells3 bx_31 (Grow.refl _); obtain ⟨Q1_0, Q1_1, Q1_2, _, _, _⟩ := cells3 barg1_31 (Grow.refl _)))
          | ((go_at_call 57; refine (laws_eqItem_same y1 _ _ _ _ _ x14_31.ri o31.ri).mono ?_; rintro e w32 ⟨rfl, g32⟩; have s32 := g32.size; have b32 := below_grow b31 g32 (by omega); have bx_32 := bx_31.below g32 bx_31.lt; have w0_32 := w0_31.grow g32; have x12_32 := x12_31.grow g32; have x14_32 := x14_31.grow g32; have barg1_32 := barg1_31.below g32 barg1_31.lt; have g0_32 := g0_31.grow g32; clear bx_31 w0_31 x12_31 x14_31 barg1_31 g0_31; obtain ⟨Q0_0, Q0_1, Q0_2, _, _, _⟩ := cells3 bx_32 (Grow.refl _); obtain ⟨Q1_0, Q1_1, Q1_2, _, _, _⟩ := cells3 barg1_32 (Grow.refl _))))
      obtain ⟨q33_0, q33_1, q33_2, _, _, _⟩ := cells3 bx_32 (Grow.refl _)
      obtain ⟨q34_0, q34_1, q34_2, _, _, _⟩ := cells3 barg1_32 (Grow.refl _)
      go_wp2_with fail
      clear q33_0 q33_1 q33_2 q34_0 q34_1 q34_2
      have hk35 := endS_bd r0 (k := 1) (by omega)
      refine (laws_markItemS _ _ z0 (1) _ _ _ x12_32 (by omega) (by omega)).mono ?_; rintro e w35 ⟨rfl, _, t35⟩
      clear x12_32
      have s35 := t35.size
      have b35 := below_turn b32 t35 (by omega) (by omega)
      have bx_35 := bx_32.turn t35 (by omega)
      have w0_35 := w0_32.turn t35 (by omega)
      have x14_35 := x14_32.turn t35 (by omega)
      have barg1_35 := barg1_32.turn t35 (by omega)
      have g0_35 := g0_32.turn t35 (by omega)
      clear bx_32 w0_32 x14_32 barg1_32 g0_32
      obtain ⟨q36_0, q36_1, q36_2, _, _, _⟩ := cells3 bx_35 (Grow.refl _)
      obtain ⟨q37_0, q37_1, q37_2, _, _, _⟩ := cells3 barg1_35 (Grow.refl _)
      go_wp2_with fail
      clear q36_0 q36_1 q36_2 q37_0 q37_1 q37_2
      have hk38 := r1.len
      refine (laws_markItem y1 _ _ (endS z0 (1)) _ _ _ x14_35 (by omega) (by omega) (by omega)).mono ?_; rintro e w38 ⟨rfl, _, t38⟩
      clear x14_35
      have s38 := t38.size
      have b38 := below_turn b35 t38 (by omega) (by omega)
      have bx_38 := bx_35.turn t38 (by omega)
      have w0_38 := w0_35.turn t38 (by omega)
      have barg1_38 := barg1_35.turn t38 (by omega)
      have g0_38 := g0_35.turn t38 (by omega)
      clear bx_35 w0_35 barg1_35 g0_35
      have hkk : ¬ endS z0 (1) + y1.pt.length < 0 := by omega
      obtain ⟨q39_0, q39_1, q39_2, _, _, _⟩ := cells3 bx_38 (Grow.refl _)
      obtain ⟨q40_0, q40_1, q40_2, _, _, _⟩ := cells3 barg1_38 (Grow.refl _)
      go_wp2_with fail
      clear q39_0 q39_1 q39_2 q40_0 q40_1 q40_2
      refine (laws_eqItemS_same _ _ _ _ zs0 _ g0_38.ri w0_38.ri).mono ?_; rintro e w41 ⟨rfl, g41⟩
      have s41 := g41.size
      have b41 := below_grow b38 g41 (by omega)
      have bx_41 := bx_38.below g41 bx_38.lt
      have w0_41 := w0_38.grow g41
      have barg1_41 := barg1_38.below g41 barg1_38.lt
      have g0_41 := g0_38.grow g41
      clear bx_38 w0_38 barg1_38 g0_38
      obtain ⟨q42_0, q42_1, q42_2, _, _, _⟩ := cells3 bx_41 (Grow.refl _)
      obtain ⟨q43_0, q43_1, q43_2, _, _, _⟩ := cells3 barg1_41 (Grow.refl _)
      go_wp2_with fail
      clear q42_0 q42_1 q42_2 q43_0 q43_1 q43_2
      have hm44 := endS_bd g0_41.ri (k := 1) (by omega)
      have hn44 := g0_41.len
      have hs44 := g0_41.ri.short
      refine (laws_markItemS _ _ zs0 (1) _ _ _ g0_41 (by omega) (by omega)).mono ?_; rintro e w44 ⟨rfl, m44, t44⟩
      clear g0_41
      have s44 := t44.size
      have b44 := below_turn b41 t44 (by omega) (by omega)
      have bx_44 := bx_41.turn t44 (by omega)
      have w0_44 := w0_41.turn t44 (by omega)
      have barg1_44 := barg1_41.turn t44 (by omega)
      clear bx_41 w0_41 barg1_41
      obtain ⟨q45_0, q45_1, q45_2, _, _, _⟩ := cells3 bx_44 (Grow.refl _)
      obtain ⟨q46_0, q46_1, q46_2, _, _, _⟩ := cells3 barg1_44 (Grow.refl _)
      go_wp2_with fail
      clear q45_0 q45_1 q45_2 q46_0 q46_1 q46_2
      refine (laws_heldItemS _ _ zs0 (1) _ m44.ri hn44 hs44 (by omega) (by omega)).mono ?_; rintro e w' ⟨rfl, rfl⟩
      obtain ⟨q47_0, q47_1, q47_2, _, _, _⟩ := cells3 bx_44 (Grow.refl _)
      obtain ⟨q48_0, q48_1, q48_2, _, _, _⟩ := cells3 barg1_44 (Grow.refl _)
      go_wp2_with fail
      clear q47_0 q47_1 q47_2 q48_0 q48_1 q48_2
      obtain ⟨Q0_0, Q0_1, Q0_2, _, _, _⟩ := cells3 bx_44 (Grow.refl _)
      go_region_held3 (fun w' => w'.cell? ⟨w.heap.size, 0, none⟩ = some (.int .i64 y1.key) ∧ w'.cell? ⟨w.heap.size, 1, none⟩ = some (.slice a1 y1.pt.length c1) ∧ w'.cell? ⟨w.heap.size, 2, none⟩ = some (.int .i64 y1.tags))
        (first | assumption | (exact ⟨Q0_0, Q0_1, Q0_2⟩) | go_keep)
        (first
          | ((go_at_call 42; have g49 := Grow.drew w44; have s49 := g49.size; have b49 := below_grow b44 g49 (by omega); have bx_49 := bx_44.below g49 bx_44.lt; have w0_49 := w0_44.grow g49; have barg1_49 := barg1_44.below g49 barg1_44.lt; have m0_49 := m44.grow g49; clear bx_44 w0_44 barg1_44 m44; refine (laws_toItemS _ _ z0 _ (r0.far b49)).mono ?_; rintro e w50 ⟨v50, rfl, o50, g50⟩; obtain ⟨A50, c50', rfl, _, _, _⟩ := o50.open_; have s50 := g50.size; have b50 := below_grow b49 g50 (by omega); have bx_50 := bx_49.below g50 bx_49.lt; have w0_50 := w0_49.grow g50; have barg1_50 := barg1_49.below g50 barg1_49.lt; have m0_50 := m0_49.grow g50; clear bx_49 w0_49 barg1_49 m0_49; obtain ⟨Q0_0, Q0_1, Q0_2, _, _, _⟩ := cells3 bx_50 (Grow.refl _)))
          | ((go_at_call 68; refine (laws_toItem y1 _ _ _ (r1.far b50)).mono ?_; rintro e w51 ⟨v51, rfl, o51, g51⟩; obtain ⟨A51, c51', rfl, _, _, _⟩ := o51.open_; have s51 := g51.size; have b51 := below_grow b50 g51 (by omega); have bx_51 := bx_50.below g51 bx_50.lt; have w0_51 := w0_50.grow g51; have barg1_51 := barg1_50.below g51 barg1_50.lt; have m0_51 := m0_50.grow g51; have x50_51 := o50.grow g51; clear bx_50 w0_50 barg1_50 m0_50 o50; obtain ⟨Q0_0, Q0_1, Q0_2, _, _, _⟩ := cells3 bx_51 (Grow.refl _)))
          | ((go_at_call 61; refine (impl_PutItem _ _ z0 y1 _ _ _ x50_51.ri o51.ri f1_0 f1_1).mono ?_; rintro e w52 ⟨u52_0, rfl, o52_0, g52⟩; rw [← HZ0.out] at o52_0; obtain ⟨B52_0, c52_0', rfl, _, _, _⟩ := o52_0.open_; have s52 := g52.size; have b52 := below_grow b51 g52 (by omega); have bx_52 := bx_51.below g52 bx_51.lt; have w0_52 := w0_51.grow g52; have barg1_52 := barg1_51.below g52 barg1_51.lt; have m0_52 := m0_51.grow g52; have x50_52 := x50_51.grow g52; have x51_52 := o51.grow g52; clear bx_51 w0_51 barg1_51 m0_51 x50_51 o51; obtain ⟨Q0_0, Q0_1, Q0_2, _, _, _⟩ := cells3 bx_52 (Grow.refl _))))
      obtain ⟨q53_0, q53_1, q53_2, _, _, _⟩ := cells3 bx_52 (Grow.refl _)
      obtain ⟨q54_0, q54_1, q54_2, _, _, _⟩ := cells3 barg1_52 (Grow.refl _)
      go_wp2_with fail
      clear q53_0 q53_1 q53_2 q54_0 q54_1 q54_2
      refine (laws_eqItemS_same _ _ _ _ zs0 _ o52_0.ri w0_52.ri).mono ?_; rintro e w55 ⟨rfl, g55⟩
      have s55 := g55.size
      have b55 := below_grow b52 g55 (by omega)
      have bx_55 := bx_52.below g55 bx_52.lt
      have w0_55 := w0_52.grow g55
      have barg1_55 := barg1_52.below g55 barg1_52.lt
      have m0_55 := m0_52.grow g55
      have h0_55 := o52_0.grow g55
      clear bx_52 w0_52 barg1_52 m0_52 o52_0
      obtain ⟨q56_0, q56_1, q56_2, _, _, _⟩ := cells3 bx_55 (Grow.refl _)
      obtain ⟨q57_0, q57_1, q57_2, _, _, _⟩ := cells3 barg1_55 (Grow.refl _)
      go_wp2_with fail
      clear q56_0 q56_1 q56_2 q57_0 q57_1 q57_2
      refine (laws_heldItemS _ _ zs0 (1) _ m0_55.ri hn44 hs44 (by omega) (by omega)).mono ?_; rintro e w' ⟨rfl, rfl⟩
      go_wp2_with fail
      go_ret
      exact ⟨rfl, b55⟩
end Go.Proofs.Ytaocmgafglalnaa
