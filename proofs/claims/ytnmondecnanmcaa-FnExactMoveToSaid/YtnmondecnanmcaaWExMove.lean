/- The walk of the exact law on MoveTo: it returns true, and writes nothing that was there. -/
import Derived.Test.YtnmondecnanmcaaMark
import Derived.Test.YtnmondecnanmcaaMove
import Derived.Test.YtnmondecnanmcaaOpen
namespace Go.Proofs.Ytnmondecnanmcaa
set_option linter.unusedVariables false
open Go Go.RowKit

theorem below_grow {B : Nat} {a b c : World} (h : Below B a b) (k : Grow b c) (hB : B ≤ b.heap.size) : Below B a c := h.trans (Below.mono k hB)
theorem below_turn {B lo hi : Nat} {a b c : World} (h : Below B a b) (k : Turn lo hi b c) (hB : B ≤ b.heap.size) (hl : B ≤ lo) : Below B a c := h.trans (k.below hB hl)
theorem RI.far {a b : World} {A : Option Addr} {xs : List Int} (h : RI a a.heap.size A xs) (hb : Below a.heap.size a b) : RI b b.heap.size A xs := (h.below hb).more hb.size

set_option maxHeartbeats 3200000 in
theorem walk_FnExactMoveTo (a0 : Option Addr) (n0 c0 : Nat) (x0 : List Int) (a1 : Option Addr) (n1 c1 : Nat) (x1 : List Int) (p : Int) (w : World) (h0 : ArgI w a0 n0 c0 x0) (h1 : ArgI w a1 n1 c1 x1) (hp : -9223372036854775808 ≤ p ∧ p ≤ 9223372036854775807) :
    Calls Try.prog 7 #[.slice a0 n0 c0, .slice a1 n1 c1, .int .i64 p] w fun e w' => e = .returned (.bool true) ∧ Below w.heap.size w w' := by
  by_cases hn : n0 ≤ 1048576
  · by_cases hm : n1 ≤ 1048576
    · have r0 := h0.ri (by omega)
      have r1 := h1.ri (by omega)
      obtain rfl := h0.len
      obtain rfl := h1.len
      have e0 := eqB_self x0
      have e1 := eqB_self x1
      obtain ⟨zs, hzs⟩ : ∃ zs, zs = moveV x0 x1 p := ⟨_, rfl⟩
      have hz4 : zs.length ≤ 4 := by rw [hzs]; exact moveV_len
      have HZ := Lib.hid hzs
      have ez := eqB_self zs
      clear hzs h0 h1
      go_enter Try.func7, Try.ntmps7
      go_wp2_with fail
      refine (laws_toIntS _ _ _ _ r0).mono ?_; rintro e w1 ⟨v1, rfl, o1, g1⟩
      obtain ⟨A1, c1, rfl, _, _, q1⟩ := o1.open_
      go_wp2_with fail
      refine (laws_toIntS _ _ _ _ (r1.grow g1)).mono ?_; rintro e w2 ⟨v2, rfl, o2, g2⟩
      obtain ⟨A2, c2, rfl, _, _, q2⟩ := o2.open_
      go_wp2_with fail
      refine (spec_MoveTo _ _ _ _ _ _ _ _ (q1.grow g2) q2).mono ?_; rintro e w3 ⟨vw, rfl, ow, g3⟩
      rw [← HZ.out] at ow
      obtain ⟨Aw, cw, rfl, _, _, _⟩ := ow.open_
      have b3 : Below w.heap.size w w3 := g1.trans (g2.trans g3)
      have s3 := b3.size
      clear o1 o2 q1 q2
      go_wp2_with fail
      refine (laws_toIntS _ _ _ _ (r0.far b3)).mono ?_; rintro e w4 ⟨v4, rfl, ox, g4⟩
      obtain ⟨A4, c4, rfl, _, _, _⟩ := ox.open_
      have s4 := g4.size
      have b4 := below_grow b3 g4 s3
      go_wp2_with fail
      refine (laws_toIntS _ _ _ _ (r1.far b4)).mono ?_; rintro e w5 ⟨v5, rfl, oy, g5⟩
      obtain ⟨A5, c5, rfl, _, _, q5⟩ := oy.open_
      have s5 := g5.size
      have b5 := below_grow b4 g5 (by omega)
      have ox5 := ox.grow g5
      go_wp2_with fail
      refine (impl_MoveTo _ _ x0 x1 _ _ _ _ ox5.ri q5).mono ?_; rintro e w6 ⟨vg, rfl, og, g6⟩
      rw [← HZ.out] at og
      obtain ⟨Ag, cg, rfl, _, _, qg⟩ := og.open_
      have s6 := g6.size
      have b6 := below_grow b5 g6 (by omega)
      have ow6 := ow.grow (g4.trans (g5.trans g6))
      have ox6 := ox5.grow g6
      have oy6 := oy.grow g6
      clear ow ox ox5 oy q5
      go_wp2_with fail
      refine (laws_eqIntS _ _ zs zs _ _ _ og.ri ow6.ri).mono ?_; rintro e w' ⟨rfl, m1, rfl⟩
      have g7 := Grow.drewN w6 m1
      have b7 := below_grow b6 g7 (by omega)
      go_wp2_with fail
      refine (laws_toIntS _ _ _ _ (r0.far b7)).mono ?_; rintro e w8 ⟨v8, rfl, o8, g8⟩
      obtain ⟨A8, c8, rfl, _, _, q8⟩ := o8.open_
      have s8 := g8.size
      go_wp2_with fail
      refine (laws_eqIntS _ _ x0 x0 _ _ _ (ox6.grow (g7.trans g8)).ri q8).mono ?_; rintro e w' ⟨rfl, m2, rfl⟩
      have g9 := g8.trans (Grow.drewN w8 m2)
      have b9 := below_grow b7 g9 (by show w.heap.size ≤ w6.heap.size; omega)
      go_wp2_with fail
      refine (laws_toIntS _ _ _ _ (r1.far b9)).mono ?_; rintro e w10 ⟨v10, rfl, o10, g10⟩
      obtain ⟨A10, c10, rfl, _, _, q10⟩ := o10.open_
      go_wp2_with fail
      refine (laws_eqIntS _ _ x1 x1 _ _ _ (oy6.grow (g7.trans (g9.trans g10))).ri q10).mono ?_; rintro e w' ⟨rfl, m3, rfl⟩
      have g11 : Grow w6 (w10.drewN m3) := g7.trans (g9.trans (g10.trans (Grow.drewN w10 m3)))
      have b11 := below_grow b6 g11 (by omega)
      have s11 := g11.size
      have ow11 := ow6.grow g11
      have ox11 := ox6.grow g11
      have oy11 := oy6.grow g11
      have og11 := og.grow g11
      clear ow6 ox6 oy6 og o8 q8 o10 q10 qg
      obtain ⟨W1, hW1⟩ : ∃ W1, W1 = w10.drewN m3 := ⟨_, rfl⟩
      rw [← hW1] at g11 b11 s11 ow11 ox11 oy11 og11
      have HW1 := Lib.hid hW1
      go_wp2_with fail
      rw [← hW1]
      clear hW1 g7 g8 g9 g10 b7 b9
      refine (laws_markIntS _ _ x0 1 W1 _ _ ox11 (by omega) (by omega)).mono ?_; rintro e w12 ⟨rfl, _, t12⟩
      have s12 := t12.size
      have b12 := below_turn b11 t12 (by omega) (by omega)
      have oy12 := oy11.turn t12 (.inr (Nat.le_refl _))
      have ow12 := ow11.turn t12 (.inl (Nat.le_refl _))
      have og12 := og11.turn t12 (.inr (by omega))
      have l0 := r0.len
      have l1 := r1.len
      clear ow11 ox11 oy11 og11
      go_wp2_with fail
      refine (laws_markIntS _ _ x1 _ w12 _ _ oy12 (by omega) (by omega)).mono ?_; rintro e w13 ⟨rfl, _, t13⟩
      have s13 := t13.size
      have b13 := below_turn b12 t13 (by omega) (by omega)
      have ow13 := ow12.turn t13 (.inl (by omega))
      have og13 := og12.turn t13 (.inr (Nat.le_refl _))
      clear oy12 ow12 og12
      go_wp2_with fail
      refine (laws_eqIntS _ _ zs zs _ _ _ og13.ri ow13.ri).mono ?_; rintro e w' ⟨rfl, m4, rfl⟩
      have g14 := Grow.drewN w13 m4
      have b14 := below_grow b13 g14 (by omega)
      have s14 := g14.size
      have ow14 := ow13.grow g14
      have og14 := og13.grow g14
      clear ow13 og13
      go_wp2_with fail
      refine (laws_markIntS _ _ zs 1 _ _ _ og14 (by omega) (by omega)).mono ?_; rintro e w15 ⟨rfl, og15, t15⟩
      have s15 := t15.size
      have b15 := below_turn b14 t15 (by omega) (by omega)
      have ow15 := ow14.turn t15 (.inl (by omega))
      clear ow14 og14
      go_wp2_with fail
      refine (laws_heldIntS _ _ zs.length 1 w15 og15.ri (by omega) (by omega)).mono ?_; rintro e w' ⟨rfl, rfl⟩
      go_wp2_with fail
      refine (laws_toIntS _ _ _ _ (r0.far b15)).mono ?_; rintro e w16 ⟨v16, rfl, o16, g16⟩
      obtain ⟨A16, c16, rfl, _, _, q16⟩ := o16.open_
      have s16 := g16.size
      have b16 := below_grow b15 g16 (by omega)
      go_wp2_with fail
      refine (laws_toIntS _ _ _ _ (r1.far b16)).mono ?_; rintro e w17 ⟨v17, rfl, o17, g17⟩
      obtain ⟨A17, c17, rfl, _, _, q17⟩ := o17.open_
      have s17 := g17.size
      have b17 := below_grow b16 g17 (by omega)
      go_wp2_with fail
      refine (impl_MoveTo _ _ x0 x1 _ _ _ _ (q16.grow g17) q17).mono ?_; rintro e w18 ⟨v18, rfl, o18, g18⟩
      rw [← HZ.out] at o18
      obtain ⟨A18, c18, rfl, _, _, q18⟩ := o18.open_
      have s18 := g18.size
      have b18 := below_grow b17 g18 (by omega)
      have g158 : Grow w15 w18 := g16.trans (g17.trans g18)
      go_wp2_with fail
      refine (laws_eqIntS _ _ zs zs _ _ _ q18 (ow15.grow g158).ri).mono ?_; rintro e w' ⟨rfl, m5, rfl⟩
      have g19 : Grow w15 (w18.drewN m5) := g158.trans (Grow.drewN w18 m5)
      have og19 := og15.grow g19
      go_wp2_with fail
      refine (laws_heldIntS _ _ zs.length 1 _ og19.ri (by omega) (by omega)).mono ?_; rintro e w' ⟨rfl, rfl⟩
      go_wp2_with fail
      go_ret
      exact ⟨rfl, below_grow b15 g19 (by omega)⟩
    · go_enter Try.func7, Try.ntmps7
      go_wp2_with fail
      go_ret
      exact ⟨rfl, Below.refl _ _⟩
  · go_enter Try.func7, Try.ntmps7
    go_wp2_with fail
    go_ret
    exact ⟨rfl, Below.refl _ _⟩
end Go.Proofs.Ytnmondecnanmcaa
