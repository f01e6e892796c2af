/- The walks of the laws on products: each returns true, and writes nothing that was there. -/
import Derived.Test.YtnmondecnanmcaaDraw
import Derived.Test.YtnmondecnanmcaaPlainV
import Derived.Test.YtnmondecnanmcaaMove
namespace Go.Proofs.Ytnmondecnanmcaa
set_option linter.unusedVariables false
open Go Go.RowKit

theorem dotV_bd (a b : List Int) : -40000 ≤ dotV a b ∧ dotV a b ≤ 40000 := by
  unfold dotV
  split
  · rename_i h
    simp only [Bool.and_eq_true] at h
    exact dotL_bd h.1 h.2
  · omega

set_option maxHeartbeats 800000 in
theorem walk_FnExactDotOf (a0 : Option Addr) (n0 c0 : Nat) (x0 : List Int) (a1 : Option Addr) (n1 c1 : Nat) (x1 : List Int) (w : World) (h0 : ArgI w a0 n0 c0 x0) (h1 : ArgI w a1 n1 c1 x1) :
    Calls Try.prog 5 #[.slice a0 n0 c0, .slice a1 n1 c1] w fun e w' => e = .returned (.bool true) ∧ Below w.heap.size w w' := by
  by_cases hn : n0 ≤ 1048576
  · by_cases hm : n1 ≤ 1048576
    · have r0 := h0.ri (by omega)
      have r1 := h1.ri (by omega)
      obtain rfl := h0.len
      obtain rfl := h1.len
      have e0 := eqB_self x0
      have e1 := eqB_self x1
      go_enter Try.func5, Try.ntmps5
      go_wp2_with fail
      refine (laws_toIntS _ _ _ _ r0).mono ?_; rintro e w1 ⟨v1, rfl, o1, g1⟩
      obtain ⟨A1, c1, rfl, _, _, q1⟩ := o1.open_
      go_wp2_with fail
      refine (laws_toIntS _ _ _ _ (r1.grow g1)).mono ?_; rintro e w2 ⟨v2, rfl, o2, g2⟩
      obtain ⟨A2, c2, rfl, _, _, q2⟩ := o2.open_
      go_wp2_with fail
      refine (spec_DotOf _ _ _ _ _ _ _ (q1.grow g2) q2).mono ?_; rintro e w' ⟨rfl, n, rfl⟩
      have g3 := g1.trans (g2.trans (Grow.drewN w2 n))
      go_wp2_with fail
      refine (laws_toIntS _ _ _ _ (r0.grow g3)).mono ?_; rintro e w3 ⟨v3, rfl, o3, g4⟩
      obtain ⟨A3, c3, rfl, _, _, q3⟩ := o3.open_
      go_wp2_with fail
      refine (laws_toIntS _ _ _ _ (r1.grow (g3.trans g4))).mono ?_; rintro e w4 ⟨v4, rfl, o4, g5⟩
      obtain ⟨A4, c4, rfl, _, _, q4⟩ := o4.open_
      have q3' := q3.grow g5
      go_wp2_with fail
      refine (impl_DotOf _ _ _ _ _ _ _ q3' q4).mono ?_; rintro e w' ⟨rfl, rfl⟩
      have g6 := g3.trans (g4.trans g5)
      go_wp2_with fail
      refine (laws_toIntS _ _ _ _ (r0.grow g6)).mono ?_; rintro e w5 ⟨v5, rfl, o5, g7⟩
      obtain ⟨A5, c5, rfl, _, _, q5⟩ := o5.open_
      go_wp2_with fail
      refine (laws_eqIntS _ _ _ _ _ _ _ (q3'.grow g7) q5).mono ?_; rintro e w' ⟨rfl, m, rfl⟩
      have g8 := g7.trans (Grow.drewN w5 m)
      go_wp2_with fail
      refine (laws_toIntS _ _ _ _ (r1.grow (g6.trans g8))).mono ?_; rintro e w6 ⟨v6, rfl, o6, g9⟩
      obtain ⟨A6, c6, rfl, _, _, q6⟩ := o6.open_
      go_wp2_with fail
      refine (laws_eqIntS _ _ _ _ _ _ _ (q4.grow (g8.trans g9)) q6).mono ?_; rintro e w' ⟨rfl, m2, rfl⟩
      go_wp2_with fail
      go_ret
      exact ⟨rfl, g6.trans (g8.trans (g9.trans (Grow.drewN _ _)))⟩
    · go_enter Try.func5, Try.ntmps5
      go_wp2_with fail
      go_ret
      exact ⟨rfl, Below.refl _ _⟩
  · go_enter Try.func5, Try.ntmps5
    go_wp2_with fail
    go_ret
    exact ⟨rfl, Below.refl _ _⟩

set_option maxHeartbeats 800000 in
theorem walk_FnDotOf (a0 : Option Addr) (n0 c0 : Nat) (x0 : List Int) (w : World) (h0 : ArgB w a0 n0 c0 x0) :
    Calls Try.prog 13 #[.slice a0 n0 c0] w fun e w' => e = .returned (.bool true) ∧ Below w.heap.size w w' := by
  by_cases hn : n0 ≤ 1048576
  · go_enter Try.func13, Try.ntmps13
    go_wp2_with fail
    refine (spec_DrawDotOf _ _ _ _ _ h0).mono ?_
    rintro e w1 ⟨v, u, xs, ys, rfl, d1, d2, g1⟩
    obtain ⟨A1, c1, rfl, _, _, q1⟩ := d1.vec.open_
    obtain ⟨A2, c2, rfl, _, _, q2⟩ := d2.vec.open_
    clear d1 d2 h0
    go_wp2_with fail
    refine (impl_DotOf _ _ _ _ _ _ _ q1 q2).mono ?_; rintro e w' ⟨rfl, rfl⟩
    go_wp2_with fail
    refine (spec_DotOf _ _ _ _ _ _ _ q1 q2).mono ?_; rintro e w' ⟨rfl, m, rfl⟩
    have p1 := q1.drewN m
    have p2 := q2.drewN m
    have g2 : Grow w (w1.drewN m) := g1.trans (Grow.drewN _ _)
    by_cases hx : vecB xs 4 = true
    · by_cases hy : vecB ys 4 = true
      · have hz : (dotV ys xs == dotV xs ys) = true := by rw [dotV_comm]; simp
        have b1 := dotV_bd xs xs
        have b2 := dotV_bd ys ys
        have b3 := dotV_bd xs ys
        have hd : (distV 3 xs ys == dotV xs xs + dotV ys ys - 2 * dotV xs ys) = true := by
          rw [distV_of (by decide) hx hy, dotV_of hx hx, dotV_of hy hy, dotV_of hx hy, dist_sq]; simp
        obtain ⟨b11, b12⟩ := b1
        obtain ⟨b21, b22⟩ := b2
        obtain ⟨b31, b32⟩ := b3
        go_wp2_with fail
        refine (impl_DotOf _ _ _ _ _ _ _ p1 p1).mono ?_; rintro e w' ⟨rfl, rfl⟩
        go_wp2_with fail
        refine (impl_DotOf _ _ _ _ _ _ _ p2 p2).mono ?_; rintro e w' ⟨rfl, rfl⟩
        go_wp2_with fail
        refine (impl_DotOf _ _ _ _ _ _ _ p2 p1).mono ?_; rintro e w' ⟨rfl, rfl⟩
        go_wp2_with fail
        refine (impl_Distance _ _ _ _ _ _ _ _ p1 p2).mono ?_; rintro e w' ⟨rfl, m2, rfl⟩
        go_wp2_with fail
        go_ret
        exact ⟨rfl, g2.trans (Grow.alike rfl rfl rfl rfl)⟩
      · have hy' : vecB ys 4 = false := by simpa using hy
        go_wp2_with fail
        go_ret
        exact ⟨rfl, g2⟩
    · have hx' : vecB xs 4 = false := by simpa using hx
      go_wp2_with fail
      go_ret
      exact ⟨rfl, g2⟩
  · go_enter Try.func13, Try.ntmps13
    go_wp2_with fail
    go_ret
    exact ⟨rfl, Below.refl _ _⟩

set_option maxHeartbeats 800000 in
theorem walk_FnDotOfBound (a0 : Option Addr) (n0 c0 : Nat) (x0 : List Int) (w : World) (h0 : ArgB w a0 n0 c0 x0) :
    Calls Try.prog 9 #[.slice a0 n0 c0] w fun e w' => e = .returned (.bool true) ∧ Below w.heap.size w w' := by
  by_cases hn : n0 ≤ 1048576
  · go_enter Try.func9, Try.ntmps9
    go_wp2_with fail
    refine (spec_DrawDotOf _ _ _ _ _ h0).mono ?_
    rintro e w1 ⟨v, u, xs, ys, rfl, d1, d2, g1⟩
    obtain ⟨A1, c1, rfl, _, _, q1⟩ := d1.vec.open_
    obtain ⟨A2, c2, rfl, _, _, q2⟩ := d2.vec.open_
    clear d1 d2 h0
    go_wp2_with fail
    refine (impl_DotOf _ _ _ _ _ _ _ q1 q2).mono ?_; rintro e w' ⟨rfl, rfl⟩
    go_wp2_with fail
    refine (spec_DotOf _ _ _ _ _ _ _ q1 q2).mono ?_; rintro e w' ⟨rfl, m, rfl⟩
    have p1 := q1.drewN m
    have p2 := q2.drewN m
    have g2 : Grow w (w1.drewN m) := g1.trans (Grow.drewN _ _)
    by_cases hx : vecB xs 4 = true
    · by_cases hy : vecB ys 4 = true
      · have hc : dotV xs ys * dotV xs ys ≤ dotV xs xs * dotV ys ys := by
          rw [dotV_of hx hx, dotV_of hy hy, dotV_of hx hy]; exact dot_cauchy xs ys
        have h00 : 0 ≤ dotV xs xs := by rw [dotV_of hx hx]; exact dot_self_nonneg xs
        have h01 : 0 ≤ dotV ys ys := by rw [dotV_of hy hy]; exact dot_self_nonneg ys
        obtain ⟨b11, b12⟩ := dotV_bd xs xs
        obtain ⟨b21, b22⟩ := dotV_bd ys ys
        have hm1 : 0 ≤ dotV xs ys * dotV xs ys := sq_nonneg _
        have hm2 : dotV xs xs * dotV ys ys ≤ 40000 * 40000 := Int.mul_le_mul b12 b22 h01 (by omega)
        go_wp2_with fail
        refine (impl_DotOf _ _ _ _ _ _ _ p1 p1).mono ?_; rintro e w' ⟨rfl, rfl⟩
        go_wp2_with fail
        refine (impl_DotOf _ _ _ _ _ _ _ p2 p2).mono ?_; rintro e w' ⟨rfl, rfl⟩
        go_wp2_with fail
        go_ret
        exact ⟨rfl, g2⟩
      · have hy' : vecB ys 4 = false := by simpa using hy
        go_wp2_with fail
        go_ret
        exact ⟨rfl, g2⟩
    · have hx' : vecB xs 4 = false := by simpa using hx
      go_wp2_with fail
      go_ret
      exact ⟨rfl, g2⟩
  · go_enter Try.func9, Try.ntmps9
    go_wp2_with fail
    go_ret
    exact ⟨rfl, Below.refl _ _⟩

theorem neg_step {ys : List Int} {k : Nat} {y : Int} (h : ys[k]? = some y) : (ys.take (k + 1)).map (fun x => -x) = (ys.take k).map (fun x => -x) ++ [-y] := by
  rw [take_step h, List.map_append]; rfl

set_option maxHeartbeats 1600000 in
theorem walk_FnDotOfZero (a0 : Option Addr) (n0 c0 : Nat) (x0 : List Int) (w : World) (h0 : ArgB w a0 n0 c0 x0) :
    Calls Try.prog 10 #[.slice a0 n0 c0] w fun e w' => e = .returned (.bool true) ∧ Below w.heap.size w w' := by
  by_cases hn : n0 ≤ 1048576
  · go_enter Try.func10, Try.ntmps10
    go_wp2_with fail
    refine (spec_DrawDotOf _ _ _ _ _ h0).mono ?_
    rintro e w1 ⟨v, u, xs, ys, rfl, d1, d2, g1⟩
    obtain ⟨A1, c1, rfl, _, _, q1⟩ := d1.vec.open_
    obtain ⟨A2, c2, rfl, _, _, q2⟩ := d2.vec.open_
    have hsm := d2.small
    clear d1 d2 h0
    go_wp2_with fail
    refine (impl_DotOf _ _ _ _ _ _ _ q1 q2).mono ?_; rintro e w' ⟨rfl, rfl⟩
    go_wp2_with fail
    refine (spec_DotOf _ _ _ _ _ _ _ q1 q2).mono ?_; rintro e w' ⟨rfl, m, rfl⟩
    have p1 := q1.drewN m
    have p2 := q2.drewN m
    have g2 : Grow w (w1.drewN m) := g1.trans (Grow.drewN _ _)
    by_cases hx : vecB xs 4 = true
    · by_cases hy : vecB ys 4 = true
      · have HX := Lib.hid hx
        have HY := Lib.hid hy
        have hl4 : ys.length ≤ 4 := Nat.le_of_eq (vecB_four hy)
        have hl5 : 4 ≤ ys.length := Nat.le_of_eq (vecB_four hy).symm
        go_wp2_with fail
        clear hx hy
        go_loopw [9, 10] (fun v i wr => ∃ k : Nat, k ≤ ys.length ∧ i = .int .i64 k ∧ wr.ownsRow w1.heap.size 3 1 v ((ys.take k).map fun x => -x).length (((ys.take k).map fun x => -x).map (Value.int .i64)) ∧ Below w1.heap.size w1 wr) (fun _ i _ => ys.length - (intOf i).toNat)
        case atStart => exact ⟨0, Nat.zero_le _, rfl, World.ownsRow_lit (w1.drewN m) #[] 0 (Nat.le_refl _) (by unfold maxLen; omega) rfl, (below_drewN (Below.refl _ _) m).alloc (Nat.le_refl _) _⟩
        case round =>
          obtain ⟨k, hk, rfl, hown, hb⟩ := hrel
          by_cases hlt : k < ys.length
          · obtain ⟨ad, y, rfl, _, hc, hf1, hf2, hky⟩ := (q2.below hb).at_ hlt
            obtain ⟨s1, s2⟩ := hsm.2 y (List.mem_of_getElem? hky.out)
            have hB := hb.size
            have hlen : ((ys.take k).map fun x => -x).length ≤ 2000000 := by simp; omega
            go_wp2_with (at_builtin; refine wpList_pushI rfl _ _ rfl rfl rfl hown hb hB hlen ?_; intro v2 w2 hown2 hb2)
            rw [← neg_step hky.out] at hown2
            go_roundw
            case rel => exact ⟨k + 1, by omega, by go_num, hown2, hb2⟩
            case measure => simp [intOf]; omega
          · obtain rfl : k = ys.length := by omega
            rw [List.take_length] at hown
            have o3 : OwnI wr w1.heap.size wr.heap.size u9 (ys.map fun x => -x) := OwnI.mk' hown (fun x hx => by
              obtain ⟨y, hy, rfl⟩ := List.mem_map.1 hx
              have := hsm.2 y hy; omega) (by simp; omega)
            have hvn : vecB (ys.map fun x => -x) 4 = true := by rw [vecB_neg]; exact HY.out
            have gw : Grow w1 wr := hb
            clear hown hb
            have hvz : vecB (List.replicate 4 0) 4 = true := vecB_zero
            have z1 : dotV xs (List.replicate 4 0) = 0 := by rw [dotV_of HX.out hvz]; exact dot_zero xs
            have z2 : dotV xs (ys.map fun x => -x) = -dotV xs ys := by rw [dotV_of HX.out hvn, dotV_of HX.out HY.out]; exact dot_neg xs ys (vecB_four HY.out)
            obtain ⟨b31, b32⟩ := dotV_bd xs ys
            have hX := HX.out
            obtain ⟨zs, o3, hvn, z2⟩ : ∃ zs, OwnI wr w1.heap.size wr.heap.size u9 zs ∧ vecB zs 4 = true ∧ dotV xs zs = -dotV xs ys := ⟨_, o3, hvn, z2⟩
            obtain ⟨A5, c5, rfl, _, _, q5⟩ := o3.open_
            go_wp2_with (at_make; refine wpList_zeros rfl _ _ rfl 4 rfl rfl (by omega) ?_; intro w3 o4 g4)
            refine (impl_DotOf _ _ xs (List.replicate 4 0) _ _ _ ((q1.grow gw).grow g4) o4.ri).mono ?_; rintro e w' ⟨rfl, rfl⟩
            go_wp2_with fail
            refine (impl_DotOf _ _ xs zs _ _ _ ((q1.grow gw).grow g4) (q5.grow g4)).mono ?_; rintro e w' ⟨rfl, rfl⟩
            go_wp2_with fail
            go_ret
            exact ⟨rfl, g1.trans (gw.trans g4)⟩
      · have hy' : vecB ys 4 = false := by simpa using hy
        go_wp2_with fail
        go_ret
        exact ⟨rfl, g2⟩
    · have hx' : vecB xs 4 = false := by simpa using hx
      go_wp2_with fail
      go_ret
      exact ⟨rfl, g2⟩
  · go_enter Try.func10, Try.ntmps10
    go_wp2_with fail
    go_ret
    exact ⟨rfl, Below.refl _ _⟩
end Go.Proofs.Ytnmondecnanmcaa
