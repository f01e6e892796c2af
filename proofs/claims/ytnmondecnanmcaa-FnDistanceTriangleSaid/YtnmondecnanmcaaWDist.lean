/- The walks of the laws on distances: each returns true, and writes nothing that was there. -/
import Derived.Test.YtnmondecnanmcaaDraw
import Derived.Test.YtnmondecnanmcaaPlainV
import Derived.Test.YtnmondecnanmcaaMove
namespace Go.Proofs.Ytnmondecnanmcaa
set_option linter.unusedVariables false
open Go Go.RowKit

set_option maxHeartbeats 800000 in
theorem walk_FnExactDistance (k0 : Int) (a0 : Option Addr) (n0 c0 : Nat) (x0 : List Int) (a1 : Option Addr) (n1 c1 : Nat) (x1 : List Int) (w : World) (hk : -9223372036854775808 ≤ k0 ∧ k0 ≤ 9223372036854775807) (h0 : ArgI w a0 n0 c0 x0) (h1 : ArgI w a1 n1 c1 x1) :
    Calls Try.prog 8 #[.int .i64 k0, .slice a0 n0 c0, .slice a1 n1 c1] w fun e w' => e = .returned (.bool true) ∧ Below w.heap.size w w' := by
  by_cases hn : n0 ≤ 1048576
  · by_cases hm : n1 ≤ 1048576
    · have r0 := h0.ri (by omega)
      have r1 := h1.ri (by omega)
      obtain rfl := h0.len
      obtain rfl := h1.len
      have e0 := eqB_self x0
      have e1 := eqB_self x1
      go_enter Try.func8, Try.ntmps8
      go_wp2_with fail
      refine (laws_toIntS _ _ _ _ r0).mono ?_; rintro e w1 ⟨v1, rfl, o1, g1⟩
      obtain ⟨A1, c1, rfl, _, _, q1⟩ := o1.open_
      go_wp2_with fail
      refine (laws_toIntS _ _ _ _ (r1.grow g1)).mono ?_; rintro e w2 ⟨v2, rfl, o2, g2⟩
      obtain ⟨A2, c2, rfl, _, _, q2⟩ := o2.open_
      go_wp2_with fail
      refine (spec_Distance _ _ _ _ _ _ _ _ (q1.grow g2) q2).mono ?_; rintro e w' ⟨rfl, n, rfl⟩
      have g3 := g1.trans (g2.trans (Grow.drewN w2 n))
      go_wp2_with fail
      refine (laws_toIntS _ _ _ _ (r0.grow g3)).mono ?_; rintro e w3 ⟨v3, rfl, o3, g4⟩
      obtain ⟨A3, c3, rfl, _, _, q3⟩ := o3.open_
      go_wp2_with fail
      refine (laws_toIntS _ _ _ _ (r1.grow (g3.trans g4))).mono ?_; rintro e w4 ⟨v4, rfl, o4, g5⟩
      obtain ⟨A4, c4, rfl, _, _, q4⟩ := o4.open_
      have q3' := q3.grow g5
      go_wp2_with fail
      refine (impl_Distance _ _ _ _ _ _ _ _ q3' q4).mono ?_; rintro e w' ⟨rfl, m0, rfl⟩
      have g6 := g3.trans (g4.trans (g5.trans (Grow.drewN w4 m0)))
      have q3'' := q3'.drewN m0
      have q4' := q4.drewN m0
      go_wp2_with fail
      refine (laws_toIntS _ _ _ _ (r0.grow g6)).mono ?_; rintro e w5 ⟨v5, rfl, o5, g7⟩
      obtain ⟨A5, c5, rfl, _, _, q5⟩ := o5.open_
      go_wp2_with fail
      refine (laws_eqIntS _ _ _ _ _ _ _ (RI.grow q3'' g7) q5).mono ?_; rintro e w' ⟨rfl, m, rfl⟩
      have g8 := g7.trans (Grow.drewN w5 m)
      go_wp2_with fail
      refine (laws_toIntS _ _ _ _ (r1.grow (g6.trans g8))).mono ?_; rintro e w6 ⟨v6, rfl, o6, g9⟩
      obtain ⟨A6, c6, rfl, _, _, q6⟩ := o6.open_
      go_wp2_with fail
      refine (laws_eqIntS _ _ _ _ _ _ _ (RI.grow q4' (g8.trans g9)) q6).mono ?_; rintro e w' ⟨rfl, m2, rfl⟩
      go_wp2_with fail
      go_ret
      exact ⟨rfl, g6.trans (g8.trans (g9.trans (Grow.drewN _ _)))⟩
    · go_enter Try.func8, Try.ntmps8
      go_wp2_with fail
      go_ret
      exact ⟨rfl, Below.refl _ _⟩
  · go_enter Try.func8, Try.ntmps8
    go_wp2_with fail
    go_ret
    exact ⟨rfl, Below.refl _ _⟩

theorem eqB_iff {xs ys : List Int} : eqB xs ys = true ↔ xs = ys := by simp [eqB]

set_option maxHeartbeats 800000 in
theorem walk_FnDistance (a0 : Option Addr) (n0 c0 : Nat) (x0 : List Int) (w : World) (h0 : ArgB w a0 n0 c0 x0) :
    Calls Try.prog 23 #[.slice a0 n0 c0] w fun e w' => e = .returned (.bool true) ∧ Below w.heap.size w w' := by
  by_cases hn : n0 ≤ 1048576
  · go_enter Try.func23, Try.ntmps23
    go_wp2_with fail
    refine (spec_DrawDistance _ _ _ _ _ h0).mono ?_
    rintro e w1 ⟨kind, v, u, xs, ys, rfl, k0, k5, d1, d2, g1⟩
    obtain ⟨A1, c1, rfl, _, _, q1⟩ := d1.vec.open_
    obtain ⟨A2, c2, rfl, _, _, q2⟩ := d2.vec.open_
    clear d1 d2 h0
    go_wp2_with fail
    refine (impl_Distance _ _ _ _ _ _ _ _ q1 q2).mono ?_; rintro e w' ⟨rfl, m, rfl⟩
    go_wp2_with fail
    refine (spec_Distance _ _ _ _ _ _ _ _ (q1.drewN m) (q2.drewN m)).mono ?_; rintro e w' ⟨rfl, m2, rfl⟩
    by_cases hneg : distV kind xs ys < 0
    · go_wp2_with fail
      refine (spec_Distance _ _ _ _ _ _ _ _ (q1.drewN _) (q2.drewN _)).mono ?_; rintro e w' ⟨rfl, m3, rfl⟩
      go_wp2_with fail
      go_ret
      exact ⟨rfl, g1.trans (Grow.alike rfl rfl rfl rfl)⟩
    · obtain ⟨hk, hx, hy⟩ := distV_valid hneg
      have hs : (distV kind ys xs == distV kind xs ys) = true := by rw [distV_comm]; simp
      have hlt : distV kind xs ys < 1000000 := by have := distV_bd kind xs ys; omega
      have HZ : distV kind xs ys = 0 ↔ xs = ys := by
        rw [distV_of hk hx hy, distL_zero_iff]
        have l1 := vecB_four hx
        have l2 := vecB_four hy
        constructor
        · intro hg; exact eq_of_gI (by omega) (fun i hi => hg i (by omega))
        · rintro rfl _ _; rfl
      by_cases he : xs = ys
      · have hz : (distV kind xs ys == 0) = true := by rw [HZ.2 he]; rfl
        have heq : eqB xs ys = true := eqB_iff.2 he
        clear HZ he hk hx hy
        go_wp2_with fail
        refine (impl_Distance _ _ _ _ _ _ _ _ (q2.drewN _) (q1.drewN _)).mono ?_; rintro e w' ⟨rfl, m3, rfl⟩
        go_wp2_with fail
        refine (laws_equalInts _ _ _ _ _ _ _ (q1.drewN _) (q2.drewN _)).mono ?_; rintro e w' ⟨rfl, m4, rfl⟩
        go_wp2_with fail
        go_ret
        exact ⟨rfl, g1.trans (Grow.alike rfl rfl rfl rfl)⟩
      · have hz : (distV kind xs ys == 0) = false := by rw [beq_eq_false_iff_ne]; intro h; exact he (HZ.1 h)
        have heq : eqB xs ys = false := by
          cases h : eqB xs ys with
          | false => rfl
          | true => exact absurd (eqB_iff.1 h) he
        clear HZ he hk hx hy
        go_wp2_with fail
        refine (impl_Distance _ _ _ _ _ _ _ _ (q2.drewN _) (q1.drewN _)).mono ?_; rintro e w' ⟨rfl, m3, rfl⟩
        go_wp2_with fail
        refine (laws_equalInts _ _ _ _ _ _ _ (q1.drewN _) (q2.drewN _)).mono ?_; rintro e w' ⟨rfl, m4, rfl⟩
        go_wp2_with fail
        go_ret
        exact ⟨rfl, g1.trans (Grow.alike rfl rfl rfl rfl)⟩
  · go_enter Try.func23, Try.ntmps23
    go_wp2_with fail
    go_ret
    exact ⟨rfl, Below.refl _ _⟩

set_option maxHeartbeats 800000 in
theorem walk_FnDistanceKinds (a0 : Option Addr) (n0 c0 : Nat) (x0 : List Int) (w : World) (h0 : ArgB w a0 n0 c0 x0) :
    Calls Try.prog 14 #[.slice a0 n0 c0] w fun e w' => e = .returned (.bool true) ∧ Below w.heap.size w w' := by
  by_cases hn : n0 ≤ 1048576
  · go_enter Try.func14, Try.ntmps14
    go_wp2_with fail
    refine (spec_DrawDistance _ _ _ _ _ h0).mono ?_
    rintro e w1 ⟨kind, v, u, xs, ys, rfl, k0, k5, d1, d2, g1⟩
    obtain ⟨A1, c1, rfl, _, _, q1⟩ := d1.vec.open_
    obtain ⟨A2, c2, rfl, _, _, q2⟩ := d2.vec.open_
    clear d1 d2 h0
    go_wp2_with fail
    refine (impl_Distance _ _ _ _ _ _ _ _ q1 q2).mono ?_; rintro e w' ⟨rfl, m, rfl⟩
    go_wp2_with fail
    refine (spec_Distance _ _ _ _ _ _ _ _ (q1.drewN m) (q2.drewN m)).mono ?_; rintro e w' ⟨rfl, m2, rfl⟩
    by_cases hneg : distV kind xs ys < 0
    · go_wp2_with fail
      refine (spec_Distance _ _ _ _ _ _ _ _ (q1.drewN _) (q2.drewN _)).mono ?_; rintro e w' ⟨rfl, m3, rfl⟩
      go_wp2_with fail
      go_ret
      exact ⟨rfl, g1.trans (Grow.alike rfl rfl rfl rfl)⟩
    · obtain ⟨hk, hx, hy⟩ := distV_valid hneg
      obtain ⟨f1, f2, f3, f4, f5⟩ := dist_kinds xs ys
      rw [← distV_of (by decide) hx hy, ← distV_of (by decide) hx hy] at f1 f2 f3 f4
      rw [← distV_of (by decide) hx hy] at f5
      obtain ⟨b1, b2⟩ := distV_bd 2 xs ys
      clear hk hx hy
      go_wp2_with fail
      refine (impl_Distance _ _ _ _ _ _ _ _ (q1.drewN _) (q2.drewN _)).mono ?_; rintro e w' ⟨rfl, m3, rfl⟩
      go_wp2_with fail
      refine (impl_Distance _ _ _ _ _ _ _ _ (q1.drewN _) (q2.drewN _)).mono ?_; rintro e w' ⟨rfl, m4, rfl⟩
      go_wp2_with fail
      refine (impl_Distance _ _ _ _ _ _ _ _ (q1.drewN _) (q2.drewN _)).mono ?_; rintro e w' ⟨rfl, m5, rfl⟩
      go_wp2_with fail
      refine (impl_Distance _ _ _ _ _ _ _ _ (q1.drewN _) (q2.drewN _)).mono ?_; rintro e w' ⟨rfl, m6, rfl⟩
      go_wp2_with fail
      go_ret
      exact ⟨rfl, g1.trans (Grow.alike rfl rfl rfl rfl)⟩
  · go_enter Try.func14, Try.ntmps14
    go_wp2_with fail
    go_ret
    exact ⟨rfl, Below.refl _ _⟩

set_option maxHeartbeats 800000 in
theorem walk_FnDistanceTriangle (a0 : Option Addr) (n0 c0 : Nat) (x0 : List Int) (w : World) (h0 : ArgB w a0 n0 c0 x0) :
    Calls Try.prog 16 #[.slice a0 n0 c0] w fun e w' => e = .returned (.bool true) ∧ Below w.heap.size w w' := by
  by_cases hn : n0 ≤ 1048576
  · go_enter Try.func16, Try.ntmps16
    go_wp2_with fail
    refine (spec_DrawDistance _ _ _ _ _ h0).mono ?_
    rintro e w1 ⟨kind, v, u, xs, ys, rfl, k0, k5, d1, d2, g1⟩
    obtain ⟨A1, c1, rfl, _, _, q1⟩ := d1.vec.open_
    obtain ⟨A2, c2, rfl, _, _, q2⟩ := d2.vec.open_
    clear d1 d2 h0
    go_wp2_with fail
    refine (impl_Distance _ _ _ _ _ _ _ _ q1 q2).mono ?_; rintro e w' ⟨rfl, m, rfl⟩
    go_wp2_with fail
    refine (spec_Distance _ _ _ _ _ _ _ _ (q1.drewN m) (q2.drewN m)).mono ?_; rintro e w' ⟨rfl, m2, rfl⟩
    by_cases hneg : distV kind xs ys < 0
    · go_wp2_with fail
      refine (spec_Distance _ _ _ _ _ _ _ _ (q1.drewN _) (q2.drewN _)).mono ?_; rintro e w' ⟨rfl, m3, rfl⟩
      go_wp2_with fail
      go_ret
      exact ⟨rfl, g1.trans (Grow.alike rfl rfl rfl rfl)⟩
    · by_cases h3 : kind = 3
      · subst h3
        go_wp2_with fail
        refine (spec_Distance _ _ _ _ _ _ _ _ (q1.drewN _) (q2.drewN _)).mono ?_; rintro e w' ⟨rfl, m3, rfl⟩
        go_wp2_with fail
        go_ret
        exact ⟨rfl, g1.trans (Grow.alike rfl rfl rfl rfl)⟩
      · have h3' : (kind == 3) = false := by rw [beq_eq_false_iff_ne]; exact h3
        obtain ⟨hk, hx, hy⟩ := distV_valid hneg
        have hvz : vecB [0, 0, 0, 0] 4 = true := vecB_zero
        have ht : distV kind xs ys ≤ distV kind xs [0, 0, 0, 0] + distV kind [0, 0, 0, 0] ys := by
          rw [distV_of hk hx hy, distV_of hk hx hvz, distV_of hk hvz hy]; exact distL_tri h3 _ _ _ _
        obtain ⟨b1, b2⟩ := distV_bd kind xs [0, 0, 0, 0]
        obtain ⟨b3, b4⟩ := distV_bd kind [0, 0, 0, 0] ys
        clear hk hx hy hvz
        go_wp2_with (at_make; refine wpList_zeros rfl _ _ rfl 4 rfl rfl (by omega) ?_; intro w3 o4 g4)
        have p1 : RI w3 w3.heap.size A1 xs := RI.grow (q1.drewN (m + m2)) g4
        have p2 : RI w3 w3.heap.size A2 ys := RI.grow (q2.drewN (m + m2)) g4
        have p4 : RI w3 w3.heap.size _ [0, 0, 0, 0] := o4.ri
        refine (impl_Distance kind _ _ xs [0, 0, 0, 0] _ _ _ p1 p4).mono ?_; rintro e w' ⟨rfl, m3, rfl⟩
        go_wp2_with fail
        refine (impl_Distance kind _ _ [0, 0, 0, 0] ys _ _ _ (p4.drewN _) (p2.drewN _)).mono ?_; rintro e w' ⟨rfl, m4, rfl⟩
        go_wp2_with fail
        go_ret
        exact ⟨rfl, g1.trans ((Grow.drewN w1 (m + m2)).trans (g4.trans (Grow.alike rfl rfl rfl rfl)))⟩
  · go_enter Try.func16, Try.ntmps16
    go_wp2_with fail
    go_ret
    exact ⟨rfl, Below.refl _ _⟩
end Go.Proofs.Ytnmondecnanmcaa
