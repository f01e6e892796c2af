/- The walk of the law 'FnMoveTo', and that of the exact law on MoveTo: each returns true, and writes nothing that was there. -/
import Derived.Test.YtnmondecnanmcaaWMove
namespace Go.Proofs.Ytnmondecnanmcaa
set_option linter.unusedVariables false
open Go Go.RowKit

set_option maxHeartbeats 3200000 in
theorem walk_FnMoveTo (a0 : Option Addr) (n0 c0 : Nat) (x0 : List Int) (w : World) (h0 : ArgB w a0 n0 c0 x0) :
    Calls Try.prog 11 #[.slice a0 n0 c0] w fun e w' => e = .returned (.bool true) ∧ Below w.heap.size w w' := by
  by_cases hn : n0 ≤ 1048576
  · go_enter Try.func11, Try.ntmps11
    go_wp2_with fail
    refine (spec_DrawMoveTo _ _ _ _ _ h0).mono ?_
    rintro e w1 ⟨v, u, p, xs, ys, rfl, p0, p1, d1, d2, g1⟩
    obtain ⟨A1, c1, rfl, _, _, q1⟩ := d1.vec.open_
    obtain ⟨A2, c2, rfl, _, _, q2⟩ := d2.vec.open_
    clear d1 d2 h0
    go_wp2_with fail
    refine (impl_MoveTo _ _ _ _ _ _ _ _ q1 q2).mono ?_; rintro e w2 ⟨v2, rfl, o2, g2⟩
    obtain ⟨zs, hzs⟩ : ∃ zs, zs = moveV xs ys p := ⟨_, rfl⟩
    rw [← hzs] at o2
    have HZ := Lib.hid hzs
    obtain ⟨A3, c3, rfl, _, _, q3⟩ := o2.open_
    clear o2 hzs
    go_wp2_with fail
    refine (spec_MoveTo _ _ _ _ _ _ _ _ (q1.grow g2) (q2.grow g2)).mono ?_; rintro e w3 ⟨v3, rfl, o3, g3⟩
    rw [← HZ.out] at o3
    obtain ⟨A4, c4, rfl, _, _, q4⟩ := o3.open_
    clear o3
    have heq := eqB_self zs
    go_wp2_with fail
    refine (laws_equalInts _ _ _ _ _ _ _ (q3.grow g3) q4).mono ?_; rintro e w' ⟨rfl, m, rfl⟩
    have g5 : Grow w (w3.drewN m) := g1.trans (g2.trans (g3.trans (Grow.drewN _ _)))
    have k1 : Grow w1 (w3.drewN m) := g2.trans (g3.trans (Grow.drewN _ _))
    have k2 : Grow w2 (w3.drewN m) := g3.trans (Grow.drewN _ _)
    by_cases hz : zs.length = 0
    · have hz' : ((zs.length : Int) == 0) = true := by rw [hz]; rfl
      have HL := Lib.hid hz
      clear hz
      go_wp2_with fail
      refine (spec_MoveTo _ _ xs ys _ _ _ _ (q1.grow k1) (q2.grow k1)).mono ?_; rintro e w4 ⟨v4, rfl, o4, g4⟩
      rw [← HZ.out] at o4
      obtain ⟨A5, c5, rfl, _, _, q5⟩ := o4.open_
      clear o4
      go_wp2_with fail
      refine (laws_equalInts _ _ zs zs _ _ _ (q3.grow (k2.trans g4)) q5).mono ?_; rintro e w' ⟨rfl, m2, rfl⟩
      go_wp2_with fail
      go_ret
      exact ⟨rfl, g5.trans (g4.trans (Grow.alike rfl rfl rfl rfl))⟩
    · have hz' : ((zs.length : Int) == 0) = false := by rw [beq_eq_false_iff_ne]; omega
      obtain ⟨hx, hy, h0, h1⟩ := moveV_some (a := xs) (b := ys) (p := p) (by rw [← HZ.out]; exact hz)
      have hvz : vecB zs 4 = true := by rw [HZ.out]; exact moveV_vec hx hy h0 h1
      have HX := Lib.hid hx
      have HY := Lib.hid hy
      have HV := Lib.hid hvz
      have l1 : 4 ≤ xs.length := Nat.le_of_eq (vecB_four hx).symm
      have l2 : 4 ≤ ys.length := Nat.le_of_eq (vecB_four hy).symm
      have l3 : zs.length ≤ 4 := Nat.le_of_eq (vecB_four hvz)
      have l4 : 4 ≤ zs.length := Nat.le_of_eq (vecB_four hvz).symm
      have hex := eqB_self xs
      have hey := eqB_self ys
      have Q1 := q1.grow (g2.trans g3)
      have Q2 := q2.grow (g2.trans g3)
      have Q3 := q3.grow g3
      obtain ⟨W, hW⟩ : ∃ W, W = w3.drewN m := ⟨_, rfl⟩
      have HW := Lib.hid hW
      have BT : ∀ (i : Nat) (x y z : Int), xs[i]? = some x → ys[i]? = some y → zs[i]? = some z → (x ≤ y → x ≤ z ∧ z ≤ y) ∧ (y ≤ x → y ≤ z ∧ z ≤ x) := by
        intro i x y z hi1 hi2 hi3
        have := moveF_between (a := xs) (b := ys) h0 h1 i
        rw [HZ.out, moveV_of HX.out HY.out h0 h1] at hi3
        have hi : i < 4 := by
          have := (List.getElem?_eq_some_iff.1 hi3).1
          rwa [rangeI_len] at this
        rw [rangeI_at _ hi] at hi3
        injection hi3 with hi3
        rw [gI_of hi1, gI_of hi2, hi3] at this
        exact this
      have HB := Lib.hid BT
      clear hz hx hy hvz BT hW
      go_wp2_with fail
      go_loopw [7] (fun i wr => ∃ k n : Nat, k ≤ zs.length ∧ i = .int .i64 k ∧ wr = w3.drewN n) (fun i _ => zs.length - (intOf i).toNat)
      case atStart => exact ⟨0, m, Nat.zero_le _, rfl, rfl⟩
      case round =>
        obtain ⟨k, n, hk, rfl, rfl⟩ := hrel
        by_cases hlt : k < zs.length
        · obtain ⟨ad, x, rfl, _, hcx, _, _, hkx⟩ := Q1.at_ (show k < xs.length by omega)
          obtain ⟨bd, y, rfl, _, hcy, _, _, hky⟩ := Q2.at_ (show k < ys.length by omega)
          obtain ⟨cd, z, rfl, _, hcz, _, _, hkz⟩ := Q3.at_ hlt
          have hb := HB.out k x y z hkx.out hky.out hkz.out
          have g1 : decide (z < if y < x then y else x) = false := by
            simp only [decide_eq_false_iff_not]
            rcases Int.le_total x y with h | h
            · have := hb.1 h; split <;> omega
            · have := hb.2 h; split <;> omega
          have g2 : decide ((if x < y then y else x) < z) = false := by
            simp only [decide_eq_false_iff_not]
            rcases Int.le_total x y with h | h
            · have := hb.1 h; split <;> omega
            · have := hb.2 h; split <;> omega
          clear hb
          go_wp2
          go_quiet (fail)
          go_wp2
          go_roundw
          case rel => exact ⟨k + 1, _, by omega, by go_num, by first | rfl | exact World.drewN_drewN _ _ _⟩
          case measure => simp [intOf]; omega
        · have g6 : ∀ n, Grow w (w3.drewN n) := fun n => g1.trans (g2.trans (g3.trans (Grow.drewN _ _)))
          have m0 : moveV xs ys 0 = xs := moveV_zero HX.out HY.out
          have m1 : moveV xs ys 1000 = ys := moveV_all HX.out HY.out
          have M0 := Lib.hid m0
          have M1 := Lib.hid m1
          clear m0 m1
          go_wp2_with fail
          refine (impl_MoveTo _ _ xs ys _ _ _ _ (Q1.drewN n) (Q2.drewN n)).mono ?_; rintro e w4 ⟨v4, rfl, o4, g4⟩
          rw [M0.out] at o4
          obtain ⟨A5, c5, rfl, _, _, q5⟩ := o4.open_
          clear o4
          have R1 := RI.grow (Q1.drewN n) g4
          have R2 := RI.grow (Q2.drewN n) g4
          go_wp2_with fail
          refine (laws_equalInts _ _ xs xs _ _ _ q5 R1).mono ?_; rintro e w' ⟨rfl, m2, rfl⟩
          go_wp2_with fail
          refine (impl_MoveTo _ _ xs ys _ _ _ _ (R1.drewN m2) (R2.drewN m2)).mono ?_; rintro e w5 ⟨v5, rfl, o5, g7⟩
          rw [M1.out] at o5
          obtain ⟨A6, c6, rfl, _, _, q6⟩ := o5.open_
          clear o5
          go_wp2_with fail
          refine (laws_equalInts _ _ ys ys _ _ _ q6 (RI.grow (R2.drewN m2) g7)).mono ?_; rintro e w' ⟨rfl, m3, rfl⟩
          go_wp2_with fail
          go_ret
          exact ⟨rfl, (g6 n).trans (g4.trans ((Grow.drewN _ _).trans (g7.trans (Grow.alike rfl rfl rfl rfl))))⟩
  · go_enter Try.func11, Try.ntmps11
    go_wp2_with fail
    go_ret
    exact ⟨rfl, Below.refl _ _⟩
end Go.Proofs.Ytnmondecnanmcaa
