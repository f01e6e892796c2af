/- The walk of the law 'FnMeanOf': it returns true, and writes nothing that was there. -/
import Derived.Test.YtaocmgafglalnaaWMean
import Derived.Test.YtaocmgafglalnaaPlainS2
namespace Go.Proofs.Ytaocmgafglalnaa
set_option linter.unusedVariables false
open Go Go.RowKit

theorem meanV_vec {l : List (List Int)} (h : meanOk l = true) : vecB (meanV l) 4 = true := by
  rw [meanV_of h]
  simp only [vecB, Bool.and_eq_true, List.all_eq_true, decide_eq_true_eq]
  refine ⟨fun x hx => ?_, by rw [rangeI_len]; rfl⟩
  have := meanV_bd l x (by rw [meanV_of h]; exact hx)
  exact okc_of this.1 this.2

set_option maxHeartbeats 3200000 in
theorem walk_FnMeanOf (a0 : Option Addr) (n0 c0 : Nat) (x0 : List Int) (w : World) (h0 : ArgB w a0 n0 c0 x0) :
    Calls Try.prog 6 #[.slice a0 n0 c0] w fun e w' => e = .returned (.bool true) ∧ Below w.heap.size w w' := by
  by_cases hn : n0 ≤ 1048576
  · go_enter Try.func6, Try.ntmps6
    go_wp2_with fail
    refine (spec_DrawMeanOf _ _ _ _ _ h0).mono ?_
    rintro e w1 ⟨A1, c1, l, rfl, q1, hsm, hlc, hcm, hl18, g1⟩
    clear h0
    go_wp2_with fail
    refine (impl_MeanOf _ _ l _ q1).mono ?_; rintro e w2 ⟨v2, rfl, o2, g2⟩
    obtain ⟨zs, hzs⟩ : ∃ zs, zs = meanV l := ⟨_, rfl⟩
    rw [← hzs] at o2
    have HZ := Lib.hid hzs
    obtain ⟨A3, c3, rfl, _, _, q3⟩ := o2.open_
    clear o2 hzs
    go_wp2_with fail
    refine (spec_MeanOf _ _ l _ (q1.grow g2)).mono ?_; rintro e w3 ⟨v3, rfl, o3, g3⟩
    rw [← HZ.out] at o3
    obtain ⟨A4, c4, rfl, _, _, q4⟩ := o3.open_
    clear o3
    go_wp2_with fail
    refine (eqIntsM _ _ zs _ _ _ (q3.grow g3) q4).mono ?_; rintro e w4 ⟨rfl, g4⟩
    have k4 : Grow w1 w4 := g2.trans (g3.trans g4)
    have K4 : Grow w w4 := g1.trans k4
    have q14 := q1.grow k4
    have q34 := q3.grow (g3.trans g4)
    clear q3 hsm
    by_cases hz : zs.length = 0
    · have hz' : ((zs.length : Int) == 0) = true := by rw [hz]; rfl
      have HL := Lib.hid hz
      clear hz
      go_wp2_with fail
      refine (spec_MeanOf _ _ l _ q14).mono ?_; rintro e w5 ⟨v5, rfl, o5, g5⟩
      rw [← HZ.out] at o5
      obtain ⟨A5, c5, rfl, _, _, q5⟩ := o5.open_
      clear o5
      go_wp2_with fail
      refine (eqIntsM _ _ zs _ _ _ (q34.grow g5) q5).mono ?_; rintro e w6 ⟨rfl, g6⟩
      go_wp2_with fail
      go_ret
      exact ⟨rfl, K4.trans (g5.trans g6)⟩
    · have hz' : ((zs.length : Int) == 0) = false := by rw [beq_eq_false_iff_ne]; omega
      have hok : meanOk l = true := meanOk_some (by rw [← HZ.out]; exact hz)
      have hl1 : 0 < l.length := (meanOk_len hok).1
      have hvz : vecB zs 4 = true := by rw [HZ.out]; exact meanV_vec hok
      have l3 : zs.length ≤ 4 := Nat.le_of_eq (vecB_four hvz)
      have l4 : 4 ≤ zs.length := Nat.le_of_eq (vecB_four hvz).symm
      have HOK := Lib.hid hok
      have HV := Lib.hid hvz
      have hl0i : (0 : Int) < (l.length : Int) := by omega
      have hrow : ∀ (j : Nat) (r : List Int), l[j]? = some r → r.length = 4 := fun j r hr => vecB_four (rowsB_at (by have := HOK.out; rw [meanOk, Bool.and_eq_true] at this; exact this.2) hr)
      have HR := Lib.hid hrow
      clear hok hvz hz hrow
      go_wp2_with fail
      go_loop [5] (fun k => ∃ c : Nat, c ≤ 4 ∧ k = .int .i64 c) (fun k => 4 - (intOf k).toNat)
      case atStart => exact ⟨0, by omega, rfl⟩
      case round =>
        obtain ⟨c, hc, rfl⟩ := hrel
        by_cases hc4 : c < 4
        · have hcz : c < zs.length := by omega
          obtain ⟨ad, Ak, ck, r, rfl, hab, hca, hrc, hck, hri, hr⟩ := q14.at_ (k := 0) hl1
          have hca0 : w4.cell? ad = some (.slice Ak r.length ck) := by
            have e : ad.add 0 = ad := by cases ad; simp [Addr.add]
            rw [e] at hca; exact hca
          have hcr : c < r.length := by have := HR.out 0 r hr.out; omega
          obtain ⟨pd, x, rfl, _, hcx, _, _, hkx⟩ := hri.at_ hcr
          clear hca
          go_wp2_with fail
          go_loop [6, 7, 8] (fun a b i => ∃ j : Nat, j ≤ l.length ∧ i = .int .i64 j ∧ a = .int .i64 (mnTo (fun i => gI (rowI l i) c) x j) ∧ b = .int .i64 (mxTo (fun i => gI (rowI l i) c) x j)) (fun _ _ i => l.length - (intOf i).toNat)
          case atStart => exact ⟨0, Nat.zero_le _, rfl, rfl, rfl⟩
          case round =>
            obtain ⟨j, hj, rfl, rfl, rfl⟩ := hrel
            by_cases hjl : j < l.length
            · obtain ⟨ad2, Aj, cj, s, e, _, hcs, _, _, hsi, hs⟩ := q14.at_ (k := j) hjl
              injection e with e; subst e
              have hcs4 : c < s.length := by have := HR.out j s hs.out; omega
              obtain ⟨qd, y, rfl, _, hcy, _, _, hky⟩ := hsi.at_ hcs4
              have hf : gI (rowI l j) c = y := by rw [rowI_of hs.out, gI_of hky.out]
              have m1 : mnTo (fun i => gI (rowI l i) c) x (j + 1) = (if y < mnTo (fun i => gI (rowI l i) c) x j then y else mnTo (fun i => gI (rowI l i) c) x j) := by rw [mnTo, hf]
              have m2 : mxTo (fun i => gI (rowI l i) c) x (j + 1) = (if mxTo (fun i => gI (rowI l i) c) x j < y then y else mxTo (fun i => gI (rowI l i) c) x j) := by rw [mxTo, hf]
              have M1 := Lib.hid m1
              have M2 := Lib.hid m2
              clear m1 m2 hf
              go_wp2_with fail
              go_round
              case rel => exact ⟨j + 1, by omega, by go_num, by rw [M1.out], by rw [M2.out]⟩
              case measure => simp [intOf]; omega
            · obtain rfl : j = l.length := by omega
              obtain ⟨cd, z, rfl, _, hcz2, _, _, hkz⟩ := q34.at_ hcz
              have hzv : meanF l c = z := by
                have := hkz.out
                rw [HZ.out, meanV_of HOK.out, rangeI_at _ hc4] at this
                injection this
              obtain ⟨b1, b2⟩ := meanF_mid hl1 c x x
              rw [hzv] at b1 b2
              have n1 : ¬ z < mnTo (fun i => gI (rowI l i) c) x l.length := by omega
              have n2 : ¬ mxTo (fun i => gI (rowI l i) c) x l.length < z := by omega
              clear b1 b2 hzv
              go_wp2_with fail
              go_round
              case rel => exact ⟨c + 1, by omega, by go_num⟩
              case measure => simp [intOf]; omega
        · go_wp2_with fail
          refine (impl_ValidVector _ zs _ _ q34).mono ?_; rintro e w' ⟨rfl, rfl⟩
          rw [HV.out]
          go_wp2_with fail
          go_ret
          exact ⟨rfl, K4⟩
  · go_enter Try.func6, Try.ntmps6
    go_wp2_with fail
    go_ret
    exact ⟨rfl, Below.refl _ _⟩
end Go.Proofs.Ytaocmgafglalnaa
