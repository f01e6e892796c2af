/- The walks of the laws 'exact' on vectors: each returns true, and writes nothing that was there. -/
import Derived.Test.YtnmondecnanmcaaLawAid
import Derived.Test.YtnmondecnanmcaaMove
import Derived.Test.YtnmondecnanmcaaOpen
namespace Go.Proofs.Ytnmondecnanmcaa
open Go Go.RowKit

theorem walk_FnExactConstants (w : World) :
    Calls Try.prog 3 #[] w fun e w' => e = .returned (.bool true) ∧ Below w.heap.size w w' := by
  go_enter Try.func3, Try.ntmps3
  go_wp2
  go_ret
  exact ⟨rfl, Below.refl _ _⟩

set_option maxHeartbeats 800000 in
theorem walk_FnExactValidVector (a0 : Option Addr) (n0 c0 : Nat) (x0 : List Int) (w : World) (h0 : ArgI w a0 n0 c0 x0) :
    Calls Try.prog 4 #[.slice a0 n0 c0] w fun e w' => e = .returned (.bool true) ∧ Below w.heap.size w w' := by
  by_cases hn : n0 ≤ 1048576
  · have r0 := h0.ri (by omega)
    obtain rfl := h0.len
    go_enter Try.func4, Try.ntmps4
    go_wp2_with fail
    refine (laws_toIntS _ _ _ _ r0).mono ?_; rintro e w1 ⟨v1, rfl, o1, g1⟩
    obtain ⟨A1, c1, rfl, _, _, q1⟩ := o1.open_
    go_wp2_with fail
    refine (spec_ValidVector _ _ _ _ q1).mono ?_; rintro e w' ⟨rfl, rfl⟩
    go_wp2_with fail
    refine (laws_toIntS _ _ _ _ (r0.grow g1)).mono ?_; rintro e w2 ⟨v2, rfl, o2, g2⟩
    obtain ⟨A2, c2, rfl, _, _, q2⟩ := o2.open_
    go_wp2_with fail
    refine (impl_ValidVector _ _ _ _ q2).mono ?_; rintro e w' ⟨rfl, rfl⟩
    go_wp2_with fail
    refine (laws_toIntS _ _ _ _ (r0.grow (g1.trans g2))).mono ?_; rintro e w3 ⟨v3, rfl, o3, g3⟩
    obtain ⟨A3, c3, rfl, _, _, q3⟩ := o3.open_
    go_wp2_with fail
    refine (laws_eqIntS _ _ _ _ _ _ _ (q2.grow g3) q3).mono ?_; rintro e w4 ⟨rfl, m, rfl⟩
    have he := eqB_self x0
    go_wp2_with fail
    go_ret
    exact ⟨rfl, g1.trans (g2.trans (g3.trans (Grow.drewN _ _)))⟩
  · go_enter Try.func4, Try.ntmps4
    go_wp2_with fail
    go_ret
    exact ⟨rfl, Below.refl _ _⟩
end Go.Proofs.Ytnmondecnanmcaa
