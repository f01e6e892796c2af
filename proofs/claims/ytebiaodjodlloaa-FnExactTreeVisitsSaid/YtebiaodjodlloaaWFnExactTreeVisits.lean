/- The walk of the exact law on TreeVisits: it returns true, and writes nothing that was there. -/
import Derived.Test.YtebiaodjodlloaaSMark
import Derived.Test.YtebiaodjodlloaaTreeW
import Derived.Test.YtebiaodjodlloaaSAid
namespace Go.Proofs.Ytebiaodjodlloaa
set_option linter.unusedVariables false
open Go Go.RowKit

set_option maxHeartbeats 6400000 in
theorem walk_FnExactTreeVisits (a0 : Option Addr) (n0 c0 : Nat) (z0 : List It) (a1 : Int) (a2 : Option Addr) (n2 c2 : Nat) (z2 : List Int) (a3 : Int) (w : World) (h0 : ArgS w a0 n0 c0 z0) (h1 : -9223372036854775808 ≤ a1 ∧ a1 ≤ 9223372036854775807) (h2 : ArgI w a2 n2 c2 z2) (h3 : -9223372036854775808 ≤ a3 ∧ a3 ≤ 9223372036854775807) :
    Calls Try.prog 10 #[.slice a0 n0 c0, .int .i64 a1, .slice a2 n2 c2, .int .i64 a3] w fun e w' => e = .returned (.bool true) ∧ Below w.heap.size w w' := by
  by_cases hn2 : 1048576 < n2
  · go_enter Try.func10, Try.ntmps10
    go_wp2_with fail
    go_ret
    exact ⟨rfl, Below.refl _ _⟩
  · have r2 := h2.ri (by omega)
    obtain rfl := h2.len
    go_enter Try.func10, Try.ntmps10
    go_wp2_with fail
    refine (laws_szItemS _ _ _ z0 1048576 _ h0 (by omega) (by omega)).mono ?_; rintro e w1 ⟨l1, rfl, hz1, g1⟩
    have s1 := g1.size
    have b1 := below_grow (Below.refl w.heap.size w) g1 (by omega)
    rcases hz1 with hz1 | ⟨hz1, hy1, hq1⟩
    · go_wp2_with fail
      go_ret
      exact ⟨rfl, b1⟩
    · have hl1 : l1 ≤ 1048576 := by omega
      have r0 := hq1
      obtain rfl := h0.len
      clear h0 h2
      go_wp2_with fail
      refine (laws_toItemS _ _ z0 _ (r0.far b1)).mono ?_; rintro e w2 ⟨v2, rfl, o2, g2⟩
      obtain ⟨A2, c2', rfl, _, _, _⟩ := o2.open_
      have s2 := g2.size
      have b2 := below_grow b1 g2 (by omega)
      go_wp2_with fail
      refine (laws_toIntS _ _ _ _ (r2.far b2)).mono ?_; rintro e w3 ⟨v3, rfl, o3, g3⟩
      obtain ⟨A3, c3', rfl, _, _, _⟩ := o3.open_
      have s3 := g3.size
      have b3 := below_grow b2 g3 (by omega)
      have x2_3 := o2.grow g3
      clear o2
      go_wp2_with fail
      refine (spec_TreeVisits _ _ z0 a1 _ _ z2 a3 _ x2_3.ri o3.ri (by assumption) (by assumption)).mono ?_; rintro e w4 ⟨rfl, g4⟩
      have s4 := g4.size
      have b4 := below_grow b3 g4 (by omega)
      have x2_4 := x2_3.grow g4
      have x3_4 := o3.grow g4
      clear x2_3 o3
      go_wp2_with fail
      refine (laws_toItemS _ _ z0 _ (r0.far b4)).mono ?_; rintro e w5 ⟨v5, rfl, o5, g5⟩
      obtain ⟨A5, c5', rfl, _, _, _⟩ := o5.open_
      have s5 := g5.size
      have b5 := below_grow b4 g5 (by omega)
      go_wp2_with fail
      refine (laws_toIntS _ _ _ _ (r2.far b5)).mono ?_; rintro e w6 ⟨v6, rfl, o6, g6⟩
      obtain ⟨A6, c6', rfl, _, _, _⟩ := o6.open_
      have s6 := g6.size
      have b6 := below_grow b5 g6 (by omega)
      have x5_6 := o5.grow g6
      clear o5
      go_wp2_with fail
      refine (impl_TreeVisits _ _ z0 a1 _ _ z2 a3 _ x5_6.ri o6.ri (by assumption) (by assumption)).mono ?_; rintro e w7 ⟨rfl, g7⟩
      have s7 := g7.size
      have b7 := below_grow b6 g7 (by omega)
      have x5_7 := x5_6.grow g7
      have x6_7 := o6.grow g7
      clear x5_6 o6
      go_wp2_with fail
      refine (laws_toItemS _ _ z0 _ (r0.far b7)).mono ?_; rintro e w8 ⟨v8, rfl, o8, g8⟩
      obtain ⟨A8, c8', rfl, _, _, _⟩ := o8.open_
      have s8 := g8.size
      have b8 := below_grow b7 g8 (by omega)
      have x5_8 := x5_7.grow g8
      have x6_8 := x6_7.grow g8
      clear x5_7 x6_7
      go_wp2_with fail
      refine (laws_eqItemS_same _ _ _ _ z0 _ x5_8.ri o8.ri).mono ?_; rintro e w9 ⟨rfl, g9⟩
      have s9 := g9.size
      have b9 := below_grow b8 g9 (by omega)
      have x5_9 := x5_8.grow g9
      have x6_9 := x6_8.grow g9
      clear x5_8 x6_8
      go_wp2_with fail
      refine (laws_toIntS _ _ _ _ (r2.far b9)).mono ?_; rintro e w10 ⟨v10, rfl, o10, g10⟩
      obtain ⟨A10, c10', rfl, _, _, _⟩ := o10.open_
      have s10 := g10.size
      have b10 := below_grow b9 g10 (by omega)
      have x5_10 := x5_9.grow g10
      have x6_10 := x6_9.grow g10
      clear x5_9 x6_9
      go_wp2_with fail
      refine (laws_eqIntS_same _ _ _ _ z2 _ x6_10.ri o10.ri).mono ?_; rintro e w11 ⟨rfl, g11⟩
      have s11 := g11.size
      have b11 := below_grow b10 g11 (by omega)
      have x5_11 := x5_10.grow g11
      have x6_11 := x6_10.grow g11
      clear x5_10 x6_10
      go_wp2_with fail
      go_ret
      exact ⟨rfl, b11⟩
end Go.Proofs.Ytebiaodjodlloaa
