/- The walk of the exact law on IsTreeOf: it returns true, and writes nothing that was there. -/
import Derived.Test.YtebiaodjodlloaaSMark
import Derived.Test.YtebiaodjodlloaaNOwn
import Derived.Test.YtebiaodjodlloaaSAid
namespace Go.Proofs.Ytebiaodjodlloaa
set_option linter.unusedVariables false
open Go Go.RowKit

set_option maxHeartbeats 6400000 in
theorem walk_FnExactIsTreeOf (a0 : Option Addr) (n0 c0 : Nat) (z0 : List Nd) (a1 : Option Addr) (n1 c1 : Nat) (z1 : List It) (a2 : Int) (w : World) (h0 : ArgN w a0 n0 c0 z0) (h1 : ArgS w a1 n1 c1 z1) (h2 : -9223372036854775808 ≤ a2 ∧ a2 ≤ 9223372036854775807) :
    Calls Try.prog 4 #[.slice a0 n0 c0, .slice a1 n1 c1, .int .i64 a2] w fun e w' => e = .returned (.bool true) ∧ Below w.heap.size w w' := by
  go_enter Try.func4, Try.ntmps4
  go_wp2_with fail
  refine (laws_szNodeS _ _ _ z0 1048576 _ h0 (by omega) (by omega)).mono ?_; rintro e w1 ⟨l1, rfl, hz1, g1⟩
  have s1 := g1.size
  have b1 := below_grow (Below.refl w.heap.size w) g1 (by omega)
  rcases hz1 with hz1 | ⟨hz1, hy1, hq1⟩
  · go_wp2_with fail
    go_ret
    exact ⟨rfl, b1⟩
  · have hl1 : l1 ≤ 1048576 := by omega
    have r0 := hq1
    obtain rfl := h0.len
    go_wp2_with fail
    refine (laws_szItemS _ _ _ z1 l1 _ (h1.grow (show Grow w w1 from b1)) (by omega) (by omega)).mono ?_; rintro e w2 ⟨l2, rfl, hz2, g2⟩
    have s2 := g2.size
    have b2 := below_grow b1 g2 (by omega)
    rcases hz2 with hz2 | ⟨hz2, hy2, hq2⟩
    · go_wp2_with fail
      go_ret
      exact ⟨rfl, b2⟩
    · have hl2 : l2 ≤ 1048576 := by omega
      have r1 : RS w w.heap.size a1 z1 := h1.rs_short hq2
      obtain rfl := h1.len
      clear h0 h1
      go_wp2_with fail
      refine (laws_toNodeS _ _ z0 _ (r0.far b2)).mono ?_; rintro e w3 ⟨v3, rfl, o3, g3⟩
      obtain ⟨A3, c3', rfl, _, _, _⟩ := o3.open_
      have s3 := g3.size
      have b3 := below_grow b2 g3 (by omega)
      go_wp2_with fail
      refine (laws_toItemS _ _ z1 _ (r1.far b3)).mono ?_; rintro e w4 ⟨v4, rfl, o4, g4⟩
      obtain ⟨A4, c4', rfl, _, _, _⟩ := o4.open_
      have s4 := g4.size
      have b4 := below_grow b3 g4 (by omega)
      have x3_4 := o3.grow g4
      clear o3
      go_wp2_with fail
      refine (spec_IsTreeOf _ _ z0 _ _ z1 a2 _ x3_4.ri o4.ri (by assumption) (by assumption)).mono ?_; rintro e w5 ⟨rfl, g5⟩
      have s5 := g5.size
      have b5 := below_grow b4 g5 (by omega)
      have x3_5 := x3_4.grow g5
      have x4_5 := o4.grow g5
      clear x3_4 o4
      go_wp2_with fail
      refine (laws_toNodeS _ _ z0 _ (r0.far b5)).mono ?_; rintro e w6 ⟨v6, rfl, o6, g6⟩
      obtain ⟨A6, c6', rfl, _, _, _⟩ := o6.open_
      have s6 := g6.size
      have b6 := below_grow b5 g6 (by omega)
      go_wp2_with fail
      refine (laws_toItemS _ _ z1 _ (r1.far b6)).mono ?_; rintro e w7 ⟨v7, rfl, o7, g7⟩
      obtain ⟨A7, c7', rfl, _, _, _⟩ := o7.open_
      have s7 := g7.size
      have b7 := below_grow b6 g7 (by omega)
      have x6_7 := o6.grow g7
      clear o6
      go_wp2_with fail
      refine (impl_IsTreeOf _ _ z0 _ _ z1 a2 _ x6_7.ri o7.ri (by assumption) (by assumption)).mono ?_; rintro e w8 ⟨rfl, g8⟩
      have s8 := g8.size
      have b8 := below_grow b7 g8 (by omega)
      have x6_8 := x6_7.grow g8
      have x7_8 := o7.grow g8
      clear x6_7 o7
      go_wp2_with fail
      refine (laws_toNodeS _ _ z0 _ (r0.far b8)).mono ?_; rintro e w9 ⟨v9, rfl, o9, g9⟩
      obtain ⟨A9, c9', rfl, _, _, _⟩ := o9.open_
      have s9 := g9.size
      have b9 := below_grow b8 g9 (by omega)
      have x6_9 := x6_8.grow g9
      have x7_9 := x7_8.grow g9
      clear x6_8 x7_8
      go_wp2_with fail
      refine (laws_eqNodeS_same _ _ _ _ z0 _ x6_9.ri o9.ri).mono ?_; rintro e w10 ⟨rfl, g10⟩
      have s10 := g10.size
      have b10 := below_grow b9 g10 (by omega)
      have x6_10 := x6_9.grow g10
      have x7_10 := x7_9.grow g10
      clear x6_9 x7_9
      go_wp2_with fail
      refine (laws_toItemS _ _ z1 _ (r1.far b10)).mono ?_; rintro e w11 ⟨v11, rfl, o11, g11⟩
      obtain ⟨A11, c11', rfl, _, _, _⟩ := o11.open_
      have s11 := g11.size
      have b11 := below_grow b10 g11 (by omega)
      have x6_11 := x6_10.grow g11
      have x7_11 := x7_10.grow g11
      clear x6_10 x7_10
      go_wp2_with fail
      refine (laws_eqItemS_same _ _ _ _ z1 _ x7_11.ri o11.ri).mono ?_; rintro e w12 ⟨rfl, g12⟩
      have s12 := g12.size
      have b12 := below_grow b11 g12 (by omega)
      have x6_12 := x6_11.grow g12
      have x7_12 := x7_11.grow g12
      clear x6_11 x7_11
      go_wp2_with fail
      go_ret
      exact ⟨rfl, b12⟩
end Go.Proofs.Ytebiaodjodlloaa
