/- The walk of the exact law on ClosestPair: it returns true, and writes nothing that was there. -/
import Derived.Test.YtaocmgafglalnaaSMark
import Derived.Test.YtaocmgafglalnaaPair2
import Derived.Test.YtaocmgafglalnaaSAid
namespace Go.Proofs.Ytaocmgafglalnaa
set_option linter.unusedVariables false
open Go Go.RowKit

set_option maxHeartbeats 6400000 in
theorem walk_FnExactClosestPair (a0 : Option Addr) (n0 c0 : Nat) (z0 : List It) (a1 : Int) (w : World) (h0 : ArgS w a0 n0 c0 z0) (h1 : -9223372036854775808 ≤ a1 ∧ a1 ≤ 9223372036854775807) :
    Calls Try.prog 11 #[.slice a0 n0 c0, .int .i64 a1] w fun e w' => e = .returned (.bool true) ∧ Below w.heap.size w w' := by
  go_enter Try.func11, Try.ntmps11
  go_wp2_with fail
  refine (laws_szItemS _ _ _ z0 1048576 _ h0 (by omega) (by omega)).mono ?_; rintro e w1 ⟨l1, rfl, hz1, g1⟩
  have s1 := g1.size
  have b1 := below_grow (Below.refl w.heap.size w) g1 (by omega)
  rcases hz1 with hz1 | ⟨hz1, hy1, hq1⟩
  · go_wp2_with fail
    go_ret
    exact ⟨rfl, b1⟩
  · have hl1 : l1 ≤ 1048576 := by omega
    have r0 := hq1
    obtain rfl := h0.len
    clear h0
    go_wp2_with fail
    refine (laws_toItemS _ _ z0 _ (r0.far b1)).mono ?_; rintro e w2 ⟨v2, rfl, o2, g2⟩
    obtain ⟨A2, c2', rfl, _, _, _⟩ := o2.open_
    have s2 := g2.size
    have b2 := below_grow b1 g2 (by omega)
    go_wp2_with fail
    refine (spec_ClosestPair _ _ z0 a1 _ o2.ri).mono ?_; rintro e w3 ⟨rfl, g3⟩
    have s3 := g3.size
    have b3 := below_grow b2 g3 (by omega)
    have x2_3 := o2.grow g3
    clear o2
    go_wp2_with fail
    refine (laws_toItemS _ _ z0 _ (r0.far b3)).mono ?_; rintro e w4 ⟨v4, rfl, o4, g4⟩
    obtain ⟨A4, c4', rfl, _, _, _⟩ := o4.open_
    have s4 := g4.size
    have b4 := below_grow b3 g4 (by omega)
    go_wp2_with fail
    refine (impl_ClosestPair _ _ z0 a1 _ o4.ri (by assumption) (by assumption)).mono ?_; rintro e w5 ⟨rfl, g5⟩
    have s5 := g5.size
    have b5 := below_grow b4 g5 (by omega)
    have x4_5 := o4.grow g5
    clear o4
    go_wp2_with fail
    refine (laws_toItemS _ _ z0 _ (r0.far b5)).mono ?_; rintro e w6 ⟨v6, rfl, o6, g6⟩
    obtain ⟨A6, c6', rfl, _, _, _⟩ := o6.open_
    have s6 := g6.size
    have b6 := below_grow b5 g6 (by omega)
    have x4_6 := x4_5.grow g6
    clear x4_5
    go_wp2_with fail
    refine (laws_eqItemS_same _ _ _ _ z0 _ x4_6.ri o6.ri).mono ?_; rintro e w7 ⟨rfl, g7⟩
    have s7 := g7.size
    have b7 := below_grow b6 g7 (by omega)
    have x4_7 := x4_6.grow g7
    clear x4_6
    go_wp2_with fail
    go_ret
    exact ⟨rfl, b7⟩
end Go.Proofs.Ytaocmgafglalnaa
