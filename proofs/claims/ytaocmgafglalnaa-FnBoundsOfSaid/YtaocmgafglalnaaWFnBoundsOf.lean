/- The walk of the law FnBoundsOf: it returns true, and writes nothing that was there. -/
import Derived.Test.YtaocmgafglalnaaSDraw5
import Derived.Test.YtaocmgafglalnaaSAid
import Derived.Test.YtaocmgafglalnaaPlainL
import Derived.Test.YtaocmgafglalnaaFrom
import Derived.Test.YtaocmgafglalnaaBox2
import Derived.Test.YtaocmgafglalnaaBox3
import Derived.Test.YtaocmgafglalnaaDraw
import Derived.Test.YtaocmgafglalnaaVec
namespace Go.Proofs.Ytaocmgafglalnaa
set_option linter.unusedVariables false
open Go Go.RowKit

theorem eqInts_same (A B : Option Addr) (xs : List Int) (c d : Nat) (w : World) (hx : RI w w.heap.size A xs) (hy : RI w w.heap.size B xs) :
    Calls Try.prog 38 #[.slice A xs.length c, .slice B xs.length d] w fun e w' => e = .returned (.bool true) ∧ Grow w w' := by
  have he := eqB_self xs
  refine (laws_equalInts A B xs xs c d w hx hy).mono ?_
  rintro e w' ⟨rfl, n, rfl⟩
  exact ⟨by rw [he], Grow.drewN _ _⟩
set_option maxHeartbeats 6400000 in
theorem walk_FnBoundsOf (a0 : Option Addr) (n0 c0 : Nat) (x0 : List Int) (w : World) (h0 : ArgB w a0 n0 c0 x0) :
    Calls Try.prog 17 #[.slice a0 n0 c0] w fun e w' => e = .returned (.bool true) ∧ Below w.heap.size w w' := by
  by_cases hn : n0 ≤ 1048576
  · go_enter Try.func17, Try.ntmps17
    go_wp2_with fail
    refine (spec_DrawBoundsOf _ _ _ _ _ h0).mono ?_
    rintro e w2 ⟨A1, c1, l, rfl, q2, g2⟩
    have hlc := q2.cap
    have hct := q2.top
    have hl17 := q2.few
    unfold maxLen at hct
    clear h0
    go_wp2_with fail
    refine (impl_BoundsOf _ _ l _ q2.rs).mono ?_
    rintro e w3 ⟨u3, v3, rfl, ⟨m3, _, _, o3, p3⟩, g3⟩
    obtain ⟨A3, c3, rfl, _, _, r3⟩ := o3.open_
    obtain ⟨B3, d3, rfl, _, _, s3⟩ := p3.open_
    clear o3 p3
    go_wp2_with fail
    refine (spec_BoundsOf _ _ l _ (q2.grow g3).rs).mono ?_
    rintro e w4 ⟨u4, v4, rfl, ⟨m4, _, _, o4, p4⟩, g4⟩
    obtain ⟨A4, c4, rfl, _, _, r4⟩ := o4.open_
    obtain ⟨B4, d4, rfl, _, _, s4⟩ := p4.open_
    clear o4 p4
    go_wp2_with fail
    refine (eqInts_same _ _ (lowV l) _ _ _ (r3.grow g4) r4).mono ?_; rintro e w5 ⟨rfl, g5⟩
    go_wp2_with fail
    refine (eqInts_same _ _ (highV l) _ _ _ (s3.grow (g4.trans g5)) (s4.grow g5)).mono ?_; rintro e w6 ⟨rfl, g6⟩
    have k6 : Grow w2 w6 := g3.trans (g4.trans (g5.trans g6))
    have K6 : Grow w w6 := g2.trans k6
    have q6 := q2.grow k6
    have r36 := r3.grow (g4.trans (g5.trans g6))
    have s36 := s3.grow (g4.trans (g5.trans g6))
    have r46 := r4.grow (g5.trans g6)
    have s46 := s4.grow (g5.trans g6)
    clear r3 s3 r4 s4
    cases hp : boundsOk l
    · go_wp2_with fail
      refine (eqInts_same _ _ (lowV l) _ _ _ r36 r46).mono ?_; rintro e w7 ⟨rfl, g7⟩
      go_wp2_with fail
      refine (eqInts_same _ _ (highV l) _ _ _ (s36.grow g7) (s46.grow g7)).mono ?_; rintro e w8 ⟨rfl, g8⟩
      go_wp2_with fail
      go_ret
      exact ⟨rfl, K6.trans (g7.trans g8)⟩
    · have HP := Lib.hid hp
      have hv1 := lowV_vec hp
      have hv2 := highV_vec hp
      have HB := Lib.hid (box_all hp)
      go_wp2_with fail
      refine (impl_InBox _ _ l _ _ (lowV l) _ _ (highV l) _ q6.rs r36 s36).mono ?_
      rintro e w7 ⟨v7, rfl, o7, g7⟩
      rw [HB.out] at o7
      obtain ⟨A7, c7, rfl, _, _, _⟩ := o7.open_
      rw [List.length_map]
      have heq : ((l.length : Int) == (l.length : Int)) = true := by simp
      clear o7
      go_wp2_with fail
      refine (impl_ValidVector _ (lowV l) _ _ (r36.grow g7)).mono ?_; rintro e w' ⟨rfl, rfl⟩
      rw [hv1]
      go_wp2_with fail
      refine (impl_ValidVector _ (highV l) _ _ (s36.grow g7)).mono ?_; rintro e w' ⟨rfl, rfl⟩
      rw [hv2]
      go_wp2_with fail
      go_ret
      exact ⟨rfl, K6.trans g7⟩
  · go_enter Try.func17, Try.ntmps17
    go_wp2_with fail
    go_ret
    exact ⟨rfl, Below.refl _ _⟩
end Go.Proofs.Ytaocmgafglalnaa
