/- The walk of the law FnInBoxOne: it returns true, and writes nothing that was there. -/
import Derived.Test.YtbbiffaggnllnaaSDraw7
import Derived.Test.YtbbiffaggnllnaaNear2
import Derived.Test.YtbbiffaggnllnaaHLaw
import Derived.Test.YtbbiffaggnllnaaSAid
import Derived.Test.YtbbiffaggnllnaaBox3
import Derived.Test.YtbbiffaggnllnaaPlainM
namespace Go.Proofs.Ytbbiffaggnllnaa
set_option linter.unusedVariables false
open Go Go.RowKit

theorem eqInts_same (A B : Option Addr) (xs : List Int) (c d : Nat) (w : World) (hx : RI w w.heap.size A xs) (hy : RI w w.heap.size B xs) :
    Calls Try.prog 27 #[.slice A xs.length c, .slice B xs.length d] w fun e w' => e = .returned (.bool true) ∧ Grow w w' := by
  have he := eqB_self xs
  refine (laws_equalInts A B xs xs c d w hx hy).mono ?_
  rintro e w' ⟨rfl, n, rfl⟩
  exact ⟨by rw [he], Grow.drewN _ _⟩
set_option maxRecDepth 100000 in
set_option maxHeartbeats 1600000 in
theorem walk_FnInBoxOne (a0 : Option Addr) (n0 c0 : Nat) (x0 : List Int) (w : World) (h0 : ArgB w a0 n0 c0 x0) :
    Calls Try.prog 3 #[.slice a0 n0 c0] w fun e w' => e = .returned (.bool true) ∧ Below w.heap.size w w' := by
  by_cases hn : n0 ≤ 1048576
  · go_enter Try.func3, Try.ntmps3
    go_wp2_with fail
    refine (spec_DrawInBox _ _ _ _ _ h0).mono ?_
    rintro e w2 ⟨A1, c1, l, B1, d1, lo, C1, f1, hi, rfl, vlo, vhi, q2, g2⟩
    have hl17 := q2.few
    clear h0
    go_wp2_with fail
    refine (impl_InBox _ _ l _ _ lo _ _ hi _ q2.rs vlo.ri vhi.ri).mono ?_; rintro e w3 ⟨u3, rfl, o3, g3⟩
    obtain ⟨S, hS⟩ : ∃ S, S = boxV l lo hi := ⟨_, rfl⟩
    rw [← hS] at o3
    have HS := Lib.hid hS
    clear hS
    obtain ⟨A3, c3, rfl, _, _, _⟩ := o3.open_
    go_wp2_with fail
    refine (spec_InBox _ _ l _ _ lo _ _ hi _ (q2.grow g3).rs (vlo.grow g3).ri (vhi.grow g3).ri).mono ?_; rintro e w4 ⟨u4, rfl, o4, g4⟩
    rw [← HS.out] at o4
    obtain ⟨A4, c4, rfl, _, _, _⟩ := o4.open_
    go_wp2_with fail
    refine (eqInts_same _ _ S _ _ _ (o3.grow g4).ri o4.ri).mono ?_; rintro e w5 ⟨rfl, g5⟩
    have k5 : Grow w2 w5 := g3.trans (g4.trans g5)
    have K5 : Grow w w5 := g2.trans k5
    have q5 := q2.grow k5
    have vlo5 := vlo.grow k5
    have vhi5 := vhi.grow k5
    have o5 := (o3.grow g4).grow g5
    clear o3 o4 q2 vlo vhi
    go_wp2_with fail
    refine (impl_ValidStore _ _ l _ q5.rs).mono ?_; rintro e w6 ⟨he, g6⟩
    have K6 : Grow w w6 := K5.trans g6
    have q6 := q5.grow g6
    have vlo6 := vlo5.grow g6
    have vhi6 := vhi5.grow g6
    have o6 := o5.grow g6
    clear q5 vlo5 vhi5 o5
    cases hs : storeB l
    · rw [hs] at he; subst he
      go_wp2_with fail
      refine (spec_InBox _ _ l _ _ lo _ _ hi _ q6.rs vlo6.ri vhi6.ri).mono ?_; rintro e w7 ⟨u7, rfl, o7, g7⟩
      rw [← HS.out] at o7
      obtain ⟨A7, c7, rfl, _, _, _⟩ := o7.open_
      go_wp2_with fail
      refine (eqInts_same _ _ S _ _ _ (o6.grow g7).ri o7.ri).mono ?_; rintro e w8 ⟨rfl, g8⟩
      go_wp2_with fail
      go_ret
      exact ⟨rfl, K6.trans (g7.trans g8)⟩
    · have HST := Lib.hid hs
      rw [hs] at he; subst he
      clear hs
      go_wp2_with fail
      refine (impl_ValidVector _ lo _ _ vlo6.ri).mono ?_; rintro e w' ⟨he, rfl⟩
      cases hv : vecB lo 4
      · rw [hv] at he; subst he
        go_wp2_with fail
        refine (spec_InBox _ _ l _ _ lo _ _ hi _ q6.rs vlo6.ri vhi6.ri).mono ?_; rintro e w7 ⟨u7, rfl, o7, g7⟩
        rw [← HS.out] at o7
        obtain ⟨A7, c7, rfl, _, _, _⟩ := o7.open_
        go_wp2_with fail
        refine (eqInts_same _ _ S _ _ _ (o6.grow g7).ri o7.ri).mono ?_; rintro e w8 ⟨rfl, g8⟩
        go_wp2_with fail
        go_ret
        exact ⟨rfl, K6.trans (g7.trans g8)⟩
      · have hone := law_boxOne HST.out hv
        have HO := Lib.hid hone
        rw [hv] at he; subst he
        clear hone hv
        go_wp2_with fail
        refine (impl_InBox _ _ l _ _ lo _ _ lo _ q6.rs vlo6.ri vlo6.ri).mono ?_; rintro e w7 ⟨u7, rfl, o7, g7⟩
        obtain ⟨T, hT⟩ : ∃ T, T = boxV l lo lo := ⟨_, rfl⟩
        rw [← hT] at o7
        have HT := Lib.hid hT
        clear hT
        obtain ⟨A7, c7, rfl, _, _, _⟩ := o7.open_
        go_wp2_with fail
        refine (impl_WithinDist _ _ l 1 _ _ lo 0 _ (q6.grow g7).rs (vlo6.grow g7).ri).mono ?_; rintro e w8 ⟨u8, rfl, o8, g8⟩
        obtain ⟨F, hF⟩ : ∃ F, F = withinV l 1 lo 0 := ⟨_, rfl⟩
        rw [← hF] at o8
        have hF16 : F.length ≤ 1000 := by have := withinV_few (l := l) (kind := 1) (c := lo) (most := 0); rw [← hF] at this; omega
        have HF := Lib.hid hF
        clear hF
        obtain ⟨A8, c8, rfl, _, _, _⟩ := o8.open_
        go_wp2_with fail
        refine (laws_keys _ _ F _ o8.ri hF16).mono ?_; rintro e w9 ⟨u9, rfl, o9, g9⟩
        rw [HF.out, ← HO.out, ← HT.out] at o9
        obtain ⟨A9, c9, rfl, _, _, _⟩ := o9.open_
        go_wp2_with fail
        refine (eqInts_same _ _ T _ _ _ (o7.grow (g8.trans g9)).ri o9.ri).mono ?_; rintro e w10 ⟨rfl, g10⟩
        go_wp2_with fail
        go_ret
        exact ⟨rfl, K6.trans (g7.trans (g8.trans (g9.trans g10)))⟩
  · go_enter Try.func3, Try.ntmps3
    go_wp2_with fail
    go_ret
    exact ⟨rfl, Below.refl _ _⟩
end Go.Proofs.Ytbbiffaggnllnaa
