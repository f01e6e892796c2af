/- The walk of the law FnValidStore: it returns true, and writes nothing that was there. -/
import Derived.Test.YtaocmgafglalnaaSDraw5
import Derived.Test.YtaocmgafglalnaaSAid
import Derived.Test.YtaocmgafglalnaaPlainL
import Derived.Test.YtaocmgafglalnaaFrom
import Derived.Test.YtaocmgafglalnaaShare
namespace Go.Proofs.Ytaocmgafglalnaa
set_option linter.unusedVariables false
open Go Go.RowKit

set_option maxRecDepth 100000 in
set_option maxHeartbeats 6400000 in
theorem walk_FnValidStore (a0 : Option Addr) (n0 c0 : Nat) (x0 : List Int) (w : World) (h0 : ArgB w a0 n0 c0 x0) :
    Calls Try.prog 8 #[.slice a0 n0 c0] w fun e w' => e = .returned (.bool true) ∧ Below w.heap.size w w' := by
  by_cases hn : n0 ≤ 1048576
  · go_enter Try.func8, Try.ntmps8
    go_wp2_with fail
    refine (spec_DrawValidStore _ _ _ _ _ h0).mono ?_
    rintro e w2 ⟨A1, c1, l, rfl, q2, g2⟩
    have hlc := q2.cap
    have hct := q2.top
    have hl17 := q2.few
    unfold maxLen at hct
    clear h0
    go_wp2_with fail
    refine (impl_ValidStore _ _ l _ q2.rs).mono ?_; rintro e w3 ⟨rfl, g3⟩
    go_wp2_with fail
    refine (spec_ValidStore _ _ l _ (q2.grow g3).rs).mono ?_; rintro e w4 ⟨rfl, g4⟩
    have k4 : Grow w2 w4 := g3.trans g4
    have K4 : Grow w w4 := g2.trans k4
    have q4 := q2.grow k4
    cases hs : storeB l
    · go_wp2_with fail
      refine (spec_ValidStore _ _ l _ q4.rs).mono ?_; rintro e w5 ⟨rfl, g5⟩
      rw [hs]
      go_wp2_with fail
      go_ret
      exact ⟨rfl, K4.trans g5⟩
    · by_cases hl0 : l.length = 0
      · have hz : ((l.length : Int) == 0) = true := by rw [hl0]; rfl
        have HL := Lib.hid hl0
        clear hl0
        go_wp2_with fail
        refine (spec_ValidStore _ _ l _ q4.rs).mono ?_; rintro e w5 ⟨rfl, g5⟩
        rw [hs]
        go_wp2_with fail
        go_ret
        exact ⟨rfl, K4.trans g5⟩
      · have hz : ((l.length : Int) == 0) = false := by rw [beq_eq_false_iff_ne]; omega
        have hz3 : 0 < l.length := by omega
        obtain ⟨q, t1, l1⟩ : ∃ q : Nat, (n0 : Int).tmod (l.length : Int) = (q : Int) ∧ q < l.length :=
          ⟨n0 % l.length, by rw [Int.tmod_eq_emod_of_nonneg (by omega)]; norm_cast, Nat.mod_lt _ hz3⟩
        have hsub : ((l.take q) ++ (l.drop (q + 1))).Sublist l := by
          have h1 := List.take_append_drop q l
          have h2 : (l.drop (q + 1)).Sublist (l.drop q) := by
            rw [show l.drop (q + 1) = (l.drop q).drop 1 by rw [List.drop_drop]]
            exact List.drop_sublist _ _
          have h3 := (List.Sublist.refl (l.take q)).append h2
          rwa [h1] at h3
        obtain ⟨L, hL⟩ : ∃ L, L = l.take q ++ l.drop (q + 1) := ⟨_, rfl⟩
        have HV := Lib.hid (show storeB L = true by rw [hL]; exact storeB_sub hs hsub)
        have hr := q4.rs
        obtain ⟨ad, _, _, _, rfl, _⟩ := hr.at_ (k := q) l1
        have hlt : (l.take q).length = q := by simp; omega
        have hld : (l.drop (q + 1)).length = l.length - (q + 1) := by simp
        have hLen : ((l.take q) ++ (l.drop (q + 1))).length ≤ 2000000 := by simp; omega
        have HT := Lib.hid hlt
        have HD := Lib.hid hld
        have HN := Lib.hid (show L.length ≤ 2000000 by rw [hL]; exact hLen)
        have HL := Lib.hid hL
        clear hL
        have l1' : (q : Int) < (l.length : Int) := by omega
        have hrt := hr.sub (n := q)
        have hrd := hr.cut (n := q + 1) (by omega) rfl
        clear hs hsub hlt hld hLen hl0
        by_cases hcn : c1 = q + 1
        · have HCN := Lib.hid hcn
          clear hcn
          go_wp2_with fail
          clear t1
          have hcn := HCN.out
          clear HCN
          subst hcn
          have b9 : l.length - (q + 1) = 0 := by omega
          have bA : ((l.length : Int) - ((q : Int) + 1)) = 0 := by omega
          have b7 : (q : Int) ≤ (q : Int) + 1 := by omega
          have HE := Lib.hid (show 0 = (l.drop (q + 1)).length by rw [HD.out]; omega)
          have hre : RS w4 w4.heap.size (some ad) (l.drop (q + 1)) := by
            rw [List.eq_nil_of_length_eq_zero HE.out.symm]; exact RS.nil_
          have b0 : (0 : Int) ≤ (q : Int) := by omega
          have b1 : (q : Int) ≤ ((q + 1 : Nat) : Int) := by omega
          have b2 : (0 : Int) ≤ (q : Int) + 1 := by omega
          have b3 : (q : Int) + 1 ≤ (l.length : Int) := by omega
          have b4 : (l.length : Int) ≤ ((q + 1 : Nat) : Int) := by omega
          have b5 : IntKind.i64.wrap ((q : Int) + 1) = (q : Int) + 1 := by rw [IntKind.wrap_i64]; omega
          have b6 : ((q : Int) + 1).toNat = q + 1 := by omega
          have g0d : Grow w4 (w4.alloc (.cells #[] 53)).drew := Grow.trans ((Below.refl _ _).alloc (Nat.le_refl _) _) (Grow.drew _)
          go_region_law (first
              | ((refine step_appendS (by rfl) (.tmp 35) (.tmp 38) (by rfl) (by rfl) (by rfl) HT.out.symm (Sh.lit w4 w4.heap.size).drew (hrt.keep g0d) (Nat.le_refl _) g0d.size (by simp) (by rw [HT.out]; omega) ?_; intro v5 w5 s5 b5; replace s5 : Sh w5 w4.heap.size w4.heap.size v5 (l.take q) := s5; have k5 : Grow w4 w5 := Below.trans g0d b5; have e5 := k5.size))
              | ((refine step_appendS (by rfl) (.tmp 39) (.tmp 43) (by rfl) (by rfl) (by rfl) HE.out s5 (hre.keep k5) (Nat.le_refl _) e5 (by rw [HT.out]; omega) (by rw [HD.out]; omega) ?_; intro v6 w6 s6 b6; rw [← HL.out] at s6; have k6 : Grow w4 w6 := Below.trans k5 b6; obtain ⟨A6, c6, rfl, r6⟩ := s6.rs k6.size HN.out))
              | ((refine step_valid (A := A6) (n := L.length) (c := c6) (l := L) (tys := #[38]) (by rfl) (.tmp 44) (by rfl) (by rfl) (by rfl) r6 HV.out ?_; intro w7 g7))
              | ((refine step_valid (A := none) (n := 0) (c := 0) (l := []) (tys := #[38]) (by rfl) (.const (.slice none 0 0)) (by rfl) (by rfl) (by rfl) RS.nil_ (by rfl) ?_; intro w8 g8)))
          go_wp2_with fail
          go_ret
          exact ⟨rfl, K4.trans (k6.trans (g7.trans g8))⟩
        · have hqc : q + 1 < c1 := by omega
          go_wp2_with fail
          clear t1
          have b0 : (0 : Int) ≤ (q : Int) := by omega
          have b1 : (q : Int) ≤ (c1 : Int) := by omega
          have b2 : (0 : Int) ≤ (q : Int) + 1 := by omega
          have b3 : (q : Int) + 1 ≤ (l.length : Int) := by omega
          have b4 : (l.length : Int) ≤ (c1 : Int) := by omega
          have b5 : IntKind.i64.wrap ((q : Int) + 1) = (q : Int) + 1 := by rw [IntKind.wrap_i64]; omega
          have b6 : ((q : Int) + 1).toNat = q + 1 := by omega
          have g0d : Grow w4 (w4.alloc (.cells #[] 53)).drew := Grow.trans ((Below.refl _ _).alloc (Nat.le_refl _) _) (Grow.drew _)
          go_region_law (first
              | ((refine step_appendS (by rfl) (.tmp 35) (.tmp 38) (by rfl) (by rfl) (by rfl) HT.out.symm (Sh.lit w4 w4.heap.size).drew (hrt.keep g0d) (Nat.le_refl _) g0d.size (by simp) (by rw [HT.out]; omega) ?_; intro v5 w5 s5 b5; replace s5 : Sh w5 w4.heap.size w4.heap.size v5 (l.take q) := s5; have k5 : Grow w4 w5 := Below.trans g0d b5; have e5 := k5.size))
              | ((refine step_appendS (by rfl) (.tmp 39) (.tmp 43) (by rfl) (by rfl) (by rfl) HD.out.symm s5 (hrd.keep k5) (Nat.le_refl _) e5 (by rw [HT.out]; omega) (by rw [HD.out]; omega) ?_; intro v6 w6 s6 b6; rw [← HL.out] at s6; have k6 : Grow w4 w6 := Below.trans k5 b6; obtain ⟨A6, c6, rfl, r6⟩ := s6.rs k6.size HN.out))
              | ((refine step_valid (A := A6) (n := L.length) (c := c6) (l := L) (tys := #[38]) (by rfl) (.tmp 44) (by rfl) (by rfl) (by rfl) r6 HV.out ?_; intro w7 g7))
              | ((refine step_valid (A := none) (n := 0) (c := 0) (l := []) (tys := #[38]) (by rfl) (.const (.slice none 0 0)) (by rfl) (by rfl) (by rfl) RS.nil_ (by rfl) ?_; intro w8 g8)))
          go_wp2_with fail
          go_ret
          exact ⟨rfl, K4.trans (k6.trans (g7.trans g8))⟩
  · go_enter Try.func8, Try.ntmps8
    go_wp2_with fail
    go_ret
    exact ⟨rfl, Below.refl _ _⟩
end Go.Proofs.Ytaocmgafglalnaa
