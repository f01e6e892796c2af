/- The walk of the law FnDropItemOrder: it returns true, and writes nothing that was there. -/
import Derived.Test.YtaocmgafglalnaaSDraw6
import Derived.Test.YtaocmgafglalnaaSAid
import Derived.Test.YtaocmgafglalnaaPlainL
import Derived.Test.YtaocmgafglalnaaFrom
namespace Go.Proofs.Ytaocmgafglalnaa
set_option linter.unusedVariables false
open Go Go.RowKit

set_option maxHeartbeats 6400000 in
theorem walk_FnDropItemOrder (a0 : Option Addr) (n0 c0 : Nat) (x0 : List Int) (w : World) (h0 : ArgB w a0 n0 c0 x0) :
    Calls Try.prog 24 #[.slice a0 n0 c0] w fun e w' => e = .returned (.bool true) ∧ Below w.heap.size w w' := by
  by_cases hn : n0 ≤ 1048576
  · go_enter Try.func24, Try.ntmps24
    go_wp2_with fail
    refine (spec_DrawDropItem _ _ _ _ _ h0).mono ?_
    rintro e w2 ⟨A1, c1, l, k, rfl, fk, q2, g2⟩
    have hlc := q2.cap
    have hct := q2.top
    have hl17 := q2.few
    unfold maxLen at hct
    unfold Fits at fk
    clear h0
    go_wp2_with fail
    refine (impl_DropItem _ _ l k _ q2.rs).mono ?_
    rintro e w3 ⟨v3, rfl, o3, g3⟩
    obtain ⟨A3, c3, rfl, _, _, _⟩ := o3.open_
    go_wp2_with fail
    refine (spec_DropItem _ _ l k _ (q2.grow g3).rs).mono ?_
    rintro e w4 ⟨v4, rfl, o4, g4⟩
    obtain ⟨A4, c4, rfl, _, _, _⟩ := o4.open_
    go_wp2_with fail
    refine (laws_equalItems_same _ _ _ _ (dropV l k) _ (o3.grow g4).ri o4.ri).mono ?_; rintro e w5 ⟨rfl, g5⟩
    have k5 : Grow w2 w5 := g3.trans (g4.trans g5)
    have o35 := o3.grow (g4.trans g5)
    have o45 := o4.grow g5
    have q5 := q2.grow k5
    have K5 : Grow w w5 := g2.trans k5
    clear o3 o4
    cases hp : dropOk l k
    · go_wp2_with fail
      refine (laws_equalItems_same _ _ _ _ (dropV l k) _ o35.ri o45.ri).mono ?_; rintro e w6 ⟨rfl, g6⟩
      go_wp2_with fail
      go_ret
      exact ⟨rfl, K5.trans g6⟩
    · by_cases hz : (dropV l k).length = 0
      · have hz' : (((dropV l k).length : Int) == 0) = true := by rw [hz]; rfl
        have HZ := Lib.hid hz
        clear hz
        go_wp2_with fail
        refine (laws_equalItems_same _ _ _ _ (dropV l k) _ o35.ri o45.ri).mono ?_; rintro e w6 ⟨rfl, g6⟩
        go_wp2_with fail
        go_ret
        exact ⟨rfl, K5.trans g6⟩
      · have hz' : (((dropV l k).length : Int) == 0) = false := by rw [beq_eq_false_iff_ne]; omega
        have hz3 : 0 < (dropV l k).length := by omega
        have h17 : (dropV l k).length ≤ 17 := by have := (law_back hp).2.2.2; omega
        clear hz
        obtain ⟨q, t1, l1⟩ : ∃ q : Nat, (n0 : Int).tmod ((dropV l k).length : Int) = (q : Int) ∧ q < (dropV l k).length :=
          ⟨n0 % (dropV l k).length, by rw [Int.tmod_eq_emod_of_nonneg (by omega)]; norm_cast, Nat.mod_lt _ hz3⟩
        obtain ⟨ad, Ak, ck, x, rfl, _, m0, _, _, _, _, _, fx, _, hx⟩ := o35.ri.at_ (k := q) l1
        obtain ⟨t2, t3, t4, t5⟩ := law_drops hp (hasK_iff.2 ⟨x, List.mem_of_getElem? hx.out, rfl⟩)
        have l1' : (q : Int) < ((dropV l k).length : Int) := by omega
        have HT := Lib.hid t5
        clear t5
        go_wp2_with fail
        clear t1 m0
        refine (impl_DropItem _ _ (dropV l k) x.key _ o35.ri).mono ?_
        rintro e w6 ⟨v6, rfl, o6, g6⟩
        rw [t2]
        obtain ⟨A6, c6, rfl, _, _, _⟩ := o6.open_
        go_wp2_with fail
        refine (impl_DropItem _ _ l x.key _ (q5.grow g6).rs).mono ?_
        rintro e w7 ⟨v7, rfl, o7, g7⟩
        rw [t3]
        obtain ⟨A7, c7, rfl, _, _, _⟩ := o7.open_
        go_wp2_with fail
        refine (impl_DropItem _ _ (dropV l x.key) k _ o7.ri).mono ?_
        rintro e w8 ⟨v8, rfl, o8, g8⟩
        rw [t4]
        rw [HT.out] at o8
        obtain ⟨A8, c8, rfl, _, _, _⟩ := o8.open_
        go_wp2_with fail
        refine (laws_equalItems_same _ _ _ _ _ _ (o6.grow (g7.trans g8)).ri o8.ri).mono ?_; rintro e w9 ⟨rfl, g9⟩
        go_wp2_with fail
        go_ret
        exact ⟨rfl, K5.trans (g6.trans (g7.trans (g8.trans g9)))⟩
  · go_enter Try.func24, Try.ntmps24
    go_wp2_with fail
    go_ret
    exact ⟨rfl, Below.refl _ _⟩
end Go.Proofs.Ytaocmgafglalnaa
