/- The walk of the law FnDropItem: it returns true, and writes nothing that was there. -/
import Derived.Test.YtaocmgafglalnaaSDraw6
import Derived.Test.YtaocmgafglalnaaSAid
import Derived.Test.YtaocmgafglalnaaPlainL
import Derived.Test.YtaocmgafglalnaaFrom
namespace Go.Proofs.Ytaocmgafglalnaa
set_option linter.unusedVariables false
open Go Go.RowKit

set_option maxHeartbeats 6400000 in
theorem walk_FnDropItem (a0 : Option Addr) (n0 c0 : Nat) (x0 : List Int) (w : World) (h0 : ArgB w a0 n0 c0 x0) :
    Calls Try.prog 26 #[.slice a0 n0 c0] w fun e w' => e = .returned (.bool true) ∧ Below w.heap.size w w' := by
  by_cases hn : n0 ≤ 1048576
  · go_enter Try.func26, Try.ntmps26
    go_wp2_with fail
    refine (spec_DrawDropItem _ _ _ _ _ h0).mono ?_
    rintro e w2 ⟨A1, c1, l, k, rfl, fk, q2, g2⟩
    have hlc := q2.cap
    have hct := q2.top
    have hl17 := q2.few
    unfold maxLen at hct
    unfold Fits at fk
    clear h0
    go_wp2_with fail
    refine (impl_DropItem _ _ l k _ q2.rs).mono ?_
    rintro e w3 ⟨v3, rfl, o3, g3⟩
    obtain ⟨A3, c3, rfl, _, _, _⟩ := o3.open_
    go_wp2_with fail
    refine (spec_DropItem _ _ l k _ (q2.grow g3).rs).mono ?_
    rintro e w4 ⟨v4, rfl, o4, g4⟩
    obtain ⟨A4, c4, rfl, _, _, _⟩ := o4.open_
    go_wp2_with fail
    refine (laws_equalItems_same _ _ _ _ (dropV l k) _ (o3.grow g4).ri o4.ri).mono ?_; rintro e w5 ⟨rfl, g5⟩
    have k5 : Grow w2 w5 := g3.trans (g4.trans g5)
    have o35 := o3.grow (g4.trans g5)
    have o45 := o4.grow g5
    have q5 := q2.grow k5
    have K5 : Grow w w5 := g2.trans k5
    clear o3 o4
    cases hp : dropOk l k
    · go_wp2_with fail
      refine (laws_equalItems_same _ _ _ _ (dropV l k) _ o35.ri o45.ri).mono ?_; rintro e w6 ⟨rfl, g6⟩
      go_wp2_with fail
      go_ret
      exact ⟨rfl, K5.trans g6⟩
    · obtain ⟨t1, t2, t3, t4⟩ := law_back hp
      have fit := item_fits (putOk_iff.1 t2).2.1
      have HT := Lib.hid t3
      clear t3
      go_wp2_with fail
      refine (impl_GetItem _ _ l k _ q5.rs).mono ?_
      rintro e w6 ⟨u6, rfl, o6, g6⟩
      rw [hp]
      obtain ⟨A6, c6, rfl, _, _, _⟩ := o6.open_
      obtain ⟨w7, hw7⟩ : ∃ W, W = w6.alloc (.cells #[.int .i64 (getV l k).key, .slice A6 (getV l k).pt.length c6, .int .i64 (getV l k).tags] 53) := ⟨_, rfl⟩
      have g7 : Grow w6 w7 := by rw [hw7]; exact (Below.refl _ _).alloc (Nat.le_refl _) _
      have b7 : Blk w7 w6.heap.size 53 #[.int .i64 (getV l k).key, .slice A6 (getV l k).pt.length c6, .int .i64 (getV l k).tags] := by rw [hw7]; exact Blk.new _ _ _
      have HW := Lib.hid hw7
      have o67 := o6.grow g7
      have k7 : Grow w5 w7 := g6.trans g7
      have o37 := o35.grow k7
      clear hw7 o6
      go_wp2_with fail
      rw [← HW.out]
      refine (impl_GetItem _ _ (dropV l k) k _ o37.ri).mono ?_
      rintro e w8 ⟨u8, rfl, o8, g8⟩
      rw [t1]
      obtain ⟨A8, c8, rfl, _, _, _⟩ := o8.open_
      obtain ⟨w9, hw9⟩ : ∃ W, W = w8.alloc (.cells #[.int .i64 (getV (dropV l k) k).key, .slice A8 (getV (dropV l k) k).pt.length c8, .int .i64 (getV (dropV l k) k).tags] 53) := ⟨_, rfl⟩
      have g9 : Grow w8 w9 := by rw [hw9]; exact (Below.refl _ _).alloc (Nat.le_refl _) _
      have HV := Lib.hid hw9
      have k9 : Grow w7 w9 := g8.trans g9
      have hlt6 : w6.heap.size < w8.heap.size := by have := b7.lt; have := g8.size; omega
      obtain ⟨s0, s1, s2, _⟩ := cells3 b7 g8
      obtain ⟨s0', s1', s2', _⟩ := cells3 b7 k9
      clear hw9 o8 HW
      go_wp2_with fail
      rw [← HV.out]
      refine (impl_PutItem _ _ (dropV l k) (getV l k) _ _ _ (o37.grow k9).ri (o67.grow k9).ri fit.1 fit.2).mono ?_
      rintro e w10 ⟨v10, rfl, o10, g10⟩
      rw [HT.out] at o10
      rw [t2]
      obtain ⟨A10, c10, rfl, _, _, _⟩ := o10.open_
      have K10 : Grow w5 w10 := k7.trans (k9.trans g10)
      clear s0 s1 s2 s0' s1' s2' HV
      go_wp2_with fail
      refine (laws_equalItems_same _ _ _ _ l _ o10.ri (q5.grow K10).rs).mono ?_; rintro e w11 ⟨rfl, g11⟩
      have HL := Lib.hid t4
      have h17 : (dropV l k).length ≤ 17 := by omega
      clear t4
      go_wp2_with fail
      go_ret
      exact ⟨ret_bool (by have := HL.out; simp; omega), K5.trans (K10.trans g11)⟩
  · go_enter Try.func26, Try.ntmps26
    go_wp2_with fail
    go_ret
    exact ⟨rfl, Below.refl _ _⟩
end Go.Proofs.Ytaocmgafglalnaa
