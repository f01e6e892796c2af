/- The walk of the law FnPutItem: it returns true, and writes nothing that was there. -/
import Derived.Test.YtaocmgafglalnaaSDraw6
import Derived.Test.YtaocmgafglalnaaSAid
import Derived.Test.YtaocmgafglalnaaPlainL
import Derived.Test.YtaocmgafglalnaaFrom
namespace Go.Proofs.Ytaocmgafglalnaa
set_option linter.unusedVariables false
open Go Go.RowKit

set_option maxHeartbeats 6400000 in
theorem walk_FnPutItem (a0 : Option Addr) (n0 c0 : Nat) (x0 : List Int) (w : World) (h0 : ArgB w a0 n0 c0 x0) :
    Calls Try.prog 22 #[.slice a0 n0 c0] w fun e w' => e = .returned (.bool true) ∧ Below w.heap.size w w' := by
  by_cases hn : n0 ≤ 1048576
  · go_enter Try.func22, Try.ntmps22
    go_wp2_with fail
    refine (spec_DrawPutItem _ _ _ _ _ h0).mono ?_
    rintro e w1 ⟨A1, c1, l, B1, d1, y, rfl, f1, f2, ry, q1, g1⟩
    have hlc := q1.cap
    have hct := q1.top
    have hl17 := q1.few
    unfold maxLen at hct
    obtain ⟨w2, hw2⟩ : ∃ W, W = w1.alloc (.cells #[.int .i64 y.key, .slice B1 y.pt.length d1, .int .i64 y.tags] 53) := ⟨_, rfl⟩
    have k2 : Grow w1 w2 := by rw [hw2]; exact (Below.refl _ _).alloc (Nat.le_refl _) _
    have b2 : Blk w2 w1.heap.size 53 #[.int .i64 y.key, .slice B1 y.pt.length d1, .int .i64 y.tags] := by rw [hw2]; exact Blk.new _ _ _
    have q2 := q1.grow k2
    have y2 := ry.grow k2
    have HW := Lib.hid hw2
    clear hw2 h0
    go_wp2_with fail
    rw [← HW.out]
    refine (impl_PutItem _ _ l y _ _ _ q2.rs y2 f1 f2).mono ?_
    rintro e w3 ⟨v3, rfl, o3, g3⟩
    obtain ⟨A3, c3, rfl, _, _, _⟩ := o3.open_
    clear HW
    obtain ⟨p0, p1, p2, _⟩ := cells3 b2 g3
    go_wp2_with fail
    refine (spec_PutItem _ _ l y _ _ _ (q2.grow g3).rs (y2.grow g3) f1 f2).mono ?_
    rintro e w4 ⟨v4, rfl, o4, g4⟩
    obtain ⟨A4, c4, rfl, _, _, _⟩ := o4.open_
    clear p0 p1 p2
    go_wp2_with fail
    refine (laws_equalItems_same _ _ _ _ (putV l y) _ (o3.grow g4).ri o4.ri).mono ?_; rintro e w5 ⟨rfl, g5⟩
    have k5 : Grow w2 w5 := g3.trans (g4.trans g5)
    have o35 := o3.grow (g4.trans g5)
    have o45 := o4.grow g5
    have q5 := q2.grow k5
    have y5 := y2.grow k5
    have K5 : Grow w w5 := g1.trans (k2.trans k5)
    clear o3 o4
    cases hp : putOk l y
    · go_wp2_with fail
      refine (laws_equalItems_same _ _ _ _ (putV l y) _ o35.ri o45.ri).mono ?_; rintro e w6 ⟨rfl, g6⟩
      go_wp2_with fail
      go_ret
      exact ⟨rfl, K5.trans g6⟩
    · obtain ⟨p0, p1, p2, _⟩ := cells3 b2 k5
      obtain ⟨t1, t2, t3, t4, t5⟩ := law_got hp
      go_wp2_with fail
      refine (impl_GetItem _ _ (putV l y) y.key _ o35.ri).mono ?_
      rintro e w6 ⟨u6, rfl, o6, g6⟩
      rw [t1] at o6 ⊢
      rw [t2]
      obtain ⟨A6, c6, rfl, _, _, _⟩ := o6.open_
      obtain ⟨w7, hw7⟩ : ∃ W, W = w6.alloc (.cells #[.int .i64 y.key, .slice A6 y.pt.length c6, .int .i64 y.tags] 53) := ⟨_, rfl⟩
      have g7 : Grow w6 w7 := by rw [hw7]; exact (Below.refl _ _).alloc (Nat.le_refl _) _
      have b7 : Blk w7 w6.heap.size 53 #[.int .i64 y.key, .slice A6 y.pt.length c6, .int .i64 y.tags] := by rw [hw7]; exact Blk.new _ _ _
      have k7 : Grow w5 w7 := g6.trans g7
      have HW := Lib.hid hw7
      have HT := Lib.hid t1
      clear hw7 p0 p1 p2 t1 t2
      obtain ⟨p0, p1, p2, _⟩ := cells3 b2 (k5.trans k7)
      obtain ⟨r0, r1, r2, _⟩ := cells3 b7 (Grow.refl _)
      have y7 := y5.grow k7
      have o37 := o35.grow k7
      have o67 := o6.grow g7
      have hlt1 : w1.heap.size < w6.heap.size := by have := b2.lt; have := k5.size; have := g6.size; omega
      have p0' : w6.cell? ⟨w1.heap.size, 0, none⟩ = some (.int .i64 y.key) := by rw [← p0]; exact (g7.cell hlt1).symm
      have p1' : w6.cell? ⟨w1.heap.size, 1, none⟩ = some (.slice B1 y.pt.length d1) := by rw [← p1]; exact (g7.cell hlt1).symm
      have p2' : w6.cell? ⟨w1.heap.size, 2, none⟩ = some (.int .i64 y.tags) := by rw [← p2]; exact (g7.cell hlt1).symm
      go_wp2_with fail
      rw [← HW.out]
      refine (laws_equalItem_same y _ _ _ _ _ o67.ri y7).mono ?_; rintro e w8 ⟨rfl, g8⟩
      clear p0 p1 p2 p0' p1' p2' r0 r1 r2
      go_wp2_with fail
      refine (impl_ValidStore _ _ _ _ (o37.grow g8).ri).mono ?_; rintro e w9 ⟨rfl, g9⟩
      rw [t3]
      have h17 : (putV l y).length ≤ 18 := by omega
      go_wp2_with fail
      go_ret
      exact ⟨ret_bool (decide_eq_true (by omega)), K5.trans (k7.trans (g8.trans g9))⟩
  · go_enter Try.func22, Try.ntmps22
    go_wp2_with fail
    go_ret
    exact ⟨rfl, Below.refl _ _⟩
end Go.Proofs.Ytaocmgafglalnaa
