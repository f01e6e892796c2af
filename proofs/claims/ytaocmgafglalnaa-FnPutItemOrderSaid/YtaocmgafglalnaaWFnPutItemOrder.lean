/- The walk of the law FnPutItemOrder: it returns true, and writes nothing that was there. -/
import Derived.Test.YtaocmgafglalnaaSDraw6
import Derived.Test.YtaocmgafglalnaaSAid
import Derived.Test.YtaocmgafglalnaaPlainL
import Derived.Test.YtaocmgafglalnaaFrom
namespace Go.Proofs.Ytaocmgafglalnaa
set_option linter.unusedVariables false
open Go Go.RowKit

set_option maxHeartbeats 6400000 in
theorem walk_FnPutItemOrder (a0 : Option Addr) (n0 c0 : Nat) (x0 : List Int) (w : World) (h0 : ArgB w a0 n0 c0 x0) :
    Calls Try.prog 14 #[.slice a0 n0 c0] w fun e w' => e = .returned (.bool true) ∧ Below w.heap.size w w' := by
  by_cases hn : n0 ≤ 1048576
  · go_enter Try.func14, Try.ntmps14
    go_wp2_with fail
    refine (spec_DrawPutItem _ _ _ _ _ h0).mono ?_
    rintro e w1 ⟨A1, c1, l, B1, d1, y, rfl, f1, f2, ry, q1, g1⟩
    have hlc := q1.cap
    have hct := q1.top
    have hl17 := q1.few
    unfold maxLen at hct
    obtain ⟨w2, hw2⟩ : ∃ W, W = w1.alloc (.cells #[.int .i64 y.key, .slice B1 y.pt.length d1, .int .i64 y.tags] 53) := ⟨_, rfl⟩
    have k2 : Grow w1 w2 := by rw [hw2]; exact (Below.refl _ _).alloc (Nat.le_refl _) _
    have b2 : Blk w2 w1.heap.size 53 #[.int .i64 y.key, .slice B1 y.pt.length d1, .int .i64 y.tags] := by rw [hw2]; exact Blk.new _ _ _
    have q2 := q1.grow k2
    have y2 := ry.grow k2
    have HW := Lib.hid hw2
    clear hw2 h0
    go_wp2_with fail
    rw [← HW.out]
    refine (impl_PutItem _ _ l y _ _ _ q2.rs y2 f1 f2).mono ?_
    rintro e w3 ⟨v3, rfl, o3, g3⟩
    obtain ⟨A3, c3, rfl, _, _, _⟩ := o3.open_
    clear HW
    obtain ⟨p0, p1, p2, _⟩ := cells3 b2 g3
    go_wp2_with fail
    refine (spec_PutItem _ _ l y _ _ _ (q2.grow g3).rs (y2.grow g3) f1 f2).mono ?_
    rintro e w4 ⟨v4, rfl, o4, g4⟩
    obtain ⟨A4, c4, rfl, _, _, _⟩ := o4.open_
    clear p0 p1 p2
    go_wp2_with fail
    refine (laws_equalItems_same _ _ _ _ (putV l y) _ (o3.grow g4).ri o4.ri).mono ?_; rintro e w5 ⟨rfl, g5⟩
    have k5 : Grow w2 w5 := g3.trans (g4.trans g5)
    have o35 := o3.grow (g4.trans g5)
    have o45 := o4.grow g5
    have q5 := q2.grow k5
    have y5 := y2.grow k5
    have K5 : Grow w w5 := g1.trans (k2.trans k5)
    clear o3 o4
    cases hp : putOk l y
    · go_wp2_with fail
      refine (laws_equalItems_same _ _ _ _ (putV l y) _ o35.ri o45.ri).mono ?_; rintro e w6 ⟨rfl, g6⟩
      go_wp2_with fail
      go_ret
      exact ⟨rfl, K5.trans g6⟩
    by_cases hk50 : y.key = 50
    · obtain ⟨p0, p1, p2, _⟩ := cells3 b2 k5
      have hz : (y.key == 50) = true := by rw [hk50]; rfl
      have H5 := Lib.hid hk50
      clear hk50
      go_wp2_with fail
      refine (laws_equalItems_same _ _ _ _ (putV l y) _ o35.ri o45.ri).mono ?_; rintro e w6 ⟨rfl, g6⟩
      go_wp2_with fail
      go_ret
      exact ⟨rfl, K5.trans g6⟩
    · have hz : (y.key == 50) = false := by rw [beq_eq_false_iff_ne]; exact hk50
      obtain ⟨p0, p1, p2, _⟩ := cells3 b2 k5
      have HO := Lib.hid (law_order (y := ⟨50, [4, 3, 2, 1], 0⟩) hp hk50)
      clear hk50
      have o := lit_ri w5 [4, 3, 2, 1] (by decide) (by decide)
      have kA : Grow w5 (w5.alloc (.cells #[.int .i64 4, .int .i64 3, .int .i64 2, .int .i64 1] 3)) := (Below.refl _ _).alloc (Nat.le_refl _) _
      obtain ⟨w6, hw6⟩ : ∃ W, W = (w5.alloc (.cells #[.int .i64 4, .int .i64 3, .int .i64 2, .int .i64 1] 3)).alloc (.cells #[.int .i64 50, .slice (some ⟨w5.heap.size, 0, none⟩) 4 4, .int .i64 0] 53) := ⟨_, rfl⟩
      have kB : Grow (w5.alloc (.cells #[.int .i64 4, .int .i64 3, .int .i64 2, .int .i64 1] 3)) w6 := by rw [hw6]; exact (Below.refl _ _).alloc (Nat.le_refl _) _
      have b6 : Blk w6 (w5.heap.size + 1) 53 #[.int .i64 50, .slice (some ⟨w5.heap.size, 0, none⟩) 4 4, .int .i64 0] := by
        have hb := Blk.new (w5.alloc (.cells #[.int .i64 4, .int .i64 3, .int .i64 2, .int .i64 1] 3)) 53 #[.int .i64 50, .slice (some ⟨w5.heap.size, 0, none⟩) 4 4, .int .i64 0]
        rw [World.size_alloc] at hb
        rw [hw6]; exact hb
      have y6 : RI w6 w6.heap.size (some ⟨w5.heap.size, 0, none⟩) [4, 3, 2, 1] := o.ri.grow kB
      have k6 : Grow w5 w6 := kA.trans kB
      have HW := Lib.hid hw6
      have o6 := o35.grow k6
      have q6 := q5.grow k6
      clear hw6 o kA kB
      go_wp2_with fail
      rw [← HW.out]
      refine (impl_PutItem _ _ (putV l y) ⟨50, [4, 3, 2, 1], 0⟩ _ _ _ o6.ri y6 (by constructor <;> (try simp only []) <;> omega) (by constructor <;> (try simp only []) <;> omega)).mono ?_
      rintro e w7 ⟨v7, rfl, o7, g7⟩
      obtain ⟨A7, c7, rfl, _, _, _⟩ := o7.open_
      clear HW p0 p1 p2
      obtain ⟨p0, p1, p2, _⟩ := cells3 b6 g7
      go_wp2_with fail
      refine (impl_PutItem _ _ l ⟨50, [4, 3, 2, 1], 0⟩ _ _ _ (q6.grow g7).rs (y6.grow g7) (by constructor <;> (try simp only []) <;> omega) (by constructor <;> (try simp only []) <;> omega)).mono ?_
      rintro e w8 ⟨v8, rfl, o8, g8⟩
      obtain ⟨A8, c8, rfl, _, _, _⟩ := o8.open_
      clear p0 p1 p2
      obtain ⟨p0, p1, p2, _⟩ := cells3 b2 (k5.trans (k6.trans (g7.trans g8)))
      go_wp2_with fail
      refine (impl_PutItem _ _ (putV l ⟨50, [4, 3, 2, 1], 0⟩) y _ _ _ o8.ri (y5.grow (k6.trans (g7.trans g8))) f1 f2).mono ?_
      rintro e w9 ⟨v9, rfl, o9, g9⟩
      obtain ⟨A9, c9, rfl, _, _, _⟩ := o9.open_
      have K9 : Grow w w9 := K5.trans (k6.trans (g7.trans (g8.trans g9)))
      have o79 := o7.grow (g8.trans g9)
      clear p0 p1 p2 o7
      cases h1 : putOk (putV l y) ⟨50, [4, 3, 2, 1], 0⟩
      · go_wp2_with fail
        go_ret
        exact ⟨rfl, K9⟩
      · cases h2 : putOk l ⟨50, [4, 3, 2, 1], 0⟩
        · go_wp2_with fail
          go_ret
          exact ⟨rfl, K9⟩
        · obtain ⟨t1, t2⟩ := HO.out h1 h2
          rw [t1]
          rw [t2] at o9 ⊢
          go_wp2_with fail
          refine (laws_equalItems_same _ _ _ _ _ _ o79.ri o9.ri).mono ?_; rintro e w10 ⟨rfl, g10⟩
          go_wp2_with fail
          go_ret
          exact ⟨rfl, K9.trans g10⟩
  · go_enter Try.func14, Try.ntmps14
    go_wp2_with fail
    go_ret
    exact ⟨rfl, Below.refl _ _⟩
end Go.Proofs.Ytaocmgafglalnaa
