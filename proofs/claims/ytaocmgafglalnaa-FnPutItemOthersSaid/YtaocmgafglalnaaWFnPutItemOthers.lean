/- The walk of the law FnPutItemOthers: it returns true, and writes nothing that was there. -/
import Derived.Test.YtaocmgafglalnaaSDraw6
import Derived.Test.YtaocmgafglalnaaSAid
import Derived.Test.YtaocmgafglalnaaPlainL
import Derived.Test.YtaocmgafglalnaaFrom
namespace Go.Proofs.Ytaocmgafglalnaa
set_option linter.unusedVariables false
open Go Go.RowKit

set_option maxHeartbeats 6400000 in
theorem walk_FnPutItemOthers (a0 : Option Addr) (n0 c0 : Nat) (x0 : List Int) (w : World) (h0 : ArgB w a0 n0 c0 x0) :
    Calls Try.prog 23 #[.slice a0 n0 c0] w fun e w' => e = .returned (.bool true) ∧ Below w.heap.size w w' := by
  by_cases hn : n0 ≤ 1048576
  · go_enter Try.func23, Try.ntmps23
    go_wp2_with fail
    refine (spec_DrawPutItem _ _ _ _ _ h0).mono ?_
    rintro e w1 ⟨A1, c1, l, B1, d1, y, rfl, f1, f2, ry, q1, g1⟩
    have hlc := q1.cap
    have hct := q1.top
    have hl17 := q1.few
    unfold maxLen at hct
    obtain ⟨w2, hw2⟩ : ∃ W, W = w1.alloc (.cells #[.int .i64 y.key, .slice B1 y.pt.length d1, .int .i64 y.tags] 53) := ⟨_, rfl⟩
    have k2 : Grow w1 w2 := by rw [hw2]; exact (Below.refl _ _).alloc (Nat.le_refl _) _
    have b2 : Blk w2 w1.heap.size 53 #[.int .i64 y.key, .slice B1 y.pt.length d1, .int .i64 y.tags] := by rw [hw2]; exact Blk.new _ _ _
    have q2 := q1.grow k2
    have y2 := ry.grow k2
    have HW := Lib.hid hw2
    clear hw2 h0
    go_wp2_with fail
    rw [← HW.out]
    refine (impl_PutItem _ _ l y _ _ _ q2.rs y2 f1 f2).mono ?_
    rintro e w3 ⟨v3, rfl, o3, g3⟩
    obtain ⟨A3, c3, rfl, _, _, _⟩ := o3.open_
    clear HW
    obtain ⟨p0, p1, p2, _⟩ := cells3 b2 g3
    go_wp2_with fail
    refine (spec_PutItem _ _ l y _ _ _ (q2.grow g3).rs (y2.grow g3) f1 f2).mono ?_
    rintro e w4 ⟨v4, rfl, o4, g4⟩
    obtain ⟨A4, c4, rfl, _, _, _⟩ := o4.open_
    clear p0 p1 p2
    go_wp2_with fail
    refine (laws_equalItems_same _ _ _ _ (putV l y) _ (o3.grow g4).ri o4.ri).mono ?_; rintro e w5 ⟨rfl, g5⟩
    have k5 : Grow w2 w5 := g3.trans (g4.trans g5)
    have o35 := o3.grow (g4.trans g5)
    have o45 := o4.grow g5
    have q5 := q2.grow k5
    have y5 := y2.grow k5
    have K5 : Grow w w5 := g1.trans (k2.trans k5)
    clear o3 o4
    cases hp : putOk l y
    · go_wp2_with fail
      refine (laws_equalItems_same _ _ _ _ (putV l y) _ o35.ri o45.ri).mono ?_; rintro e w6 ⟨rfl, g6⟩
      go_wp2_with fail
      go_ret
      exact ⟨rfl, K5.trans g6⟩
    · go_wp2_with fail
      go_loopw [9] (fun i wr => ∃ z : Int, i = .int .i64 z ∧ 1 ≤ z ∧ z ≤ 100 ∧ Grow w5 wr) (fun i _ => (100 - intOf i).toNat)
      case atStart => exact ⟨1, rfl, by omega, by omega, Grow.refl _⟩
      case round =>
        obtain ⟨z, rfl, z1, z2, kr⟩ := hrel
        by_cases hz : z ≤ 99
        · go_wp2_with fail
          refine (impl_GetItem _ _ l z _ (q5.grow kr).rs).mono ?_
          rintro e w6 ⟨u6, rfl, o6, g6⟩
          obtain ⟨A6, c6, rfl, _, _, _⟩ := o6.open_
          obtain ⟨w7, hw7⟩ : ∃ W, W = w6.alloc (.cells #[.int .i64 (getV l z).key, .slice A6 (getV l z).pt.length c6, .int .i64 (getV l z).tags] 53) := ⟨_, rfl⟩
          have g7 : Grow w6 w7 := by rw [hw7]; exact (Below.refl _ _).alloc (Nat.le_refl _) _
          have b7 : Blk w7 w6.heap.size 53 #[.int .i64 (getV l z).key, .slice A6 (getV l z).pt.length c6, .int .i64 (getV l z).tags] := by rw [hw7]; exact Blk.new _ _ _
          have HW := Lib.hid hw7
          have o67 := o6.grow g7
          have kr7 := kr.trans (g6.trans g7)
          have o37 := o35.grow kr7
          clear hw7 o6
          go_wp2_with fail
          rw [← HW.out]
          refine (impl_GetItem _ _ (putV l y) z _ o37.ri).mono ?_
          rintro e w8 ⟨u8, rfl, o8, g8⟩
          obtain ⟨A8, c8, rfl, _, _, _⟩ := o8.open_
          obtain ⟨w9, hw9⟩ : ∃ W, W = w8.alloc (.cells #[.int .i64 (getV (putV l y) z).key, .slice A8 (getV (putV l y) z).pt.length c8, .int .i64 (getV (putV l y) z).tags] 53) := ⟨_, rfl⟩
          have g9 : Grow w8 w9 := by rw [hw9]; exact (Below.refl _ _).alloc (Nat.le_refl _) _
          have b9 : Blk w9 w8.heap.size 53 #[.int .i64 (getV (putV l y) z).key, .slice A8 (getV (putV l y) z).pt.length c8, .int .i64 (getV (putV l y) z).tags] := by rw [hw9]; exact Blk.new _ _ _
          have HV := Lib.hid hw9
          have o89 := o8.grow g9
          have o69 := o67.grow (g8.trans g9)
          have kr9 := kr7.trans (g8.trans g9)
          obtain ⟨p0, p1, p2, _⟩ := cells3 b2 (k5.trans kr9)
          obtain ⟨s0, s1, s2, _⟩ := cells3 b7 (g8.trans g9)
          obtain ⟨r0, r1, r2, _⟩ := cells3 b9 (Grow.refl _)
          have hlt1 : w1.heap.size < w8.heap.size := by have := b2.lt; have := k5.size; have := kr7.size; have := g8.size; omega
          have hlt6 : w6.heap.size < w8.heap.size := by have := b7.lt; have := g8.size; omega
          have p0' : w8.cell? ⟨w1.heap.size, 0, none⟩ = some (.int .i64 y.key) := by rw [← p0]; exact (g9.cell hlt1).symm
          have s0' : w8.cell? ⟨w6.heap.size, 0, none⟩ = some (.int .i64 (getV l z).key) := by rw [← s0]; exact (g9.cell hlt6).symm
          have s1' : w8.cell? ⟨w6.heap.size, 1, none⟩ = some (.slice A6 (getV l z).pt.length c6) := by rw [← s1]; exact (g9.cell hlt6).symm
          have s2' : w8.cell? ⟨w6.heap.size, 2, none⟩ = some (.int .i64 (getV l z).tags) := by rw [← s2]; exact (g9.cell hlt6).symm
          clear hw9 o8 HW p0 s0 s1 s2
          by_cases hzk : z = y.key
          · have hne : (z != y.key) = false := by rw [hzk]; simp
            have HZ := Lib.hid hzk
            clear hzk
            go_wp2_with fail
            rw [← HV.out]
            go_roundw
            case rel => exact ⟨z + 1, rfl, by omega, by omega, kr9⟩
            case measure => simp [intOf]; omega
          · have hne : (z != y.key) = true := by simpa using hzk
            obtain ⟨t1, t2⟩ := law_others hp hzk
            clear hzk
            rw [t1] at r0 r1 r2 o89 HV ⊢
            rw [t2]
            clear t1 t2
            cases hd : dropOk l z
            all_goals
              go_wp2_with fail
              rw [← HV.out]
              refine (laws_equalItem_same (getV l z) _ _ _ _ _ o69.ri o89.ri).mono ?_; rintro e w10 ⟨rfl, g10⟩
              go_wp2_with fail
              go_roundw
              case rel => exact ⟨z + 1, rfl, by omega, by omega, kr9.trans g10⟩
              case measure => simp [intOf]; omega
        · go_wp2_with fail
          go_ret
          exact ⟨rfl, K5.trans kr⟩
  · go_enter Try.func23, Try.ntmps23
    go_wp2_with fail
    go_ret
    exact ⟨rfl, Below.refl _ _⟩
end Go.Proofs.Ytaocmgafglalnaa
