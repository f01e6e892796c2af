/- The walk of the law FnBoundsOfPut: it returns true, and writes nothing that was there. -/
import Derived.Test.YtaocmgafglalnaaSDraw6
import Derived.Test.YtaocmgafglalnaaSAid
import Derived.Test.YtaocmgafglalnaaPlainL
import Derived.Test.YtaocmgafglalnaaFrom
import Derived.Test.YtaocmgafglalnaaBox2
import Derived.Test.YtaocmgafglalnaaPlainB
namespace Go.Proofs.Ytaocmgafglalnaa
set_option linter.unusedVariables false
open Go Go.RowKit

set_option maxHeartbeats 6400000 in
theorem walk_FnBoundsOfPut (a0 : Option Addr) (n0 c0 : Nat) (x0 : List Int) (w : World) (h0 : ArgB w a0 n0 c0 x0) :
    Calls Try.prog 20 #[.slice a0 n0 c0] w fun e w' => e = .returned (.bool true) ∧ Below w.heap.size w w' := by
  by_cases hn : n0 ≤ 1048576
  · go_enter Try.func20, Try.ntmps20
    go_wp2_with fail
    refine (spec_DrawPutItem _ _ _ _ _ h0).mono ?_
    rintro e w1 ⟨A1, c1, l, B1, d1, y, rfl, f1, f2, ry, q1, g1⟩
    have hlc := q1.cap
    have hct := q1.top
    have hl17 := q1.few
    unfold maxLen at hct
    obtain ⟨w2, hw2⟩ : ∃ W, W = w1.alloc (.cells #[.int .i64 y.key, .slice B1 y.pt.length d1, .int .i64 y.tags] 53) := ⟨_, rfl⟩
    have k2 : Grow w1 w2 := by rw [hw2]; exact (Below.refl _ _).alloc (Nat.le_refl _) _
    have b2 : Blk w2 w1.heap.size 53 #[.int .i64 y.key, .slice B1 y.pt.length d1, .int .i64 y.tags] := by rw [hw2]; exact Blk.new _ _ _
    have q2 := q1.grow k2
    have y2 := ry.grow k2
    have HW := Lib.hid hw2
    clear hw2 h0
    go_wp2_with fail
    rw [← HW.out]
    refine (impl_PutItem _ _ l y _ _ _ q2.rs y2 f1 f2).mono ?_
    rintro e w3 ⟨v3, rfl, o3, g3⟩
    obtain ⟨A3, c3, rfl, _, _, _⟩ := o3.open_
    clear HW
    obtain ⟨p0, p1, p2, _⟩ := cells3 b2 g3
    go_wp2_with fail
    refine (spec_PutItem _ _ l y _ _ _ (q2.grow g3).rs (y2.grow g3) f1 f2).mono ?_
    rintro e w4 ⟨v4, rfl, o4, g4⟩
    obtain ⟨A4, c4, rfl, _, _, _⟩ := o4.open_
    clear p0 p1 p2
    go_wp2_with fail
    refine (laws_equalItems_same _ _ _ _ (putV l y) _ (o3.grow g4).ri o4.ri).mono ?_; rintro e w5 ⟨rfl, g5⟩
    have k5 : Grow w2 w5 := g3.trans (g4.trans g5)
    have o35 := o3.grow (g4.trans g5)
    have o45 := o4.grow g5
    have q5 := q2.grow k5
    have y5 := y2.grow k5
    have K5 : Grow w w5 := g1.trans (k2.trans k5)
    clear o3 o4
    cases hp : putOk l y
    · go_wp2_with fail
      refine (laws_equalItems_same _ _ _ _ (putV l y) _ o35.ri o45.ri).mono ?_; rintro e w6 ⟨rfl, g6⟩
      go_wp2_with fail
      go_ret
      exact ⟨rfl, K5.trans g6⟩
    · have hpn := law_got hp
      have hp17 : (putV l y).length ≤ 18 := by have := hpn.2.2.2.2; omega
      clear hpn
      by_cases hl0 : l.length = 0
      · have hz : ((l.length : Int) == 0) = true := by rw [hl0]; rfl
        have HL := Lib.hid hl0
        clear hl0
        go_wp2_with fail
        refine (laws_equalItems_same _ _ _ _ (putV l y) _ o35.ri o45.ri).mono ?_; rintro e w6 ⟨rfl, g6⟩
        go_wp2_with fail
        go_ret
        exact ⟨rfl, K5.trans g6⟩
      · have hz : ((l.length : Int) == 0) = false := by rw [beq_eq_false_iff_ne]; omega
        by_cases hll : (putV l y).length = l.length
        · have hz2 : (((putV l y).length : Int) == (l.length : Int)) = true := by rw [hll]; simp
          have HL := Lib.hid hll
          clear hll
          go_wp2_with fail
          refine (laws_equalItems_same _ _ _ _ (putV l y) _ o35.ri o45.ri).mono ?_; rintro e w6 ⟨rfl, g6⟩
          go_wp2_with fail
          go_ret
          exact ⟨rfl, K5.trans g6⟩
        · have hz2 : (((putV l y).length : Int) == (l.length : Int)) = false := by rw [beq_eq_false_iff_ne]; omega
          obtain ⟨t1, t2, t3⟩ := bounds_put hp (by omega) hll
          have HB := Lib.hid t3
          have s1 := Lib.hid (vecB_four (lowV_vec t1))
          have s2 := Lib.hid (vecB_four (highV_vec t1))
          have s3 := Lib.hid (vecB_four (lowV_vec t2))
          have s4 := Lib.hid (vecB_four (highV_vec t2))
          have s5 := Lib.hid (vecB_four (itemB_iff.1 (putOk_iff.1 hp).2.1).2.1)
          clear t3 hl0 hll
          go_wp2_with fail
          refine (impl_BoundsOf _ _ l _ q5.rs).mono ?_
          rintro e w6 ⟨u6, v6, rfl, ⟨m6, _, _, o6, r6⟩, g6⟩
          rw [t1]
          obtain ⟨A6, c6, rfl, _, _, ra⟩ := o6.open_
          obtain ⟨B6, d6, rfl, _, _, rb⟩ := r6.open_
          clear o6 r6
          go_wp2_with fail
          refine (impl_BoundsOf _ _ (putV l y) _ (o35.grow g6).ri).mono ?_
          rintro e w7 ⟨u7, v7, rfl, ⟨m7, _, _, o7, r7⟩, g7⟩
          rw [t2]
          obtain ⟨A7, c7, rfl, _, _, rc⟩ := o7.open_
          obtain ⟨B7, d7, rfl, _, _, rd⟩ := r7.open_
          have k7 : Grow w5 w7 := g6.trans g7
          have ra7 := ra.grow g7
          have rb7 := rb.grow g7
          have y7 := y5.grow k7
          clear o7 r7 ra rb t1 t2 hp
          go_wp2_with fail
          go_loopw [15] (fun k wr => ∃ c : Nat, c ≤ 4 ∧ k = .int .i64 c ∧ Grow w7 wr) (fun k _ => 4 - (intOf k).toNat)
          case atStart => exact ⟨0, by omega, rfl, Grow.refl _⟩
          case round =>
            obtain ⟨c, hc, rfl, kr⟩ := hrel
            by_cases hc4 : c < 4
            · obtain ⟨pd, p, rfl, hpb, hcp, p1, p2, hkp⟩ := (rc.grow kr).at_ (k := c) (by rw [s3.out]; omega)
              obtain ⟨qd, q, rfl, hqb, hcq, q1, q2, hkq⟩ := (rd.grow kr).at_ (k := c) (by rw [s4.out]; omega)
              obtain ⟨rd', r, rfl, hrb, hcr, r1, r2, hkr⟩ := (ra7.grow kr).at_ (k := c) (by rw [s1.out]; omega)
              obtain ⟨sd, s, rfl, hsb, hcs, s1', s2', hks⟩ := (rb7.grow kr).at_ (k := c) (by rw [s2.out]; omega)
              obtain ⟨td, t, rfl, htb, hct, t1, t2, hkt⟩ := (y7.grow kr).at_ (k := c) (by rw [s5.out]; omega)
              have hb := HB.out c hc4
              rw [gI_of hkp.out, gI_of hkq.out, gI_of hkr.out, gI_of hks.out, gI_of hkt.out] at hb
              have n1 : (p != if t < r then t else r) = false := by rw [hb.1]; simp
              have n2 : (q != if s < t then t else s) = false := by rw [hb.2]; simp
              obtain ⟨b0, b1', b2', _⟩ := cells3 b2 ((k5.trans k7).trans kr)
              have hlt : w1.heap.size < wr.heap.size := by have := b2.lt; have := k5.size; have := k7.size; have := kr.size; omega
              have x1 : c < (lowV (putV l y)).length := by rw [s3.out]; omega
              have x2 : c < (highV (putV l y)).length := by rw [s4.out]; omega
              have x3 : c < (lowV l).length := by rw [s1.out]; omega
              have x4 : c < (highV l).length := by rw [s2.out]; omega
              have x5 : c < y.pt.length := by rw [s5.out]; omega
              have z0 : ∀ S : From wr, S.w.cell? ⟨w1.heap.size, 1, none⟩ = some (.slice (some td) y.pt.length d1) := fun S => (From.cell S (p := ⟨w1.heap.size, 1, none⟩) hlt).trans b1'
              have z1 : ∀ S : From wr, S.w.cell? (pd.add c) = some (.int .i64 p) := fun S => (S.cell (by rw [block_of_add]; exact hpb)).trans hcp
              have z2 : ∀ S : From wr, S.w.cell? (qd.add c) = some (.int .i64 q) := fun S => (S.cell (by rw [block_of_add]; exact hqb)).trans hcq
              have z3 : ∀ S : From wr, S.w.cell? (rd'.add c) = some (.int .i64 r) := fun S => (S.cell (by rw [block_of_add]; exact hrb)).trans hcr
              have z4 : ∀ S : From wr, S.w.cell? (sd.add c) = some (.int .i64 s) := fun S => (S.cell (by rw [block_of_add]; exact hsb)).trans hcs
              have z5 : ∀ S : From wr, S.w.cell? (td.add c) = some (.int .i64 t) := fun S => (S.cell (by rw [block_of_add]; exact htb)).trans hct
              clear hb hcp hcq hcr hcs hct b0 b1' b2'
              go_wp2_with fail
              refine wp_region_from (by kernel_rfl) (by kernel_rfl) ?_
              repeat (go_big_quiet_step (fail))
              refine wpQuiet_nil ?_
              intro w8 g8
              go_wp2_with fail
              go_roundw
              case rel => exact ⟨c + 1, by omega, by go_num, kr.trans g8⟩
              case measure => simp [intOf]; omega
            · go_wp2_with fail
              go_ret
              exact ⟨rfl, K5.trans (k7.trans kr)⟩
  · go_enter Try.func20, Try.ntmps20
    go_wp2_with fail
    go_ret
    exact ⟨rfl, Below.refl _ _⟩
end Go.Proofs.Ytaocmgafglalnaa
