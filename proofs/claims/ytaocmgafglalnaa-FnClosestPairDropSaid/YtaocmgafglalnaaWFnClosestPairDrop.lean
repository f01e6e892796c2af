/- The walk of the law FnClosestPairDrop: it returns true, and writes nothing that was there. -/
import Derived.Test.YtaocmgafglalnaaSDraw5
import Derived.Test.YtaocmgafglalnaaSAid
import Derived.Test.YtaocmgafglalnaaPlainL
import Derived.Test.YtaocmgafglalnaaFrom
import Derived.Test.YtaocmgafglalnaaItemOf
import Derived.Test.YtaocmgafglalnaaPlainP
import Derived.Test.YtaocmgafglalnaaMove
namespace Go.Proofs.Ytaocmgafglalnaa
set_option linter.unusedVariables false
open Go Go.RowKit

set_option maxRecDepth 100000 in
set_option maxHeartbeats 6400000 in
theorem walk_FnClosestPairDrop (a0 : Option Addr) (n0 c0 : Nat) (x0 : List Int) (w : World) (h0 : ArgB w a0 n0 c0 x0) :
    Calls Try.prog 27 #[.slice a0 n0 c0] w fun e w' => e = .returned (.bool true) ∧ Below w.heap.size w w' := by
  by_cases hn : n0 ≤ 1048576
  · go_enter Try.func27, Try.ntmps27
    go_wp2_with fail
    refine (spec_DrawClosestPair _ _ _ _ _ h0).mono ?_
    rintro e w2 ⟨A1, c1, l, kind, rfl, kb0, kb5, q2, g2⟩
    have hlc := q2.cap
    have hct := q2.top
    have hl17 := q2.few
    clear h0
    go_wp2_with fail
    refine (impl_ClosestPair _ _ l kind _ q2.rs hlc hct).mono ?_; rintro e w3 ⟨rfl, g3⟩
    go_wp2_with fail
    refine (spec_ClosestPair _ _ l kind _ (q2.grow g3).rs).mono ?_; rintro e w4 ⟨rfl, g4⟩
    have k4 : Grow w2 w4 := g3.trans g4
    have K4 : Grow w w4 := g2.trans k4
    have q4 := q2.grow k4
    unfold maxLen at hct
    have ea := eqT_ne (pairA l kind)
    have eb := eqT_ne (pairB l kind)
    have fa : (pairA l kind == pairA l kind) = true := by simp
    have fb : (pairB l kind == pairB l kind) = true := by simp
    cases hp : pairOk l kind
    · go_wp2_with fail
      go_ret
      exact ⟨rfl, K4⟩
    · have HP := Lib.hid hp
      have hpl : (List.length l) ≤ 17 := hl17
      go_wp2_with fail
      clear hp
      go_loopw [11] (fun i wr => ∃ n : Nat, n ≤ l.length ∧ i = .int .i64 n ∧ Grow w4 wr) (fun i _ => l.length - (intOf i).toNat)
      case atStart => exact ⟨0, Nat.zero_le _, rfl, Grow.refl _⟩
      case round =>
        obtain ⟨n, hnl, rfl, kr⟩ := hrel
        by_cases hn1 : n < l.length
        · obtain ⟨ad, Ai, ci, x, rfl, had, e1, _, _, _, _, _, fx, _, hx⟩ := (q4.grow kr).rs.at_ (k := n) hn1
          by_cases ha : x.key = pairA l kind
          · have ha' : (x.key == pairA l kind) = true := by rw [ha]; simp
            have HA := Lib.hid ha
            clear ha
            go_wp2_with fail
            go_roundw
            case rel => exact ⟨n + 1, by omega, by go_num, kr⟩
            case measure => simp [intOf]; omega
          · have ha' : (x.key == pairA l kind) = false := by rw [beq_eq_false_iff_ne]; exact ha
            by_cases hb : x.key = pairB l kind
            · have hb' : (x.key == pairB l kind) = true := by rw [hb]; simp
              have HB := Lib.hid hb
              clear hb
              go_wp2_with fail
              go_roundw
              case rel => exact ⟨n + 1, by omega, by go_num, kr⟩
              case measure => simp [intOf]; omega
            · have hb' : (x.key == pairB l kind) = false := by rw [beq_eq_false_iff_ne]; exact hb
              obtain ⟨t1, t2, t3, t4⟩ := law_pairDrop HP.out (hasK_iff.2 ⟨x, List.mem_of_getElem? hx.out, rfl⟩) ha hb
              clear ha hb
              go_wp2_with fail
              refine (impl_DropItem _ _ l x.key _ (q4.grow kr).rs).mono ?_
              rintro e w5 ⟨v5, rfl, o5, g5⟩
              rw [t1]
              obtain ⟨A5, c5, rfl, hc5, hm5, r5⟩ := o5.open_
              clear o5
              go_wp2_with fail
              refine (impl_ClosestPair _ _ (dropV l x.key) kind _ r5 hc5 hm5).mono ?_; rintro e w6 ⟨rfl, g6⟩
              rw [t2, t3, t4]
              clear t1 t2 t3 t4
              go_wp2_with fail
              go_roundw
              case rel => exact ⟨n + 1, by omega, by go_num, kr.trans (g5.trans g6)⟩
              case measure => simp [intOf]; omega
        · go_wp2_with fail
          go_ret
          exact ⟨rfl, K4.trans kr⟩
  · go_enter Try.func27, Try.ntmps27
    go_wp2_with fail
    go_ret
    exact ⟨rfl, Below.refl _ _⟩
end Go.Proofs.Ytaocmgafglalnaa
