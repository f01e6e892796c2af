/- The walk of the law FnClosestPair: it returns true, and writes nothing that was there. -/
import Derived.Test.YtaocmgafglalnaaSDraw5
import Derived.Test.YtaocmgafglalnaaSAid
import Derived.Test.YtaocmgafglalnaaPlainL
import Derived.Test.YtaocmgafglalnaaFrom
import Derived.Test.YtaocmgafglalnaaItemOf
import Derived.Test.YtaocmgafglalnaaPlainP
import Derived.Test.YtaocmgafglalnaaMove
namespace Go.Proofs.Ytaocmgafglalnaa
set_option linter.unusedVariables false
open Go Go.RowKit

set_option maxRecDepth 100000 in
set_option maxHeartbeats 6400000 in
theorem walk_FnClosestPair (a0 : Option Addr) (n0 c0 : Nat) (x0 : List Int) (w : World) (h0 : ArgB w a0 n0 c0 x0) :
    Calls Try.prog 25 #[.slice a0 n0 c0] w fun e w' => e = .returned (.bool true) ∧ Below w.heap.size w w' := by
  by_cases hn : n0 ≤ 1048576
  · go_enter Try.func25, Try.ntmps25
    go_wp2_with fail
    refine (spec_DrawClosestPair _ _ _ _ _ h0).mono ?_
    rintro e w2 ⟨A1, c1, l, kind, rfl, kb0, kb5, q2, g2⟩
    have hlc := q2.cap
    have hct := q2.top
    have hl17 := q2.few
    clear h0
    go_wp2_with fail
    refine (impl_ClosestPair _ _ l kind _ q2.rs hlc hct).mono ?_; rintro e w3 ⟨rfl, g3⟩
    go_wp2_with fail
    refine (spec_ClosestPair _ _ l kind _ (q2.grow g3).rs).mono ?_; rintro e w4 ⟨rfl, g4⟩
    have k4 : Grow w2 w4 := g3.trans g4
    have K4 : Grow w w4 := g2.trans k4
    have q4 := q2.grow k4
    unfold maxLen at hct
    have ea := eqT_ne (pairA l kind)
    have eb := eqT_ne (pairB l kind)
    have fa : (pairA l kind == pairA l kind) = true := by simp
    have fb : (pairB l kind == pairB l kind) = true := by simp
    cases hp : pairOk l kind
    · go_wp2_with fail
      go_ret
      exact ⟨rfl, K4⟩
    · obtain ⟨x, y, hc⟩ := pair_is hp
      obtain ⟨q1, q5, q3⟩ := pairOk_iff.1 hp
      have HQ := Lib.hid q1
      have HK := Lib.hid q5
      have HC := Lib.hid hc
      have hka : hasK l (pairA l kind) = true := hasK_iff.2 ⟨x, hc.mx, hc.kx⟩
      have hkb : hasK l (pairB l kind) = true := hasK_iff.2 ⟨y, hc.my, hc.ky⟩
      have hab := hc.lt
      have vx : vecB x.pt 4 = true := (itemB_iff.1 (storeB_mem q1 hc.mx)).2.1
      have vy : vecB y.pt 4 = true := (itemB_iff.1 (storeB_mem q1 hc.my)).2.1
      have hdv := Lib.hid (distV_of q5 vx vy)
      clear q1 q5
      go_wp2_with fail
      refine (laws_itemOf _ _ l (pairA l kind) _ q4.rs hka).mono ?_
      rintro e w5 ⟨x', Ax, cx, rfl, mx, kx, rx, g5⟩
      obtain rfl : x' = x := asc_key (storeB_asc HQ.out) mx HC.out.mx (kx.trans HC.out.kx.symm)
      clear mx kx
      have hfx : ∀ w : World, (Instr.field 53 (.agg #[.int .i64 x'.key, .slice Ax x'.pt.length cx, .int .i64 x'.tags]) 1).run Try.prog w = .ok (.slice Ax x'.pt.length cx) w := fun w => item_at _ _ _ w
      go_wp2_with fail
      refine (laws_itemOf _ _ l (pairB l kind) _ (q4.grow g5).rs hkb).mono ?_
      rintro e w6 ⟨y', Ay, cy, rfl, my, ky, ry, g6⟩
      obtain rfl : y' = y := asc_key (storeB_asc HQ.out) my HC.out.my (ky.trans HC.out.ky.symm)
      clear my ky hc hfx
      have hfy : ∀ w : World, (Instr.field 53 (.agg #[.int .i64 y'.key, .slice Ay y'.pt.length cy, .int .i64 y'.tags]) 1).run Try.prog w = .ok (.slice Ay y'.pt.length cy) w := fun w => item_at _ _ _ w
      go_wp2_with fail
      refine (impl_Distance kind Ax Ay x'.pt y'.pt cx cy _ (rx.grow (g5.trans g6)) (ry.grow g6)).mono ?_
      rintro e w7 ⟨rfl, m7, hw7⟩
      have g7 : Grow w6 w7 := by rw [hw7]; exact Grow.drewN _ _
      have k7 : Grow w4 w7 := g5.trans (g6.trans g7)
      have q7 := q4.grow k7
      have K7 := K4.trans k7
      have hnn : 0 ≤ distV kind x'.pt y'.pt := by rw [hdv.out]; exact distL_nonneg _ _ _ _
      clear hw7 hp hka hkb vx vy
      go_wp2_with fail
      go_loopw [12] (fun i wr => ∃ n : Nat, n ≤ l.length ∧ i = .int .i64 n ∧ Grow w7 wr) (fun i _ => l.length - (intOf i).toNat)
      case atStart => exact ⟨0, Nat.zero_le _, rfl, Grow.refl _⟩
      case round =>
        obtain ⟨n, hnl, rfl, kr⟩ := hrel
        by_cases hn1 : n < l.length
        · go_wp2_with fail
          go_loopw [13] (fun i wo => ∃ m : Nat, n + 1 + m ≤ l.length ∧ i = .int .i64 ((n + 1 + m : Nat) : Int) ∧ Grow wr wo) (fun i _ => l.length - (intOf i).toNat)
          case atStart => exact ⟨0, by omega, by go_num, Grow.refl _⟩
          case round =>
            obtain ⟨m, hm, rfl, ko⟩ := hrel
            have kz := kr.trans ko
            by_cases hml : n + 1 + m < l.length
            · obtain ⟨ad, Ai, ci, u, rfl, had, _, e1, _, _, _, ri, _, _, hu⟩ := (q7.grow kz).rs.at_ (k := n) hn1
              obtain ⟨ad2, Aj, cj, v, e, _, _, e2, _, _, _, rj, _, _, hv⟩ := (q7.grow kz).rs.at_ (k := n + 1 + m) hml
              injection e with e; subst e
              have z1 : ∀ s : From wr, s.w.cell? ⟨(ad.add (n * 3)).block, (ad.add (n * 3)).off + 1, none⟩ = some (.slice Ai u.pt.length ci) := fun s => (s.cell (by rw [block_of_add]; exact had)).trans e1
              have z2 : ∀ s : From wr, s.w.cell? ⟨(ad.add ((n + 1 + m) * 3)).block, (ad.add ((n + 1 + m) * 3)).off + 1, none⟩ = some (.slice Aj v.pt.length cj) := fun s => (s.cell (by rw [block_of_add]; exact had)).trans e2
              have hu' := List.mem_of_getElem? hu.out
              have hv' := List.mem_of_getElem? hv.out
              have huv : u.key < v.key := by
                have := (asc_at (storeB_asc HQ.out) hn1 hml).2 (by omega)
                rwa [itI_of hu.out, itI_of hv.out] at this
              have hge : ¬ distV kind u.pt v.pt < distV kind x'.pt y'.pt := by
                rw [hdv.out, distV_of HK.out (itemB_iff.1 (storeB_mem HQ.out hu')).2.1 (itemB_iff.1 (storeB_mem HQ.out hv')).2.1]
                have := (HC.out.least u hu' v hv' huv).1
                omega
              have HD := fun s : From wr => From.call_drew (impl_Distance kind Ai Aj u.pt v.pt ci cj s.w (ri.grow s.g) (rj.grow s.g))
              clear e1 e2 hu' hv' huv
              go_wp2_with fail
              refine wp_region_from (by kernel_rfl) (by kernel_rfl) ?_
              repeat (go_big_quiet_step (exact HD _))
              refine wpQuiet_nil ?_
              intro w8 g8
              go_wp2_with fail
              go_roundw
              case rel => exact ⟨m + 1, by omega, by go_num, ko.trans g8⟩
              case measure => simp [intOf]; omega
            · have hme : n + 1 + m = l.length := by omega
              go_wp2_with fail
              go_roundw
              case rel => exact ⟨n + 1, by omega, by go_num, kz⟩
              case measure => simp [intOf]; omega
        · go_wp2_with fail
          go_ret
          exact ⟨rfl, K7.trans kr⟩
  · go_enter Try.func25, Try.ntmps25
    go_wp2_with fail
    go_ret
    exact ⟨rfl, Below.refl _ _⟩
end Go.Proofs.Ytaocmgafglalnaa
