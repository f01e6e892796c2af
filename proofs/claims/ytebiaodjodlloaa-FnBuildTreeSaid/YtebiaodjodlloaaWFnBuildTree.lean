/- The walk of the law FnBuildTree: it returns true, and writes nothing that was there. -/
import Derived.Test.YtebiaodjodlloaaSDraws
import Derived.Test.YtebiaodjodlloaaTreeJ
import Derived.Test.YtebiaodjodlloaaSAid
import Derived.Test.YtebiaodjodlloaaPlainD
import Derived.Test.YtebiaodjodlloaaIsIn
import Derived.Test.YtebiaodjodlloaaFrom
namespace Go.Proofs.Ytebiaodjodlloaa
set_option linter.unusedVariables false
open Go Go.RowKit

set_option maxRecDepth 100000 in
set_option maxHeartbeats 3200000 in
theorem walk_FnBuildTree (a0 : Option Addr) (n0 c0 : Nat) (x0 : List Int) (w : World) (h0 : ArgB w a0 n0 c0 x0) :
    Calls Try.prog 8 #[.slice a0 n0 c0] w fun e w' => e = .returned (.bool true) ∧ Below w.heap.size w w' := by
  by_cases hn : n0 ≤ 1048576
  · go_enter Try.func8, Try.ntmps8
    go_wp2_with fail
    refine (spec_DrawBuildTree _ _ _ _ _ h0).mono ?_
    rintro e w2 ⟨A1, c1, l, kind, rfl, kb0, kb5, q2, g2⟩
    have hlc := q2.cap
    have hct := q2.top
    have hl17 := q2.few
    clear h0
    go_wp2_with fail
    refine (impl_BuildTree _ _ l kind _ q2.rs hlc hct).mono ?_; rintro e w3 ⟨u3, rfl, o3, g3⟩
    obtain ⟨S, hS⟩ : ∃ S, S = treeV l kind := ⟨_, rfl⟩
    have hSf : S.length ≤ 16 := by rw [hS]; exact treeV_few
    rw [← hS] at o3
    have HS := Lib.hid hS
    clear hS
    obtain ⟨A3, c3, rfl, hc3, hm3, _⟩ := o3.open_
    go_wp2_with fail
    refine (spec_BuildTree _ _ l kind _ (q2.grow g3).rs hlc hct).mono ?_; rintro e w4 ⟨u4, rfl, o4, g4⟩
    rw [← HS.out] at o4
    obtain ⟨A4, c4, rfl, _, _, _⟩ := o4.open_
    go_wp2_with fail
    refine (laws_equalNodes_same _ _ _ _ S _ (o3.grow g4).ri o4.ri).mono ?_; rintro e w5 ⟨rfl, g5⟩
    have k5 : Grow w2 w5 := g3.trans (g4.trans g5)
    have K5 : Grow w w5 := g2.trans k5
    have q5 := q2.grow k5
    have o5 := (o3.grow g4).grow g5
    clear o3 o4 q2
    by_cases hS0 : S.length = 0
    · have e0 : ((S.length : Int) == 0) = true := by rw [hS0]; rfl
      clear hS0
      go_wp2_with fail
      refine (spec_BuildTree _ _ l kind _ q5.rs hlc hct).mono ?_; rintro e w6 ⟨u6, rfl, o6, g6⟩
      rw [← HS.out] at o6
      obtain ⟨A6, c6, rfl, _, _, _⟩ := o6.open_
      go_wp2_with fail
      refine (laws_equalNodes_same _ _ _ _ S _ (o5.grow g6).ri o6.ri).mono ?_; rintro e w7 ⟨rfl, g7⟩
      go_wp2_with fail
      go_ret
      exact ⟨rfl, K5.trans (g6.trans g7)⟩
    · have e0 : ((S.length : Int) == 0) = false := by rw [beq_eq_false_iff_ne]; omega
      have hk := treeV_ok (l := l) (kind := kind) (by rw [← HS.out]; exact hS0)
      have hSl : S.length = l.length := by rw [HS.out]; exact treeV_len hk
      have hperm := treeV_keys hk
      rw [← HS.out] at hperm
      have HP := Lib.hid hperm
      have HK := Lib.hid hk
      have HL := Lib.hid hSl
      clear hperm hk hSl
      go_wp2_with fail
      go_loopw [6, 7] (fun v i wr => ∃ n : Nat, n ≤ S.length ∧ i = .int .i64 n ∧ wr.ownsRow w5.heap.size 3 1 v ((S.take n).map Nd.key).length (((S.take n).map Nd.key).map (Value.int .i64)) ∧ Below w5.heap.size w5 wr) (fun _ i _ => S.length - (intOf i).toNat)
      case atStart => exact ⟨0, Nat.zero_le _, rfl, World.ownsRow_lit w5 #[] 0 (Nat.le_refl _) (by unfold maxLen; omega) rfl, (Below.refl _ _).alloc (Nat.le_refl _) _⟩
      case round =>
        obtain ⟨n, hn, rfl, hown, hb⟩ := hrel
        have hsz := hb.size
        by_cases hlt : n < S.length
        · obtain ⟨ad, x, rfl, had, b0, b1, b2, b3, hf, hxk⟩ := (o5.ri.below hb).nd hlt
          have hst : (S.take (n + 1)).map Nd.key = (S.take n).map Nd.key ++ [x.key] := by rw [List.take_add_one, hxk.out, List.map_append]; rfl
          have HST := Lib.hid hst
          have hll : ((S.take n).map Nd.key).length ≤ 2000000 := by simp; omega
          clear hst
          go_wp2_with (at_builtin; go_must (refine wpList_pushI (by rfl) _ _ (by rfl) (by rfl) (by rfl) hown hb hsz hll ?_); intro v6 w6 o6 b6)
          go_roundw
          case rel => exact ⟨n + 1, by omega, by go_num, by rw [HST.out]; exact o6, b6⟩
          case measure => simp [intOf]; omega
        · obtain rfl : n = S.length := by omega
          rw [List.take_length] at hown
          have oi : OwnI _ w5.heap.size _ _ (S.map Nd.key) := ⟨hown, fun g hg => (hown.lt g hg).2, fun x hx => (by
            obtain ⟨y, hy, rfl⟩ := List.mem_map.1 hx
            exact o5.fit y hy _ (by simp [nodeP])), by simp; omega⟩
          obtain ⟨Av, cv, rfl, _, _, rv⟩ := oi.open_
          obtain ⟨ks, hks⟩ : ∃ ks, ks = S.map Nd.key := ⟨_, rfl⟩
          have hkl : ks.length = S.length := by rw [hks, List.length_map]
          rw [← hks] at rv
          rw [← hks]
          have HKS := Lib.hid hks
          have HKL := Lib.hid hkl
          have q6 := q5.grow hb
          have o6 := o5.grow hb
          have K6 := K5.trans hb
          clear hown oi hks hkl
          go_wp2_with fail
          go_loopw [8] (fun i wr => ∃ k : Nat, k ≤ l.length ∧ i = .int .i64 k ∧ Grow w5 wr ∧ RI wr wr.heap.size Av ks) (fun i _ => l.length - (intOf i).toNat)
          case atStart => exact ⟨0, Nat.zero_le _, rfl, hb, rv⟩
          case round =>
            clear rv q6 o6 K6
            obtain ⟨k, hk, rfl, hg, rv⟩ := hrel
            by_cases hlk : k < l.length
            · obtain ⟨ad, Ak, ck, x, rfl, had, d0, d1, d2, _, _, _, _, _, hx⟩ := (q5.grow hg).rs.at_ hlk
              have hmem : decide (x.key ∈ ks) = true := by
                rw [decide_eq_true_eq, HKS.out]
                exact HP.out.mem_iff.2 (List.mem_map_of_mem (List.mem_of_getElem? hx.out))
              have hl2 : k + 1 ≤ l.length := by omega
              go_wp2_with fail
              refine (laws_isIn _ _ ks x.key _ rv).mono ?_; rintro e w' ⟨rfl, rfl⟩
              rw [hmem]
              clear hmem
              go_wp2_with fail
              go_roundw
              case rel => exact ⟨k + 1, by omega, by go_num, hg, rv⟩
              case measure => simp [intOf]; omega
            · obtain rfl : k = l.length := by omega
              have q6 := q5.grow hg
              have o6 := o5.grow hg
              obtain ⟨x, r, near, far, hx0, ht, _⟩ := treeV_top (l := l) (kind := kind) (by rw [← HS.out]; exact hS0)
              rw [← HS.out] at ht
              obtain ⟨ad, nd, rfl, had, b0, b1, b2, b3, hnd⟩ := o6.ri.nd0 (by omega)
              have hnd' := hnd.out
              rw [ht] at hnd'
              injection hnd' with hnd'
              subst hnd'
              obtain ⟨bd, Ak, ck, y, rfl, hbd, d0, d1, d2, _, _, _, _, _, hy⟩ := q6.rs.at_ (k := 0) (by have := HL.out; omega)
              have hy' := hy.out
              rw [hx0] at hy'
              injection hy' with hy'
              subst hy'
              have a0 : bd.add (0 * 3) = bd := by simp [Addr.add]
              rw [a0] at d0
              simp only at b0
              have f0 : ∀ z : From _, z.w.cell? ad = some (.int .i64 x.key) := fun z => (z.cell had).trans b0
              have f1 : ∀ z : From _, z.w.cell? bd = some (.int .i64 x.key) := fun z => (z.cell hbd).trans d0
              have hit : isTreeV S l kind = true := by rw [isTreeV_of HK.out, decide_eq_true_eq, HS.out, treeV_of HK.out]
              have HC := fun z : From _ => From.call (by have := impl_IsTreeOf _ c3 S _ c1 l kind z.w (o6.ri.grow z.g) (q6.rs.grow z.g) hlc hct; rw [hit] at this; exact this)
              have hSl : ((S.length : Int) == (l.length : Int)) = true := by rw [HL.out]; simp
              have j0 : (0 : Int) < (S.length : Int) := by omega
              have j1 : (0 : Int) < (l.length : Int) := by rw [← HL.out]; omega
              clear b0 b1 b2 b3 d0 d1 d2 ht hx0 rv hit a0
              go_wp2_with fail
              refine wp_region_from (by kernel_rfl) (by kernel_rfl) ?_
              repeat (go_big_quiet_step (exact HC _))
              refine wpQuiet_nil ?_
              intro w8 g8
              go_wp2_with fail
              go_ret
              exact ⟨rfl, K5.trans (hg.trans g8)⟩
  · go_enter Try.func8, Try.ntmps8
    go_wp2_with fail
    go_ret
    exact ⟨rfl, Below.refl _ _⟩
end Go.Proofs.Ytebiaodjodlloaa
