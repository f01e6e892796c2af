/- The contract of the laws' own search for an item by its key. -/
import Derived.Test.YtebiaodjodlloaaSAid
import Derived.Test.YtebiaodjodlloaaPlainL
import Derived.Test.YtebiaodjodlloaaGet
import Derived.Test.YtebiaodjodlloaaPair2
namespace Go.Proofs.Ytebiaodjodlloaa
set_option linter.unusedVariables false
open Go Go.RowKit

theorem item_at (a b c : Value) (w : World) : (Instr.field 43 (.agg #[a, b, c]) 1).run Try.prog w = .ok b w := by kernel_rfl
set_option maxHeartbeats 3200000 in
theorem laws_itemOf (A : Option Addr) (c : Nat) (l : List It) (k : Int) (w : World) (h : RS w w.heap.size A l) (hk : hasK l k = true) :
    Calls Try.prog 24 #[.slice A l.length c, .int .i64 k] w fun e w' => ∃ (x : It) (Ak : Option Addr) (ck : Nat), e = .returned (.agg #[.int .i64 x.key, .slice Ak x.pt.length ck, .int .i64 x.tags]) ∧ x ∈ l ∧ x.key = k ∧ RI w w.heap.size Ak x.pt ∧ Grow w w' := by
  have hl := h.len
  obtain ⟨n, _, hn, hkn, _, hno⟩ := idxK_some hk
  obtain ⟨w0, hw0⟩ : ∃ w0, w0 = w.alloc (.cells #[.int .i64 0, .slice none 0 0, .int .i64 0] 43) := ⟨_, rfl⟩
  have g0 : Grow w w0 := by rw [hw0]; exact (Below.refl _ _).alloc (Nat.le_refl _) _
  have b0 : Blk w0 w.heap.size 43 #[.int .i64 0, .slice none 0 0, .int .i64 0] := by rw [hw0]; exact Blk.new _ _ _
  have e0 : w.heap.size < w0.heap.size := b0.lt
  have HW := Lib.hid hw0
  have HN := Lib.hid hno
  have HK := Lib.hid hkn
  clear hw0 hno hkn hk
  obtain ⟨p0, p1, p2, q0, q1, q2⟩ := cells3 b0 (Grow.refl _)
  go_enter Try.func24, Try.ntmps24
  go_wp2_with fail
  rw [← HW.out]
  go_loop [5] (fun i => ∃ j : Nat, j ≤ n ∧ i = .int .i64 j) (fun i => n - (intOf i).toNat)
  case atStart => exact ⟨0, Nat.zero_le _, rfl⟩
  case round =>
    obtain ⟨j, hj, rfl⟩ := hrel
    have hjl : j < l.length := by omega
    obtain ⟨ad, Ak, ck, x, rfl, had, c0, c1, c2, _, _, hri, hf, ht, hx⟩ := h.at_ hjl
    have z0 : w0.cell? (ad.add (j * 3)) = some (.int .i64 x.key) := (g0.cell (by rw [block_of_add]; exact had)).trans c0
    have z1 : w0.cell? ⟨(ad.add (j * 3)).block, (ad.add (j * 3)).off + 1, none⟩ = some (.slice Ak x.pt.length ck) := (g0.cell (by rw [block_of_add]; exact had)).trans c1
    have z2 : w0.cell? ⟨(ad.add (j * 3)).block, (ad.add (j * 3)).off + 2, none⟩ = some (.int .i64 x.tags) := (g0.cell (by rw [block_of_add]; exact had)).trans c2
    clear c0 c1 c2
    by_cases hjn : j < n
    · have hne : (x.key == k) = false := by rw [beq_eq_false_iff_ne]; have := HN.out j hjn; rwa [itI_of hx.out] at this
      go_wp2_with fail
      go_round
      case rel => exact ⟨j + 1, by omega, by go_num⟩
      case measure => simp [intOf]; omega
    · have hxk : x.key = k := by have := HK.out; rw [show n = j by omega, itI_of hx.out] at this; exact this
      have hne : (x.key == k) = true := by rw [hxk]; simp
      have HX := Lib.hid hxk
      clear hxk
      have hg := g0.set3 (Nat.le_refl _) (.int .i64 x.key) (.slice Ak x.pt.length ck) (.int .i64 x.tags)
      go_wp2_with fail
      refine bodyPost_ret (v := .agg #[.int .i64 x.key, .slice Ak x.pt.length ck, .int .i64 x.tags]) (by simp [results, Try.results24, go_sem, p0, p1, p2]) rfl
        ⟨x, Ak, ⟨ck, rfl⟩, List.mem_of_getElem? hx.out, HX.out, hri, hg⟩
set_option maxRecDepth 20000 in
set_option maxHeartbeats 3200000 in
/-- .. whichever grown world it is called in: one item. -/
theorem laws_itemOf_fix (A : Option Addr) (c : Nat) (l : List It) (k : Int) (w : World) (h : RS w w.heap.size A l) (hk : hasK l k = true) : ∃ (x : It) (Ak : Option Addr) (ck : Nat), x ∈ l ∧ x.key = k ∧ RI w w.heap.size Ak x.pt ∧
    ∀ W, Grow w W → Calls Try.prog 24 #[.slice A l.length c, .int .i64 k] W fun e w' => e = .returned (.agg #[.int .i64 x.key, .slice Ak x.pt.length ck, .int .i64 x.tags]) ∧ Grow W w' := by
  have hl := h.len
  obtain ⟨n, _, hn, hkn, _, hno⟩ := idxK_some hk
  obtain ⟨ad0, Ak, ck, x, hA, had0, c0, c1, c2, _, _, hri0, _, _, hx0⟩ := h.at_ hn
  have hxk : x.key = k := by rw [itI_of hx0.out] at hkn; exact hkn
  refine ⟨x, Ak, ck, List.mem_of_getElem? hx0.out, hxk, hri0, fun W hW => ?_⟩
  subst hA
  obtain ⟨w0, hw0⟩ : ∃ w0, w0 = W.alloc (.cells #[.int .i64 0, .slice none 0 0, .int .i64 0] 43) := ⟨_, rfl⟩
  have g0 : Grow W w0 := by rw [hw0]; exact (Below.refl _ _).alloc (Nat.le_refl _) _
  have b0 : Blk w0 W.heap.size 43 #[.int .i64 0, .slice none 0 0, .int .i64 0] := by rw [hw0]; exact Blk.new _ _ _
  have e0 : W.heap.size < w0.heap.size := b0.lt
  have gw : Grow w w0 := hW.trans g0
  have HW := Lib.hid hw0
  have HN := Lib.hid hno
  have HXK := Lib.hid hxk
  clear hw0 hno hkn hk hxk
  obtain ⟨p0, p1, p2, q0, q1, q2⟩ := cells3 b0 (Grow.refl _)
  have d0 : w0.cell? (ad0.add (n * 3)) = some (.int .i64 x.key) := (gw.cell (by rw [block_of_add]; exact had0)).trans c0
  have d1 : w0.cell? ⟨(ad0.add (n * 3)).block, (ad0.add (n * 3)).off + 1, none⟩ = some (.slice Ak x.pt.length ck) := (gw.cell (by rw [block_of_add]; exact had0)).trans c1
  have d2 : w0.cell? ⟨(ad0.add (n * 3)).block, (ad0.add (n * 3)).off + 2, none⟩ = some (.int .i64 x.tags) := (gw.cell (by rw [block_of_add]; exact had0)).trans c2
  clear c0 c1 c2
  go_enter Try.func24, Try.ntmps24
  go_wp2_with fail
  rw [← HW.out]
  go_loop [5] (fun i => ∃ j : Nat, j ≤ n ∧ i = .int .i64 j) (fun i => n - (intOf i).toNat)
  case atStart => exact ⟨0, Nat.zero_le _, rfl⟩
  case round =>
    obtain ⟨j, hj, rfl⟩ := hrel
    have hjl : j < l.length := by omega
    by_cases hjn : j < n
    · obtain ⟨ad, Aj, cj, y, e, had, c0, _, _, _, _, _, _, _, hy⟩ := h.at_ hjl
      injection e with e
      subst e
      have z0 : w0.cell? (ad0.add (j * 3)) = some (.int .i64 y.key) := (gw.cell (by rw [block_of_add]; exact had)).trans c0
      have hne : (y.key == k) = false := by rw [beq_eq_false_iff_ne]; have := HN.out j hjn; rwa [itI_of hy.out] at this
      clear c0 d0 d1 d2
      go_wp2_with fail
      go_round
      case rel => exact ⟨j + 1, by omega, by go_num⟩
      case measure => simp [intOf]; omega
    · obtain rfl : j = n := by omega
      have hne : (x.key == k) = true := by rw [HXK.out]; simp
      have hg := g0.set3 (Nat.le_refl _) (.int .i64 x.key) (.slice Ak x.pt.length ck) (.int .i64 x.tags)
      go_wp2_with fail
      refine bodyPost_ret (v := .agg #[.int .i64 x.key, .slice Ak x.pt.length ck, .int .i64 x.tags]) (by simp [results, Try.results24, go_sem, p0, p1, p2]) rfl
        ⟨rfl, hg⟩
end Go.Proofs.Ytebiaodjodlloaa
