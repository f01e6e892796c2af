/- The contract of the laws' own search for an item by its key. -/
import Derived.Test.YtaocmgafglalnaaSAid
import Derived.Test.YtaocmgafglalnaaPlainL
import Derived.Test.YtaocmgafglalnaaGet
import Derived.Test.YtaocmgafglalnaaPair2
namespace Go.Proofs.Ytaocmgafglalnaa
set_option linter.unusedVariables false
open Go Go.RowKit

theorem item_at (a b c : Value) (w : World) : (Instr.field 53 (.agg #[a, b, c]) 1).run Try.prog w = .ok b w := by kernel_rfl
set_option maxHeartbeats 3200000 in
theorem laws_itemOf (A : Option Addr) (c : Nat) (l : List It) (k : Int) (w : World) (h : RS w w.heap.size A l) (hk : hasK l k = true) :
    Calls Try.prog 76 #[.slice A l.length c, .int .i64 k] w fun e w' => ∃ (x : It) (Ak : Option Addr) (ck : Nat), e = .returned (.agg #[.int .i64 x.key, .slice Ak x.pt.length ck, .int .i64 x.tags]) ∧ x ∈ l ∧ x.key = k ∧ RI w w.heap.size Ak x.pt ∧ Grow w w' := by
  have hl := h.len
  obtain ⟨n, _, hn, hkn, _, hno⟩ := idxK_some hk
  obtain ⟨w0, hw0⟩ : ∃ w0, w0 = w.alloc (.cells #[.int .i64 0, .slice none 0 0, .int .i64 0] 53) := ⟨_, rfl⟩
  have g0 : Grow w w0 := by rw [hw0]; exact (Below.refl _ _).alloc (Nat.le_refl _) _
  have b0 : Blk w0 w.heap.size 53 #[.int .i64 0, .slice none 0 0, .int .i64 0] := by rw [hw0]; exact Blk.new _ _ _
  have e0 : w.heap.size < w0.heap.size := b0.lt
  have HW := Lib.hid hw0
  have HN := Lib.hid hno
  have HK := Lib.hid hkn
  clear hw0 hno hkn hk
  obtain ⟨p0, p1, p2, q0, q1, q2⟩ := cells3 b0 (Grow.refl _)
  go_enter Try.func76, Try.ntmps76
  go_wp2_with fail
  rw [← HW.out]
  go_loop [5] (fun i => ∃ j : Nat, j ≤ n ∧ i = .int .i64 j) (fun i => n - (intOf i).toNat)
  case atStart => exact ⟨0, Nat.zero_le _, rfl⟩
  case round =>
    obtain ⟨j, hj, rfl⟩ := hrel
    have hjl : j < l.length := by omega
    obtain ⟨ad, Ak, ck, x, rfl, had, c0, c1, c2, _, _, hri, hf, ht, hx⟩ := h.at_ hjl
    have z0 : w0.cell? (ad.add (j * 3)) = some (.int .i64 x.key) := (g0.cell (by rw [block_of_add]; exact had)).trans c0
    have z1 : w0.cell? ⟨(ad.add (j * 3)).block, (ad.add (j * 3)).off + 1, none⟩ = some (.slice Ak x.pt.length ck) := (g0.cell (by rw [block_of_add]; exact had)).trans c1
    have z2 : w0.cell? ⟨(ad.add (j * 3)).block, (ad.add (j * 3)).off + 2, none⟩ = some (.int .i64 x.tags) := (g0.cell (by rw [block_of_add]; exact had)).trans c2
    clear c0 c1 c2
    by_cases hjn : j < n
    · have hne : (x.key == k) = false := by rw [beq_eq_false_iff_ne]; have := HN.out j hjn; rwa [itI_of hx.out] at this
      go_wp2_with fail
      go_round
      case rel => exact ⟨j + 1, by omega, by go_num⟩
      case measure => simp [intOf]; omega
    · have hxk : x.key = k := by have := HK.out; rw [show n = j by omega, itI_of hx.out] at this; exact this
      have hne : (x.key == k) = true := by rw [hxk]; simp
      have HX := Lib.hid hxk
      clear hxk
      have hg := g0.set3 (Nat.le_refl _) (.int .i64 x.key) (.slice Ak x.pt.length ck) (.int .i64 x.tags)
      go_wp2_with fail
      refine bodyPost_ret (v := .agg #[.int .i64 x.key, .slice Ak x.pt.length ck, .int .i64 x.tags]) (by simp [results, Try.results76, go_sem, p0, p1, p2]) rfl
        ⟨x, Ak, ⟨ck, rfl⟩, List.mem_of_getElem? hx.out, HX.out, hri, hg⟩
end Go.Proofs.Ytaocmgafglalnaa
