/- The contract of the laws' own search for a number in a list. -/
import Derived.Test.YtebiaodjodlloaaLawAid
import Derived.Test.YtebiaodjodlloaaRead
namespace Go.Proofs.Ytebiaodjodlloaa
set_option linter.unusedVariables false
open Go Go.RowKit

set_option maxHeartbeats 800000 in
theorem laws_isIn (A : Option Addr) (c : Nat) (xs : List Int) (n : Int) (w : World) (h : RI w w.heap.size A xs) :
    Calls Try.prog 28 #[.slice A xs.length c, .int .i64 n] w fun e w' => e = .returned (.bool (decide (n ∈ xs))) ∧ w = w' := by
  have hl := h.len
  go_enter Try.func28, Try.ntmps28
  go_wp2_with fail
  go_loop [5] (fun i => ∃ j : Nat, j ≤ xs.length ∧ i = .int .i64 j ∧ ∀ k x, k < j → xs[k]? = some x → x ≠ n) (fun i => xs.length - (intOf i).toNat)
  case atStart => exact ⟨0, Nat.zero_le _, rfl, fun k x hk => by omega⟩
  case round =>
    obtain ⟨j, hj, rfl, hno⟩ := hrel
    have HN := Lib.hid hno
    clear hno
    by_cases hjl : j < xs.length
    · obtain ⟨ad, x, rfl, _, hc, _, _, hx⟩ := h.at_ hjl
      by_cases hxn : x = n
      · have hne : (x == n) = true := by rw [hxn]; simp
        have hin : decide (n ∈ xs) = true := decide_eq_true (by rw [← hxn]; exact List.mem_of_getElem? hx.out)
        have HI := Lib.hid hin
        have HX := Lib.hid hxn
        clear hin hxn
        go_wp2_with fail
        go_ret
        exact ⟨ret_bool HI.out.symm, rfl⟩
      · have hne : (x == n) = false := by rw [beq_eq_false_iff_ne]; exact hxn
        go_wp2_with fail
        go_round
        case rel => exact ⟨j + 1, by omega, by go_num, fun k y hk hy => by
          rcases Nat.lt_succ_iff_lt_or_eq.1 hk with hk | rfl
          · exact HN.out k y hk hy
          · rw [hx.out] at hy; injection hy with hy; rw [← hy]; exact hxn⟩
        case measure => simp [intOf]; omega
    · obtain rfl : j = xs.length := by omega
      have hin : decide (n ∈ xs) = false := by
        rw [decide_eq_false_iff_not]
        intro hm
        obtain ⟨k, hk⟩ := List.getElem?_of_mem hm
        exact HN.out k n (List.getElem?_eq_some_iff.1 hk).1 hk rfl
      have HI := Lib.hid hin
      clear hin
      go_wp2_with fail
      go_ret
      exact ⟨ret_bool HI.out.symm, rfl⟩
end Go.Proofs.Ytebiaodjodlloaa
