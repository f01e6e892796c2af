/- The contracts of the laws' helpers that mark a slice of integers and look at the marks. -/
import Derived.Test.YtebiaodjodlloaaLawAid
namespace Go.Proofs.Ytebiaodjodlloaa
set_option linter.unusedVariables false
open Go Go.RowKit

def markL (k : Int) (n : Nat) : List Int := rangeI (fun i => k + i) n
def markTo (k : Int) (xs : List Int) (j : Nat) : List Int := rangeI (fun i => k + i) j ++ xs.drop j
theorem markTo_len (k : Int) (xs : List Int) {j : Nat} (h : j ≤ xs.length) : (markTo k xs j).length = xs.length := by simp [markTo, rangeI_len]; omega
theorem markTo_set (k : Int) (xs : List Int) {j : Nat} (h : j < xs.length) : (markTo k xs j).set j (k + j) = markTo k xs (j + 1) := by
  unfold markTo
  rw [List.set_append_right _ _ (by rw [rangeI_len]; omega), rangeI_len, Nat.sub_self, rangeI_succ, List.drop_eq_getElem_cons h, List.set_cons_zero, List.append_assoc]
  rfl
theorem markTo_end (k : Int) (xs : List Int) : markTo k xs xs.length = markL k xs.length := by simp [markTo, markL]
theorem markL_len (k : Int) (n : Nat) : (markL k n).length = n := rangeI_len _ _

set_option maxHeartbeats 800000 in
theorem laws_markIntS (A : Option Addr) (c : Nat) (xs : List Int) (k : Int) (w : World) (lo hi : Nat) (h : OwnI w lo hi (.slice A xs.length c) xs) (hk : 0 ≤ k) (hk2 : k ≤ 1000000000000000) :
    Calls Try.prog 34 #[.slice A xs.length c, .int .i64 k] w fun e w' => e = .returned (.int .i64 (k + xs.length)) ∧ OwnI w' lo hi (.slice A xs.length c) (markL k xs.length) ∧ Turn lo hi w w' := by
  have hl := h.len
  have hm0 : markTo k xs 0 = xs := by simp [markTo, rangeI]
  go_enter Try.func34, Try.ntmps34
  go_wp2
  go_loopw [1, 5] (fun q i wr => ∃ j : Nat, j ≤ xs.length ∧ i = .int .i64 j ∧ q = .int .i64 (k + j) ∧ OwnI wr lo hi (.slice A xs.length c) (markTo k xs j) ∧ Turn lo hi w wr) (fun _ i _ => xs.length - (intOf i).toNat)
  case atStart => exact ⟨0, Nat.zero_le _, rfl, by simp, by rw [hm0]; exact h, Turn.refl _ _ _⟩
  case round =>
    obtain ⟨j, hj, rfl, rfl, ho, ht⟩ := hrel
    clear hm0
    by_cases hlt : j < xs.length
    · have hml := markTo_len k xs hj
      obtain ⟨g, rfl, _, hg1, hg2, hg3⟩ := ho.form (by omega)
      obtain ⟨y, hy⟩ : ∃ y, (markTo k xs j)[j]? = some y := ⟨_, List.getElem?_eq_getElem (by omega)⟩
      have hcell := ho.cellAt hml.symm hy
      have hfz := ho.frozenAt j hml.symm
      have ho2 := ho.set_ (j := j) (x := k + j) hml.symm (by omega)
      rw [markTo_set k xs hlt] at ho2
      have ht2 : Turn lo hi w (wr.setCell ⟨g, j, none⟩ (.int .i64 (k + j))) :=
        ht.trans ⟨rfl, rfl, rfl, by simp [World.setCell], fun b hb hh => Below.heap_setCell wr ⟨g, j, none⟩ _ b (by show b ≠ g; omega)⟩
      clear hml hy ho ht
      go_wp2
      go_roundw
      case rel => exact ⟨j + 1, by omega, by go_num, by rw [show k + ((j + 1 : Nat) : Int) = k + j + 1 by omega], ho2, ht2⟩
      case measure => simp [intOf]; omega
    · obtain rfl : j = xs.length := by omega
      rw [markTo_end] at ho
      go_wp2
      go_ret
      exact ⟨rfl, ho, ht⟩

end Go.Proofs.Ytebiaodjodlloaa
