/- The contracts of putting and dropping, in both texts. -/
import Derived.Test.YtebiaodjodlloaaCopy
import Derived.Test.YtebiaodjodlloaaIdx
namespace Go.Proofs.Ytebiaodjodlloaa
set_option linter.unusedVariables false
open Go Go.RowKit

theorem dropOk_no {l : List It} {k : Int} (h : storeB l = false) : dropOk l k = false ∧ dropV l k = [] := by
  have : dropOk l k = false := by rw [dropOk, h]; rfl
  rw [dropV, this]; exact ⟨rfl, rfl⟩
theorem dropOk_none {l : List It} {k : Int} (h : hasK l k = false) : dropOk l k = false ∧ dropV l k = [] := by
  have : dropOk l k = false := by rw [dropOk, h, Bool.and_false]
  rw [dropV, this]; exact ⟨rfl, rfl⟩
theorem dropOk_yes {l : List It} {k : Int} (h : storeB l = true) (h2 : hasK l k = true) : dropOk l k = true ∧ dropV l k = dropL l k := by
  have : dropOk l k = true := by rw [dropOk, h, h2]; rfl
  rw [dropV, this]; exact ⟨rfl, rfl⟩
theorem filter_hit {p : It → Bool} {l : List It} {k : Nat} {x : It} (h : l[k]? = some x) (hp : p x = true) : (l.take (k + 1)).filter p = (l.take k).filter p ++ [x] := by rw [filter_step h, hp]; rfl
theorem filter_miss {p : It → Bool} {l : List It} {k : Nat} {x : It} (h : l[k]? = some x) (hp : p x = false) : (l.take (k + 1)).filter p = (l.take k).filter p := by rw [filter_step h, hp]; simp

theorem putL_parts (l : List It) (x : It) : putL l x = l.filter (ltK x.key) ++ [x] ++ l.filter (gtK x.key) := rfl
theorem putOk_no {l : List It} {x : It} (h : storeB l = false) : putOk l x = false ∧ putV l x = [] := by
  have : putOk l x = false := by rw [putOk, h]; rfl
  rw [putV, this]; exact ⟨rfl, rfl⟩
theorem putOk_bad {l : List It} {x : It} (h : itemB x = false) : putOk l x = false ∧ putV l x = [] := by
  have : putOk l x = false := by rw [putOk, h, Bool.and_false]; rfl
  rw [putV, this]; exact ⟨rfl, rfl⟩
theorem putOk_long {l : List It} {x : It} (h : 16 < (putL l x).length) : putOk l x = false ∧ putV l x = [] := by
  have : putOk l x = false := by rw [putOk, decide_eq_false (by omega), Bool.and_false]
  rw [putV, this]; exact ⟨rfl, rfl⟩
theorem putOk_yes {l : List It} {x : It} (h : storeB l = true) (h2 : itemB x = true) (h3 : ¬ 16 < (putL l x).length) : putOk l x = true ∧ putV l x = putL l x := by
  have : putOk l x = true := by rw [putOk, h, h2, decide_eq_true (by omega)]; rfl
  rw [putV, this]; exact ⟨rfl, rfl⟩

end Go.Proofs.Ytebiaodjodlloaa
