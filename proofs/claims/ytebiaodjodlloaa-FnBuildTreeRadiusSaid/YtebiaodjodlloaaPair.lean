/- The contracts of the closest pair, in both texts. -/
import Derived.Test.YtebiaodjodlloaaStore
import Derived.Test.YtebiaodjodlloaaMove
import Derived.Test.YtebiaodjodlloaaFrom
namespace Go.Proofs.Ytebiaodjodlloaa
set_option linter.unusedVariables false
open Go Go.RowKit

theorem pair_no {l : List It} {kind : Int} (h : pairOk l kind = false) : pairOk l kind = false ∧ pairA l kind = 0 ∧ pairB l kind = 0 := by
  rw [pairA, pairB, h]; exact ⟨rfl, rfl, rfl⟩
theorem pair_yes {l : List It} {kind : Int} (h : pairOk l kind = true) : pairOk l kind = true ∧ pairA l kind = (itI l (cpOut kind l l.length).1).key ∧ pairB l kind = (itI l (cpOut kind l l.length).2).key := by
  rw [pairA, pairB, if_pos h, if_pos h]; exact ⟨h, rfl, rfl⟩
theorem pairOk_1 {l : List It} {kind : Int} (h : storeB l = false) : pairOk l kind = false := by rw [pairOk, h]; rfl
theorem pairOk_2 {l : List It} {kind : Int} (h : kindB kind = false) : pairOk l kind = false := by rw [pairOk, h]; simp
theorem pairOk_3 {l : List It} {kind : Int} (h : l.length < 2) : pairOk l kind = false := by rw [pairOk, decide_eq_false (by omega), Bool.and_false]
theorem pairOk_4 {l : List It} {kind : Int} (h1 : storeB l = true) (h2 : kindB kind = true) (h3 : 2 ≤ l.length) : pairOk l kind = true := by rw [pairOk, h1, h2, decide_eq_true h3]; rfl
theorem cpStep_yes {kind : Int} {l : List It} {i j : Nat} {st : Nat × Nat} (h : dAt kind l i j < dAt kind l st.1 st.2) : cpStep kind l i j st = (i, j) := by rw [cpStep, if_pos h]
theorem cpStep_no {kind : Int} {l : List It} {i j : Nat} {st : Nat × Nat} (h : ¬ dAt kind l i j < dAt kind l st.1 st.2) : cpStep kind l i j st = st := by rw [cpStep, if_neg h]
theorem dAt_of {kind : Int} {l : List It} {i j : Nat} {x y : It} (hx : l[i]? = some x) (hy : l[j]? = some y) : dAt kind l i j = distL kind x.pt y.pt 4 := by rw [dAt, itI_of hx, itI_of hy]

end Go.Proofs.Ytebiaodjodlloaa
