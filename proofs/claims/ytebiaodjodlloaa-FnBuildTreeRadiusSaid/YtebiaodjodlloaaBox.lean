/- The contracts of the bounds of a store and of the items in a box, in both texts. -/
import Derived.Test.YtebiaodjodlloaaStore
import Derived.Test.YtebiaodjodlloaaPlainV
import Derived.Test.YtebiaodjodlloaaRead
namespace Go.Proofs.Ytebiaodjodlloaa
set_option linter.unusedVariables false
open Go Go.RowKit

def minF (l : List It) (k j c : Nat) : Int := if c < j then lowC l c (k + 1) else lowC l c k
def maxF (l : List It) (k j c : Nat) : Int := if c < j then highC l c (k + 1) else highC l c k
theorem range_set {f g : Nat → Int} {n j : Nat} {y : Int} (h1 : g j = y) (h2 : ∀ i, i < n → i ≠ j → g i = f i) : (rangeI f n).set j y = rangeI g n := by
  apply List.ext_getElem (by simp [rangeI_len])
  intro i a b
  rw [rangeI_len] at b
  rw [List.getElem_set]
  split
  · rename_i e; subst e; simp [rangeI, h1]
  · rename_i e; simp [rangeI]; exact (h2 i b (fun h => e h.symm)).symm
theorem minF_set {l : List It} {k j : Nat} {it : It} {x : Int} (hx : l[k]? = some it) (hp : it.pt[j]? = some x) : (rangeI (minF l k j) 4).set j (gmin (lowC l j k) x) = rangeI (minF l k (j + 1)) 4 := by
  refine range_set ?_ fun i _ hne => ?_
  · rw [minF, if_pos (by omega), lowC, itI_of hx, gI_of hp]
  · unfold minF
    by_cases h : i < j
    · rw [if_pos h, if_pos (by omega)]
    · rw [if_neg h, if_neg (by omega)]
theorem maxF_set {l : List It} {k j : Nat} {it : It} {x : Int} (hx : l[k]? = some it) (hp : it.pt[j]? = some x) : (rangeI (maxF l k j) 4).set j (gmax (highC l j k) x) = rangeI (maxF l k (j + 1)) 4 := by
  refine range_set ?_ fun i _ hne => ?_
  · rw [maxF, if_pos (by omega), highC, itI_of hx, gI_of hp]
  · unfold maxF
    by_cases h : i < j
    · rw [if_pos h, if_pos (by omega)]
    · rw [if_neg h, if_neg (by omega)]
theorem minF_at (l : List It) (k j : Nat) : minF l k j j = lowC l j k := by simp [minF]
theorem maxF_at (l : List It) (k j : Nat) : maxF l k j j = highC l j k := by simp [maxF]
theorem minF_zero (l : List It) (k : Nat) : rangeI (fun c => lowC l c k) 4 = rangeI (minF l k 0) 4 := rangeI_congr fun i _ => by simp [minF]
theorem maxF_zero (l : List It) (k : Nat) : rangeI (fun c => highC l c k) 4 = rangeI (maxF l k 0) 4 := rangeI_congr fun i _ => by simp [maxF]
theorem minF_all (l : List It) (k : Nat) : rangeI (minF l k 4) 4 = rangeI (fun c => lowC l c (k + 1)) 4 := rangeI_congr fun i hi => by simp [minF, hi]
theorem maxF_all (l : List It) (k : Nat) : rangeI (maxF l k 4) 4 = rangeI (fun c => highC l c (k + 1)) 4 := rangeI_congr fun i hi => by simp [maxF, hi]
theorem low_first {l : List It} {x : It} (hx : l[0]? = some x) (hv : vecB x.pt 4 = true) : x.pt = rangeI (fun c => lowC l c 0) 4 ∧ x.pt = rangeI (fun c => highC l c 0) 4 := by
  have e := (rangeI_gI (vecB_four hv)).symm
  refine ⟨e.trans (rangeI_congr fun i _ => ?_), e.trans (rangeI_congr fun i _ => ?_)⟩
  · rw [lowC, itI_of hx]
  · rw [highC, itI_of hx]
theorem low_self {l : List It} (h : 0 < l.length) (c : Nat) : lowC l c 1 = lowC l c 0 := by show gmin (gI (itI l 0).pt c) (gI (itI l 0).pt c) = gI (itI l 0).pt c; rw [gmin]; split <;> rfl
theorem high_self {l : List It} (h : 0 < l.length) (c : Nat) : highC l c 1 = highC l c 0 := by show gmax (gI (itI l 0).pt c) (gI (itI l 0).pt c) = gI (itI l 0).pt c; rw [gmax]; split <;> rfl
theorem bounds_no {l : List It} (h : storeB l = false) : boundsOk l = false ∧ lowV l = [] ∧ highV l = [] := by
  have : boundsOk l = false := by rw [boundsOk, h]; rfl
  rw [lowV, highV, this]; exact ⟨rfl, rfl, rfl⟩
theorem bounds_nil {l : List It} (h : l.length = 0) : boundsOk l = false ∧ lowV l = [] ∧ highV l = [] := by
  have : boundsOk l = false := by rw [boundsOk, decide_eq_false (by omega), Bool.and_false]
  rw [lowV, highV, this]; exact ⟨rfl, rfl, rfl⟩
theorem OwnI.far_set {w : World} {lo hi g j : Nat} {u x : Value} {xs : List Int} (o : OwnI w lo hi u xs) (h : g < lo ∨ hi ≤ g) : OwnI (w.setCell ⟨g, j, none⟩ x) lo hi u xs :=
  ⟨ownsRow_of_block o.own (fun k hk => Below.heap_setCell w ⟨g, j, none⟩ x k (by have := (o.lt k hk).1; have := o.top k hk; show k ≠ g; omega)), o.top, o.fit, o.len⟩

theorem OwnI.as {w : World} {lo hi : Nat} {v : Value} {xs ys : List Int} (h : OwnI w lo hi v xs) (e : xs = ys) : OwnI w lo hi v ys := e ▸ h
theorem below_trans {B : Nat} {a b c : World} (h : Below B a b) (k : Below B b c) : Below B a c := h.trans k
/-- What the two texts hand back of the bounds. -/
def GotB (w w' : World) (l : List It) (e : Ending) : Prop :=
  ∃ u v, e = .returned (.tuple #[u, v, .bool (boundsOk l)]) ∧ (∃ m, w.heap.size ≤ m ∧ m ≤ w'.heap.size ∧ OwnI w' w.heap.size m u (lowV l) ∧ OwnI w' m w'.heap.size v (highV l)) ∧ Grow w w'
theorem GotB.none_ {w w' : World} {l : List It} (h : boundsOk l = false ∧ lowV l = [] ∧ highV l = []) (g : Grow w w') : GotB w w' l (.returned (.tuple #[.slice none 0 0, .slice none 0 0, .bool false])) := by
  obtain ⟨h1, h2, h3⟩ := h
  refine ⟨.slice none 0 0, .slice none 0 0, by rw [h1], ⟨w.heap.size, Nat.le_refl _, g.size, ?_, ?_⟩, g⟩
  · rw [h2]; exact OwnI.nil_
  · rw [h3]; exact OwnI.nil_

end Go.Proofs.Ytebiaodjodlloaa
