/- Plain functions on stores: lists of items. No program in sight. -/
import Derived.Test.YtebiaodjodlloaaPlain
namespace Go.Proofs.Ytebiaodjodlloaa
set_option linter.unusedVariables false

structure It where
  key : Int
  pt : List Int
  tags : Int
def It.zero : It := ⟨0, [], 0⟩
def itI (l : List It) (i : Nat) : It := l[i]?.getD It.zero
theorem itI_of {l : List It} {i : Nat} {x : It} (h : l[i]? = some x) : itI l i = x := by rw [itI, h]; rfl
theorem itI_get {l : List It} {i : Nat} (h : i < l.length) : l[i]? = some (itI l i) := by rw [itI, List.getElem?_eq_getElem h]; rfl
def itemB (x : It) : Bool := inB x.key 1 99 && vecB x.pt 4 && inB x.tags 0 15
def okAt (l : List It) (i : Nat) : Bool := itemB (itI l i) && (decide (i = 0) || decide ((itI l (i - 1)).key < (itI l i).key))
def okTo (l : List It) : Nat → Bool
  | 0 => true
  | k + 1 => okTo l k && okAt l k
def storeB (l : List It) : Bool := decide (l.length ≤ 16) && okTo l l.length
theorem okTo_bad {l : List It} {i n : Nat} (h : okAt l i = false) (hi : i < n) : okTo l n = false := by
  induction n with
  | zero => omega
  | succ n ih =>
    rw [okTo]
    rcases Nat.lt_succ_iff_lt_or_eq.1 hi with hlt | rfl
    · rw [ih hlt]; rfl
    · rw [h, Bool.and_false]
theorem okTo_at {l : List It} {n : Nat} (h : okTo l n = true) {i : Nat} (hi : i < n) : okAt l i = true := by
  cases e : okAt l i with
  | true => rfl
  | false => rw [okTo_bad e hi] at h; cases h
theorem okTo_of {l : List It} {n : Nat} (h : ∀ i, i < n → okAt l i = true) : okTo l n = true := by
  induction n with
  | zero => rfl
  | succ n ih => rw [okTo, ih (fun i hi => h i (by omega)), h n (by omega)]; rfl
theorem storeB_bad {l : List It} {i : Nat} (h : okAt l i = false) (hi : i < l.length) : storeB l = false := by rw [storeB, okTo_bad h hi, Bool.and_false]
theorem storeB_long {l : List It} (h : 16 < l.length) : storeB l = false := by rw [storeB, decide_eq_false (by omega)]; rfl
theorem storeB_end {l : List It} (h : okTo l l.length = true) : storeB l = decide (l.length ≤ 16) := by rw [storeB, h, Bool.and_true]

/-- What a valid store is: at most sixteen items, each valid, their keys ascending. -/
def AscK (l : List It) : Prop := l.Pairwise (fun a b => a.key < b.key)
theorem storeB_iff {l : List It} : storeB l = true ↔ l.length ≤ 16 ∧ (∀ x ∈ l, itemB x = true) ∧ AscK l := by
  constructor
  · intro h
    simp only [storeB, Bool.and_eq_true, decide_eq_true_eq] at h
    obtain ⟨h1, h2⟩ := h
    have hk : ∀ i j, i < j → j < l.length → (itI l i).key < (itI l j).key := by
      intro i j hij hj
      induction j with
      | zero => omega
      | succ j ih =>
        have h3 := okTo_at h2 hj
        simp only [okAt, Bool.and_eq_true, Bool.or_eq_true, decide_eq_true_eq, Nat.add_sub_cancel] at h3
        have h4 : (itI l j).key < (itI l (j + 1)).key := by
          rcases h3.2 with h | h
          · omega
          · exact h
        rcases Nat.lt_succ_iff_lt_or_eq.1 hij with hlt | rfl
        · exact Int.lt_trans (ih hlt (by omega)) h4
        · exact h4
    refine ⟨h1, fun x hx => ?_, ?_⟩
    · obtain ⟨i, hi⟩ := List.getElem?_of_mem hx
      have h3 := okTo_at h2 (List.getElem?_eq_some_iff.1 hi).1
      simp only [okAt, Bool.and_eq_true] at h3
      rw [itI_of hi] at h3
      exact h3.1
    · rw [AscK, List.pairwise_iff_getElem]
      intro i j hi hj hij
      have := hk i j hij hj
      rwa [itI_of (List.getElem?_eq_getElem hi), itI_of (List.getElem?_eq_getElem hj)] at this
  · rintro ⟨h1, h2, h3⟩
    rw [AscK, List.pairwise_iff_getElem] at h3
    simp only [storeB, Bool.and_eq_true, decide_eq_true_eq]
    refine ⟨h1, okTo_of fun i hi => ?_⟩
    simp only [okAt, Bool.and_eq_true, Bool.or_eq_true, decide_eq_true_eq]
    rw [itI_of (List.getElem?_eq_getElem hi)]
    refine ⟨h2 _ (List.getElem_mem hi), ?_⟩
    by_cases h0 : i = 0
    · exact .inl h0
    · right
      rw [itI_of (List.getElem?_eq_getElem (show i - 1 < l.length by omega))]
      exact h3 (i - 1) i (by omega) hi (by omega)
theorem itemB_iff {x : It} : itemB x = true ↔ (1 ≤ x.key ∧ x.key ≤ 99) ∧ vecB x.pt 4 = true ∧ (0 ≤ x.tags ∧ x.tags ≤ 15) := by
  simp only [itemB, Bool.and_eq_true, inB_iff, and_assoc]

/-! put, drop, get, as both texts reckon them. -/
def ltK (k : Int) (x : It) : Bool := decide (x.key < k)
def gtK (k : Int) (x : It) : Bool := decide (k < x.key)
def neK (k : Int) (x : It) : Bool := x.key != k
def isK (k : Int) (x : It) : Bool := x.key == k
def putL (l : List It) (x : It) : List It := l.filter (ltK x.key) ++ [x] ++ l.filter (gtK x.key)
def putOk (l : List It) (x : It) : Bool := storeB l && itemB x && decide ((putL l x).length ≤ 16)
def putV (l : List It) (x : It) : List It := if putOk l x then putL l x else []
def hasK (l : List It) (k : Int) : Bool := l.any (isK k)
def dropL (l : List It) (k : Int) : List It := l.filter (neK k)
def dropOk (l : List It) (k : Int) : Bool := storeB l && hasK l k
def dropV (l : List It) (k : Int) : List It := if dropOk l k then dropL l k else []
/-- The place of the first item with a key, -1 for none. -/
def idxK (l : List It) (k : Int) : Int := match l.findIdx? (isK k) with | some i => i | none => -1
def getV (l : List It) (k : Int) : It := if dropOk l k then (l.find? (isK k)).getD It.zero else It.zero
theorem filter_step {p : It → Bool} {l : List It} {k : Nat} {x : It} (h : l[k]? = some x) : (l.take (k + 1)).filter p = (l.take k).filter p ++ (if p x then [x] else []) := by
  have e : l.take (k + 1) = l.take k ++ [x] := by rw [List.take_add_one, h]; rfl
  rw [e, List.filter_append]
  cases hp : p x <;> simp [hp]
theorem filter_len (p : It → Bool) (l : List It) (k : Nat) : ((l.take k).filter p).length ≤ l.length := Nat.le_trans (List.length_filter_le _ _) (by simp; omega)
theorem filter_take_len (p : It → Bool) (l : List It) (k : Nat) : ((l.take k).filter p).length ≤ k := Nat.le_trans (List.length_filter_le _ _) (List.length_take_le _ _)
theorem idxK_none {l : List It} {k : Int} (h : hasK l k = false) : idxK l k = -1 := by
  unfold idxK
  rw [List.findIdx?_eq_none_iff.2 (by simpa [hasK] using h)]
theorem idxK_some {l : List It} {k : Int} (h : hasK l k = true) : ∃ i : Nat, idxK l k = i ∧ i < l.length ∧ (itI l i).key = k ∧ l.find? (isK k) = some (itI l i) ∧ ∀ j, j < i → (itI l j).key ≠ k := by
  simp only [hasK, List.any_eq_true] at h
  obtain ⟨x, hx, hk⟩ := h
  cases e : l.findIdx? (isK k) with
  | none =>
    rw [List.findIdx?_eq_none_iff] at e
    rw [e x hx] at hk; cases hk
  | some i =>
    obtain ⟨hi, h1, h2⟩ := List.findIdx?_eq_some_iff_getElem.1 e
    have hf : l.find? (isK k) = some l[i] := by
      rw [List.find?_eq_some_iff_getElem]
      exact ⟨h1, i, hi, rfl, fun j hj => by have := h2 j hj; simpa using this⟩
    have e2 : itI l i = l[i] := itI_of (List.getElem?_eq_getElem hi)
    refine ⟨i, by unfold idxK; rw [e], hi, ?_, by rw [hf, e2], fun j hj => ?_⟩
    · rw [e2]; simpa [isK] using h1
    · have := h2 j hj
      rw [itI_of (List.getElem?_eq_getElem (show j < l.length by omega))]
      simpa [isK] using this

/-! Least and greatest coordinates, boxes. -/
def gmin (a b : Int) : Int := if b < a then b else a
def lowC (l : List It) (c : Nat) : Nat → Int
  | 0 => gI (itI l 0).pt c
  | n + 1 => gmin (lowC l c n) (gI (itI l n).pt c)
def highC (l : List It) (c : Nat) : Nat → Int
  | 0 => gI (itI l 0).pt c
  | n + 1 => gmax (highC l c n) (gI (itI l n).pt c)
def boundsOk (l : List It) : Bool := storeB l && decide (0 < l.length)
def lowV (l : List It) : List Int := if boundsOk l then rangeI (fun c => lowC l c l.length) 4 else []
def highV (l : List It) : List Int := if boundsOk l then rangeI (fun c => highC l c l.length) 4 else []
def inTo (p lo hi : List Int) : Nat → Bool
  | 0 => true
  | k + 1 => inTo p lo hi k && inB (gI p k) (gI lo k) (gI hi k)
def boxB (lo hi : List Int) (x : It) : Bool := inTo x.pt lo hi 4
def boxOk (l : List It) (lo hi : List Int) : Bool := storeB l && vecB lo 4 && vecB hi 4
def boxV (l : List It) (lo hi : List Int) : List Int := if boxOk l lo hi then (l.filter (boxB lo hi)).map It.key else []

/-! The closest pair: the places that both texts hold as they go. -/
def dAt (kind : Int) (l : List It) (i j : Nat) : Int := distL kind (itI l i).pt (itI l j).pt 4
def cpStep (kind : Int) (l : List It) (i j : Nat) (st : Nat × Nat) : Nat × Nat := if dAt kind l i j < dAt kind l st.1 st.2 then (i, j) else st
def cpIn (kind : Int) (l : List It) (i : Nat) (st : Nat × Nat) : Nat → Nat × Nat
  | 0 => st
  | n + 1 => cpStep kind l i (i + 1 + n) (cpIn kind l i st n)
def cpOut (kind : Int) (l : List It) : Nat → Nat × Nat
  | 0 => (0, 1)
  | n + 1 => cpIn kind l n (cpOut kind l n) (l.length - (n + 1))
def pairOk (l : List It) (kind : Int) : Bool := storeB l && kindB kind && decide (2 ≤ l.length)
def pairA (l : List It) (kind : Int) : Int := if pairOk l kind then (itI l (cpOut kind l l.length).1).key else 0
def pairB (l : List It) (kind : Int) : Int := if pairOk l kind then (itI l (cpOut kind l l.length).2).key else 0
theorem cpIn_bd {kind : Int} {l : List It} {i : Nat} {st : Nat × Nat} (h1 : st.1 < st.2) (h2 : st.2 < l.length) {n : Nat} (hn : i + 1 + n ≤ l.length) : (cpIn kind l i st n).1 < (cpIn kind l i st n).2 ∧ (cpIn kind l i st n).2 < l.length := by
  induction n with
  | zero => exact ⟨h1, h2⟩
  | succ n ih =>
    rw [cpIn, cpStep]
    split
    · exact ⟨by simp; omega, by simp; omega⟩
    · exact ih (by omega)
theorem cpOut_bd {kind : Int} {l : List It} (h : 2 ≤ l.length) {n : Nat} (hn : n ≤ l.length) : (cpOut kind l n).1 < (cpOut kind l n).2 ∧ (cpOut kind l n).2 < l.length := by
  induction n with
  | zero => exact ⟨Nat.zero_lt_one, show 1 < l.length by omega⟩
  | succ n ih =>
    have := ih (by omega)
    exact cpIn_bd this.1 this.2 (by omega)
end Go.Proofs.Ytebiaodjodlloaa
