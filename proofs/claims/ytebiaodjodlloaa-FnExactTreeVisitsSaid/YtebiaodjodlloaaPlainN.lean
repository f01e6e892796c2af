/- Plain laws on sorting by insertion, and on the nearest items. No program in sight. -/
import Derived.Test.YtebiaodjodlloaaPlainS
namespace Go.Proofs.Ytebiaodjodlloaa
set_option linter.unusedVariables false

section
variable {α : Type}
/-- The place at which h is put among the first n elements, looked for from the end. -/
def insPos (lt : α → α → Bool) (d h : α) (l : List α) : Nat → Nat
  | 0 => 0
  | n + 1 => if lt h (l[n]?.getD d) then insPos lt d h l n else n + 1
def insL (lt : α → α → Bool) (d h : α) (l : List α) : List α := l.take (insPos lt d h l l.length) ++ h :: l.drop (insPos lt d h l l.length)
theorem insPos_le (lt : α → α → Bool) (d h : α) (l : List α) (n : Nat) : insPos lt d h l n ≤ n := by
  induction n with
  | zero => exact Nat.le_refl _
  | succ n ih => rw [insPos]; split <;> omega
theorem insPos_above {lt : α → α → Bool} {d h : α} {l : List α} {n j : Nat} (h1 : insPos lt d h l n ≤ j) (h2 : j < n) : lt h (l[j]?.getD d) = true := by
  induction n with
  | zero => omega
  | succ n ih =>
    rw [insPos] at h1
    split at h1
    · rename_i hl
      rcases Nat.lt_succ_iff_lt_or_eq.1 h2 with hlt | rfl
      · exact ih h1 hlt
      · exact hl
    · omega
theorem insPos_below {lt : α → α → Bool} {d h : α} {l : List α} {n : Nat} (h1 : 0 < insPos lt d h l n) : lt h (l[insPos lt d h l n - 1]?.getD d) = false := by
  induction n with
  | zero => simp [insPos] at h1
  | succ n ih =>
    rw [insPos] at h1 ⊢
    split
    · rename_i hl
      rw [if_pos hl] at h1
      exact ih h1
    · rename_i hl
      simpa using hl
theorem insPos_unique {lt : α → α → Bool} {d h : α} {l : List α} {n p : Nat} (hp : p ≤ n) (h1 : ∀ j, p ≤ j → j < n → lt h (l[j]?.getD d) = true) (h2 : 0 < p → lt h (l[p - 1]?.getD d) = false) : insPos lt d h l n = p := by
  rcases Nat.lt_trichotomy (insPos lt d h l n) p with hlt | he | hgt
  · have a := insPos_above (lt := lt) (d := d) (h := h) (l := l) (n := n) (j := p - 1) (by omega) (by omega)
    rw [h2 (by omega)] at a; cases a
  · exact he
  · have hle := insPos_le lt d h l n
    have a := insPos_below (lt := lt) (d := d) (h := h) (l := l) (n := n) (by omega)
    rw [h1 _ (by omega) (by omega)] at a; cases a
theorem insL_perm (lt : α → α → Bool) (d h : α) (l : List α) : (insL lt d h l).Perm (h :: l) := by
  unfold insL
  have := List.perm_middle (a := h) (l₁ := l.take (insPos lt d h l l.length)) (l₂ := l.drop (insPos lt d h l l.length))
  rwa [List.take_append_drop] at this
theorem insL_len (lt : α → α → Bool) (d h : α) (l : List α) : (insL lt d h l).length = l.length + 1 := by simpa using (insL_perm lt d h l).length_eq
/-- An order that is irreflexive and transitive. -/
structure Ord (lt : α → α → Bool) : Prop where
  irr : ∀ a, lt a a = false
  tr : ∀ a b c, lt a b = true → lt b c = true → lt a c = true
def SortedL (lt : α → α → Bool) (l : List α) : Prop := l.Pairwise (fun a b => lt a b = true)
theorem Ord.asym {lt : α → α → Bool} (o : Ord lt) {a b : α} (h : lt a b = true) : lt b a = false := by
  cases e : lt b a with
  | false => rfl
  | true => have := o.tr _ _ _ h e; rw [o.irr] at this; cases this
theorem getD_of {d : α} {l : List α} {i : Nat} (h : i < l.length) : l[i]?.getD d = l[i] := by rw [List.getElem?_eq_getElem h]; rfl
theorem SortedL.at_ {lt : α → α → Bool} {d : α} {l : List α} (h : SortedL lt l) {i j : Nat} (hij : i < j) (hj : j < l.length) : lt (l[i]?.getD d) (l[j]?.getD d) = true := by
  rw [getD_of hj, getD_of (show i < l.length by omega)]
  exact (List.pairwise_iff_getElem.1 h) i j (by omega) hj hij
theorem insL_sorted {lt : α → α → Bool} (o : Ord lt) {d h : α} {l : List α} (hs : SortedL lt l) (ht : ∀ x ∈ l, lt h x = false → lt x h = true) : SortedL lt (insL lt d h l) := by
  unfold insL SortedL
  have hle := insPos_le lt d h l l.length
  rw [List.pairwise_append]
  refine ⟨hs.sublist (List.take_sublist _ _), ?_, ?_⟩
  · rw [List.pairwise_cons]
    refine ⟨fun x hx => ?_, hs.sublist (List.drop_sublist _ _)⟩
    obtain ⟨j, hj, rfl⟩ := List.mem_iff_getElem.1 hx
    rw [List.getElem_drop]
    have hj' : insPos lt d h l l.length + j < l.length := by simp at hj; omega
    have := insPos_above (lt := lt) (d := d) (h := h) (l := l) (n := l.length) (j := insPos lt d h l l.length + j) (by omega) hj'
    rwa [getD_of hj'] at this
  · intro a ha b hb
    obtain ⟨i, hi, rfl⟩ := List.mem_iff_getElem.1 ha
    rw [List.getElem_take]
    have hi1 : i < insPos lt d h l l.length := by simp at hi; omega
    have hi2 : i < l.length := by omega
    have hlow : lt (l[i]) h = true := by
      have hb0 := insPos_below (lt := lt) (d := d) (h := h) (l := l) (n := l.length) (by omega)
      have hp1 : insPos lt d h l l.length - 1 < l.length := by omega
      rw [getD_of hp1] at hb0
      have h1 := ht _ (List.getElem_mem hp1) hb0
      by_cases e : i = insPos lt d h l l.length - 1
      · subst e; exact h1
      · have h2 := hs.at_ (d := d) (i := i) (j := insPos lt d h l l.length - 1) (by omega) hp1
        rw [getD_of hp1, getD_of hi2] at h2
        exact o.tr _ _ _ h2 h1
    rcases List.mem_cons.1 hb with rfl | hb
    · exact hlow
    · obtain ⟨j, hj, rfl⟩ := List.mem_iff_getElem.1 hb
      rw [List.getElem_drop]
      have hj' : insPos lt d h l l.length + j < l.length := by simp at hj; omega
      have := hs.at_ (d := d) (i := i) (j := insPos lt d h l l.length + j) (by omega) hj'
      rwa [getD_of hj', getD_of hi2] at this
/-- Putting in, and taking the first k, of the first k: as of all. -/
theorem insL_take {lt : α → α → Bool} (o : Ord lt) {d h : α} {l : List α} (hs : SortedL lt l) (k : Nat) : (insL lt d h (l.take k)).take k = (insL lt d h l).take k := by
  have hle := insPos_le lt d h l l.length
  by_cases hp : insPos lt d h l l.length < k
  · have e : insPos lt d h (l.take k) (l.take k).length = insPos lt d h l l.length := by
      refine insPos_unique (by simp; omega) (fun j h1 h2 => ?_) (fun h0 => ?_)
      · have hj : j < k ∧ j < l.length := by simp at h2; omega
        rw [List.getElem?_take, if_pos hj.1]
        exact insPos_above h1 hj.2
      · rw [List.getElem?_take, if_pos (by omega)]
        exact insPos_below h0
    unfold insL
    rw [e, List.take_take, Nat.min_eq_left (by omega)]
    generalize insPos lt d h l l.length = p at *
    have hl : (l.take p).length = p := by simp; omega
    rw [List.take_append, List.take_append, hl]
    congr 1
    obtain ⟨m, hm⟩ : ∃ m, k - p = m + 1 := ⟨k - p - 1, by omega⟩
    rw [hm, List.take_succ_cons, List.take_succ_cons, List.drop_take, List.take_take]
    congr 2
    omega
  · have hk : k ≤ l.length := by omega
    have e : insPos lt d h (l.take k) (l.take k).length = k := by
      refine insPos_unique (by simp; omega) (fun j h1 h2 => by simp at h2; omega) (fun h0 => ?_)
      rw [List.getElem?_take, if_pos (by omega)]
      cases e : lt h (l[k - 1]?.getD d) with
      | false => rfl
      | true =>
        have hb := insPos_below (lt := lt) (d := d) (h := h) (l := l) (n := l.length) (by omega)
        by_cases e2 : k = insPos lt d h l l.length
        · rw [← e2, e] at hb; cases hb
        · have h2 := hs.at_ (d := d) (i := k - 1) (j := insPos lt d h l l.length - 1) (by omega) (by omega)
          rw [o.tr _ _ _ e h2] at hb; cases hb
    unfold insL
    rw [e, List.take_take, Nat.min_self]
    have hl : (l.take k).length = k := by simp; omega
    have hl2 : k ≤ (l.take (insPos lt d h l l.length)).length := by simp; omega
    rw [List.take_append, hl, Nat.sub_self, List.take_zero, List.append_nil, List.take_of_length_le (by rw [hl]; exact Nat.le_refl _), List.take_append_of_le_length hl2, List.take_take, Nat.min_eq_left (by omega)]
/-- A sorted list is the only sorted order of its elements. -/
theorem sorted_unique {lt : α → α → Bool} (o : Ord lt) {l l' : List α} (hp : l.Perm l') (h1 : SortedL lt l) (h2 : SortedL lt l') : l = l' :=
  hp.eq_of_pairwise (fun a b _ _ hab hba => by rw [o.asym hab] at hba; cases hba) h1 h2
/-- What the two texts' sorts come to, element by element. -/
def insAll (lt : α → α → Bool) (d : α) : List α → List α
  | [] => []
  | x :: xs => insL lt d x (insAll lt d xs)
def insTo (lt : α → α → Bool) (d : α) (l : List α) : Nat → List α
  | 0 => []
  | n + 1 => insL lt d (l[n]?.getD d) (insTo lt d l n)
def insToK (lt : α → α → Bool) (d : α) (l : List α) (k : Nat) : Nat → List α
  | 0 => []
  | n + 1 => (insL lt d (l[n]?.getD d) (insToK lt d l k n)).take k
/-- Whatever two are not one are told apart by the order. -/
def Parted (lt : α → α → Bool) (l : List α) : Prop := l.Pairwise (fun a b => lt a b = true ∨ lt b a = true)
theorem insTo_perm (lt : α → α → Bool) (d : α) (l : List α) {n : Nat} (hn : n ≤ l.length) : (insTo lt d l n).Perm (l.take n) := by
  induction n with
  | zero => simp [insTo]
  | succ n ih =>
    have e : l.take (n + 1) = l.take n ++ [l[n]?.getD d] := by
      rw [List.take_add_one, List.getElem?_eq_getElem (by omega)]; rfl
    rw [insTo, e]
    exact (insL_perm _ _ _ _).trans (((ih (by omega)).cons _).trans (List.perm_append_singleton _ _).symm)
theorem insTo_sorted {lt : α → α → Bool} (o : Ord lt) {d : α} {l : List α} (hl : Parted lt l) {n : Nat} (hn : n ≤ l.length) : SortedL lt (insTo lt d l n) := by
  induction n with
  | zero => exact List.Pairwise.nil
  | succ n ih =>
    rw [insTo]
    refine insL_sorted o (ih (by omega)) fun x hx hlt => ?_
    have hx' : x ∈ l.take n := (insTo_perm lt d l (by omega)).mem_iff.1 hx
    obtain ⟨j, hj, rfl⟩ := List.mem_iff_getElem.1 hx'
    rw [List.getElem_take]
    rw [List.getElem_take] at hlt
    have hj' : j < n := by simp at hj; omega
    rw [getD_of (show n < l.length by omega)] at hlt ⊢
    have := (List.pairwise_iff_getElem.1 hl) j n (by omega) (by omega) hj'
    rcases this with h | h
    · exact h
    · rw [h] at hlt; cases hlt
theorem insToK_eq {lt : α → α → Bool} (o : Ord lt) {d : α} {l : List α} (hl : Parted lt l) (k : Nat) {n : Nat} (hn : n ≤ l.length) : insToK lt d l k n = (insTo lt d l n).take k := by
  induction n with
  | zero => simp [insToK, insTo]
  | succ n ih =>
    rw [insToK, insTo, ih (by omega)]
    exact insL_take o (insTo_sorted o hl (by omega)) k
theorem insTo_all {lt : α → α → Bool} (o : Ord lt) {d : α} {l s : List α} (hl : Parted lt l) (hp : s.Perm l) (hs : SortedL lt s) : insTo lt d l l.length = s :=
  sorted_unique o ((by have := insTo_perm lt d l (Nat.le_refl l.length); rwa [List.take_length] at this : (insTo lt d l l.length).Perm l).trans hp.symm) (insTo_sorted o hl (Nat.le_refl _)) hs
end

/-! Hits. -/
structure Ht where
  key : Int
  dist : Int
def Ht.zero : Ht := ⟨0, 0⟩
def htB (a b : Ht) : Bool := decide (a.dist < b.dist) || (decide (a.dist = b.dist) && decide (a.key < b.key))
theorem htB_iff {a b : Ht} : htB a b = true ↔ a.dist < b.dist ∨ (a.dist = b.dist ∧ a.key < b.key) := by simp [htB]
theorem htB_ord : Ord htB where
  irr a := by
    cases e : htB a a with
    | false => rfl
    | true => rw [htB_iff] at e; omega
  tr a b c h1 h2 := by rw [htB_iff] at *; omega
def hitOf (kind : Int) (at_ : List Int) (x : It) : Ht := ⟨x.key, distL kind x.pt at_ 4⟩
def hitsL (l : List It) (kind : Int) (at_ : List Int) : List Ht := l.map (hitOf kind at_)
theorem hits_parted {l : List It} (h : AscK l) (kind : Int) (at_ : List Int) : Parted htB (hitsL l kind at_) := by
  unfold Parted hitsL
  rw [List.pairwise_map]
  refine h.imp fun {a b} hab => ?_
  simp only [htB_iff, hitOf]
  omega
/-- All hits, in their order. -/
def sortedHits (l : List It) (kind : Int) (at_ : List Int) : List Ht := insTo htB Ht.zero (hitsL l kind at_) l.length
def queryOk (l : List It) (kind : Int) (at_ : List Int) : Bool := storeB l && kindB kind && vecB at_ 4
def nearOk (l : List It) (kind : Int) (at_ : List Int) (k : Int) : Bool := queryOk l kind at_ && inB k 1 16
def nearV (l : List It) (kind : Int) (at_ : List Int) (k : Int) : List Ht := if nearOk l kind at_ k then (sortedHits l kind at_).take k.toNat else []
def withinV (l : List It) (kind : Int) (at_ : List Int) (most : Int) : List Ht := if queryOk l kind at_ && decide (0 ≤ most) then (sortedHits l kind at_).filter (fun h => decide (h.dist ≤ most)) else []
theorem sortedHits_perm (l : List It) (kind : Int) (at_ : List Int) : (sortedHits l kind at_).Perm (hitsL l kind at_) := by
  have := insTo_perm htB Ht.zero (hitsL l kind at_) (n := l.length) (by simp [hitsL])
  rwa [List.take_of_length_le (by simp [hitsL])] at this
theorem sortedHits_sorted {l : List It} (h : AscK l) (kind : Int) (at_ : List Int) : SortedL htB (sortedHits l kind at_) :=
  insTo_sorted htB_ord (hits_parted h kind at_) (by simp [hitsL])
theorem sortedHits_len (l : List It) (kind : Int) (at_ : List Int) : (sortedHits l kind at_).length = l.length := by
  rw [(sortedHits_perm l kind at_).length_eq]; simp [hitsL]
end Go.Proofs.Ytebiaodjodlloaa
