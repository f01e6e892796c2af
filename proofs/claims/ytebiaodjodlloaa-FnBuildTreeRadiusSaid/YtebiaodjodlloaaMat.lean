/- Slices of slices of integers: reading, copying, comparing, marking. -/
import Derived.Test.YtebiaodjodlloaaRead
import Derived.Test.YtebiaodjodlloaaLawAid
import Derived.Test.YtebiaodjodlloaaPlainV
namespace Go.Proofs.Ytebiaodjodlloaa
set_option linter.unusedVariables false
open Go Go.RowKit

/-- The slice value with address A reads as the rows l, below block B. -/
structure RR (w : World) (B : Nat) (A : Option Addr) (l : List (List Int)) : Prop where
  row : ∀ k r, l[k]? = some r → ∃ ad Ak ck, A = some ad ∧ ad.block < B ∧ w.cell? (ad.add k) = some (.slice Ak r.length ck) ∧ r.length ≤ ck ∧ ck ≤ maxLen ∧ RI w B Ak r
  len : l.length ≤ 2000000
section
variable {w w' : World} {B B' : Nat} {A : Option Addr} {l : List (List Int)}
theorem RR.keep (h : RR w B A l) (hb : Below B w w') : RR w' B A l :=
  ⟨fun k r hr => by
    obtain ⟨ad, Ak, ck, e, hB, hc, h1, h2, h3⟩ := h.row k r hr
    exact ⟨ad, Ak, ck, e, hB, (hb.cell (by rw [block_of_add]; exact hB)).trans hc, h1, h2, h3.below hb⟩, h.len⟩
theorem RR.more (h : RR w B A l) (hB : B ≤ B') : RR w B' A l :=
  ⟨fun k r hr => by
    obtain ⟨ad, Ak, ck, e, hb, hc, h1, h2, h3⟩ := h.row k r hr
    exact ⟨ad, Ak, ck, e, by omega, hc, h1, h2, h3.more hB⟩, h.len⟩
theorem RR.grow (h : RR w w.heap.size A l) (hg : Grow w w') : RR w' w'.heap.size A l := (h.keep hg).more hg.size
theorem RR.drewN (h : RR w B A l) (k : Nat) : RR (w.drewN k) B A l := h.keep ⟨rfl, rfl, rfl, Nat.le_refl _, fun _ _ => rfl⟩
theorem RR.at_ (h : RR w B A l) {k : Nat} (hk : k < l.length) : ∃ ad Ak ck r, A = some ad ∧ ad.block < B ∧ w.cell? (ad.add k) = some (.slice Ak r.length ck) ∧ r.length ≤ ck ∧ ck ≤ maxLen ∧ RI w B Ak r ∧ Hid (l[k]? = some r) := by
  obtain ⟨ad, Ak, ck, e, hB, hc, h1, h2, h3⟩ := h.row k _ (List.getElem?_eq_getElem hk)
  exact ⟨ad, Ak, ck, _, e, hB, hc, h1, h2, h3, Lib.hid (List.getElem?_eq_getElem hk)⟩
end

/-! Means, in plain terms. -/
def rowI (l : List (List Int)) (i : Nat) : List Int := l[i]?.getD []
theorem rowI_of {l : List (List Int)} {i : Nat} {r : List Int} (h : l[i]? = some r) : rowI l i = r := by rw [rowI, h]; rfl
def colS (l : List (List Int)) (c n : Nat) : Int := sumTo (fun i => gI (rowI l i) c) n
def rowsB (l : List (List Int)) : Bool := l.all fun r => vecB r 4
def meanOk (l : List (List Int)) : Bool := inB l.length 1 16 && rowsB l
def meanF (l : List (List Int)) (c : Nat) : Int := colS l c l.length / l.length
def meanV (l : List (List Int)) : List Int := if meanOk l then rangeI (meanF l) 4 else []
theorem rowsB_at {l : List (List Int)} (h : rowsB l = true) {k : Nat} {r : List Int} (hr : l[k]? = some r) : vecB r 4 = true := by
  simp only [rowsB, List.all_eq_true] at h
  exact h r (List.mem_of_getElem? hr)
theorem rowsB_bad {l : List (List Int)} {k : Nat} {r : List Int} (hr : l[k]? = some r) (h : vecB r 4 = false) : meanOk l = false := by
  have : rowsB l = false := by
    rw [rowsB, List.all_eq_false]
    exact ⟨r, List.mem_of_getElem? hr, by rw [h]; simp⟩
  rw [meanOk, this, Bool.and_false]
theorem rowsB_of {l : List (List Int)} (h : ∀ k r, k < l.length → l[k]? = some r → vecB r 4 = true) : rowsB l = true := by
  simp only [rowsB, List.all_eq_true]
  intro r hr
  obtain ⟨k, hk⟩ := List.getElem?_of_mem hr
  exact h k r (List.getElem?_eq_some_iff.1 hk).1 hk
theorem rowI_bd {l : List (List Int)} (h : rowsB l = true) (k c : Nat) : -100 ≤ gI (rowI l k) c ∧ gI (rowI l k) c ≤ 100 := by
  cases e : l[k]? with
  | none => rw [rowI, e]; simp [gI]
  | some r => rw [rowI_of e]; exact gI_bd (rowsB_at h e) c
theorem colS_bd {l : List (List Int)} (h : rowsB l = true) (c n : Nat) : -(100 * n) ≤ colS l c n ∧ colS l c n ≤ 100 * n :=
  sumTo_bd (f := fun i => gI (rowI l i) c) fun i _ => rowI_bd h i c
theorem div_between {s n lo hi : Int} (hn : 0 < n) (h1 : lo * n ≤ s) (h2 : s ≤ hi * n) : lo ≤ s / n ∧ s / n ≤ hi := by
  refine ⟨(Int.le_ediv_iff_mul_le hn).2 h1, ?_⟩
  have : s / n < hi + 1 := (Int.ediv_lt_iff_lt_mul hn).2 (by rw [Int.add_mul]; omega)
  omega
theorem meanF_bd {l : List (List Int)} (h : meanOk l = true) (c : Nat) : -100 ≤ meanF l c ∧ meanF l c ≤ 100 := by
  simp only [meanOk, Bool.and_eq_true, inB_iff] at h
  have b := colS_bd h.2 c l.length
  exact div_between (by omega) (by omega) (by omega)
theorem meanV_of {l : List (List Int)} (h : meanOk l = true) : meanV l = rangeI (meanF l) 4 := by rw [meanV, if_pos h]
theorem meanV_no {l : List (List Int)} (h : meanOk l = false) : meanV l = [] := by rw [meanV, h]; rfl
theorem meanV_len (l : List (List Int)) : (meanV l).length ≤ 4 := by
  unfold meanV; split
  · rw [rangeI_len]; omega
  · simp
theorem meanV_bd (l : List (List Int)) : ∀ x ∈ meanV l, -100 ≤ x ∧ x ≤ 100 := by
  intro x hx
  unfold meanV at hx
  split at hx
  · rename_i h
    simp only [rangeI, List.mem_map, List.mem_range] at hx
    obtain ⟨i, _, rfl⟩ := hx
    exact meanF_bd h i
  · cases hx

theorem rangeI_set {f g : Nat → Int} {n j : Nat} {y : Int} (h1 : g j = y) (h2 : ∀ i, i < n → i ≠ j → g i = f i) : (rangeI f n).set j y = rangeI g n := by
  apply List.ext_getElem (by simp [rangeI_len])
  intro i a b
  rw [rangeI_len] at b
  rw [List.getElem_set]
  split
  · rename_i e; subst e; simp [rangeI, h1]
  · rename_i e; simp [rangeI]; exact (h2 i b (fun h => e h.symm)).symm
def addF (l : List (List Int)) (k j c : Nat) : Int := if c < j then colS l c (k + 1) else colS l c k
def divF (l : List (List Int)) (j c : Nat) : Int := if c < j then meanF l c else colS l c l.length
theorem addF_set {l : List (List Int)} {k j : Nat} {r : List Int} {x : Int} (hr : l[k]? = some r) (hx : r[j]? = some x) (hj : j < 4) : (rangeI (addF l k j) 4).set j (addF l k j j + x) = rangeI (addF l k (j + 1)) 4 := by
  refine rangeI_set ?_ fun i _ hne => ?_
  · simp [addF, colS, sumTo, rowI_of hr, gI_of hx]
  · unfold addF
    by_cases h : i < j
    · rw [if_pos h, if_pos (by omega)]
    · rw [if_neg h, if_neg (by omega)]
theorem divF_set {l : List (List Int)} {j : Nat} (hj : j < 4) : (rangeI (divF l j) 4).set j (divF l j j / l.length) = rangeI (divF l (j + 1)) 4 := by
  refine rangeI_set ?_ fun i _ hne => ?_
  · simp [divF, meanF]
  · unfold divF
    by_cases h : i < j
    · rw [if_pos h, if_pos (by omega)]
    · rw [if_neg h, if_neg (by omega)]
theorem colS_bd_to {l : List (List Int)} {k : Nat} (h : ∀ j r, j < k → l[j]? = some r → vecB r 4 = true) (c : Nat) : -(100 * k) ≤ colS l c k ∧ colS l c k ≤ 100 * k :=
  sumTo_bd (f := fun i => gI (rowI l i) c) fun i hi => by
    cases e : l[i]? with
    | none => show -100 ≤ gI (rowI l i) c ∧ gI (rowI l i) c ≤ 100; rw [rowI, e]; simp [gI]
    | some r => show -100 ≤ gI (rowI l i) c ∧ gI (rowI l i) c ≤ 100; rw [rowI_of e]; exact gI_bd (h i r hi e) c

end Go.Proofs.Ytebiaodjodlloaa
