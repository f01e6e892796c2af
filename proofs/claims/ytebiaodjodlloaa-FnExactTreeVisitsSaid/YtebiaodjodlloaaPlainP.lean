/- The plain laws of the closest pair. Lists of items alone; no program in sight. -/
import Derived.Test.YtebiaodjodlloaaPlainL
import Derived.Test.YtebiaodjodlloaaPlainV
namespace Go.Proofs.Ytebiaodjodlloaa
set_option linter.unusedVariables false

/-- Whether the pair of places (i, j) has been looked at. -/
def Seen (i m i' j' : Nat) : Prop := i' < i ∨ i' = i ∧ j' < i + 1 + m
structure Best (kind : Int) (l : List It) (st : Nat × Nat) (i m : Nat) : Prop where
  past : st.1 < i ∨ (st.1 = i ∧ st.2 < i + 1 + m) ∨ st = (0, 1)
  least : ∀ i' j', i' < j' → j' < l.length → Seen i m i' j' → dAt kind l st.1 st.2 ≤ dAt kind l i' j' ∧ (dAt kind l i' j' = dAt kind l st.1 st.2 → st.1 < i' ∨ st.1 = i' ∧ st.2 ≤ j')
theorem best_step {kind : Int} {l : List It} {st : Nat × Nat} {i m : Nat} (h : Best kind l st i m) : Best kind l (cpStep kind l i (i + 1 + m) st) i (m + 1) := by
  unfold cpStep
  by_cases hlt : dAt kind l i (i + 1 + m) < dAt kind l st.1 st.2
  · rw [if_pos hlt]
    refine ⟨.inr (.inl ⟨rfl, by show i + 1 + m < i + 1 + (m + 1); omega⟩), fun i' j' h1 h2 h3 => ?_⟩
    rcases h3 with h3 | ⟨rfl, h3⟩
    · have := (h.least i' j' h1 h2 (.inl h3)).1
      exact ⟨by simp only; omega, fun e => by simp only at e; omega⟩
    · by_cases e : j' = i' + 1 + m
      · subst e; exact ⟨Int.le_refl _, fun _ => .inr ⟨rfl, Nat.le_refl _⟩⟩
      · have := (h.least i' j' h1 h2 (.inr ⟨rfl, by omega⟩)).1
        exact ⟨by simp only; omega, fun e => by simp only at e; omega⟩
  · rw [if_neg hlt]
    refine ⟨?_, fun i' j' h1 h2 h3 => ?_⟩
    · rcases h.past with h1 | ⟨h1, h2⟩ | h1
      · exact .inl h1
      · exact .inr (.inl ⟨h1, by omega⟩)
      · exact .inr (.inr h1)
    · rcases h3 with h3 | ⟨rfl, h3⟩
      · exact h.least i' j' h1 h2 (.inl h3)
      · by_cases e : j' = i' + 1 + m
        · subst e
          refine ⟨by omega, fun _ => ?_⟩
          rcases h.past with h1 | ⟨h1, h2⟩ | h1
          · exact .inl h1
          · exact .inr ⟨h1, by omega⟩
          · rw [h1]
            by_cases hz : i' = 0
            · exact .inr ⟨hz.symm, by show 1 ≤ i' + 1 + m; omega⟩
            · exact .inl (by show 0 < i'; omega)
        · exact h.least i' j' h1 h2 (.inr ⟨rfl, by omega⟩)
theorem best_in {kind : Int} {l : List It} {st : Nat × Nat} {i : Nat} (h : Best kind l st i 0) : ∀ n, Best kind l (cpIn kind l i st n) i n
  | 0 => h
  | n + 1 => best_step (best_in h n)
theorem best_next {kind : Int} {l : List It} {st : Nat × Nat} {n m : Nat} (hm : n + 1 + m = l.length) (h : Best kind l st n m) : Best kind l st (n + 1) 0 := by
  refine ⟨?_, fun i' j' h1 h2 h3 => h.least i' j' h1 h2 ?_⟩
  · rcases h.past with h1 | ⟨h1, h2⟩ | h1
    · exact .inl (by omega)
    · exact .inl (by omega)
    · exact .inr (.inr h1)
  · rcases h3 with h3 | ⟨h3, h4⟩
    · rcases Nat.lt_succ_iff_lt_or_eq.1 h3 with h5 | h5
      · exact .inl h5
      · exact .inr ⟨h5, by omega⟩
    · exfalso; omega
theorem best_out {kind : Int} {l : List It} {n : Nat} (hn : n ≤ l.length) : Best kind l (cpOut kind l n) n 0 := by
  induction n with
  | zero => exact ⟨.inr (.inr rfl), fun i' j' h1 h2 h3 => by rcases h3 with h3 | h3 <;> exfalso <;> omega⟩
  | succ n ih => exact best_next (by omega) (best_in (ih (by omega)) (l.length - (n + 1)))

/-- The closest pair, by keys: the nearest, and the first of these. -/
structure IsCP (kind : Int) (l : List It) (a b : Int) (x y : It) : Prop where
  mx : x ∈ l
  my : y ∈ l
  kx : x.key = a
  ky : y.key = b
  lt : a < b
  least : ∀ u ∈ l, ∀ v ∈ l, u.key < v.key → distL kind x.pt y.pt 4 ≤ distL kind u.pt v.pt 4 ∧ (distL kind u.pt v.pt 4 = distL kind x.pt y.pt 4 → a < u.key ∨ a = u.key ∧ b ≤ v.key)
theorem asc_at {l : List It} (h : AscK l) {i j : Nat} (hi : i < l.length) (hj : j < l.length) : (itI l i).key < (itI l j).key ↔ i < j := by
  have mono : ∀ {i j : Nat}, i < j → j < l.length → (itI l i).key < (itI l j).key := fun {i j} h1 h2 => by
    have := (List.pairwise_iff_getElem.1 h) i j (by omega) h2 h1
    rwa [itI_of (List.getElem?_eq_getElem (show i < l.length by omega)), itI_of (List.getElem?_eq_getElem h2)]
  constructor
  · intro hk
    rcases Nat.lt_trichotomy i j with h1 | rfl | h1
    · exact h1
    · omega
    · have := mono h1 hi; omega
  · intro h1; exact mono h1 hj
theorem pairOk_iff {l : List It} {kind : Int} : pairOk l kind = true ↔ storeB l = true ∧ kindB kind = true ∧ 2 ≤ l.length := by simp [pairOk, and_assoc]
theorem pair_is {l : List It} {kind : Int} (h : pairOk l kind = true) : ∃ x y, IsCP kind l (pairA l kind) (pairB l kind) x y := by
  obtain ⟨h1, h2, h3⟩ := pairOk_iff.1 h
  have ha := storeB_asc h1
  obtain ⟨b1, b2⟩ := cpOut_bd (kind := kind) h3 (Nat.le_refl _)
  have hb := best_out (kind := kind) (l := l) (Nat.le_refl _)
  have eA : pairA l kind = (itI l (cpOut kind l l.length).1).key := by rw [pairA, if_pos h]
  have eB : pairB l kind = (itI l (cpOut kind l l.length).2).key := by rw [pairB, if_pos h]
  rw [eA, eB]
  obtain ⟨st, hst⟩ : ∃ st, st = cpOut kind l l.length := ⟨_, rfl⟩
  rw [← hst] at b1 b2 hb ⊢
  refine ⟨itI l st.1, itI l st.2, ⟨List.mem_of_getElem? (itI_get (by omega)), List.mem_of_getElem? (itI_get b2), rfl, rfl, (asc_at ha (by omega) b2).2 b1, fun u hu v hv huv => ?_⟩⟩
  obtain ⟨i, hi⟩ := List.getElem?_of_mem hu
  obtain ⟨j, hj⟩ := List.getElem?_of_mem hv
  have hil := (List.getElem?_eq_some_iff.1 hi).1
  have hjl := (List.getElem?_eq_some_iff.1 hj).1
  have ei := itI_of hi
  have ej := itI_of hj
  rw [← ei, ← ej] at huv ⊢
  have hij := (asc_at ha hil hjl).1 huv
  obtain ⟨c1, c2⟩ := hb.least i j hij hjl (.inl hil)
  refine ⟨c1, fun e => ?_⟩
  rcases c2 e with c | ⟨c, d⟩
  · exact .inl ((asc_at ha (by omega) hil).2 c)
  · rw [c]
    refine .inr ⟨rfl, ?_⟩
    rcases Nat.lt_or_ge st.2 j with d2 | d2
    · exact Int.le_of_lt ((asc_at ha b2 hjl).2 d2)
    · have : st.2 = j := by omega
      rw [this]; exact Int.le_refl _
theorem isCP_one {kind : Int} {l : List It} (ha : AscK l) {a b a' b' : Int} {x y x' y' : It} (h : IsCP kind l a b x y) (h' : IsCP kind l a' b' x' y') : a = a' ∧ b = b' := by
  have p := h.least x' h'.mx y' h'.my (by rw [h'.kx, h'.ky]; exact h'.lt)
  have q := h'.least x h.mx y h.my (by rw [h.kx, h.ky]; exact h.lt)
  have e : distL kind x.pt y.pt 4 = distL kind x'.pt y'.pt 4 := by omega
  have p2 := p.2 e.symm
  have q2 := q.2 e
  rw [h'.kx, h'.ky] at p2
  rw [h.kx, h.ky] at q2
  omega
theorem isCP_drop {kind : Int} {l : List It} {a b k : Int} {x y : It} (h : IsCP kind l a b x y) (h1 : k ≠ a) (h2 : k ≠ b) : IsCP kind (dropL l k) a b x y :=
  ⟨mem_dropL.2 ⟨h.mx, by rw [h.kx]; omega⟩, mem_dropL.2 ⟨h.my, by rw [h.ky]; omega⟩, h.kx, h.ky, h.lt, fun u hu v hv => h.least u (mem_dropL.1 hu).1 v (mem_dropL.1 hv).1⟩
theorem isCP_two {kind : Int} {l : List It} {a b : Int} {x y : It} (h : IsCP kind l a b x y) : 2 ≤ l.length := by
  have hne : x ≠ y := fun e => by have := h.kx; have := h.ky; have := h.lt; rw [e] at *; omega
  match l, h.mx, h.my with
  | [z], mx, my => simp at mx my; exact absurd (mx.trans my.symm) hne
  | _ :: _ :: _, _, _ => simp
/-- The closest pair stays behind dropping another item. -/
theorem law_pairDrop {l : List It} {kind k : Int} (h : pairOk l kind = true) (hk : hasK l k = true) (h1 : k ≠ pairA l kind) (h2 : k ≠ pairB l kind) :
    dropOk l k = true ∧ pairOk (dropV l k) kind = true ∧ pairA (dropV l k) kind = pairA l kind ∧ pairB (dropV l k) kind = pairB l kind := by
  obtain ⟨q1, q2, q3⟩ := pairOk_iff.1 h
  have hd : dropOk l k = true := dropOk_iff.2 ⟨q1, hk⟩
  obtain ⟨x, y, hc⟩ := pair_is h
  have hc' := isCP_drop hc h1 h2
  rw [dropV_of hd]
  have ho : pairOk (dropL l k) kind = true := pairOk_iff.2 ⟨dropL_store q1 k, q2, isCP_two hc'⟩
  obtain ⟨x', y', hn⟩ := pair_is ho
  obtain ⟨e1, e2⟩ := isCP_one (dropL_asc (storeB_asc q1) k) hn hc'
  exact ⟨hd, ho, e1, e2⟩
end Go.Proofs.Ytebiaodjodlloaa
