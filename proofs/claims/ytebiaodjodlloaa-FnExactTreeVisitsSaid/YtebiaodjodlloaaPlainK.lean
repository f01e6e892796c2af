/- Searches in trees, plain: what a search keeps within its bounds; what it finds is sorted. -/
import Derived.Test.YtebiaodjodlloaaPlainD
namespace Go.Proofs.Ytebiaodjodlloaa
set_option linter.unusedVariables false

def DB (F : List Ht) : Prop := ∀ h ∈ F, 0 ≤ h.dist ∧ h.dist ≤ 160000
theorem addH_mem {F : List Ht} {h y : Ht} {k : Nat} (hy : y ∈ addH F h k) : y = h ∨ y ∈ F := by
  have := (insL_perm htB Ht.zero h F).mem_iff.1 (List.mem_of_mem_take hy)
  exact List.mem_cons.1 this
theorem addH_len (F : List Ht) (h : Ht) (k : Nat) : (addH F h k).length ≤ k := by unfold addH; rw [List.length_take]; omega
theorem addH_db {F : List Ht} {h : Ht} {k : Nat} (hF : DB F) (hh : 0 ≤ h.dist ∧ h.dist ≤ 160000) : DB (addH F h k) := fun y hy => by
  rcases addH_mem hy with rfl | hy
  · exact hh
  · exact hF y hy
theorem vis_node (kind : Int) (c : List Int) (k : Nat) (x : It) (r : Int) (n f : Tr) (F : List Ht) (m : Int) : visT kind c k (.node x r n f) (F, m) =
    (if distL kind x.pt c 4 ≤ r then
      if r ≤ distL kind x.pt c 4 + reachV (visT kind c k n (addH F (hitOf kind c x) k, m + 1)).1 k then visT kind c k f (visT kind c k n (addH F (hitOf kind c x) k, m + 1))
      else visT kind c k n (addH F (hitOf kind c x) k, m + 1)
    else
      if distL kind x.pt c 4 - reachV (visT kind c k f (addH F (hitOf kind c x) k, m + 1)).1 k ≤ r then visT kind c k n (visT kind c k f (addH F (hitOf kind c x) k, m + 1))
      else visT kind c k f (addH F (hitOf kind c x) k, m + 1)) := by rw [visT]
/-- What holds before and behind a search of a tree. -/
structure VOk (k : Nat) (s : List Ht × Int) (m M : Int) : Prop where
  db : DB s.1
  len : s.1.length ≤ k
  lo : m ≤ s.2
  hi : s.2 ≤ M
theorem vis_ok {kind : Int} {c : List Int} {k : Nat} (hc : vecB c 4 = true) : ∀ (t : Tr) (s : List Ht × Int) (m M : Int), (∀ y ∈ t.items, vecB y.pt 4 = true) → VOk k s m M → VOk k (visT kind c k t s) m (M + t.size) := by
  intro t
  induction t with
  | nil => intro s m M _ h; simpa [visT, Tr.size] using h
  | node x r n f ih1 ih2 =>
    intro s m M hv h
    obtain ⟨F, q⟩ := s
    have hb := distL_bd (kind := kind) (hv x (by simp [Tr.items])) hc
    have h1 : VOk k (addH F (hitOf kind c x) k, q + 1) m (M + 1) := ⟨addH_db h.db hb, addH_len _ _ _, by have := h.lo; simp only at this ⊢; omega, by have := h.hi; simp only at this ⊢; omega⟩
    have hn : ∀ y ∈ n.items, vecB y.pt 4 = true := fun y hy => hv y (by simp [Tr.items, hy])
    have hf : ∀ y ∈ f.items, vecB y.pt 4 = true := fun y hy => hv y (by simp [Tr.items, hy])
    have wide : ∀ {s' : List Ht × Int} {M1 M2 : Int}, M1 ≤ M2 → VOk k s' m M1 → VOk k s' m M2 := fun hM h => ⟨h.db, h.len, h.lo, Int.le_trans h.hi hM⟩
    rw [vis_node]
    have e : ((Tr.node x r n f).size : Int) = n.size + f.size + 1 := by simp [Tr.size]
    split
    · split
      · exact wide (by rw [e]; omega) (ih2 _ _ _ hf (ih1 _ _ _ hn h1))
      · exact wide (by rw [e]; omega) (ih1 _ _ _ hn h1)
    · split
      · exact wide (by rw [e]; omega) (ih1 _ _ _ hn (ih2 _ _ _ hf h1))
      · exact wide (by rw [e]; omega) (ih2 _ _ _ hf h1)
theorem reach_bd {F : List Ht} {k : Nat} (h : DB F) : 0 ≤ reachV F k ∧ reachV F k ≤ 1000000 := by
  unfold reachV
  split
  · omega
  · cases hx : F[F.length - 1]? with
    | none => simp [Ht.zero]
    | some y => have := h y (List.mem_of_getElem? hx); simp only [Option.getD_some]; omega
theorem keysD_ix {l : List It} (h : KeysD l) {i j : Nat} {x y : It} (hx : l[i]? = some x) (hy : l[j]? = some y) (e : x.key = y.key) : i = j := by
  have hp := List.pairwise_iff_getElem.1 h
  obtain ⟨hi, rfl⟩ := List.getElem?_eq_some_iff.1 hx
  obtain ⟨hj, rfl⟩ := List.getElem?_eq_some_iff.1 hy
  rcases Nat.lt_trichotomy i j with hlt | heq | hgt
  · exact absurd e (hp i j hi hj hlt)
  · exact heq
  · exact absurd e.symm (hp j i hj hi hgt)

/-! What a search finds is sorted, as long as no key comes twice. -/
def Fresh (F : List Ht) (l : List It) : Prop := ∀ h ∈ F, ∀ y ∈ l, h.key ≠ y.key
theorem addH_sorted {F : List Ht} {h : Ht} {k : Nat} (hs : SortedL htB F) (hf : ∀ y ∈ F, y.key ≠ h.key) : SortedL htB (insL htB Ht.zero h F) := by
  refine insL_sorted htB_ord hs fun y hy hlt => ?_
  have hne := hf y hy
  rw [Bool.eq_false_iff, ne_eq, htB_iff] at hlt
  rw [htB_iff]
  omega
theorem vis_mem {kind : Int} {c : List Int} {k : Nat} : ∀ (t : Tr) (s : List Ht × Int) (h : Ht), h ∈ (visT kind c k t s).1 → h ∈ s.1 ∨ ∃ y ∈ t.items, h = hitOf kind c y := by
  intro t
  induction t with
  | nil => intro s h hh; exact .inl (by simpa [visT] using hh)
  | node x r n f ih1 ih2 =>
    intro s h hh
    obtain ⟨F, q⟩ := s
    have base : h ∈ addH F (hitOf kind c x) k → h ∈ F ∨ ∃ y ∈ (Tr.node x r n f).items, h = hitOf kind c y := fun hm => by
      rcases addH_mem hm with rfl | hm
      · exact .inr ⟨x, by simp [Tr.items], rfl⟩
      · exact .inl hm
    have inN : (∃ y ∈ n.items, h = hitOf kind c y) → ∃ y ∈ (Tr.node x r n f).items, h = hitOf kind c y := fun ⟨y, hy, e⟩ => ⟨y, by simp [Tr.items, hy], e⟩
    have inF : (∃ y ∈ f.items, h = hitOf kind c y) → ∃ y ∈ (Tr.node x r n f).items, h = hitOf kind c y := fun ⟨y, hy, e⟩ => ⟨y, by simp [Tr.items, hy], e⟩
    rw [vis_node] at hh
    split at hh
    · split at hh
      · rcases ih2 _ _ hh with hm | hm
        · rcases ih1 _ _ hm with hm | hm
          · exact base hm
          · exact .inr (inN hm)
        · exact .inr (inF hm)
      · rcases ih1 _ _ hh with hm | hm
        · exact base hm
        · exact .inr (inN hm)
    · split at hh
      · rcases ih1 _ _ hh with hm | hm
        · rcases ih2 _ _ hm with hm | hm
          · exact base hm
          · exact .inr (inF hm)
        · exact .inr (inN hm)
      · rcases ih2 _ _ hh with hm | hm
        · exact base hm
        · exact .inr (inF hm)
end Go.Proofs.Ytebiaodjodlloaa
