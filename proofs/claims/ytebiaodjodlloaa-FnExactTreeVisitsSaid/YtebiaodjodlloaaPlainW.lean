/- Searches in trees, plain: what a search finds stays sorted, as long as no key comes twice. -/
import Derived.Test.YtebiaodjodlloaaPlainK
namespace Go.Proofs.Ytebiaodjodlloaa
set_option linter.unusedVariables false

structure SOk (F : List Ht) (l : List It) : Prop where
  srt : SortedL htB F
  fr : Fresh F l
theorem SOk.sub {F : List Ht} {l l' : List It} (h : SOk F l) (hs : ∀ y ∈ l', y ∈ l) : SOk F l' := ⟨h.srt, fun a ha y hy => h.fr a ha y (hs y hy)⟩
theorem SOk.head {F : List Ht} {x : It} {l : List It} {kind : Int} {c : List Int} {k : Nat} (h : SOk F (x :: l)) (hk : KeysD (x :: l)) : SOk (addH F (hitOf kind c x) k) l ∧ SortedL htB (insL htB Ht.zero (hitOf kind c x) F) := by
  have hs : SortedL htB (insL htB Ht.zero (hitOf kind c x) F) := addH_sorted (k := k) h.srt fun y hy => h.fr y hy x (List.mem_cons_self ..)
  refine ⟨⟨List.Pairwise.sublist (List.take_sublist _ _) hs, fun a ha y hy => ?_⟩, hs⟩
  rcases addH_mem ha with rfl | ha
  · exact (List.pairwise_cons.1 hk).1 y hy
  · exact h.fr a ha y (List.mem_cons_of_mem _ hy)
theorem vis_sok {kind : Int} {c : List Int} {k : Nat} : ∀ (t : Tr) (s : List Ht × Int) (rest : List It), KeysD (t.items ++ rest) → SOk s.1 (t.items ++ rest) → SOk (visT kind c k t s).1 rest := by
  intro t
  induction t with
  | nil => intro s rest _ h; simpa [visT, Tr.items] using h
  | node x r n f ih1 ih2 =>
    intro s rest hk h
    obtain ⟨F, q⟩ := s
    have e : (Tr.node x r n f).items ++ rest = x :: (n.items ++ (f.items ++ rest)) := by simp [Tr.items]
    rw [e] at hk h
    have hp : (f.items ++ (n.items ++ rest)).Perm (n.items ++ (f.items ++ rest)) := by
      rw [← List.append_assoc, ← List.append_assoc]
      exact List.perm_append_comm.append_right rest
    have hk1 : KeysD (n.items ++ (f.items ++ rest)) := (List.pairwise_cons.1 hk).2
    have hk2 : KeysD (f.items ++ (n.items ++ rest)) := hk1.perm hp
    have h1 : SOk (addH F (hitOf kind c x) k) (n.items ++ (f.items ++ rest)) := (SOk.head h hk).1
    have h2 : SOk (addH F (hitOf kind c x) k) (f.items ++ (n.items ++ rest)) := h1.sub fun y hy => hp.mem_iff.1 hy
    have kf : KeysD (f.items ++ rest) := hk1.sub (List.sublist_append_right _ _)
    have kn : KeysD (n.items ++ rest) := hk2.sub (List.sublist_append_right _ _)
    have a1 := ih1 (addH F (hitOf kind c x) k, q + 1) (f.items ++ rest) hk1 h1
    have a2 := ih2 (addH F (hitOf kind c x) k, q + 1) (n.items ++ rest) hk2 h2
    rw [vis_node]
    split
    · split
      · exact ih2 _ rest kf a1
      · exact a1.sub fun y hy => List.mem_append.2 (.inr hy)
    · split
      · exact ih1 _ rest kn a2
      · exact a2.sub fun y hy => List.mem_append.2 (.inr hy)
theorem insL_permr {F : List Ht} {h : Ht} : (insL htB Ht.zero h F).Perm (F ++ [h]) := (insL_perm htB Ht.zero h F).trans (List.perm_append_comm (l₁ := [h]) (l₂ := F))
end Go.Proofs.Ytebiaodjodlloaa
