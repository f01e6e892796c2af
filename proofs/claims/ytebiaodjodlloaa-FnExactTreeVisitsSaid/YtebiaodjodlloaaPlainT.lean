/- Plain laws on trees of items: how they are built, and that a search in them finds the nearest. No program in sight. -/
import Derived.Test.YtebiaodjodlloaaPlainN
import Derived.Test.YtebiaodjodlloaaPlainV
import Derived.Test.YtebiaodjodlloaaPlainL
namespace Go.Proofs.Ytebiaodjodlloaa
set_option linter.unusedVariables false

structure Nd where
  key : Int
  radius : Int
  near : Int
  far : Int
def Nd.zero : Nd := ⟨0, 0, 0, 0⟩
/-- Items by their distances to a vector, and by their keys. -/
def itB (kind : Int) (c : List Int) (a b : It) : Bool := htB (hitOf kind c a) (hitOf kind c b)
theorem itB_ord (kind : Int) (c : List Int) : Ord (itB kind c) := ⟨fun a => htB_ord.irr _, fun a b d h1 h2 => htB_ord.tr _ _ _ h1 h2⟩
theorem itB_iff {kind : Int} {c : List Int} {a b : It} : itB kind c a b = true ↔ distL kind a.pt c 4 < distL kind b.pt c 4 ∨ (distL kind a.pt c 4 = distL kind b.pt c 4 ∧ a.key < b.key) := htB_iff
def KeysD (l : List It) : Prop := l.Pairwise (fun a b => a.key ≠ b.key)
theorem KeysD.perm {l l' : List It} (h : KeysD l) (hp : l'.Perm l) : KeysD l' := List.Pairwise.perm (R := fun a b : It => a.key ≠ b.key) h hp.symm (fun h => Ne.symm h)
theorem KeysD.sub {l l' : List It} (h : KeysD l) (hs : l'.Sublist l) : KeysD l' := h.sublist hs
theorem parted_of_keys {l : List It} (h : KeysD l) (kind : Int) (c : List Int) : Parted (itB kind c) l := h.imp fun {a b} hab => by
  rw [itB_iff, itB_iff]; omega
theorem AscK.keysD {l : List It} (h : AscK l) : KeysD l := h.imp fun {a b} hab => by omega
def byD (kind : Int) (c : List Int) (l : List It) : List It := insTo (itB kind c) It.zero l l.length
theorem byD_perm (kind : Int) (c : List Int) (l : List It) : (byD kind c l).Perm l := by
  have := insTo_perm (itB kind c) It.zero l (Nat.le_refl l.length)
  rwa [List.take_length] at this
theorem byD_sorted {kind : Int} {c : List Int} {l : List It} (h : KeysD l) : SortedL (itB kind c) (byD kind c l) :=
  insTo_sorted (itB_ord _ _) (parted_of_keys h _ _) (Nat.le_refl _)
theorem byD_len (kind : Int) (c : List Int) (l : List It) : (byD kind c l).length = l.length := (byD_perm kind c l).length_eq
theorem byD_unique {kind : Int} {c : List Int} {l s : List It} (h : KeysD l) (hp : s.Perm l) (hs : SortedL (itB kind c) s) : s = byD kind c l :=
  sorted_unique (itB_ord _ _) (hp.trans (byD_perm _ _ _).symm) hs (byD_sorted h)

inductive Tr where
  | nil : Tr
  | node (x : It) (r : Int) (n f : Tr) : Tr
def Tr.size : Tr → Nat
  | .nil => 0
  | .node _ _ n f => n.size + f.size + 1
def Tr.items : Tr → List It
  | .nil => []
  | .node x _ n f => x :: (n.items ++ f.items)
def Tr.ix : Tr → Int → Int
  | .nil, _ => -1
  | .node _ _ _ _, b => b
def Tr.nodes : Tr → Int → List Nd
  | .nil, _ => []
  | .node x r n f, b => ⟨x.key, r, n.ix (b + 1), f.ix (b + 1 + n.size)⟩ :: (n.nodes (b + 1) ++ f.nodes (b + 1 + n.size))
def halfN (m : Nat) : Nat := (m + 1) / 2
theorem halfN_le (m : Nat) : halfN m ≤ m := by unfold halfN; omega
theorem halfN_pos {m : Nat} (h : 0 < m) : 0 < halfN m := by unfold halfN; omega
def radOf (kind : Int) (c : List Int) (r : List It) : Int := if 0 < halfN r.length then distL kind c (itI r (halfN r.length - 1)).pt 4 else 0
def treeOf (kind : Int) : Nat → List It → Tr
  | 0, _ => .nil
  | _ + 1, [] => .nil
  | n + 1, top :: rest => .node top (radOf kind top.pt (byD kind top.pt rest)) (treeOf kind n ((byD kind top.pt rest).take (halfN rest.length))) (treeOf kind n ((byD kind top.pt rest).drop (halfN rest.length)))
theorem items_len (t : Tr) : t.items.length = t.size := by
  induction t with
  | nil => rfl
  | node x r n f h1 h2 => simp [Tr.items, Tr.size, h1, h2]
theorem nodes_len (t : Tr) : ∀ b, (t.nodes b).length = t.size := by
  induction t with
  | nil => intro b; rfl
  | node x r n f h1 h2 => intro b; simp [Tr.nodes, Tr.size, h1, h2]
theorem nodes_keys (t : Tr) : ∀ b, (t.nodes b).map Nd.key = t.items.map It.key := by
  induction t with
  | nil => intro b; rfl
  | node x r n f h1 h2 => intro b; simp [Tr.nodes, Tr.items, h1, h2]
theorem tree_perm (kind : Int) : ∀ {n : Nat} {l : List It}, l.length ≤ n → (treeOf kind n l).items.Perm l
  | 0, [], _ => List.Perm.refl _
  | 0, _ :: _, h => by simp at h
  | n + 1, [], _ => List.Perm.refl _
  | n + 1, top :: rest, h => by
    have hr := byD_len kind top.pt rest
    simp only [List.length_cons] at h
    have h1 := tree_perm kind (n := n) (l := (byD kind top.pt rest).take (halfN rest.length)) (by simp; omega)
    have h2 := tree_perm kind (n := n) (l := (byD kind top.pt rest).drop (halfN rest.length)) (by simp; omega)
    rw [treeOf, Tr.items]
    refine List.Perm.cons _ ((h1.append h2).trans ?_)
    rw [List.take_append_drop]
    exact byD_perm _ _ _
theorem tree_size (kind : Int) {n : Nat} {l : List It} (h : l.length ≤ n) : (treeOf kind n l).size = l.length := by
  rw [← items_len, (tree_perm kind h).length_eq]
theorem tree_ix (kind : Int) {n : Nat} {l : List It} (h : l.length ≤ n) (b : Int) : (treeOf kind n l).ix b = if l.length = 0 then -1 else b := by
  match n, l, h with
  | 0, [], _ => rfl
  | 0, _ :: _, h => simp at h
  | n + 1, [], _ => rfl
  | n + 1, top :: rest, _ => simp [treeOf, Tr.ix]

/-- The tree's nodes lie from b on, below e, in a list of nodes; i is the number of its top. -/
inductive Lay (nodes : List Nd) : Tr → Int → Nat → Nat → Prop
  | nil (b : Nat) : Lay nodes .nil (-1) b b
  | node (x : It) (r near far : Int) (tn tf : Tr) (b m e : Nat) : nodes[b]? = some ⟨x.key, r, near, far⟩ → Lay nodes tn near (b + 1) m → Lay nodes tf far m e → Lay nodes (.node x r tn tf) b b e
theorem lay_of (t : Tr) : ∀ (pre post : List Nd), Lay (pre ++ t.nodes pre.length ++ post) t (t.ix pre.length) pre.length (pre.length + t.size) := by
  induction t with
  | nil => intro pre post; exact Lay.nil _
  | node x r n f h1 h2 =>
    intro pre post
    rw [Tr.nodes]
    obtain ⟨nd, hnd⟩ : ∃ nd : Nd, nd = ⟨x.key, r, n.ix ((pre.length : Int) + 1), f.ix ((pre.length : Int) + 1 + n.size)⟩ := ⟨_, rfl⟩
    have a1 := h1 (pre ++ [nd]) (f.nodes ((pre.length : Int) + 1 + n.size) ++ post)
    have a2 := h2 (pre ++ nd :: n.nodes ((pre.length : Int) + 1)) post
    have e1 : ((pre ++ [nd]).length : Int) = (pre.length : Int) + 1 := by simp
    have e1' : (pre ++ [nd]).length = pre.length + 1 := by simp
    have e2 : ((pre ++ nd :: n.nodes ((pre.length : Int) + 1)).length : Int) = (pre.length : Int) + 1 + n.size := by simp [nodes_len]; omega
    have e2' : (pre ++ nd :: n.nodes ((pre.length : Int) + 1)).length = pre.length + 1 + n.size := by simp [nodes_len]; omega
    rw [e1, e1'] at a1
    rw [e2, e2'] at a2
    rw [← hnd]
    have q1 : pre ++ [nd] ++ n.nodes ((pre.length : Int) + 1) ++ (f.nodes ((pre.length : Int) + 1 + n.size) ++ post) = pre ++ (nd :: (n.nodes ((pre.length : Int) + 1) ++ f.nodes ((pre.length : Int) + 1 + n.size))) ++ post := by simp
    have q2 : pre ++ nd :: n.nodes ((pre.length : Int) + 1) ++ f.nodes ((pre.length : Int) + 1 + n.size) ++ post = pre ++ (nd :: (n.nodes ((pre.length : Int) + 1) ++ f.nodes ((pre.length : Int) + 1 + n.size))) ++ post := by simp
    rw [q1] at a1
    rw [q2] at a2
    have := Lay.node x r _ _ n f pre.length (pre.length + 1 + n.size) (pre.length + 1 + n.size + f.size) (nodes := pre ++ (nd :: (n.nodes ((pre.length : Int) + 1) ++ f.nodes ((pre.length : Int) + 1 + n.size))) ++ post) (by rw [List.append_assoc, List.getElem?_append_right (Nat.le_refl _), Nat.sub_self, List.cons_append, List.getElem?_cons_zero, hnd]) a1 a2
    rw [Tr.ix, Tr.size]
    rw [show pre.length + (n.size + f.size + 1) = pre.length + 1 + n.size + f.size by omega]
    exact this
theorem lay_all (t : Tr) : Lay (t.nodes 0) t (t.ix 0) 0 t.size := by
  have := lay_of t [] []
  simpa using this
theorem Lay.le {nodes : List Nd} {t : Tr} {i : Int} {b e : Nat} (h : Lay nodes t i b e) : e = b + t.size ∧ (0 < t.size → b < nodes.length ∧ i = b) ∧ (b ≤ nodes.length → e ≤ nodes.length) := by
  induction h with
  | nil b => exact ⟨rfl, fun h => by simp [Tr.size] at h, fun h => h⟩
  | node x r near far tn tf b m e h1 h2 h3 ih1 ih2 =>
    have := (List.getElem?_eq_some_iff.1 h1).1
    refine ⟨by rw [Tr.size]; omega, fun _ => ⟨this, rfl⟩, fun _ => ih2.2.2 (ih1.2.2 (by omega))⟩

/-! The search. -/
def reachV (F : List Ht) (k : Nat) : Int := if F.length < k then 1000000 else (F[F.length - 1]?.getD Ht.zero).dist
def addH (F : List Ht) (h : Ht) (k : Nat) : List Ht := (insL htB Ht.zero h F).take k
def visT (kind : Int) (c : List Int) (k : Nat) : Tr → List Ht × Int → List Ht × Int
  | .nil, s => s
  | .node x r n f, s =>
    if distL kind x.pt c 4 ≤ r then
      if r ≤ distL kind x.pt c 4 + reachV (visT kind c k n (addH s.1 (hitOf kind c x) k, s.2 + 1)).1 k then visT kind c k f (visT kind c k n (addH s.1 (hitOf kind c x) k, s.2 + 1))
      else visT kind c k n (addH s.1 (hitOf kind c x) k, s.2 + 1)
    else
      if distL kind x.pt c 4 - reachV (visT kind c k f (addH s.1 (hitOf kind c x) k, s.2 + 1)).1 k ≤ r then visT kind c k n (visT kind c k f (addH s.1 (hitOf kind c x) k, s.2 + 1))
      else visT kind c k f (addH s.1 (hitOf kind c x) k, s.2 + 1)
/-- The first k of some hits in their order. -/
def firstK (k : Nat) (S : List Ht) : List Ht := (insTo htB Ht.zero S S.length).take k
theorem insTo_congr {α : Type} (lt : α → α → Bool) (d : α) {l l' : List α} : ∀ {n : Nat}, (∀ i, i < n → l[i]? = l'[i]?) → insTo lt d l n = insTo lt d l' n
  | 0, _ => rfl
  | n + 1, h => by rw [insTo, insTo, insTo_congr lt d (fun i hi => h i (by omega)), h n (by omega)]
theorem parted_left {α : Type} {lt : α → α → Bool} {a b : List α} (h : Parted lt (a ++ b)) : Parted lt a := h.sublist (List.sublist_append_left _ _)
theorem parted_perm {α : Type} {lt : α → α → Bool} {a b : List α} (h : Parted lt a) (hp : b.Perm a) : Parted lt b := List.Pairwise.perm (R := fun a b : α => lt a b = true ∨ lt b a = true) h hp.symm (fun h => h.symm)
theorem srt_perm (S : List Ht) : (insTo htB Ht.zero S S.length).Perm S := by
  have := insTo_perm htB Ht.zero S (Nat.le_refl S.length)
  rwa [List.take_length] at this
theorem srt_sorted {S : List Ht} (h : Parted htB S) : SortedL htB (insTo htB Ht.zero S S.length) := insTo_sorted htB_ord h (Nat.le_refl _)
theorem firstK_perm {S S' : List Ht} (k : Nat) (h : Parted htB S) (hp : S'.Perm S) : firstK k S' = firstK k S := by
  unfold firstK
  rw [sorted_unique htB_ord ((srt_perm S').trans (hp.trans (srt_perm S).symm)) (srt_sorted (parted_perm h hp)) (srt_sorted h)]
theorem firstK_add {S : List Ht} {h : Ht} (k : Nat) (hS : Parted htB (S ++ [h])) : addH (firstK k S) h k = firstK k (S ++ [h]) := by
  unfold addH firstK
  rw [insL_take htB_ord (srt_sorted (parted_left hS)), List.length_append, List.length_singleton, insTo]
  have e1 : (S ++ [h])[S.length]?.getD Ht.zero = h := by simp
  have e2 : insTo htB Ht.zero (S ++ [h]) S.length = insTo htB Ht.zero S S.length := insTo_congr _ _ fun i hi => List.getElem?_append_left hi
  rw [e1, e2]
theorem firstK_len (k : Nat) (S : List Ht) : (firstK k S).length = min k S.length := by
  unfold firstK; rw [List.length_take, (srt_perm S).length_eq]
theorem sorted_dist {s : List Ht} (h : SortedL htB s) {i j : Nat} (hij : i ≤ j) (hj : j < s.length) : (s[i]?.getD Ht.zero).dist ≤ (s[j]?.getD Ht.zero).dist := by
  rcases Nat.lt_or_ge i j with h1 | h1
  · have := h.at_ (d := Ht.zero) h1 hj
    rw [htB_iff] at this; omega
  · have : i = j := by omega
    subst this; exact Int.le_refl _
/-- Those that lie beyond the reach do not matter. -/
theorem firstK_far {S Y : List Ht} {k : Nat} (hk : 0 < k) (hS : Parted htB (S ++ Y)) (hl : k ≤ S.length) (hy : ∀ y ∈ Y, reachV (firstK k S) k < y.dist) : firstK k (S ++ Y) = firstK k S := by
  have hsS := srt_sorted (parted_left hS)
  have hpS := srt_perm S
  have hlS := hpS.length_eq
  have hfl : (firstK k S).length = k := by rw [firstK_len]; omega
  have hre : reachV (firstK k S) k = ((insTo htB Ht.zero S S.length)[k - 1]?.getD Ht.zero).dist := by
    unfold reachV
    rw [hfl, if_neg (by omega)]
    unfold firstK
    rw [List.getElem?_take, if_pos (by omega)]
  obtain ⟨s, hs⟩ : ∃ s, s = insTo htB Ht.zero S S.length := ⟨_, rfl⟩
  rw [← hs] at hsS hpS hlS hre
  have hZ : Parted htB (s.drop k ++ Y) := by
    refine (parted_perm hS (?_ : (s ++ Y).Perm (S ++ Y))).sublist ((List.drop_sublist k s).append (List.Sublist.refl Y))
    exact hpS.append_right Y
  have hzs := srt_sorted hZ
  have hzp := srt_perm (s.drop k ++ Y)
  obtain ⟨z, hz⟩ : ∃ z, z = insTo htB Ht.zero (s.drop k ++ Y) (s.drop k ++ Y).length := ⟨_, rfl⟩
  rw [← hz] at hzs hzp
  have hso : SortedL htB (s.take k ++ z) := by
    unfold SortedL
    rw [List.pairwise_append]
    refine ⟨hsS.sublist (List.take_sublist _ _), hzs, fun a ha b hb => ?_⟩
    obtain ⟨i, hi, rfl⟩ := List.mem_iff_getElem.1 ha
    rw [List.getElem_take]
    have hi1 : i < k := by simp at hi; omega
    have hi2 : i < s.length := by omega
    have hb' := hzp.mem_iff.1 hb
    rcases List.mem_append.1 hb' with hb' | hb'
    · obtain ⟨j, hj, rfl⟩ := List.mem_iff_getElem.1 hb'
      rw [List.getElem_drop]
      have hj' : k + j < s.length := by simp at hj; omega
      exact (List.pairwise_iff_getElem.1 hsS) i (k + j) hi2 hj' (by omega)
    · have h1 := hy b hb'
      rw [hre] at h1
      have h2 := sorted_dist hsS (show i ≤ k - 1 by omega) (by omega)
      rw [getD_of hi2] at h2
      exact htB_iff.2 (.inl (by omega))
  have hpe : (s.take k ++ z).Perm (S ++ Y) := by
    refine (hzp.append_left (s.take k)).trans ?_
    rw [← List.append_assoc, List.take_append_drop]
    exact hpS.append_right Y
  have he := sorted_unique htB_ord (hpe.trans (srt_perm (S ++ Y)).symm) hso (srt_sorted hS)
  unfold firstK
  rw [← he, ← hs, List.take_append_of_le_length (by simp; omega), List.take_take, Nat.min_self]

/-- What a search leans on: near items are near, far items are far. -/
def TOk (kind : Int) : Tr → Prop
  | .nil => True
  | .node x r n f => 0 ≤ r ∧ r < 1000000 ∧ (∀ y ∈ n.items, distL kind y.pt x.pt 4 ≤ r) ∧ (∀ y ∈ f.items, r ≤ distL kind y.pt x.pt 4) ∧ TOk kind n ∧ TOk kind f
theorem vis_first {kind : Int} {c : List Int} {k : Nat} (h3 : kind ≠ 3) (hk : 0 < k) : ∀ (t : Tr) (S : List Ht) (m : Int), TOk kind t → (∀ y ∈ t.items, distL kind y.pt c 4 < 1000000) → Parted htB (S ++ t.items.map (hitOf kind c)) →
    (visT kind c k t (firstK k S, m)).1 = firstK k (S ++ t.items.map (hitOf kind c)) := by
  intro t
  induction t with
  | nil => intro S m _ _ _; simp [visT, Tr.items]
  | node x r n f ih1 ih2 =>
    intro S m hok hd hp
    obtain ⟨r0, r1, hn, hf, okn, okf⟩ := hok
    have hdn : ∀ y ∈ n.items, distL kind y.pt c 4 < 1000000 := fun y hy => hd y (List.mem_cons_of_mem _ (List.mem_append.2 (.inl hy)))
    have hdf : ∀ y ∈ f.items, distL kind y.pt c 4 < 1000000 := fun y hy => hd y (List.mem_cons_of_mem _ (List.mem_append.2 (.inr hy)))
    have hdx := hd x (List.mem_cons_self ..)
    have hx0 := distL_nonneg kind x.pt c 4
    obtain ⟨N, hN⟩ : ∃ N, N = n.items.map (hitOf kind c) := ⟨_, rfl⟩
    obtain ⟨F, hF⟩ : ∃ F, F = f.items.map (hitOf kind c) := ⟨_, rfl⟩
    have hall : S ++ (Tr.node x r n f).items.map (hitOf kind c) = S ++ [hitOf kind c x] ++ N ++ F := by rw [hN, hF, Tr.items, List.map_cons, List.map_append]; simp
    rw [hall] at hp ⊢
    have hp' : Parted htB (S ++ [hitOf kind c x] ++ F ++ N) := parted_perm hp (by
      rw [List.append_assoc, List.append_assoc (S ++ [hitOf kind c x])]
      exact List.Perm.append_left _ List.perm_append_comm)
    have e0 := firstK_add k (S := S) (h := hitOf kind c x) (parted_left (parted_left hp))
    have triN : ∀ y ∈ n.items, distL kind x.pt c 4 - r ≤ distL kind y.pt c 4 := fun y hy => by
      have a := distL_tri h3 x.pt c y.pt 4
      rw [distL_comm kind x.pt y.pt] at a
      have b := hn y hy
      omega
    have triF : ∀ y ∈ f.items, r - distL kind x.pt c 4 ≤ distL kind y.pt c 4 := fun y hy => by
      have a := distL_tri h3 y.pt x.pt c 4
      rw [distL_comm kind c x.pt] at a
      have b := hf y hy
      omega
    rw [visT]
    simp only
    rw [e0]
    by_cases hc : distL kind x.pt c 4 ≤ r
    · rw [if_pos hc]
      have a1 := ih1 (S ++ [hitOf kind c x]) (m + 1) okn hdn (by rw [← hN]; exact parted_left hp)
      rw [← hN] at a1
      have a2 := ih2 (S ++ [hitOf kind c x] ++ N) (visT kind c k n (firstK k (S ++ [hitOf kind c x]), m + 1)).2 okf hdf (by rw [← hF]; exact hp)
      rw [← hF] at a2
      have es : visT kind c k n (firstK k (S ++ [hitOf kind c x]), m + 1) = (firstK k (S ++ [hitOf kind c x] ++ N), (visT kind c k n (firstK k (S ++ [hitOf kind c x]), m + 1)).2) := by rw [← a1]
      by_cases hr : r ≤ distL kind x.pt c 4 + reachV (firstK k (S ++ [hitOf kind c x] ++ N)) k
      · rw [a1, if_pos hr, es]; exact a2
      · rw [a1, if_neg hr, a1]
        have hfull : k ≤ (S ++ [hitOf kind c x] ++ N).length := by
          rcases Nat.lt_or_ge (S ++ [hitOf kind c x] ++ N).length k with h | h
          · exfalso
            have : reachV (firstK k (S ++ [hitOf kind c x] ++ N)) k = 1000000 := by unfold reachV; rw [if_pos (by rw [firstK_len]; omega)]
            omega
          · exact h
        refine (firstK_far hk hp hfull fun y hy => ?_).symm
        rw [hF] at hy
        obtain ⟨z, hz, rfl⟩ := List.mem_map.1 hy
        have := triF z hz
        show _ < distL kind z.pt c 4
        omega
    · rw [if_neg hc]
      have a1 := ih2 (S ++ [hitOf kind c x]) (m + 1) okf hdf (by rw [← hF]; exact parted_left hp')
      rw [← hF] at a1
      have a2 := ih1 (S ++ [hitOf kind c x] ++ F) (visT kind c k f (firstK k (S ++ [hitOf kind c x]), m + 1)).2 okn hdn (by rw [← hN]; exact hp')
      rw [← hN] at a2
      have es : visT kind c k f (firstK k (S ++ [hitOf kind c x]), m + 1) = (firstK k (S ++ [hitOf kind c x] ++ F), (visT kind c k f (firstK k (S ++ [hitOf kind c x]), m + 1)).2) := by rw [← a1]
      have hpm : firstK k (S ++ [hitOf kind c x] ++ F ++ N) = firstK k (S ++ [hitOf kind c x] ++ N ++ F) := firstK_perm k hp (by
        rw [List.append_assoc, List.append_assoc (S ++ [hitOf kind c x])]
        exact List.Perm.append_left _ List.perm_append_comm)
      by_cases hr : distL kind x.pt c 4 - reachV (firstK k (S ++ [hitOf kind c x] ++ F)) k ≤ r
      · rw [a1, if_pos hr, es, a2, hpm]
      · rw [a1, if_neg hr, a1, ← hpm]
        have hfull : k ≤ (S ++ [hitOf kind c x] ++ F).length := by
          rcases Nat.lt_or_ge (S ++ [hitOf kind c x] ++ F).length k with h | h
          · exfalso
            have : reachV (firstK k (S ++ [hitOf kind c x] ++ F)) k = 1000000 := by unfold reachV; rw [if_pos (by rw [firstK_len]; omega)]
            omega
          · exact h
        refine (firstK_far hk hp' hfull fun y hy => ?_).symm
        rw [hN] at hy
        obtain ⟨z, hz, rfl⟩ := List.mem_map.1 hy
        have := triN z hz
        show _ < distL kind z.pt c 4
        omega

theorem rad_bd {kind : Int} {c : List Int} {r : List It} (hc : vecB c 4 = true) (hr : ∀ y ∈ r, vecB y.pt 4 = true) : 0 ≤ radOf kind c r ∧ radOf kind c r ≤ 160000 := by
  unfold radOf
  split
  · rename_i h
    have hl := halfN_le r.length
    exact distL_bd kind hc (hr _ (List.mem_of_getElem? (itI_get (show halfN r.length - 1 < r.length by omega))))
  · omega
theorem take_near {kind : Int} {c : List Int} {r : List It} (hs : SortedL (itB kind c) r) : ∀ y ∈ r.take (halfN r.length), distL kind y.pt c 4 ≤ radOf kind c r := by
  intro y hy
  obtain ⟨i, hi, rfl⟩ := List.mem_iff_getElem.1 hy
  have hl := halfN_le r.length
  have hi1 : i < halfN r.length := by simp at hi; omega
  have hi2 : i < r.length := by omega
  rw [List.getElem_take]
  unfold radOf
  rw [if_pos (by omega), distL_comm kind c, itI_of (List.getElem?_eq_getElem (show halfN r.length - 1 < r.length by omega))]
  rcases Nat.lt_or_ge i (halfN r.length - 1) with h | h
  · have := (List.pairwise_iff_getElem.1 hs) i (halfN r.length - 1) hi2 (by omega) h
    rw [itB_iff] at this; omega
  · have : i = halfN r.length - 1 := by omega
    subst this; exact Int.le_refl _
theorem drop_far {kind : Int} {c : List Int} {r : List It} (hs : SortedL (itB kind c) r) : ∀ y ∈ r.drop (halfN r.length), radOf kind c r ≤ distL kind y.pt c 4 := by
  intro y hy
  obtain ⟨i, hi, rfl⟩ := List.mem_iff_getElem.1 hy
  have hi1 : halfN r.length + i < r.length := by simp at hi; omega
  have hp : 0 < halfN r.length := halfN_pos (by omega)
  rw [List.getElem_drop]
  unfold radOf
  rw [if_pos hp, distL_comm kind c, itI_of (List.getElem?_eq_getElem (show halfN r.length - 1 < r.length by omega))]
  have := (List.pairwise_iff_getElem.1 hs) (halfN r.length - 1) (halfN r.length + i) (by omega) hi1 (by omega)
  rw [itB_iff] at this; omega
theorem tree_ok (kind : Int) : ∀ {n : Nat} {l : List It}, l.length ≤ n → KeysD l → (∀ y ∈ l, vecB y.pt 4 = true) → TOk kind (treeOf kind n l)
  | 0, _, _, _, _ => trivial
  | n + 1, [], _, _, _ => trivial
  | n + 1, top :: rest, h, hk, hv => by
    have hlen := byD_len kind top.pt rest
    have hpm := byD_perm kind top.pt rest
    have hkr : KeysD rest := (List.pairwise_cons.1 hk).2
    have hs := byD_sorted (kind := kind) (c := top.pt) hkr
    have hvr : ∀ y ∈ byD kind top.pt rest, vecB y.pt 4 = true := fun y hy => hv y (List.mem_cons_of_mem _ (hpm.mem_iff.1 hy))
    have hkb : KeysD (byD kind top.pt rest) := hkr.perm hpm
    simp only [List.length_cons] at h
    have l1 : ((byD kind top.pt rest).take (halfN rest.length)).length ≤ n := by simp; omega
    have l2 : ((byD kind top.pt rest).drop (halfN rest.length)).length ≤ n := by simp; omega
    have b := rad_bd (kind := kind) (hv top (List.mem_cons_self ..)) hvr
    rw [treeOf]
    refine ⟨b.1, by omega, fun y hy => ?_, fun y hy => ?_, tree_ok kind l1 (hkb.sub (List.take_sublist _ _)) fun y hy => hvr y (List.mem_of_mem_take hy), tree_ok kind l2 (hkb.sub (List.drop_sublist _ _)) fun y hy => hvr y (List.mem_of_mem_drop hy)⟩
    · have hy' := (tree_perm kind l1).mem_iff.1 hy
      rw [← hlen] at hy'
      exact take_near hs y hy'
    · have hy' := (tree_perm kind l2).mem_iff.1 hy
      rw [← hlen] at hy'
      exact drop_far hs y hy'

/-! What both texts hand back. -/
def treeKind (kind : Int) : Bool := kindB kind && decide (kind ≠ 3)
def treeOk (l : List It) (kind : Int) : Bool := storeB l && treeKind kind
def treeT (l : List It) (kind : Int) : Tr := treeOf kind l.length l
def treeV (l : List It) (kind : Int) : List Nd := if treeOk l kind then (treeT l kind).nodes 0 else []
def seekOk (l : List It) (kind : Int) (c : List Int) (k : Int) : Bool := queryOk l kind c && treeKind kind && inB k 1 16
def seekV (l : List It) (kind : Int) (c : List Int) (k : Int) : List Ht := if seekOk l kind c k then (visT kind c k.toNat (treeT l kind) ([], 0)).1 else []
def visitsV (l : List It) (kind : Int) (c : List Int) (k : Int) : Int := if seekOk l kind c k then (visT kind c k.toNat (treeT l kind) ([], 0)).2 else -1
theorem queryOk_iff {l : List It} {kind : Int} {c : List Int} : queryOk l kind c = true ↔ storeB l = true ∧ kindB kind = true ∧ vecB c 4 = true := by simp [queryOk, and_assoc]
theorem store_vecs {l : List It} (h : storeB l = true) : ∀ y ∈ l, vecB y.pt 4 = true := fun y hy => (itemB_iff.1 (storeB_mem h hy)).2.1
theorem seek_nearest {l : List It} {kind : Int} {c : List Int} {k : Int} (h : seekOk l kind c k = true) : seekV l kind c k = nearV l kind c k := by
  have h' := h
  simp only [seekOk, treeKind, Bool.and_eq_true, decide_eq_true_eq] at h
  obtain ⟨⟨hq, hkd, h3⟩, hk⟩ := h
  obtain ⟨hs, _, hc⟩ := queryOk_iff.1 hq
  have hkk := inB_iff.1 hk
  have hn : nearOk l kind c k = true := by rw [nearOk, hq, hk]; rfl
  have hv := store_vecs hs
  have ha := storeB_asc hs
  have hpm := tree_perm kind (Nat.le_refl l.length)
  have hok := tree_ok kind (Nat.le_refl l.length) ha.keysD hv
  have hmp : ((treeT l kind).items.map (hitOf kind c)).Perm (hitsL l kind c) := hpm.map _
  have hpt : Parted htB ((treeT l kind).items.map (hitOf kind c)) := parted_perm (hits_parted ha kind c) hmp
  have := vis_first (kind := kind) (c := c) (k := k.toNat) h3 (by omega) (treeT l kind) [] 0 hok (fun y hy => by
    have := (distL_bd kind (hv y (hpm.mem_iff.1 hy)) hc).2; omega) (by simpa using hpt)
  have e0 : firstK k.toNat [] = [] := by simp [firstK, insTo]
  rw [e0] at this
  rw [seekV, if_pos h', this, nearV, if_pos hn, List.nil_append]
  rw [firstK_perm k.toNat (hits_parted ha kind c) hmp]
  have hl : (hitsL l kind c).length = l.length := by simp [hitsL]
  unfold firstK sortedHits
  rw [hl]
end Go.Proofs.Ytebiaodjodlloaa
