/- Plain laws on stores: what putting and dropping do, by membership. No program in sight. -/
import Derived.Test.YtebiaodjodlloaaPlainS
namespace Go.Proofs.Ytebiaodjodlloaa
set_option linter.unusedVariables false

theorem asc_ext : ∀ {l l' : List It}, AscK l → AscK l' → (∀ x, x ∈ l ↔ x ∈ l') → l = l'
  | [], [], _, _, _ => rfl
  | [], y :: ys, _, _, h => by have := (h y).2 (List.mem_cons_self ..); cases this
  | x :: xs, [], _, _, h => by have := (h x).1 (List.mem_cons_self ..); cases this
  | x :: xs, y :: ys, h1, h2, h => by
    rw [AscK, List.pairwise_cons] at h1 h2
    have e : x = y := by
      rcases List.mem_cons.1 ((h x).1 (List.mem_cons_self ..)) with e | hx
      · exact e
      · rcases List.mem_cons.1 ((h y).2 (List.mem_cons_self ..)) with e | hy
        · exact e.symm
        · have a := h1.1 y hy
          have b := h2.1 x hx
          omega
    subst e
    congr 1
    refine asc_ext h1.2 h2.2 fun z => ⟨fun hz => ?_, fun hz => ?_⟩
    · rcases List.mem_cons.1 ((h z).1 (List.mem_cons_of_mem _ hz)) with rfl | hz'
      · have := h1.1 z hz; omega
      · exact hz'
    · rcases List.mem_cons.1 ((h z).2 (List.mem_cons_of_mem _ hz)) with rfl | hz'
      · have := h2.1 z hz; omega
      · exact hz'
theorem asc_key {l : List It} (h : AscK l) {x y : It} (hx : x ∈ l) (hy : y ∈ l) (hk : x.key = y.key) : x = y := by
  obtain ⟨i, hi⟩ := List.getElem?_of_mem hx
  obtain ⟨j, hj⟩ := List.getElem?_of_mem hy
  obtain ⟨hil, rfl⟩ := List.getElem?_eq_some_iff.1 hi
  obtain ⟨hjl, rfl⟩ := List.getElem?_eq_some_iff.1 hj
  rcases Nat.lt_trichotomy i j with h1 | h1 | h1
  · have := (List.pairwise_iff_getElem.1 h) i j hil hjl h1; omega
  · subst h1; rfl
  · have := (List.pairwise_iff_getElem.1 h) j i hjl hil h1; omega
theorem storeB_sub {l l' : List It} (h : storeB l = true) (hs : l'.Sublist l) : storeB l' = true := by
  rw [storeB_iff] at h ⊢
  exact ⟨Nat.le_trans hs.length_le h.1, fun x hx => h.2.1 x (hs.subset hx), h.2.2.sublist hs⟩
theorem storeB_nil : storeB [] = true := rfl
theorem storeB_asc {l : List It} (h : storeB l = true) : AscK l := (storeB_iff.1 h).2.2
theorem storeB_mem {l : List It} (h : storeB l = true) {x : It} (hx : x ∈ l) : itemB x = true := (storeB_iff.1 h).2.1 x hx
theorem storeB_len {l : List It} (h : storeB l = true) : l.length ≤ 16 := (storeB_iff.1 h).1

theorem mem_putL {l : List It} {x y : It} : y ∈ putL l x ↔ (y ∈ l ∧ y.key ≠ x.key) ∨ y = x := by
  simp only [putL, List.mem_append, List.mem_filter, ltK, gtK, decide_eq_true_eq, List.mem_singleton]
  constructor
  · rintro ((⟨h, h1⟩ | h) | ⟨h, h1⟩)
    · exact .inl ⟨h, by omega⟩
    · exact .inr h
    · exact .inl ⟨h, by omega⟩
  · rintro (⟨h, h1⟩ | h)
    · rcases Int.lt_or_gt_of_ne h1 with h2 | h2
      · exact .inl (.inl ⟨h, h2⟩)
      · exact .inr ⟨h, h2⟩
    · exact .inl (.inr h)
theorem mem_dropL {l : List It} {k : Int} {y : It} : y ∈ dropL l k ↔ y ∈ l ∧ y.key ≠ k := by
  simp [dropL, neK]
theorem putL_asc {l : List It} (h : AscK l) (x : It) : AscK (putL l x) := by
  unfold AscK putL
  rw [List.pairwise_append, List.pairwise_append]
  refine ⟨⟨h.sublist List.filter_sublist, List.pairwise_singleton _ _, fun a ha b hb => ?_⟩, h.sublist List.filter_sublist, fun a ha b hb => ?_⟩
  · simp only [List.mem_filter, ltK, decide_eq_true_eq, List.mem_singleton] at ha hb
    subst hb; exact ha.2
  · simp only [List.mem_append, List.mem_filter, ltK, gtK, decide_eq_true_eq, List.mem_singleton] at ha hb
    rcases ha with ⟨_, ha⟩ | rfl
    · omega
    · exact hb.2
theorem dropL_asc {l : List It} (h : AscK l) (k : Int) : AscK (dropL l k) := h.sublist List.filter_sublist
theorem putL_store {l : List It} {x : It} (h : storeB l = true) (hx : itemB x = true) : storeB (putL l x) = decide ((putL l x).length ≤ 16) := by
  rw [Bool.eq_iff_iff, decide_eq_true_eq]
  rw [storeB_iff] at h
  constructor
  · intro h1; exact (storeB_iff.1 h1).1
  · intro h1
    refine storeB_iff.2 ⟨h1, fun y hy => ?_, putL_asc h.2.2 x⟩
    rcases mem_putL.1 hy with ⟨hy, _⟩ | rfl
    · exact h.2.1 y hy
    · exact hx
theorem dropL_store {l : List It} (h : storeB l = true) (k : Int) : storeB (dropL l k) = true := storeB_sub h List.filter_sublist
theorem hasK_iff {l : List It} {k : Int} : hasK l k = true ↔ ∃ x ∈ l, x.key = k := by simp [hasK, isK]
theorem hasK_no {l : List It} {k : Int} (h : ∀ x ∈ l, x.key ≠ k) : hasK l k = false := by
  cases e : hasK l k with
  | false => rfl
  | true => obtain ⟨x, hx, hk⟩ := hasK_iff.1 e; exact absurd hk (h x hx)
/-- How long a list is when all with a key are left out, or put in. -/
theorem dropL_len {l : List It} (h : AscK l) {k : Int} (hk : hasK l k = true) : (dropL l k).length + 1 = l.length := by
  induction l with
  | nil => cases hk
  | cons x xs ih =>
    rw [AscK, List.pairwise_cons] at h
    by_cases e : x.key = k
    · have hx : dropL (x :: xs) k = xs := by
        have e1 : dropL (x :: xs) k = dropL xs k := by simp [dropL, neK, e]
        rw [e1, dropL, List.filter_eq_self]
        intro y hy; have := h.1 y hy; simp [neK]; omega
      rw [hx]; rfl
    · have hx : dropL (x :: xs) k = x :: dropL xs k := by
        simp [dropL, List.filter_cons, neK, e]
      have hk' : hasK xs k = true := by
        obtain ⟨y, hy, hyk⟩ := hasK_iff.1 hk
        rcases List.mem_cons.1 hy with rfl | hy
        · exact absurd hyk e
        · exact hasK_iff.2 ⟨y, hy, hyk⟩
      rw [hx]; simp only [List.length_cons]; rw [ih h.2 hk']
theorem dropL_none {l : List It} {k : Int} (hk : hasK l k = false) : dropL l k = l := by
  rw [dropL, List.filter_eq_self]
  intro y hy
  simp only [neK, bne_iff_ne, ne_eq]
  intro e
  rw [hasK_iff.2 ⟨y, hy, e⟩] at hk; cases hk
theorem filter3_len (l : List It) (k : Int) : (l.filter (ltK k)).length + (l.filter (gtK k)).length = (dropL l k).length := by
  induction l with
  | nil => rfl
  | cons x xs ih =>
    simp only [dropL, List.filter_cons, ltK, gtK, neK, bne_iff_ne, ne_eq, decide_eq_true_eq] at ih ⊢
    rcases Int.lt_trichotomy x.key k with h | h | h
    · rw [if_pos h, if_neg (by omega), if_pos (by omega)]; simp only [List.length_cons]; omega
    · rw [if_neg (by omega), if_neg (by omega), if_neg (by omega)]; exact ih
    · rw [if_neg (by omega), if_pos h, if_pos (by omega)]; simp only [List.length_cons]; omega
theorem putL_len (l : List It) (x : It) : (putL l x).length = (dropL l x.key).length + 1 := by
  have := filter3_len l x.key
  simp only [putL, List.length_append, List.length_singleton]; omega
theorem putL_len_le {l : List It} (h : AscK l) (x : It) : l.length ≤ (putL l x).length ∧ (putL l x).length ≤ l.length + 1 := by
  rw [putL_len]
  cases e : hasK l x.key
  · rw [dropL_none e]; omega
  · have := dropL_len h e; omega
theorem putL_len_new {l : List It} (h : AscK l) {x : It} (hne : (putL l x).length ≠ l.length) : hasK l x.key = false := by
  rw [putL_len] at hne
  cases e : hasK l x.key
  · rfl
  · have := dropL_len h e; omega
/-- What is found behind putting and dropping. -/
theorem find_asc {l : List It} (h : AscK l) {x : It} (hx : x ∈ l) : l.find? (isK x.key) = some x := by
  cases e : l.find? (isK x.key) with
  | none =>
    rw [List.find?_eq_none] at e
    have := e x hx; simp [isK] at this
  | some y =>
    have hy := List.mem_of_find?_eq_some e
    have hk := List.find?_some e
    simp only [isK, beq_iff_eq] at hk
    rw [asc_key h hy hx hk]
theorem find_none {l : List It} {k : Int} (h : hasK l k = false) : l.find? (isK k) = none := by
  rw [List.find?_eq_none]; intro x hx hk
  rw [hasK_iff.2 ⟨x, hx, by simpa [isK] using hk⟩] at h; cases h
theorem find_same {l l' : List It} (h : AscK l) (h' : AscK l') {k : Int} (hm : ∀ x, x.key = k → (x ∈ l ↔ x ∈ l')) : l.find? (isK k) = l'.find? (isK k) ∧ hasK l k = hasK l' k := by
  cases e : hasK l k
  · have e' : hasK l' k = false := hasK_no fun x hx hk => by
      rw [hasK_iff.2 ⟨x, (hm x hk).2 hx, hk⟩] at e; cases e
    rw [e', find_none e, find_none e']; exact ⟨rfl, rfl⟩
  · obtain ⟨x, hx, rfl⟩ := hasK_iff.1 e
    have hx' := (hm x rfl).1 hx
    rw [find_asc h hx, find_asc h' hx', hasK_iff.2 ⟨x, hx', rfl⟩]; exact ⟨rfl, rfl⟩
theorem getV_put {l : List It} {x : It} (hs : storeB (putL l x) = true) : getV (putL l x) x.key = x ∧ dropOk (putL l x) x.key = true := by
  have hx : x ∈ putL l x := mem_putL.2 (.inr rfl)
  have hd : dropOk (putL l x) x.key = true := by rw [dropOk, hs, hasK_iff.2 ⟨x, hx, rfl⟩]; rfl
  rw [getV, if_pos hd, find_asc (storeB_asc hs) hx]
  exact ⟨rfl, hd⟩
theorem getV_same {l l' : List It} (h : storeB l = true) (h' : storeB l' = true) {k : Int} (hm : ∀ x, x.key = k → (x ∈ l ↔ x ∈ l')) : getV l k = getV l' k ∧ dropOk l k = dropOk l' k := by
  have a := find_same (storeB_asc h) (storeB_asc h') hm
  have b : dropOk l k = dropOk l' k := by rw [dropOk, dropOk, h, h', a.2]
  rw [getV, getV, a.1, b]; exact ⟨rfl, rfl⟩
theorem getV_put_other {l : List It} {x : It} (h : storeB l = true) (hs : storeB (putL l x) = true) {k : Int} (hk : k ≠ x.key) : getV (putL l x) k = getV l k ∧ dropOk (putL l x) k = dropOk l k :=
  getV_same hs h fun y hy => by rw [mem_putL]; constructor
                                · rintro (⟨h1, _⟩ | rfl); exact h1; exact absurd hy.symm hk
                                · intro h1; exact .inl ⟨h1, by omega⟩
theorem getV_drop {l : List It} {k : Int} (h : dropOk l k = true) : dropOk (dropL l k) k = false := by
  rw [dropOk, hasK_no fun x hx => (mem_dropL.1 hx).2, Bool.and_false]
theorem getV_mem {l : List It} {k : Int} (h : dropOk l k = true) : getV l k ∈ l ∧ (getV l k).key = k := by
  have h' := h
  simp only [dropOk, Bool.and_eq_true] at h'
  obtain ⟨x, hx, rfl⟩ := hasK_iff.1 h'.2
  rw [getV, if_pos h, find_asc (storeB_asc h'.1) hx]; exact ⟨hx, rfl⟩
theorem putL_twice {l : List It} (h : AscK l) {x y : It} (hk : y.key = x.key) : putL (putL l x) y = putL l y :=
  asc_ext (putL_asc (putL_asc h _) _) (putL_asc h _) fun z => by
    rw [mem_putL, mem_putL, mem_putL]
    constructor
    · rintro (⟨⟨h1, h2⟩ | rfl, h3⟩ | h1)
      · exact .inl ⟨h1, h3⟩
      · exact absurd hk.symm h3
      · exact .inr h1
    · rintro (⟨h1, h2⟩ | h1)
      · exact .inl ⟨.inl ⟨h1, by omega⟩, h2⟩
      · exact .inr h1
theorem putL_comm {l : List It} (h : AscK l) {x y : It} (hk : x.key ≠ y.key) : putL (putL l x) y = putL (putL l y) x :=
  asc_ext (putL_asc (putL_asc h _) _) (putL_asc (putL_asc h _) _) fun z => by
    simp only [mem_putL]
    constructor
    · rintro (⟨⟨h1, h2⟩ | rfl, h3⟩ | rfl)
      · exact .inl ⟨.inl ⟨h1, h3⟩, h2⟩
      · exact .inr rfl
      · exact .inl ⟨.inr rfl, fun e => hk e.symm⟩
    · rintro (⟨⟨h1, h2⟩ | rfl, h3⟩ | rfl)
      · exact .inl ⟨.inl ⟨h1, h3⟩, h2⟩
      · exact .inr rfl
      · exact .inl ⟨.inr rfl, hk⟩
theorem putL_dropL {l : List It} (h : AscK l) {x : It} (hx : x ∈ l) : putL (dropL l x.key) x = l :=
  asc_ext (putL_asc (dropL_asc h _) _) h fun z => by
    rw [mem_putL, mem_dropL]
    constructor
    · rintro (⟨⟨h1, _⟩, _⟩ | rfl)
      · exact h1
      · exact hx
    · intro h1
      by_cases e : z.key = x.key
      · exact .inr (asc_key h h1 hx e)
      · exact .inl ⟨⟨h1, e⟩, e⟩
theorem dropL_comm (l : List It) (j k : Int) : dropL (dropL l j) k = dropL (dropL l k) j := by
  simp only [dropL, List.filter_filter]
  congr 1; funext x; rw [Bool.and_comm]
theorem idx_self {l : List It} (h : AscK l) {i : Nat} (hi : i < l.length) : ∃ j : Nat, idxK l (itI l i).key = j ∧ j = i := by
  have hm : itI l i ∈ l := List.mem_of_getElem? (itI_get hi)
  obtain ⟨j, e, hj, hk, hf, _⟩ := idxK_some (hasK_iff.2 ⟨_, hm, rfl⟩)
  refine ⟨j, e, ?_⟩
  rcases Nat.lt_trichotomy i j with h1 | h1 | h1
  · have := (List.pairwise_iff_getElem.1 h) i j hi hj h1
    rw [itI_of (List.getElem?_eq_getElem hi), itI_of (List.getElem?_eq_getElem hj)] at hk
    omega
  · exact h1.symm
  · have := (List.pairwise_iff_getElem.1 h) j i hj hi h1
    rw [itI_of (List.getElem?_eq_getElem hi), itI_of (List.getElem?_eq_getElem hj)] at hk
    omega

/-! Bounds and boxes. -/
theorem lowC_le {l : List It} {c : Nat} : ∀ {n i : Nat}, i < n → lowC l c n ≤ gI (itI l i).pt c
  | n + 1, i, h => by
    rcases Nat.lt_succ_iff_lt_or_eq.1 h with h | rfl
    · have := lowC_le (l := l) (c := c) h
      rw [lowC, gmin]; split <;> omega
    · rw [lowC, gmin]; split <;> omega
theorem highC_ge {l : List It} {c : Nat} : ∀ {n i : Nat}, i < n → gI (itI l i).pt c ≤ highC l c n
  | n + 1, i, h => by
    rcases Nat.lt_succ_iff_lt_or_eq.1 h with h | rfl
    · have := highC_ge (l := l) (c := c) h
      rw [highC, gmax]; split <;> omega
    · rw [highC, gmax]; split <;> omega
theorem lowC_at {l : List It} {c : Nat} : ∀ n, lowC l c n = gI (itI l 0).pt c ∨ ∃ i, i < n ∧ lowC l c n = gI (itI l i).pt c
  | 0 => .inl rfl
  | n + 1 => by
    rw [lowC, gmin]; split
    · exact .inr ⟨n, by omega, rfl⟩
    · rcases lowC_at (l := l) (c := c) n with h | ⟨i, hi, h⟩
      · exact .inl h
      · exact .inr ⟨i, by omega, h⟩
theorem highC_at {l : List It} {c : Nat} : ∀ n, highC l c n = gI (itI l 0).pt c ∨ ∃ i, i < n ∧ highC l c n = gI (itI l i).pt c
  | 0 => .inl rfl
  | n + 1 => by
    rw [highC, gmax]; split
    · exact .inr ⟨n, by omega, rfl⟩
    · rcases highC_at (l := l) (c := c) n with h | ⟨i, hi, h⟩
      · exact .inl h
      · exact .inr ⟨i, by omega, h⟩
theorem lowC_hit {l : List It} (h : 0 < l.length) (c : Nat) : ∃ i, i < l.length ∧ lowC l c l.length = gI (itI l i).pt c := by
  rcases lowC_at (l := l) (c := c) l.length with h1 | h1
  · exact ⟨0, h, h1⟩
  · exact h1
theorem highC_hit {l : List It} (h : 0 < l.length) (c : Nat) : ∃ i, i < l.length ∧ highC l c l.length = gI (itI l i).pt c := by
  rcases highC_at (l := l) (c := c) l.length with h1 | h1
  · exact ⟨0, h, h1⟩
  · exact h1
theorem store_vec {l : List It} (h : storeB l = true) {i : Nat} (hi : i < l.length) : vecB (itI l i).pt 4 = true :=
  (itemB_iff.1 (storeB_mem h (List.mem_of_getElem? (itI_get hi)))).2.1
theorem store_key {l : List It} (h : storeB l = true) {i : Nat} (hi : i < l.length) : 1 ≤ (itI l i).key ∧ (itI l i).key ≤ 99 :=
  (itemB_iff.1 (storeB_mem h (List.mem_of_getElem? (itI_get hi)))).1
theorem gI_vec {xs : List Int} (h : vecB xs 4 = true) (c : Nat) : -100 ≤ gI xs c ∧ gI xs c ≤ 100 := by
  unfold gI
  cases e : xs[c]? with
  | none => simp
  | some x => exact vecB_at h e
theorem lowC_bd {l : List It} (h : storeB l = true) (hl : 0 < l.length) (c : Nat) {n : Nat} (hn : n ≤ l.length) : -100 ≤ lowC l c n ∧ lowC l c n ≤ 100 := by
  rcases lowC_at (l := l) (c := c) n with h1 | ⟨i, hi, h1⟩
  · rw [h1]; exact gI_vec (store_vec h hl) c
  · rw [h1]; exact gI_vec (store_vec h (by omega)) c
theorem highC_bd {l : List It} (h : storeB l = true) (hl : 0 < l.length) (c : Nat) {n : Nat} (hn : n ≤ l.length) : -100 ≤ highC l c n ∧ highC l c n ≤ 100 := by
  rcases highC_at (l := l) (c := c) n with h1 | ⟨i, hi, h1⟩
  · rw [h1]; exact gI_vec (store_vec h hl) c
  · rw [h1]; exact gI_vec (store_vec h (by omega)) c
theorem vecB_range {f : Nat → Int} (h : ∀ c, -100 ≤ f c ∧ f c ≤ 100) : vecB (rangeI f 4) 4 = true := by
  simp only [vecB, Bool.and_eq_true, List.all_eq_true, decide_eq_true_eq]
  refine ⟨fun x hx => ?_, by rw [rangeI_len]; rfl⟩
  simp only [rangeI, List.mem_map] at hx
  obtain ⟨i, _, rfl⟩ := hx
  exact okc_of (h i).1 (h i).2
theorem lowV_of {l : List It} (h : boundsOk l = true) : lowV l = rangeI (fun c => lowC l c l.length) 4 := by rw [lowV, if_pos h]
theorem highV_of {l : List It} (h : boundsOk l = true) : highV l = rangeI (fun c => highC l c l.length) 4 := by rw [highV, if_pos h]
theorem boundsOk_iff {l : List It} : boundsOk l = true ↔ storeB l = true ∧ 0 < l.length := by simp [boundsOk]
theorem lowV_vec {l : List It} (h : boundsOk l = true) : vecB (lowV l) 4 = true := by
  obtain ⟨h1, h2⟩ := boundsOk_iff.1 h
  rw [lowV_of h]; exact vecB_range fun c => lowC_bd h1 h2 c (Nat.le_refl _)
theorem highV_vec {l : List It} (h : boundsOk l = true) : vecB (highV l) 4 = true := by
  obtain ⟨h1, h2⟩ := boundsOk_iff.1 h
  rw [highV_of h]; exact vecB_range fun c => highC_bd h1 h2 c (Nat.le_refl _)
theorem gI_range {f : Nat → Int} {n c : Nat} (h : c < n) : gI (rangeI f n) c = f c := gI_of (rangeI_at f h)
theorem inTo_all {p lo hi : List Int} : ∀ {n : Nat}, (∀ c, c < n → gI lo c ≤ gI p c ∧ gI p c ≤ gI hi c) → inTo p lo hi n = true
  | 0, _ => rfl
  | n + 1, h => by rw [inTo, inTo_all (fun c hc => h c (by omega)), inB_yes (h n (by omega)).1 (h n (by omega)).2]; rfl
theorem box_all {l : List It} (h : boundsOk l = true) : boxV l (lowV l) (highV l) = l.map It.key := by
  obtain ⟨h1, h2⟩ := boundsOk_iff.1 h
  have hok : boxOk l (lowV l) (highV l) = true := by rw [boxOk, h1, lowV_vec h, highV_vec h]; rfl
  rw [boxV, if_pos hok]
  congr 1
  rw [List.filter_eq_self]
  intro x hx
  obtain ⟨i, hi⟩ := List.getElem?_of_mem hx
  have hil := (List.getElem?_eq_some_iff.1 hi).1
  refine inTo_all fun c hc => ?_
  rw [lowV_of h, highV_of h, gI_range hc, gI_range hc]
  have e : itI l i = x := itI_of hi
  have a := lowC_le (l := l) (c := c) hil
  have b := highC_ge (l := l) (c := c) hil
  rw [e] at a b
  exact ⟨a, b⟩
end Go.Proofs.Ytebiaodjodlloaa
