/- Plain laws on the nearest items, on items within a distance, on boxes. No program in sight. -/
import Derived.Test.YtebiaodjodlloaaPlainN
import Derived.Test.YtebiaodjodlloaaPlainP
namespace Go.Proofs.Ytebiaodjodlloaa
set_option linter.unusedVariables false

theorem nearOk_iff {l : List It} {kind : Int} {c : List Int} {k : Int} : nearOk l kind c k = true ↔ storeB l = true ∧ kindB kind = true ∧ vecB c 4 = true ∧ 1 ≤ k ∧ k ≤ 16 := by simp [nearOk, queryOk, inB, and_assoc]
theorem nearV_of {l : List It} {kind : Int} {c : List Int} {k : Int} (h : nearOk l kind c k = true) : nearV l kind c k = (sortedHits l kind c).take k.toNat := by rw [nearV, if_pos h]
theorem nearV_len {l : List It} {kind : Int} {c : List Int} {k : Int} (h : nearOk l kind c k = true) : (nearV l kind c k).length = min k.toNat l.length := by rw [nearV_of h, List.length_take, sortedHits_len]
theorem near_some {l : List It} {kind : Int} {c : List Int} {k : Int} (h : ¬ (nearV l kind c k).length = 0) : nearOk l kind c k = true ∧ 0 < l.length := by
  cases e : nearOk l kind c k
  · rw [nearV, e] at h; exact absurd rfl h
  · rw [nearV_len e] at h; exact ⟨rfl, by omega⟩
theorem nearV_few (l : List It) (kind : Int) (c : List Int) (k : Int) : (nearV l kind c k).length ≤ 16 := by
  cases e : nearOk l kind c k
  · rw [nearV, e]; simp
  · have := nearOk_iff.1 e; rw [nearV_len e]; omega
theorem mem_sorted {l : List It} {kind : Int} {c : List Int} {h : Ht} : h ∈ sortedHits l kind c ↔ ∃ x ∈ l, hitOf kind c x = h := by
  rw [(sortedHits_perm l kind c).mem_iff, hitsL, List.mem_map]
theorem mem_near {l : List It} {kind : Int} {c : List Int} {k : Int} {h : Ht} (hm : h ∈ nearV l kind c k) : nearOk l kind c k = true ∧ ∃ x ∈ l, hitOf kind c x = h := by
  cases e : nearOk l kind c k
  · rw [nearV, e] at hm; cases hm
  · rw [nearV_of e] at hm; exact ⟨rfl, mem_sorted.1 (List.mem_of_mem_take hm)⟩
/-- Hits of a store are small. -/
theorem hit_bd {l : List It} {kind : Int} {c : List Int} {x : It} (hs : storeB l = true) (hc : vecB c 4 = true) (hx : x ∈ l) : (1 ≤ (hitOf kind c x).key ∧ (hitOf kind c x).key ≤ 99) ∧ 0 ≤ (hitOf kind c x).dist ∧ (hitOf kind c x).dist ≤ 160000 := by
  have h := itemB_iff.1 (storeB_mem hs hx)
  exact ⟨h.1, distL_bd kind h.2.1 hc⟩
theorem law_more {l : List It} {kind : Int} {c : List Int} {k : Int} (h : ¬ (nearV l kind c k).length = 0) (h2 : 2 ≤ k) :
    (nearV l kind c (k - 1)).length ≤ (nearV l kind c k).length ∧ (nearV l kind c k).take (nearV l kind c (k - 1)).length = nearV l kind c (k - 1) := by
  obtain ⟨hk, h0⟩ := near_some h
  obtain ⟨a1, a2, a3, a4, a5⟩ := nearOk_iff.1 hk
  have hk' : nearOk l kind c (k - 1) = true := nearOk_iff.2 ⟨a1, a2, a3, by omega, by omega⟩
  refine ⟨by rw [nearV_len hk, nearV_len hk']; omega, ?_⟩
  rw [nearV_len hk', nearV_of hk, nearV_of hk', List.take_take]
  have hl := sortedHits_len l kind c
  by_cases hm : (k - 1).toNat ≤ l.length
  · congr 1; omega
  · rw [List.take_of_length_le (by omega), List.take_of_length_le (by omega)]
theorem head_least {s : List Ht} {a : Ht} {t : List Ht} (hs : SortedL htB s) (e : s = a :: t) {y : Ht} (hy : y ∈ s) : y = a ∨ htB a y = true := by
  subst e
  rcases List.mem_cons.1 hy with h | h
  · exact .inl h
  · exact .inr ((List.pairwise_cons.1 hs).1 y h)
theorem near_one {l : List It} {kind : Int} {c : List Int} (hs : storeB l = true) (hk : kindB kind = true) (hc : vecB c 4 = true) {x : It} (hx : x ∈ l) :
    ∃ h, nearV l kind c 1 = [h] ∧ (hitOf kind c x = h ∨ htB h (hitOf kind c x) = true) ∧ ∃ z ∈ l, hitOf kind c z = h := by
  have hok : nearOk l kind c 1 = true := nearOk_iff.2 ⟨hs, hk, hc, by omega, by omega⟩
  have hm : hitOf kind c x ∈ sortedHits l kind c := mem_sorted.2 ⟨x, hx, rfl⟩
  rw [nearV_of hok]
  cases e : sortedHits l kind c with
  | nil => rw [e] at hm; cases hm
  | cons a t =>
    have hh := head_least (sortedHits_sorted (storeB_asc hs) kind c) e hm
    exact ⟨a, rfl, hh, mem_sorted.1 (by rw [e]; exact List.mem_cons_self ..)⟩
theorem law_own {l : List It} {kind : Int} {c : List Int} {k : Int} (h : ¬ (nearV l kind c k).length = 0) {x : It} (hx : x ∈ l) : ∃ hd : Ht, nearV l kind x.pt 1 = [hd] ∧ hd.dist = 0 ∧ hd.key ≤ x.key := by
  obtain ⟨hk, _⟩ := near_some h
  obtain ⟨a1, a2, a3, a4, a5⟩ := nearOk_iff.1 hk
  have hv := (itemB_iff.1 (storeB_mem a1 hx)).2.1
  obtain ⟨hd, e, hh, z, hz, ez⟩ := near_one (kind := kind) a1 a2 hv hx
  have hn : 0 ≤ hd.dist := by rw [← ez]; exact distL_nonneg kind z.pt x.pt 4
  have hx0 : (hitOf kind x.pt x).dist = 0 := distL_self kind x.pt 4
  have hxk : (hitOf kind x.pt x).key = x.key := rfl
  refine ⟨hd, e, ?_⟩
  rcases hh with hh | hh
  · rw [← hh]; exact ⟨hx0, by rw [hxk]; exact Int.le_refl _⟩
  · rw [htB_iff] at hh; omega
theorem queryW_iff {l : List It} {kind : Int} {c : List Int} {most : Int} : (queryOk l kind c && decide (0 ≤ most)) = true ↔ storeB l = true ∧ kindB kind = true ∧ vecB c 4 = true ∧ 0 ≤ most := by simp [queryOk, and_assoc]
theorem withinV_of {l : List It} {kind : Int} {c : List Int} {most : Int} (h1 : storeB l = true) (h2 : kindB kind = true) (h3 : vecB c 4 = true) (h4 : 0 ≤ most) : withinV l kind c most = (sortedHits l kind c).filter (fun h => decide (h.dist ≤ most)) := by
  rw [withinV, if_pos (queryW_iff.2 ⟨h1, h2, h3, h4⟩)]
theorem within_some {l : List It} {kind : Int} {c : List Int} {most : Int} (h : ¬ (withinV l kind c most).length = 0) : storeB l = true ∧ kindB kind = true ∧ vecB c 4 = true ∧ 0 ≤ most := by
  cases e : (queryOk l kind c && decide (0 ≤ most))
  · rw [withinV, e] at h; exact absurd rfl h
  · exact queryW_iff.1 e
theorem withinV_len (l : List It) (kind : Int) (c : List Int) (most : Int) : (withinV l kind c most).length ≤ l.length := by
  unfold withinV
  split
  · exact Nat.le_trans (List.length_filter_le _ _) (by rw [sortedHits_len]; exact Nat.le_refl _)
  · simp
theorem withinV_few {l : List It} {kind : Int} {c : List Int} {most : Int} : (withinV l kind c most).length ≤ 16 := by
  cases e : (queryOk l kind c && decide (0 ≤ most))
  · rw [withinV, e]; simp
  · have := storeB_len (queryW_iff.1 e).1
    exact Nat.le_trans (withinV_len _ _ _ _) this
theorem filter_first {s : List Ht} (hs : SortedL htB s) {a b : Int} (hab : a ≤ b) : (s.filter (fun h => decide (h.dist ≤ b))).take (s.filter (fun h => decide (h.dist ≤ a))).length = s.filter (fun h => decide (h.dist ≤ a)) := by
  induction s with
  | nil => rfl
  | cons x t ih =>
    rw [SortedL, List.pairwise_cons] at hs
    by_cases h : x.dist ≤ a
    · rw [List.filter_cons_of_pos (by simpa using h), List.filter_cons_of_pos (by simp; omega), List.length_cons, List.take_succ_cons, ih hs.2]
    · have e : t.filter (fun h => decide (h.dist ≤ a)) = [] := by
        rw [List.filter_eq_nil_iff]
        intro y hy
        have := htB_iff.1 (hs.1 y hy)
        simp; omega
      rw [List.filter_cons_of_neg (by simpa using h), e]; rfl
theorem law_within {l : List It} {kind : Int} {c : List Int} {most : Int} (h : ¬ (withinV l kind c most).length = 0) :
    (withinV l kind c most).length ≤ (withinV l kind c (most + 10)).length ∧ (withinV l kind c (most + 10)).take (withinV l kind c most).length = withinV l kind c most ∧ (withinV l kind c 1000000).length = l.length := by
  obtain ⟨a1, a2, a3, a4⟩ := within_some h
  have e := filter_first (sortedHits_sorted (storeB_asc a1) kind c) (show most ≤ most + 10 by omega)
  rw [withinV_of a1 a2 a3 a4, withinV_of a1 a2 a3 (show 0 ≤ most + 10 by omega), withinV_of a1 a2 a3 (show (0 : Int) ≤ 1000000 by omega)]
  refine ⟨?_, e, ?_⟩
  · have := congrArg List.length e
    rw [List.length_take] at this; omega
  · rw [List.filter_eq_self.2, sortedHits_len]
    intro y hy
    obtain ⟨x, hx, rfl⟩ := mem_sorted.1 hy
    have := (hit_bd (kind := kind) a1 a3 hx).2
    simp; omega
theorem law_withinNear {l : List It} {kind : Int} {c : List Int} {most : Int} (h : ¬ (withinV l kind c most).length = 0) : nearV l kind c (withinV l kind c most).length = withinV l kind c most := by
  obtain ⟨a1, a2, a3, a4⟩ := within_some h
  have hl := withinV_few (l := l) (kind := kind) (c := c) (most := most)
  have hok : nearOk l kind c (withinV l kind c most).length = true := nearOk_iff.2 ⟨a1, a2, a3, by omega, by omega⟩
  have hs := sortedHits_sorted (storeB_asc a1) kind c
  have e := filter_first (a := most) (b := max most 160000) hs (by omega)
  have e2 : (sortedHits l kind c).filter (fun h => decide (h.dist ≤ max most 160000)) = sortedHits l kind c := by
    rw [List.filter_eq_self]
    intro y hy
    obtain ⟨x, hx, rfl⟩ := mem_sorted.1 hy
    have := (hit_bd (kind := kind) a1 a3 hx).2
    simp; omega
  rw [e2] at e
  rw [nearV_of hok, Int.toNat_natCast, withinV_of a1 a2 a3 a4, e]
theorem store_vecs' {l : List It} (h : storeB l = true) {y : It} (hy : y ∈ l) : vecB y.pt 4 = true := (itemB_iff.1 (storeB_mem h hy)).2.1
theorem law_pairNear {l : List It} {kind : Int} (h : pairOk l kind = true) {x y : It} (hx : x ∈ l) (hxk : x.key = pairA l kind) (hy : y ∈ l) (hyk : y.key = pairB l kind) :
    dropOk l (pairA l kind) = true ∧ ∃ hd : Ht, nearV (dropV l (pairA l kind)) kind x.pt 1 = [hd] ∧ hd.dist = distV kind x.pt y.pt := by
  obtain ⟨q1, q2, q3⟩ := pairOk_iff.1 h
  obtain ⟨x', y', hc⟩ := pair_is h
  have ha := storeB_asc q1
  obtain rfl : x' = x := asc_key ha hc.mx hx (by rw [hc.kx, hxk])
  obtain rfl : y' = y := asc_key ha hc.my hy (by rw [hc.ky, hyk])
  have hd : dropOk l (pairA l kind) = true := dropOk_iff.2 ⟨q1, hasK_iff.2 ⟨x', hx, hxk⟩⟩
  refine ⟨hd, ?_⟩
  rw [dropV_of hd]
  have hvx := store_vecs' q1 hx
  have hyd : y' ∈ dropL l (pairA l kind) := mem_dropL.2 ⟨hy, by rw [hyk]; have := hc.lt; omega⟩
  obtain ⟨hh, e, hle, z, hz, ez⟩ := near_one (kind := kind) (dropL_store q1 _) q2 hvx hyd
  refine ⟨hh, e, ?_⟩
  rw [distV_of q2 hvx (store_vecs' q1 hy)]
  have hz' := mem_dropL.1 hz
  have d1 : hh.dist ≤ distL kind y'.pt x'.pt 4 := by
    rcases hle with hle | hle
    · rw [← hle]; exact Int.le_refl _
    · have := htB_iff.1 hle
      have e3 : (hitOf kind x'.pt y').dist = distL kind y'.pt x'.pt 4 := rfl
      omega
  have e4 : hh.dist = distL kind z.pt x'.pt 4 := by rw [← ez]; rfl
  rw [distL_comm kind y'.pt] at d1
  have d2 : distL kind x'.pt y'.pt 4 ≤ distL kind z.pt x'.pt 4 := by
    rcases Int.lt_or_gt_of_ne (show z.key ≠ x'.key by rw [hxk]; exact hz'.2) with h1 | h1
    · exact (hc.least z hz'.1 x' hx h1).1
    · have := (hc.least x' hx z hz'.1 h1).1
      rwa [distL_comm kind z.pt]
  omega
theorem law_nearPut {l : List It} {kind : Int} {c : List Int} {k : Int} (h : ¬ (nearV l kind c k).length = 0) (hp : putOk l ⟨60, c, 0⟩ = true) : ∃ (hd : Ht) (t : List Ht), nearV (putV l ⟨60, c, 0⟩) kind c k = hd :: t ∧ hd.dist = 0 := by
  obtain ⟨hk, _⟩ := near_some h
  obtain ⟨a1, a2, a3, a4, a5⟩ := nearOk_iff.1 hk
  have hs := putOk_store hp
  rw [putV_of hp]
  have hok : nearOk (putL l ⟨60, c, 0⟩) kind c k = true := nearOk_iff.2 ⟨hs, a2, a3, a4, a5⟩
  have hm : hitOf kind c ⟨60, c, 0⟩ ∈ sortedHits (putL l ⟨60, c, 0⟩) kind c := mem_sorted.2 ⟨_, mem_putL.2 (.inr rfl), rfl⟩
  have h0 : (hitOf kind c ⟨60, c, 0⟩).dist = 0 := distL_self kind c 4
  rw [nearV_of hok]
  cases e : sortedHits (putL l ⟨60, c, 0⟩) kind c with
  | nil => rw [e] at hm; cases hm
  | cons a t =>
    have hh := head_least (sortedHits_sorted (storeB_asc hs) kind c) e hm
    obtain ⟨z, hz, ez⟩ := mem_sorted.1 (show a ∈ sortedHits (putL l ⟨60, c, 0⟩) kind c by rw [e]; exact List.mem_cons_self ..)
    have hn : 0 ≤ a.dist := by rw [← ez]; exact distL_nonneg kind z.pt c 4
    obtain ⟨m, hm⟩ : ∃ m, k.toNat = m + 1 := ⟨k.toNat - 1, by omega⟩
    rw [hm, List.take_succ_cons]
    refine ⟨a, _, rfl, ?_⟩
    rcases hh with hh | hh
    · rw [← hh]; exact h0
    · have := htB_iff.1 hh; omega
theorem law_nearDist {l : List It} {kind : Int} {c : List Int} {k : Int} {h : Ht} (hm : h ∈ nearV l kind c k) : dropOk l h.key = true ∧ distV kind (getV l h.key).pt c = h.dist := by
  obtain ⟨hk, x, hx, rfl⟩ := mem_near hm
  obtain ⟨a1, a2, a3, a4, a5⟩ := nearOk_iff.1 hk
  have hd : dropOk l x.key = true := dropOk_iff.2 ⟨a1, hasK_iff.2 ⟨x, hx, rfl⟩⟩
  have hg : getV l x.key = x := by rw [getV, if_pos hd, find_asc (storeB_asc a1) hx]; rfl
  refine ⟨hd, ?_⟩
  show distV kind (getV l x.key).pt c = _
  rw [hg, distV_of a2 (store_vecs' a1 hx) a3]; rfl
theorem sorted_drop {l : List It} (ha : AscK l) (kind : Int) (c : List Int) (key : Int) : sortedHits (dropL l key) kind c = (sortedHits l kind c).filter (fun h => h.key != key) := by
  refine sorted_unique htB_ord ?_ (sortedHits_sorted (dropL_asc ha key) kind c) ((sortedHits_sorted ha kind c).sublist List.filter_sublist)
  refine (sortedHits_perm _ _ _).trans (List.Perm.trans ?_ ((sortedHits_perm l kind c).filter _).symm)
  unfold hitsL dropL
  rw [List.filter_map]
  exact List.Perm.refl _
theorem take_filter {α : Type} {p : α → Bool} {s : List α} {k : Nat} (hk : k ≤ s.length) (h : ∀ y ∈ s.take k, p y = true) : (s.filter p).take k = s.take k := by
  have e : s.filter p = s.take k ++ (s.drop k).filter p := by
    conv => lhs; rw [← List.take_append_drop k s]
    rw [List.filter_append, List.filter_eq_self.2 h]
  rw [e, List.take_append_of_le_length (by simp; omega), List.take_take, Nat.min_self]
theorem law_nearDrop {l : List It} {kind : Int} {c : List Int} {k : Int} (h : ¬ (nearV l kind c k).length = 0) {x : It} (hx : x ∈ l) (hno : x.key ∉ (nearV l kind c k).map Ht.key) :
    dropOk l x.key = true ∧ nearV (dropV l x.key) kind c k = nearV l kind c k := by
  obtain ⟨hk, _⟩ := near_some h
  obtain ⟨a1, a2, a3, a4, a5⟩ := nearOk_iff.1 hk
  have hd : dropOk l x.key = true := dropOk_iff.2 ⟨a1, hasK_iff.2 ⟨x, hx, rfl⟩⟩
  refine ⟨hd, ?_⟩
  have hok : nearOk (dropL l x.key) kind c k = true := nearOk_iff.2 ⟨dropL_store a1 _, a2, a3, a4, a5⟩
  have hm : hitOf kind c x ∈ sortedHits l kind c := mem_sorted.2 ⟨x, hx, rfl⟩
  rw [nearV_of hk] at hno
  rw [dropV_of hd, nearV_of hok, nearV_of hk, sorted_drop (storeB_asc a1)]
  refine take_filter ?_ fun y hy => ?_
  · rcases Nat.lt_or_ge (sortedHits l kind c).length k.toNat with h1 | h1
    · rw [List.take_of_length_le (by omega)] at hno
      exact absurd (List.mem_map.2 ⟨_, hm, rfl⟩) hno
    · exact h1
  · simp only [bne_iff_ne, ne_eq]
    intro e
    exact hno (List.mem_map.2 ⟨y, hy, e⟩)

/-! Boxes. -/
theorem inTo_iff {p lo hi : List Int} : ∀ {n : Nat}, inTo p lo hi n = true ↔ ∀ i, i < n → gI lo i ≤ gI p i ∧ gI p i ≤ gI hi i
  | 0 => by simp [inTo]
  | n + 1 => by
    rw [inTo, Bool.and_eq_true, inTo_iff, inB_iff]
    constructor
    · rintro ⟨h1, h2⟩ i hi
      rcases Nat.lt_succ_iff_lt_or_eq.1 hi with h | rfl
      · exact h1 i h
      · exact h2
    · intro h; exact ⟨fun i hi => h i (by omega), h n (by omega)⟩
theorem dist2_le {a b : List Int} {m : Int} (hm : 0 ≤ m) : distL 2 a b 4 ≤ m ↔ ∀ i, i < 4 → ad (gI a i) (gI b i) ≤ m := by
  have e : distL 2 a b 4 = mostTo (dI a b) 4 := by simp [distL]
  rw [e]
  constructor
  · intro h i hi; exact Int.le_trans (mostTo_ge (f := dI a b) hi) h
  · intro h; exact mostTo_le hm fun i hi => h i hi
theorem ad_le {x y m : Int} : ad x y ≤ m ↔ y - m ≤ x ∧ x ≤ y + m := by unfold ad; split <;> omega
theorem filter_hits {l : List It} {kind : Int} {c : List Int} {m : Int} {p : It → Bool} (hp : ∀ x ∈ l, p x = decide (distL kind x.pt c 4 ≤ m)) : ((sortedHits l kind c).filter (fun h => decide (h.dist ≤ m))).Perm ((l.filter p).map (hitOf kind c)) := by
  refine ((sortedHits_perm l kind c).filter _).trans ?_
  unfold hitsL
  rw [List.filter_map, List.filter_congr (q := p) (fun x hx => by rw [hp x hx]; rfl)]
theorem boxOk_iff {l : List It} {lo hi : List Int} : boxOk l lo hi = true ↔ storeB l = true ∧ vecB lo 4 = true ∧ vecB hi 4 = true := by simp [boxOk, and_assoc]
theorem boxV_of {l : List It} {lo hi : List Int} (h : boxOk l lo hi = true) : boxV l lo hi = (l.filter (boxB lo hi)).map It.key := by rw [boxV, if_pos h]
theorem law_boxOne {l : List It} {c : List Int} (hs : storeB l = true) (hc : vecB c 4 = true) : boxV l c c = (withinV l 1 c 0).map Ht.key := by
  have hb : boxOk l c c = true := boxOk_iff.2 ⟨hs, hc, hc⟩
  rw [boxV_of hb, withinV_of hs rfl hc (Int.le_refl 0)]
  have hp : ∀ x ∈ l, boxB c c x = decide (distL 1 x.pt c 4 ≤ 0) := fun x hx => by
    rw [Bool.eq_iff_iff, decide_eq_true_eq, boxB, inTo_iff]
    have h0 := distL_nonneg 1 x.pt c 4
    rw [show distL 1 x.pt c 4 ≤ 0 ↔ distL 1 x.pt c 4 = 0 by omega, distL_zero_iff]
    constructor
    · intro h i hi; have := h i hi; omega
    · intro h i hi; have := h i hi; omega
  have hpm := filter_hits (kind := 1) (c := c) (m := 0) hp
  have hsf : SortedL htB ((sortedHits l 1 c).filter (fun h => decide (h.dist ≤ 0))) := (sortedHits_sorted (storeB_asc hs) 1 c).sublist List.filter_sublist
  have hsa : SortedL htB ((l.filter (boxB c c)).map (hitOf 1 c)) := by
    unfold SortedL
    rw [List.pairwise_map]
    refine (List.Pairwise.sublist List.filter_sublist (storeB_asc hs)).imp_of_mem fun {a b} hma hmb hab => ?_
    have z1 := hp a (List.mem_filter.1 hma).1
    have z2 := hp b (List.mem_filter.1 hmb).1
    rw [(List.mem_filter.1 hma).2] at z1
    rw [(List.mem_filter.1 hmb).2] at z2
    have z1' := of_decide_eq_true z1.symm
    have z2' := of_decide_eq_true z2.symm
    have n1 := distL_nonneg 1 a.pt c 4
    have n2 := distL_nonneg 1 b.pt c 4
    rw [htB_iff]
    exact .inr ⟨by show distL 1 a.pt c 4 = distL 1 b.pt c 4; omega, hab⟩
  rw [sorted_unique htB_ord hpm hsf hsa, List.map_map]
  rfl
theorem law_boxMost {l : List It} {c lo hi : List Int} {m : Int} (hs : storeB l = true) (hc : vecB c 4 = true) (hm : 0 ≤ m) (hlo : vecB lo 4 = true) (hhi : vecB hi 4 = true) (e1 : ∀ i, i < 4 → gI lo i = gI c i - m) (e2 : ∀ i, i < 4 → gI hi i = gI c i + m) :
    (∀ h ∈ withinV l 2 c m, h.key ∈ boxV l lo hi) ∧ (boxV l lo hi).length = (withinV l 2 c m).length := by
  have hb : boxOk l lo hi = true := boxOk_iff.2 ⟨hs, hlo, hhi⟩
  rw [boxV_of hb, withinV_of hs rfl hc hm]
  have hp : ∀ x ∈ l, boxB lo hi x = decide (distL 2 x.pt c 4 ≤ m) := fun x hx => by
    rw [Bool.eq_iff_iff, decide_eq_true_eq, boxB, inTo_iff, dist2_le hm]
    constructor
    · intro h i hi; have := h i hi; rw [e1 i hi, e2 i hi] at this; exact ad_le.2 this
    · intro h i hi; rw [e1 i hi, e2 i hi]; exact ad_le.1 (h i hi)
  have hpm := filter_hits (kind := 2) (c := c) (m := m) hp
  refine ⟨fun h hh => ?_, ?_⟩
  · obtain ⟨x, hx, rfl⟩ := List.mem_map.1 (hpm.mem_iff.1 hh)
    exact List.mem_map.2 ⟨x, hx, rfl⟩
  · rw [hpm.length_eq, List.length_map, List.length_map]
theorem box_some {l : List It} {lo hi : List Int} (h : ¬ (boxV l lo hi).length = 0) : boxOk l lo hi = true := by
  cases e : boxOk l lo hi
  · rw [boxV, e] at h; exact absurd rfl h
  · rfl
theorem law_inBox {l : List It} {lo hi : List Int} (h : boxOk l lo hi = true) {x : It} (hx : x ∈ l) : decide (x.key ∈ boxV l lo hi) = inTo x.pt lo hi 4 := by
  have hs := (boxOk_iff.1 h).1
  rw [boxV_of h, Bool.eq_iff_iff, decide_eq_true_eq, List.mem_map]
  constructor
  · rintro ⟨y, hy, e⟩
    obtain ⟨hy1, hy2⟩ := List.mem_filter.1 hy
    rw [← asc_key (storeB_asc hs) hy1 hx e]; exact hy2
  · intro hi; exact ⟨x, List.mem_filter.2 ⟨hx, hi⟩, rfl⟩
theorem boxV_len (l : List It) (lo hi : List Int) : (boxV l lo hi).length ≤ l.length := by
  unfold boxV
  split
  · rw [List.length_map]; exact List.length_filter_le _ _
  · simp
end Go.Proofs.Ytebiaodjodlloaa
