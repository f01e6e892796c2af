/- The plain laws that the laws on stores come down to. Lists of items alone; no program in sight. -/
import Derived.Test.YtebiaodjodlloaaPlainS2
namespace Go.Proofs.Ytebiaodjodlloaa
set_option linter.unusedVariables false

theorem putOk_iff {l : List It} {x : It} : putOk l x = true ↔ storeB l = true ∧ itemB x = true ∧ (putL l x).length ≤ 16 := by
  simp [putOk, and_assoc]
theorem putV_of {l : List It} {x : It} (h : putOk l x = true) : putV l x = putL l x := by rw [putV, if_pos h]
theorem dropV_of {l : List It} {k : Int} (h : dropOk l k = true) : dropV l k = dropL l k := by rw [dropV, if_pos h]
theorem putOk_store {l : List It} {x : It} (h : putOk l x = true) : storeB (putL l x) = true := by
  obtain ⟨h1, h2, h3⟩ := putOk_iff.1 h
  rw [putL_store h1 h2]; exact decide_eq_true h3
theorem putL_len_key {l : List It} {x y : It} (h : y.key = x.key) : (putL l y).length = (putL l x).length := by rw [putL_len, putL_len, h]
theorem law_twice {l : List It} {x y : It} (h : putOk l x = true) (hk : y.key = x.key) (hy : itemB y = true) : putOk (putV l x) y = true ∧ putOk l y = true ∧ putV (putV l x) y = putV l y := by
  obtain ⟨h1, h2, h3⟩ := putOk_iff.1 h
  have hs := putOk_store h
  have ha := storeB_asc h1
  have e := putL_twice (l := l) ha hk
  have o2 : putOk l y = true := putOk_iff.2 ⟨h1, hy, by rw [putL_len_key hk]; exact h3⟩
  have o1 : putOk (putL l x) y = true := putOk_iff.2 ⟨hs, hy, by rw [e, putL_len_key hk]; exact h3⟩
  rw [putV_of h]
  exact ⟨o1, o2, by rw [putV_of o1, putV_of o2, e]⟩
theorem law_got {l : List It} {x : It} (h : putOk l x = true) : getV (putV l x) x.key = x ∧ dropOk (putV l x) x.key = true ∧ storeB (putV l x) = true ∧ l.length ≤ (putV l x).length ∧ (putV l x).length ≤ l.length + 1 := by
  rw [putV_of h]
  have hs := putOk_store h
  obtain ⟨h1, h2, h3⟩ := putOk_iff.1 h
  obtain ⟨a, b⟩ := getV_put hs
  obtain ⟨c, d⟩ := putL_len_le (storeB_asc h1) x
  exact ⟨a, b, hs, c, d⟩
theorem law_others {l : List It} {x : It} (h : putOk l x = true) {k : Int} (hk : k ≠ x.key) : getV (putV l x) k = getV l k ∧ dropOk (putV l x) k = dropOk l k := by
  rw [putV_of h]
  exact getV_put_other (putOk_iff.1 h).1 (putOk_store h) hk
theorem law_order {l : List It} {x y : It} (h : putOk l x = true) (hk : x.key ≠ y.key) (h1 : putOk (putV l x) y = true) (h2 : putOk l y = true) : putOk (putV l y) x = true ∧ putV (putV l y) x = putV (putV l x) y := by
  have e := putL_comm (storeB_asc (putOk_iff.1 h).1) hk
  rw [putV_of h] at h1 ⊢
  rw [putV_of h2]
  have o : putOk (putL l y) x = true := putOk_iff.2 ⟨putOk_store h2, (putOk_iff.1 h).2.1, by rw [← e]; exact (putOk_iff.1 h1).2.2⟩
  exact ⟨o, by rw [putV_of o, putV_of h1, e]⟩
theorem dropOk_iff {l : List It} {k : Int} : dropOk l k = true ↔ storeB l = true ∧ hasK l k = true := by simp [dropOk]
theorem law_back {l : List It} {k : Int} (h : dropOk l k = true) : dropOk (dropV l k) k = false ∧ putOk (dropV l k) (getV l k) = true ∧ putV (dropV l k) (getV l k) = l ∧ (dropV l k).length + 1 = l.length := by
  obtain ⟨h1, h2⟩ := dropOk_iff.1 h
  have ha := storeB_asc h1
  obtain ⟨m, hk⟩ := getV_mem h
  rw [dropV_of h]
  have e : putL (dropL l k) (getV l k) = l := by
    have := putL_dropL ha m
    rw [hk] at this; exact this
  have o : putOk (dropL l k) (getV l k) = true := putOk_iff.2 ⟨dropL_store h1 k, storeB_mem h1 m, by rw [e]; exact storeB_len h1⟩
  exact ⟨getV_drop h, o, by rw [putV_of o, e], dropL_len ha h2⟩
theorem law_drops {l : List It} {k j : Int} (h : dropOk l k = true) (hj : hasK (dropV l k) j = true) : dropOk (dropV l k) j = true ∧ dropOk l j = true ∧ dropOk (dropV l j) k = true ∧ dropV (dropV l j) k = dropV (dropV l k) j := by
  obtain ⟨h1, h2⟩ := dropOk_iff.1 h
  rw [dropV_of h] at hj ⊢
  obtain ⟨x, hx, hxj⟩ := hasK_iff.1 hj
  obtain ⟨hx1, hx2⟩ := mem_dropL.1 hx
  have oj : dropOk l j = true := dropOk_iff.2 ⟨h1, hasK_iff.2 ⟨x, hx1, hxj⟩⟩
  have okj : dropOk (dropL l k) j = true := dropOk_iff.2 ⟨dropL_store h1 k, hj⟩
  obtain ⟨y, hy, hyk⟩ := hasK_iff.1 h2
  have ojk : dropOk (dropL l j) k = true := dropOk_iff.2 ⟨dropL_store h1 j, hasK_iff.2 ⟨y, mem_dropL.2 ⟨hy, by omega⟩, hyk⟩⟩
  rw [dropV_of oj]
  exact ⟨okj, oj, ojk, by rw [dropV_of okj, dropV_of ojk, dropL_comm]⟩
/-- Whether one of the first n places hits. -/
def hitTo (f : Nat → Bool) : Nat → Bool
  | 0 => false
  | n + 1 => hitTo f n || f n
theorem hitTo_iff {f : Nat → Bool} : ∀ {n : Nat}, hitTo f n = true ↔ ∃ i, i < n ∧ f i = true
  | 0 => by simp [hitTo]
  | n + 1 => by
    rw [hitTo, Bool.or_eq_true, hitTo_iff]
    constructor
    · rintro (⟨i, h1, h2⟩ | h)
      · exact ⟨i, by omega, h2⟩
      · exact ⟨n, by omega, h⟩
    · rintro ⟨i, h1, h2⟩
      rcases Nat.lt_succ_iff_lt_or_eq.1 h1 with h | rfl
      · exact .inl ⟨i, h, h2⟩
      · exact .inr h2
def keyAt' (l : List It) (k : Int) (i : Nat) : Bool := (itI l i).key == k
theorem hit_has (l : List It) (k : Int) : hitTo (keyAt' l k) l.length = hasK l k := by
  rw [Bool.eq_iff_iff, hitTo_iff, hasK_iff]
  constructor
  · rintro ⟨i, h1, h2⟩
    exact ⟨itI l i, List.mem_of_getElem? (itI_get h1), by simpa [keyAt'] using h2⟩
  · rintro ⟨x, hx, hk⟩
    obtain ⟨i, hi⟩ := List.getElem?_of_mem hx
    exact ⟨i, (List.getElem?_eq_some_iff.1 hi).1, by simp [keyAt', itI_of hi, hk]⟩
theorem hit_drop {l : List It} {k : Int} (h : storeB l = true) : hitTo (keyAt' l k) l.length = dropOk l k := by rw [hit_has, dropOk, h, Bool.true_and]
theorem getV_at {l : List It} {j : Nat} {x : It} (h : storeB l = true) (hx : l[j]? = some x) : getV l x.key = x := by
  have hm := List.mem_of_getElem? hx
  have hd : dropOk l x.key = true := dropOk_iff.2 ⟨h, hasK_iff.2 ⟨x, hm, rfl⟩⟩
  rw [getV, if_pos hd, find_asc (storeB_asc h) hm]; rfl
/-- The tight bounds. -/
def lowAt (l : List It) (c i : Nat) : Bool := gI (itI l i).pt c == gI (lowV l) c
def highAt (l : List It) (c i : Nat) : Bool := gI (itI l i).pt c == gI (highV l) c
theorem tight {l : List It} (h : boundsOk l = true) {c : Nat} (hc : c < 4) : hitTo (lowAt l c) l.length = true ∧ hitTo (highAt l c) l.length = true := by
  obtain ⟨h1, h2⟩ := boundsOk_iff.1 h
  obtain ⟨i, hi, e⟩ := lowC_hit h2 c
  obtain ⟨j, hj, e'⟩ := highC_hit h2 c
  refine ⟨hitTo_iff.2 ⟨i, hi, ?_⟩, hitTo_iff.2 ⟨j, hj, ?_⟩⟩
  · rw [lowAt, lowV_of h, gI_range hc, e]; simp
  · rw [highAt, highV_of h, gI_range hc, e']; simp
end Go.Proofs.Ytebiaodjodlloaa
