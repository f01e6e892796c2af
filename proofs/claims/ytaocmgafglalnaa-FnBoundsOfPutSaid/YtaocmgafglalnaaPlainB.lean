/- The plain law of the bounds behind putting an item. Lists of items alone; no program in sight. -/
import Derived.Test.YtaocmgafglalnaaPlainL
namespace Go.Proofs.Ytaocmgafglalnaa
set_option linter.unusedVariables false

theorem low_mem {l : List It} (h : 0 < l.length) (c : Nat) : (∃ x ∈ l, lowC l c l.length = gI x.pt c) ∧ ∀ x ∈ l, lowC l c l.length ≤ gI x.pt c := by
  obtain ⟨i, hi, e⟩ := lowC_hit h c
  refine ⟨⟨itI l i, List.mem_of_getElem? (itI_get hi), e⟩, fun x hx => ?_⟩
  obtain ⟨j, hj⟩ := List.getElem?_of_mem hx
  have := lowC_le (l := l) (c := c) (List.getElem?_eq_some_iff.1 hj).1
  rwa [itI_of hj] at this
theorem high_mem {l : List It} (h : 0 < l.length) (c : Nat) : (∃ x ∈ l, highC l c l.length = gI x.pt c) ∧ ∀ x ∈ l, gI x.pt c ≤ highC l c l.length := by
  obtain ⟨i, hi, e⟩ := highC_hit h c
  refine ⟨⟨itI l i, List.mem_of_getElem? (itI_get hi), e⟩, fun x hx => ?_⟩
  obtain ⟨j, hj⟩ := List.getElem?_of_mem hx
  have := highC_ge (l := l) (c := c) (List.getElem?_eq_some_iff.1 hj).1
  rwa [itI_of hj] at this
theorem bounds_put {l : List It} {y : It} (h : putOk l y = true) (hl : 0 < l.length) (hne : (putV l y).length ≠ l.length) : boundsOk l = true ∧ boundsOk (putV l y) = true ∧ ∀ c, c < 4 →
    gI (lowV (putV l y)) c = (if gI y.pt c < gI (lowV l) c then gI y.pt c else gI (lowV l) c) ∧ gI (highV (putV l y)) c = (if gI (highV l) c < gI y.pt c then gI y.pt c else gI (highV l) c) := by
  obtain ⟨h1, h2, h3⟩ := putOk_iff.1 h
  rw [putV_of h] at hne ⊢
  have hn := putL_len_new (storeB_asc h1) hne
  have hm : ∀ z, z ∈ putL l y ↔ z ∈ l ∨ z = y := fun z => by
    rw [mem_putL]
    constructor
    · rintro (⟨q, _⟩ | q)
      · exact .inl q
      · exact .inr q
    · rintro (q | q)
      · refine .inl ⟨q, fun e => ?_⟩
        rw [hasK_iff.2 ⟨z, q, e⟩] at hn; cases hn
      · exact .inr q
  have hl2 : 0 < (putL l y).length := by rw [putL_len]; omega
  have o1 : boundsOk l = true := boundsOk_iff.2 ⟨h1, hl⟩
  have o2 : boundsOk (putL l y) = true := boundsOk_iff.2 ⟨putOk_store h, hl2⟩
  refine ⟨o1, o2, fun c hc => ?_⟩
  rw [lowV_of o1, lowV_of o2, highV_of o1, highV_of o2, gI_range hc, gI_range hc, gI_range hc, gI_range hc]
  obtain ⟨⟨a, ha, ea⟩, la⟩ := low_mem hl c
  obtain ⟨⟨b, hb, eb⟩, lb⟩ := low_mem hl2 c
  obtain ⟨⟨a', ha', ea'⟩, la'⟩ := high_mem hl c
  obtain ⟨⟨b', hb', eb'⟩, lb'⟩ := high_mem hl2 c
  have y1 := lb y ((hm y).2 (.inr rfl))
  have y2 := lb' y ((hm y).2 (.inr rfl))
  have p1 := lb a ((hm a).2 (.inl ha))
  have p2 := lb' a' ((hm a').2 (.inl ha'))
  constructor
  · rcases (hm b).1 hb with q | rfl
    · have := la b q; split <;> omega
    · split <;> omega
  · rcases (hm b').1 hb' with q | rfl
    · have := la' b' q; split <;> omega
    · split <;> omega
end Go.Proofs.Ytaocmgafglalnaa
