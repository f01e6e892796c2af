/- The contracts of the closest pair, in both texts. -/
import Derived.Test.YtbbiffaggnllnaaStore
import Derived.Test.YtbbiffaggnllnaaMove
import Derived.Test.YtbbiffaggnllnaaFrom
namespace Go.Proofs.Ytbbiffaggnllnaa
set_option linter.unusedVariables false
open Go Go.RowKit

theorem pair_no {l : List It} {kind : Int} (h : pairOk l kind = false) : pairOk l kind = false ∧ pairA l kind = 0 ∧ pairB l kind = 0 := by
  rw [pairA, pairB, h]; exact ⟨rfl, rfl, rfl⟩
theorem pair_yes {l : List It} {kind : Int} (h : pairOk l kind = true) : pairOk l kind = true ∧ pairA l kind = (itI l (cpOut kind l l.length).1).key ∧ pairB l kind = (itI l (cpOut kind l l.length).2).key := by
  rw [pairA, pairB, if_pos h, if_pos h]; exact ⟨h, rfl, rfl⟩
theorem pairOk_1 {l : List It} {kind : Int} (h : storeB l = false) : pairOk l kind = false := by rw [pairOk, h]; rfl
theorem pairOk_2 {l : List It} {kind : Int} (h : kindB kind = false) : pairOk l kind = false := by rw [pairOk, h]; simp
theorem pairOk_3 {l : List It} {kind : Int} (h : l.length < 2) : pairOk l kind = false := by rw [pairOk, decide_eq_false (by omega), Bool.and_false]
theorem pairOk_4 {l : List It} {kind : Int} (h1 : storeB l = true) (h2 : kindB kind = true) (h3 : 2 ≤ l.length) : pairOk l kind = true := by rw [pairOk, h1, h2, decide_eq_true h3]; rfl
theorem cpStep_yes {kind : Int} {l : List It} {i j : Nat} {st : Nat × Nat} (h : dAt kind l i j < dAt kind l st.1 st.2) : cpStep kind l i j st = (i, j) := by rw [cpStep, if_pos h]
theorem cpStep_no {kind : Int} {l : List It} {i j : Nat} {st : Nat × Nat} (h : ¬ dAt kind l i j < dAt kind l st.1 st.2) : cpStep kind l i j st = st := by rw [cpStep, if_neg h]
theorem dAt_of {kind : Int} {l : List It} {i j : Nat} {x y : It} (hx : l[i]? = some x) (hy : l[j]? = some y) : dAt kind l i j = distL kind x.pt y.pt 4 := by rw [dAt, itI_of hx, itI_of hy]

set_option maxRecDepth 100000 in
set_option maxHeartbeats 6400000 in
theorem spec_ClosestPair (A : Option Addr) (c : Nat) (l : List It) (kind : Int) (w : World) (h : RS w w.heap.size A l) :
    Calls Try.prog 51 #[.slice A l.length c, .int .i64 kind] w fun e w' => e = .returned (.tuple #[.int .i64 (pairA l kind), .int .i64 (pairB l kind), .bool (pairOk l kind)]) ∧ Grow w w' := by
  have hl := h.len
  cases hs : storeB l
  · have HN := Lib.hid (pair_no (pairOk_1 (kind := kind) hs))
    go_enter Try.func51, Try.ntmps51
    go_wp2_with (go_at_call 85; refine (spec_validStore _ _ _ _ h).mono ?_; rintro e w1 ⟨he, g1⟩; rw [hs] at he; subst he)
    go_ret3
    obtain ⟨h1, h2, h3⟩ := HN.out
    exact ⟨by rw [h1, h2, h3]; rfl, g1⟩
  · have HS := Lib.hid hs
    have h16 := storeB_len hs
    go_enter Try.func51, Try.ntmps51
    go_wp2_with fail
    refine (spec_validStore _ _ _ _ h).mono ?_; rintro e w2 ⟨he, g2⟩; rw [hs] at he; subst he
    clear hs
    cases hk : kindB kind
    · have HN := Lib.hid (pair_no (pairOk_2 (l := l) hk))
      go_wp2_with fail
      refine (spec_validKind _ _).mono ?_; rintro e w' ⟨he, rfl⟩; rw [hk] at he; subst he
      clear hk
      go_wp2_with fail
      go_ret3
      obtain ⟨h1, h2, h3⟩ := HN.out
      exact ⟨by rw [h1, h2, h3]; rfl, g2⟩
    · have HK := Lib.hid hk
      go_wp2_with fail
      refine (spec_validKind _ _).mono ?_; rintro e w' ⟨he, rfl⟩; rw [hk] at he; subst he
      clear hk
      by_cases h2 : l.length < 2
      · have HN := Lib.hid (pair_no (pairOk_3 (kind := kind) h2))
        go_wp2_with fail
        go_ret3
        obtain ⟨h1, h2, h3⟩ := HN.out
        exact ⟨by rw [h1, h2, h3]; rfl, g2⟩
      · have h2' : 2 ≤ l.length := by omega
        have HOK := Lib.hid (pair_yes (pairOk_4 HS.out HK.out h2'))
        have HV := Lib.hid (fun i (hi : i < l.length) => store_vec HS.out hi)
        go_wp2_with fail
        go_loopw [7, 8, 9] (fun a b i wr => ∃ (n p q : Nat), n ≤ l.length ∧ i = .int .i64 n ∧ a = .int .i64 p ∧ b = .int .i64 q ∧ (p, q) = cpOut kind l n ∧ p < q ∧ q < l.length ∧ Grow w wr) (fun _ _ i _ => l.length - (intOf i).toNat)
        case atStart => exact ⟨0, 0, 1, Nat.zero_le _, rfl, rfl, rfl, rfl, by omega, by omega, g2⟩
        case round =>
          obtain ⟨n, p, q, hn, rfl, rfl, rfl, hpq, hp, hq, gr⟩ := hrel
          have HPQ := Lib.hid hpq
          clear hpq
          by_cases hlt : n < l.length
          · have hn1 : n + 1 ≤ l.length := by omega
            obtain ⟨wo, rfl⟩ : ∃ wo : World, wo = wr := ⟨_, rfl⟩
            go_wp2_with fail
            go_loopw [7, 8, 10] (fun a b i wi => ∃ (m p q : Nat), n + 1 + m ≤ l.length ∧ i = .int .i64 ((n + 1 + m : Nat) : Int) ∧ a = .int .i64 p ∧ b = .int .i64 q ∧ (p, q) = cpIn kind l n (cpOut kind l n) m ∧ p < q ∧ q < l.length ∧ Grow wo wi) (fun _ _ i _ => l.length - (intOf i).toNat)
            case atStart => exact ⟨0, p, q, by omega, by go_num, rfl, rfl, HPQ.out, hp, hq, Grow.refl _⟩
            case round =>
              obtain ⟨m, p, q, hm, rfl, rfl, rfl, hpq, hp, hq, gi⟩ := hrel
              have HPQ2 := Lib.hid hpq
              clear hpq
              by_cases hml : n + 1 + m < l.length
              · have hX := h.grow (gr.trans gi)
                obtain ⟨ad, Ai, ci, x, rfl, had, _, a1, _, _, _, ri, _, _, hx⟩ := hX.at_ (k := n) hlt
                obtain ⟨ad2, Aj, cj, y, e, _, _, a2, _, _, _, rj, _, _, hy⟩ := hX.at_ (k := n + 1 + m) hml
                injection e with e; subst e
                obtain ⟨ad3, Ap, cp, u, e, _, _, a3, _, _, _, rp, _, _, hu⟩ := hX.at_ (k := p) (by omega)
                injection e with e; subst e
                obtain ⟨ad4, Aq, cq, v, e, _, _, a4, _, _, _, rq, _, _, hv⟩ := hX.at_ (k := q) hq
                injection e with e; subst e
                have far : ∀ (s : From wr) (k : Nat) (u : Value), wr.cell? ⟨(ad.add (k * 3)).block, (ad.add (k * 3)).off + 1, none⟩ = some u → s.w.cell? ⟨(ad.add (k * 3)).block, (ad.add (k * 3)).off + 1, none⟩ = some u := fun s k u hu => (s.cell (by rw [block_of_add]; exact had)).trans hu
                have e1 : ∀ s : From wr, s.w.cell? ⟨(ad.add (n * 3)).block, (ad.add (n * 3)).off + 1, none⟩ = some (.slice Ai x.pt.length ci) := fun s => far s _ _ a1
                have e2 : ∀ s : From wr, s.w.cell? ⟨(ad.add ((n + 1 + m) * 3)).block, (ad.add ((n + 1 + m) * 3)).off + 1, none⟩ = some (.slice Aj y.pt.length cj) := fun s => far s _ _ a2
                have e3 : ∀ s : From wr, s.w.cell? ⟨(ad.add (p * 3)).block, (ad.add (p * 3)).off + 1, none⟩ = some (.slice Ap u.pt.length cp) := fun s => far s _ _ a3
                have e4 : ∀ s : From wr, s.w.cell? ⟨(ad.add (q * 3)).block, (ad.add (q * 3)).off + 1, none⟩ = some (.slice Aq v.pt.length cq) := fun s => far s _ _ a4
                have vx : vecB x.pt 4 = true := by have := HV.out n hlt; rwa [itI_of hx.out] at this
                have vy : vecB y.pt 4 = true := by have := HV.out _ hml; rwa [itI_of hy.out] at this
                have vu : vecB u.pt 4 = true := by have := HV.out p (by omega); rwa [itI_of hu.out] at this
                have vv : vecB v.pt 4 = true := by have := HV.out q hq; rwa [itI_of hv.out] at this
                have hd1 := dAt_of (kind := kind) hx.out hy.out
                have hd2 := dAt_of (kind := kind) hu.out hv.out
                have HC1 := fun s : From wr => From.call_drew (spec_dist kind Ai Aj x.pt y.pt ci cj s.w (ri.grow s.g) (rj.grow s.g) vx vy)
                have HC2 := fun s : From wr => From.call_drew (spec_dist kind Ap Aq u.pt v.pt cp cq s.w (rp.grow s.g) (rq.grow s.g) vu vv)
                rw [← hd1] at HC1
                rw [← hd2] at HC2
                clear far a1 a2 a3 a4 hd1 hd2 vx vy vu vv
                have hm2 : n + 1 + m + 1 ≤ l.length := by omega
                by_cases hlt2 : dAt kind l n (n + 1 + m) < dAt kind l p q
                · have HST := Lib.hid (cpStep_yes (st := (p, q)) hlt2)
                  go_wp2_with fail
                  refine wp_region_from (by kernel_rfl) (by kernel_rfl) ?_
                  repeat (go_big_quiet_step (first | with_reducible exact HC1 _ | with_reducible exact HC2 _))
                  refine wpQuiet_nil ?_
                  intro w3 g3
                  go_wp2_with fail
                  go_roundw
                  case rel => exact ⟨m + 1, n, n + 1 + m, by omega, by go_num, rfl, rfl, by rw [cpIn, ← HPQ2.out, HST.out], by omega, by omega, gi.trans g3⟩
                  case measure => simp [intOf]; omega
                · have HST := Lib.hid (cpStep_no (st := (p, q)) hlt2)
                  go_wp2_with fail
                  refine wp_region_from (by kernel_rfl) (by kernel_rfl) ?_
                  repeat (go_big_quiet_step (first | with_reducible exact HC1 _ | with_reducible exact HC2 _))
                  refine wpQuiet_nil ?_
                  intro w3 g3
                  go_wp2_with fail
                  go_roundw
                  case rel => exact ⟨m + 1, p, q, by omega, by go_num, rfl, rfl, by rw [cpIn, ← HPQ2.out, HST.out], hp, hq, gi.trans g3⟩
                  case measure => simp [intOf]; omega
              · have hme : m = l.length - (n + 1) := by omega
                have HM := Lib.hid hme
                have hle : (l.length : Int) ≤ ((n + 1 + m : Nat) : Int) := by omega
                clear hme
                go_wp2_with fail
                go_roundw
                case rel => exact ⟨n + 1, p, q, by omega, by go_num, rfl, rfl, by rw [cpOut, ← HM.out, ← HPQ2.out], hp, hq, gr.trans gi⟩
                case measure => simp [intOf]; omega
          · obtain rfl : n = l.length := by omega
            have hX := h.grow gr
            obtain ⟨ad3, Ap, cp, u, rfl, had, a3, _, _, _, _, _, _, _, hu⟩ := hX.at_ (k := p) (by omega)
            obtain ⟨ad4, Aq, cq, v, e, _, a4, _, _, _, _, _, _, _, hv⟩ := hX.at_ (k := q) hq
            injection e with e; subst e
            have hpl : p < l.length := by omega
            have e3 : ∀ s : From wr, s.w.cell? (ad3.add (p * 3)) = some (.int .i64 u.key) := fun s => (s.cell (by rw [block_of_add]; exact had)).trans a3
            have e4 : ∀ s : From wr, s.w.cell? (ad3.add (q * 3)) = some (.int .i64 v.key) := fun s => (s.cell (by rw [block_of_add]; exact had)).trans a4
            clear a3 a4 hX
            go_wp2_with fail
            refine wp_region_from (by kernel_rfl) (by kernel_rfl) ?_
            repeat (go_big_quiet_step (fail))
            refine wpQuiet_nil ?_
            intro w3 g3
            go_wp2_with fail
            go_ret3
            obtain ⟨h1, h2, h3⟩ := HOK.out
            rw [← HPQ.out] at h2 h3
            exact ⟨by rw [h1, h2, h3, itI_of hu.out, itI_of hv.out]; rfl, gr.trans g3⟩
end Go.Proofs.Ytbbiffaggnllnaa
