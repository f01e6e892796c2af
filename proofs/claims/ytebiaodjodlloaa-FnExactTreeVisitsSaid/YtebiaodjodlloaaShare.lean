/- A row of items of the call's own whose vectors lie elsewhere, to be read alone; a stretch of a store appended to it. -/
import Derived.Test.YtebiaodjodlloaaSAid
import Derived.Test.YtebiaodjodlloaaFrom
import Derived.Deep.RegionHeld3
import Derived.Deep.RegionLaw
import Derived.Maps.AppendAt
namespace Go.Proofs.Ytebiaodjodlloaa
set_option linter.unusedVariables false
open Go Go.RowKit

def PtAt (w : World) (B : Nat) (q : It × Value) : Prop := ∃ Ak ck, q.2 = .slice Ak q.1.pt.length ck ∧ q.1.pt.length ≤ ck ∧ ck ≤ maxLen ∧ RI w B Ak q.1.pt ∧ Fits q.1.key ∧ Fits q.1.tags
theorem PtAt.keep {w w' : World} {B lo : Nat} {q : It × Value} (h : PtAt w B q) (hb : Below lo w w') (hB : B ≤ lo) : PtAt w' B q := by
  obtain ⟨Ak, ck, e, h1, h2, h3, h4⟩ := h
  exact ⟨Ak, ck, e, h1, h2, h3.below (hb.mono hB), h4⟩
/-- The cells of a store that is read. -/
theorem RS.rows {w : World} {B : Nat} : ∀ {l : List It} {A : Option Addr}, RS w B A l → ∃ p : List (It × Value), p.map Prod.fst = l ∧ (∀ ad, A = some ad → ∀ j u, (flatS p)[j]? = some u → w.cell? (ad.add j) = some u) ∧ ∀ q ∈ p, PtAt w B q
  | [], _, _ => ⟨[], rfl, fun ad _ j u hj => by simp [flatS] at hj, fun q hq => by simp at hq⟩
  | x :: xs, A, h => by
    obtain ⟨ad, Ak, ck, e, hb, c0, c1, c2, h1, h2, h3, h4⟩ := h.row 0 x rfl
    have ht : RS w B (some (ad.add (1 * 3))) xs := by
      have := h.cut (n := 1) (by simp) e
      simpa using this
    obtain ⟨p, hp, hc, hq⟩ := RS.rows ht
    refine ⟨(x, .slice Ak x.pt.length ck) :: p, by simp [hp], fun ad' e' j u hj => ?_, fun q hqm => ?_⟩
    · rw [e] at e'; injection e' with e'; subst e'
      match j, hj with
      | 0, hj => simp [flatS, rowS] at hj; subst hj; simpa using c0
      | 1, hj => simp [flatS, rowS] at hj; subst hj; simpa using c1
      | 2, hj => simp [flatS, rowS] at hj; subst hj; simpa using c2
      | j + 3, hj =>
        have := hc _ rfl j u (by simpa [flatS, rowS] using hj)
        rw [add_of_add] at this
        rw [show j + 3 = 1 * 3 + j by omega]; exact this
    · rcases List.mem_cons.1 hqm with rfl | hqm
      · exact ⟨Ak, ck, rfl, h1, h2, h3, h4⟩
      · exact hq q hqm
structure ShP (w : World) (lo B : Nat) (v : Value) (p : List (It × Value)) : Prop where
  own : w.ownsRow lo 43 3 v p.length (flatS p)
  pts : ∀ q ∈ p, PtAt w B q
def Sh (w : World) (lo B : Nat) (v : Value) (l : List It) : Prop := ∃ p, p.map Prod.fst = l ∧ ShP w lo B v p
theorem Sh.lit (w : World) (B : Nat) : Sh (w.alloc (.cells #[] 43)) w.heap.size B (.slice (some ⟨w.heap.size, 0, none⟩) 0 0) [] :=
  ⟨[], rfl, ⟨by simpa [flatS] using World.ownsRow_lit (base := w.heap.size) (e := 43) (size := 3) w #[] 0 (Nat.le_refl _) (by unfold maxLen; omega) rfl, fun q hq => by simp at hq⟩⟩
theorem Sh.rs {w : World} {lo B : Nat} {v : Value} {l : List It} (h : Sh w lo B v l) (hB : B ≤ w.heap.size) (hl : l.length ≤ 2000000) : ∃ A c, v = .slice A l.length c ∧ RS w w.heap.size A l := by
  obtain ⟨p, rfl, h⟩ := h
  rcases h.own.2 with ⟨rfl, h0⟩ | ⟨g, cap, cur, rfl, hb, hg, hn, hm, hs, ht⟩
  · have e : p = [] := List.eq_nil_of_length_eq_zero h0
    subst e
    exact ⟨none, 0, rfl, RS.nil_⟩
  · refine ⟨some ⟨g, 0, none⟩, cap, by rw [List.length_map], ⟨fun k x hx => ?_, hl⟩⟩
    obtain ⟨u, hu⟩ := pair_at rfl hx
    obtain ⟨c0, c1, c2⟩ := flatS_at hu
    obtain ⟨Ak, ck, e, h1, h2, h3, f1, f2⟩ := h.pts _ (List.mem_of_getElem? hu)
    simp only at e
    subst e
    have hc := h.own.cells (g := g) rfl
    exact ⟨_, Ak, ck, rfl, (Array.getElem?_eq_some_iff.1 hg).1, hc _ _ c0, hc _ _ c1, hc _ _ c2, h1, h2, h3.more hB, f1, f2⟩
/-- A stretch of a store appended, as one step of a region that draws. -/
theorem step_appendS {ops : Array Oper} {o : Oper} {a : Act} {w : World} {K : Act → World → Prop} {Q : Exit → Act → World → Prop} {E : Prop}
    (hg : o.guard = none) (s x : Operand) (ho : o.op = Op.call { callee := Callee.builtin Builtin.append, args := #[s, x], argTypes := #[23, 23] })
    {lo B n c : Nat} {v : Value} {ad : Addr} {l1 l2 : List It} (hs : a.eval s = v) (hx : a.eval x = .slice (some ad) n c) (hn : n = l2.length)
    (h1 : Sh w lo B v l1) (h2 : RS w B (some ad) l2) (hB : B ≤ lo) (hlo : lo ≤ w.heap.size) (hl1 : l1.length ≤ 1000) (hl2 : l2.length ≤ 1000)
    (hK : ∀ v' w', Sh w' lo B v' (l1 ++ l2) → Below lo w w' → K (a.put o.dst v') w') :
    if Region.wanted o (yielded ops a.tmps) = true then Oper.wp Try.prog o a w K Q else E := by
  have hw : Region.wanted o (yielded ops a.tmps) = true := by simp [Region.wanted, hg]
  rw [if_pos hw]
  obtain ⟨i0, hi0, hz0, hz1, hz2⟩ := info_parts info_item
  obtain ⟨p1, rfl, h1⟩ := h1
  obtain ⟨p2, rfl, hc2, hq2⟩ := h2.rows
  simp only [List.length_map] at hl1 hl2 hn
  subst hn
  have hm : (p1.length + p2.length) * 40 ≤ 140737488355328 := by omega
  obtain ⟨v', w', hr, r1, r2, _, r4⟩ := run_append_own_at (P := Try.prog) w lo 23 o.type 43 i0 _ 3 40 Try.underlying23 hi0 hz0 hz1 hz2 rfl (by omega) v p1.length (flatS p1) h1.own ad p2.length c (flatS p2) (flatS_len p2) (hc2 ad rfl)
    (flatS_one fun q hq => by obtain ⟨Ak, ck, e, _⟩ := hq2 q hq; rw [e]; rfl) (by unfold maxLen; omega) hm hlo
  have hbel : Below lo w w' := by
    refine ⟨r2.os, r2.tape, r2.output, r2.size, fun k hk => r2.block k (by omega) ?_⟩
    intro e
    have := (h1.own.lt k e.symm).1
    omega
  unfold Oper.wp
  simp [execOp, ho, resolve, invoke, builtin, hs, hx, hr, Result.andThen]
  refine hK v' w' ⟨p1 ++ p2, by simp, ⟨by rw [flatS_append]; simpa using r1, fun q hq => ?_⟩⟩ hbel
  rcases List.mem_append.1 hq with hq | hq
  · exact (h1.pts q hq).keep hbel hB
  · exact (hq2 q hq).keep hbel hB
theorem Sh.drew {w : World} {lo B : Nat} {v : Value} {l : List It} (h : Sh w lo B v l) : Sh w.drew lo B v l := by
  obtain ⟨p, e, h1, h2⟩ := h
  exact ⟨p, e, ⟨ownsRow_of_block h1 (fun _ _ => rfl), fun q hq => (h2 q hq).keep (lo := B) ⟨rfl, rfl, rfl, Nat.le_refl _, fun _ _ => rfl⟩ (Nat.le_refl _)⟩⟩
theorem Sh.rs' {w : World} {lo B n c : Nat} {A : Option Addr} {l : List It} (h : Sh w lo B (.slice A n c) l) (hB : B ≤ w.heap.size) (hl : l.length ≤ 2000000) : n = l.length ∧ RS w w.heap.size A l := by
  obtain ⟨A', c', e, hr⟩ := h.rs hB hl
  injection e with e1 e2 e3
  subst e1
  exact ⟨e2, hr⟩
set_option maxRecDepth 100000 in
/-- A call of ValidStore, as one step of a region that draws. -/
theorem step_valid {ops : Array Oper} {o : Oper} {a : Act} {w : World} {K : Act → World → Prop} {Q : Exit → Act → World → Prop} {E : Prop} {n c : Nat} {A : Option Addr} {l : List It} {tys : Array TypeId} (hw : Region.wanted o (yielded ops a.tmps) = true) (x : Operand)
    (ho : o.op = Op.call { callee := Callee.value (.func 40), args := #[x], argTypes := tys }) (hx : a.eval x = .slice A n c) (hn : n = l.length) (h : RS w w.heap.size A l) (hv : storeB l = true)
    (hK : ∀ w', Grow w w' → K (a.put o.dst (.bool true)) w') : if Region.wanted o (yielded ops a.tmps) = true then Oper.wp Try.prog o a w K Q else E := by
  rw [if_pos hw]
  subst hn
  unfold Oper.wp execOp
  simp only [ho, resolve, invoke, Sem.run_bind, List.map_toArray, List.map_cons, List.map_nil, hx]
  have hf : a.eval (.func 40) = .func (.func 40) #[] #[] := rfl
  rw [hf]
  simp [Deferred.ofValue, go_sem]
  refine (impl_ValidStore A c l w h).mono ?_
  rintro e w' ⟨rfl, g⟩
  rw [hv]
  have := hK w' g
  simpa [Act.put] using this
end Go.Proofs.Ytebiaodjodlloaa
