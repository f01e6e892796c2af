/- The contracts of the generators of any store, and of some key. -/
import Derived.Test.YtbbiffaggnllnaaSDraw3
namespace Go.Proofs.Ytbbiffaggnllnaa
set_option linter.unusedVariables false
open Go Go.RowKit

theorem DrSP.cell_ {w : World} {lo g n c : Nat} {p : List (It × Value)} (h : DrSP w lo (.slice (some ⟨g, 0, none⟩) n c) p) (hn : n = p.length) {k : Nat} {x : It} {u : Value} (hk : p[k]? = some (x, u)) :
    w.cell? ⟨g, k * 3 + 1, none⟩ = some u ∧ w.frozen? ⟨g, k * 3 + 1, none⟩ = false := by
  subst hn
  obtain ⟨c0, c1, c2⟩ := flatS_at hk
  have hp := (List.getElem?_eq_some_iff.1 hk).1
  have hl := flatS_len p
  have c2' := (List.getElem?_eq_some_iff.1 c2).1
  exact ⟨(h.own.cellAt _ (by omega)).trans c1, h.own.frozenAt _⟩
theorem DrSP.form {w : World} {lo : Nat} {A : Option Addr} {n c : Nat} {p : List (It × Value)} (h : DrSP w lo (.slice A n c) p) (hn : 0 < p.length) : ∃ g, A = some ⟨g, 0, none⟩ ∧ n = p.length ∧ lo ≤ g ∧ g < w.heap.size := by
  rcases h.own.2 with ⟨_, h0⟩ | ⟨g, cap, cur, hv, hb, hg, _⟩
  · omega
  · injection hv with e1 e2 e3
    subst e1
    exact ⟨g, rfl, e2, hb, (Array.getElem?_eq_some_iff.1 hg).1⟩
theorem DrSP.setPt {w : World} {lo g n c : Nat} {p : List (It × Value)} (h : DrSP w lo (.slice (some ⟨g, 0, none⟩) n c) p) (hn : n = p.length) {k : Nat} {x : It} {u u' : Value} (hk : p[k]? = some (x, u)) {ys : List Int} (hv : VecI w lo w.heap.size u' ys) :
    DrSP (w.setCell ⟨g, k * 3 + 1, none⟩ u') lo (.slice (some ⟨g, 0, none⟩) n c) (p.set k (⟨x.key, ys, x.tags⟩, u')) := by
  subst hn
  have s1 := h.own.stored (k * 3 + 1) u'
  have hb := s1.2
  have s2 := s1.1
  rw [(flatS_set hk).2.1 ys u'] at s2
  refine ⟨by simpa using s2, fun q hq => ?_, fun q hq => ?_, by simpa using h.len⟩
  · rcases List.mem_or_eq_of_mem_set hq with hq | rfl
    · exact ((h.vec q hq).other h.own (by decide) hb).wider (Nat.le_refl _) hb.size (Nat.le_refl _)
    · exact (hv.other h.own (by decide) hb).wider (Nat.le_refl _) hb.size (Nat.le_refl _)
  · rcases List.mem_or_eq_of_mem_set hq with hq | rfl
    · exact h.fit q hq
    · have := h.fit _ (List.mem_of_getElem? hk); exact this

/-- What a drawn store is. -/
def AnyS (g Q : Nat) (w w' : World) (e : Ending) : Prop := ∃ v, e = .returned v ∧ ∃ l, DrS w' w.heap.size v l ∧ l.length ≤ 17 ∧ Rdr w' g Q ∧ Asked g w w'

set_option maxHeartbeats 3200000 in
theorem spec_anyStore (g P : Nat) (w : World) (h : Rdr w g P) (hP : P ≤ 50000) :
    Calls Try.prog 81 #[.pointer (some ⟨g, 0, none⟩)] w fun e w' => AnyS g (P + 340) w w' e := by
  have hg := h.lt
  go_enter Try.func81, Try.ntmps81
  go_wp2_with fail
  refine (spec_someStore _ _ _ h (by omega)).mono ?_
  rintro e w1 ⟨v, l, rfl, d1, hl, r1, k1⟩
  have e1 := k1.size
  go_wp2_with fail
  refine (reader_pick g _ _ w1 r1 (by omega) (by omega) (by omega)).mono ?_
  rintro e w2 ⟨a, rfl, a0, _, a1, _, r2, k2⟩
  have e2 := k2.size
  have d2 := d1.turn k2 (by omega)
  have ha2 := k1.trans k2
  clear d1 a1
  by_cases hz0 : a = 0
  · subst hz0
    go_wp2_with fail
    refine (spec_anyItem _ _ _ r2 (by omega)).mono ?_
    rintro e w3 ⟨u, x, rfl, hv, f1, f2, r3, k3⟩
    have d3 := d2.turn k3 (by omega)
    have e3 := k3.size
    have hv3 := hv.wider (lo' := w.heap.size) (by omega) (Nat.le_refl _) (Nat.le_refl _)
    have hs3 : w.heap.size ≤ w3.heap.size := by omega
    have hn3 : l.length ≤ 1999999 := by omega
    obtain ⟨A3, c3, rfl, _, _, _⟩ := hv3.open_
    go_wp2_with (at_builtin; go_must (refine wpList_pushD (by rfl) _ _ (by rfl) (by rfl) (by rfl) d3 hs3 hn3 hv3 f1 f2 ?_); intro v4 w4 d4 b4)
    go_ret
    exact ⟨_, rfl, _, d4, by simp; omega, (r3.below b4 hg).more (by omega), (ha2.trans k3).below b4 (Nat.le_refl _)⟩
  have z0 : (a == 0) = false := by rw [beq_eq_false_iff_ne]; exact hz0
  by_cases hz1 : a = 1
  · subst hz1
    by_cases hl0 : 0 < l.length
    · obtain ⟨p, hp, d2p⟩ := d2
      have hpl : p.length = l.length := by rw [← hp]; simp
      obtain ⟨A0, c0, rfl, _, _, _⟩ := d2p.rs
      have hp0 : 0 < p.length := by omega
      have hp17 : p.length ≤ 16 := by omega
      clear hp hpl hl0 hl
      go_wp2_with fail
      refine (reader_pick g _ _ w2 r2 (by omega) (by omega) (by omega)).mono ?_
      rintro e w3 ⟨k, rfl, k0, _, k1', _, r3, k3⟩
      have k1' := k1' (by omega)
      obtain ⟨j, rfl⟩ := Int.eq_ofNat_of_zero_le k0
      have e3 := k3.size
      have d3 := d2p.turn k3 (by omega)
      go_wp2_with fail
      refine (spec_anyVector _ _ _ r3 (by omega)).mono ?_
      rintro e w4 ⟨v4, ys, rfl, o4, s4, r4, k4⟩
      have e4 := k4.size
      have d4 := d3.turn k4 (by omega)
      have hv4 := o4.wider (lo' := w.heap.size) (by omega) (Nat.le_refl _) (Nat.le_refl _)
      have hj : j < p.length := by omega
      obtain ⟨gb, rfl, _, hb1, hb2⟩ := d4.form (by omega)
      obtain ⟨q, hq⟩ : ∃ q, q = p[j] := ⟨_, rfl⟩
      have hqj : p[j]? = some (q.1, q.2) := by rw [List.getElem?_eq_getElem hj, hq]
      obtain ⟨z1, f1⟩ := d4.cell_ rfl hqj
      have d5 := d4.setPt rfl hqj hv4
      have ha4 := (ha2.trans k3).trans k4
      have t5 := turn_set w4 gb (j * 3 + 1) v4
      have hlen : ((p.set j (⟨q.1.key, ys, q.1.tags⟩, v4)).map Prod.fst).length ≤ 17 := by simp; omega
      obtain ⟨A4, c4, rfl, _, _, _⟩ := hv4.open_
      have HQ := Lib.hid hqj
      clear hq hqj
      clear d2p d3 d4
      go_wp2_with fail
      go_ret
      exact ⟨_, rfl, _, ⟨_, rfl, d5⟩, hlen, (r4.turn t5 (by omega)).more (by omega), ha4.out t5 hb1⟩
    · obtain ⟨A0, c0, rfl, _, _, _⟩ := d2.rs
      go_wp2_with fail
      go_ret
      exact ⟨_, rfl, _, d2, by omega, r2.more (by omega), ha2⟩
  · have z1 : (a == 1) = false := by rw [beq_eq_false_iff_ne]; exact hz1
    go_wp2_with fail
    go_ret
    exact ⟨_, rfl, _, d2, by omega, r2.more (by omega), ha2⟩

theorem DrS.ri {w : World} {lo n c : Nat} {A : Option Addr} {l : List It} (h : DrS w lo (.slice A n c) l) : RS w w.heap.size A l := by
  obtain ⟨A', c', e, _, _, hr⟩ := h.rs
  injection e with e1
  subst e1
  exact hr
end Go.Proofs.Ytbbiffaggnllnaa
