/- The contracts of the laws' helpers that mark a store, or an item, and look at the marks. -/
import Derived.Test.YtebiaodjodlloaaSLaw
import Derived.Test.YtebiaodjodlloaaMark
namespace Go.Proofs.Ytebiaodjodlloaa
set_option linter.unusedVariables false
open Go Go.RowKit

/-! The marks, in plain terms. -/
def offS (l : List It) (k : Int) : Nat → Int
  | 0 => k
  | j + 1 => offS l k j + 2 + (itI l j).pt.length
def markI (l : List It) (k : Int) (j : Nat) : It := ⟨offS l k j, markL (offS l k j + 1) (itI l j).pt.length, offS l k j + 1 + (itI l j).pt.length⟩
def markSTo (l : List It) (k : Int) (j : Nat) : List It := (List.range j).map (markI l k) ++ l.drop j
def markS (l : List It) (k : Int) : List It := (List.range l.length).map (markI l k)
def endS (l : List It) (k : Int) : Int := offS l k l.length
theorem markSTo_zero (l : List It) (k : Int) : markSTo l k 0 = l := by simp [markSTo]
theorem markSTo_all (l : List It) (k : Int) : markSTo l k l.length = markS l k := by simp [markSTo, markS]
theorem markSTo_len {l : List It} {k : Int} {j : Nat} (hj : j ≤ l.length) : (markSTo l k j).length = l.length := by simp [markSTo]; omega
theorem markSTo_at {l : List It} {k : Int} {j : Nat} {x : It} (hx : l[j]? = some x) : (markSTo l k j)[j]? = some x := by
  rw [markSTo, List.getElem?_append_right (by simp)]
  simpa using hx
theorem markSTo_set {l : List It} {k : Int} {j : Nat} (hj : j < l.length) : (markSTo l k j).set j (markI l k j) = markSTo l k (j + 1) := by
  rw [markSTo, markSTo, List.set_append_right _ _ (by simp), List.length_map, List.length_range, Nat.sub_self, List.drop_eq_getElem_cons hj, List.set_cons_zero, List.range_succ, List.map_append, List.append_assoc]
  rfl
theorem offS_bd {l : List It} {k : Int} (h : ∀ (j : Nat) (x : It), l[j]? = some x → x.pt.length ≤ 2000000) (hk : 0 ≤ k) : ∀ j, 0 ≤ offS l k j ∧ offS l k j ≤ k + 2000002 * j
  | 0 => ⟨hk, by simp [offS]⟩
  | j + 1 => by
    have := offS_bd (l := l) (k := k) h hk j
    have hp : (itI l j).pt.length ≤ 2000000 := by
      cases e : l[j]? with
      | none => simp [itI, e, It.zero]
      | some x => rw [itI_of e]; exact h j x e
    rw [offS]; omega
theorem markS_at {l : List It} {k : Int} {j : Nat} (hj : j < l.length) : (markS l k)[j]? = some (markI l k j) := by simp [markS, hj]
theorem markS_len (l : List It) (k : Int) : (markS l k).length = l.length := by simp [markS]
theorem RS.short {w : World} {B : Nat} {A : Option Addr} {l : List It} (h : RS w B A l) : ∀ (j : Nat) (x : It), l[j]? = some x → x.pt.length ≤ 2000000 := fun j x hx => by
  obtain ⟨_, _, _, _, _, _, _, _, _, _, hr, _⟩ := h.row j x hx
  exact hr.len
theorem fits_of {n : Int} (h0 : 0 ≤ n) (h1 : n ≤ 1000000000000000000) : Fits n := ⟨by omega, by omega⟩

/-! What a store into one item of an owned row makes. -/
section
variable {w w' : World} {lo hi g n c k : Nat} {p : List (It × Value)} {q : It × Value}
theorem OwnSP.setOne (h : OwnSP w lo hi (.slice (some ⟨g, 0, none⟩) n c) p) (hk : p[k]? = some q) {j : Nat} {x : It} {y : Value} (hpt : x.pt = q.1.pt) (f1 : Fits x.key) (f2 : Fits x.tags) (hf : (flatS p).set j y = flatS (p.set k (x, q.2))) :
    OwnSP (w.setCell ⟨g, j, none⟩ y) lo hi (.slice (some ⟨g, 0, none⟩) n c) (p.set k (x, q.2)) := by
  refine ⟨?_, h.top, fun z hz => ?_, pairwise_set h.apart fun i z hi hne a h1 h2 => ?_, fun z hz => ?_, by simpa using h.len⟩
  · have hn : n = p.length ∨ p.length = 0 := by
      rcases h.own.2 with ⟨_, h0⟩ | ⟨_, _, _, hv, _⟩
      · exact .inr h0
      · injection hv with _ e; exact .inl e
    rcases hn with rfl | h0
    · have := (h.own.stored j y).1
      rw [hf] at this
      simpa using this
    · have := (List.getElem?_eq_some_iff.1 hk).1; omega
  · rcases List.mem_or_eq_of_mem_set hz with hz | rfl
    · exact (h.pts z hz).setFar (h.not_own (h.pts z hz))
    · have o := h.pts q (List.mem_of_getElem? hk)
      rw [← hpt] at o
      exact o.setFar (h.not_own o)
  · have hq : p[k]? = some (q.1, q.2) := hk
    rcases Nat.lt_trichotomy i k with hlt | he | hgt
    · have := (List.pairwise_iff_getElem.1 h.apart) i k (List.getElem?_eq_some_iff.1 hi).1 (List.getElem?_eq_some_iff.1 hk).1 hlt a
      rw [(List.getElem?_eq_some_iff.1 hi).2, (List.getElem?_eq_some_iff.1 hk).2] at this
      exact this h1 h2
    · exact hne he
    · have := (List.pairwise_iff_getElem.1 h.apart) k i (List.getElem?_eq_some_iff.1 hk).1 (List.getElem?_eq_some_iff.1 hi).1 hgt a
      rw [(List.getElem?_eq_some_iff.1 hi).2, (List.getElem?_eq_some_iff.1 hk).2] at this
      exact this h2 h1
  · rcases List.mem_or_eq_of_mem_set hz with hz | rfl
    · exact h.fit z hz
    · exact ⟨f1, f2⟩
theorem OwnSP.other_of (h : OwnSP w lo hi (.slice (some ⟨g, 0, none⟩) n c) p) (hk : p[k]? = some q) {i : Nat} {z : It × Value} (hi : p[i]? = some z) (hne : i ≠ k) {a : Nat} (h1 : z.2.ownBlock = some a) : q.2.ownBlock ≠ some a := fun h2 => by
  rcases Nat.lt_trichotomy i k with hlt | he | hgt
  · have := (List.pairwise_iff_getElem.1 h.apart) i k (List.getElem?_eq_some_iff.1 hi).1 (List.getElem?_eq_some_iff.1 hk).1 hlt a
    rw [(List.getElem?_eq_some_iff.1 hi).2, (List.getElem?_eq_some_iff.1 hk).2] at this
    exact this h1 h2
  · exact hne he
  · have := (List.pairwise_iff_getElem.1 h.apart) k i (List.getElem?_eq_some_iff.1 hk).1 (List.getElem?_eq_some_iff.1 hi).1 hgt a
    rw [(List.getElem?_eq_some_iff.1 hi).2, (List.getElem?_eq_some_iff.1 hk).2] at this
    exact this h2 h1
theorem OwnSP.setPt (h : OwnSP w lo hi (.slice (some ⟨g, 0, none⟩) n c) p) (hk : p[k]? = some q) {a b : Nat} (ht : Turn a b w w') (hw : ∀ r, a ≤ r → r < b → q.2.ownBlock = some r) {ys : List Int} (ho : OwnI w' a b q.2 ys) :
    OwnSP w' lo hi (.slice (some ⟨g, 0, none⟩) n c) (p.set k (⟨q.1.key, ys, q.1.tags⟩, q.2)) := by
  have hq : p[k]? = some (q.1, q.2) := hk
  have hkl := (List.getElem?_eq_some_iff.1 hk).1
  have hoq := h.pts q (List.mem_of_getElem? hk)
  have stay : ∀ r, r < w.heap.size → q.2.ownBlock ≠ some r → w'.heap[r]? = w.heap[r]? := fun r hr hne => by
    refine ht.block r hr ?_
    rcases Nat.lt_or_ge r a with h1 | h1
    · exact .inl h1
    · rcases Nat.lt_or_ge r b with h2 | h2
      · exact absurd (hw r h1 h2) hne
      · exact .inr h2
  have hfl : flatS (p.set k (⟨q.1.key, ys, q.1.tags⟩, q.2)) = flatS p := by
    rw [← (flatS_set hq).2.1 ys q.2]
    apply List.ext_getElem?
    intro j
    rw [List.getElem?_set]
    split
    · rename_i e
      subst e
      split
      · exact (flatS_at hq).2.1.symm
      · rw [List.getElem?_eq_none (by omega)]
    · rfl
  refine ⟨?_, h.top, fun z hz => ?_, pairwise_set h.apart fun i z hi hne r h1 => h.other_of hk hi hne h1, fun z hz => ?_, by simpa using h.len⟩
  · rw [hfl, List.length_set]
    exact ownsRow_of_block h.own fun r hr => stay r (h.own.lt r hr).2 fun e => own_apart hoq.own h.own (by decide) r e hr
  · obtain ⟨i, hi⟩ := List.getElem?_of_mem hz
    rw [List.getElem?_set] at hi
    split at hi
    · rename_i e
      subst e
      injection hi with hi
      subst hi
      refine ⟨⟨ho.own.1, ?_⟩, hoq.top, ho.fit, ho.len⟩
      rcases ho.own.2 with h0 | ⟨r, cap, cur, hv, hr, rest⟩
      · exact .inl h0
      · exact .inr ⟨r, cap, cur, hv, (hoq.lt r (by rw [hv]; simp [Value.ownBlock])).1, rest⟩
    · rename_i e
      have oz := h.pts z (List.mem_of_getElem? hi)
      exact oz.still fun r hr => stay r (oz.lt r hr).2 (h.other_of hk hi (fun e2 => e e2.symm) hr)
  · rcases List.mem_or_eq_of_mem_set hz with hz | rfl
    · exact h.fit z hz
    · exact h.fit q (List.mem_of_getElem? hk)
end

set_option maxHeartbeats 3200000 in
theorem laws_markItemS (A : Option Addr) (c : Nat) (l : List It) (k : Int) (w : World) (lo hi : Nat) (h : OwnS w lo hi (.slice A l.length c) l) (hk : 0 ≤ k) (hk2 : k ≤ 1000000000000) :
    Calls Try.prog 25 #[.slice A l.length c, .int .i64 k] w fun e w' => e = .returned (.int .i64 (endS l k)) ∧ OwnS w' lo hi (.slice A l.length c) (markS l k) ∧ Turn lo hi w w' := by
  have hl := h.len
  have hsh := h.ri.short
  have hbd := fun j => offS_bd (l := l) (k := k) hsh hk j
  have HB := Lib.hid hbd
  have HSH := Lib.hid hsh
  clear hbd hsh
  obtain ⟨p0, hp0, hO⟩ := h
  have H0 := Lib.hid hp0
  clear hp0
  go_enter Try.func25, Try.ntmps25
  go_wp2_with fail
  go_loopw [1, 5] (fun q i wr => ∃ (j : Nat) (p : List (It × Value)), j ≤ l.length ∧ i = .int .i64 j ∧ q = .int .i64 (offS l k j) ∧ p.map Prod.fst = markSTo l k j ∧ OwnSP wr lo hi (.slice A l.length c) p ∧ Turn lo hi w wr) (fun _ i _ => l.length - (intOf i).toNat)
  case atStart => exact ⟨0, p0, Nat.zero_le _, rfl, rfl, by rw [H0.out, markSTo_zero], hO, Turn.refl _ _ _⟩
  case round =>
    clear hO H0
    obtain ⟨j, p, hj, rfl, rfl, hp, ho, ht⟩ := hrel
    have hpl : p.length = l.length := by have := congrArg List.length hp; rwa [List.length_map, markSTo_len hj] at this
    have HP := Lib.hid hp
    have HL := Lib.hid hpl
    clear hp hpl
    obtain ⟨b0, b1⟩ := HB.out j
    by_cases hlt : j < l.length
    · obtain ⟨g, rfl, hnp, hg1, hg2, hg3⟩ := ho.form (by rw [HL.out]; omega)
      clear hnp
      have hxj := itI_get hlt
      have hsl := HSH.out j _ hxj
      obtain ⟨u, hu⟩ := pair_at HP.out (markSTo_at (k := k) hxj)
      have HX := Lib.hid hxj
      obtain ⟨z0, z1, z2, f0, f1, f2⟩ := ho.cell_ HL.out.symm hu
      obtain ⟨o, ho'⟩ : ∃ o, o = offS l k j := ⟨_, rfl⟩
      obtain ⟨x, hx'⟩ : ∃ x, x = itI l j := ⟨_, rfl⟩
      have hj2 : (j : Int) ≤ 2000000 := by omega
      have hmI : markI l k j = ⟨o, markL (o + 1) x.pt.length, o + 1 + x.pt.length⟩ := by rw [ho', hx']; rfl
      have hoff : offS l k (j + 1) = o + 2 + x.pt.length := by rw [ho', hx']; rfl
      rw [← ho'] at b0 b1
      rw [← hx'] at hsl hu z0 z2
      rw [← ho']
      have MI := Lib.hid hmI
      have MO := Lib.hid hoff
      have hj3 : j < p.length := by rw [HL.out]; exact hlt
      clear hmI hoff ho' hx' hxj
      have fo : Fits o := fits_of b0 (by omega)
      have hfit := (ho.fit _ (List.mem_of_getElem? hu)).2
      have o1 := ho.setOne hu (j := j * 3) (x := ⟨o, x.pt, x.tags⟩) (y := .int .i64 o) rfl fo hfit ((flatS_set hu).1 o)
      have hu1 : (p.set j (⟨o, x.pt, x.tags⟩, u))[j]? = some (⟨o, x.pt, x.tags⟩, u) := by rw [List.getElem?_set_self hj3]
      have t1 : Turn lo hi w (wr.setCell ⟨g, j * 3, none⟩ (.int .i64 o)) := ht.setCell (p := ⟨g, j * 3, none⟩) hg1 hg2 _
      obtain ⟨y0, y1, y2, e0, e1, e2⟩ := o1.cell_ (by rw [List.length_set]; exact HL.out.symm) hu1
      have hoU := o1.pts _ (List.mem_of_getElem? hu1)
      obtain ⟨a, b, hn, hwin⟩ := hoU.narrow
      obtain ⟨Au, cu, hAu, _, _, _⟩ := hn.open_
      simp only at hAu hn hwin
      subst hAu
      clear z1 z2 hoU hfit
      have hln := HL.out.symm
      have HLN := Lib.hid hln
      clear hln
      go_wp2_with fail
      refine (laws_markIntS _ _ x.pt (o + 1) _ a b hn (by omega) (by omega)).mono ?_
      rintro e w2 ⟨rfl, om, tm⟩
      have o2 := o1.setPt hu1 tm hwin om
      simp only [List.set_set] at o2
      have hu2 : (p.set j (⟨o, markL (o + 1) x.pt.length, x.tags⟩, .slice Au x.pt.length cu))[j]? = some (⟨o, markL (o + 1) x.pt.length, x.tags⟩, .slice Au x.pt.length cu) := by rw [List.getElem?_set_self hj3]
      obtain ⟨x0, x1, x2, d0, d1, d2⟩ := o2.cell_ (by rw [List.length_set]; exact HLN.out) hu2
      have t2 : Turn lo hi w w2 := by
        refine t1.trans ⟨tm.os, tm.tape, tm.output, tm.size, fun r hr hh => tm.block r hr ?_⟩
        rcases Nat.lt_or_ge r a with q1 | q1
        · exact .inl q1
        · rcases Nat.lt_or_ge r b with q2 | q2
          · exfalso
            have e1 := hwin r q1 q2
            have e2 := ((o1.pts _ (List.mem_of_getElem? hu1)).lt r e1).1
            have e3 := (o1.pts _ (List.mem_of_getElem? hu1)).top r e1
            omega
          · exact .inr q2
      have fo2 : Fits (o + 1 + x.pt.length) := fits_of (by omega) (by omega)
      have o3 := o2.setOne hu2 (j := j * 3 + 2) (x := ⟨o, markL (o + 1) x.pt.length, o + 1 + x.pt.length⟩) (y := .int .i64 (o + 1 + x.pt.length)) rfl fo fo2 ((flatS_set hu2).2.2 _)
      simp only [List.set_set] at o3
      have t3 : Turn lo hi w (w2.setCell ⟨g, j * 3 + 2, none⟩ (.int .i64 (o + 1 + x.pt.length))) := t2.setCell (p := ⟨g, j * 3 + 2, none⟩) hg1 hg2 _
      clear o1 o2 om hn t1 t2 tm x1 z0 y0 y1 y2 hu1 hu2 hwin
      go_wp2_with fail
      go_roundw
      case rel => exact ⟨j + 1, _, by omega, by go_num, by rw [MO.out]; go_num, by rw [List.map_set, HP.out]; exact (by have := markSTo_set (k := k) hlt; rw [MI.out] at this; exact this), o3, t3⟩
      case measure => simp [intOf]; omega
    · obtain rfl : j = l.length := by omega
      go_wp2_with fail
      go_ret
      exact ⟨rfl, ⟨p, by rw [HP.out, markSTo_all], ho⟩, ht⟩

end Go.Proofs.Ytebiaodjodlloaa
