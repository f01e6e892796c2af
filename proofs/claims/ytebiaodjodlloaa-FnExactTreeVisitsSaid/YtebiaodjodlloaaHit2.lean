/- Sorting hits, and the first of them. -/
import Derived.Test.YtebiaodjodlloaaHit
import Derived.Test.YtebiaodjodlloaaLayS
namespace Go.Proofs.Ytebiaodjodlloaa
set_option linter.unusedVariables false
open Go Go.RowKit

instance : Inhabited Ht := ⟨Ht.zero⟩
theorem podL_flatK {α : Type} [Inhabited α] (p : Pod α) (l : List α) : (Go.Sort.flatK (podV p) p.k l.toArray).toList = podL p l := by
  rw [flatK_list _ _ (podV_len p), podL_flat]
set_option maxRecDepth 20000 in
theorem sort_hits (l : List Ht) (v : Value) (lo hi : Nat) (w : World) (h : OwnK hitP w lo hi v l) :
    Calls Try.prog 84 #[v, .func (.func 85) #[] #[]] w fun e w' => e = .returned (.tuple #[]) ∧ ∃ s, s.Perm l ∧ s.Pairwise (fun a b => htB b a = false) ∧ OwnK hitP w' lo hi v s ∧ Turn lo hi w w' := by
  obtain ⟨A, c, rfl, _, _, _⟩ := h.open_
  rcases Nat.eq_zero_or_pos l.length with h0 | h0
  · obtain rfl : l = [] := List.eq_nil_of_length_eq_zero h0
    refine Calls.mono (AnyF.slices_SortFunc_none laidHit A c _ w) ?_
    rintro e w' ⟨rfl, rfl⟩
    exact ⟨rfl, [], List.Perm.refl _, List.Pairwise.nil, h, Turn.refl _ _ _⟩
  · obtain ⟨g, rfl, _, g1, g2, g3⟩ := h.form h0
    have eg : ∀ args w, (callFunc 85 args).run Try.prog w = .ok (.enter 85 args) w := enters_of Try.func85 (by kernel_rfl) rfl
    have hH : Go.Sort.HoldsK (podV hitP) 2 w g 0 l.toArray := holds_own h.own (podL_flatK hitP l)
    have hcmp : CmpLays Try.prog 85 #[] (podV hitP) 2 cmpH g 0 l.toArray.size w := fun m os dk _ x y => impl_compareHits x y _
    have hl : l.toArray.size < 4611686018427387904 := by have := h.len; simp; omega
    have hc := AnyQ.slices_SortFunc laidHit 2 Try.isAgg78 Try.sizeOf78 (podV hitP) (podV_len hitP) (fun x u hu => by obtain ⟨n, _, rfl⟩ := List.mem_map.1 hu; rfl) cmpH cmpH_swo 85 #[] g 0 c l.toArray w eg hcmp hH g3 hl
    rw [show l.toArray.size = l.length from by simp] at hc
    refine Calls.mono hc ?_
    rintro e w' ⟨rfl, d', n, os, hp, hs, rfl⟩
    rw [show l.length = l.toArray.size from by simp] at hp hs
    obtain ⟨p1, p2⟩ := sorted_list hp hs
    have hdl : d'.size = l.length := by have := p1.length_eq; simpa using this
    have hfl : (Go.Sort.flatK (podV hitP) 2 d').toList = podL hitP d'.toList := by have := podL_flatK hitP d'.toList; rw [Array.toArray_toList] at this; exact this
    obtain ⟨q1, q2⟩ := own_sorted (m := n) (os := os) (F := Go.Sort.flatK (podV hitP) 2 d') h.own (by rw [Go.Sort.size_flatK, hdl]; rfl)
    rw [hfl] at q1
    have p1' : d'.toList.Perm l := by simpa using p1
    have hdl' : d'.toList.length = l.length := p1'.length_eq
    refine ⟨rfl, d'.toList, p1', p2.imp fun {a b} hab => by rw [cmpH_lt] at hab; exact hab, ⟨by rw [hdl']; exact q1, h.top, fun x hx n hn => h.fit x (p1'.mem_iff.1 hx) n hn, by rw [hdl']; exact h.len⟩, ?_⟩
    exact Turn.grown q2 fun k hk => by injection hk with hk; subst hk; exact ⟨g1, g2⟩
/-- The sorted row is the one sorted order. -/
theorem sorted_is {l s s' : List Ht} (hp : s.Perm l) (hs : SortedL htB s) (hp' : s'.Perm l) (hs' : s'.Pairwise (fun a b => htB b a = false)) : s' = s := by
  have hpt : Parted htB s := hs.imp fun h => .inl h
  have hpt' : Parted htB s' := List.Pairwise.perm (R := fun a b : Ht => htB a b = true ∨ htB b a = true) hpt (hp.trans hp'.symm) (fun h => h.symm)
  refine sorted_unique htB_ord (hp'.trans hp.symm) ?_ hs
  unfold SortedL
  refine (hs'.and hpt').imp fun {a b} h => ?_
  rcases h.2 with h2 | h2
  · exact h2
  · rw [h.1] at h2; cases h2
set_option maxHeartbeats 800000 in
theorem impl_firstHits (l s : List Ht) (v : Value) (k : Nat) (lo hi : Nat) (w : World) (h : OwnK hitP w lo hi v l) (hp : s.Perm l) (hs : SortedL htB s) (hl : l.length ≤ 1000) (hk : k ≤ 1000) :
    Calls Try.prog 65 #[v, .int .i64 k] w fun e w' => ∃ u, e = .returned u ∧ OwnK hitP w' w.heap.size w'.heap.size u (s.take k) ∧ Turn lo hi w w' := by
  obtain ⟨A, c, rfl, hc, hm, _⟩ := h.open_
  have hsl := hp.length_eq
  have HP := Lib.hid hp
  have HS := Lib.hid hs
  have HL := Lib.hid hsl
  obtain ⟨m, hm2, hm3⟩ : ∃ m : Nat, min (k : Int) (l.length : Int) = (m : Int) ∧ m = min k l.length := ⟨min k l.length, by omega, rfl⟩
  have hml : m ≤ l.length := by omega
  have HM := Lib.hid hm3
  clear hp hs hsl hm3
  have hmc : (m : Int) ≤ (c : Int) := by omega
  go_enter Try.func65, Try.ntmps65
  go_wp2_with fail
  refine (sort_hits l _ lo hi w h).mono ?_
  rintro e w1 ⟨rfl, s', p1, p2, o1, t1⟩
  obtain rfl := sorted_is HP.out HS.out p1 p2
  clear p1 p2
  have hg0 : Grow w1 (w1.alloc (.cells #[] 78)) := (Below.refl _ _).alloc (Nat.le_refl _) _
  have o1' := (o1.grow hg0)
  have r1 : RK hitP (w1.alloc (.cells #[] 78)) (w1.alloc (.cells #[] 78)).heap.size A (s'.take m) := o1'.rk.take m
  have hml2 : m = (s'.take m).length := by rw [List.length_take]; have := HL.out; omega
  have htk : s'.take m = s'.take k := by
    have := HL.out
    rw [HM.out]
    rcases Nat.le_total k l.length with h1 | h1
    · rw [Nat.min_eq_left h1]
    · rw [Nat.min_eq_right h1, List.take_of_length_le (by omega), List.take_of_length_le (by omega)]
  have hm1000 : (s'.take m).length ≤ 1000000 := by omega
  have HM2 := Lib.hid hml2
  have HT := Lib.hid htk
  clear hml2 htk HM
  rcases A with _ | ad
  · obtain rfl : m = 0 := by
      rcases Nat.eq_zero_or_pos l.length with h0 | h0
      · omega
      · obtain ⟨g, e, _⟩ := h.form h0; cases e
    go_wp2_with (at_builtin; go_must (refine wpList_copyK hit_in rfl _ _ rfl (by rfl) (by rfl) HM2.out (OwnK.lit w1) r1 (by simp) (by simp) hm1000 ?_); intro v4 w4 o4 b4 _ _)
    go_ret
    have e1 := t1.size
    refine ⟨_, rfl, by rw [HT.out] at o4; exact o4.lower (by omega) (Nat.le_refl _), t1.trans (Grow.turn (w := w1) (w' := w4) (Below.trans hg0 b4) lo hi)⟩
  · go_wp2_with (at_builtin; go_must (refine wpList_copyK hit_in rfl _ _ rfl (by rfl) (by rfl) HM2.out (OwnK.lit w1) r1 (by simp) (by simp) hm1000 ?_); intro v4 w4 o4 b4 _ _)
    go_ret
    have e1 := t1.size
    refine ⟨_, rfl, by rw [HT.out] at o4; exact o4.lower (by omega) (Nat.le_refl _), t1.trans (Grow.turn (w := w1) (w' := w4) (Below.trans hg0 b4) lo hi)⟩
end Go.Proofs.Ytebiaodjodlloaa
