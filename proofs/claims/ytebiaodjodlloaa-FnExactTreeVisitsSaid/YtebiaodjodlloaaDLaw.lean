/- The contracts of the laws' helpers on nodes: comparing, copying, marks; arguments that are nodes. Trees: whether two lists of nodes are equal, in both texts. -/
import Derived.Test.YtebiaodjodlloaaTreeP
import Derived.Test.YtebiaodjodlloaaHLaw
import Derived.Test.YtebiaodjodlloaaSLaw
import Derived.Test.YtebiaodjodlloaaFrom
namespace Go.Proofs.Ytebiaodjodlloaa
set_option linter.unusedVariables false
open Go Go.RowKit

theorem RK.nd {w : World} {B : Nat} {A : Option Addr} {l : List Nd} (h : RK nodeP w B A l) {i : Nat} (hi : i < l.length) : ∃ ad x, A = some ad ∧ ad.block < B ∧ w.cell? (ad.add (i * 4)) = some (.int .i64 x.key) ∧ w.cell? ⟨(ad.add (i * 4)).block, (ad.add (i * 4)).off + 1, none⟩ = some (.int .i64 x.radius) ∧
    w.cell? ⟨(ad.add (i * 4)).block, (ad.add (i * 4)).off + 2, none⟩ = some (.int .i64 x.near) ∧ w.cell? ⟨(ad.add (i * 4)).block, (ad.add (i * 4)).off + 3, none⟩ = some (.int .i64 x.far) ∧
    (∀ z ∈ nodeP.f x, Fits z) ∧ Hid (l[i]? = some x) := by
  have hx := List.getElem?_eq_getElem hi
  obtain ⟨ad, e, hb, c0⟩ := h.cell_ (j := 0) hx rfl
  obtain ⟨ad', e', _, c1⟩ := h.cell_ (j := 1) hx rfl
  rw [e] at e'; injection e' with e'; subst e'
  obtain ⟨ad', e', _, c2⟩ := h.cell_ (j := 2) hx rfl
  rw [e] at e'; injection e' with e'; subst e'
  obtain ⟨ad', e', _, c3⟩ := h.cell_ (j := 3) hx rfl
  rw [e] at e'; injection e' with e'; subst e'
  have e1 : ad.add (i * nodeP.k + 1) = ⟨(ad.add (i * 4)).block, (ad.add (i * 4)).off + 1, none⟩ := add_one ad (i * 4) 1 (by omega)
  have e2 : ad.add (i * nodeP.k + 2) = ⟨(ad.add (i * 4)).block, (ad.add (i * 4)).off + 2, none⟩ := add_one ad (i * 4) 2 (by omega)
  have e3 : ad.add (i * nodeP.k + 3) = ⟨(ad.add (i * 4)).block, (ad.add (i * 4)).off + 3, none⟩ := add_one ad (i * 4) 3 (by omega)
  rw [e1] at c1
  rw [e2] at c2
  rw [e3] at c3
  exact ⟨ad, l[i], e, hb, c0, c1, c2, c3, h.fit _ (List.getElem_mem hi), Lib.hid hx⟩
theorem RK.nd0 {w : World} {B : Nat} {A : Option Addr} {l : List Nd} (h : RK nodeP w B A l) (hi : 0 < l.length) : ∃ ad x, A = some ad ∧ ad.block < B ∧ w.cell? ad = some (.int .i64 x.key) ∧ w.cell? ⟨ad.block, ad.off + 1, none⟩ = some (.int .i64 x.radius) ∧
    w.cell? ⟨ad.block, ad.off + 2, none⟩ = some (.int .i64 x.near) ∧ w.cell? ⟨ad.block, ad.off + 3, none⟩ = some (.int .i64 x.far) ∧ Hid (l[0]? = some x) := by
  obtain ⟨ad, x, e, hb, c0, c1, c2, c3, _, hx⟩ := h.nd hi
  have a0 : ad.add (0 * 4) = ad := by simp [Addr.add]
  rw [a0] at c0 c1 c2 c3
  exact ⟨ad, x, e, hb, c0, c1, c2, c3, hx⟩
set_option maxRecDepth 20000 in
set_option maxHeartbeats 1600000 in
theorem laws_equalNodes_same (A B : Option Addr) (c d : Nat) (l : List Nd) (w : World) (hx : RK nodeP w w.heap.size A l) (hy : RK nodeP w w.heap.size B l) :
    Calls Try.prog 13 #[.slice A l.length c, .slice B l.length d] w fun e w' => e = .returned (.bool true) ∧ Grow w w' := by
  have hl := hx.len
  have hn := eqT_ne (l.length : Int)
  go_enter Try.func13, Try.ntmps13
  go_wp2_with fail
  go_loopw [5] (fun i wr => ∃ k : Nat, k ≤ l.length ∧ i = .int .i64 k ∧ ∃ n, wr = w.drewN n) (fun i _ => l.length - (intOf i).toNat)
  case atStart => exact ⟨0, Nat.zero_le _, rfl, 0, by simp [World.drewN]⟩
  case round =>
    obtain ⟨k, hk, rfl, n, rfl⟩ := hrel
    by_cases hlt : k < l.length
    · obtain ⟨ad, x, rfl, had, c0, c1, c2, c3, _, hxk⟩ := hx.nd hlt
      obtain ⟨bd, y, rfl, hbd, d0, d1, d2, d3, _, hyk⟩ := hy.nd hlt
      obtain rfl := same_at hxk hyk
      have hne := eqT_ne y.key
      have hne1 := eqT_ne y.radius
      have hne2 := eqT_ne y.near
      have hne3 := eqT_ne y.far
      have hl2 : k + 1 ≤ l.length := by omega
      go_wp2_with fail
      go_quiet (fail)
      go_wp2_with fail
      go_roundw
      case rel => exact ⟨k + 1, by omega, by go_num, _, rfl⟩
      case measure => simp [intOf]; omega
    · obtain rfl : k = l.length := by omega
      go_wp2
      go_ret
      exact ⟨rfl, Grow.drewN _ _⟩

set_option maxRecDepth 20000 in
theorem laws_eqNode_same (x : Nd) (w : World) :
    Calls Try.prog 51 #[.agg #[.int .i64 x.key, .int .i64 x.radius, .int .i64 x.near, .int .i64 x.far], .agg #[.int .i64 x.key, .int .i64 x.radius, .int .i64 x.near, .int .i64 x.far]] w fun e w' => e = .returned (.bool true) ∧ Grow w w' := by
  obtain ⟨k, r, n, f⟩ := x
  have hk := eqT_ne k
  have hr := eqT_ne r
  have hn := eqT_ne n
  have hf := eqT_ne f
  have g2 : Grow w ((w.alloc (.cells #[.int .i64 k, .int .i64 r, .int .i64 n, .int .i64 f] 30)).alloc (.cells #[.int .i64 k, .int .i64 r, .int .i64 n, .int .i64 f] 30)) := ((Below.refl _ _).alloc (Nat.le_refl _) _).alloc (by simp) _
  simp only
  go_enter Try.func51, Try.ntmps51
  go_wp2_with fail
  go_ret
  exact ⟨rfl, g2⟩
set_option maxRecDepth 20000 in
set_option maxHeartbeats 1600000 in
theorem laws_eqNodeS_same (A B : Option Addr) (c d : Nat) (l : List Nd) (w : World) (hx : RK nodeP w w.heap.size A l) (hy : RK nodeP w w.heap.size B l) :
    Calls Try.prog 21 #[.slice A l.length c, .slice B l.length d] w fun e w' => e = .returned (.bool true) ∧ Grow w w' := by
  have hl := hx.len
  have hn := eqT_ne (l.length : Int)
  go_enter Try.func21, Try.ntmps21
  go_wp2_with fail
  go_loopw [5] (fun i wr => ∃ k : Nat, k ≤ l.length ∧ i = .int .i64 k ∧ Grow w wr) (fun i _ => l.length - (intOf i).toNat)
  case atStart => exact ⟨0, Nat.zero_le _, rfl, Grow.refl _⟩
  case round =>
    obtain ⟨k, hk, rfl, hg⟩ := hrel
    by_cases hlt : k < l.length
    · obtain ⟨ad, x, rfl, had, c0, c1, c2, c3, _, hxk⟩ := (hx.grow hg).nd hlt
      obtain ⟨bd, y, rfl, hbd, d0, d1, d2, d3, _, hyk⟩ := (hy.grow hg).nd hlt
      obtain rfl := same_at hxk hyk
      have hba : (ad.add (k * 4)).block = ad.block := block_of_add _ _
      have hbb : (bd.add (k * 4)).block = bd.block := block_of_add _ _
      have e0 : ∀ s : From wr, s.w.cell? (ad.add (k * 4)) = some (.int .i64 y.key) := fun s => (s.cell (by rw [hba]; exact had)).trans c0
      have e1 : ∀ s : From wr, s.w.cell? ⟨(ad.add (k * 4)).block, (ad.add (k * 4)).off + 1, none⟩ = some (.int .i64 y.radius) := fun s => (s.cell (by rw [hba]; exact had)).trans c1
      have e2 : ∀ s : From wr, s.w.cell? ⟨(ad.add (k * 4)).block, (ad.add (k * 4)).off + 2, none⟩ = some (.int .i64 y.near) := fun s => (s.cell (by rw [hba]; exact had)).trans c2
      have e3 : ∀ s : From wr, s.w.cell? ⟨(ad.add (k * 4)).block, (ad.add (k * 4)).off + 3, none⟩ = some (.int .i64 y.far) := fun s => (s.cell (by rw [hba]; exact had)).trans c3
      have f0 : ∀ s : From wr, s.w.cell? (bd.add (k * 4)) = some (.int .i64 y.key) := fun s => (s.cell (by rw [hbb]; exact hbd)).trans d0
      have f1 : ∀ s : From wr, s.w.cell? ⟨(bd.add (k * 4)).block, (bd.add (k * 4)).off + 1, none⟩ = some (.int .i64 y.radius) := fun s => (s.cell (by rw [hbb]; exact hbd)).trans d1
      have f2 : ∀ s : From wr, s.w.cell? ⟨(bd.add (k * 4)).block, (bd.add (k * 4)).off + 2, none⟩ = some (.int .i64 y.near) := fun s => (s.cell (by rw [hbb]; exact hbd)).trans d2
      have f3 : ∀ s : From wr, s.w.cell? ⟨(bd.add (k * 4)).block, (bd.add (k * 4)).off + 3, none⟩ = some (.int .i64 y.far) := fun s => (s.cell (by rw [hbb]; exact hbd)).trans d3
      have HC := fun s : From wr => From.call (laws_eqNode_same y s.w)
      have hl2 : k + 1 ≤ l.length := by omega
      clear hba hbb c0 c1 c2 c3 d0 d1 d2 d3
      go_wp2_with fail
      refine wp_region_from (by kernel_rfl) (by kernel_rfl) ?_
      repeat (go_big_quiet_step (exact HC _))
      refine wpQuiet_nil ?_
      intro w2 g2
      go_wp2_with fail
      go_roundw
      case rel => exact ⟨k + 1, by omega, by go_num, hg.trans g2⟩
      case measure => simp [intOf]; omega
    · obtain rfl : k = l.length := by omega
      go_wp2
      go_ret
      exact ⟨rfl, hg⟩
/-! Marks. -/
def markNI (k : Int) (i : Nat) : Nd := ⟨k + 4 * i, k + 4 * i + 1, k + 4 * i + 1 + 1, k + 4 * i + 1 + 1 + 1⟩
def markN (k : Int) (n : Nat) : List Nd := (List.range n).map (markNI k)
def markNTo (k : Int) (l : List Nd) (j : Nat) : List Nd := markN k j ++ l.drop j
theorem markN_len (k : Int) (n : Nat) : (markN k n).length = n := by simp [markN]
theorem markNTo_len (k : Int) (l : List Nd) {j : Nat} (h : j ≤ l.length) : (markNTo k l j).length = l.length := by simp [markNTo, markN_len]; omega
theorem markNTo_set (k : Int) (l : List Nd) {j : Nat} (h : j < l.length) : (markNTo k l j).set j (markNI k j) = markNTo k l (j + 1) := by
  unfold markNTo
  rw [List.set_append_right _ _ (by rw [markN_len]; omega), markN_len, Nat.sub_self, List.drop_eq_getElem_cons h, List.set_cons_zero]
  have : markN k (j + 1) = markN k j ++ [markNI k j] := by simp [markN, List.range_succ]
  rw [this, List.append_assoc]; rfl
theorem markNTo_end (k : Int) (l : List Nd) : markNTo k l l.length = markN k l.length := by simp [markNTo]
set_option maxRecDepth 20000 in
set_option maxHeartbeats 3200000 in
theorem laws_markNodeS (A : Option Addr) (c : Nat) (l : List Nd) (k : Int) (w : World) (lo hi : Nat) (h : OwnK nodeP w lo hi (.slice A l.length c) l) (hk : 0 ≤ k) (hk2 : k ≤ 1000000000000000) :
    Calls Try.prog 26 #[.slice A l.length c, .int .i64 k] w fun e w' => e = .returned (.int .i64 (k + 4 * l.length)) ∧ OwnK nodeP w' lo hi (.slice A l.length c) (markN k l.length) ∧ Turn lo hi w w' := by
  have hl := h.len
  have hm0 : markNTo k l 0 = l := by simp [markNTo, markN]
  go_enter Try.func26, Try.ntmps26
  go_wp2_with fail
  go_loopw [1, 5] (fun q i wr => ∃ j : Nat, j ≤ l.length ∧ i = .int .i64 j ∧ q = .int .i64 (k + 4 * j) ∧ OwnK nodeP wr lo hi (.slice A l.length c) (markNTo k l j) ∧ Turn lo hi w wr) (fun _ i _ => l.length - (intOf i).toNat)
  case atStart => exact ⟨0, Nat.zero_le _, rfl, by simp, by rw [hm0]; exact h, Turn.refl _ _ _⟩
  case round =>
    obtain ⟨j, hj, rfl, rfl, ho, ht⟩ := hrel
    clear hm0
    by_cases hlt : j < l.length
    · have hml := markNTo_len k l hj
      obtain ⟨g, rfl, _, hg1, hg2, hg3⟩ := ho.form (by omega)
      obtain ⟨y, hy⟩ : ∃ y, (markNTo k l j)[j]? = some y := ⟨_, List.getElem?_eq_getElem (by omega)⟩
      obtain ⟨q, hq⟩ : ∃ q, q = k + 4 * (j : Int) := ⟨_, rfl⟩
      have hq0 : 0 ≤ q := by omega
      have hq1 : q ≤ 1000000009000000 := by omega
      have hmi : markNI k j = ⟨q, q + 1, q + 1 + 1, q + 1 + 1 + 1⟩ := by rw [hq]; rfl
      have o1 := ho.set_ (i := j) (j := 0) (x := y) (y := ⟨q, y.radius, y.near, y.far⟩) (z := q) hml.symm hy (by show 0 < 4; omega) rfl ⟨by omega, by omega⟩
      have hL1 : ((markNTo k l j).set j (⟨q, y.radius, y.near, y.far⟩ : Nd))[j]? = some ⟨q, y.radius, y.near, y.far⟩ := by rw [List.getElem?_set_self (by omega)]
      have hl1 : ((markNTo k l j).set j (⟨q, y.radius, y.near, y.far⟩ : Nd)).length = l.length := by rw [List.length_set, hml]
      have o2 := o1.set_ (i := j) (j := 1) (x := ⟨q, y.radius, y.near, y.far⟩) (y := ⟨q, q + 1, y.near, y.far⟩) (z := q + 1) hl1.symm hL1 (by show 1 < 4; omega) rfl ⟨by omega, by omega⟩
      rw [List.set_set] at o2
      have hL2 : ((markNTo k l j).set j (⟨q, q + 1, y.near, y.far⟩ : Nd))[j]? = some ⟨q, q + 1, y.near, y.far⟩ := by rw [List.getElem?_set_self (by omega)]
      have hl2 : ((markNTo k l j).set j (⟨q, q + 1, y.near, y.far⟩ : Nd)).length = l.length := by rw [List.length_set, hml]
      have o3 := o2.set_ (i := j) (j := 2) (x := ⟨q, q + 1, y.near, y.far⟩) (y := ⟨q, q + 1, q + 1 + 1, y.far⟩) (z := q + 1 + 1) hl2.symm hL2 (by show 2 < 4; omega) rfl ⟨by omega, by omega⟩
      rw [List.set_set] at o3
      have hL3 : ((markNTo k l j).set j (⟨q, q + 1, q + 1 + 1, y.far⟩ : Nd))[j]? = some ⟨q, q + 1, q + 1 + 1, y.far⟩ := by rw [List.getElem?_set_self (by omega)]
      have hl3 : ((markNTo k l j).set j (⟨q, q + 1, q + 1 + 1, y.far⟩ : Nd)).length = l.length := by rw [List.length_set, hml]
      have o4 := o3.set_ (i := j) (j := 3) (x := ⟨q, q + 1, q + 1 + 1, y.far⟩) (y := ⟨q, q + 1, q + 1 + 1, q + 1 + 1 + 1⟩) (z := q + 1 + 1 + 1) hl3.symm hL3 (by show 3 < 4; omega) rfl ⟨by omega, by omega⟩
      rw [List.set_set, ← hmi, markNTo_set k l hlt] at o4
      have m0 := ho.cellAt (j := 0) hml.symm hy rfl
      have f0 := ho.frozenAt (j * 4) hml.symm
      have m1 := o1.cellAt (j := 1) hl1.symm hL1 rfl
      have f1 := o1.frozenAt (j * 4 + 1) hl1.symm
      have m2 := o2.cellAt (j := 2) hl2.symm hL2 rfl
      have f2 := o2.frozenAt (j * 4 + 2) hl2.symm
      have m3 := o3.cellAt (j := 3) hl3.symm hL3 rfl
      have f3 := o3.frozenAt (j * 4 + 3) hl3.symm
      have ht2 : Turn lo hi w ((((wr.setCell ⟨g, j * 4, none⟩ (.int .i64 q)).setCell ⟨g, j * 4 + 1, none⟩ (.int .i64 (q + 1))).setCell ⟨g, j * 4 + 2, none⟩ (.int .i64 (q + 1 + 1))).setCell ⟨g, j * 4 + 3, none⟩ (.int .i64 (q + 1 + 1 + 1))) :=
        ht.trans ((((turn_at _ g _ _).trans (turn_at _ g _ _)).trans ((turn_at _ g _ _).trans (turn_at _ g _ _))).wider hg1 hg2)
      simp only [nodeP, Nat.add_zero] at m0 m1 m2 m3 f0 f1 f2 f3 o4
      have hq2 : q + 1 + 1 + 1 + 1 = k + 4 * ((j + 1 : Nat) : Int) := by omega
      have HQ := Lib.hid hq2
      rw [← hq]
      clear hml hy ho ht o1 o2 o3 hL1 hl1 hL2 hl2 hL3 hl3 hmi hq hq2
      go_wp2_with fail
      go_roundw
      case rel => exact ⟨j + 1, by omega, by go_num, by rw [HQ.out], o4, ht2⟩
      case measure => simp [intOf]; omega
    · obtain rfl : j = l.length := by omega
      rw [markNTo_end] at ho
      go_wp2_with fail
      go_ret
      exact ⟨rfl, ho, ht⟩
set_option maxRecDepth 20000 in
set_option maxHeartbeats 1600000 in
theorem laws_heldNodeS (A : Option Addr) (c n : Nat) (k : Int) (w : World) (h : RK nodeP w w.heap.size A (markN k n)) (hk : 0 ≤ k) (hk2 : k ≤ 1000000000000000) :
    Calls Try.prog 27 #[.slice A n c, .int .i64 k] w fun e w' => e = .returned (.int .i64 (k + 4 * n)) ∧ w = w' := by
  have hl := h.len
  have hn : (markN k n).length = n := markN_len k n
  rw [hn] at hl
  have HN := Lib.hid hn
  clear hn
  go_enter Try.func27, Try.ntmps27
  go_wp2_with fail
  go_loop [1, 5] (fun q i => ∃ j : Nat, j ≤ n ∧ i = .int .i64 j ∧ q = .int .i64 (k + 4 * j)) (fun _ i => n - (intOf i).toNat)
  case atStart => exact ⟨0, Nat.zero_le _, rfl, by simp⟩
  case round =>
    obtain ⟨j, hj, rfl, rfl⟩ := hrel
    by_cases hlt : j < n
    · obtain ⟨ad, x, rfl, _, c0, c1, c2, c3, _, hx⟩ := h.nd (i := j) (by rw [HN.out]; exact hlt)
      have ex : x = markNI k j := by
        have := hx.out
        simp [markN, hlt] at this
        exact this.symm
      subst ex
      obtain ⟨q, hq⟩ : ∃ q, q = k + 4 * (j : Int) := ⟨_, rfl⟩
      have hq0 : 0 ≤ q := by omega
      have hq1 : q ≤ 1000000009000000 := by omega
      have hq2 : q + 1 + 1 + 1 + 1 = k + 4 * ((j + 1 : Nat) : Int) := by omega
      simp only [markNI, ← hq] at c0 c1 c2 c3
      rw [← hq]
      have hne := eqT_ne q
      have hne1 := eqT_ne (q + 1)
      have hne2 := eqT_ne (q + 1 + 1)
      have hne3 := eqT_ne (q + 1 + 1 + 1)
      have HQ := Lib.hid hq2
      clear hq hq2 hx
      go_wp2_with fail
      go_round
      case rel => exact ⟨j + 1, by omega, by go_num, by rw [HQ.out]⟩
      case measure => simp [intOf]; omega
    · obtain rfl : j = n := by omega
      go_wp2_with fail
      go_ret
      exact ⟨rfl, rfl⟩
end Go.Proofs.Ytebiaodjodlloaa
namespace Go.Proofs.Ytebiaodjodlloaa
set_option linter.unusedVariables false
open Go Go.RowKit

instance : DecidableEq Nd := fun a b =>
  if h : a.key = b.key ∧ a.radius = b.radius ∧ a.near = b.near ∧ a.far = b.far then .isTrue (by obtain ⟨k, r, n, f⟩ := a; obtain ⟨k', r', n', f'⟩ := b; obtain ⟨h1, h2, h3, h4⟩ := h; simp only at h1 h2 h3 h4; subst h1 h2 h3 h4; rfl)
  else .isFalse fun e => h (by subst e; exact ⟨rfl, rfl, rfl, rfl⟩)
theorem nd_diff {x y : Nd} (h : x ≠ y) : x.key ≠ y.key ∨ (x.key = y.key ∧ x.radius ≠ y.radius) ∨ (x.key = y.key ∧ x.radius = y.radius ∧ x.near ≠ y.near) ∨ (x.key = y.key ∧ x.radius = y.radius ∧ x.near = y.near ∧ x.far ≠ y.far) := by
  obtain ⟨k, r, n, f⟩ := x
  obtain ⟨k', r', n', f'⟩ := y
  simp only
  by_cases h1 : k = k'
  · by_cases h2 : r = r'
    · by_cases h3 : n = n'
      · exact .inr (.inr (.inr ⟨h1, h2, h3, fun h4 => h (by rw [h1, h2, h3, h4])⟩))
      · exact .inr (.inr (.inl ⟨h1, h2, h3⟩))
    · exact .inr (.inl ⟨h1, h2⟩)
  · exact .inl h1
theorem bne_of {a b : Int} (h : a ≠ b) : (a != b) = true := by simpa using h
theorem beq_no {a b : Int} (h : a ≠ b) : (a == b) = false := by simpa using h
def SameTo (l m : List Nd) (k : Nat) : Prop := ∀ j, j < k → l[j]? = m[j]?
theorem same_no {l m : List Nd} {k : Nat} {x y : Nd} (hx : Hid (l[k]? = some x)) (hy : Hid (m[k]? = some y)) (h : x ≠ y) : decide (l = m) = false := by
  rw [decide_eq_false_iff_not]
  intro e
  have a := hx.out
  rw [e, hy.out] at a
  injection a with a
  exact h a.symm
theorem same_yes {l m : List Nd} (hl : l.length = m.length) (h : Hid (SameTo l m l.length)) : decide (l = m) = true := by
  rw [decide_eq_true_eq]
  refine List.ext_getElem? fun j => ?_
  rcases Nat.lt_or_ge j l.length with hj | hj
  · exact h.out j hj
  · rw [List.getElem?_eq_none hj, List.getElem?_eq_none (by omega)]
theorem same_len {l m : List Nd} (hl : l.length ≠ m.length) : decide (l = m) = false := by
  rw [decide_eq_false_iff_not]
  intro e
  exact hl (by rw [e])
set_option maxRecDepth 20000 in
set_option maxHeartbeats 3200000 in
theorem spec_sameNodes (A B : Option Addr) (c d : Nat) (l m : List Nd) (w : World) (hx : RK nodeP w w.heap.size A l) (hy : RK nodeP w w.heap.size B m) :
    Calls Try.prog 47 #[.slice A l.length c, .slice B m.length d] w fun e w' => e = .returned (.bool (decide (l = m))) ∧ Grow w w' := by
  have hl := hx.len
  have hm := hy.len
  by_cases hlm : l.length = m.length
  · have HL := Lib.hid hlm
    rw [← hlm]
    have hn := eqT_ne (l.length : Int)
    clear hlm
    go_enter Try.func47, Try.ntmps47
    go_wp2_with fail
    go_loopw [5] (fun i wr => ∃ k : Nat, k ≤ l.length ∧ i = .int .i64 k ∧ SameTo l m k ∧ ∃ n, wr = w.drewN n) (fun i _ => l.length - (intOf i).toNat)
    case atStart => exact ⟨0, Nat.zero_le _, rfl, fun j hj => absurd hj (by omega), 0, by simp [World.drewN]⟩
    case round =>
      obtain ⟨k, hk, rfl, hs, n, rfl⟩ := hrel
      have HS := Lib.hid hs
      clear hs
      by_cases hlt : k < l.length
      · obtain ⟨ad, x, rfl, had, c0, c1, c2, c3, _, hxk⟩ := hx.nd hlt
        obtain ⟨bd, y, rfl, hbd, d0, d1, d2, d3, _, hyk⟩ := hy.nd (i := k) (by rw [← HL.out]; exact hlt)
        have hl2 : k + 1 ≤ l.length := by omega
        by_cases hxy : x = y
        · subst hxy
          have hne := eqT_ne x.key
          have hne1 := eqT_ne x.radius
          have hne2 := eqT_ne x.near
          have hne3 := eqT_ne x.far
          go_wp2_with fail
          go_quiet (fail)
          go_wp2_with fail
          go_roundw
          case rel => exact ⟨k + 1, by omega, by go_num, (fun j hj => by
            rcases Nat.lt_succ_iff_lt_or_eq.1 hj with hj | rfl
            · exact HS.out j hj
            · rw [hxk.out, hyk.out]), _, rfl⟩
          case measure => simp [intOf]; omega
        · have hdd := nd_diff hxy
          have hxy := Lib.hid hxy
          rcases hdd with hd | hd | hd | hd
          · have hne0 := bne_of hd
            have hbe := beq_no hd
            go_wp2_with fail
            go_quiet (fail)
            go_wp2_with fail
            go_ret
            exact ⟨ret_bool (same_no hxk hyk hxy.out).symm, (Grow.drewN _ _).trans (Grow.drewN _ _)⟩
          · obtain ⟨q0, hd⟩ := hd
            rw [q0] at c0
            have hne0 := eqT_ne y.key
            have hne1 := bne_of hd
            have hbe := beq_no hd
            clear q0
            go_wp2_with fail
            go_quiet (fail)
            go_wp2_with fail
            go_ret
            exact ⟨ret_bool (same_no hxk hyk hxy.out).symm, (Grow.drewN _ _).trans (Grow.drewN _ _)⟩
          · obtain ⟨q0, q1, hd⟩ := hd
            rw [q0] at c0
            rw [q1] at c1
            have hne0 := eqT_ne y.key
            have hne1 := eqT_ne y.radius
            have hne2 := bne_of hd
            have hbe := beq_no hd
            clear q0 q1
            go_wp2_with fail
            go_quiet (fail)
            go_wp2_with fail
            go_ret
            exact ⟨ret_bool (same_no hxk hyk hxy.out).symm, (Grow.drewN _ _).trans (Grow.drewN _ _)⟩
          · obtain ⟨q0, q1, q2, hd⟩ := hd
            rw [q0] at c0
            rw [q1] at c1
            rw [q2] at c2
            have hne0 := eqT_ne y.key
            have hne1 := eqT_ne y.radius
            have hne2 := eqT_ne y.near
            have hne3 := bne_of hd
            have hbe := beq_no hd
            clear q0 q1 q2
            go_wp2_with fail
            go_quiet (fail)
            go_wp2_with fail
            go_ret
            exact ⟨ret_bool (same_no hxk hyk hxy.out).symm, (Grow.drewN _ _).trans (Grow.drewN _ _)⟩
      · obtain rfl : k = l.length := by omega
        go_wp2_with fail
        go_ret
        exact ⟨ret_bool (same_yes HL.out HS).symm, Grow.drewN _ _⟩
  · have hn := bne_of (show (l.length : Int) ≠ (m.length : Int) by omega)
    have HL := Lib.hid hlm
    clear hlm
    go_enter Try.func47, Try.ntmps47
    go_wp2_with fail
    go_ret
    exact ⟨ret_bool (same_len HL.out).symm, Grow.refl _⟩
set_option maxRecDepth 20000 in
set_option maxHeartbeats 3200000 in
theorem slices_EqualN (A B : Option Addr) (c d : Nat) (l m : List Nd) (w : World) (hx : RK nodeP w w.heap.size A l) (hy : RK nodeP w w.heap.size B m) :
    Calls Try.prog 50 #[.slice A l.length c, .slice B m.length d] w fun e w' => e = .returned (.bool (decide (l = m))) ∧ Grow w w' := by
  have hl := hx.len
  have hm := hy.len
  by_cases hlm : l.length = m.length
  · have HL := Lib.hid hlm
    rw [← hlm]
    have hn := eqT_ne (l.length : Int)
    clear hlm
    go_enter Try.func50, Try.ntmps50
    go_wp2_with fail
    go_loopw [13] (fun i wr => ∃ k : Nat, k ≤ l.length ∧ i = .int .i64 k ∧ SameTo l m k ∧ ∃ n, wr = w.drewN n) (fun i _ => l.length - (intOf i).toNat)
    case atStart => exact ⟨0, Nat.zero_le _, rfl, fun j hj => absurd hj (by omega), 0, by simp [World.drewN]⟩
    case round =>
      obtain ⟨k, hk, rfl, hs, n, rfl⟩ := hrel
      have HS := Lib.hid hs
      clear hs
      by_cases hlt : k < l.length
      · obtain ⟨ad, x, rfl, had, c0, c1, c2, c3, _, hxk⟩ := hx.nd hlt
        obtain ⟨bd, y, rfl, hbd, d0, d1, d2, d3, _, hyk⟩ := hy.nd (i := k) (by rw [← HL.out]; exact hlt)
        have hl2 : k + 1 ≤ l.length := by omega
        by_cases hxy : x = y
        · subst hxy
          have hne := eqT_ne x.key
          have hne1 := eqT_ne x.radius
          have hne2 := eqT_ne x.near
          have hne3 := eqT_ne x.far
          go_wp2_with fail
          go_quiet (fail)
          go_wp2_with fail
          go_roundw
          case rel => exact ⟨k + 1, by omega, by go_num, (fun j hj => by
            rcases Nat.lt_succ_iff_lt_or_eq.1 hj with hj | rfl
            · exact HS.out j hj
            · rw [hxk.out, hyk.out]), _, rfl⟩
          case measure => simp [intOf]; omega
        · have hdd := nd_diff hxy
          have hxy := Lib.hid hxy
          rcases hdd with hd | hd | hd | hd
          · have hne0 := bne_of hd
            have hbe := beq_no hd
            go_wp2_with fail
            go_quiet (fail)
            go_wp2_with fail
            go_ret
            exact ⟨ret_bool (same_no hxk hyk hxy.out).symm, (Grow.drewN _ _).trans (Grow.drewN _ _)⟩
          · obtain ⟨q0, hd⟩ := hd
            rw [q0] at c0
            have hne0 := eqT_ne y.key
            have hne1 := bne_of hd
            have hbe := beq_no hd
            clear q0
            go_wp2_with fail
            go_quiet (fail)
            go_wp2_with fail
            go_ret
            exact ⟨ret_bool (same_no hxk hyk hxy.out).symm, (Grow.drewN _ _).trans (Grow.drewN _ _)⟩
          · obtain ⟨q0, q1, hd⟩ := hd
            rw [q0] at c0
            rw [q1] at c1
            have hne0 := eqT_ne y.key
            have hne1 := eqT_ne y.radius
            have hne2 := bne_of hd
            have hbe := beq_no hd
            clear q0 q1
            go_wp2_with fail
            go_quiet (fail)
            go_wp2_with fail
            go_ret
            exact ⟨ret_bool (same_no hxk hyk hxy.out).symm, (Grow.drewN _ _).trans (Grow.drewN _ _)⟩
          · obtain ⟨q0, q1, q2, hd⟩ := hd
            rw [q0] at c0
            rw [q1] at c1
            rw [q2] at c2
            have hne0 := eqT_ne y.key
            have hne1 := eqT_ne y.radius
            have hne2 := eqT_ne y.near
            have hne3 := bne_of hd
            have hbe := beq_no hd
            clear q0 q1 q2
            go_wp2_with fail
            go_quiet (fail)
            go_wp2_with fail
            go_ret
            exact ⟨ret_bool (same_no hxk hyk hxy.out).symm, (Grow.drewN _ _).trans (Grow.drewN _ _)⟩
      · obtain rfl : k = l.length := by omega
        go_wp2_with fail
        go_ret
        exact ⟨ret_bool (same_yes HL.out HS).symm, Grow.drewN _ _⟩
  · have hn := bne_of (show (l.length : Int) ≠ (m.length : Int) by omega)
    have HL := Lib.hid hlm
    clear hlm
    go_enter Try.func50, Try.ntmps50
    go_wp2_with fail
    go_ret
    exact ⟨ret_bool (same_len HL.out).symm, Grow.refl _⟩
end Go.Proofs.Ytebiaodjodlloaa
