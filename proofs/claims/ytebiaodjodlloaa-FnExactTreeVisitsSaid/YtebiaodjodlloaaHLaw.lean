/- The contracts of the laws' helpers on hits: comparing, keys, marks. -/
import Derived.Test.YtebiaodjodlloaaHit
import Derived.Test.YtebiaodjodlloaaSLaw
import Derived.Test.YtebiaodjodlloaaFrom
namespace Go.Proofs.Ytebiaodjodlloaa
set_option linter.unusedVariables false
open Go Go.RowKit

theorem OwnK.ri {α : Type} {p : Pod α} {w : World} {lo hi n c : Nat} {A : Option Addr} {l : List α} (h : OwnK p w lo hi (.slice A n c) l) : RK p w w.heap.size A l := h.rk
theorem same_at {α : Type} {l : List α} {k : Nat} {x y : α} (hx : Hid (l[k]? = some x)) (hy : Hid (l[k]? = some y)) : y = x := by
  have a := hx.out; rw [hy.out] at a; injection a
set_option maxRecDepth 20000 in
theorem laws_eqHit_same (x : Ht) (w : World) :
    Calls Try.prog 61 #[.agg #[.int .i64 x.key, .int .i64 x.dist], .agg #[.int .i64 x.key, .int .i64 x.dist]] w fun e w' => e = .returned (.bool true) ∧ Grow w w' := by
  obtain ⟨k, t⟩ := x
  have hk := eqT_ne k
  have ht := eqT_ne t
  have g2 : Grow w ((w.alloc (.cells #[.int .i64 k, .int .i64 t] 78)).alloc (.cells #[.int .i64 k, .int .i64 t] 78)) := ((Below.refl _ _).alloc (Nat.le_refl _) _).alloc (by simp) _
  simp only
  go_enter Try.func61, Try.ntmps61
  go_wp2_with fail
  go_ret
  exact ⟨rfl, g2⟩
set_option maxRecDepth 20000 in
set_option maxHeartbeats 1600000 in
theorem laws_eqHitS_same (A B : Option Addr) (c d : Nat) (l : List Ht) (w : World) (hx : RK hitP w w.heap.size A l) (hy : RK hitP w w.heap.size B l) :
    Calls Try.prog 32 #[.slice A l.length c, .slice B l.length d] w fun e w' => e = .returned (.bool true) ∧ Grow w w' := by
  have hl := hx.len
  have hn := eqT_ne (l.length : Int)
  go_enter Try.func32, Try.ntmps32
  go_wp2_with fail
  go_loopw [5] (fun i wr => ∃ k : Nat, k ≤ l.length ∧ i = .int .i64 k ∧ Grow w wr) (fun i _ => l.length - (intOf i).toNat)
  case atStart => exact ⟨0, Nat.zero_le _, rfl, Grow.refl _⟩
  case round =>
    obtain ⟨k, hk, rfl, hg⟩ := hrel
    by_cases hlt : k < l.length
    · obtain ⟨ad, x, rfl, had, c0, c1, _, _, hxk⟩ := (hx.grow hg).hit hlt
      obtain ⟨bd, y, rfl, hbd, d0, d1, _, _, hyk⟩ := (hy.grow hg).hit hlt
      obtain rfl := same_at hxk hyk
      have hba : (ad.add (k * 2)).block = ad.block := block_of_add _ _
      have hbb : (bd.add (k * 2)).block = bd.block := block_of_add _ _
      have e0 : ∀ s : From wr, s.w.cell? (ad.add (k * 2)) = some (.int .i64 y.key) := fun s => (s.cell (by rw [hba]; exact had)).trans c0
      have e1 : ∀ s : From wr, s.w.cell? ⟨(ad.add (k * 2)).block, (ad.add (k * 2)).off + 1, none⟩ = some (.int .i64 y.dist) := fun s => (s.cell (by rw [hba]; exact had)).trans c1
      have f0 : ∀ s : From wr, s.w.cell? (bd.add (k * 2)) = some (.int .i64 y.key) := fun s => (s.cell (by rw [hbb]; exact hbd)).trans d0
      have f1 : ∀ s : From wr, s.w.cell? ⟨(bd.add (k * 2)).block, (bd.add (k * 2)).off + 1, none⟩ = some (.int .i64 y.dist) := fun s => (s.cell (by rw [hbb]; exact hbd)).trans d1
      have HC := fun s : From wr => From.call (laws_eqHit_same y s.w)
      have hl2 : k + 1 ≤ l.length := by omega
      clear hba hbb c0 c1 d0 d1
      go_wp2_with fail
      refine wp_region_from (by kernel_rfl) (by kernel_rfl) ?_
      repeat (go_big_quiet_step (exact HC _))
      refine wpQuiet_nil ?_
      intro w2 g2
      go_wp2_with fail
      go_roundw
      case rel => exact ⟨k + 1, by omega, by go_num, hg.trans g2⟩
      case measure => simp [intOf]; omega
    · obtain rfl : k = l.length := by omega
      go_wp2
      go_ret
      exact ⟨rfl, hg⟩
def markHI (k : Int) (i : Nat) : Ht := ⟨k + 2 * i, k + 2 * i + 1⟩
def markH (k : Int) (n : Nat) : List Ht := (List.range n).map (markHI k)
def markHTo (k : Int) (l : List Ht) (j : Nat) : List Ht := markH k j ++ l.drop j
theorem markH_len (k : Int) (n : Nat) : (markH k n).length = n := by simp [markH]
theorem markHTo_len (k : Int) (l : List Ht) {j : Nat} (h : j ≤ l.length) : (markHTo k l j).length = l.length := by simp [markHTo, markH_len]; omega
theorem markHTo_set (k : Int) (l : List Ht) {j : Nat} (h : j < l.length) : (markHTo k l j).set j (markHI k j) = markHTo k l (j + 1) := by
  unfold markHTo
  rw [List.set_append_right _ _ (by rw [markH_len]; omega), markH_len, Nat.sub_self, List.drop_eq_getElem_cons h, List.set_cons_zero]
  have : markH k (j + 1) = markH k j ++ [markHI k j] := by simp [markH, List.range_succ]
  rw [this, List.append_assoc]; rfl
theorem markHTo_end (k : Int) (l : List Ht) : markHTo k l l.length = markH k l.length := by simp [markHTo]
set_option maxRecDepth 20000 in
set_option maxHeartbeats 1600000 in
theorem laws_markHitS (A : Option Addr) (c : Nat) (l : List Ht) (k : Int) (w : World) (lo hi : Nat) (h : OwnK hitP w lo hi (.slice A l.length c) l) (hk : 0 ≤ k) (hk2 : k ≤ 1000000000000000) :
    Calls Try.prog 35 #[.slice A l.length c, .int .i64 k] w fun e w' => e = .returned (.int .i64 (k + 2 * l.length)) ∧ OwnK hitP w' lo hi (.slice A l.length c) (markH k l.length) ∧ Turn lo hi w w' := by
  have hl := h.len
  have hm0 : markHTo k l 0 = l := by simp [markHTo, markH]
  go_enter Try.func35, Try.ntmps35
  go_wp2_with fail
  go_loopw [1, 5] (fun q i wr => ∃ j : Nat, j ≤ l.length ∧ i = .int .i64 j ∧ q = .int .i64 (k + 2 * j) ∧ OwnK hitP wr lo hi (.slice A l.length c) (markHTo k l j) ∧ Turn lo hi w wr) (fun _ i _ => l.length - (intOf i).toNat)
  case atStart => exact ⟨0, Nat.zero_le _, rfl, by simp, by rw [hm0]; exact h, Turn.refl _ _ _⟩
  case round =>
    obtain ⟨j, hj, rfl, rfl, ho, ht⟩ := hrel
    clear hm0
    by_cases hlt : j < l.length
    · have hml := markHTo_len k l hj
      obtain ⟨g, rfl, _, hg1, hg2, hg3⟩ := ho.form (by omega)
      obtain ⟨y, hy⟩ : ∃ y, (markHTo k l j)[j]? = some y := ⟨_, List.getElem?_eq_getElem (by omega)⟩
      have o1 := ho.set_ (i := j) (j := 0) (x := y) (y := ⟨k + 2 * j, y.dist⟩) (z := k + 2 * j) hml.symm hy (by show 0 < 2; omega) rfl ⟨by omega, by omega⟩
      have hL1 : ((markHTo k l j).set j (⟨k + 2 * j, y.dist⟩ : Ht))[j]? = some ⟨k + 2 * j, y.dist⟩ := by rw [List.getElem?_set_self (by omega)]
      have hl1 : ((markHTo k l j).set j (⟨k + 2 * j, y.dist⟩ : Ht)).length = l.length := by rw [List.length_set, hml]
      have o2 := o1.set_ (i := j) (j := 1) (x := ⟨k + 2 * j, y.dist⟩) (y := markHI k j) (z := k + 2 * j + 1) hl1.symm hL1 (by show 1 < 2; omega) rfl ⟨by omega, by omega⟩
      rw [List.set_set, markHTo_set k l hlt] at o2
      have m0 := ho.cellAt (j := 0) hml.symm hy rfl
      have f0 := ho.frozenAt (j * 2) hml.symm
      have m1 := o1.cellAt (j := 1) hl1.symm hL1 rfl
      have f1 := o1.frozenAt (j * 2 + 1) hl1.symm
      have ht2 : Turn lo hi w ((wr.setCell ⟨g, j * 2, none⟩ (.int .i64 (k + 2 * j))).setCell ⟨g, j * 2 + 1, none⟩ (.int .i64 (k + 2 * j + 1))) :=
        ht.trans (((turn_at _ g _ _).trans (turn_at _ g _ _)).wider hg1 hg2)
      simp only [hitP, Nat.add_zero] at m0 m1 f0 f1 o2
      clear hml hy ho ht o1 hL1 hl1
      go_wp2_with fail
      go_roundw
      case rel => exact ⟨j + 1, by omega, by go_num, by rw [show k + 2 * ((j + 1 : Nat) : Int) = k + 2 * j + 1 + 1 by omega], o2, ht2⟩
      case measure => simp [intOf]; omega
    · obtain rfl : j = l.length := by omega
      rw [markHTo_end] at ho
      go_wp2_with fail
      go_ret
      exact ⟨rfl, ho, ht⟩
set_option maxRecDepth 20000 in
set_option maxHeartbeats 1600000 in
theorem laws_heldHitS (A : Option Addr) (c n : Nat) (k : Int) (w : World) (h : RK hitP w w.heap.size A (markH k n)) (hk : 0 ≤ k) (hk2 : k ≤ 1000000000000000) :
    Calls Try.prog 36 #[.slice A n c, .int .i64 k] w fun e w' => e = .returned (.int .i64 (k + 2 * n)) ∧ w = w' := by
  have hl := h.len
  have hn : (markH k n).length = n := markH_len k n
  rw [hn] at hl
  have HN := Lib.hid hn
  clear hn
  go_enter Try.func36, Try.ntmps36
  go_wp2_with fail
  go_loop [1, 5] (fun q i => ∃ j : Nat, j ≤ n ∧ i = .int .i64 j ∧ q = .int .i64 (k + 2 * j)) (fun _ i => n - (intOf i).toNat)
  case atStart => exact ⟨0, Nat.zero_le _, rfl, by simp⟩
  case round =>
    obtain ⟨j, hj, rfl, rfl⟩ := hrel
    by_cases hlt : j < n
    · obtain ⟨ad, x, rfl, _, c0, c1, _, _, hx⟩ := h.hit (i := j) (by rw [HN.out]; exact hlt)
      have ex : x = markHI k j := by
        have := hx.out
        simp [markH, hlt] at this
        exact this.symm
      subst ex
      have hne := eqT_ne (k + 2 * (j : Int))
      have hne2 := eqT_ne (k + 2 * (j : Int) + 1)
      simp only [markHI] at c0 c1
      go_wp2_with fail
      go_round
      case rel => exact ⟨j + 1, by omega, by go_num, by rw [show k + 2 * ((j + 1 : Nat) : Int) = k + 2 * j + 1 + 1 by omega]⟩
      case measure => simp [intOf]; omega
    · obtain rfl : j = n := by omega
      go_wp2_with fail
      go_ret
      exact ⟨rfl, rfl⟩
end Go.Proofs.Ytebiaodjodlloaa
