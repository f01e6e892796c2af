/- The contracts of the functions that look for a key: the place of an item, and the item itself. -/
import Derived.Test.YtebiaodjodlloaaStore
namespace Go.Proofs.Ytebiaodjodlloaa
set_option linter.unusedVariables false
open Go Go.RowKit

theorem isK_iff {k : Int} {x : It} : isK k x = decide (x.key = k) := by unfold isK; rw [Bool.beq_eq_decide_eq]
theorem impl_isKey (x : It) (u : Value) (k : Int) (B : Nat) (w : World) (hB : B < w.heap.size) (hc : w.cell? ⟨B, 0, none⟩ = some (.int .i64 k)) :
    Calls Try.prog 83 #[.agg #[.int .i64 x.key, u, .int .i64 x.tags], .pointer (some ⟨B, 0, none⟩)] w fun e w' => e = .returned (.bool (x.key == k)) ∧ Grow w w' := by
  have hne : B ≠ w.heap.size := by omega
  go_enter Try.func83, Try.ntmps83
  go_wp2
  go_ret
  exact ⟨rfl, (Below.refl _ _).alloc (Nat.le_refl _) _⟩

/-- No item so far has the key. -/
def NoK (l : List It) (k : Int) (n : Nat) : Prop := ∀ j, j < n → (itI l j).key ≠ k
theorem NoK.zero {l : List It} {k : Int} : NoK l k 0 := fun j hj => absurd hj (by omega)
theorem NoK.succ {l : List It} {k : Int} {n : Nat} {x : It} (h : NoK l k n) (hx : l[n]? = some x) (hk : ¬ x.key = k) : NoK l k (n + 1) := fun j hj => by
  rcases Nat.lt_succ_iff_lt_or_eq.1 hj with hj | rfl
  · exact h j hj
  · rw [itI_of hx]; exact hk
theorem NoK.all {l : List It} {k : Int} (h : NoK l k l.length) : hasK l k = false := hasK_no fun x hx => by
  obtain ⟨i, hi⟩ := List.getElem?_of_mem hx
  have := h i (List.getElem?_eq_some_iff.1 hi).1
  rwa [itI_of hi] at this
/-- The place of the first item with the key. -/
def AtK (l : List It) (k : Int) (i : Int) : Prop := (hasK l k = false ∧ i = -1) ∨ (hasK l k = true ∧ ∃ n : Nat, i = n ∧ n < l.length ∧ (itI l n).key = k ∧ l.find? (isK k) = some (itI l n))
theorem AtK.none_ {l : List It} {k : Int} (h : hasK l k = false) : AtK l k (-1) := .inl ⟨h, rfl⟩
theorem AtK.hit {l : List It} {k : Int} {n : Nat} {x : It} (h : NoK l k n) (hx : l[n]? = some x) (hk : x.key = k) : AtK l k n := by
  have hn := (List.getElem?_eq_some_iff.1 hx).1
  have hi : itI l n = x := itI_of hx
  refine .inr ⟨hasK_iff.2 ⟨x, List.mem_of_getElem? hx, hk⟩, n, rfl, hn, by rw [hi]; exact hk, ?_⟩
  rw [hi, List.find?_eq_some_iff_getElem]
  refine ⟨by rw [isK_iff]; exact decide_eq_true hk, n, hn, (List.getElem?_eq_some_iff.1 hx).2, fun j hj => ?_⟩
  have := h j hj
  rw [itI_of (List.getElem?_eq_getElem (show j < l.length by omega))] at this
  rw [isK_iff]; simpa using this

set_option maxHeartbeats 800000 in
theorem slices_IndexFunc (A : Option Addr) (c : Nat) (l : List It) (k : Int) (B : Nat) (w : World) (h : RS w w.heap.size A l) (hB : B < w.heap.size) (hc : w.cell? ⟨B, 0, none⟩ = some (.int .i64 k)) :
    Calls Try.prog 82 #[.slice A l.length c, .func (.func 83) #[] #[.pointer (some ⟨B, 0, none⟩)]] w fun e w' => ∃ i, e = .returned (.int .i64 i) ∧ AtK l k i ∧ Grow w w' := by
  have hl := h.len
  go_enter Try.func82, Try.ntmps82
  go_wp2_with fail
  go_loopw [5, 8] (fun _ i wr => ∃ n : Nat, n ≤ l.length ∧ i = .int .i64 n ∧ NoK l k n ∧ Below w.heap.size w wr) (fun _ i _ => l.length - (intOf i).toNat)
  case atStart => exact ⟨0, Nat.zero_le _, rfl, NoK.zero, Below.refl _ _⟩
  case round =>
    obtain ⟨n, hn, rfl, hno, hb⟩ := hrel
    have HN := Lib.hid hno
    clear hno
    by_cases hlt : n < l.length
    · obtain ⟨ad, Ak, ck, x, rfl, had, c0, c1, c2, hc1, hc2, hri, hf, hg, hx⟩ := (h.keep hb).at_ hlt
      have hl2 : n + 1 ≤ l.length := by omega
      have hsz := hb.size
      have hcell : wr.cell? ⟨B, 0, none⟩ = some (.int .i64 k) := (hb.cell hB).trans hc
      by_cases hk : x.key = k
      · have ht : (x.key == k) = true := by rw [hk]; exact beq_self_eq_true k
        have HA := Lib.hid (AtK.hit HN.out hx.out hk)
        clear hk
        go_wp2_with (go_at_call 83; refine (impl_isKey x _ k B _ (by omega) hcell).mono ?_; rintro e w2 ⟨he, g2⟩; rw [ht] at he; subst he)
        go_ret
        exact ⟨n, rfl, HA.out, below_grow hb g2 hsz⟩
      · have ht : (x.key == k) = false := by rw [beq_eq_false_iff_ne]; exact hk
        have HA := Lib.hid (HN.out.succ hx.out hk)
        clear hk
        go_wp2_with (go_at_call 83; refine (impl_isKey x _ k B _ (by omega) hcell).mono ?_; rintro e w2 ⟨he, g2⟩; rw [ht] at he; subst he)
        go_roundw
        case rel => exact ⟨n + 1, by omega, by go_num, HA.out, below_grow hb g2 hsz⟩
        case measure => simp [intOf]; omega
    · obtain rfl : n = l.length := by omega
      go_wp2
      go_ret
      exact ⟨-1, rfl, AtK.none_ HN.out.all, hb⟩

theorem impl_indexOf (A : Option Addr) (c : Nat) (l : List It) (k : Int) (w : World) (h : RS w w.heap.size A l) :
    Calls Try.prog 64 #[.slice A l.length c, .int .i64 k] w fun e w' => ∃ i, e = .returned (.int .i64 i) ∧ AtK l k i ∧ Grow w w' := by
  have g0 : Grow w (w.alloc (.cells #[.int .i64 k] 3)) := (Below.refl _ _).alloc (Nat.le_refl _) _
  have hc := (Blk.new w 3 #[.int .i64 k]).cell 0
  have h0 := h.grow g0
  have hB : w.heap.size < (w.alloc (.cells #[.int .i64 k] 3)).heap.size := by simp
  go_enter Try.func64, Try.ntmps64
  go_wp2_with fail
  refine (slices_IndexFunc _ _ _ k _ _ h0 hB hc).mono ?_; rintro e w2 ⟨i, rfl, hi, g2⟩
  have HI := Lib.hid hi
  clear hi
  go_wp2_with fail
  go_ret
  exact ⟨i, rfl, HI.out, g0.trans g2⟩

set_option maxHeartbeats 800000 in
theorem spec_keyAt (A : Option Addr) (c : Nat) (l : List It) (k : Int) (w : World) (h : RS w w.heap.size A l) :
    Calls Try.prog 99 #[.slice A l.length c, .int .i64 k] w fun e w' => ∃ i, e = .returned (.int .i64 i) ∧ AtK l k i ∧ Grow w w' := by
  have hl := h.len
  go_enter Try.func99, Try.ntmps99
  go_wp2_with fail
  go_loopw [5] (fun i wr => ∃ n m : Nat, n ≤ l.length ∧ i = .int .i64 n ∧ NoK l k n ∧ wr = w.drewN m) (fun i _ => l.length - (intOf i).toNat)
  case atStart => exact ⟨0, 0, Nat.zero_le _, rfl, NoK.zero, by simp [World.drewN]⟩
  case round =>
    obtain ⟨n, m, hn, rfl, hno, rfl⟩ := hrel
    have HN := Lib.hid hno
    clear hno
    by_cases hlt : n < l.length
    · obtain ⟨ad, Ak, ck, x, rfl, had, c0, c1, c2, hc1, hc2, hri, hf, hg, hx⟩ := h.at_ hlt
      have hl2 : n + 1 ≤ l.length := by omega
      by_cases hk : x.key = k
      · have ht : (x.key == k) = true := by rw [hk]; exact beq_self_eq_true k
        have HA := Lib.hid (AtK.hit HN.out hx.out hk)
        clear hk
        go_wp2_with fail
        go_ret
        exact ⟨n, rfl, HA.out, Grow.drewN _ _⟩
      · have ht : (x.key == k) = false := by rw [beq_eq_false_iff_ne]; exact hk
        have HA := Lib.hid (HN.out.succ hx.out hk)
        clear hk
        go_wp2_with fail
        go_roundw
        case rel => exact ⟨n + 1, m, by omega, by go_num, HA.out, rfl⟩
        case measure => simp [intOf]; omega
    · obtain rfl : n = l.length := by omega
      go_wp2
      go_ret
      exact ⟨-1, rfl, AtK.none_ HN.out.all, Grow.drewN _ _⟩
end Go.Proofs.Ytebiaodjodlloaa
