/- The contract of the generator of any item. -/
import Derived.Test.YtbbiffaggnllnaaSDraw
import Derived.Test.YtbbiffaggnllnaaPair2
namespace Go.Proofs.Ytbbiffaggnllnaa
set_option linter.unusedVariables false
open Go Go.RowKit

theorem turn_set (w : World) (k i : Nat) (x : Value) : Turn k (k + 1) w (w.setCell ⟨k, i, none⟩ x) :=
  ⟨rfl, rfl, rfl, by simp [World.setCell], fun j hj hh => Below.heap_setCell w ⟨k, i, none⟩ x j (by show j ≠ k; omega)⟩
theorem turn_set3 (w : World) (k : Nat) (x y z : Value) : Turn k (k + 1) w (((w.setCell ⟨k, 0, none⟩ x).setCell ⟨k, 1, none⟩ y).setCell ⟨k, 2, none⟩ z) :=
  Turn.trans (Turn.trans (turn_set w k 0 x) (turn_set _ k 1 y)) (turn_set _ k 2 z)
theorem Asked.out {g lo : Nat} {a b c : World} (h : Asked g a b) (k : Turn lo (lo + 1) b c) (hl : a.heap.size ≤ lo) : Asked g a c :=
  ⟨k.os.trans h.os, k.tape.trans h.tape, k.output.trans h.output, Nat.le_trans h.size k.size, fun j hj hh => (k.block j (Nat.lt_of_lt_of_le hj h.size) (.inl (by omega))).trans (h.block j hj hh)⟩
/-- What a drawn item is. -/
def AnyI (g Q : Nat) (w w' : World) (e : Ending) : Prop := ∃ u x, e = .returned (.agg #[.int .i64 (It.key x), u, .int .i64 x.tags]) ∧ VecI w' w.heap.size w'.heap.size u x.pt ∧ Fits x.key ∧ Fits x.tags ∧ Rdr w' g Q ∧ Asked g w w'
theorem anyItem_end {g Q hi : Nat} {w W : World} {u : Value} {x : It} (hv : VecI W (w.heap.size + 1) hi u x.pt) (f1 : Fits x.key) (f2 : Fits x.tags) (hr : Rdr W g Q) (ha : Asked g w W) (hg : g < w.heap.size) (hs : w.heap.size < W.heap.size) :
    AnyI g Q w (((W.setCell ⟨w.heap.size, 0, none⟩ (.int .i64 x.key)).setCell ⟨w.heap.size, 1, none⟩ u).setCell ⟨w.heap.size, 2, none⟩ (.int .i64 x.tags)) (.returned (.agg #[.int .i64 x.key, u, .int .i64 x.tags])) := by
  have ht := turn_set3 W w.heap.size (.int .i64 x.key) u (.int .i64 x.tags)
  have := hv.top
  have := ht.size
  exact ⟨u, x, rfl, (hv.turn ht (.inr (Nat.le_refl _))).wider (by omega) (by omega) (Nat.le_refl _), f1, f2, hr.turn ht hg, ha.out ht (Nat.le_refl _)⟩

set_option maxHeartbeats 3200000 in
theorem spec_anyItem (g P : Nat) (w : World) (h : Rdr w g P) (hP : P ≤ 60000) :
    Calls Try.prog 123 #[.pointer (some ⟨g, 0, none⟩)] w fun e w' => AnyI g (P + 32) w w' e := by
  have hg := h.lt
  obtain ⟨w0, hw0⟩ : ∃ w0, w0 = w.alloc (.cells #[.int .i64 0, .slice none 0 0, .int .i64 0] 48) := ⟨_, rfl⟩
  have g0 : Grow w w0 := by rw [hw0]; exact (Below.refl _ _).alloc (Nat.le_refl _) _
  have b0 : Blk w0 w.heap.size 48 #[.int .i64 0, .slice none 0 0, .int .i64 0] := by rw [hw0]; exact Blk.new _ _ _
  have e0 : w0.heap.size = w.heap.size + 1 := by rw [hw0]; simp
  have h0 := h.grow g0
  have HW := Lib.hid hw0
  clear hw0
  go_enter Try.func123, Try.ntmps123
  go_wp2_with fail
  rw [← HW.out]
  refine (spec_someItem g P w0 h0 (by omega)).mono ?_
  rintro e w1 ⟨u, x, rfl, o1, hx, r1, k1⟩
  clear HW
  have e1 := k1.size
  have b01 := b0.turn k1 (.inr (by omega))
  have v1 := (o1.vec (Nat.le_refl _)).wider (lo' := w.heap.size + 1) (by omega) (Nat.le_refl _) (Nat.le_refl _)
  have HX := Lib.hid (itemB_iff.1 hx)
  have fx := HX.out
  clear hx o1
  obtain ⟨A1, c1, rfl, _, _, _⟩ := v1.open_
  go_wp2_with fail
  obtain ⟨w2, hw2⟩ : ∃ W, W = w1.alloc (.cells #[.int .i64 x.key, .slice A1 x.pt.length c1, .int .i64 x.tags] 48) := ⟨_, rfl⟩
  have g2 : Grow w1 w2 := by rw [hw2]; exact (Below.refl _ _).alloc (Nat.le_refl _) _
  have b2 : Blk w2 w1.heap.size 48 #[.int .i64 x.key, .slice A1 x.pt.length c1, .int .i64 x.tags] := by rw [hw2]; exact Blk.new _ _ _
  have e2 : w2.heap.size = w1.heap.size + 1 := by rw [hw2]; simp
  have b02 := b01.below g2 (by omega)
  have r2 := r1.grow g2
  have v2 := v1.grow g2
  have ha2 : Asked g w w2 := ((Asked.of_grow g0).trans k1).grow g2
  rw [← hw2]
  clear hw2 b01 r1 v1 b0 h0 h
  refine (reader_pick g (P + 14) _ w2 r2 (by omega) (by omega) (by omega)).mono ?_
  rintro e w3 ⟨a, rfl, a0, _, a1, _, r3, k3⟩
  have e3 := k3.size
  have b3 := b2.turn k3 (.inr (by omega))
  have b03 := b02.turn k3 (.inr (by omega))
  have v3 := v2.turn k3 (.inr (by omega))
  have ha3 := ha2.trans k3
  clear b2 b02 v2 ha2
  by_cases hz0 : a = 0
  · subst hz0
    have o := lit_ri w3 [0, 99, 100] (by decide) (by decide)
    have hgr : Grow w3 (w3.alloc (.cells #[.int .i64 0, .int .i64 99, .int .i64 100] 3)) := (Below.refl _ _).alloc (Nat.le_refl _) _
    go_wp2_with fail
    refine (reader_one _ _ _ _ [0, 99, 100] _ (r3.grow hgr) (by omega) o.ri (fun ad had => by injection had with had; subst had; show w3.heap.size ≠ g; omega) (by simp) (by simp)).mono ?_
    rintro e w4 ⟨k, rfl, hkm, r4, k4⟩
    have hk4 : 0 ≤ k ∧ k ≤ 100 := by simp at hkm; omega
    clear hkm o
    have e4 := k4.size
    have e5 := hgr.size
    have b4 := (b3.below hgr (by omega)).turn k4 (.inr (by omega))
    have b04 := (b03.below hgr (by omega)).turn k4 (.inr (by omega))
    have v4 := (v3.grow hgr).turn k4 (.inr (by omega))
    have ha4 := (ha3.grow hgr).trans k4
    obtain ⟨d0, d1, d2, f0, f1, f2⟩ := cells3 b4 (Grow.refl _)
    obtain ⟨p0, p1, p2, q0, q1, q2⟩ := cells3 b04 (Grow.refl _)
    go_wp2_with fail
    have ht := turn_set w4 w1.heap.size 0 (.int .i64 k)
    have et := ht.size
    refine bodyPost_ret (v := .agg #[.int .i64 k, .slice A1 x.pt.length c1, .int .i64 x.tags]) (by simp [results, Try.results123, go_sem, p0, p1, p2]) rfl ?_
    exact anyItem_end (x := ⟨k, x.pt, x.tags⟩) (v4.turn ht (.inl (by omega))) (by constructor <;> (try simp only []) <;> omega) (by constructor <;> (try simp only []) <;> omega) ((r4.turn ht (by omega)).more (by omega)) (ha4.out ht (by omega)) hg (by omega)
  have z0 : (a == 0) = false := by rw [beq_eq_false_iff_ne]; exact hz0
  by_cases hz1 : a = 1
  · subst hz1
    go_wp2_with fail
    refine (spec_anyVector _ _ _ r3 (by omega)).mono ?_
    rintro e w4 ⟨v, ys, rfl, o4, s4, r4, k4⟩
    have e4 := k4.size
    have b4 := b3.turn k4 (.inr (by omega))
    have b04 := b03.turn k4 (.inr (by omega))
    have v4 := o4.wider (lo' := w1.heap.size + 1) (by omega) (Nat.le_refl _) (Nat.le_refl _)
    have ha4 := ha3.trans k4
    obtain ⟨d0, d1, d2, f0, f1, f2⟩ := cells3 b4 (Grow.refl _)
    obtain ⟨p0, p1, p2, q0, q1, q2⟩ := cells3 b04 (Grow.refl _)
    obtain ⟨A4, c4, rfl, _, _, _⟩ := v4.open_
    go_wp2_with fail
    have ht := turn_set w4 w1.heap.size 1 (.slice A4 ys.length c4)
    have et := ht.size
    refine bodyPost_ret (v := .agg #[.int .i64 x.key, .slice A4 ys.length c4, .int .i64 x.tags]) (by simp [results, Try.results123, go_sem, p0, p1, p2]) rfl ?_
    exact anyItem_end (x := ⟨x.key, ys, x.tags⟩) ((v4.turn ht (.inr (by omega))).wider (by omega) (by omega) (by omega)) (by constructor <;> (try simp only []) <;> omega) (by constructor <;> (try simp only []) <;> omega) ((r4.turn ht (by omega)).more (by omega)) (ha4.out ht (by omega)) hg (by omega)
  have z1 : (a == 1) = false := by rw [beq_eq_false_iff_ne]; exact hz1
  by_cases hz2 : a = 2
  · subst hz2
    have o := lit_ri w3 [-1, 16] (by decide) (by decide)
    have hgr : Grow w3 (w3.alloc (.cells #[.int .i64 (-1), .int .i64 16] 3)) := (Below.refl _ _).alloc (Nat.le_refl _) _
    go_wp2_with fail
    refine (reader_one _ _ _ _ [-1, 16] _ (r3.grow hgr) (by omega) o.ri (fun ad had => by injection had with had; subst had; show w3.heap.size ≠ g; omega) (by simp) (by simp)).mono ?_
    rintro e w4 ⟨k, rfl, hkm, r4, k4⟩
    have hk4 : -1 ≤ k ∧ k ≤ 16 := by simp at hkm; omega
    clear hkm o
    have e4 := k4.size
    have e5 := hgr.size
    have b4 := (b3.below hgr (by omega)).turn k4 (.inr (by omega))
    have b04 := (b03.below hgr (by omega)).turn k4 (.inr (by omega))
    have v4 := (v3.grow hgr).turn k4 (.inr (by omega))
    have ha4 := (ha3.grow hgr).trans k4
    obtain ⟨d0, d1, d2, f0, f1, f2⟩ := cells3 b4 (Grow.refl _)
    obtain ⟨p0, p1, p2, q0, q1, q2⟩ := cells3 b04 (Grow.refl _)
    go_wp2_with fail
    have ht := turn_set w4 w1.heap.size 2 (.int .i64 k)
    have et := ht.size
    refine bodyPost_ret (v := .agg #[.int .i64 x.key, .slice A1 x.pt.length c1, .int .i64 k]) (by simp [results, Try.results123, go_sem, p0, p1, p2]) rfl ?_
    exact anyItem_end (x := ⟨x.key, x.pt, k⟩) (v4.turn ht (.inl (by omega))) (by constructor <;> (try simp only []) <;> omega) (by constructor <;> (try simp only []) <;> omega) ((r4.turn ht (by omega)).more (by omega)) (ha4.out ht (by omega)) hg (by omega)
  · have z2 : (a == 2) = false := by rw [beq_eq_false_iff_ne]; exact hz2
    obtain ⟨d0, d1, d2, f0, f1, f2⟩ := cells3 b3 (Grow.refl _)
    obtain ⟨p0, p1, p2, q0, q1, q2⟩ := cells3 b03 (Grow.refl _)
    go_wp2_with fail
    refine bodyPost_ret (v := .agg #[.int .i64 x.key, .slice A1 x.pt.length c1, .int .i64 x.tags]) (by simp [results, Try.results123, go_sem, p0, p1, p2]) rfl ?_
    exact anyItem_end (x := ⟨x.key, x.pt, x.tags⟩) v3 (by constructor <;> (try simp only []) <;> omega) (by constructor <;> (try simp only []) <;> omega) (r3.more (by omega)) ha3 hg (by omega)
end Go.Proofs.Ytbbiffaggnllnaa
