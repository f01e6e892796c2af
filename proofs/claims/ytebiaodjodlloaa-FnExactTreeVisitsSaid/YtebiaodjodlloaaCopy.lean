/- The contracts of the functions that copy, put and drop items, in both texts. -/
import Derived.Test.YtebiaodjodlloaaStore
namespace Go.Proofs.Ytebiaodjodlloaa
set_option linter.unusedVariables false
open Go Go.RowKit

/-- A result of three cells is written: what lies elsewhere stays. -/
theorem three_set {w w0 w1 : World} (g0 : Grow w w0) (g1 : Grow w0 w1) {b : Nat} (hb : w.heap.size ≤ b) (hb2 : b < w0.heap.size) (x y z : Value) :
    Grow w (((w1.setCell ⟨b, 0, none⟩ x).setCell ⟨b, 1, none⟩ y).setCell ⟨b, 2, none⟩ z) ∧ Turn w.heap.size w0.heap.size w1 (((w1.setCell ⟨b, 0, none⟩ x).setCell ⟨b, 1, none⟩ y).setCell ⟨b, 2, none⟩ z) ∧
      (((w1.setCell ⟨b, 0, none⟩ x).setCell ⟨b, 1, none⟩ y).setCell ⟨b, 2, none⟩ z).heap.size = w1.heap.size :=
  ⟨(((Grow.trans g0 g1).setCell (p := ⟨b, 0, none⟩) hb x).setCell (p := ⟨b, 1, none⟩) hb y).setCell (p := ⟨b, 2, none⟩) hb z,
    ((((Turn.refl _ _ w1).setCell (p := ⟨b, 0, none⟩) hb hb2 x).setCell (p := ⟨b, 1, none⟩) hb hb2 y).setCell (p := ⟨b, 2, none⟩) hb hb2 z), by simp [World.setCell]⟩
theorem three_own {w w0 w1 : World} (g0 : Grow w w0) (g1 : Grow w0 w1) {b : Nat} (hb : w.heap.size ≤ b) (hb2 : b < w0.heap.size) (x y z : Value) {u : Value} {xs : List Int} (o : OwnI w1 w0.heap.size w1.heap.size u xs) :
    OwnI (((w1.setCell ⟨b, 0, none⟩ x).setCell ⟨b, 1, none⟩ y).setCell ⟨b, 2, none⟩ z) w.heap.size (((w1.setCell ⟨b, 0, none⟩ x).setCell ⟨b, 1, none⟩ y).setCell ⟨b, 2, none⟩ z).heap.size u xs := by
  obtain ⟨_, ht, hs⟩ := three_set g0 g1 hb hb2 x y z
  exact (o.turn ht (.inr (Nat.le_refl _))).lower g0.size (by rw [hs]; exact Nat.le_refl _)

set_option maxHeartbeats 800000 in
theorem spec_copyItem (x : It) (A : Option Addr) (c : Nat) (w : World) (h : RI w w.heap.size A x.pt) :
    Calls Try.prog 136 #[.agg #[.int .i64 x.key, .slice A x.pt.length c, .int .i64 x.tags]] w fun e w' => ∃ u, e = .returned (.agg #[.int .i64 x.key, u, .int .i64 x.tags]) ∧ OwnI w' w.heap.size w'.heap.size u x.pt ∧ Grow w w' := by
  obtain ⟨k, xs, t⟩ := x
  simp only at h ⊢
  obtain ⟨w0, hw0⟩ : ∃ w0, w0 = (w.alloc (.cells #[.int .i64 k, .slice A xs.length c, .int .i64 t] 43)).alloc (.cells #[.int .i64 0, .slice none 0 0, .int .i64 0] 43) := ⟨_, rfl⟩
  have s0 : w0.heap.size = w.heap.size + 2 := by rw [hw0]; simp
  have g0 : Grow w w0 := by rw [hw0]; exact ((Below.refl _ _).alloc (Nat.le_refl _) _).alloc (by simp) _
  have b0 : Blk w0 w.heap.size 43 #[.int .i64 k, .slice A xs.length c, .int .i64 t] := by rw [hw0]; exact (Blk.new w _ _).alloc _
  have b1 : Blk w0 (w.heap.size + 1) 43 #[.int .i64 0, .slice none 0 0, .int .i64 0] := by
    rw [hw0]; have := Blk.new (w.alloc (.cells #[.int .i64 k, .slice A xs.length c, .int .i64 t] 43)) 43 #[.int .i64 0, .slice none 0 0, .int .i64 0]; simpa using this
  have hr := h.grow g0
  obtain ⟨c0, c1, c2, d0, d1, d2, f1, e0, e1, e2⟩ := cells_kept b0 b1 (Grow.refl w0)
  have HW := Lib.hid hw0
  have S0 := Lib.hid s0
  clear hw0 s0
  go_enter Try.func136, Try.ntmps136
  go_wp2_with fail
  rw [← HW.out]
  go_region_held3 (fun w' => w'.cell? ⟨w.heap.size, 0, none⟩ = some (.int .i64 k) ∧ w'.cell? ⟨w.heap.size, 1, none⟩ = some (.slice A xs.length c) ∧ w'.cell? ⟨w.heap.size, 2, none⟩ = some (.int .i64 t))
    (first
      | go_keep
      | (exact ⟨c0', c1', c2'⟩))
    ((go_at_call 126; refine (spec_copyInts _ _ _ _ (hr.grow (Grow.drew _))).mono ?_; rintro e w1 ⟨u, rfl, o1, g1⟩; obtain ⟨c0', c1', c2', d0', d1', d2', f1', e0', e1', e2'⟩ := cells_kept b0 b1 ((Grow.drew _).trans g1); obtain ⟨Au, cu, rfl, _, _, _⟩ := o1.open_))
  go_wp2
  have g1' : Grow w0 w1 := (Grow.drew w0).trans g1
  have hs := S0.out
  exact bodyPost_ret (v := .agg #[.int .i64 k, .slice Au xs.length cu, .int .i64 t]) (by simp [results, Try.results136, go_sem, d0', d1', d2']) rfl
    ⟨_, rfl, three_own g0 g1' (Nat.le_succ _) (by omega) _ _ _ o1, (three_set g0 g1' (Nat.le_succ _) (by omega) _ _ _).1⟩
end Go.Proofs.Ytebiaodjodlloaa
