/- The contracts of the generator of drawn stores: what it draws is some slice of items. -/
import Derived.Test.YtbbiffaggnllnaaPut2
import Derived.Test.YtbbiffaggnllnaaSAid
import Derived.Test.YtbbiffaggnllnaaGet
import Derived.Test.YtbbiffaggnllnaaBox
import Derived.Test.YtbbiffaggnllnaaDraw
namespace Go.Proofs.Ytbbiffaggnllnaa
set_option linter.unusedVariables false
open Go Go.RowKit

theorem Rdr.asked_alloc {w w1 : World} {g P : Nat} (h : Rdr w g P) (k : Grow w w1) : Rdr w1 g P := h.grow k
theorem set3_below {B : Nat} {w0 w : World} {k : Nat} (h : Below B w0 w) (hk : B ≤ k) (x y z : Value) : Below B w0 (((w.setCell ⟨k, 0, none⟩ x).setCell ⟨k, 1, none⟩ y).setCell ⟨k, 2, none⟩ z) :=
  ((h.setCell (p := ⟨k, 0, none⟩) hk x).setCell (p := ⟨k, 1, none⟩) hk y).setCell (p := ⟨k, 2, none⟩) hk z
theorem OwnI.far3 {w : World} {lo hi k : Nat} {u : Value} {xs : List Int} (o : OwnI w lo hi u xs) (h : k < lo ∨ hi ≤ k) (x y z : Value) : OwnI (((w.setCell ⟨k, 0, none⟩ x).setCell ⟨k, 1, none⟩ y).setCell ⟨k, 2, none⟩ z) lo hi u xs :=
  ((o.far_set h).far_set h).far_set h
theorem size_set3 (w : World) (k : Nat) (x y z : Value) : (((w.setCell ⟨k, 0, none⟩ x).setCell ⟨k, 1, none⟩ y).setCell ⟨k, 2, none⟩ z).heap.size = w.heap.size := by simp [World.setCell]

set_option maxHeartbeats 1600000 in
theorem spec_someItem (g P : Nat) (w : World) (h : Rdr w g P) (hP : P ≤ 70000) :
    Calls Try.prog 144 #[.pointer (some ⟨g, 0, none⟩)] w fun e w' => ∃ u x, e = .returned (.agg #[.int .i64 (It.key x), u, .int .i64 x.tags]) ∧ OwnI w' w.heap.size w'.heap.size u x.pt ∧ itemB x = true ∧ Rdr w' g (P + 14) ∧ Asked g w w' := by
  have hg := h.lt
  obtain ⟨w0, hw0⟩ : ∃ w0, w0 = w.alloc (.cells #[.int .i64 0, .slice none 0 0, .int .i64 0] 48) := ⟨_, rfl⟩
  have g0 : Grow w w0 := by rw [hw0]; exact (Below.refl _ _).alloc (Nat.le_refl _) _
  have b0 : Blk w0 w.heap.size 48 #[.int .i64 0, .slice none 0 0, .int .i64 0] := by rw [hw0]; exact Blk.new _ _ _
  have s0 := b0.lt
  have h0 := h.grow g0
  have HW := Lib.hid hw0
  clear hw0
  go_enter Try.func144, Try.ntmps144
  go_wp2_with fail
  rw [← HW.out]
  refine (reader_pick g P _ w0 h0 (by omega) (by omega) (by omega)).mono ?_
  rintro e w1 ⟨a, rfl, a0, _, a1, _, r1, k1⟩
  have a1 := a1 (by omega)
  clear HW
  go_wp2_with fail
  refine (spec_someVector g (P + 1) w1 r1 (by omega)).mono ?_
  rintro e w2 ⟨v2, xs, rfl, o2, hv, r2, k2⟩
  obtain ⟨A2, c2, rfl, _, _, _⟩ := o2.open_
  go_wp2_with fail
  refine (reader_pick g (P + 1 + 12) _ w2 r2 (by omega) (by omega) (by omega)).mono ?_
  rintro e w3 ⟨t, rfl, t0, _, t1, _, r3, k3⟩
  have t1 := t1 (by omega)
  have e1 := k1.size
  have e2 := k2.size
  have e3 := k3.size
  have b3 := ((b0.turn k1 (.inr (by omega))).turn k2 (.inr (by omega))).turn k3 (.inr (by omega))
  obtain ⟨d0, d1, d2, f0, f1, f2⟩ := cells3 b3 (Grow.refl _)
  have o3 := o2.turn k3 (.inr (by omega))
  have HV := Lib.hid hv
  clear hv b0 o2
  go_wp2_with fail
  have hx : itemB ⟨1 + a, xs, t⟩ = true := itemB_iff.2 ⟨⟨by show 1 ≤ 1 + a; omega, by show 1 + a ≤ 99; omega⟩, HV.out, ⟨t0, by show t ≤ 15; omega⟩⟩
  have hbB : Below w.heap.size w3 (((w3.setCell ⟨w.heap.size, 0, none⟩ (.int .i64 (1 + a))).setCell ⟨w.heap.size, 1, none⟩ (.slice A2 xs.length c2)).setCell ⟨w.heap.size, 2, none⟩ (.int .i64 t)) := set3_below (Below.refl _ _) (Nat.le_refl _) _ _ _
  refine bodyPost_ret (v := .agg #[.int .i64 (1 + a), .slice A2 xs.length c2, .int .i64 t]) (by simp [results, Try.results144, go_sem, d0, d1, d2]) rfl
    ⟨.slice A2 xs.length c2, ⟨1 + a, xs, t⟩, rfl, ?_, hx, (r3.below hbB hg).more (by omega), (((Asked.of_grow g0).trans (k1.trans (k2.trans k3))).below hbB (Nat.le_refl _))⟩
  exact ((o3.far3 (k := w.heap.size) (by omega) _ _ _)).lower (by omega) (by rw [size_set3]; omega)
end Go.Proofs.Ytbbiffaggnllnaa
