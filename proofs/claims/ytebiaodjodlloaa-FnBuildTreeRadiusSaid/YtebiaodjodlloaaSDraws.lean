/- The contracts of the generator of drawn stores: what it draws is some slice of items. The contract of the generator of any item. The contracts of the generators of some store and of any store. The contracts of the generators of any store, and of some key. The contracts of the generators of the arguments of the laws on stores. The contract of the generator of the arguments of PutItem. The contracts of the generators of the arguments of the laws on nearest items, boxes and trees. -/
import Derived.Test.YtebiaodjodlloaaPut2
import Derived.Test.YtebiaodjodlloaaSAid
import Derived.Test.YtebiaodjodlloaaGet
import Derived.Test.YtebiaodjodlloaaBox
import Derived.Test.YtebiaodjodlloaaDraw
import Derived.Test.YtebiaodjodlloaaPair2
import Derived.Test.YtebiaodjodlloaaDrawR
namespace Go.Proofs.Ytebiaodjodlloaa
set_option linter.unusedVariables false
open Go Go.RowKit

theorem Rdr.asked_alloc {w w1 : World} {g P : Nat} (h : Rdr w g P) (k : Grow w w1) : Rdr w1 g P := h.grow k
theorem set3_below {B : Nat} {w0 w : World} {k : Nat} (h : Below B w0 w) (hk : B ≤ k) (x y z : Value) : Below B w0 (((w.setCell ⟨k, 0, none⟩ x).setCell ⟨k, 1, none⟩ y).setCell ⟨k, 2, none⟩ z) :=
  ((h.setCell (p := ⟨k, 0, none⟩) hk x).setCell (p := ⟨k, 1, none⟩) hk y).setCell (p := ⟨k, 2, none⟩) hk z
theorem OwnI.far3 {w : World} {lo hi k : Nat} {u : Value} {xs : List Int} (o : OwnI w lo hi u xs) (h : k < lo ∨ hi ≤ k) (x y z : Value) : OwnI (((w.setCell ⟨k, 0, none⟩ x).setCell ⟨k, 1, none⟩ y).setCell ⟨k, 2, none⟩ z) lo hi u xs :=
  ((o.far_set h).far_set h).far_set h
theorem size_set3 (w : World) (k : Nat) (x y z : Value) : (((w.setCell ⟨k, 0, none⟩ x).setCell ⟨k, 1, none⟩ y).setCell ⟨k, 2, none⟩ z).heap.size = w.heap.size := by simp [World.setCell]

set_option maxHeartbeats 1600000 in
theorem spec_someItem (g P : Nat) (w : World) (h : Rdr w g P) (hP : P ≤ 70000) :
    Calls Try.prog 104 #[.pointer (some ⟨g, 0, none⟩)] w fun e w' => ∃ u x, e = .returned (.agg #[.int .i64 (It.key x), u, .int .i64 x.tags]) ∧ OwnI w' w.heap.size w'.heap.size u x.pt ∧ itemB x = true ∧ Rdr w' g (P + 14) ∧ Asked g w w' := by
  have hg := h.lt
  obtain ⟨w0, hw0⟩ : ∃ w0, w0 = w.alloc (.cells #[.int .i64 0, .slice none 0 0, .int .i64 0] 43) := ⟨_, rfl⟩
  have g0 : Grow w w0 := by rw [hw0]; exact (Below.refl _ _).alloc (Nat.le_refl _) _
  have b0 : Blk w0 w.heap.size 43 #[.int .i64 0, .slice none 0 0, .int .i64 0] := by rw [hw0]; exact Blk.new _ _ _
  have s0 := b0.lt
  have h0 := h.grow g0
  have HW := Lib.hid hw0
  clear hw0
  go_enter Try.func104, Try.ntmps104
  go_wp2_with fail
  rw [← HW.out]
  refine (reader_pick g P _ w0 h0 (by omega) (by omega) (by omega)).mono ?_
  rintro e w1 ⟨a, rfl, a0, _, a1, _, r1, k1⟩
  have a1 := a1 (by omega)
  clear HW
  go_wp2_with fail
  refine (spec_someVector g (P + 1) w1 r1 (by omega)).mono ?_
  rintro e w2 ⟨v2, xs, rfl, o2, hv, r2, k2⟩
  obtain ⟨A2, c2, rfl, _, _, _⟩ := o2.open_
  go_wp2_with fail
  refine (reader_pick g (P + 1 + 12) _ w2 r2 (by omega) (by omega) (by omega)).mono ?_
  rintro e w3 ⟨t, rfl, t0, _, t1, _, r3, k3⟩
  have t1 := t1 (by omega)
  have e1 := k1.size
  have e2 := k2.size
  have e3 := k3.size
  have b3 := ((b0.turn k1 (.inr (by omega))).turn k2 (.inr (by omega))).turn k3 (.inr (by omega))
  obtain ⟨d0, d1, d2, f0, f1, f2⟩ := cells3 b3 (Grow.refl _)
  have o3 := o2.turn k3 (.inr (by omega))
  have HV := Lib.hid hv
  clear hv b0 o2
  go_wp2_with fail
  have hx : itemB ⟨1 + a, xs, t⟩ = true := itemB_iff.2 ⟨⟨by show 1 ≤ 1 + a; omega, by show 1 + a ≤ 99; omega⟩, HV.out, ⟨t0, by show t ≤ 15; omega⟩⟩
  have hbB : Below w.heap.size w3 (((w3.setCell ⟨w.heap.size, 0, none⟩ (.int .i64 (1 + a))).setCell ⟨w.heap.size, 1, none⟩ (.slice A2 xs.length c2)).setCell ⟨w.heap.size, 2, none⟩ (.int .i64 t)) := set3_below (Below.refl _ _) (Nat.le_refl _) _ _ _
  refine bodyPost_ret (v := .agg #[.int .i64 (1 + a), .slice A2 xs.length c2, .int .i64 t]) (by simp [results, Try.results104, go_sem, d0, d1, d2]) rfl
    ⟨.slice A2 xs.length c2, ⟨1 + a, xs, t⟩, rfl, ?_, hx, (r3.below hbB hg).more (by omega), (((Asked.of_grow g0).trans (k1.trans (k2.trans k3))).below hbB (Nat.le_refl _))⟩
  exact ((o3.far3 (k := w.heap.size) (by omega) _ _ _)).lower (by omega) (by rw [size_set3]; omega)
end Go.Proofs.Ytebiaodjodlloaa
namespace Go.Proofs.Ytebiaodjodlloaa
set_option linter.unusedVariables false
open Go Go.RowKit

theorem turn_set (w : World) (k i : Nat) (x : Value) : Turn k (k + 1) w (w.setCell ⟨k, i, none⟩ x) :=
  ⟨rfl, rfl, rfl, by simp [World.setCell], fun j hj hh => Below.heap_setCell w ⟨k, i, none⟩ x j (by show j ≠ k; omega)⟩
theorem turn_set3 (w : World) (k : Nat) (x y z : Value) : Turn k (k + 1) w (((w.setCell ⟨k, 0, none⟩ x).setCell ⟨k, 1, none⟩ y).setCell ⟨k, 2, none⟩ z) :=
  Turn.trans (Turn.trans (turn_set w k 0 x) (turn_set _ k 1 y)) (turn_set _ k 2 z)
theorem Asked.out {g lo : Nat} {a b c : World} (h : Asked g a b) (k : Turn lo (lo + 1) b c) (hl : a.heap.size ≤ lo) : Asked g a c :=
  ⟨k.os.trans h.os, k.tape.trans h.tape, k.output.trans h.output, Nat.le_trans h.size k.size, fun j hj hh => (k.block j (Nat.lt_of_lt_of_le hj h.size) (.inl (by omega))).trans (h.block j hj hh)⟩
/-- What a drawn item is. -/
def AnyI (g Q : Nat) (w w' : World) (e : Ending) : Prop := ∃ u x, e = .returned (.agg #[.int .i64 (It.key x), u, .int .i64 x.tags]) ∧ VecI w' w.heap.size w'.heap.size u x.pt ∧ Fits x.key ∧ Fits x.tags ∧ Rdr w' g Q ∧ Asked g w w'
theorem anyItem_end {g Q hi : Nat} {w W : World} {u : Value} {x : It} (hv : VecI W (w.heap.size + 1) hi u x.pt) (f1 : Fits x.key) (f2 : Fits x.tags) (hr : Rdr W g Q) (ha : Asked g w W) (hg : g < w.heap.size) (hs : w.heap.size < W.heap.size) :
    AnyI g Q w (((W.setCell ⟨w.heap.size, 0, none⟩ (.int .i64 x.key)).setCell ⟨w.heap.size, 1, none⟩ u).setCell ⟨w.heap.size, 2, none⟩ (.int .i64 x.tags)) (.returned (.agg #[.int .i64 x.key, u, .int .i64 x.tags])) := by
  have ht := turn_set3 W w.heap.size (.int .i64 x.key) u (.int .i64 x.tags)
  have := hv.top
  have := ht.size
  exact ⟨u, x, rfl, (hv.turn ht (.inr (Nat.le_refl _))).wider (by omega) (by omega) (Nat.le_refl _), f1, f2, hr.turn ht hg, ha.out ht (Nat.le_refl _)⟩

set_option maxHeartbeats 3200000 in
theorem spec_anyItem (g P : Nat) (w : World) (h : Rdr w g P) (hP : P ≤ 60000) :
    Calls Try.prog 88 #[.pointer (some ⟨g, 0, none⟩)] w fun e w' => AnyI g (P + 32) w w' e := by
  have hg := h.lt
  obtain ⟨w0, hw0⟩ : ∃ w0, w0 = w.alloc (.cells #[.int .i64 0, .slice none 0 0, .int .i64 0] 43) := ⟨_, rfl⟩
  have g0 : Grow w w0 := by rw [hw0]; exact (Below.refl _ _).alloc (Nat.le_refl _) _
  have b0 : Blk w0 w.heap.size 43 #[.int .i64 0, .slice none 0 0, .int .i64 0] := by rw [hw0]; exact Blk.new _ _ _
  have e0 : w0.heap.size = w.heap.size + 1 := by rw [hw0]; simp
  have h0 := h.grow g0
  have HW := Lib.hid hw0
  clear hw0
  go_enter Try.func88, Try.ntmps88
  go_wp2_with fail
  rw [← HW.out]
  refine (spec_someItem g P w0 h0 (by omega)).mono ?_
  rintro e w1 ⟨u, x, rfl, o1, hx, r1, k1⟩
  clear HW
  have e1 := k1.size
  have b01 := b0.turn k1 (.inr (by omega))
  have v1 := (o1.vec (Nat.le_refl _)).wider (lo' := w.heap.size + 1) (by omega) (Nat.le_refl _) (Nat.le_refl _)
  have HX := Lib.hid (itemB_iff.1 hx)
  have fx := HX.out
  clear hx o1
  obtain ⟨A1, c1, rfl, _, _, _⟩ := v1.open_
  go_wp2_with fail
  obtain ⟨w2, hw2⟩ : ∃ W, W = w1.alloc (.cells #[.int .i64 x.key, .slice A1 x.pt.length c1, .int .i64 x.tags] 43) := ⟨_, rfl⟩
  have g2 : Grow w1 w2 := by rw [hw2]; exact (Below.refl _ _).alloc (Nat.le_refl _) _
  have b2 : Blk w2 w1.heap.size 43 #[.int .i64 x.key, .slice A1 x.pt.length c1, .int .i64 x.tags] := by rw [hw2]; exact Blk.new _ _ _
  have e2 : w2.heap.size = w1.heap.size + 1 := by rw [hw2]; simp
  have b02 := b01.below g2 (by omega)
  have r2 := r1.grow g2
  have v2 := v1.grow g2
  have ha2 : Asked g w w2 := ((Asked.of_grow g0).trans k1).grow g2
  rw [← hw2]
  clear hw2 b01 r1 v1 b0 h0 h
  refine (reader_pick g (P + 14) _ w2 r2 (by omega) (by omega) (by omega)).mono ?_
  rintro e w3 ⟨a, rfl, a0, _, a1, _, r3, k3⟩
  have e3 := k3.size
  have b3 := b2.turn k3 (.inr (by omega))
  have b03 := b02.turn k3 (.inr (by omega))
  have v3 := v2.turn k3 (.inr (by omega))
  have ha3 := ha2.trans k3
  clear b2 b02 v2 ha2
  by_cases hz0 : a = 0
  · subst hz0
    have o := lit_ri w3 [0, 99, 100] (by decide) (by decide)
    have hgr : Grow w3 (w3.alloc (.cells #[.int .i64 0, .int .i64 99, .int .i64 100] 3)) := (Below.refl _ _).alloc (Nat.le_refl _) _
    go_wp2_with fail
    refine (reader_one _ _ _ _ [0, 99, 100] _ (r3.grow hgr) (by omega) o.ri (fun ad had => by injection had with had; subst had; show w3.heap.size ≠ g; omega) (by simp) (by simp)).mono ?_
    rintro e w4 ⟨k, rfl, hkm, r4, k4⟩
    have hk4 : 0 ≤ k ∧ k ≤ 100 := by simp at hkm; omega
    clear hkm o
    have e4 := k4.size
    have e5 := hgr.size
    have b4 := (b3.below hgr (by omega)).turn k4 (.inr (by omega))
    have b04 := (b03.below hgr (by omega)).turn k4 (.inr (by omega))
    have v4 := (v3.grow hgr).turn k4 (.inr (by omega))
    have ha4 := (ha3.grow hgr).trans k4
    obtain ⟨d0, d1, d2, f0, f1, f2⟩ := cells3 b4 (Grow.refl _)
    obtain ⟨p0, p1, p2, q0, q1, q2⟩ := cells3 b04 (Grow.refl _)
    go_wp2_with fail
    have ht := turn_set w4 w1.heap.size 0 (.int .i64 k)
    have et := ht.size
    refine bodyPost_ret (v := .agg #[.int .i64 k, .slice A1 x.pt.length c1, .int .i64 x.tags]) (by simp [results, Try.results88, go_sem, p0, p1, p2]) rfl ?_
    exact anyItem_end (x := ⟨k, x.pt, x.tags⟩) (v4.turn ht (.inl (by omega))) (by constructor <;> (try simp only []) <;> omega) (by constructor <;> (try simp only []) <;> omega) ((r4.turn ht (by omega)).more (by omega)) (ha4.out ht (by omega)) hg (by omega)
  have z0 : (a == 0) = false := by rw [beq_eq_false_iff_ne]; exact hz0
  by_cases hz1 : a = 1
  · subst hz1
    go_wp2_with fail
    refine (spec_anyVector _ _ _ r3 (by omega)).mono ?_
    rintro e w4 ⟨v, ys, rfl, o4, s4, r4, k4⟩
    have e4 := k4.size
    have b4 := b3.turn k4 (.inr (by omega))
    have b04 := b03.turn k4 (.inr (by omega))
    have v4 := o4.wider (lo' := w1.heap.size + 1) (by omega) (Nat.le_refl _) (Nat.le_refl _)
    have ha4 := ha3.trans k4
    obtain ⟨d0, d1, d2, f0, f1, f2⟩ := cells3 b4 (Grow.refl _)
    obtain ⟨p0, p1, p2, q0, q1, q2⟩ := cells3 b04 (Grow.refl _)
    obtain ⟨A4, c4, rfl, _, _, _⟩ := v4.open_
    go_wp2_with fail
    have ht := turn_set w4 w1.heap.size 1 (.slice A4 ys.length c4)
    have et := ht.size
    refine bodyPost_ret (v := .agg #[.int .i64 x.key, .slice A4 ys.length c4, .int .i64 x.tags]) (by simp [results, Try.results88, go_sem, p0, p1, p2]) rfl ?_
    exact anyItem_end (x := ⟨x.key, ys, x.tags⟩) ((v4.turn ht (.inr (by omega))).wider (by omega) (by omega) (by omega)) (by constructor <;> (try simp only []) <;> omega) (by constructor <;> (try simp only []) <;> omega) ((r4.turn ht (by omega)).more (by omega)) (ha4.out ht (by omega)) hg (by omega)
  have z1 : (a == 1) = false := by rw [beq_eq_false_iff_ne]; exact hz1
  by_cases hz2 : a = 2
  · subst hz2
    have o := lit_ri w3 [-1, 16] (by decide) (by decide)
    have hgr : Grow w3 (w3.alloc (.cells #[.int .i64 (-1), .int .i64 16] 3)) := (Below.refl _ _).alloc (Nat.le_refl _) _
    go_wp2_with fail
    refine (reader_one _ _ _ _ [-1, 16] _ (r3.grow hgr) (by omega) o.ri (fun ad had => by injection had with had; subst had; show w3.heap.size ≠ g; omega) (by simp) (by simp)).mono ?_
    rintro e w4 ⟨k, rfl, hkm, r4, k4⟩
    have hk4 : -1 ≤ k ∧ k ≤ 16 := by simp at hkm; omega
    clear hkm o
    have e4 := k4.size
    have e5 := hgr.size
    have b4 := (b3.below hgr (by omega)).turn k4 (.inr (by omega))
    have b04 := (b03.below hgr (by omega)).turn k4 (.inr (by omega))
    have v4 := (v3.grow hgr).turn k4 (.inr (by omega))
    have ha4 := (ha3.grow hgr).trans k4
    obtain ⟨d0, d1, d2, f0, f1, f2⟩ := cells3 b4 (Grow.refl _)
    obtain ⟨p0, p1, p2, q0, q1, q2⟩ := cells3 b04 (Grow.refl _)
    go_wp2_with fail
    have ht := turn_set w4 w1.heap.size 2 (.int .i64 k)
    have et := ht.size
    refine bodyPost_ret (v := .agg #[.int .i64 x.key, .slice A1 x.pt.length c1, .int .i64 k]) (by simp [results, Try.results88, go_sem, p0, p1, p2]) rfl ?_
    exact anyItem_end (x := ⟨x.key, x.pt, k⟩) (v4.turn ht (.inl (by omega))) (by constructor <;> (try simp only []) <;> omega) (by constructor <;> (try simp only []) <;> omega) ((r4.turn ht (by omega)).more (by omega)) (ha4.out ht (by omega)) hg (by omega)
  · have z2 : (a == 2) = false := by rw [beq_eq_false_iff_ne]; exact hz2
    obtain ⟨d0, d1, d2, f0, f1, f2⟩ := cells3 b3 (Grow.refl _)
    obtain ⟨p0, p1, p2, q0, q1, q2⟩ := cells3 b03 (Grow.refl _)
    go_wp2_with fail
    refine bodyPost_ret (v := .agg #[.int .i64 x.key, .slice A1 x.pt.length c1, .int .i64 x.tags]) (by simp [results, Try.results88, go_sem, p0, p1, p2]) rfl ?_
    exact anyItem_end (x := ⟨x.key, x.pt, x.tags⟩) v3 (by constructor <;> (try simp only []) <;> omega) (by constructor <;> (try simp only []) <;> omega) (r3.more (by omega)) ha3 hg (by omega)
end Go.Proofs.Ytebiaodjodlloaa
namespace Go.Proofs.Ytebiaodjodlloaa
set_option linter.unusedVariables false
open Go Go.RowKit

theorem putV_ok {l : List It} {x : It} (h : putOk l x = true) : putV l x = putL l x ∧ (putL l x).length ≤ 16 := by
  refine ⟨by rw [putV, if_pos h], ?_⟩
  simp only [putOk, Bool.and_eq_true, decide_eq_true_eq] at h
  exact h.2
theorem item_fits {x : It} (h : itemB x = true) : Fits x.key ∧ Fits x.tags := by
  have := itemB_iff.1 h
  exact ⟨by constructor <;> omega, by constructor <;> omega⟩

set_option maxHeartbeats 3200000 in
theorem spec_someStore (g P : Nat) (w : World) (h : Rdr w g P) (hP : P ≤ 60000) :
    Calls Try.prog 86 #[.pointer (some ⟨g, 0, none⟩)] w fun e w' => ∃ v l, e = .returned v ∧ DrS w' w.heap.size v l ∧ l.length ≤ 16 ∧ Rdr w' g (P + 290) ∧ Asked g w w' := by
  have hg := h.lt
  go_enter Try.func86, Try.ntmps86
  go_wp2_with fail
  have hgo : Grow w (w.alloc (.cells #[] 43)) := (Below.refl _ _).alloc (Nat.le_refl _) _
  have o := lit_ri (w.alloc (.cells #[] 43)) [4, 6, 8, 3, 1, 0, 20, 12] (by decide) (by decide)
  simp only [World.size_alloc] at o
  have hgr : Grow (w.alloc (.cells #[] 43)) ((w.alloc (.cells #[] 43)).alloc (.cells #[.int .i64 4, .int .i64 6, .int .i64 8, .int .i64 3, .int .i64 1, .int .i64 0, .int .i64 20, .int .i64 12] 3)) := (Below.refl _ _).alloc (Nat.le_refl _) _
  refine (reader_one _ _ _ _ [4, 6, 8, 3, 1, 0, 20, 12] _ ((h.grow hgo).grow hgr) (by omega) o.ri (fun ad had => by injection had with had; subst had; show w.heap.size + 1 ≠ g; omega) (by simp) (by simp)).mono ?_
  rintro e w2 ⟨x, rfl, hxm, r2, k2⟩
  have hx4 : 0 ≤ x ∧ x ≤ 20 := by simp at hxm; omega
  clear hxm o
  have d0 := ((((OwnS.lit w).grow hgr).dr (by simp)).turn k2 (by omega))
  have ask2 : Asked g w w2 := (Asked.of_grow (hgo.trans hgr)).trans k2
  clear hgo hgr k2
  go_wp2_with fail
  go_loopw [3, 4] (fun v i wr => ∃ (l : List It) (z : Int) (q : Nat), i = .int .i64 z ∧ 0 ≤ z ∧ z + q ≤ 20 ∧ DrS wr w.heap.size v l ∧ l.length ≤ 16 ∧ Rdr wr g (P + 1 + 14 * q) ∧ Asked g w wr) (fun _ i _ => (intOf i).toNat)
  case atStart => exact ⟨[], x, 0, rfl, hx4.1, by omega, d0, by simp, r2, ask2⟩
  case round =>
    obtain ⟨l, z, q, rfl, hz0, hz1, hd, hl, hr, ha⟩ := hrel
    by_cases hzp : 0 < z
    · obtain ⟨A0, c0, rfl, _, _, _⟩ := hd.rs
      go_wp2_with fail
      refine (spec_someItem _ _ _ hr (by omega)).mono ?_
      rintro e w3 ⟨u3, y, rfl, o3, hy, r3, k3⟩
      have hd3 := hd.turn k3 (by omega)
      have ha3 := ha.trans k3
      obtain ⟨A1, c1, e1, _, _, rs3⟩ := hd3.rs
      injection e1 with e1 e2 e3
      subst e1 e3
      clear hd e2
      obtain ⟨A3, c3, rfl, _, _, ri3⟩ := o3.open_
      have fy := item_fits hy
      go_wp2_with fail
      refine (spec_PutItem _ _ l y _ _ w3 rs3 ri3 fy.1 fy.2).mono ?_
      rintro e w4 ⟨v4, rfl, o4, g4⟩
      have hd4 := hd3.grow g4
      have r4 := r3.grow g4
      have ha4 := ha3.grow g4
      have e3 := ha3.size
      have HY := Lib.hid hy
      obtain ⟨A4, c4, rfl, _, _, _⟩ := o4.open_
      clear hy o3
      cases hp : putOk l y
      · go_wp2_with fail
        go_roundw
        case rel => exact ⟨l, z - 1, q + 1, rfl, by omega, by omega, hd4, hl, r4.more (by omega), ha4⟩
        case measure => simp [intOf]; omega
      · obtain ⟨ev, el⟩ := putV_ok hp
        rw [ev] at o4
        rw [ev]
        clear ev
        have hd5 := (o4.dr (Nat.le_refl _)).lower e3
        go_wp2_with fail
        go_roundw
        case rel => exact ⟨putL l y, z - 1, q + 1, rfl, by omega, by omega, hd5, el, r4.more (by omega), ha4⟩
        case measure => simp [intOf]; omega
    · go_wp2_with fail
      go_ret
      exact ⟨_, rfl, l, hd, hl, hr.more (by omega), ha⟩
end Go.Proofs.Ytebiaodjodlloaa
namespace Go.Proofs.Ytebiaodjodlloaa
set_option linter.unusedVariables false
open Go Go.RowKit

theorem DrSP.cell_ {w : World} {lo g n c : Nat} {p : List (It × Value)} (h : DrSP w lo (.slice (some ⟨g, 0, none⟩) n c) p) (hn : n = p.length) {k : Nat} {x : It} {u : Value} (hk : p[k]? = some (x, u)) :
    w.cell? ⟨g, k * 3 + 1, none⟩ = some u ∧ w.frozen? ⟨g, k * 3 + 1, none⟩ = false := by
  subst hn
  obtain ⟨c0, c1, c2⟩ := flatS_at hk
  have hp := (List.getElem?_eq_some_iff.1 hk).1
  have hl := flatS_len p
  have c2' := (List.getElem?_eq_some_iff.1 c2).1
  exact ⟨(h.own.cellAt _ (by omega)).trans c1, h.own.frozenAt _⟩
theorem DrSP.form {w : World} {lo : Nat} {A : Option Addr} {n c : Nat} {p : List (It × Value)} (h : DrSP w lo (.slice A n c) p) (hn : 0 < p.length) : ∃ g, A = some ⟨g, 0, none⟩ ∧ n = p.length ∧ lo ≤ g ∧ g < w.heap.size := by
  rcases h.own.2 with ⟨_, h0⟩ | ⟨g, cap, cur, hv, hb, hg, _⟩
  · omega
  · injection hv with e1 e2 e3
    subst e1
    exact ⟨g, rfl, e2, hb, (Array.getElem?_eq_some_iff.1 hg).1⟩
theorem DrSP.setPt {w : World} {lo g n c : Nat} {p : List (It × Value)} (h : DrSP w lo (.slice (some ⟨g, 0, none⟩) n c) p) (hn : n = p.length) {k : Nat} {x : It} {u u' : Value} (hk : p[k]? = some (x, u)) {ys : List Int} (hv : VecI w lo w.heap.size u' ys) :
    DrSP (w.setCell ⟨g, k * 3 + 1, none⟩ u') lo (.slice (some ⟨g, 0, none⟩) n c) (p.set k (⟨x.key, ys, x.tags⟩, u')) := by
  subst hn
  have s1 := h.own.stored (k * 3 + 1) u'
  have hb := s1.2
  have s2 := s1.1
  rw [(flatS_set hk).2.1 ys u'] at s2
  refine ⟨by simpa using s2, fun q hq => ?_, fun q hq => ?_, by simpa using h.len⟩
  · rcases List.mem_or_eq_of_mem_set hq with hq | rfl
    · exact ((h.vec q hq).other h.own (by decide) hb).wider (Nat.le_refl _) hb.size (Nat.le_refl _)
    · exact (hv.other h.own (by decide) hb).wider (Nat.le_refl _) hb.size (Nat.le_refl _)
  · rcases List.mem_or_eq_of_mem_set hq with hq | rfl
    · exact h.fit q hq
    · have := h.fit _ (List.mem_of_getElem? hk); exact this

/-- What a drawn store is. -/
def AnyS (g Q : Nat) (w w' : World) (e : Ending) : Prop := ∃ v, e = .returned v ∧ ∃ l, DrS w' w.heap.size v l ∧ l.length ≤ 17 ∧ Rdr w' g Q ∧ Asked g w w'

set_option maxHeartbeats 3200000 in
theorem spec_anyStore (g P : Nat) (w : World) (h : Rdr w g P) (hP : P ≤ 50000) :
    Calls Try.prog 67 #[.pointer (some ⟨g, 0, none⟩)] w fun e w' => AnyS g (P + 340) w w' e := by
  have hg := h.lt
  go_enter Try.func67, Try.ntmps67
  go_wp2_with fail
  refine (spec_someStore _ _ _ h (by omega)).mono ?_
  rintro e w1 ⟨v, l, rfl, d1, hl, r1, k1⟩
  have e1 := k1.size
  go_wp2_with fail
  refine (reader_pick g _ _ w1 r1 (by omega) (by omega) (by omega)).mono ?_
  rintro e w2 ⟨a, rfl, a0, _, a1, _, r2, k2⟩
  have e2 := k2.size
  have d2 := d1.turn k2 (by omega)
  have ha2 := k1.trans k2
  clear d1 a1
  by_cases hz0 : a = 0
  · subst hz0
    go_wp2_with fail
    refine (spec_anyItem _ _ _ r2 (by omega)).mono ?_
    rintro e w3 ⟨u, x, rfl, hv, f1, f2, r3, k3⟩
    have d3 := d2.turn k3 (by omega)
    have e3 := k3.size
    have hv3 := hv.wider (lo' := w.heap.size) (by omega) (Nat.le_refl _) (Nat.le_refl _)
    have hs3 : w.heap.size ≤ w3.heap.size := by omega
    have hn3 : l.length ≤ 1999999 := by omega
    obtain ⟨A3, c3, rfl, _, _, _⟩ := hv3.open_
    go_wp2_with (at_builtin; go_must (refine wpList_pushD (by rfl) _ _ (by rfl) (by rfl) (by rfl) d3 hs3 hn3 hv3 f1 f2 ?_); intro v4 w4 d4 b4)
    go_ret
    exact ⟨_, rfl, _, d4, by simp; omega, (r3.below b4 hg).more (by omega), (ha2.trans k3).below b4 (Nat.le_refl _)⟩
  have z0 : (a == 0) = false := by rw [beq_eq_false_iff_ne]; exact hz0
  by_cases hz1 : a = 1
  · subst hz1
    by_cases hl0 : 0 < l.length
    · obtain ⟨p, hp, d2p⟩ := d2
      have hpl : p.length = l.length := by rw [← hp]; simp
      obtain ⟨A0, c0, rfl, _, _, _⟩ := d2p.rs
      have hp0 : 0 < p.length := by omega
      have hp17 : p.length ≤ 16 := by omega
      clear hp hpl hl0 hl
      go_wp2_with fail
      refine (reader_pick g _ _ w2 r2 (by omega) (by omega) (by omega)).mono ?_
      rintro e w3 ⟨k, rfl, k0, _, k1', _, r3, k3⟩
      have k1' := k1' (by omega)
      obtain ⟨j, rfl⟩ := Int.eq_ofNat_of_zero_le k0
      have e3 := k3.size
      have d3 := d2p.turn k3 (by omega)
      go_wp2_with fail
      refine (spec_anyVector _ _ _ r3 (by omega)).mono ?_
      rintro e w4 ⟨v4, ys, rfl, o4, s4, r4, k4⟩
      have e4 := k4.size
      have d4 := d3.turn k4 (by omega)
      have hv4 := o4.wider (lo' := w.heap.size) (by omega) (Nat.le_refl _) (Nat.le_refl _)
      have hj : j < p.length := by omega
      obtain ⟨gb, rfl, _, hb1, hb2⟩ := d4.form (by omega)
      obtain ⟨q, hq⟩ : ∃ q, q = p[j] := ⟨_, rfl⟩
      have hqj : p[j]? = some (q.1, q.2) := by rw [List.getElem?_eq_getElem hj, hq]
      obtain ⟨z1, f1⟩ := d4.cell_ rfl hqj
      have d5 := d4.setPt rfl hqj hv4
      have ha4 := (ha2.trans k3).trans k4
      have t5 := turn_set w4 gb (j * 3 + 1) v4
      have hlen : ((p.set j (⟨q.1.key, ys, q.1.tags⟩, v4)).map Prod.fst).length ≤ 17 := by simp; omega
      obtain ⟨A4, c4, rfl, _, _, _⟩ := hv4.open_
      have HQ := Lib.hid hqj
      clear hq hqj
      clear d2p d3 d4
      go_wp2_with fail
      go_ret
      exact ⟨_, rfl, _, ⟨_, rfl, d5⟩, hlen, (r4.turn t5 (by omega)).more (by omega), ha4.out t5 hb1⟩
    · obtain ⟨A0, c0, rfl, _, _, _⟩ := d2.rs
      go_wp2_with fail
      go_ret
      exact ⟨_, rfl, _, d2, by omega, r2.more (by omega), ha2⟩
  · have z1 : (a == 1) = false := by rw [beq_eq_false_iff_ne]; exact hz1
    go_wp2_with fail
    go_ret
    exact ⟨_, rfl, _, d2, by omega, r2.more (by omega), ha2⟩

theorem DrS.ri {w : World} {lo n c : Nat} {A : Option Addr} {l : List It} (h : DrS w lo (.slice A n c) l) : RS w w.heap.size A l := by
  obtain ⟨A', c', e, _, _, hr⟩ := h.rs
  injection e with e1
  subst e1
  exact hr
end Go.Proofs.Ytebiaodjodlloaa
namespace Go.Proofs.Ytebiaodjodlloaa
set_option linter.unusedVariables false
open Go Go.RowKit

/-- A drawn store, as the law has it. -/
structure DrawnS (w' : World) (A : Option Addr) (c : Nat) (l : List It) : Prop where
  rs : RS w' w'.heap.size A l
  cap : l.length ≤ c
  top : c ≤ maxLen
  few : l.length ≤ 17
theorem DrS.drawn {w : World} {lo : Nat} {v : Value} {l : List It} (h : DrS w lo v l) (hl : l.length ≤ 17) : ∃ A c, v = .slice A l.length c ∧ DrawnS w A c l := by
  obtain ⟨A, c, rfl, h1, h2, h3⟩ := h.rs
  exact ⟨A, c, rfl, h3, h1, h2, hl⟩
theorem DrawnS.grow {w w' : World} {A : Option Addr} {c : Nat} {l : List It} (h : DrawnS w A c l) (hg : Grow w w') : DrawnS w' A c l := ⟨h.rs.grow hg, h.cap, h.top, h.few⟩

theorem spec_DrawClosestPair (A : Option Addr) (n c : Nat) (bs : List Int) (w : World) (h : ArgB w A n c bs) :
    Calls Try.prog 39 #[.slice A n c] w fun e w' => ∃ A' c' l kind, e = .returned (.tuple #[.slice A' (List.length l) c', .int .i64 kind]) ∧ 0 ≤ kind ∧ kind ≤ 5 ∧ DrawnS w' A' c' l ∧ Grow w w' := by
  go_enter Try.func39, Try.ntmps39
  go_wp2_with fail
  refine (spec_reader_of h).mono ?_
  rintro e w1 ⟨rfl, r1, g1⟩
  have l1 := r1.lt
  go_wp2_with fail
  refine (spec_anyStore _ _ _ r1 (by omega)).mono ?_
  rintro e w2 ⟨v, rfl, l, d2, hl, r2, k2⟩
  obtain ⟨A0, c0, rfl, _⟩ := d2.drawn hl
  go_wp2_with fail
  refine (spec_anyKind _ _ _ r2 (by omega)).mono ?_
  rintro e w3 ⟨kind, rfl, b0, b1, r3, k3⟩
  have d3 := d2.turn k3 (by omega)
  obtain ⟨A2, c2, e2, q2⟩ := d3.drawn hl
  injection e2 with e2 e3 e4
  subst e2 e4
  clear e3
  go_wp2_with fail
  go_ret2
  exact ⟨A0, c0, l, kind, rfl, b0, b1, q2, grow_asked g1 (k2.trans k3)⟩
end Go.Proofs.Ytebiaodjodlloaa
namespace Go.Proofs.Ytebiaodjodlloaa
set_option linter.unusedVariables false
open Go Go.RowKit

theorem ArgB.keep {w w' : World} {A : Option Addr} {n c : Nat} {bs : List Int} (h : ArgB w A n c bs) (hg : Grow w w') : ArgB w' A n c bs :=
  ⟨h.len, (h.rd.keep fun q hq => hg.cell hq).more hg.size, h.fit, h.cap, h.top⟩
theorem VecI.ri {w : World} {lo hi n c : Nat} {A : Option Addr} {xs : List Int} (h : VecI w lo hi (.slice A n c) xs) : RI w w.heap.size A xs := by
  obtain ⟨A', c', e, _, _, hr⟩ := h.open_
  injection e with e1
  subst e1
  exact hr
end Go.Proofs.Ytebiaodjodlloaa
namespace Go.Proofs.Ytebiaodjodlloaa
set_option linter.unusedVariables false
open Go Go.RowKit

/-- A drawn vector, as the law has it. -/
structure DrawnV (w' : World) (A : Option Addr) (c : Nat) (xs : List Int) : Prop where
  ri : RI w' w'.heap.size A xs
  cap : xs.length ≤ c
  top : c ≤ maxLen
theorem DrawnV.grow {w w' : World} {A : Option Addr} {c : Nat} {xs : List Int} (h : DrawnV w A c xs) (hg : Grow w w') : DrawnV w' A c xs := ⟨h.ri.grow hg, h.cap, h.top⟩
theorem VecI.drawn {w : World} {lo hi : Nat} {v : Value} {xs : List Int} (h : VecI w lo hi v xs) : ∃ A c, v = .slice A xs.length c ∧ DrawnV w A c xs := by
  obtain ⟨A, c, rfl, h1, h2, h3⟩ := h.open_
  exact ⟨A, c, rfl, h3, h1, h2⟩
theorem DrS.shape {w w' : World} {lo lo' n c : Nat} {A : Option Addr} {l : List It} (h : DrS w lo (.slice A n c) l) (hl : l.length ≤ 17) : n = l.length ∧ DrawnS w A c l := by
  obtain ⟨A2, c2, e2, q⟩ := h.drawn hl
  injection e2 with e1 e2 e3
  subst e1 e3
  exact ⟨e2, q⟩
theorem VecI.at_ {w : World} {lo hi n c k : Nat} {A : Option Addr} {xs : List Int} (h : VecI w lo hi (.slice A n c) xs) (hk : k < xs.length) :
    ∃ ad x, A = some ad ∧ lo ≤ ad.block ∧ ad.block < hi ∧ w.cell? (ad.add k) = some (.int .i64 x) ∧ -9223372036854775808 ≤ x ∧ x ≤ 9223372036854775807 ∧ Hid (xs[k]? = some x) := by
  obtain ⟨A', c', e, h1, h2, h3⟩ := h.form
  injection e with e1 e2 e3
  subst e1
  obtain ⟨ad, rfl, b1, b2, hc, _⟩ := h3 (by omega)
  have hf := h.fit _ (List.getElem_mem hk)
  exact ⟨ad, xs[k], rfl, b1, b2, hc k _ (by rw [List.getElem?_map, List.getElem?_eq_getElem hk]; rfl), hf.1, hf.2, Lib.hid (List.getElem?_eq_getElem hk)⟩
theorem VecI.shape {w : World} {lo hi n c : Nat} {A : Option Addr} {xs : List Int} (h : VecI w lo hi (.slice A n c) xs) : n = xs.length ∧ DrawnV w A c xs := by
  obtain ⟨A2, c2, e2, q⟩ := h.drawn
  injection e2 with e1 e2 e3
  subst e1 e3
  exact ⟨e2, q⟩

/-- What the generator of the nearest items' arguments hands back. -/
def GotN (w w' : World) (e : Ending) : Prop := ∃ A' c' l kind B d xs k, e = .returned (.tuple #[.slice A' (List.length l) c', .int .i64 kind, .slice B (List.length xs) d, .int .i64 k]) ∧ (0 ≤ kind ∧ kind ≤ 5) ∧ (-1 ≤ k ∧ k ≤ 10000) ∧
  VecI w' w.heap.size w'.heap.size (.slice B (List.length xs) d) xs ∧ DrS w' w.heap.size (.slice A' (List.length l) c') l ∧ l.length ≤ 17 ∧ Grow w w'

theorem spec_DrawBuildTree (A : Option Addr) (n c : Nat) (bs : List Int) (w : World) (h : ArgB w A n c bs) :
    Calls Try.prog 11 #[.slice A n c] w fun e w' => ∃ A' c' l kind, e = .returned (.tuple #[.slice A' (List.length l) c', .int .i64 kind]) ∧ 0 ≤ kind ∧ kind ≤ 5 ∧ DrawnS w' A' c' l ∧ Grow w w' := by
  go_enter Try.func11, Try.ntmps11
  go_wp2_with fail
  refine (spec_DrawClosestPair _ _ _ _ _ h).mono ?_
  rintro e w1 ⟨A', c', l, kind, rfl, b0, b1, q, g⟩
  go_wp2_with fail
  go_ret2
  exact ⟨A', c', l, kind, rfl, b0, b1, q, g⟩

end Go.Proofs.Ytebiaodjodlloaa
