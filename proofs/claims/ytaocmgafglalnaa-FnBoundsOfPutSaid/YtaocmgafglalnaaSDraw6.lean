/- The contract of the generator of the arguments of PutItem. -/
import Derived.Test.YtaocmgafglalnaaSDraw5
namespace Go.Proofs.Ytaocmgafglalnaa
set_option linter.unusedVariables false
open Go Go.RowKit

theorem ArgB.keep {w w' : World} {A : Option Addr} {n c : Nat} {bs : List Int} (h : ArgB w A n c bs) (hg : Grow w w') : ArgB w' A n c bs :=
  ⟨h.len, (h.rd.keep fun q hq => hg.cell hq).more hg.size, h.fit, h.cap, h.top⟩
theorem VecI.ri {w : World} {lo hi n c : Nat} {A : Option Addr} {xs : List Int} (h : VecI w lo hi (.slice A n c) xs) : RI w w.heap.size A xs := by
  obtain ⟨A', c', e, _, _, hr⟩ := h.open_
  injection e with e1
  subst e1
  exact hr
set_option maxHeartbeats 800000 in
theorem spec_DrawPutItem (A : Option Addr) (n c : Nat) (bs : List Int) (w : World) (h : ArgB w A n c bs) :
    Calls Try.prog 60 #[.slice A n c] w fun e w' => ∃ A' c' l B d y, e = .returned (.tuple #[.slice A' (List.length l) c', .agg #[.int .i64 (It.key y), .slice B y.pt.length d, .int .i64 y.tags]]) ∧ Fits y.key ∧ Fits y.tags ∧ RI w' w'.heap.size B y.pt ∧ DrawnS w' A' c' l ∧ Grow w w' := by
  obtain ⟨w0, hw0⟩ : ∃ w0, w0 = w.alloc (.cells #[.int .i64 0, .slice none 0 0, .int .i64 0] 53) := ⟨_, rfl⟩
  have g0 : Grow w w0 := by rw [hw0]; exact (Below.refl _ _).alloc (Nat.le_refl _) _
  have b0 : Blk w0 w.heap.size 53 #[.int .i64 0, .slice none 0 0, .int .i64 0] := by rw [hw0]; exact Blk.new _ _ _
  have e0 : w0.heap.size = w.heap.size + 1 := by rw [hw0]; simp
  have h0 := h.keep g0
  have HW := Lib.hid hw0
  clear hw0 h
  go_enter Try.func60, Try.ntmps60
  go_wp2_with fail
  rw [← HW.out]
  refine (spec_reader_of h0).mono ?_
  rintro e w1 ⟨rfl, r1, g1⟩
  rw [e0] at r1
  have l1 := r1.lt
  clear h0 HW
  go_wp2_with fail
  refine (spec_anyStore _ _ _ r1 (by omega)).mono ?_
  rintro e w2 ⟨v, rfl, l, d2, hl, r2, k2⟩
  obtain ⟨A0, c0, rfl, _⟩ := d2.drawn hl
  go_wp2_with fail
  refine (spec_anyItem _ _ _ r2 (by omega)).mono ?_
  rintro e w3 ⟨u, y, rfl, hv, f1, f2, r3, k3⟩
  have d3 := d2.turn k3 (by omega)
  have e2 := k2.size
  have e3 := k3.size
  have b1 := b0.below g1 (by omega)
  have b3 := (b1.turn k2 (.inl (by omega))).turn k3 (.inl (by omega))
  obtain ⟨Au, cu, rfl, _, _, _⟩ := hv.open_
  obtain ⟨p0, p1, p2, q0, q1, q2⟩ := cells3 b3 (Grow.refl _)
  have ht := turn_set3 w3 w.heap.size (.int .i64 y.key) (.slice Au y.pt.length cu) (.int .i64 y.tags)
  have d4 := d3.turn ht (by omega)
  obtain ⟨A2, c2, e2, q4⟩ := d4.drawn hl
  injection e2 with e2 e3 e4
  subst e2 e4
  clear e3
  have hv4 := (hv.turn ht (.inr (by omega))).ri
  have hg : Grow w w3 := g0.trans (grow_asked g1 (by rw [e0]; exact k2.trans k3))
  have hg4 := hg.set3 (Nat.le_refl _) (.int .i64 y.key) (.slice Au y.pt.length cu) (.int .i64 y.tags)
  clear d2 d3 b0 b1
  go_wp2_with fail
  refine bodyPost_ret (v := .tuple #[.slice A0 l.length c0, .agg #[.int .i64 y.key, .slice Au y.pt.length cu, .int .i64 y.tags]]) (by simp [results, Try.results60, go_sem, p0, p1, p2]) rfl
    ⟨A0, c0, l, Au, cu, y, rfl, f1, f2, hv4, q4, hg4⟩
end Go.Proofs.Ytaocmgafglalnaa
