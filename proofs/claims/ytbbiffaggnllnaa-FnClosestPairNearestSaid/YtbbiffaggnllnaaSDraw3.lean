/- The contracts of the generators of some store and of any store. -/
import Derived.Test.YtbbiffaggnllnaaSDraw2
namespace Go.Proofs.Ytbbiffaggnllnaa
set_option linter.unusedVariables false
open Go Go.RowKit

theorem putV_ok {l : List It} {x : It} (h : putOk l x = true) : putV l x = putL l x ∧ (putL l x).length ≤ 16 := by
  refine ⟨by rw [putV, if_pos h], ?_⟩
  simp only [putOk, Bool.and_eq_true, decide_eq_true_eq] at h
  exact h.2
theorem item_fits {x : It} (h : itemB x = true) : Fits x.key ∧ Fits x.tags := by
  have := itemB_iff.1 h
  exact ⟨by constructor <;> omega, by constructor <;> omega⟩

set_option maxHeartbeats 3200000 in
theorem spec_someStore (g P : Nat) (w : World) (h : Rdr w g P) (hP : P ≤ 60000) :
    Calls Try.prog 122 #[.pointer (some ⟨g, 0, none⟩)] w fun e w' => ∃ v l, e = .returned v ∧ DrS w' w.heap.size v l ∧ l.length ≤ 16 ∧ Rdr w' g (P + 290) ∧ Asked g w w' := by
  have hg := h.lt
  go_enter Try.func122, Try.ntmps122
  go_wp2_with fail
  have hgo : Grow w (w.alloc (.cells #[] 48)) := (Below.refl _ _).alloc (Nat.le_refl _) _
  have o := lit_ri (w.alloc (.cells #[] 48)) [4, 6, 8, 3, 1, 0, 20, 12] (by decide) (by decide)
  simp only [World.size_alloc] at o
  have hgr : Grow (w.alloc (.cells #[] 48)) ((w.alloc (.cells #[] 48)).alloc (.cells #[.int .i64 4, .int .i64 6, .int .i64 8, .int .i64 3, .int .i64 1, .int .i64 0, .int .i64 20, .int .i64 12] 3)) := (Below.refl _ _).alloc (Nat.le_refl _) _
  refine (reader_one _ _ _ _ [4, 6, 8, 3, 1, 0, 20, 12] _ ((h.grow hgo).grow hgr) (by omega) o.ri (fun ad had => by injection had with had; subst had; show w.heap.size + 1 ≠ g; omega) (by simp) (by simp)).mono ?_
  rintro e w2 ⟨x, rfl, hxm, r2, k2⟩
  have hx4 : 0 ≤ x ∧ x ≤ 20 := by simp at hxm; omega
  clear hxm o
  have d0 := ((((OwnS.lit w).grow hgr).dr (by simp)).turn k2 (by omega))
  have ask2 : Asked g w w2 := (Asked.of_grow (hgo.trans hgr)).trans k2
  clear hgo hgr k2
  go_wp2_with fail
  go_loopw [3, 4] (fun v i wr => ∃ (l : List It) (z : Int) (q : Nat), i = .int .i64 z ∧ 0 ≤ z ∧ z + q ≤ 20 ∧ DrS wr w.heap.size v l ∧ l.length ≤ 16 ∧ Rdr wr g (P + 1 + 14 * q) ∧ Asked g w wr) (fun _ i _ => (intOf i).toNat)
  case atStart => exact ⟨[], x, 0, rfl, hx4.1, by omega, d0, by simp, r2, ask2⟩
  case round =>
    obtain ⟨l, z, q, rfl, hz0, hz1, hd, hl, hr, ha⟩ := hrel
    by_cases hzp : 0 < z
    · obtain ⟨A0, c0, rfl, _, _, _⟩ := hd.rs
      go_wp2_with fail
      refine (spec_someItem _ _ _ hr (by omega)).mono ?_
      rintro e w3 ⟨u3, y, rfl, o3, hy, r3, k3⟩
      have hd3 := hd.turn k3 (by omega)
      have ha3 := ha.trans k3
      obtain ⟨A1, c1, e1, _, _, rs3⟩ := hd3.rs
      injection e1 with e1 e2 e3
      subst e1 e3
      clear hd e2
      obtain ⟨A3, c3, rfl, _, _, ri3⟩ := o3.open_
      have fy := item_fits hy
      go_wp2_with fail
      refine (spec_PutItem _ _ l y _ _ w3 rs3 ri3 fy.1 fy.2).mono ?_
      rintro e w4 ⟨v4, rfl, o4, g4⟩
      have hd4 := hd3.grow g4
      have r4 := r3.grow g4
      have ha4 := ha3.grow g4
      have e3 := ha3.size
      have HY := Lib.hid hy
      obtain ⟨A4, c4, rfl, _, _, _⟩ := o4.open_
      clear hy o3
      cases hp : putOk l y
      · go_wp2_with fail
        go_roundw
        case rel => exact ⟨l, z - 1, q + 1, rfl, by omega, by omega, hd4, hl, r4.more (by omega), ha4⟩
        case measure => simp [intOf]; omega
      · obtain ⟨ev, el⟩ := putV_ok hp
        rw [ev] at o4
        rw [ev]
        clear ev
        have hd5 := (o4.dr (Nat.le_refl _)).lower e3
        go_wp2_with fail
        go_roundw
        case rel => exact ⟨putL l y, z - 1, q + 1, rfl, by omega, by omega, hd5, el, r4.more (by omega), ha4⟩
        case measure => simp [intOf]; omega
    · go_wp2_with fail
      go_ret
      exact ⟨_, rfl, l, hd, hl, hr.more (by omega), ha⟩
end Go.Proofs.Ytbbiffaggnllnaa
