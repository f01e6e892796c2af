/- The contract of the function that draws some vectors. -/
import Derived.Test.YtebiaodjodlloaaMat
import Derived.Test.YtebiaodjodlloaaDraw
namespace Go.Proofs.Ytebiaodjodlloaa
set_option linter.unusedVariables false
open Go Go.RowKit

theorem info_ints : (Try.prog.info? 41).map (fun i => (i.zero, i.size, i.bytes)) = some (some (.slice none 0 0), 1, 24) := by kernel_rfl
/-- The row's values V read as the vectors l, each in memory from B on. -/
def RowsAt (w : World) (B : Nat) (V : List Value) (l : List (List Int)) : Prop :=
  V.length = l.length ∧ ∀ (i : Nat) (v : Value) (r : List Int), V[i]? = some v → l[i]? = some r → VecI w B w.heap.size v r ∧ Small r
theorem RowsAt.turn {w w' : World} {B lo hi : Nat} {V : List Value} {l : List (List Int)} (h : RowsAt w B V l) (ht : Turn lo hi w w') (hd : hi ≤ B) : RowsAt w' B V l :=
  ⟨h.1, fun i v r hv hr => by
    obtain ⟨a, b⟩ := h.2 i v r hv hr
    exact ⟨(a.turn ht (.inr hd)).wider (Nat.le_refl _) ht.size (Nat.le_refl _), b⟩⟩
theorem RowsAt.other {w w' : World} {B base n size : Nat} {e : TypeId} {u : Value} {us V : List Value} {l : List (List Int)} (h : RowsAt w B V l) (ho : w.ownsRow base e size u n us) (he : e ≠ 3) (hg : w.grownBy w' u.ownBlock) : RowsAt w' B V l :=
  ⟨h.1, fun i v r hv hr => by
    obtain ⟨a, b⟩ := h.2 i v r hv hr
    exact ⟨(a.other ho he hg).wider (Nat.le_refl _) hg.size (Nat.le_refl _), b⟩⟩
theorem RowsAt.snoc {w : World} {B : Nat} {V : List Value} {l : List (List Int)} {v : Value} {r : List Int} (h : RowsAt w B V l) (hv : VecI w B w.heap.size v r) (hs : Small r) : RowsAt w B (V ++ [v]) (l ++ [r]) :=
  ⟨by simp [h.1], fun i u q hu hq => by
    rcases Nat.lt_trichotomy i l.length with hi | hi | hi
    · rw [List.getElem?_append_left (by rw [h.1]; exact hi)] at hu
      rw [List.getElem?_append_left hi] at hq
      exact h.2 i u q hu hq
    · rw [List.getElem?_append_right (by rw [h.1]; omega), h.1, hi, Nat.sub_self] at hu
      rw [List.getElem?_append_right (by omega), hi, Nat.sub_self] at hq
      simp at hu hq
      subst hu hq
      exact ⟨hv, hs⟩
    · rw [List.getElem?_append_right (by omega)] at hq
      have : (l ++ [r]).length ≤ i := by simp; omega
      rw [← List.getElem?_append_right (by omega), List.getElem?_eq_none this] at hq
      cases hq⟩
theorem rr_of {w : World} {B base : Nat} {A : Option Addr} {n c : Nat} {V : List Value} {l : List (List Int)} (h : RowsAt w B V l) (ho : w.ownsRow base 41 1 (.slice A n c) n V) (hl : l.length ≤ 2000000) : RR w w.heap.size A l := by
  have hr := Reads.of_own ho
  have hn : n = l.length := by have := ho.1; rw [h.1] at this; omega
  refine ⟨fun k r hk => ?_, hl⟩
  have hlt := (List.getElem?_eq_some_iff.1 hk).1
  obtain ⟨ad, u, hA, hb, hu, hc⟩ := hr.at_ (k := k) (by omega)
  obtain ⟨hv, _⟩ := h.2 k u r hu hk
  obtain ⟨Ak, ck, rfl, h1, h2, h3⟩ := hv.open_
  exact ⟨ad, Ak, ck, hA, hb, hc, h1, h2, h3⟩
end Go.Proofs.Ytebiaodjodlloaa
