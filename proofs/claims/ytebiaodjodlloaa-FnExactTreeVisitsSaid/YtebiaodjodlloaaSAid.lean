/- Small aids for the walks of the exact laws on stores. -/
import Derived.Test.YtebiaodjodlloaaSMark
namespace Go.Proofs.Ytebiaodjodlloaa
set_option linter.unusedVariables false
open Go Go.RowKit

theorem laws_eqIntS_same (A B : Option Addr) (c d : Nat) (xs : List Int) (w : World) (hx : RI w w.heap.size A xs) (hy : RI w w.heap.size B xs) :
    Calls Try.prog 33 #[.slice A xs.length c, .slice B xs.length d] w fun e w' => e = .returned (.bool true) ∧ Grow w w' := by
  have he := eqB_self xs
  refine (laws_eqIntS A B xs xs c d w hx hy).mono ?_
  rintro e w' ⟨rfl, n, rfl⟩
  exact ⟨by rw [he], Grow.drewN _ _⟩
theorem endS_bd {w : World} {B : Nat} {A : Option Addr} {l : List It} {k : Int} (h : RS w B A l) (hk : 0 ≤ k) : k ≤ endS l k ∧ endS l k ≤ k + 5000000000000 := by
  have h1 := offS_bd (l := l) (k := k) h.short hk l.length
  have h2 := h.len
  have h3 : ∀ j, k ≤ offS l k j := fun j => by
    induction j with
    | zero => exact Int.le_refl _
    | succ j ih => rw [offS]; omega
  have h4 := h3 l.length
  unfold endS
  omega
theorem Blk.turn {w w' : World} {g lo hi : Nat} {t : TypeId} {cs : Array Value} (h : Blk w g t cs) (ht : Turn lo hi w w') (hd : g < lo ∨ hi ≤ g) : Blk w' g t cs := (ht.block g h.lt hd).trans h
theorem ArgS.rs_short {w w' : World} {A : Option Addr} {n c : Nat} {l : List It} {B : Nat} (h : ArgS w A n c l) (hr : RS w' B A l) : RS w w.heap.size A l :=
  h.rs (by rw [← h.len]; exact hr.len) hr.short
end Go.Proofs.Ytebiaodjodlloaa
