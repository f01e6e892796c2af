/- The contracts of the generators of the arguments of the laws on stores. -/
import Derived.Test.YtbbiffaggnllnaaSDraw4
namespace Go.Proofs.Ytbbiffaggnllnaa
set_option linter.unusedVariables false
open Go Go.RowKit

/-- A drawn store, as the law has it. -/
structure DrawnS (w' : World) (A : Option Addr) (c : Nat) (l : List It) : Prop where
  rs : RS w' w'.heap.size A l
  cap : l.length ≤ c
  top : c ≤ maxLen
  few : l.length ≤ 17
theorem DrS.drawn {w : World} {lo : Nat} {v : Value} {l : List It} (h : DrS w lo v l) (hl : l.length ≤ 17) : ∃ A c, v = .slice A l.length c ∧ DrawnS w A c l := by
  obtain ⟨A, c, rfl, h1, h2, h3⟩ := h.rs
  exact ⟨A, c, rfl, h3, h1, h2, hl⟩
theorem DrawnS.grow {w w' : World} {A : Option Addr} {c : Nat} {l : List It} (h : DrawnS w A c l) (hg : Grow w w') : DrawnS w' A c l := ⟨h.rs.grow hg, h.cap, h.top, h.few⟩

theorem spec_DrawClosestPair (A : Option Addr) (n c : Nat) (bs : List Int) (w : World) (h : ArgB w A n c bs) :
    Calls Try.prog 49 #[.slice A n c] w fun e w' => ∃ A' c' l kind, e = .returned (.tuple #[.slice A' (List.length l) c', .int .i64 kind]) ∧ 0 ≤ kind ∧ kind ≤ 5 ∧ DrawnS w' A' c' l ∧ Grow w w' := by
  go_enter Try.func49, Try.ntmps49
  go_wp2_with fail
  refine (spec_reader_of h).mono ?_
  rintro e w1 ⟨rfl, r1, g1⟩
  have l1 := r1.lt
  go_wp2_with fail
  refine (spec_anyStore _ _ _ r1 (by omega)).mono ?_
  rintro e w2 ⟨v, rfl, l, d2, hl, r2, k2⟩
  obtain ⟨A0, c0, rfl, _⟩ := d2.drawn hl
  go_wp2_with fail
  refine (spec_anyKind _ _ _ r2 (by omega)).mono ?_
  rintro e w3 ⟨kind, rfl, b0, b1, r3, k3⟩
  have d3 := d2.turn k3 (by omega)
  obtain ⟨A2, c2, e2, q2⟩ := d3.drawn hl
  injection e2 with e2 e3 e4
  subst e2 e4
  clear e3
  go_wp2_with fail
  go_ret2
  exact ⟨A0, c0, l, kind, rfl, b0, b1, q2, grow_asked g1 (k2.trans k3)⟩
end Go.Proofs.Ytbbiffaggnllnaa
