/- The contract of the generator of the arguments of PutItem. -/
import Derived.Test.YtbbiffaggnllnaaSDraw5
namespace Go.Proofs.Ytbbiffaggnllnaa
set_option linter.unusedVariables false
open Go Go.RowKit

theorem ArgB.keep {w w' : World} {A : Option Addr} {n c : Nat} {bs : List Int} (h : ArgB w A n c bs) (hg : Grow w w') : ArgB w' A n c bs :=
  ⟨h.len, (h.rd.keep fun q hq => hg.cell hq).more hg.size, h.fit, h.cap, h.top⟩
theorem VecI.ri {w : World} {lo hi n c : Nat} {A : Option Addr} {xs : List Int} (h : VecI w lo hi (.slice A n c) xs) : RI w w.heap.size A xs := by
  obtain ⟨A', c', e, _, _, hr⟩ := h.open_
  injection e with e1
  subst e1
  exact hr
end Go.Proofs.Ytbbiffaggnllnaa
