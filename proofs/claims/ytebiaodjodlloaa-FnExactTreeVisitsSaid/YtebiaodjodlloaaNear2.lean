/- The nearest items, and the items within a distance: the program's functions. -/
import Derived.Test.YtebiaodjodlloaaNear
namespace Go.Proofs.Ytebiaodjodlloaa
set_option linter.unusedVariables false
open Go Go.RowKit

theorem nearV_no {l : List It} {kind : Int} {c : List Int} {k : Int} (h : nearOk l kind c k = false) : nearV l kind c k = [] := by rw [nearV, h]; rfl
theorem nearOk_one (l : List It) (kind : Int) (c : List Int) : nearOk l kind c 1 = queryOk l kind c := by simp [nearOk, inB]
theorem withinV_no {l : List It} {kind : Int} {c : List Int} {m : Int} (h : queryOk l kind c = false) : withinV l kind c m = [] := by rw [withinV, h]; rfl
theorem withinV_neg {l : List It} {kind : Int} {c : List Int} {m : Int} (h : m < 0) : withinV l kind c m = [] := by
  rw [withinV, decide_eq_false (by omega), Bool.and_false]; rfl
theorem within_step {S : List Ht} {n : Nat} {x : Ht} {m : Int} (hx : S[n]? = some x) : (S.take (n + 1)).filter (fun h => decide (h.dist ≤ m)) = (S.take n).filter (fun h => decide (h.dist ≤ m)) ++ (if x.dist ≤ m then [x] else []) := by
  have e : S.take (n + 1) = S.take n ++ [x] := by rw [List.take_add_one, hx]; rfl
  rw [e, List.filter_append]
  by_cases hp : x.dist ≤ m <;> simp [hp]
theorem grown_own {w w' : World} {base n size : Nat} {e : TypeId} {u v : Value} {us : List Value} {α : Type} {p : Pod α} {lo hi : Nat} {l : List α} (h : OwnK p w lo hi v l) (hg : w.grownBy w' u.ownBlock) (hd : ∀ g, u.ownBlock = some g → g < lo ∨ hi ≤ g) : OwnK p w' lo hi v l :=
  h.still fun g hv => hg.block g (h.lt g hv).2 fun e1 => by
    have a := (h.lt g hv).1
    have b := h.top g hv
    have := hd g e1.symm
    omega
end Go.Proofs.Ytebiaodjodlloaa
