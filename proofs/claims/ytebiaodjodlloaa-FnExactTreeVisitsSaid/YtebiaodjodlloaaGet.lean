/- The contracts of getting an item, in both texts. -/
import Derived.Test.YtebiaodjodlloaaPut
namespace Go.Proofs.Ytebiaodjodlloaa
set_option linter.unusedVariables false
open Go Go.RowKit

theorem getV_no {l : List It} {k : Int} (h : storeB l = false) : dropOk l k = false ∧ getV l k = It.zero := by
  have : dropOk l k = false := by rw [dropOk, h]; rfl
  rw [getV, this]; exact ⟨rfl, rfl⟩
theorem getV_none {l : List It} {k : Int} (h : hasK l k = false) : dropOk l k = false ∧ getV l k = It.zero := by
  have : dropOk l k = false := by rw [dropOk, h, Bool.and_false]
  rw [getV, this]; exact ⟨rfl, rfl⟩
theorem getV_yes {l : List It} {k : Int} {x : It} (h : storeB l = true) (h2 : hasK l k = true) (h3 : l.find? (isK k) = some x) : dropOk l k = true ∧ getV l k = x := by
  have : dropOk l k = true := by rw [dropOk, h, h2]; rfl
  rw [getV, this, h3]; exact ⟨rfl, rfl⟩
/-- What a call hands back of an item: its value u, and true or false. -/
def GotI (w w' : World) (l : List It) (k : Int) (e : Ending) : Prop :=
  ∃ u, e = .returned (.tuple #[.agg #[.int .i64 (getV l k).key, u, .int .i64 (getV l k).tags], .bool (dropOk l k)]) ∧ OwnI w' w.heap.size w'.heap.size u (getV l k).pt ∧ Grow w w'

theorem cells3 {w0 w1 : World} {g : Nat} {t : TypeId} {x0 x1 x2 : Value} (a : Blk w0 g t #[x0, x1, x2]) (hg : Grow w0 w1) :
    w1.cell? ⟨g, 0, none⟩ = some x0 ∧ w1.cell? ⟨g, 1, none⟩ = some x1 ∧ w1.cell? ⟨g, 2, none⟩ = some x2 ∧ w1.frozen? ⟨g, 0, none⟩ = false ∧ w1.frozen? ⟨g, 1, none⟩ = false ∧ w1.frozen? ⟨g, 2, none⟩ = false := by
  have a' := a.below hg a.lt
  exact ⟨a'.cell 0, a'.cell 1, a'.cell 2, a'.frozen 0, a'.frozen 1, a'.frozen 2⟩

end Go.Proofs.Ytebiaodjodlloaa
