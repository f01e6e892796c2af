/- The contract of the program's closest pair. -/
import Derived.Test.YtebiaodjodlloaaPair
import Derived.BigRegion
import Derived.Deep.DeepCutAuto
import Derived.Test.YtebiaodjodlloaaGet
namespace Go.Proofs.Ytebiaodjodlloaa
set_option linter.unusedVariables false
open Go Go.RowKit

def cellsI (x : It) (A : Option Addr) (c : Nat) : Array Value := #[.int .i64 x.key, .slice A x.pt.length c, .int .i64 x.tags]
/-- The two variables hold the items p and q of the list. -/
structure Two (w : World) (l : List It) (ga gb : Nat) (x y : It) (wc : World) (Ap : Option Addr) (cp : Nat) (Aq : Option Addr) (cq : Nat) : Prop where
  ba : Blk wc ga 43 #[.int .i64 x.key, .slice Ap x.pt.length cp, .int .i64 x.tags]
  bb : Blk wc gb 43 #[.int .i64 y.key, .slice Aq y.pt.length cq, .int .i64 y.tags]
  ra : RI w w.heap.size Ap x.pt
  rb : RI w w.heap.size Aq y.pt
theorem Two.grow {w : World} {l : List It} {ga gb : Nat} {x y : It} {wc wd : World} {Ap Aq : Option Addr} {cp cq : Nat} (h : Two w l ga gb x y wc Ap cp Aq cq) (g : Grow wc wd) : Two w l ga gb x y wd Ap cp Aq cq :=
  ⟨h.ba.below g h.ba.lt, h.bb.below g h.bb.lt, h.ra, h.rb⟩
theorem Blk.set3 {w : World} {g : Nat} {t : TypeId} {a b c : Value} (h : Blk w g t #[a, b, c]) (x y z : Value) : Blk (((w.setCell ⟨g, 0, none⟩ x).setCell ⟨g, 1, none⟩ y).setCell ⟨g, 2, none⟩ z) g t #[x, y, z] := by
  have := ((h.set_ 0 x).set_ 1 y).set_ 2 z
  simpa using this
theorem Blk.far3 {w : World} {g k : Nat} {t : TypeId} {cs : Array Value} (h : Blk w g t cs) (hk : g ≠ k) (x y z : Value) : Blk (((w.setCell ⟨k, 0, none⟩ x).setCell ⟨k, 1, none⟩ y).setCell ⟨k, 2, none⟩ z) g t cs :=
  ((h.far hk x).far hk y).far hk z
theorem Grow.set3 {w0 w : World} {k : Nat} (h : Grow w0 w) (hk : w0.heap.size ≤ k) (x y z : Value) : Grow w0 (((w.setCell ⟨k, 0, none⟩ x).setCell ⟨k, 1, none⟩ y).setCell ⟨k, 2, none⟩ z) :=
  ((h.setCell (p := ⟨k, 0, none⟩) hk x).setCell (p := ⟨k, 1, none⟩) hk y).setCell (p := ⟨k, 2, none⟩) hk z
end Go.Proofs.Ytebiaodjodlloaa
