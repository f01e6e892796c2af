/- The contracts of the functions that draw the arguments of the laws on vectors; and of the laws' own comparison of two slices. -/
import Derived.Test.YtebiaodjodlloaaRead
import Derived.Test.YtebiaodjodlloaaOpen
import Derived.Test.YtebiaodjodlloaaLawAid
namespace Go.Proofs.Ytebiaodjodlloaa
set_option linter.unusedVariables false
open Go Go.RowKit

theorem grow_asked {a b c : World} (h : Grow a b) (k : Asked a.heap.size b c) : Grow a c :=
  ⟨k.os.trans h.os, k.tape.trans h.tape, k.output.trans h.output, Nat.le_trans h.size k.size, fun j hj => (k.block j (Nat.lt_of_lt_of_le hj h.size) (.inl hj)).trans (h.block j hj)⟩
/-- A drawn vector. -/
structure DrawnI (w w' : World) (v : Value) (xs : List Int) : Prop where
  vec : VecI w' w.heap.size w'.heap.size v xs
  small : Small xs
theorem spec_reader_of {A : Option Addr} {n c : Nat} {bs : List Int} {w : World} (h : ArgB w A n c bs) :
    Calls Try.prog 66 #[.slice A n c] w fun e w' => e = .returned (.pointer (some ⟨w.heap.size, 0, none⟩)) ∧ Rdr w' w.heap.size 0 ∧ Grow w w' :=
  spec_newReader A n c bs w h.len h.rd h.fit h.cap h.top

end Go.Proofs.Ytebiaodjodlloaa
