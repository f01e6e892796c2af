/- An argument that is a slice of integers or of bytes, opened: what it reads as. -/
import Derived.Test.YtebiaodjodlloaaMem
import Derived.ProofKit
import Derived.OpenShut
import Derived.ShutString
import Derived.ChangeOld
namespace Go.Proofs.Ytebiaodjodlloaa
open Go Go.ChangeShapes Go.WideShapes Go.ChangeAt Go.RowKit

theorem own : ownKnob Try.prog.godebug = none := by kernel_rfl
theorem laidOut : laidOutB Try.prog = true := by kernel_rfl

/-- An argument of type []int: its elements xs. -/
structure ArgI (w : World) (A : Option Addr) (n c : Nat) (xs : List Int) : Prop where
  len : xs.length = n
  rd : Reads w w.heap.size 1 A n (xs.map (Value.int .i64))
  fit : ∀ x ∈ xs, -9223372036854775808 ≤ x ∧ x ≤ 9223372036854775807
  cap : n ≤ c
  top : c ≤ maxLen
theorem ArgI.ri {w : World} {A : Option Addr} {n c : Nat} {xs : List Int} (h : ArgI w A n c xs) (hn : n ≤ 2000000) : RI w w.heap.size A xs :=
  ⟨by rw [h.len]; exact h.rd, h.fit, by rw [h.len]; exact hn⟩
/-- An argument of type []byte: its bytes. -/
structure ArgB (w : World) (A : Option Addr) (n c : Nat) (bs : List Int) : Prop where
  len : bs.length = n
  rd : Reads w w.heap.size 1 A n (bs.map (Value.int .u8))
  fit : ∀ x ∈ bs, 0 ≤ x ∧ x ≤ 255
  cap : n ≤ c
  top : c ≤ maxLen
theorem wf_i64 {x : Int} (h : (Lit.int .i64 x).wf = true) : -9223372036854775808 ≤ x ∧ x ≤ 9223372036854775807 := by
  have h1 : IntKind.i64.min = -9223372036854775808 := rfl
  have h2 : IntKind.i64.max = 9223372036854775807 := rfl
  simp only [Lit.wf, Bool.and_eq_true, decide_eq_true_eq] at h
  omega
theorem wf_u8 {x : Int} (h : (Lit.int .u8 x).wf = true) : 0 ≤ x ∧ x ≤ 255 := by
  have h1 : IntKind.u8.min = 0 := rfl
  have h2 : IntKind.u8.max = 255 := rfl
  simp only [Lit.wf, Bool.and_eq_true, decide_eq_true_eq] at h
  omega
theorem reads_take {w : World} {x : Addr} {k : IntKind} {zs : List Int} {len : Nat} (hl : len ≤ zs.length) (hcell : ∀ i, i < zs.length → w.cell? (x.add i) = some (.int k (zs.getD i 0))) :
    Reads w w.heap.size 1 (some x) len ((zs.take len).map (Value.int k)) := by
  refine ⟨by simp; omega, fun hn => ⟨x, rfl, ?_, fun j u hu => ?_⟩⟩
  · have := World.block_lt_of_cell? w _ (hcell 0 (by omega))
    rwa [block_of_add] at this
  · rw [List.getElem?_map] at hu
    obtain ⟨z, hz, rfl⟩ := Option.map_eq_some_iff.1 hu
    rw [List.getElem?_take] at hz
    split at hz
    · obtain ⟨hj, rfl⟩ := List.getElem?_eq_some_iff.1 hz
      rw [hcell j hj]
      simp [List.getD, List.getElem?_eq_getElem hj]
    · cases hz
section
variable {H : Type} {enc : TypeId × Value → H} {W : World} {a0 : Option Addr} {n c : Nat} {d : DataW H} {p : List MemPlace}
theorem argI_of (h : DataW.Trod enc Try.prog W 0 (fun _ => true) true 41 (.slice a0 n c) d p) : ∃ xs, ArgI W a0 n c xs := by
  obtain ⟨fuel, hf⟩ := h
  rcases open_ints Try.underlying41 Try.underlying3 (by kernel_rfl) hf with ⟨hcs, _⟩ | ⟨x, l, cc, zs, hcs, _, hl, hm, hz, _, hcell, hwz⟩
  · simp [Value.cells] at hcs
    obtain ⟨rfl, rfl, rfl⟩ := hcs
    exact ⟨[], rfl, Reads.none_, by simp, by simp, by simp [maxLen]⟩
  · simp [Value.cells] at hcs
    obtain ⟨rfl, rfl, rfl⟩ := hcs
    have hz' : zs.length = c := by simpa using hz
    exact ⟨zs.take n, by simp; omega, reads_take (by omega) hcell, fun y hy => wf_i64 (hwz y (List.mem_of_mem_take hy)), hl, hm⟩
theorem argB_of (h : DataW.Trod enc Try.prog W 0 (fun _ => true) true 22 (.slice a0 n c) d p) : ∃ bs, ArgB W a0 n c bs := by
  obtain ⟨fuel, hf⟩ := h
  rcases open_ints Try.underlying22 Try.underlying5 (by kernel_rfl) hf with ⟨hcs, _⟩ | ⟨x, l, cc, zs, hcs, _, hl, hm, hz, _, hcell, hwz⟩
  · simp [Value.cells] at hcs
    obtain ⟨rfl, rfl, rfl⟩ := hcs
    exact ⟨[], rfl, Reads.none_, by simp, by simp, by simp [maxLen]⟩
  · simp [Value.cells] at hcs
    obtain ⟨rfl, rfl, rfl⟩ := hcs
    have hz' : zs.length = c := by simpa using hz
    exact ⟨zs.take n, by simp; omega, reads_take (by omega) hcell, fun y hy => wf_u8 (hwz y (List.mem_of_mem_take hy)), hl, hm⟩
end
end Go.Proofs.Ytebiaodjodlloaa
