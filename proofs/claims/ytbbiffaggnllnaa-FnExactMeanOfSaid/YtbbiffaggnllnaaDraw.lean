/- The contracts of the functions that draw the arguments of the laws on vectors; and of the laws' own comparison of two slices. -/
import Derived.Test.YtbbiffaggnllnaaRead
import Derived.Test.YtbbiffaggnllnaaOpen
import Derived.Test.YtbbiffaggnllnaaLawAid
namespace Go.Proofs.Ytbbiffaggnllnaa
set_option linter.unusedVariables false
open Go Go.RowKit

theorem grow_asked {a b c : World} (h : Grow a b) (k : Asked a.heap.size b c) : Grow a c :=
  ⟨k.os.trans h.os, k.tape.trans h.tape, k.output.trans h.output, Nat.le_trans h.size k.size, fun j hj => (k.block j (Nat.lt_of_lt_of_le hj h.size) (.inl hj)).trans (h.block j hj)⟩
/-- A drawn vector. -/
structure DrawnI (w w' : World) (v : Value) (xs : List Int) : Prop where
  vec : VecI w' w.heap.size w'.heap.size v xs
  small : Small xs
theorem spec_reader_of {A : Option Addr} {n c : Nat} {bs : List Int} {w : World} (h : ArgB w A n c bs) :
    Calls Try.prog 80 #[.slice A n c] w fun e w' => e = .returned (.pointer (some ⟨w.heap.size, 0, none⟩)) ∧ Rdr w' w.heap.size 0 ∧ Grow w w' :=
  spec_newReader A n c bs w h.len h.rd h.fit h.cap h.top

set_option maxHeartbeats 400000 in
theorem laws_equalInts (A B : Option Addr) (xs ys : List Int) (c d : Nat) (w : World) (hx : RI w w.heap.size A xs) (hy : RI w w.heap.size B ys) :
    Calls Try.prog 27 #[.slice A xs.length c, .slice B ys.length d] w fun e w' => e = .returned (.bool (eqB xs ys)) ∧ ∃ n, w' = w.drewN n := by
  have hl := hx.len
  have hl' := hy.len
  by_cases hlen : xs.length = ys.length
  · have HL := Lib.hid hlen
    have hne : ((xs.length : Int) != (ys.length : Int)) = false := by rw [hlen]; simp
    have hle : xs.length ≤ ys.length := by omega
    clear hlen
    go_enter Try.func27, Try.ntmps27
    go_wp2
    go_loopw [5] (fun i wr => ∃ k n : Nat, k ≤ xs.length ∧ i = .int .i64 k ∧ xs.take k = ys.take k ∧ wr = w.drewN n) (fun i _ => xs.length - (intOf i).toNat)
    case atStart => exact ⟨0, 0, Nat.zero_le _, rfl, by simp, by simp [World.drewN]⟩
    case round =>
      obtain ⟨k, n, hk, rfl, htk, rfl⟩ := hrel
      have HT := Lib.hid htk
      clear htk
      by_cases hlt : k < xs.length
      · have hlt2 : k < ys.length := by omega
        obtain ⟨ad, x, rfl, _, hcx, hf1, hf2, hkx⟩ := hx.at_ hlt
        obtain ⟨bd, y, rfl, _, hcy, hg1, hg2, hky⟩ := hy.at_ hlt2
        by_cases hxy : x = y
        · have HX := Lib.hid hxy
          have hn : (x != y) = false := by rw [hxy]; simp
          clear hxy
          go_wp2
          go_quiet (fail)
          go_wp2
          go_roundw
          case rel => exact ⟨k + 1, _, by omega, by go_num, eqB_step hkx.out hky.out HX.out HT.out, rfl⟩
          case measure => simp [intOf]; omega
        · have hn : (x != y) = true := by simpa using hxy
          go_wp2
          go_quiet (fail)
          go_wp2
          go_ret
          exact ⟨ret_bool (eqB_at hkx.out hky.out hxy).symm, _, by first | rfl | exact World.drewN_drewN _ _ _⟩
      · obtain rfl : k = xs.length := by omega
        go_wp2
        go_ret
        exact ⟨ret_bool (eqB_end HL.out HT.out).symm, _, rfl⟩
  · have hne : ((xs.length : Int) != (ys.length : Int)) = true := by simp; omega
    go_enter Try.func27, Try.ntmps27
    go_wp2
    go_ret
    exact ⟨ret_bool (eqB_len hlen).symm, 0, by simp [World.drewN]⟩
end Go.Proofs.Ytbbiffaggnllnaa
