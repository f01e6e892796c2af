/- The contracts of the functions that draw the arguments of the laws on vectors; and of the laws' own comparison of two slices. -/
import Derived.Test.YtnmondecnanmcaaRead
import Derived.Test.YtnmondecnanmcaaOpen
import Derived.Test.YtnmondecnanmcaaLawAid
namespace Go.Proofs.Ytnmondecnanmcaa
set_option linter.unusedVariables false
open Go Go.RowKit

theorem grow_asked {a b c : World} (h : Grow a b) (k : Asked a.heap.size b c) : Grow a c :=
  ⟨k.os.trans h.os, k.tape.trans h.tape, k.output.trans h.output, Nat.le_trans h.size k.size, fun j hj => (k.block j (Nat.lt_of_lt_of_le hj h.size) (.inl hj)).trans (h.block j hj)⟩
/-- A drawn vector. -/
structure DrawnI (w w' : World) (v : Value) (xs : List Int) : Prop where
  vec : VecI w' w.heap.size w'.heap.size v xs
  small : Small xs
theorem spec_reader_of {A : Option Addr} {n c : Nat} {bs : List Int} {w : World} (h : ArgB w A n c bs) :
    Calls Try.prog 52 #[.slice A n c] w fun e w' => e = .returned (.pointer (some ⟨w.heap.size, 0, none⟩)) ∧ Rdr w' w.heap.size 0 ∧ Grow w w' :=
  spec_newReader A n c bs w h.len h.rd h.fit h.cap h.top

theorem spec_DrawValidVector (A : Option Addr) (n c : Nat) (bs : List Int) (w : World) (h : ArgB w A n c bs) :
    Calls Try.prog 30 #[.slice A n c] w fun e w' => ∃ v xs, e = .returned v ∧ DrawnI w w' v xs ∧ Grow w w' := by
  go_enter Try.func30, Try.ntmps30
  go_wp2_with fail
  refine (spec_reader_of h).mono ?_
  rintro e w1 ⟨rfl, r1, g1⟩
  go_wp2_with fail
  refine (spec_anyVector _ _ _ r1 (by omega)).mono ?_
  rintro e w2 ⟨v, xs, rfl, o2, s2, r2, k2⟩
  go_wp2_with fail
  go_ret
  exact ⟨v, xs, rfl, ⟨o2.wider g1.size (Nat.le_refl _) (Nat.le_refl _), s2⟩, grow_asked g1 k2⟩

theorem spec_DrawDotOf (A : Option Addr) (n c : Nat) (bs : List Int) (w : World) (h : ArgB w A n c bs) :
    Calls Try.prog 37 #[.slice A n c] w fun e w' => ∃ v u xs ys, e = .returned (.tuple #[v, u]) ∧ DrawnI w w' v xs ∧ DrawnI w w' u ys ∧ Grow w w' := by
  go_enter Try.func37, Try.ntmps37
  go_wp2_with fail
  refine (spec_reader_of h).mono ?_
  rintro e w1 ⟨rfl, r1, g1⟩
  have l1 := r1.lt
  go_wp2_with fail
  refine (spec_anyVector _ _ _ r1 (by omega)).mono ?_
  rintro e w2 ⟨v, xs, rfl, o2, s2, r2, k2⟩
  go_wp2_with fail
  refine (spec_anyVector _ _ _ r2 (by omega)).mono ?_
  rintro e w3 ⟨u, ys, rfl, o3, s3, r3, k3⟩
  go_wp2_with fail
  go_ret2
  have e2 := k2.size
  have e3 := k3.size
  have e1 := g1.size
  exact ⟨v, u, xs, ys, rfl, ⟨(o2.turn k3 (.inr (by omega))).wider e1 (by omega) (Nat.le_refl _), s2⟩, ⟨o3.wider (by omega) (Nat.le_refl _) (Nat.le_refl _), s3⟩, grow_asked g1 (k2.trans k3)⟩

theorem spec_DrawDistance (A : Option Addr) (n c : Nat) (bs : List Int) (w : World) (h : ArgB w A n c bs) :
    Calls Try.prog 40 #[.slice A n c] w fun e w' => ∃ kind v u xs ys, e = .returned (.tuple #[.int .i64 kind, v, u]) ∧ 0 ≤ kind ∧ kind ≤ 5 ∧ DrawnI w w' v xs ∧ DrawnI w w' u ys ∧ Grow w w' := by
  go_enter Try.func40, Try.ntmps40
  go_wp2_with fail
  refine (spec_reader_of h).mono ?_
  rintro e w0 ⟨rfl, r0, g0⟩
  have l0 := r0.lt
  go_wp2_with fail
  refine (spec_anyKind _ _ _ r0 (by omega)).mono ?_
  rintro e w1 ⟨kind, rfl, k0, k5, r1, k1⟩
  go_wp2_with fail
  refine (spec_anyVector _ _ _ r1 (by omega)).mono ?_
  rintro e w2 ⟨v, xs, rfl, o2, s2, r2, k2⟩
  go_wp2_with fail
  refine (spec_anyVector _ _ _ r2 (by omega)).mono ?_
  rintro e w3 ⟨u, ys, rfl, o3, s3, r3, k3⟩
  go_wp2_with fail
  go_ret3
  have e0 := g0.size
  have e1 := k1.size
  have e2 := k2.size
  have e3 := k3.size
  exact ⟨kind, v, u, xs, ys, rfl, k0, k5, ⟨(o2.turn k3 (.inr (by omega))).wider (by omega) (by omega) (Nat.le_refl _), s2⟩, ⟨o3.wider (by omega) (Nat.le_refl _) (Nat.le_refl _), s3⟩, grow_asked g0 (k1.trans (k2.trans k3))⟩

theorem spec_DrawMoveTo (A : Option Addr) (n c : Nat) (bs : List Int) (w : World) (h : ArgB w A n c bs) :
    Calls Try.prog 38 #[.slice A n c] w fun e w' => ∃ v u p xs ys, e = .returned (.tuple #[v, u, .int .i64 p]) ∧ -1 ≤ p ∧ p ≤ 1001 ∧ DrawnI w w' v xs ∧ DrawnI w w' u ys ∧ Grow w w' := by
  go_enter Try.func38, Try.ntmps38
  go_wp2_with fail
  refine (spec_reader_of h).mono ?_
  rintro e w1 ⟨rfl, r1, g1⟩
  have l1 := r1.lt
  go_wp2_with fail
  refine (spec_anyVector _ _ _ r1 (by omega)).mono ?_
  rintro e w2 ⟨v, xs, rfl, o2, s2, r2, k2⟩
  go_wp2_with fail
  refine (spec_anyVector _ _ _ r2 (by omega)).mono ?_
  rintro e w3 ⟨u, ys, rfl, o3, s3, r3, k3⟩
  have o := lit_ri w3 [0, 500, 1000, 333, 1, 1001, -1] (by decide) (by decide)
  have l3 := r3.lt
  have hgr : Grow w3 (w3.alloc (.cells #[.int .i64 0, .int .i64 500, .int .i64 1000, .int .i64 333, .int .i64 1, .int .i64 1001, .int .i64 (-1)] 3)) := (Below.refl _ _).alloc (Nat.le_refl _) _
  go_wp2_with fail
  refine (reader_one _ _ _ _ [0, 500, 1000, 333, 1, 1001, -1] _ (r3.grow hgr) (by omega) o.ri (fun ad had => by injection had with had; subst had; show w3.heap.size ≠ w.heap.size; omega) (by simp) (by simp)).mono ?_
  rintro e w4 ⟨p, rfl, hp, r4, k4⟩
  have hp4 : -1 ≤ p ∧ p ≤ 1001 := by simp at hp; omega
  clear hp o
  go_wp2_with fail
  go_ret3
  have e1 := g1.size
  have e2 := k2.size
  have e3 := k3.size
  have e4 := hgr.size
  have e5 := k4.size
  exact ⟨v, u, p, xs, ys, rfl, hp4.1, hp4.2, ⟨(((o2.turn k3 (.inr (by omega))).grow hgr).turn k4 (.inr (by omega))).wider (by omega) (by omega) (Nat.le_refl _), s2⟩,
    ⟨((o3.grow hgr).turn k4 (.inr (by omega))).wider (by omega) (by omega) (Nat.le_refl _), s3⟩, grow_asked g1 (k2.trans (k3.trans ((Asked.of_grow hgr).trans k4)))⟩

set_option maxHeartbeats 400000 in
theorem laws_equalInts (A B : Option Addr) (xs ys : List Int) (c d : Nat) (w : World) (hx : RI w w.heap.size A xs) (hy : RI w w.heap.size B ys) :
    Calls Try.prog 39 #[.slice A xs.length c, .slice B ys.length d] w fun e w' => e = .returned (.bool (eqB xs ys)) ∧ ∃ n, w' = w.drewN n := by
  have hl := hx.len
  have hl' := hy.len
  by_cases hlen : xs.length = ys.length
  · have HL := Lib.hid hlen
    have hne : ((xs.length : Int) != (ys.length : Int)) = false := by rw [hlen]; simp
    have hle : xs.length ≤ ys.length := by omega
    clear hlen
    go_enter Try.func39, Try.ntmps39
    go_wp2
    go_loopw [5] (fun i wr => ∃ k n : Nat, k ≤ xs.length ∧ i = .int .i64 k ∧ xs.take k = ys.take k ∧ wr = w.drewN n) (fun i _ => xs.length - (intOf i).toNat)
    case atStart => exact ⟨0, 0, Nat.zero_le _, rfl, by simp, by simp [World.drewN]⟩
    case round =>
      obtain ⟨k, n, hk, rfl, htk, rfl⟩ := hrel
      have HT := Lib.hid htk
      clear htk
      by_cases hlt : k < xs.length
      · have hlt2 : k < ys.length := by omega
        obtain ⟨ad, x, rfl, _, hcx, hf1, hf2, hkx⟩ := hx.at_ hlt
        obtain ⟨bd, y, rfl, _, hcy, hg1, hg2, hky⟩ := hy.at_ hlt2
        by_cases hxy : x = y
        · have HX := Lib.hid hxy
          have hn : (x != y) = false := by rw [hxy]; simp
          clear hxy
          go_wp2
          go_quiet (fail)
          go_wp2
          go_roundw
          case rel => exact ⟨k + 1, _, by omega, by go_num, eqB_step hkx.out hky.out HX.out HT.out, rfl⟩
          case measure => simp [intOf]; omega
        · have hn : (x != y) = true := by simpa using hxy
          go_wp2
          go_quiet (fail)
          go_wp2
          go_ret
          exact ⟨ret_bool (eqB_at hkx.out hky.out hxy).symm, _, by first | rfl | exact World.drewN_drewN _ _ _⟩
      · obtain rfl : k = xs.length := by omega
        go_wp2
        go_ret
        exact ⟨ret_bool (eqB_end HL.out HT.out).symm, _, rfl⟩
  · have hne : ((xs.length : Int) != (ys.length : Int)) = true := by simp; omega
    go_enter Try.func39, Try.ntmps39
    go_wp2
    go_ret
    exact ⟨ret_bool (eqB_len hlen).symm, 0, by simp [World.drewN]⟩
end Go.Proofs.Ytnmondecnanmcaa
