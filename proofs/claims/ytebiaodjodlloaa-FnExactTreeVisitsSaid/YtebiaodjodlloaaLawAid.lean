/- The contracts of the laws' own helpers on slices of integers. -/
import Derived.Test.YtebiaodjodlloaaVec
import Derived.Deep.QuietTactic
import Derived.BigQuiet
namespace Go.Proofs.Ytebiaodjodlloaa
open Go Go.RowKit

theorem toIntS_start (n : Nat) : (madeCells (Value.int .i64 0).cells (n * 1)).toList = (List.replicate n (0 : Int)).map (Value.int .i64) := by
  rw [Nat.mul_one, List.map_replicate]; exact toList_madeCells_one _ _
def mixI (xs : List Int) (k : Nat) : List Int := xs.take k ++ List.replicate (xs.length - k) 0
theorem mixI_len (xs : List Int) (k : Nat) (hk : k ≤ xs.length) : (mixI xs k).length = xs.length := by simp [mixI]; omega
theorem mixI_step (xs : List Int) (k : Nat) {x : Int} (hx : xs[k]? = some x) : ((mixI xs k).map (Value.int .i64)).set k (.int .i64 x) = (mixI xs (k + 1)).map (Value.int .i64) := by
  have hk : k < xs.length := (List.getElem?_eq_some_iff.1 hx).1
  have e : xs.length - k = (xs.length - (k + 1)) + 1 := by omega
  rw [← List.map_set, mixI, mixI, e, List.replicate_succ, List.set_append_right _ _ (by simp; omega), take_step hx]
  simp [Nat.min_eq_left (Nat.le_of_lt hk)]

set_option maxHeartbeats 400000 in
theorem laws_toIntS (A : Option Addr) (xs : List Int) (c : Nat) (w : World) (h : RI w w.heap.size A xs) :
    Calls Try.prog 30 #[.slice A xs.length c] w fun e w' => ∃ v, e = .returned v ∧ OwnI w' w.heap.size w'.heap.size v xs ∧ Grow w w' := by
  have hl := h.len
  obtain ⟨i0, hi0, hz0, hz1, hz2⟩ := info_parts info_int
  go_enter Try.func30, Try.ntmps30
  go_wp2_with (at_make; refine wpList_make_full _ rfl _ _ _ rfl w.heap.size 3 i0 (.int .i64 0) 1 Try.underlying41 hi0 hz0 hz1 .i64 .i64 _ _ xs.length rfl rfl rfl rfl (by rw [hz2]; omega) (by unfold maxLen; omega) (Nat.le_refl _) ?_; intro w1 hown1 hgr1)
  rw [toIntS_start] at hown1
  have hb1 : Below w.heap.size w w1 := (Below.refl _ _).grown hgr1 (Nat.le_refl _) (by simp)
  clear hgr1
  go_loopw [4] (fun i wr => ∃ k : Nat, k ≤ xs.length ∧ i = .int .i64 k ∧ wr.ownsRow w.heap.size 3 1 (.slice (some ⟨w.heap.size, 0, none⟩) xs.length xs.length) xs.length ((mixI xs k).map (Value.int .i64)) ∧ Below w.heap.size w wr) (fun i _ => xs.length - (intOf i).toNat)
  case atStart => exact ⟨0, Nat.zero_le _, rfl, by simpa [mixI] using hown1, hb1⟩
  case round =>
    obtain ⟨k, hk, rfl, hown, hb⟩ := hrel
    by_cases hlt : k < xs.length
    · obtain ⟨ad, x, rfl, had, hc, hf1, hf2, hx⟩ := (h.below hb).at_ hlt
      have hz : k < (mixI xs k).length := by rw [mixI_len xs k hk]; exact hlt
      have hd : wr.cell? ⟨w.heap.size, k, none⟩ = some (.int .i64 ((mixI xs k)[k])) := by
        rw [hown.cellAt k (by omega), List.getElem?_map, List.getElem?_eq_getElem hz]; rfl
      have hfz : wr.frozen? ⟨w.heap.size, k, none⟩ = false := hown.frozenAt k
      have hst := hown.stored k (.int .i64 x)
      rw [mixI_step xs k hx.out] at hst
      have hb2 : Below w.heap.size w (wr.setCell ⟨w.heap.size, k, none⟩ (.int .i64 x)) := hb.setCell (Nat.le_refl _) _
      clear hown hb hown1 hb1
      go_wp2
      go_roundw
      case rel => exact ⟨k + 1, by omega, by go_num, hst.1, hb2⟩
      case measure => simp [intOf]; omega
    · obtain rfl : k = xs.length := by omega
      clear hown1 hb1
      go_wp2
      go_ret
      exact ⟨_, rfl, OwnI.mk' (by simpa [mixI] using hown) h.fit h.len, hb⟩

theorem eqB_len {xs ys : List Int} (h : ¬ xs.length = ys.length) : eqB xs ys = false := by
  simp only [eqB, decide_eq_false_iff_not]; intro e; exact h (by rw [e])
theorem eqB_at {xs ys : List Int} {k : Nat} {x y : Int} (hx : xs[k]? = some x) (hy : ys[k]? = some y) (h : ¬ x = y) : eqB xs ys = false := by
  simp only [eqB, decide_eq_false_iff_not]; intro e; subst e; rw [hx] at hy; exact h (by injection hy)
theorem eqB_step {xs ys : List Int} {k : Nat} {x y : Int} (hx : xs[k]? = some x) (hy : ys[k]? = some y) (h : x = y) (ht : xs.take k = ys.take k) : xs.take (k + 1) = ys.take (k + 1) := by
  rw [take_step hx, take_step hy, ht, h]
theorem eqB_end {xs ys : List Int} (hl : xs.length = ys.length) (ht : xs.take xs.length = ys.take xs.length) : eqB xs ys = true := by
  rw [List.take_length, hl, List.take_length] at ht
  simp [eqB, ht]
theorem eqB_self (xs : List Int) : eqB xs xs = true := by simp [eqB]

set_option maxHeartbeats 400000 in
theorem laws_eqIntS (A B : Option Addr) (xs ys : List Int) (c d : Nat) (w : World) (hx : RI w w.heap.size A xs) (hy : RI w w.heap.size B ys) :
    Calls Try.prog 33 #[.slice A xs.length c, .slice B ys.length d] w fun e w' => e = .returned (.bool (eqB xs ys)) ∧ ∃ n, w' = w.drewN n := by
  have hl := hx.len
  have hl' := hy.len
  by_cases hlen : xs.length = ys.length
  · have HL := Lib.hid hlen
    have hne : ((xs.length : Int) != (ys.length : Int)) = false := by rw [hlen]; simp
    have hle : xs.length ≤ ys.length := by omega
    clear hlen
    go_enter Try.func33, Try.ntmps33
    go_wp2
    go_loopw [5] (fun i wr => ∃ k n : Nat, k ≤ xs.length ∧ i = .int .i64 k ∧ xs.take k = ys.take k ∧ wr = w.drewN n) (fun i _ => xs.length - (intOf i).toNat)
    case atStart => exact ⟨0, 0, Nat.zero_le _, rfl, by simp, by simp [World.drewN]⟩
    case round =>
      obtain ⟨k, n, hk, rfl, htk, rfl⟩ := hrel
      have HT := Lib.hid htk
      clear htk
      by_cases hlt : k < xs.length
      · have hlt2 : k < ys.length := by omega
        obtain ⟨ad, x, rfl, _, hcx, hf1, hf2, hkx⟩ := hx.at_ hlt
        obtain ⟨bd, y, rfl, _, hcy, hg1, hg2, hky⟩ := hy.at_ hlt2
        by_cases hxy : x = y
        · have HX := Lib.hid hxy
          have hn : (x != y) = false := by rw [hxy]; simp
          clear hxy
          go_wp2
          go_quiet (fail)
          go_wp2
          go_roundw
          case rel => exact ⟨k + 1, _, by omega, by go_num, eqB_step hkx.out hky.out HX.out HT.out, rfl⟩
          case measure => simp [intOf]; omega
        · have hn : (x != y) = true := by simpa using hxy
          go_wp2
          go_quiet (fail)
          go_wp2
          go_ret
          exact ⟨ret_bool (eqB_at hkx.out hky.out hxy).symm, _, by first | rfl | exact World.drewN_drewN _ _ _⟩
      · obtain rfl : k = xs.length := by omega
        go_wp2
        go_ret
        exact ⟨ret_bool (eqB_end HL.out HT.out).symm, _, rfl⟩
  · have hne : ((xs.length : Int) != (ys.length : Int)) = true := by simp; omega
    go_enter Try.func33, Try.ntmps33
    go_wp2
    go_ret
    exact ⟨ret_bool (eqB_len hlen).symm, 0, by simp [World.drewN]⟩
end Go.Proofs.Ytebiaodjodlloaa
