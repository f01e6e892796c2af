/- The contracts of the functions on vectors. -/
import Derived.Test.YtebiaodjodlloaaMem
import Derived.Test.YtebiaodjodlloaaPlain
import Derived.Deep.QuietTactic
import Derived.BigQuiet
namespace Go.Proofs.Ytebiaodjodlloaa
open Go Go.RowKit

set_option maxHeartbeats 400000 in
theorem impl_isVector (A : Option Addr) (xs : List Int) (c : Nat) (n : Int) (w : World) (h : RI w w.heap.size A xs) :
    Calls Try.prog 54 #[.slice A xs.length c, .int .i64 n] w fun e w' => e = .returned (.bool (vecB xs n)) ∧ w = w' := by
  have hl := h.len
  go_enter Try.func54, Try.ntmps54
  go_wp2
  go_loop [9] (fun i => ∃ k : Nat, k ≤ xs.length ∧ i = .int .i64 k ∧ (xs.take k).all okc = true) (fun i => xs.length - (intOf i).toNat)
  case atStart => exact ⟨0, Nat.zero_le _, rfl, rfl⟩
  case round =>
    obtain ⟨k, hk, rfl, hall⟩ := hrel
    have HA := Lib.hid hall
    clear hall
    by_cases hlt : k < xs.length
    · obtain ⟨ad, x, rfl, _, hc, hf1, hf2, hx⟩ := h.at_ hlt
      by_cases h1 : x < -100
      · go_wp2
        go_ret
        exact ⟨ret_bool (vecB_bad hx.out (.inl h1)).symm, rfl⟩
      · by_cases h2 : 100 < x
        · go_wp2
          go_ret
          exact ⟨ret_bool (vecB_bad hx.out (.inr h2)).symm, rfl⟩
        · go_wp2
          go_round
          case rel => exact ⟨k + 1, by omega, by go_num, all_step hx.out HA.out (by omega) (by omega)⟩
          case measure => simp [intOf]; omega
    · obtain rfl : k = xs.length := by omega
      go_wp2
      go_ret
      exact ⟨ret_bool (vecB_end HA.out).symm, rfl⟩

theorem spec_inRange (n lo hi : Int) (w : World) :
    Calls Try.prog 57 #[.int .i64 n, .int .i64 lo, .int .i64 hi] w fun e w' => e = .returned (.bool (inB n lo hi)) ∧ w = w' := by
  by_cases h1 : lo ≤ n
  · go_enter Try.func57, Try.ntmps57
    go_wp2
    go_ret
    exact ⟨ret_bool (by simp [inB, h1]), rfl⟩
  · go_enter Try.func57, Try.ntmps57
    go_wp2
    go_ret
    exact ⟨ret_bool (inB_no (.inl (by omega))).symm, rfl⟩

set_option maxHeartbeats 400000 in
theorem spec_allIn (A : Option Addr) (xs : List Int) (c : Nat) (lo hi : Int) (w : World) (h : RI w w.heap.size A xs) :
    Calls Try.prog 98 #[.slice A xs.length c, .int .i64 lo, .int .i64 hi] w fun e w' => e = .returned (.bool (allB xs lo hi)) ∧ w = w' := by
  have hl := h.len
  go_enter Try.func98, Try.ntmps98
  go_wp2
  go_loop [7] (fun i => ∃ k : Nat, k ≤ xs.length ∧ i = .int .i64 k ∧ (xs.take k).all (fun x => inB x lo hi) = true) (fun i => xs.length - (intOf i).toNat)
  case atStart => exact ⟨0, Nat.zero_le _, rfl, rfl⟩
  case round =>
    obtain ⟨k, hk, rfl, hall⟩ := hrel
    have HA := Lib.hid hall
    clear hall
    by_cases hlt : k < xs.length
    · obtain ⟨ad, x, rfl, _, hc, hf1, hf2, hx⟩ := h.at_ hlt
      cases hb : inB x lo hi
      · go_wp2_with (go_at_call 57; refine (spec_inRange _ _ _ _).mono ?_; rintro e w' ⟨rfl, rfl⟩)
        go_ret
        exact ⟨ret_bool (all_inB_bad hx.out hb).symm, rfl⟩
      · go_wp2_with (go_at_call 57; refine (spec_inRange _ _ _ _).mono ?_; rintro e w' ⟨rfl, rfl⟩)
        go_round
        case rel => exact ⟨k + 1, by omega, by go_num, all_inB_step hx.out HA.out hb⟩
        case measure => simp [intOf]; omega
    · obtain rfl : k = xs.length := by omega
      go_wp2
      go_ret
      have H := HA.out
      rw [List.take_length] at H
      exact ⟨ret_bool H.symm, rfl⟩

theorem spec_isVector (A : Option Addr) (xs : List Int) (c : Nat) (w : World) (h : RI w w.heap.size A xs) :
    Calls Try.prog 80 #[.slice A xs.length c] w fun e w' => e = .returned (.bool (vecB xs 4)) ∧ w = w' := by
  by_cases h4 : xs.length = 4
  · have H4 := Lib.hid h4
    have hd : ((xs.length : Int) == 4) = true := by rw [h4]; rfl
    clear h4
    go_enter Try.func80, Try.ntmps80
    go_wp2_with (go_at_call 98; refine (spec_allIn _ _ _ _ _ _ h).mono ?_; rintro e w' ⟨rfl, rfl⟩)
    go_ret
    exact ⟨ret_bool (vecB_len H4.out).symm, rfl⟩
  · have hd : ((xs.length : Int) == 4) = false := by rw [beq_eq_false_iff_ne]; omega
    go_enter Try.func80, Try.ntmps80
    go_wp2
    go_ret
    exact ⟨ret_bool (vecB_short h4).symm, rfl⟩

end Go.Proofs.Ytebiaodjodlloaa
