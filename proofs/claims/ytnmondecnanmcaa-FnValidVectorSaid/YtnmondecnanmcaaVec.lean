/- The contracts of the functions on vectors. -/
import Derived.Test.YtnmondecnanmcaaMem
import Derived.Test.YtnmondecnanmcaaPlain
import Derived.Deep.QuietTactic
import Derived.BigQuiet
namespace Go.Proofs.Ytnmondecnanmcaa
open Go Go.RowKit

set_option maxHeartbeats 400000 in
theorem impl_isVector (A : Option Addr) (xs : List Int) (c : Nat) (n : Int) (w : World) (h : RI w w.heap.size A xs) :
    Calls Try.prog 49 #[.slice A xs.length c, .int .i64 n] w fun e w' => e = .returned (.bool (vecB xs n)) ∧ w = w' := by
  have hl := h.len
  go_enter Try.func49, Try.ntmps49
  go_wp2
  go_loop [9] (fun i => ∃ k : Nat, k ≤ xs.length ∧ i = .int .i64 k ∧ (xs.take k).all okc = true) (fun i => xs.length - (intOf i).toNat)
  case atStart => exact ⟨0, Nat.zero_le _, rfl, rfl⟩
  case round =>
    obtain ⟨k, hk, rfl, hall⟩ := hrel
    have HA := Lib.hid hall
    clear hall
    by_cases hlt : k < xs.length
    · obtain ⟨ad, x, rfl, _, hc, hf1, hf2, hx⟩ := h.at_ hlt
      by_cases h1 : x < -100
      · go_wp2
        go_ret
        exact ⟨ret_bool (vecB_bad hx.out (.inl h1)).symm, rfl⟩
      · by_cases h2 : 100 < x
        · go_wp2
          go_ret
          exact ⟨ret_bool (vecB_bad hx.out (.inr h2)).symm, rfl⟩
        · go_wp2
          go_round
          case rel => exact ⟨k + 1, by omega, by go_num, all_step hx.out HA.out (by omega) (by omega)⟩
          case measure => simp [intOf]; omega
    · obtain rfl : k = xs.length := by omega
      go_wp2
      go_ret
      exact ⟨ret_bool (vecB_end HA.out).symm, rfl⟩

theorem impl_ValidVector (A : Option Addr) (xs : List Int) (c : Nat) (w : World) (h : RI w w.heap.size A xs) :
    Calls Try.prog 26 #[.slice A xs.length c] w fun e w' => e = .returned (.bool (vecB xs 4)) ∧ w = w' := by
  go_enter Try.func26, Try.ntmps26
  go_wp2_with (go_at_call 49; refine (impl_isVector _ _ _ _ _ h).mono ?_; rintro e w' ⟨rfl, rfl⟩)
  go_ret
  exact ⟨rfl, rfl⟩

theorem spec_inRange (n lo hi : Int) (w : World) :
    Calls Try.prog 53 #[.int .i64 n, .int .i64 lo, .int .i64 hi] w fun e w' => e = .returned (.bool (inB n lo hi)) ∧ w = w' := by
  by_cases h1 : lo ≤ n
  · go_enter Try.func53, Try.ntmps53
    go_wp2
    go_ret
    exact ⟨ret_bool (by simp [inB, h1]), rfl⟩
  · go_enter Try.func53, Try.ntmps53
    go_wp2
    go_ret
    exact ⟨ret_bool (inB_no (.inl (by omega))).symm, rfl⟩

set_option maxHeartbeats 400000 in
theorem spec_allIn (A : Option Addr) (xs : List Int) (c : Nat) (lo hi : Int) (w : World) (h : RI w w.heap.size A xs) :
    Calls Try.prog 66 #[.slice A xs.length c, .int .i64 lo, .int .i64 hi] w fun e w' => e = .returned (.bool (allB xs lo hi)) ∧ w = w' := by
  have hl := h.len
  go_enter Try.func66, Try.ntmps66
  go_wp2
  go_loop [7] (fun i => ∃ k : Nat, k ≤ xs.length ∧ i = .int .i64 k ∧ (xs.take k).all (fun x => inB x lo hi) = true) (fun i => xs.length - (intOf i).toNat)
  case atStart => exact ⟨0, Nat.zero_le _, rfl, rfl⟩
  case round =>
    obtain ⟨k, hk, rfl, hall⟩ := hrel
    have HA := Lib.hid hall
    clear hall
    by_cases hlt : k < xs.length
    · obtain ⟨ad, x, rfl, _, hc, hf1, hf2, hx⟩ := h.at_ hlt
      cases hb : inB x lo hi
      · go_wp2_with (go_at_call 53; refine (spec_inRange _ _ _ _).mono ?_; rintro e w' ⟨rfl, rfl⟩)
        go_ret
        exact ⟨ret_bool (all_inB_bad hx.out hb).symm, rfl⟩
      · go_wp2_with (go_at_call 53; refine (spec_inRange _ _ _ _).mono ?_; rintro e w' ⟨rfl, rfl⟩)
        go_round
        case rel => exact ⟨k + 1, by omega, by go_num, all_inB_step hx.out HA.out hb⟩
        case measure => simp [intOf]; omega
    · obtain rfl : k = xs.length := by omega
      go_wp2
      go_ret
      have H := HA.out
      rw [List.take_length] at H
      exact ⟨ret_bool H.symm, rfl⟩

theorem spec_isVector (A : Option Addr) (xs : List Int) (c : Nat) (w : World) (h : RI w w.heap.size A xs) :
    Calls Try.prog 48 #[.slice A xs.length c] w fun e w' => e = .returned (.bool (vecB xs 4)) ∧ w = w' := by
  by_cases h4 : xs.length = 4
  · have H4 := Lib.hid h4
    have hd : ((xs.length : Int) == 4) = true := by rw [h4]; rfl
    clear h4
    go_enter Try.func48, Try.ntmps48
    go_wp2_with (go_at_call 66; refine (spec_allIn _ _ _ _ _ _ h).mono ?_; rintro e w' ⟨rfl, rfl⟩)
    go_ret
    exact ⟨ret_bool (vecB_len H4.out).symm, rfl⟩
  · have hd : ((xs.length : Int) == 4) = false := by rw [beq_eq_false_iff_ne]; omega
    go_enter Try.func48, Try.ntmps48
    go_wp2
    go_ret
    exact ⟨ret_bool (vecB_short h4).symm, rfl⟩

theorem spec_ValidVector (A : Option Addr) (xs : List Int) (c : Nat) (w : World) (h : RI w w.heap.size A xs) :
    Calls Try.prog 24 #[.slice A xs.length c] w fun e w' => e = .returned (.bool (vecB xs 4)) ∧ w = w' := by
  go_enter Try.func24, Try.ntmps24
  go_wp2_with (go_at_call 48; refine (spec_isVector _ _ _ _ h).mono ?_; rintro e w' ⟨rfl, rfl⟩)
  go_ret
  exact ⟨rfl, rfl⟩

set_option maxHeartbeats 400000 in
theorem impl_floorDiv (a b : Int) (w : World) (h1 : -1000000000 ≤ a) (h2 : a ≤ 1000000000) (hb : 0 < b) (hb2 : b ≤ 1000000) :
    Calls Try.prog 55 #[.int .i64 a, .int .i64 b] w fun e w' => e = .returned (.int .i64 (a / b)) ∧ w = w' := by
  have hq := tdiv_bd (c := 1000000000) b h1 h2
  obtain ⟨hq1, hq2⟩ := hq
  have h0 : (b == 0) = false := by rw [beq_eq_false_iff_ne]; omega
  by_cases hm : a.tmod b < 0
  · go_enter Try.func55, Try.ntmps55
    go_wp2
    go_ret
    exact ⟨ret_int (fdiv_neg hb hm), rfl⟩
  · go_enter Try.func55, Try.ntmps55
    go_wp2
    go_ret
    exact ⟨ret_int (fdiv_pos hb (Int.not_lt.2 hm)), rfl⟩


set_option maxHeartbeats 400000 in
theorem spec_floorDiv (a b : Int) (w : World) (h1 : -1000000000 ≤ a) (h2 : a ≤ 1000000000) (hb : 0 < b) (hb2 : b ≤ 1000000) :
    Calls Try.prog 54 #[.int .i64 a, .int .i64 b] w fun e w' => e = .returned (.int .i64 (a / b)) ∧ w = w' := by
  have hq := tdiv_bd (c := 1000000000) b h1 h2
  obtain ⟨hq1, hq2⟩ := hq
  have h0 : (b == 0) = false := by rw [beq_eq_false_iff_ne]; omega
  by_cases hm : a.tmod b < 0
  · go_enter Try.func54, Try.ntmps54
    go_wp2
    go_ret
    exact ⟨ret_int (fdiv_neg hb hm), rfl⟩
  · go_enter Try.func54, Try.ntmps54
    go_wp2
    go_ret
    exact ⟨ret_int (fdiv_pos hb (Int.not_lt.2 hm)), rfl⟩


set_option maxHeartbeats 400000 in
theorem impl_dotOf (A B : Option Addr) (xs ys : List Int) (c d : Nat) (w : World) (hx : RI w w.heap.size A xs) (hy : RI w w.heap.size B ys) (vx : vecB xs 4 = true) (vy : vecB ys 4 = true) :
    Calls Try.prog 50 #[.slice A xs.length c, .slice B ys.length d] w fun e w' => e = .returned (.int .i64 (dotL xs ys 4)) ∧ w = w' := by
  have VX := Lib.hid vx
  have VY := Lib.hid vy
  have hl : xs.length ≤ 4 := Nat.le_of_eq (vecB_four vx)
  have hl' : 4 ≤ xs.length := Nat.le_of_eq (vecB_four vx).symm
  have hm : ys.length ≤ 4 := Nat.le_of_eq (vecB_four vy)
  have hm' : 4 ≤ ys.length := Nat.le_of_eq (vecB_four vy).symm
  clear vx vy
  go_enter Try.func50, Try.ntmps50
  go_wp2
  go_loop [5, 10] (fun sm i => ∃ (k : Nat) (s : Int), k ≤ xs.length ∧ i = .int .i64 k ∧ sm = .int .i64 s ∧ s = dotL xs ys k ∧ -(10000 * k) ≤ s ∧ s ≤ 10000 * k) (fun _ i => xs.length - (intOf i).toNat)
  case atStart => exact ⟨0, 0, Nat.zero_le _, rfl, rfl, rfl, by omega, by omega⟩
  case round =>
    obtain ⟨k, s, hk, rfl, rfl, hs, hs1, hs2⟩ := hrel
    have HS := Lib.hid hs
    clear hs
    by_cases hlt : k < xs.length
    · have hlt2 : k < ys.length := by omega
      obtain ⟨ad, x, rfl, _, hcx, hf1, hf2, hkx⟩ := hx.at_ hlt
      obtain ⟨bd, y, rfl, _, hcy, hg1, hg2, hky⟩ := hy.at_ hlt2
      obtain ⟨b1, b2⟩ := vecB_at VX.out hkx.out
      obtain ⟨b3, b4⟩ := vecB_at VY.out hky.out
      obtain ⟨p1, p2⟩ := prod_bd b1 b2 b3 b4
      go_wp2
      go_round
      case rel => exact ⟨k + 1, s + x * y, by omega, by go_num, rfl, by rw [HS.out]; simp [dotL, sumTo, gI_of hkx.out, gI_of hky.out], by omega, by omega⟩
      case measure => simp [intOf]; omega
    · have hk4 : k = 4 := by omega
      have H4 := Lib.hid hk4
      clear hk4
      go_wp2
      go_ret
      exact ⟨ret_int (by rw [HS.out, H4.out]), rfl⟩

set_option maxHeartbeats 400000 in
theorem impl_DotOf (A B : Option Addr) (xs ys : List Int) (c d : Nat) (w : World) (hx : RI w w.heap.size A xs) (hy : RI w w.heap.size B ys) :
    Calls Try.prog 29 #[.slice A xs.length c, .slice B ys.length d] w fun e w' => e = .returned (.tuple #[.int .i64 (dotV xs ys), .bool (vecB xs 4 && vecB ys 4)]) ∧ w = w' := by
  cases vx : vecB xs 4
  · go_enter Try.func29, Try.ntmps29
    go_wp2_with (go_at_call 49; refine (impl_isVector _ _ _ _ _ hx).mono ?_; rintro e w' ⟨rfl, rfl⟩)
    go_ret2
    exact ⟨by simp [dotV, vx], rfl⟩
  · cases vy : vecB ys 4
    · go_enter Try.func29, Try.ntmps29
      go_wp2_with fail
      refine (impl_isVector _ _ _ _ _ hx).mono ?_; rintro e w' ⟨rfl, rfl⟩
      go_wp2_with fail
      refine (impl_isVector _ _ _ _ _ hy).mono ?_; rintro e w' ⟨rfl, rfl⟩
      go_wp2_with fail
      go_ret2
      exact ⟨by simp [dotV, vx, vy], rfl⟩
    · go_enter Try.func29, Try.ntmps29
      go_wp2_with fail
      refine (impl_isVector _ _ _ _ _ hx).mono ?_; rintro e w' ⟨rfl, rfl⟩
      go_wp2_with fail
      refine (impl_isVector _ _ _ _ _ hy).mono ?_; rintro e w' ⟨rfl, rfl⟩
      go_wp2_with fail
      refine (impl_dotOf _ _ _ _ _ _ _ hx hy vx vy).mono ?_; rintro e w' ⟨rfl, rfl⟩
      go_wp2_with fail
      go_ret2
      exact ⟨by simp [dotV, vx, vy], rfl⟩

set_option maxHeartbeats 400000 in
theorem spec_DotOf (A B : Option Addr) (xs ys : List Int) (c d : Nat) (w : World) (hx : RI w w.heap.size A xs) (hy : RI w w.heap.size B ys) :
    Calls Try.prog 28 #[.slice A xs.length c, .slice B ys.length d] w fun e w' => e = .returned (.tuple #[.int .i64 (dotV xs ys), .bool (vecB xs 4 && vecB ys 4)]) ∧ ∃ n, w' = w.drewN n := by
  cases vx : vecB xs 4
  · go_enter Try.func28, Try.ntmps28
    go_wp2_with (go_at_call 48; refine (spec_isVector _ _ _ _ hx).mono ?_; rintro e w' ⟨rfl, rfl⟩)
    go_ret2
    exact ⟨by simp [dotV, vx], 0, by simp [World.drewN]⟩
  · cases vy : vecB ys 4
    · go_enter Try.func28, Try.ntmps28
      go_wp2_with fail
      refine (spec_isVector _ _ _ _ hx).mono ?_; rintro e w' ⟨rfl, rfl⟩
      go_wp2_with fail
      refine (spec_isVector _ _ _ _ hy).mono ?_; rintro e w' ⟨rfl, rfl⟩
      go_wp2_with fail
      go_ret2
      exact ⟨by simp [dotV, vx, vy], 0, by simp [World.drewN]⟩
    · have VX := Lib.hid vx
      have VY := Lib.hid vy
      have hl : xs.length ≤ 4 := Nat.le_of_eq (vecB_four vx)
      have hl' : 4 ≤ xs.length := Nat.le_of_eq (vecB_four vx).symm
      have hm : ys.length ≤ 4 := Nat.le_of_eq (vecB_four vy)
      have hm' : 4 ≤ ys.length := Nat.le_of_eq (vecB_four vy).symm
      go_enter Try.func28, Try.ntmps28
      go_wp2_with fail
      refine (spec_isVector _ _ _ _ hx).mono ?_; rintro e w' ⟨rfl, rfl⟩
      go_wp2_with fail
      refine (spec_isVector _ _ _ _ hy).mono ?_; rintro e w' ⟨rfl, rfl⟩
      go_wp2_with fail
      clear vx vy
      go_loopw [6, 7] (fun sm i wr => ∃ (k n : Nat) (s : Int), k ≤ xs.length ∧ i = .int .i64 k ∧ sm = .int .i64 s ∧ s = dotL xs ys k ∧ -(10000 * k) ≤ s ∧ s ≤ 10000 * k ∧ wr = w.drewN n) (fun _ i _ => xs.length - (intOf i).toNat)
      case atStart => exact ⟨0, 0, 0, Nat.zero_le _, rfl, rfl, rfl, by omega, by omega, by simp [World.drewN]⟩
      case round =>
        obtain ⟨k, n, s, hk, rfl, rfl, hs, hs1, hs2, rfl⟩ := hrel
        have HS := Lib.hid hs
        clear hs
        by_cases hlt : k < xs.length
        · have hlt2 : k < ys.length := by omega
          obtain ⟨ad, x, rfl, _, hcx, hf1, hf2, hkx⟩ := hx.at_ hlt
          obtain ⟨bd, y, rfl, _, hcy, hg1, hg2, hky⟩ := hy.at_ hlt2
          obtain ⟨b1, b2⟩ := vecB_at VX.out hkx.out
          obtain ⟨b3, b4⟩ := vecB_at VY.out hky.out
          obtain ⟨p1, p2⟩ := prod_bd b1 b2 b3 b4
          have e1 : IntKind.i64.wrap (x * y) = x * y := IntWalk.i64_in _ (by omega)
          have e2 : IntKind.i64.wrap (s + x * y) = s + x * y := IntWalk.i64_in _ (by omega)
          go_wp2
          go_quiet (fail)
          go_wp2
          go_roundw
          case rel => exact ⟨k + 1, _, s + x * y, by omega, by go_num, rfl, by rw [HS.out]; simp [dotL, sumTo, gI_of hkx.out, gI_of hky.out], by omega, by omega, rfl⟩
          case measure => simp [intOf]; omega
        · have hk4 : k = 4 := by omega
          have H4 := Lib.hid hk4
          clear hk4
          go_wp2
          go_ret2
          exact ⟨by rw [HS.out, H4.out]; simp [dotV, VX.out, VY.out], _, rfl⟩
end Go.Proofs.Ytnmondecnanmcaa
