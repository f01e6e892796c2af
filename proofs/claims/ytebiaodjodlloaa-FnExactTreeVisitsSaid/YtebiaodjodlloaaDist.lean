/- The contracts of the functions on distances. -/
import Derived.Test.YtebiaodjodlloaaVec
namespace Go.Proofs.Ytebiaodjodlloaa
open Go Go.RowKit

set_option maxHeartbeats 800000 in
theorem impl_distance (kind : Int) (A B : Option Addr) (xs ys : List Int) (c d : Nat) (w : World) (hx : RI w w.heap.size A xs) (hy : RI w w.heap.size B ys) (vx : vecB xs 4 = true) (vy : vecB ys 4 = true) :
    Calls Try.prog 55 #[.int .i64 kind, .slice A xs.length c, .slice B ys.length d] w fun e w' => e = .returned (.int .i64 (distL kind xs ys 4)) ∧ ∃ n, w' = w.drewN n := by
  have VX := Lib.hid vx
  have VY := Lib.hid vy
  have hl : xs.length ≤ 4 := Nat.le_of_eq (vecB_four vx)
  have hl' : 4 ≤ xs.length := Nat.le_of_eq (vecB_four vx).symm
  have hm : ys.length ≤ 4 := Nat.le_of_eq (vecB_four vy)
  have hm' : 4 ≤ ys.length := Nat.le_of_eq (vecB_four vy).symm
  clear vx vy
  go_enter Try.func55, Try.ntmps55
  go_wp2
  go_loopw [7, 8, 9, 10, 16] (fun a1 a2 a3 a4 i wr => ∃ (k n : Nat) (s m q t : Int), k ≤ xs.length ∧ i = .int .i64 k ∧ a1 = .int .i64 s ∧ a2 = .int .i64 m ∧ a3 = .int .i64 q ∧ a4 = .int .i64 t ∧
    (s = sumTo (dI xs ys) k ∧ m = mostTo (dI xs ys) k ∧ q = sumTo (fun i => dI xs ys i * dI xs ys i) k ∧ t = sumTo (fun i => one (dI xs ys i)) k) ∧ 0 ≤ s ∧ s ≤ 200 * k ∧ 0 ≤ m ∧ m ≤ 200 ∧ 0 ≤ q ∧ q ≤ 40000 * k ∧ 0 ≤ t ∧ t ≤ k ∧ wr = w.drewN n) (fun _ _ _ _ i _ => xs.length - (intOf i).toNat)
  case atStart => exact ⟨0, 0, 0, 0, 0, 0, Nat.zero_le _, rfl, rfl, rfl, rfl, rfl, ⟨rfl, rfl, rfl, rfl⟩, by omega, by omega, by omega, by omega, by omega, by omega, by omega, by omega, by simp [World.drewN]⟩
  case round =>
    obtain ⟨k, n, s, m, q, t, hk, rfl, rfl, rfl, rfl, rfl, hh, hs1, hs2, hm1, hm2, hq1, hq2, ht1, ht2, rfl⟩ := hrel
    have HS := Lib.hid hh
    clear hh
    by_cases hlt : k < xs.length
    · have hlt2 : k < ys.length := by omega
      obtain ⟨ad, x, rfl, _, hcx, hf1, hf2, hkx⟩ := hx.at_ hlt
      obtain ⟨bd, y, rfl, _, hcy, hg1, hg2, hky⟩ := hy.at_ hlt2
      obtain ⟨b1, b2⟩ := vecB_at VX.out hkx.out
      obtain ⟨b3, b4⟩ := vecB_at VY.out hky.out
      have e1 : IntKind.i64.wrap (x - y) = x - y := IntWalk.i64_in _ (by omega)
      have e2 : IntKind.i64.wrap (y - x) = y - x := IntWalk.i64_in _ (by omega)
      go_wp2
      go_quiet (fail)
      obtain ⟨dd, hd⟩ : ∃ dd, (if x - y < y - x then y - x else x - y) = dd := ⟨_, rfl⟩
      have hdd : dI xs ys k = dd := by rw [dI, gI_of hkx.out, gI_of hky.out]; exact hd
      obtain ⟨d1, d2⟩ : 0 ≤ dd ∧ dd ≤ 200 := by rw [← hd]; exact ad_bd b1 b2 b3 b4
      obtain ⟨q1, q2⟩ := sq_bd d1 d2
      rw [hd]
      have HD := Lib.hid hdd
      clear hd hdd e1 e2 hcx hcy
      by_cases hp : 0 < dd
      · go_wp2
        go_roundw
        case rel => exact ⟨k + 1, _, s + dd, if m < dd then dd else m, q + dd * dd, t + 1, by omega, by go_num, rfl, rfl, rfl, rfl, by simp [HS.out.1, HS.out.2.1, HS.out.2.2.1, HS.out.2.2.2, sumTo, mostTo, HD.out, one, hp], by omega, by omega, by split <;> omega, by split <;> omega, by omega, by omega, by omega, by omega, by first | rfl | exact World.drewN_drewN _ _ _⟩
        case measure => simp [intOf]; omega
      · go_wp2
        go_roundw
        case rel => exact ⟨k + 1, _, s + dd, if m < dd then dd else m, q + dd * dd, t, by omega, by go_num, rfl, rfl, rfl, rfl, by simp [HS.out.1, HS.out.2.1, HS.out.2.2.1, HS.out.2.2.2, sumTo, mostTo, HD.out, one, hp], by omega, by omega, by split <;> omega, by split <;> omega, by omega, by omega, by omega, by omega, by first | rfl | exact World.drewN_drewN _ _ _⟩
        case measure => simp [intOf]; omega
    · have hk4 : k = 4 := by omega
      have H4 := Lib.hid hk4
      clear hk4
      by_cases k1 : kind = 1
      · subst k1
        go_wp2
        go_ret
        exact ⟨ret_int (by simp [distL, HS.out.1, H4.out]), _, rfl⟩
      · by_cases k2 : kind = 2
        · subst k2
          go_wp2
          go_ret
          exact ⟨ret_int (by simp [distL, HS.out.2.1, H4.out]), _, rfl⟩
        · by_cases k3 : kind = 3
          · subst k3
            go_wp2
            go_ret
            exact ⟨ret_int (by simp [distL, HS.out.2.2.1, H4.out]), _, rfl⟩
          · have t1 : (kind == 1) = false := by simpa using k1
            have t2 : (kind == 2) = false := by simpa using k2
            have t3 : (kind == 3) = false := by simpa using k3
            go_wp2
            go_ret
            exact ⟨ret_int (by simp [distL, k1, k2, k3, HS.out.2.2.2, H4.out]), _, rfl⟩

theorem spec_size (n : Int) (w : World) (h1 : -1000000 ≤ n) (h2 : n ≤ 1000000) :
    Calls Try.prog 96 #[.int .i64 n] w fun e w' => e = .returned (.int .i64 (gmax n (-n))) ∧ w' = w := by
  by_cases h : n < -n
  · go_enter Try.func96, Try.ntmps96
    go_wp2
    go_ret
    exact ⟨ret_int (by rw [gmax, if_pos h]), rfl⟩
  · go_enter Try.func96, Try.ntmps96
    go_wp2
    go_ret
    exact ⟨ret_int (by rw [gmax, if_neg (by omega)]), rfl⟩
theorem spec_toInt (d : Int) (w : World) :
    Calls Try.prog 97 #[.bool (decide (0 < d))] w fun e w' => e = .returned (.int .i64 (one d)) ∧ w = w' := by
  by_cases h : 0 < d
  · go_enter Try.func97, Try.ntmps97
    go_wp2
    go_ret
    exact ⟨ret_int (by simp [one, h]), rfl⟩
  · go_enter Try.func97, Try.ntmps97
    go_wp2
    go_ret
    exact ⟨ret_int (by simp [one]; omega), rfl⟩
theorem distL_1 (a b : List Int) (k : Nat) : distL 1 a b (k + 1) = distL 1 a b k + dI a b k := rfl
theorem distL_2 (a b : List Int) (k : Nat) : distL 2 a b (k + 1) = if distL 2 a b k < dI a b k then dI a b k else distL 2 a b k := rfl
theorem distL_3 (a b : List Int) (k : Nat) : distL 3 a b (k + 1) = distL 3 a b k + dI a b k * dI a b k := rfl
theorem distL_4 {kind : Int} (h1 : ¬ kind = 1) (h2 : ¬ kind = 2) (h3 : ¬ kind = 3) (a b : List Int) (k : Nat) : distL kind a b (k + 1) = distL kind a b k + one (dI a b k) := by
  simp [distL, h1, h2, h3, sumTo]
theorem distL_0 (kind : Int) (a b : List Int) : distL kind a b 0 = 0 := by simp [distL, sumTo, mostTo]
set_option maxHeartbeats 1600000 in
theorem spec_dist (kind : Int) (A B : Option Addr) (xs ys : List Int) (c d : Nat) (w : World) (hx : RI w w.heap.size A xs) (hy : RI w w.heap.size B ys) (vx : vecB xs 4 = true) (vy : vecB ys 4 = true) :
    Calls Try.prog 78 #[.int .i64 kind, .slice A xs.length c, .slice B ys.length d] w fun e w' => e = .returned (.int .i64 (distL kind xs ys 4)) ∧ ∃ n, w' = w.drewN n := by
  have VX := Lib.hid vx
  have VY := Lib.hid vy
  have hl : xs.length ≤ 4 := Nat.le_of_eq (vecB_four vx)
  have hl' : 4 ≤ xs.length := Nat.le_of_eq (vecB_four vx).symm
  have hm : ys.length ≤ 4 := Nat.le_of_eq (vecB_four vy)
  have hm' : 4 ≤ ys.length := Nat.le_of_eq (vecB_four vy).symm
  clear vx vy
  go_enter Try.func78, Try.ntmps78
  go_wp2
  go_loopw [7, 8] (fun a1 i wr => ∃ (k n : Nat) (s : Int), k ≤ xs.length ∧ i = .int .i64 k ∧ a1 = .int .i64 s ∧ s = distL kind xs ys k ∧ 0 ≤ s ∧ s ≤ 40000 * k ∧ wr = w.drewN n) (fun _ i _ => xs.length - (intOf i).toNat)
  case atStart => exact ⟨0, 0, 0, Nat.zero_le _, rfl, rfl, (distL_0 _ _ _).symm, by omega, by omega, by simp [World.drewN]⟩
  case round =>
    obtain ⟨k, n, s, hk, rfl, rfl, hh, hs1, hs2, rfl⟩ := hrel
    have HS := Lib.hid hh
    clear hh
    by_cases hlt : k < xs.length
    · have hlt2 : k < ys.length := by omega
      obtain ⟨ad, x, rfl, _, hcx, hf1, hf2, hkx⟩ := hx.at_ hlt
      obtain ⟨bd, y, rfl, _, hcy, hg1, hg2, hky⟩ := hy.at_ hlt2
      obtain ⟨b1, b2⟩ := vecB_at VX.out hkx.out
      obtain ⟨b3, b4⟩ := vecB_at VY.out hky.out
      have e1 : IntKind.i64.wrap (x - y) = x - y := IntWalk.i64_in _ (by omega)
      go_wp2
      go_quiet ((go_at_call 96; go_simp; exact quiet_add_same (spec_size _ _ (by omega) (by omega))))
      obtain ⟨dd, hd⟩ : ∃ dd, gmax (x - y) (-(x - y)) = dd := ⟨_, rfl⟩
      have hdd : dI xs ys k = dd := by rw [dI, gI_of hkx.out, gI_of hky.out, ad_eq]; exact hd
      obtain ⟨d1, d2⟩ : 0 ≤ dd ∧ dd ≤ 200 := by rw [← hd, ← ad_eq]; exact ad_bd b1 b2 b3 b4
      obtain ⟨q1, q2⟩ := sq_bd d1 d2
      rw [hd]
      have HD := Lib.hid hdd
      clear hd hdd e1 hcx hcy
      by_cases k1 : kind = 1
      · subst k1
        go_wp2
        go_roundw
        case rel => exact ⟨k + 1, _, s + dd, by omega, by go_num, rfl, by rw [distL_1, HS.out, HD.out], by omega, by omega, by first | rfl | exact World.drewN_drewN _ _ _⟩
        case measure => simp [intOf]; omega
      · by_cases k2 : kind = 2
        · subst k2
          go_wp2
          go_roundw
          case rel => exact ⟨k + 1, _, if s < dd then dd else s, by omega, by go_num, rfl, by rw [distL_2, HS.out, HD.out], by split <;> omega, by split <;> omega, by first | rfl | exact World.drewN_drewN _ _ _⟩
          case measure => simp [intOf]; omega
        · by_cases k3 : kind = 3
          · subst k3
            go_wp2
            go_roundw
            case rel => exact ⟨k + 1, _, s + dd * dd, by omega, by go_num, rfl, by rw [distL_3, HS.out, HD.out], by omega, by omega, by first | rfl | exact World.drewN_drewN _ _ _⟩
            case measure => simp [intOf]; omega
          · have t1 : (kind == 1) = false := by simpa using k1
            have t2 : (kind == 2) = false := by simpa using k2
            have t3 : (kind == 3) = false := by simpa using k3
            have o1 : 0 ≤ one dd ∧ one dd ≤ 1 := by unfold one; split <;> omega
            go_wp2_with (go_at_call 97; refine (spec_toInt _ _).mono ?_; rintro e w' ⟨rfl, rfl⟩)
            go_roundw
            case rel => exact ⟨k + 1, _, s + one dd, by omega, by go_num, rfl, by rw [distL_4 k1 k2 k3, HS.out, HD.out], by omega, by omega, by first | rfl | exact World.drewN_drewN _ _ _⟩
            case measure => simp [intOf]; omega
    · have hk4 : k = 4 := by omega
      have H4 := Lib.hid hk4
      clear hk4
      go_wp2
      go_ret
      exact ⟨ret_int (by rw [HS.out, H4.out]), _, rfl⟩
end Go.Proofs.Ytebiaodjodlloaa
