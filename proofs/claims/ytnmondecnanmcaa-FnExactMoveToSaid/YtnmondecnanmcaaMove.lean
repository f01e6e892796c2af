/- The contracts of Distance and MoveTo, in both texts. -/
import Derived.Test.YtnmondecnanmcaaDist
import Derived.Deep.RegionHeld3
import Derived.StillTailTactics
namespace Go.Proofs.Ytnmondecnanmcaa
open Go Go.RowKit

set_option maxHeartbeats 800000 in
theorem impl_MoveTo (A B : Option Addr) (xs ys : List Int) (c d : Nat) (p : Int) (w : World) (hx : RI w w.heap.size A xs) (hy : RI w w.heap.size B ys) :
    Calls Try.prog 32 #[.slice A xs.length c, .slice B ys.length d, .int .i64 p] w fun e w' => ∃ v, e = .returned v ∧ OwnI w' w.heap.size w'.heap.size v (moveV xs ys p) ∧ Grow w w' := by
  by_cases hall : (vecB xs 4 && vecB ys 4 && inB p 0 1000) = true
  · have hv : moveV xs ys p = rangeI (moveF xs ys p) 4 := by rw [moveV, if_pos hall]
    have HV := Lib.hid hv
    clear hv
    simp only [Bool.and_eq_true] at hall
    obtain ⟨⟨vx, vy⟩, hp⟩ := hall
    obtain ⟨hp1, hp2⟩ := inB_iff.1 hp
    clear hp
    have hpp : 0 ≤ p ∧ p ≤ 1000 := ⟨hp1, hp2⟩
    have VX := Lib.hid vx
    have VY := Lib.hid vy
    have hl : xs.length ≤ 4 := Nat.le_of_eq (vecB_four vx)
    have hl' : 4 ≤ xs.length := Nat.le_of_eq (vecB_four vx).symm
    have hm : ys.length ≤ 4 := Nat.le_of_eq (vecB_four vy)
    have hm' : 4 ≤ ys.length := Nat.le_of_eq (vecB_four vy).symm
    obtain ⟨i0, hi0, hz0, hz1, hz2⟩ := info_parts info_int
    go_enter Try.func32, Try.ntmps32
    go_wp2_with fail
    refine (impl_isVector _ _ _ _ _ hx).mono ?_; rintro e w' ⟨rfl, rfl⟩
    go_wp2_with fail
    refine (impl_isVector _ _ _ _ _ hy).mono ?_; rintro e w' ⟨rfl, rfl⟩
    go_wp2_with fail
    clear hp1 hp2
    have hp1 := Lib.hid hpp
    clear hpp
    go_loopw [7, 29] (fun v i wr => ∃ k : Nat, k ≤ xs.length ∧ i = .int .i64 k ∧ wr.ownsRow w.heap.size 3 1 v (rangeI (moveF xs ys p) k).length ((rangeI (moveF xs ys p) k).map (Value.int .i64)) ∧ Below w.heap.size w wr) (fun _ i _ => xs.length - (intOf i).toNat)
    case atStart => exact ⟨0, Nat.zero_le _, rfl, World.ownsRow_lit w #[] 0 (Nat.le_refl _) (by unfold maxLen; omega) rfl, (Below.refl _ _).alloc (Nat.le_refl _) _⟩
    case round =>
      obtain ⟨k, hk, rfl, hown, hb⟩ := hrel
      by_cases hlt : k < xs.length
      · have hlt2 : k < ys.length := by omega
        obtain ⟨ad, x, rfl, _, hcx, hf1, hf2, hkx⟩ := (hx.below hb).at_ hlt
        obtain ⟨bd, y, rfl, _, hcy, hg1, hg2, hky⟩ := (hy.below hb).at_ hlt2
        obtain ⟨b1, b2⟩ := vecB_at VX.out hkx.out
        obtain ⟨b3, b4⟩ := vecB_at VY.out hky.out
        obtain ⟨m1, m2⟩ := mul_part_bd (d := y - x) (by omega) (by omega) hp1.out.1 hp1.out.2
        obtain ⟨q1, q2⟩ := div1000_bd m1 m2
        have hB := hb.size
        go_wp2_with (first
          | (go_at_call 55; refine (impl_floorDiv _ _ _ (by omega) (by omega) (by omega) (by omega)).mono ?_; rintro e w' ⟨rfl, rfl⟩)
          | (at_builtin; refine wpList_pushI rfl _ _ rfl rfl rfl hown hb hB (by rw [rangeI_len]; omega) ?_; intro v1 w1 hown1 hb1))
        go_roundw
        case rel =>
          have e : rangeI (moveF xs ys p) (k + 1) = rangeI (moveF xs ys p) k ++ [x + (y - x) * p / 1000] := by rw [rangeI_succ, moveF_of hkx.out hky.out]
          exact ⟨k + 1, by omega, by go_num, by rw [e]; exact hown1, hb1⟩
        case measure => simp [intOf]; omega
      · have hk4 : k = 4 := by omega
        have H4 := Lib.hid hk4
        clear hk4
        go_wp2
        go_ret
        have e : rangeI (moveF xs ys p) k = moveV xs ys p := by rw [HV.out, H4.out]
        rw [e] at hown
        exact ⟨_, rfl, OwnI.mk' hown (fun z hz => by have := moveV_bd z hz; omega) (by have := @moveV_len xs ys p; omega), hb⟩
  · have hv : moveV xs ys p = [] := by rw [moveV, if_neg hall]
    rw [hv]
    cases vx : vecB xs 4
    · clear hall hv
      go_enter Try.func32, Try.ntmps32
      go_wp2_with fail
      refine (impl_isVector _ _ _ _ _ hx).mono ?_; rintro e w' ⟨rfl, rfl⟩
      go_wp2_with fail
      go_ret
      exact ⟨_, rfl, OwnI.nil_, Grow.refl _⟩
    · cases vy : vecB ys 4
      · clear hall hv
        go_enter Try.func32, Try.ntmps32
        go_wp2_with fail
        refine (impl_isVector _ _ _ _ _ hx).mono ?_; rintro e w' ⟨rfl, rfl⟩
        go_wp2_with fail
        refine (impl_isVector _ _ _ _ _ hy).mono ?_; rintro e w' ⟨rfl, rfl⟩
        go_wp2_with fail
        go_ret
        exact ⟨_, rfl, OwnI.nil_, Grow.refl _⟩
      · have hp : ¬ (0 ≤ p ∧ p ≤ 1000) := by
          intro hp; apply hall; rw [vx, vy, inB_yes hp.1 hp.2]; rfl
        by_cases hp0 : p < 0
        · clear hall hv hp
          go_enter Try.func32, Try.ntmps32
          go_wp2_with fail
          refine (impl_isVector _ _ _ _ _ hx).mono ?_; rintro e w' ⟨rfl, rfl⟩
          go_wp2_with fail
          refine (impl_isVector _ _ _ _ _ hy).mono ?_; rintro e w' ⟨rfl, rfl⟩
          go_wp2_with fail
          go_ret
          exact ⟨_, rfl, OwnI.nil_, Grow.refl _⟩
        · have hp1 : 1000 < p := by omega
          clear hall hv hp
          go_enter Try.func32, Try.ntmps32
          go_wp2_with fail
          refine (impl_isVector _ _ _ _ _ hx).mono ?_; rintro e w' ⟨rfl, rfl⟩
          go_wp2_with fail
          refine (impl_isVector _ _ _ _ _ hy).mono ?_; rintro e w' ⟨rfl, rfl⟩
          go_wp2_with fail
          go_ret
          exact ⟨_, rfl, OwnI.nil_, Grow.refl _⟩

set_option maxHeartbeats 800000 in
theorem spec_MoveTo (A B : Option Addr) (xs ys : List Int) (c d : Nat) (p : Int) (w : World) (hx : RI w w.heap.size A xs) (hy : RI w w.heap.size B ys) :
    Calls Try.prog 31 #[.slice A xs.length c, .slice B ys.length d, .int .i64 p] w fun e w' => ∃ v, e = .returned v ∧ OwnI w' w.heap.size w'.heap.size v (moveV xs ys p) ∧ Grow w w' := by
  by_cases hall : (vecB xs 4 && vecB ys 4 && inB p 0 1000) = true
  · have hv : moveV xs ys p = rangeI (moveF xs ys p) 4 := by rw [moveV, if_pos hall]
    have HV := Lib.hid hv
    clear hv
    simp only [Bool.and_eq_true] at hall
    obtain ⟨⟨vx, vy⟩, hp⟩ := hall
    obtain ⟨hp1, hp2⟩ := inB_iff.1 hp
    have VX := Lib.hid vx
    have VY := Lib.hid vy
    have hl : xs.length ≤ 4 := Nat.le_of_eq (vecB_four vx)
    have hl' : 4 ≤ xs.length := Nat.le_of_eq (vecB_four vx).symm
    have hm : ys.length ≤ 4 := Nat.le_of_eq (vecB_four vy)
    have hm' : 4 ≤ ys.length := Nat.le_of_eq (vecB_four vy).symm
    obtain ⟨i0, hi0, hz0, hz1, hz2⟩ := info_parts info_int
    go_enter Try.func31, Try.ntmps31
    go_wp2_with fail
    refine (spec_isVector _ _ _ _ (hx.alloc (Nat.le_refl _) _ |>.more (by simp))).mono ?_; rintro e w' ⟨rfl, rfl⟩
    go_wp2_with fail
    refine (spec_isVector _ _ _ _ (hy.alloc (Nat.le_refl _) _ |>.more (by simp))).mono ?_; rintro e w' ⟨rfl, rfl⟩
    go_wp2_with fail
    refine (spec_inRange _ _ _ _).mono ?_; rintro e w' ⟨rfl, rfl⟩
    go_wp2_with fail
    clear hp vx vy
    go_loopw [7, 8] (fun v i wr => ∃ k : Nat, k ≤ 4 ∧ i = .int .i64 k ∧ wr.ownsRow w.heap.size 3 1 v (rangeI (moveF xs ys p) k).length ((rangeI (moveF xs ys p) k).map (Value.int .i64)) ∧ Below w.heap.size w wr) (fun _ i _ => 4 - (intOf i).toNat)
    case atStart => exact ⟨0, Nat.zero_le _, rfl, World.ownsRow_lit w #[] 0 (Nat.le_refl _) (by unfold maxLen; omega) rfl, (Below.refl _ _).alloc (Nat.le_refl _) _⟩
    case round =>
      obtain ⟨k, hk, rfl, hown, hb⟩ := hrel
      by_cases hlt : k < 4
      · have hlt1 : k < xs.length := by omega
        have hlt2 : k < ys.length := by omega
        obtain ⟨ad, x, rfl, _, hcx, hf1, hf2, hkx⟩ := (hx.below hb).at_ hlt1
        obtain ⟨bd, y, rfl, _, hcy, hg1, hg2, hky⟩ := (hy.below hb).at_ hlt2
        obtain ⟨b1, b2⟩ := vecB_at VX.out hkx.out
        obtain ⟨b3, b4⟩ := vecB_at VY.out hky.out
        obtain ⟨m1, m2⟩ := mul_part_bd (d := y - x) (by omega) (by omega) hp1 hp2
        obtain ⟨q1, q2⟩ := div1000_bd m1 m2
        have hB := hb.size
        have e1 : IntKind.i64.wrap (y - x) = y - x := IntWalk.i64_in _ (by omega)
        have e2 : IntKind.i64.wrap ((y - x) * p) = (y - x) * p := IntWalk.i64_in _ (by omega)
        have e3 : IntKind.i64.wrap (x + (y - x) * p / 1000) = x + (y - x) * p / 1000 := IntWalk.i64_in _ (by omega)
        go_wp2
        go_region_held3 (fun w' => w'.cell? (ad.add k) = some (.int .i64 x) ∧ w'.cell? (bd.add k) = some (.int .i64 y))
          (first
            | go_keep
            | exact ⟨(hx.below hb1).cell_ hkx, (hy.below hb1).cell_ hky⟩)
          (first
            | (go_at_call 54; refine (spec_floorDiv _ _ _ (by omega) (by omega) (by omega) (by omega)).mono ?_; rintro e w' ⟨rfl, rfl⟩)
            | (refine step_pushI (by rfl) _ _ (by rfl) (by rfl) (by rfl) hown hb hB (by rw [rangeI_len]; omega) ?_; intro v1 w1 hown1 hb1))
        go_wp2
        go_roundw
        case rel =>
          have e : rangeI (moveF xs ys p) (k + 1) = rangeI (moveF xs ys p) k ++ [x + (y - x) * p / 1000] := by rw [rangeI_succ, moveF_of hkx.out hky.out]
          exact ⟨k + 1, by omega, by go_num, by rw [e]; exact hown1, hb1⟩
        case measure => simp [intOf]; omega
      · obtain rfl : k = 4 := by omega
        go_wp2
        go_ret
        have e : rangeI (moveF xs ys p) 4 = moveV xs ys p := HV.out.symm
        rw [e] at hown
        exact ⟨_, rfl, OwnI.mk' hown (fun z hz => by have := moveV_bd z hz; omega) (by have := @moveV_len xs ys p; omega), hb⟩
  · have hv : moveV xs ys p = [] := by rw [moveV, if_neg hall]
    rw [hv]
    have gr : Grow w (w.alloc (.cells #[] 3)) := (Below.refl _ _).alloc (Nat.le_refl _) _
    cases vx : vecB xs 4
    · clear hall hv
      go_enter Try.func31, Try.ntmps31
      go_wp2_with fail
      refine (spec_isVector _ _ _ _ (hx.grow gr)).mono ?_; rintro e w' ⟨rfl, rfl⟩
      go_wp2_with fail
      go_ret
      exact ⟨_, rfl, OwnI.nil_, gr⟩
    · cases vy : vecB ys 4
      · clear hall hv
        go_enter Try.func31, Try.ntmps31
        go_wp2_with fail
        refine (spec_isVector _ _ _ _ (hx.grow gr)).mono ?_; rintro e w' ⟨rfl, rfl⟩
        go_wp2_with fail
        refine (spec_isVector _ _ _ _ (hy.grow gr)).mono ?_; rintro e w' ⟨rfl, rfl⟩
        go_wp2_with fail
        go_ret
        exact ⟨_, rfl, OwnI.nil_, gr⟩
      · have hp : inB p 0 1000 = false := by
          cases hp : inB p 0 1000
          · rfl
          · exact absurd (by rw [vx, vy, hp]; rfl) hall
        clear hall hv
        go_enter Try.func31, Try.ntmps31
        go_wp2_with fail
        refine (spec_isVector _ _ _ _ (hx.grow gr)).mono ?_; rintro e w' ⟨rfl, rfl⟩
        go_wp2_with fail
        refine (spec_isVector _ _ _ _ (hy.grow gr)).mono ?_; rintro e w' ⟨rfl, rfl⟩
        go_wp2_with fail
        refine (spec_inRange _ _ _ _).mono ?_; rintro e w' ⟨rfl, rfl⟩
        go_wp2_with fail
        go_ret
        exact ⟨_, rfl, OwnI.nil_, gr⟩

theorem kindB_iff {kind : Int} : kindB kind = true ↔ 1 ≤ kind ∧ kind ≤ 4 := by simp [kindB]
theorem impl_isKind (kind : Int) (w : World) :
    Calls Try.prog 58 #[.int .i64 kind] w fun e w' => e = .returned (.bool (kindB kind)) ∧ w = w' := by
  by_cases h1 : 1 ≤ kind
  · go_enter Try.func58, Try.ntmps58
    go_wp2
    go_ret
    exact ⟨ret_bool (by simp [kindB, h1]), rfl⟩
  · have hk : kindB kind = false := by simp [kindB, h1]
    go_enter Try.func58, Try.ntmps58
    go_wp2
    go_ret
    exact ⟨rfl, rfl⟩
theorem spec_validKind (kind : Int) (w : World) :
    Calls Try.prog 56 #[.int .i64 kind] w fun e w' => e = .returned (.bool (kindB kind)) ∧ w = w' := by
  go_enter Try.func56, Try.ntmps56
  go_wp2_with (go_at_call 53; refine (spec_inRange _ _ _ _).mono ?_; rintro e w' ⟨rfl, rfl⟩)
  go_ret
  exact ⟨rfl, rfl⟩
theorem impl_Distance (kind : Int) (A B : Option Addr) (xs ys : List Int) (c d : Nat) (w : World) (hx : RI w w.heap.size A xs) (hy : RI w w.heap.size B ys) :
    Calls Try.prog 36 #[.int .i64 kind, .slice A xs.length c, .slice B ys.length d] w fun e w' => e = .returned (.int .i64 (distV kind xs ys)) ∧ ∃ n, w' = w.drewN n := by
  cases hk : kindB kind
  · go_enter Try.func36, Try.ntmps36
    go_wp2_with fail
    refine (impl_isKind _ _).mono ?_; rintro e w' ⟨rfl, rfl⟩
    go_wp2_with fail
    go_ret
    exact ⟨ret_int (by simp [distV, hk]), 0, by simp [World.drewN]⟩
  · cases vx : vecB xs 4
    · go_enter Try.func36, Try.ntmps36
      go_wp2_with fail
      refine (impl_isKind _ _).mono ?_; rintro e w' ⟨rfl, rfl⟩
      go_wp2_with fail
      refine (impl_isVector _ _ _ _ _ hx).mono ?_; rintro e w' ⟨rfl, rfl⟩
      go_wp2_with fail
      go_ret
      exact ⟨ret_int (by simp [distV, hk, vx]), 0, by simp [World.drewN]⟩
    · cases vy : vecB ys 4
      · go_enter Try.func36, Try.ntmps36
        go_wp2_with fail
        refine (impl_isKind _ _).mono ?_; rintro e w' ⟨rfl, rfl⟩
        go_wp2_with fail
        refine (impl_isVector _ _ _ _ _ hx).mono ?_; rintro e w' ⟨rfl, rfl⟩
        go_wp2_with fail
        refine (impl_isVector _ _ _ _ _ hy).mono ?_; rintro e w' ⟨rfl, rfl⟩
        go_wp2_with fail
        go_ret
        exact ⟨ret_int (by simp [distV, hk, vx, vy]), 0, by simp [World.drewN]⟩
      · go_enter Try.func36, Try.ntmps36
        go_wp2_with fail
        refine (impl_isKind _ _).mono ?_; rintro e w' ⟨rfl, rfl⟩
        go_wp2_with fail
        refine (impl_isVector _ _ _ _ _ hx).mono ?_; rintro e w' ⟨rfl, rfl⟩
        go_wp2_with fail
        refine (impl_isVector _ _ _ _ _ hy).mono ?_; rintro e w' ⟨rfl, rfl⟩
        go_wp2_with fail
        refine (impl_distance _ _ _ _ _ _ _ _ hx hy vx vy).mono ?_; rintro e w' ⟨rfl, n, rfl⟩
        go_wp2_with fail
        go_ret
        exact ⟨ret_int (by simp [distV, hk, vx, vy]), n, rfl⟩
theorem spec_Distance (kind : Int) (A B : Option Addr) (xs ys : List Int) (c d : Nat) (w : World) (hx : RI w w.heap.size A xs) (hy : RI w w.heap.size B ys) :
    Calls Try.prog 35 #[.int .i64 kind, .slice A xs.length c, .slice B ys.length d] w fun e w' => e = .returned (.int .i64 (distV kind xs ys)) ∧ ∃ n, w' = w.drewN n := by
  cases hk : kindB kind
  · go_enter Try.func35, Try.ntmps35
    go_wp2_with fail
    refine (spec_validKind _ _).mono ?_; rintro e w' ⟨rfl, rfl⟩
    go_wp2_with fail
    go_ret
    exact ⟨ret_int (by simp [distV, hk]), 0, by simp [World.drewN]⟩
  · cases vx : vecB xs 4
    · go_enter Try.func35, Try.ntmps35
      go_wp2_with fail
      refine (spec_validKind _ _).mono ?_; rintro e w' ⟨rfl, rfl⟩
      go_wp2_with fail
      refine (spec_isVector _ _ _ _ hx).mono ?_; rintro e w' ⟨rfl, rfl⟩
      go_wp2_with fail
      go_ret
      exact ⟨ret_int (by simp [distV, hk, vx]), 0, by simp [World.drewN]⟩
    · cases vy : vecB ys 4
      · go_enter Try.func35, Try.ntmps35
        go_wp2_with fail
        refine (spec_validKind _ _).mono ?_; rintro e w' ⟨rfl, rfl⟩
        go_wp2_with fail
        refine (spec_isVector _ _ _ _ hx).mono ?_; rintro e w' ⟨rfl, rfl⟩
        go_wp2_with fail
        refine (spec_isVector _ _ _ _ hy).mono ?_; rintro e w' ⟨rfl, rfl⟩
        go_wp2_with fail
        go_ret
        exact ⟨ret_int (by simp [distV, hk, vx, vy]), 0, by simp [World.drewN]⟩
      · go_enter Try.func35, Try.ntmps35
        go_wp2_with fail
        refine (spec_validKind _ _).mono ?_; rintro e w' ⟨rfl, rfl⟩
        go_wp2_with fail
        refine (spec_isVector _ _ _ _ hx).mono ?_; rintro e w' ⟨rfl, rfl⟩
        go_wp2_with fail
        refine (spec_isVector _ _ _ _ hy).mono ?_; rintro e w' ⟨rfl, rfl⟩
        go_wp2_with fail
        refine (spec_dist _ _ _ _ _ _ _ _ hx hy vx vy).mono ?_; rintro e w' ⟨rfl, n, rfl⟩
        go_wp2_with fail
        go_ret
        exact ⟨ret_int (by simp [distV, hk, vx, vy]), n, rfl⟩
end Go.Proofs.Ytnmondecnanmcaa
