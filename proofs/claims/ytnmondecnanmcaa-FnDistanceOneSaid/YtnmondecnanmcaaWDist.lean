/- The walks of the laws on distances: each returns true, and writes nothing that was there. -/
import Derived.Test.YtnmondecnanmcaaDraw
import Derived.Test.YtnmondecnanmcaaPlainV
import Derived.Test.YtnmondecnanmcaaMove
namespace Go.Proofs.Ytnmondecnanmcaa
set_option linter.unusedVariables false
open Go Go.RowKit

set_option maxHeartbeats 800000 in
theorem walk_FnExactDistance (k0 : Int) (a0 : Option Addr) (n0 c0 : Nat) (x0 : List Int) (a1 : Option Addr) (n1 c1 : Nat) (x1 : List Int) (w : World) (hk : -9223372036854775808 ≤ k0 ∧ k0 ≤ 9223372036854775807) (h0 : ArgI w a0 n0 c0 x0) (h1 : ArgI w a1 n1 c1 x1) :
    Calls Try.prog 8 #[.int .i64 k0, .slice a0 n0 c0, .slice a1 n1 c1] w fun e w' => e = .returned (.bool true) ∧ Below w.heap.size w w' := by
  by_cases hn : n0 ≤ 1048576
  · by_cases hm : n1 ≤ 1048576
    · have r0 := h0.ri (by omega)
      have r1 := h1.ri (by omega)
      obtain rfl := h0.len
      obtain rfl := h1.len
      have e0 := eqB_self x0
      have e1 := eqB_self x1
      go_enter Try.func8, Try.ntmps8
      go_wp2_with fail
      refine (laws_toIntS _ _ _ _ r0).mono ?_; rintro e w1 ⟨v1, rfl, o1, g1⟩
      obtain ⟨A1, c1, rfl, _, _, q1⟩ := o1.open_
      go_wp2_with fail
      refine (laws_toIntS _ _ _ _ (r1.grow g1)).mono ?_; rintro e w2 ⟨v2, rfl, o2, g2⟩
      obtain ⟨A2, c2, rfl, _, _, q2⟩ := o2.open_
      go_wp2_with fail
      refine (spec_Distance _ _ _ _ _ _ _ _ (q1.grow g2) q2).mono ?_; rintro e w' ⟨rfl, n, rfl⟩
      have g3 := g1.trans (g2.trans (Grow.drewN w2 n))
      go_wp2_with fail
      refine (laws_toIntS _ _ _ _ (r0.grow g3)).mono ?_; rintro e w3 ⟨v3, rfl, o3, g4⟩
      obtain ⟨A3, c3, rfl, _, _, q3⟩ := o3.open_
      go_wp2_with fail
      refine (laws_toIntS _ _ _ _ (r1.grow (g3.trans g4))).mono ?_; rintro e w4 ⟨v4, rfl, o4, g5⟩
      obtain ⟨A4, c4, rfl, _, _, q4⟩ := o4.open_
      have q3' := q3.grow g5
      go_wp2_with fail
      refine (impl_Distance _ _ _ _ _ _ _ _ q3' q4).mono ?_; rintro e w' ⟨rfl, m0, rfl⟩
      have g6 := g3.trans (g4.trans (g5.trans (Grow.drewN w4 m0)))
      have q3'' := q3'.drewN m0
      have q4' := q4.drewN m0
      go_wp2_with fail
      refine (laws_toIntS _ _ _ _ (r0.grow g6)).mono ?_; rintro e w5 ⟨v5, rfl, o5, g7⟩
      obtain ⟨A5, c5, rfl, _, _, q5⟩ := o5.open_
      go_wp2_with fail
      refine (laws_eqIntS _ _ _ _ _ _ _ (RI.grow q3'' g7) q5).mono ?_; rintro e w' ⟨rfl, m, rfl⟩
      have g8 := g7.trans (Grow.drewN w5 m)
      go_wp2_with fail
      refine (laws_toIntS _ _ _ _ (r1.grow (g6.trans g8))).mono ?_; rintro e w6 ⟨v6, rfl, o6, g9⟩
      obtain ⟨A6, c6, rfl, _, _, q6⟩ := o6.open_
      go_wp2_with fail
      refine (laws_eqIntS _ _ _ _ _ _ _ (RI.grow q4' (g8.trans g9)) q6).mono ?_; rintro e w' ⟨rfl, m2, rfl⟩
      go_wp2_with fail
      go_ret
      exact ⟨rfl, g6.trans (g8.trans (g9.trans (Grow.drewN _ _)))⟩
    · go_enter Try.func8, Try.ntmps8
      go_wp2_with fail
      go_ret
      exact ⟨rfl, Below.refl _ _⟩
  · go_enter Try.func8, Try.ntmps8
    go_wp2_with fail
    go_ret
    exact ⟨rfl, Below.refl _ _⟩

theorem eqB_iff {xs ys : List Int} : eqB xs ys = true ↔ xs = ys := by simp [eqB]

set_option maxHeartbeats 800000 in
theorem walk_FnDistance (a0 : Option Addr) (n0 c0 : Nat) (x0 : List Int) (w : World) (h0 : ArgB w a0 n0 c0 x0) :
    Calls Try.prog 23 #[.slice a0 n0 c0] w fun e w' => e = .returned (.bool true) ∧ Below w.heap.size w w' := by
  by_cases hn : n0 ≤ 1048576
  · go_enter Try.func23, Try.ntmps23
    go_wp2_with fail
    refine (spec_DrawDistance _ _ _ _ _ h0).mono ?_
    rintro e w1 ⟨kind, v, u, xs, ys, rfl, k0, k5, d1, d2, g1⟩
    obtain ⟨A1, c1, rfl, _, _, q1⟩ := d1.vec.open_
    obtain ⟨A2, c2, rfl, _, _, q2⟩ := d2.vec.open_
    clear d1 d2 h0
    go_wp2_with fail
    refine (impl_Distance _ _ _ _ _ _ _ _ q1 q2).mono ?_; rintro e w' ⟨rfl, m, rfl⟩
    go_wp2_with fail
    refine (spec_Distance _ _ _ _ _ _ _ _ (q1.drewN m) (q2.drewN m)).mono ?_; rintro e w' ⟨rfl, m2, rfl⟩
    by_cases hneg : distV kind xs ys < 0
    · go_wp2_with fail
      refine (spec_Distance _ _ _ _ _ _ _ _ (q1.drewN _) (q2.drewN _)).mono ?_; rintro e w' ⟨rfl, m3, rfl⟩
      go_wp2_with fail
      go_ret
      exact ⟨rfl, g1.trans (Grow.alike rfl rfl rfl rfl)⟩
    · obtain ⟨hk, hx, hy⟩ := distV_valid hneg
      have hs : (distV kind ys xs == distV kind xs ys) = true := by rw [distV_comm]; simp
      have hlt : distV kind xs ys < 1000000 := by have := distV_bd kind xs ys; omega
      have HZ : distV kind xs ys = 0 ↔ xs = ys := by
        rw [distV_of hk hx hy, distL_zero_iff]
        have l1 := vecB_four hx
        have l2 := vecB_four hy
        constructor
        · intro hg; exact eq_of_gI (by omega) (fun i hi => hg i (by omega))
        · rintro rfl _ _; rfl
      by_cases he : xs = ys
      · have hz : (distV kind xs ys == 0) = true := by rw [HZ.2 he]; rfl
        have heq : eqB xs ys = true := eqB_iff.2 he
        clear HZ he hk hx hy
        go_wp2_with fail
        refine (impl_Distance _ _ _ _ _ _ _ _ (q2.drewN _) (q1.drewN _)).mono ?_; rintro e w' ⟨rfl, m3, rfl⟩
        go_wp2_with fail
        refine (laws_equalInts _ _ _ _ _ _ _ (q1.drewN _) (q2.drewN _)).mono ?_; rintro e w' ⟨rfl, m4, rfl⟩
        go_wp2_with fail
        go_ret
        exact ⟨rfl, g1.trans (Grow.alike rfl rfl rfl rfl)⟩
      · have hz : (distV kind xs ys == 0) = false := by rw [beq_eq_false_iff_ne]; intro h; exact he (HZ.1 h)
        have heq : eqB xs ys = false := by
          cases h : eqB xs ys with
          | false => rfl
          | true => exact absurd (eqB_iff.1 h) he
        clear HZ he hk hx hy
        go_wp2_with fail
        refine (impl_Distance _ _ _ _ _ _ _ _ (q2.drewN _) (q1.drewN _)).mono ?_; rintro e w' ⟨rfl, m3, rfl⟩
        go_wp2_with fail
        refine (laws_equalInts _ _ _ _ _ _ _ (q1.drewN _) (q2.drewN _)).mono ?_; rintro e w' ⟨rfl, m4, rfl⟩
        go_wp2_with fail
        go_ret
        exact ⟨rfl, g1.trans (Grow.alike rfl rfl rfl rfl)⟩
  · go_enter Try.func23, Try.ntmps23
    go_wp2_with fail
    go_ret
    exact ⟨rfl, Below.refl _ _⟩

set_option maxHeartbeats 800000 in
theorem walk_FnDistanceKinds (a0 : Option Addr) (n0 c0 : Nat) (x0 : List Int) (w : World) (h0 : ArgB w a0 n0 c0 x0) :
    Calls Try.prog 14 #[.slice a0 n0 c0] w fun e w' => e = .returned (.bool true) ∧ Below w.heap.size w w' := by
  by_cases hn : n0 ≤ 1048576
  · go_enter Try.func14, Try.ntmps14
    go_wp2_with fail
    refine (spec_DrawDistance _ _ _ _ _ h0).mono ?_
    rintro e w1 ⟨kind, v, u, xs, ys, rfl, k0, k5, d1, d2, g1⟩
    obtain ⟨A1, c1, rfl, _, _, q1⟩ := d1.vec.open_
    obtain ⟨A2, c2, rfl, _, _, q2⟩ := d2.vec.open_
    clear d1 d2 h0
    go_wp2_with fail
    refine (impl_Distance _ _ _ _ _ _ _ _ q1 q2).mono ?_; rintro e w' ⟨rfl, m, rfl⟩
    go_wp2_with fail
    refine (spec_Distance _ _ _ _ _ _ _ _ (q1.drewN m) (q2.drewN m)).mono ?_; rintro e w' ⟨rfl, m2, rfl⟩
    by_cases hneg : distV kind xs ys < 0
    · go_wp2_with fail
      refine (spec_Distance _ _ _ _ _ _ _ _ (q1.drewN _) (q2.drewN _)).mono ?_; rintro e w' ⟨rfl, m3, rfl⟩
      go_wp2_with fail
      go_ret
      exact ⟨rfl, g1.trans (Grow.alike rfl rfl rfl rfl)⟩
    · obtain ⟨hk, hx, hy⟩ := distV_valid hneg
      obtain ⟨f1, f2, f3, f4, f5⟩ := dist_kinds xs ys
      rw [← distV_of (by decide) hx hy, ← distV_of (by decide) hx hy] at f1 f2 f3 f4
      rw [← distV_of (by decide) hx hy] at f5
      obtain ⟨b1, b2⟩ := distV_bd 2 xs ys
      clear hk hx hy
      go_wp2_with fail
      refine (impl_Distance _ _ _ _ _ _ _ _ (q1.drewN _) (q2.drewN _)).mono ?_; rintro e w' ⟨rfl, m3, rfl⟩
      go_wp2_with fail
      refine (impl_Distance _ _ _ _ _ _ _ _ (q1.drewN _) (q2.drewN _)).mono ?_; rintro e w' ⟨rfl, m4, rfl⟩
      go_wp2_with fail
      refine (impl_Distance _ _ _ _ _ _ _ _ (q1.drewN _) (q2.drewN _)).mono ?_; rintro e w' ⟨rfl, m5, rfl⟩
      go_wp2_with fail
      refine (impl_Distance _ _ _ _ _ _ _ _ (q1.drewN _) (q2.drewN _)).mono ?_; rintro e w' ⟨rfl, m6, rfl⟩
      go_wp2_with fail
      go_ret
      exact ⟨rfl, g1.trans (Grow.alike rfl rfl rfl rfl)⟩
  · go_enter Try.func14, Try.ntmps14
    go_wp2_with fail
    go_ret
    exact ⟨rfl, Below.refl _ _⟩

set_option maxHeartbeats 800000 in
theorem walk_FnDistanceTriangle (a0 : Option Addr) (n0 c0 : Nat) (x0 : List Int) (w : World) (h0 : ArgB w a0 n0 c0 x0) :
    Calls Try.prog 16 #[.slice a0 n0 c0] w fun e w' => e = .returned (.bool true) ∧ Below w.heap.size w w' := by
  by_cases hn : n0 ≤ 1048576
  · go_enter Try.func16, Try.ntmps16
    go_wp2_with fail
    refine (spec_DrawDistance _ _ _ _ _ h0).mono ?_
    rintro e w1 ⟨kind, v, u, xs, ys, rfl, k0, k5, d1, d2, g1⟩
    obtain ⟨A1, c1, rfl, _, _, q1⟩ := d1.vec.open_
    obtain ⟨A2, c2, rfl, _, _, q2⟩ := d2.vec.open_
    clear d1 d2 h0
    go_wp2_with fail
    refine (impl_Distance _ _ _ _ _ _ _ _ q1 q2).mono ?_; rintro e w' ⟨rfl, m, rfl⟩
    go_wp2_with fail
    refine (spec_Distance _ _ _ _ _ _ _ _ (q1.drewN m) (q2.drewN m)).mono ?_; rintro e w' ⟨rfl, m2, rfl⟩
    by_cases hneg : distV kind xs ys < 0
    · go_wp2_with fail
      refine (spec_Distance _ _ _ _ _ _ _ _ (q1.drewN _) (q2.drewN _)).mono ?_; rintro e w' ⟨rfl, m3, rfl⟩
      go_wp2_with fail
      go_ret
      exact ⟨rfl, g1.trans (Grow.alike rfl rfl rfl rfl)⟩
    · by_cases h3 : kind = 3
      · subst h3
        go_wp2_with fail
        refine (spec_Distance _ _ _ _ _ _ _ _ (q1.drewN _) (q2.drewN _)).mono ?_; rintro e w' ⟨rfl, m3, rfl⟩
        go_wp2_with fail
        go_ret
        exact ⟨rfl, g1.trans (Grow.alike rfl rfl rfl rfl)⟩
      · have h3' : (kind == 3) = false := by rw [beq_eq_false_iff_ne]; exact h3
        obtain ⟨hk, hx, hy⟩ := distV_valid hneg
        have hvz : vecB [0, 0, 0, 0] 4 = true := vecB_zero
        have ht : distV kind xs ys ≤ distV kind xs [0, 0, 0, 0] + distV kind [0, 0, 0, 0] ys := by
          rw [distV_of hk hx hy, distV_of hk hx hvz, distV_of hk hvz hy]; exact distL_tri h3 _ _ _ _
        obtain ⟨b1, b2⟩ := distV_bd kind xs [0, 0, 0, 0]
        obtain ⟨b3, b4⟩ := distV_bd kind [0, 0, 0, 0] ys
        clear hk hx hy hvz
        go_wp2_with (at_make; refine wpList_zeros rfl _ _ rfl 4 rfl rfl (by omega) ?_; intro w3 o4 g4)
        have p1 : RI w3 w3.heap.size A1 xs := RI.grow (q1.drewN (m + m2)) g4
        have p2 : RI w3 w3.heap.size A2 ys := RI.grow (q2.drewN (m + m2)) g4
        have p4 : RI w3 w3.heap.size _ [0, 0, 0, 0] := o4.ri
        refine (impl_Distance kind _ _ xs [0, 0, 0, 0] _ _ _ p1 p4).mono ?_; rintro e w' ⟨rfl, m3, rfl⟩
        go_wp2_with fail
        refine (impl_Distance kind _ _ [0, 0, 0, 0] ys _ _ _ (p4.drewN _) (p2.drewN _)).mono ?_; rintro e w' ⟨rfl, m4, rfl⟩
        go_wp2_with fail
        go_ret
        exact ⟨rfl, g1.trans ((Grow.drewN w1 (m + m2)).trans (g4.trans (Grow.alike rfl rfl rfl rfl)))⟩
  · go_enter Try.func16, Try.ntmps16
    go_wp2_with fail
    go_ret
    exact ⟨rfl, Below.refl _ _⟩

def shiftI (xs : List Int) : List Int := rangeI (fun k => gI xs k + k - 1) xs.length
theorem shift_step {xs : List Int} {k : Nat} {x : Int} (h : xs[k]? = some x) : rangeI (fun k => gI xs k + k - 1) (k + 1) = rangeI (fun k => gI xs k + k - 1) k ++ [x + k - 1] := by rw [rangeI_succ, gI_of h]
theorem dist_shift (kind : Int) (xs ys : List Int) (h1 : xs.length = 4) (h2 : ys.length = 4) : distL kind (shiftI xs) (shiftI ys) 4 = distL kind xs ys 4 := by
  have e : ∀ i, i < 4 → dI (shiftI xs) (shiftI ys) i = dI xs ys i := fun i hi => by
    unfold dI shiftI
    rw [gI_rangeI _ (by omega), gI_rangeI _ (by omega)]
    have := ad_shift (gI xs i) (gI ys i) (i - 1)
    rw [show gI xs i + (i : Int) - 1 = gI xs i + (i - 1) by omega, show gI ys i + (i : Int) - 1 = gI ys i + (i - 1) by omega]
    exact this
  have e3 : sumTo (fun i => dI (shiftI xs) (shiftI ys) i * dI (shiftI xs) (shiftI ys) i) 4 = sumTo (fun i => dI xs ys i * dI xs ys i) 4 := sumTo_congr fun i hi => by simp only [e i hi]
  have e4 : sumTo (fun i => one (dI (shiftI xs) (shiftI ys) i)) 4 = sumTo (fun i => one (dI xs ys i)) 4 := sumTo_congr fun i hi => by simp only [e i hi]
  unfold distL
  rw [sumTo_congr e, mostTo_congr e, e3, e4]

set_option maxHeartbeats 3200000 in
theorem walk_FnDistanceShift (a0 : Option Addr) (n0 c0 : Nat) (x0 : List Int) (w : World) (h0 : ArgB w a0 n0 c0 x0) :
    Calls Try.prog 18 #[.slice a0 n0 c0] w fun e w' => e = .returned (.bool true) ∧ Below w.heap.size w w' := by
  by_cases hn : n0 ≤ 1048576
  · go_enter Try.func18, Try.ntmps18
    go_wp2_with fail
    refine (spec_DrawDistance _ _ _ _ _ h0).mono ?_
    rintro e w1 ⟨kind, v, u, xs, ys, rfl, k0, k5, d1, d2, g1⟩
    obtain ⟨A1, c1, rfl, _, _, q1⟩ := d1.vec.open_
    obtain ⟨A2, c2, rfl, _, _, q2⟩ := d2.vec.open_
    have sm1 := d1.small
    have sm2 := d2.small
    clear d1 d2 h0
    go_wp2_with fail
    refine (impl_Distance _ _ _ _ _ _ _ _ q1 q2).mono ?_; rintro e w' ⟨rfl, m, rfl⟩
    go_wp2_with fail
    refine (spec_Distance _ _ _ _ _ _ _ _ (q1.drewN m) (q2.drewN m)).mono ?_; rintro e w' ⟨rfl, m2, rfl⟩
    by_cases hneg : distV kind xs ys < 0
    · go_wp2_with fail
      refine (spec_Distance _ _ _ _ _ _ _ _ (q1.drewN _) (q2.drewN _)).mono ?_; rintro e w' ⟨rfl, m3, rfl⟩
      go_wp2_with fail
      go_ret
      exact ⟨rfl, g1.trans (Grow.alike rfl rfl rfl rfl)⟩
    · obtain ⟨hk, hx, hy⟩ := distV_valid hneg
      have HX := Lib.hid hx
      have HY := Lib.hid hy
      have HK := Lib.hid hk
      have hl1 : xs.length ≤ 4 := Nat.le_of_eq (vecB_four hx)
      have hl2 : 4 ≤ xs.length := Nat.le_of_eq (vecB_four hx).symm
      have hl3 : ys.length ≤ 4 := Nat.le_of_eq (vecB_four hy)
      have hl4 : 4 ≤ ys.length := Nat.le_of_eq (vecB_four hy).symm
      clear hk hx hy
      go_wp2_with fail
      go_loopw [7, 8, 9] (fun vx vy i wr => ∃ k : Nat, k ≤ xs.length ∧ i = .int .i64 k ∧ wr.ownsRow w1.heap.size 3 1 vx (rangeI (fun k => gI xs k + k - 1) k).length ((rangeI (fun k => gI xs k + k - 1) k).map (Value.int .i64)) ∧
        wr.ownsRow w1.heap.size 3 1 vy (rangeI (fun k => gI ys k + k - 1) k).length ((rangeI (fun k => gI ys k + k - 1) k).map (Value.int .i64)) ∧ vy.ownBlock ≠ vx.ownBlock ∧ Below w1.heap.size w1 wr) (fun _ _ i _ => xs.length - (intOf i).toNat)
      case atStart => exact ⟨0, Nat.zero_le _, rfl, (World.ownsRow_lit (w1.drewN (m + m2)) #[] 0 (Nat.le_refl _) (by unfold maxLen; omega) rfl).alloc _, by simpa [rangeI] using World.ownsRow_lit (base := w1.heap.size) (e := 3) (size := 1) ((w1.drewN (m + m2)).alloc (.cells #[] 3)) #[] 0 (by simp) (by unfold maxLen; omega) rfl,
          by simp [Value.ownBlock], ((below_drewN (Below.refl _ _) (m + m2)).alloc (Nat.le_refl _) _).alloc (by simp) _⟩
      case round =>
        obtain ⟨k, hk, rfl, hox, hoy, hne, hb⟩ := hrel
        by_cases hlt : k < xs.length
        · have hlt2 : k < ys.length := by omega
          obtain ⟨ad, x, rfl, _, hcx, _, _, hkx⟩ := (q1.below hb).at_ hlt
          obtain ⟨bd, y, rfl, hbd, hcy0, _, _, hky⟩ := (q2.below hb).at_ hlt2
          clear hcy0
          obtain ⟨s1, s2⟩ := sm1.2 x (List.mem_of_getElem? hkx.out)
          obtain ⟨s3, s4⟩ := sm2.2 y (List.mem_of_getElem? hky.out)
          have hB := hb.size
          go_wp2_with (first
            | (at_builtin; refine wpList_pushIx rfl (.tmp 47) (.tmp 55) rfl rfl rfl hox hb hB (by rw [rangeI_len]; omega) ?_; intro v2 w2 hox2 hb2 keep2; have hoy2 := (keep2 _ _ _ _ hoy hne).1; have hne2 := (keep2 _ _ _ _ hoy hne).2; have hB2 := hb2.size; have hcy := (q2.below hb2).cell_ hky; clear hcx keep2)
            | (at_builtin; refine wpList_pushIx rfl (.tmp 57) (.tmp 65) rfl rfl rfl hoy2 hb2 hB2 (by rw [rangeI_len]; omega) ?_; intro v3 w3 hoy3 hb3 keep3; have hox3 := (keep3 _ _ _ _ hox2 hne2.symm).1; have hne3 := (keep3 _ _ _ _ hox2 hne2.symm).2; clear keep3))
          go_roundw
          case rel => exact ⟨k + 1, by omega, by go_num, by rw [shift_step hkx.out]; exact hox3, by rw [shift_step hky.out]; exact hoy3, hne3.symm, hb3⟩
          case measure => simp [intOf]; omega
        · obtain rfl : k = xs.length := by omega
          have e4 : xs.length = ys.length := by omega
          have ox : OwnI wr w1.heap.size wr.heap.size u7 (shiftI xs) := OwnI.mk' hox (fun z hz => by
            simp only [shiftI, rangeI, List.mem_map, List.mem_range] at hz
            obtain ⟨i, hi, rfl⟩ := hz
            have := gI_bd HX.out i; omega) (by rw [shiftI, rangeI_len]; omega)
          have oy : OwnI wr w1.heap.size wr.heap.size u8 (shiftI ys) := OwnI.mk' (by rw [e4] at hoy; exact hoy) (fun z hz => by
            simp only [shiftI, rangeI, List.mem_map, List.mem_range] at hz
            obtain ⟨i, hi, rfl⟩ := hz
            have := gI_bd HY.out i; omega) (by rw [shiftI, rangeI_len]; omega)
          have gw : Grow w1 wr := hb
          have HD : vecB (shiftI xs) 4 = true → vecB (shiftI ys) 4 = true → distV kind (shiftI xs) (shiftI ys) = distV kind xs ys := fun ha hb' => by
            rw [distV_of HK.out ha hb', distV_of HK.out HX.out HY.out, dist_shift _ _ _ (vecB_four HX.out) (vecB_four HY.out)]
          obtain ⟨ps, qs, ox, oy, HD⟩ : ∃ ps qs, OwnI wr w1.heap.size wr.heap.size u7 ps ∧ OwnI wr w1.heap.size wr.heap.size u8 qs ∧ (vecB ps 4 = true → vecB qs 4 = true → distV kind ps qs = distV kind xs ys) := ⟨_, _, ox, oy, HD⟩
          obtain ⟨A3, c3, rfl, _, _, q3⟩ := ox.open_
          obtain ⟨A4, c4, rfl, _, _, q4⟩ := oy.open_
          have HDD := Lib.hid HD
          clear hox hoy hne hb ox oy e4 HD
          cases hp : vecB ps 4
          · go_wp2_with fail
            refine (impl_ValidVector _ ps _ _ q3).mono ?_; rintro e w' ⟨rfl, rfl⟩
            go_wp2_with fail
            go_ret
            exact ⟨rfl, g1.trans gw⟩
          · cases hq : vecB qs 4
            · go_wp2_with fail
              refine (impl_ValidVector _ ps _ _ q3).mono ?_; rintro e w' ⟨rfl, rfl⟩
              go_wp2_with fail
              refine (impl_ValidVector _ qs _ _ q4).mono ?_; rintro e w' ⟨rfl, rfl⟩
              go_wp2_with fail
              go_ret
              exact ⟨rfl, g1.trans gw⟩
            · have hD := HDD.out hp hq
              go_wp2_with fail
              refine (impl_ValidVector _ ps _ _ q3).mono ?_; rintro e w' ⟨rfl, rfl⟩
              go_wp2_with fail
              refine (impl_ValidVector _ qs _ _ q4).mono ?_; rintro e w' ⟨rfl, rfl⟩
              go_wp2_with fail
              refine (impl_Distance _ _ _ ps qs _ _ _ q3 q4).mono ?_; rintro e w' ⟨rfl, m3, rfl⟩
              go_wp2_with fail
              go_ret
              exact ⟨rfl, g1.trans (gw.trans (Grow.alike rfl rfl rfl rfl))⟩
  · go_enter Try.func18, Try.ntmps18
    go_wp2_with fail
    go_ret
    exact ⟨rfl, Below.refl _ _⟩

set_option maxHeartbeats 1600000 in
theorem walk_FnDistanceOne (a0 : Option Addr) (n0 c0 : Nat) (x0 : List Int) (w : World) (h0 : ArgB w a0 n0 c0 x0) :
    Calls Try.prog 15 #[.slice a0 n0 c0] w fun e w' => e = .returned (.bool true) ∧ Below w.heap.size w w' := by
  by_cases hn : n0 ≤ 1048576
  · go_enter Try.func15, Try.ntmps15
    go_wp2_with fail
    refine (spec_DrawDistance _ _ _ _ _ h0).mono ?_
    rintro e w1 ⟨kind, v, u, xs, ys, rfl, k0, k5, d1, d2, g1⟩
    obtain ⟨A1, c1, rfl, _, _, q1⟩ := d1.vec.open_
    obtain ⟨A2, c2, rfl, _, _, q2⟩ := d2.vec.open_
    clear d1 d2 h0
    go_wp2_with fail
    refine (impl_Distance _ _ _ _ _ _ _ _ q1 q2).mono ?_; rintro e w' ⟨rfl, m, rfl⟩
    go_wp2_with fail
    refine (spec_Distance _ _ _ _ _ _ _ _ (q1.drewN m) (q2.drewN m)).mono ?_; rintro e w' ⟨rfl, m2, rfl⟩
    by_cases hneg : distV kind xs ys < 0
    · go_wp2_with fail
      refine (spec_Distance _ _ _ _ _ _ _ _ (q1.drewN _) (q2.drewN _)).mono ?_; rintro e w' ⟨rfl, m3, rfl⟩
      go_wp2_with fail
      go_ret
      exact ⟨rfl, g1.trans (Grow.alike rfl rfl rfl rfl)⟩
    · obtain ⟨hk, hx, hy⟩ := distV_valid hneg
      have HX := Lib.hid hx
      have HY := Lib.hid hy
      have hl1 : xs.length ≤ 4 := Nat.le_of_eq (vecB_four hx)
      have hl2 : 4 ≤ xs.length := Nat.le_of_eq (vecB_four hx).symm
      have hl3 : ys.length ≤ 4 := Nat.le_of_eq (vecB_four hy)
      have hl4 : 4 ≤ ys.length := Nat.le_of_eq (vecB_four hy).symm
      clear hk hx hy
      obtain ⟨j, tj, hj⟩ : ∃ j : Nat, (n0 : Int) % 4 = (j : Int) ∧ j < 4 := ⟨n0 % 4, by omega, by omega⟩
      have p1 : RI (w1.drewN (m + m2)) w1.heap.size A1 xs := q1.drewN (m + m2)
      have q1' := q1.drewN (m + m2)
      have q2' := q2.drewN (m + m2)
      have hj1 : j < xs.length := by omega
      have hj2 : j < ys.length := by omega
      obtain ⟨bd, y, rfl, _, _, _, _, hky⟩ := q2.at_ hj2
      obtain ⟨x, hx⟩ : ∃ x, xs[j]? = some x := ⟨_, List.getElem?_eq_getElem hj1⟩
      have hyb := vecB_at HY.out hky.out
      have HXJ := Lib.hid hx
      clear hx
      have hl : (xs.set j y).length = xs.length := List.length_set
      have hvz : vecB (xs.set j y) 4 = true := by
        rw [vecB_len (by rw [hl]; exact vecB_four HX.out), allB, List.all_eq_true]
        intro z hz
        rcases List.mem_or_eq_of_mem_set hz with hz | rfl
        · exact inB_yes (vecB_mem HX.out hz).1 (vecB_mem HX.out hz).2
        · exact inB_yes hyb.1 hyb.2
      obtain ⟨f1, f2, f3⟩ := dist_one (a := xs) (c := xs.set j y) hj (fun i hi hne => by unfold gI; rw [List.getElem?_set_ne (by omega)])
      rw [← distV_of (by decide) HX.out hvz, ← distV_of (by decide) HX.out hvz] at f1 f2 f3
      obtain ⟨b1, b2⟩ := distV_bd 2 xs (xs.set j y)
      obtain ⟨b3, b4⟩ := distV_bd 3 xs (xs.set j y)
      have b0 : 0 ≤ distV 1 xs (xs.set j y) := by rw [distV_of (by decide) HX.out hvz]; exact distL_nonneg _ _ _ _
      have b5 : distV 1 xs (xs.set j y) * distV 1 xs (xs.set j y) ≤ 160000 := by omega
      have b6 : 0 ≤ distV 1 xs (xs.set j y) * distV 1 xs (xs.set j y) := sq_nonneg _
      have D : ∀ (k : Int) (A B : Option Addr) (c d : Nat) (W : World), RI W W.heap.size A xs → RI W W.heap.size B (xs.set j y) →
          Calls Try.prog 36 #[.int .i64 k, .slice A xs.length c, .slice B xs.length d] W fun e w' => e = .returned (.int .i64 (distV k xs (xs.set j y))) ∧ ∃ n, w' = W.drewN n := fun k A B c d W ha hb => by
        have := impl_Distance k A B xs (xs.set j y) c d W ha hb
        rw [hl] at this
        exact this
      have h1 : (distV 1 xs (xs.set j y) == distV 2 xs (xs.set j y)) = true := by rw [f1]; simp
      have h2 : (distV 1 xs (xs.set j y) * distV 1 xs (xs.set j y) == distV 3 xs (xs.set j y)) = true := by rw [f2]; simp
      obtain ⟨zs, hzs⟩ : ∃ zs, zs = xs.set j y := ⟨_, rfl⟩
      have F := f3
      rw [← hzs] at F h1 h2 D b0 b1 b2 b3 b4 b5 b6
      have HZ := Lib.hid hzs
      have DD := Lib.hid D
      clear hl hvz f1 f2 f3 hzs D
      go_wp2_with (at_builtin; refine wpList_copyI rfl _ _ rfl rfl rfl rfl p1 (Nat.le_refl _) ?_; intro v3 w3 o3 g3; obtain ⟨A3, c3, rfl, hc3, _, _⟩ := o3.open_; obtain ⟨gb, rfl, _, hgb, _, hgb2⟩ := o3.form (by omega); have hcell := o3.cellAt rfl HXJ.out; have hfz := o3.frozenAt j rfl; have hcy := (RI.grow q2' g3).cell_ hky; have o4 := o3.set_ (j := j) (x := y) rfl (by omega); have hb4 : Below w1.heap.size w3 (w3.setCell ⟨gb, j, none⟩ (.int .i64 y)) := (Below.refl _ _).setCell hgb _; clear o3)
      rw [← HZ.out] at o4
      obtain ⟨W, hW⟩ : ∃ W, W = w3.setCell ⟨gb, j, none⟩ (.int .i64 y) := ⟨_, rfl⟩
      rw [← hW] at o4 hb4 ⊢
      have gW : Grow (w1.drewN (m + m2)) W := Below.trans g3 hb4
      have r1 : RI W W.heap.size A1 xs := RI.grow q1' gW
      have r3 : RI W W.heap.size (some ⟨gb, 0, none⟩) zs := by
        obtain ⟨A5, c5, e5, _, _, q5⟩ := o4.open_
        injection e5 with e5
        subst e5
        exact q5
      clear hW hcell hfz hcy o4
      refine (DD.out 1 _ _ _ _ W r1 r3).mono ?_; rintro e w' ⟨rfl, m3, rfl⟩
      go_wp2_with fail
      refine (DD.out 2 _ _ _ _ _ (r1.drewN _) (r3.drewN _)).mono ?_; rintro e w' ⟨rfl, m4, rfl⟩
      go_wp2_with fail
      refine (DD.out 3 _ _ _ _ _ (r1.drewN _) (r3.drewN _)).mono ?_; rintro e w' ⟨rfl, m5, rfl⟩
      go_wp2_with fail
      refine (DD.out 4 _ _ _ _ _ (r1.drewN _) (r3.drewN _)).mono ?_; rintro e w' ⟨rfl, m6, rfl⟩
      have gf : ∀ k, Grow w (W.drewN k) := fun k => g1.trans ((Grow.drewN w1 (m + m2)).trans (gW.trans (Grow.drewN _ _)))
      by_cases ht : 1 < distV 1 xs zs
      · have hF : (distV 4 xs zs == 1) = true := by rw [F, if_pos ht]; rfl
        clear F
        go_wp2_with fail
        go_ret
        exact ⟨rfl, gf _⟩
      · have hF : (distV 4 xs zs == distV 1 xs zs) = true := by rw [F, if_neg ht]; simp
        clear F
        go_wp2_with fail
        go_ret
        exact ⟨rfl, gf _⟩
  · go_enter Try.func15, Try.ntmps15
    go_wp2_with fail
    go_ret
    exact ⟨rfl, Below.refl _ _⟩
end Go.Proofs.Ytnmondecnanmcaa
