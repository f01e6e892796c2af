/- The walks of the laws on ways from vector to vector: each returns true, and writes nothing that was there. -/
import Derived.Test.YtnmondecnanmcaaDraw
import Derived.Test.YtnmondecnanmcaaPlainV
import Derived.Test.YtnmondecnanmcaaMove
namespace Go.Proofs.Ytnmondecnanmcaa
set_option linter.unusedVariables false
open Go Go.RowKit

set_option maxHeartbeats 1600000 in
theorem walk_FnMoveToSame (a0 : Option Addr) (n0 c0 : Nat) (x0 : List Int) (w : World) (h0 : ArgB w a0 n0 c0 x0) :
    Calls Try.prog 12 #[.slice a0 n0 c0] w fun e w' => e = .returned (.bool true) ∧ Below w.heap.size w w' := by
  by_cases hn : n0 ≤ 1048576
  · go_enter Try.func12, Try.ntmps12
    go_wp2_with fail
    refine (spec_DrawMoveTo _ _ _ _ _ h0).mono ?_
    rintro e w1 ⟨v, u, p, xs, ys, rfl, p0, p1, d1, d2, g1⟩
    obtain ⟨A1, c1, rfl, _, _, q1⟩ := d1.vec.open_
    obtain ⟨A2, c2, rfl, _, _, q2⟩ := d2.vec.open_
    clear d1 d2 h0
    go_wp2_with fail
    refine (impl_MoveTo _ _ _ _ _ _ _ _ q1 q2).mono ?_; rintro e w2 ⟨v2, rfl, o2, g2⟩
    obtain ⟨zs, hzs⟩ : ∃ zs, zs = moveV xs ys p := ⟨_, rfl⟩
    rw [← hzs] at o2
    have HZ := Lib.hid hzs
    obtain ⟨A3, c3, rfl, _, _, q3⟩ := o2.open_
    clear o2 hzs
    go_wp2_with fail
    refine (spec_MoveTo _ _ _ _ _ _ _ _ (q1.grow g2) (q2.grow g2)).mono ?_; rintro e w3 ⟨v3, rfl, o3, g3⟩
    rw [← HZ.out] at o3
    obtain ⟨A4, c4, rfl, _, _, q4⟩ := o3.open_
    clear o3
    have heq := eqB_self zs
    go_wp2_with fail
    refine (laws_equalInts _ _ _ _ _ _ _ (q3.grow g3) q4).mono ?_; rintro e w' ⟨rfl, m, rfl⟩
    have g5 : Grow w (w3.drewN m) := g1.trans (g2.trans (g3.trans (Grow.drewN _ _)))
    have k1 : Grow w1 (w3.drewN m) := g2.trans (g3.trans (Grow.drewN _ _))
    have k2 : Grow w2 (w3.drewN m) := g3.trans (Grow.drewN _ _)
    by_cases hz : zs.length = 0
    · have hz' : ((zs.length : Int) == 0) = true := by rw [hz]; rfl
      have HL := Lib.hid hz
      clear hz
      go_wp2_with fail
      refine (spec_MoveTo _ _ xs ys _ _ _ _ (q1.grow k1) (q2.grow k1)).mono ?_; rintro e w4 ⟨v4, rfl, o4, g4⟩
      rw [← HZ.out] at o4
      obtain ⟨A5, c5, rfl, _, _, q5⟩ := o4.open_
      clear o4
      go_wp2_with fail
      refine (laws_equalInts _ _ zs zs _ _ _ (q3.grow (k2.trans g4)) q5).mono ?_; rintro e w' ⟨rfl, m2, rfl⟩
      go_wp2_with fail
      go_ret
      exact ⟨rfl, g5.trans (g4.trans (Grow.alike rfl rfl rfl rfl))⟩
    · have hz' : ((zs.length : Int) == 0) = false := by rw [beq_eq_false_iff_ne]; omega
      obtain ⟨hx, hy, h0, h1⟩ := moveV_some (a := xs) (b := ys) (p := p) (by rw [← HZ.out]; exact hz)
      have hvz : vecB zs 4 = true := by rw [HZ.out]; exact moveV_vec hx hy h0 h1
      have hsame : moveV xs xs p = xs := moveV_same hx h0 h1
      have hex := eqB_self xs
      have HS := Lib.hid hsame
      clear hz hsame hx hy
      go_wp2_with fail
      refine (impl_MoveTo _ _ xs xs _ _ _ _ (q1.grow k1) (q1.grow k1)).mono ?_; rintro e w4 ⟨v4, rfl, o4, g4⟩
      rw [HS.out] at o4
      obtain ⟨A5, c5, rfl, _, _, q5⟩ := o4.open_
      clear o4
      go_wp2_with fail
      refine (laws_equalInts _ _ xs xs _ _ _ q5 (q1.grow (k1.trans g4))).mono ?_; rintro e w' ⟨rfl, m2, rfl⟩
      go_wp2_with fail
      refine (impl_ValidVector _ zs _ _ (q3.grow (k2.trans (g4.trans (Grow.drewN _ _))))).mono ?_; rintro e w' ⟨rfl, rfl⟩
      go_wp2_with fail
      go_ret
      exact ⟨rfl, g5.trans (g4.trans (Grow.alike rfl rfl rfl rfl))⟩
  · go_enter Try.func12, Try.ntmps12
    go_wp2_with fail
    go_ret
    exact ⟨rfl, Below.refl _ _⟩

set_option maxHeartbeats 1600000 in
theorem walk_FnMoveToNearer (a0 : Option Addr) (n0 c0 : Nat) (x0 : List Int) (w : World) (h0 : ArgB w a0 n0 c0 x0) :
    Calls Try.prog 22 #[.slice a0 n0 c0] w fun e w' => e = .returned (.bool true) ∧ Below w.heap.size w w' := by
  by_cases hn : n0 ≤ 1048576
  · go_enter Try.func22, Try.ntmps22
    go_wp2_with fail
    refine (spec_DrawMoveTo _ _ _ _ _ h0).mono ?_
    rintro e w1 ⟨v, u, p, xs, ys, rfl, p0, p1, d1, d2, g1⟩
    obtain ⟨A1, c1, rfl, _, _, q1⟩ := d1.vec.open_
    obtain ⟨A2, c2, rfl, _, _, q2⟩ := d2.vec.open_
    clear d1 d2 h0
    go_wp2_with fail
    refine (impl_MoveTo _ _ _ _ _ _ _ _ q1 q2).mono ?_; rintro e w2 ⟨v2, rfl, o2, g2⟩
    obtain ⟨zs, hzs⟩ : ∃ zs, zs = moveV xs ys p := ⟨_, rfl⟩
    rw [← hzs] at o2
    have HZ := Lib.hid hzs
    obtain ⟨A3, c3, rfl, _, _, q3⟩ := o2.open_
    clear o2 hzs
    go_wp2_with fail
    refine (spec_MoveTo _ _ _ _ _ _ _ _ (q1.grow g2) (q2.grow g2)).mono ?_; rintro e w3 ⟨v3, rfl, o3, g3⟩
    rw [← HZ.out] at o3
    obtain ⟨A4, c4, rfl, _, _, q4⟩ := o3.open_
    clear o3
    have heq := eqB_self zs
    go_wp2_with fail
    refine (laws_equalInts _ _ _ _ _ _ _ (q3.grow g3) q4).mono ?_; rintro e w' ⟨rfl, m, rfl⟩
    have g5 : Grow w (w3.drewN m) := g1.trans (g2.trans (g3.trans (Grow.drewN _ _)))
    have k1 : Grow w1 (w3.drewN m) := g2.trans (g3.trans (Grow.drewN _ _))
    have k2 : Grow w2 (w3.drewN m) := g3.trans (Grow.drewN _ _)
    by_cases hz : zs.length = 0 ∨ p = 1000
    · by_cases hz0 : zs.length = 0
      · have hz' : ((zs.length : Int) == 0) = true := by rw [hz0]; rfl
        have HL := Lib.hid hz0
        clear hz hz0
        go_wp2_with fail
        refine (spec_MoveTo _ _ xs ys _ _ _ _ (q1.grow k1) (q2.grow k1)).mono ?_; rintro e w4 ⟨v4, rfl, o4, g4⟩
        rw [← HZ.out] at o4
        obtain ⟨A5, c5, rfl, _, _, q5⟩ := o4.open_
        clear o4
        go_wp2_with fail
        refine (laws_equalInts _ _ zs zs _ _ _ (q3.grow (k2.trans g4)) q5).mono ?_; rintro e w' ⟨rfl, m2, rfl⟩
        go_wp2_with fail
        go_ret
        exact ⟨rfl, g5.trans (g4.trans (Grow.alike rfl rfl rfl rfl))⟩
      · have hz' : ((zs.length : Int) == 0) = false := by rw [beq_eq_false_iff_ne]; omega
        have hp : p = 1000 := by omega
        clear hz hz0
        subst hp
        go_wp2_with fail
        refine (spec_MoveTo _ _ xs ys _ _ _ _ (q1.grow k1) (q2.grow k1)).mono ?_; rintro e w4 ⟨v4, rfl, o4, g4⟩
        rw [← HZ.out] at o4
        obtain ⟨A5, c5, rfl, _, _, q5⟩ := o4.open_
        clear o4
        go_wp2_with fail
        refine (laws_equalInts _ _ zs zs _ _ _ (q3.grow (k2.trans g4)) q5).mono ?_; rintro e w' ⟨rfl, m2, rfl⟩
        go_wp2_with fail
        go_ret
        exact ⟨rfl, g5.trans (g4.trans (Grow.alike rfl rfl rfl rfl))⟩
    · have hz1 : ¬ zs.length = 0 := fun h => hz (.inl h)
      have hp1 : ¬ p = 1000 := fun h => hz (.inr h)
      have hz' : ((zs.length : Int) == 0) = false := by rw [beq_eq_false_iff_ne]; omega
      have hp' : (p == 1000) = false := by rw [beq_eq_false_iff_ne]; exact hp1
      obtain ⟨hx, hy, h0, h1⟩ := moveV_some (a := xs) (b := ys) (p := p) (by rw [← HZ.out]; exact hz1)
      have hp2 : p + 1 ≤ 1000 := by omega
      have hvz : vecB zs 4 = true := by rw [HZ.out]; exact moveV_vec hx hy h0 h1
      have hvn : vecB (moveV xs ys (p + 1)) 4 = true := moveV_vec hx hy (by omega) hp2
      have hle : distV 2 (moveV xs ys (p + 1)) ys ≤ distV 2 zs ys + 1 := by
        rw [distV_of (by decide) hvn hy, distV_of (by decide) hvz hy, HZ.out]
        have := move_nearer hx hy h0 hp2
        omega
      obtain ⟨ts, hts⟩ : ∃ ts, ts = moveV xs ys (p + 1) := ⟨_, rfl⟩
      rw [← hts] at hle
      have HT := Lib.hid hts
      obtain ⟨b1, b2⟩ := distV_bd 2 zs ys
      clear hz hz1 hp1 hx hy hts hvz hvn
      go_wp2_with fail
      refine (impl_MoveTo _ _ xs ys _ _ _ _ (q1.grow k1) (q2.grow k1)).mono ?_; rintro e w4 ⟨v4, rfl, o4, g4⟩
      rw [← HT.out] at o4
      obtain ⟨A5, c5, rfl, _, _, q5⟩ := o4.open_
      clear o4
      go_wp2_with fail
      refine (impl_Distance _ _ _ ts ys _ _ _ q5 (q2.grow (k1.trans g4))).mono ?_; rintro e w' ⟨rfl, m2, rfl⟩
      go_wp2_with fail
      refine (impl_Distance _ _ _ zs ys _ _ _ (q3.grow (k2.trans (g4.trans (Grow.drewN _ _)))) (q2.grow (k1.trans (g4.trans (Grow.drewN _ _))))).mono ?_; rintro e w' ⟨rfl, m3, rfl⟩
      go_wp2_with fail
      go_ret
      exact ⟨rfl, g5.trans (g4.trans (Grow.alike rfl rfl rfl rfl))⟩
  · go_enter Try.func22, Try.ntmps22
    go_wp2_with fail
    go_ret
    exact ⟨rfl, Below.refl _ _⟩
end Go.Proofs.Ytnmondecnanmcaa
