/- The walk of the law FnBuildTreeOne: it returns true, and writes nothing that was there. -/
import Derived.Test.YtebiaodjodlloaaSDraws
import Derived.Test.YtebiaodjodlloaaTreeJ
import Derived.Test.YtebiaodjodlloaaSAid
import Derived.Test.YtebiaodjodlloaaPlainD
import Derived.Test.YtebiaodjodlloaaFrom
namespace Go.Proofs.Ytebiaodjodlloaa
set_option linter.unusedVariables false
open Go Go.RowKit

set_option maxRecDepth 100000 in
set_option maxHeartbeats 3200000 in
theorem walk_FnBuildTreeOne (a0 : Option Addr) (n0 c0 : Nat) (x0 : List Int) (w : World) (h0 : ArgB w a0 n0 c0 x0) :
    Calls Try.prog 5 #[.slice a0 n0 c0] w fun e w' => e = .returned (.bool true) ∧ Below w.heap.size w w' := by
  by_cases hn : n0 ≤ 1048576
  · go_enter Try.func5, Try.ntmps5
    go_wp2_with fail
    refine (spec_DrawBuildTree _ _ _ _ _ h0).mono ?_
    rintro e w2 ⟨A1, c1, l, kind, rfl, kb0, kb5, q2, g2⟩
    have hlc := q2.cap
    have hct := q2.top
    have hl17 := q2.few
    clear h0
    go_wp2_with fail
    refine (impl_BuildTree _ _ l kind _ q2.rs hlc hct).mono ?_; rintro e w3 ⟨u3, rfl, o3, g3⟩
    obtain ⟨S, hS⟩ : ∃ S, S = treeV l kind := ⟨_, rfl⟩
    have hSf : S.length ≤ 16 := by rw [hS]; exact treeV_few
    rw [← hS] at o3
    have HS := Lib.hid hS
    clear hS
    obtain ⟨A3, c3, rfl, hc3, hm3, _⟩ := o3.open_
    go_wp2_with fail
    refine (spec_BuildTree _ _ l kind _ (q2.grow g3).rs hlc hct).mono ?_; rintro e w4 ⟨u4, rfl, o4, g4⟩
    rw [← HS.out] at o4
    obtain ⟨A4, c4, rfl, _, _, _⟩ := o4.open_
    go_wp2_with fail
    refine (laws_equalNodes_same _ _ _ _ S _ (o3.grow g4).ri o4.ri).mono ?_; rintro e w5 ⟨rfl, g5⟩
    have k5 : Grow w2 w5 := g3.trans (g4.trans g5)
    have K5 : Grow w w5 := g2.trans k5
    have q5 := q2.grow k5
    have o5 := (o3.grow g4).grow g5
    clear o3 o4 q2
    by_cases hl2 : l.length < 2
    · have e2 : decide ((l.length : Int) < 2) = true := by simp; omega
      go_wp2_with fail
      refine (spec_BuildTree _ _ l kind _ q5.rs hlc hct).mono ?_; rintro e w6 ⟨u6, rfl, o6, g6⟩
      rw [← HS.out] at o6
      obtain ⟨A6, c6, rfl, _, _, _⟩ := o6.open_
      go_wp2_with fail
      refine (laws_equalNodes_same _ _ _ _ S _ (o5.grow g6).ri o6.ri).mono ?_; rintro e w7 ⟨rfl, g7⟩
      go_wp2_with fail
      go_ret
      exact ⟨rfl, K5.trans (g6.trans g7)⟩
    · have e2 : decide ((l.length : Int) < 2) = false := by simp; omega
      by_cases hS0 : S.length = 0
      · have e0 : ((S.length : Int) == 0) = true := by rw [hS0]; rfl
        clear hS0
        go_wp2_with fail
        refine (spec_BuildTree _ _ l kind _ q5.rs hlc hct).mono ?_; rintro e w6 ⟨u6, rfl, o6, g6⟩
        rw [← HS.out] at o6
        obtain ⟨A6, c6, rfl, _, _, _⟩ := o6.open_
        go_wp2_with fail
        refine (laws_equalNodes_same _ _ _ _ S _ (o5.grow g6).ri o6.ri).mono ?_; rintro e w7 ⟨rfl, g7⟩
        go_wp2_with fail
        go_ret
        exact ⟨rfl, K5.trans (g6.trans g7)⟩
      · have e0 : ((S.length : Int) == 0) = false := by rw [beq_eq_false_iff_ne]; omega
        have hk := treeV_ok (l := l) (kind := kind) (by rw [← HS.out]; exact hS0)
        obtain ⟨hsb, htk⟩ := treeOk_iff.1 hk
        obtain ⟨bd, Ax, cx, x, rfl, hbd, d0, d1, _, _, _, rx, _, _, hx⟩ := q5.rs.at_ (k := 0) (by omega)
        obtain ⟨bd', Ay, cy, y, e', _, _, d4, _, _, _, ry, _, _, hy⟩ := q5.rs.at_ (k := 1) (by omega)
        injection e' with e'
        subst e'
        have t1 : l.take 1 = [x] := by rw [List.take_add_one, hx.out]; rfl
        have t2 : l.take 2 = [x, y] := by rw [List.take_add_one, t1, hy.out]; rfl
        have hv1 : treeV (l.take 1) kind = [⟨x.key, 0, -1, -1⟩] := by rw [t1]; exact treeV_one (by rw [← t1]; exact treeOk_take hk 1)
        obtain ⟨nd, hv2⟩ : ∃ nd, treeV (l.take 2) kind = [⟨x.key, distL kind x.pt y.pt 4, 1, -1⟩, nd] := by rw [t2]; exact treeV_two (by rw [← t2]; exact treeOk_take hk 2)
        have hdv : distV kind x.pt y.pt = distL kind x.pt y.pt 4 := distV_of (by unfold treeKind at htk; rw [Bool.and_eq_true] at htk; exact htk.1) (store_vecs hsb x (List.mem_of_getElem? hx.out)) (store_vecs hsb y (List.mem_of_getElem? hy.out))
        obtain ⟨dd, hdd⟩ : ∃ dd, dd = distL kind x.pt y.pt 4 := ⟨_, rfl⟩
        rw [← hdd] at hv2 hdv
        have I1 := impl_BuildTree (some bd) c1 (l.take 1) kind w5 q5.rs.sub (by rw [t1]; simp; omega) hct
        rw [hv1, t1, show [x].length = 1 from rfl] at I1
        have I2 := fun (W : World) (g : Grow w5 W) => impl_BuildTree (some bd) c1 (l.take 2) kind W (q5.rs.sub.grow g) (by rw [t2]; simp; omega) hct
        rw [hv2, t2, show [x, y].length = 2 from rfl] at I2
        have j1 : (1 : Int) ≤ (c1 : Int) := by omega
        have j2 : (2 : Int) ≤ (c1 : Int) := by omega
        have j3 : (0 : Int) < (l.length : Int) := by omega
        have j4 : (1 : Int) < (l.length : Int) := by omega
        have j5 : 0 < l.length := by omega
        have j6 : 1 < l.length := by omega
        have j7 : l ≠ [] := fun e => by rw [e] at j5; exact absurd j5 (by simp)
        have a0 : bd.add (0 * 3) = bd := by simp [Addr.add]
        have a1 : bd.add (1 * 3) = ⟨bd.block, bd.off + 3, none⟩ := rfl
        rw [a0] at d0 d1
        rw [a1] at d4
        have HD := Lib.hid hdd
        clear hdd hv1 hv2 t1 t2 hk hsb htk a0 a1
        go_wp2_with fail
        refine I1.mono ?_; rintro e w6 ⟨u6, rfl, o6, g6⟩
        obtain ⟨A6, c6, rfl, _, _, r6⟩ := o6.open_
        go_wp2_with fail
        refine (I2 _ g6).mono ?_; rintro e w7 ⟨u7, rfl, o7, g7⟩
        obtain ⟨A7, c7, rfl, _, _, r7⟩ := o7.open_
        obtain ⟨ed, n0, rfl, hed, n_0, n_1, n_2, n_3, hn0⟩ := r7.nd0 (by simp)
        have hn0' := hn0.out
        simp only [List.getElem?_cons_zero] at hn0'
        injection hn0' with hn0'
        subst hn0'
        simp only at n_0 n_1 n_2 n_3
        have g57 : Grow w5 w7 := g6.trans g7
        have s57 := g57.size
        have f0 : ∀ z : From w7, z.w.cell? bd = some (.int .i64 x.key) := fun z => ((g57.trans z.g).cell hbd).trans d0
        have f1 : ∀ z : From w7, z.w.cell? ⟨bd.block, bd.off + 1, none⟩ = some (.slice Ax x.pt.length cx) := fun z => ((g57.trans z.g).cell (p := ⟨bd.block, bd.off + 1, none⟩) hbd).trans d1
        have f4 : ∀ z : From w7, z.w.cell? ⟨bd.block, bd.off + 4, none⟩ = some (.slice Ay y.pt.length cy) := fun z => ((g57.trans z.g).cell (p := ⟨bd.block, bd.off + 4, none⟩) hbd).trans d4
        have m1 : ∀ z : From w7, z.w.cell? ⟨ed.block, ed.off + 1, none⟩ = some (.int .i64 dd) := fun z => (z.cell (p := ⟨ed.block, ed.off + 1, none⟩) hed).trans n_1
        have m2 : ∀ z : From w7, z.w.cell? ⟨ed.block, ed.off + 2, none⟩ = some (.int .i64 1) := fun z => (z.cell (p := ⟨ed.block, ed.off + 2, none⟩) hed).trans n_2
        have m3 : ∀ z : From w7, z.w.cell? ⟨ed.block, ed.off + 3, none⟩ = some (.int .i64 (-1)) := fun z => (z.cell (p := ⟨ed.block, ed.off + 3, none⟩) hed).trans n_3
        have hfk : ∀ z ∈ nodeP.f ⟨x.key, 0, -1, -1⟩, Fits z := o6.fit _ (by simp)
        have r67 := r6.grow g7
        have EQ : ∀ (g c : Nat) (W : World), Lays w7 W → Blk W g 30 #[.int .i64 x.key, .int .i64 0, .int .i64 (-1), .int .i64 (-1)] → Calls Try.prog 13 #[.slice A6 1 c6, .slice (some ⟨g, 0, none⟩) 1 c] W fun e w' => e = .returned (.bool true) ∧ ∃ s : From w7, w' = s.w := fun g c W L hb =>
          (laws_equalNodes_same A6 (some ⟨g, 0, none⟩) c6 c [⟨x.key, 0, -1, -1⟩] W (r67.grow L.grow) (RK.of_blk (p := nodeP) (y := ⟨x.key, 0, -1, -1⟩) hb hfk)).mono (by rintro e w' ⟨rfl, g⟩; exact ⟨rfl, ⟨w', L.grow.trans g⟩, rfl⟩)
        have DI : ∀ z : From w7, Calls Try.prog 23 #[.int .i64 kind, .slice Ax x.pt.length cx, .slice Ay y.pt.length cy] z.w fun e w' => e = .returned (.int .i64 dd) ∧ ∃ n, w' = z.w.drewN n := fun z => by
          have := impl_Distance kind Ax Ay x.pt y.pt cx cy z.w (rx.grow (g57.trans z.g)) (ry.grow (g57.trans z.g))
          rw [hdv] at this; exact this
        have y0 := f0 ⟨w7, Grow.refl _⟩
        have y1 := f1 ⟨w7, Grow.refl _⟩
        have y4 := f4 ⟨w7, Grow.refl _⟩
        simp only at y0 y1 y4
        have K7 := K5.trans g57
        clear d0 d1 d4 hdv o6 o7 r6 r7 I1 I2
        go_wp2_with fail
        go_region_held3 (fun w' => w'.cell? bd = some (.int .i64 x.key) ∧ w'.cell? ⟨bd.block, bd.off + 1, none⟩ = some (.slice Ax x.pt.length cx) ∧ w'.cell? ⟨bd.block, bd.off + 4, none⟩ = some (.slice Ay y.pt.length cy) ∧ w'.cell? ⟨ed.block, ed.off + 1, none⟩ = some (.int .i64 dd) ∧ w'.cell? ⟨ed.block, ed.off + 2, none⟩ = some (.int .i64 1) ∧ w'.cell? ⟨ed.block, ed.off + 3, none⟩ = some (.int .i64 (-1)))
          (first | (exact ⟨y0, y1, y4, n_1, n_2, n_3⟩) | (exact ⟨x0, x1, x4, p1, p2, p3⟩) | go_keep)
          (first
            | (go_at_call 13; refine (EQ _ _ _ (by (repeat' (first | exact Lays.refl _ | assumption | refine Lays.drewN ?_ _ | refine Lays.drew ?_ | refine Lays.alloc ?_ _))) (by (repeat' (first | exact Blk.new _ _ _ | refine Blk.drew ?_)))).mono ?_; rintro e w8 ⟨rfl, s8, rfl⟩; have x0 := f0 s8; have x1 := f1 s8; have x4 := f4 s8; have p1 := m1 s8; have p2 := m2 s8; have p3 := m3 s8)
            | (go_at_call 23; refine (DI s8).mono ?_; rintro e w9 ⟨rfl, n9, rfl⟩))
        go_wp2_with fail
        go_ret
        exact ⟨rfl, K7.trans (s8.g.trans (Grow.drewN _ _))⟩
  · go_enter Try.func5, Try.ntmps5
    go_wp2_with fail
    go_ret
    exact ⟨rfl, Below.refl _ _⟩
end Go.Proofs.Ytebiaodjodlloaa
