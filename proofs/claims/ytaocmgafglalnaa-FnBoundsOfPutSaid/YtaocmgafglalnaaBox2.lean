/- The contract of the reference's bounds of a store. -/
import Derived.Test.YtaocmgafglalnaaBox
import Derived.StillTailTactics
namespace Go.Proofs.Ytaocmgafglalnaa
set_option linter.unusedVariables false
open Go Go.RowKit

set_option maxRecDepth 100000 in
set_option maxHeartbeats 6400000 in
theorem spec_BoundsOf' (A : Option Addr) (c : Nat) (l : List It) (w : World) (h : RS w w.heap.size A l) :
    Calls Try.prog 46 #[.slice A l.length c] w fun e w' => GotB w w' l e := by
  have hl := h.len
  cases hs : storeB l
  · have HN := Lib.hid (bounds_no hs)
    go_enter Try.func46, Try.ntmps46
    go_wp2_with (go_at_call 88; refine (spec_validStore _ _ _ _ h).mono ?_; rintro e w1 ⟨he, g1⟩; rw [hs] at he; subst he)
    go_ret3
    exact GotB.none_ HN.out g1
  · have HS := Lib.hid hs
    have h16 := storeB_len hs
    go_enter Try.func46, Try.ntmps46
    go_wp2_with fail
    refine (spec_validStore _ _ _ _ h).mono ?_; rintro e w2 ⟨he, g2⟩; rw [hs] at he; subst he
    clear hs
    have s2 := g2.size
    by_cases hz : l.length = 0
    · have HN := Lib.hid (bounds_nil hz)
      have hz' : ((l.length : Int) == 0) = true := by rw [hz]; rfl
      clear hz
      go_wp2_with fail
      go_ret3
      exact GotB.none_ HN.out g2
    · have hz' : ((l.length : Int) == 0) = false := by rw [beq_eq_false_iff_ne]; omega
      have hpos : 0 < l.length := by omega
      have hposi : (0 : Int) < l.length := by omega
      have HOK := Lib.hid (boundsOk_iff.2 ⟨HS.out, hpos⟩)
      obtain ⟨ad, Ak, ck, x, rfl, had, c0, c1, c2, hc1, hc2, hri, hf, hg, hx⟩ := (h.grow g2).at_ (k := 0) hpos
      have z1 : w2.cell? ⟨ad.block, ad.off + 1, none⟩ = some (.slice Ak x.pt.length ck) := c1
      have hvx : vecB x.pt 4 = true := by have := store_vec HS.out hpos; rwa [itI_of hx.out] at this
      obtain ⟨p1, p2⟩ := low_first hx.out hvx
      have P1 := Lib.hid p1
      have P2 := Lib.hid p2
      have h4 : x.pt.length = 4 := vecB_four hvx
      have H4 := Lib.hid h4
      clear hz p1 p2 hvx h4 c0 c1 c2
      go_wp2_with fail
      refine (spec_copyInts _ _ _ _ hri).mono ?_; rintro e w3 ⟨v3, rfl, o3, g3⟩
      have z3 := (g3.cell (p := ⟨ad.block, ad.off + 1, none⟩) had).trans z1
      have hri3 := hri.grow g3
      go_wp2_with fail
      refine (spec_copyInts _ _ _ _ hri3).mono ?_; rintro e w4 ⟨v4, rfl, o4, g4⟩
      obtain ⟨A3, q3, rfl, _, _, _⟩ := o3.open_
      obtain ⟨A4, q4, rfl, _, _, _⟩ := o4.open_
      obtain ⟨ga, rfl, _, ga1, ga2, ga3⟩ := o3.form (by rw [H4.out]; omega)
      obtain ⟨gb, rfl, _, gb1, gb2, gb3⟩ := o4.form (by rw [H4.out]; omega)
      have s3 := g3.size
      have s4 := g4.size
      have o3' := o3.grow g4
      have o3' := o3'.as P1.out
      have o4 := o4.as P2.out
      have hg24 : Grow w w4 := g2.trans (g3.trans g4)
      have b4 : Below w2.heap.size w2 w4 := g3.trans g4
      clear o3 z1 z3 hri hri3 P1 P2
      have o3' := o3'.as (rangeI_congr (g := fun c => lowC l c 1) fun i _ => (low_self hpos i).symm)
      have o4 := o4.as (rangeI_congr (g := fun c => highC l c 1) fun i _ => (high_self hpos i).symm)
      go_wp2_with fail
      go_loopw [7] (fun i wr => ∃ k : Nat, k ≤ l.length ∧ 1 ≤ k ∧ i = .int .i64 k ∧ OwnI wr w2.heap.size w3.heap.size (.slice (some ⟨ga, 0, none⟩) x.pt.length q3) (rangeI (fun c => lowC l c k) 4) ∧ OwnI wr w3.heap.size w4.heap.size (.slice (some ⟨gb, 0, none⟩) x.pt.length q4) (rangeI (fun c => highC l c k) 4) ∧ Below w2.heap.size w2 wr ∧ w4.heap.size ≤ wr.heap.size) (fun i _ => l.length - (intOf i).toNat)
      case atStart => exact ⟨1, hpos, Nat.le_refl _, rfl, o3', o4, b4, Nat.le_refl _⟩
      case round =>
        clear o3' o4 b4
        obtain ⟨k, hk, hk1, rfl, oa, ob, hb, hsz⟩ := hrel
        by_cases hlt : k < l.length
        · obtain ⟨ad', Bk, dk, y, e, hyd, c0, c1, c2, _, _, hyi, _, _, hy⟩ := ((h.grow g2).keep hb).at_ hlt
          injection e with e
          subst e
          have hl2 : k + 1 ≤ l.length := by omega
          have hvy : vecB y.pt 4 = true := by have := store_vec HS.out hlt; rwa [itI_of hy.out] at this
          have HV := Lib.hid hvy
          have hy4 : y.pt.length ≤ 4 := Nat.le_of_eq (vecB_four hvy)
          have hy5 : 4 ≤ y.pt.length := Nat.le_of_eq (vecB_four hvy).symm
          have oa' := oa
          have ob' := ob
          rw [minF_zero] at oa'
          rw [maxF_zero] at ob'
          have bo := hb
          have hyo := hyi
          have hcy := c1
          clear hvy oa ob c0 c2
          obtain ⟨wo, rfl⟩ : ∃ wo : World, wo = wr := ⟨_, rfl⟩
          go_wp2_with fail
          go_loopw [8] (fun i wi => ∃ j : Nat, j ≤ 4 ∧ i = .int .i64 j ∧ OwnI wi w2.heap.size w3.heap.size (.slice (some ⟨ga, 0, none⟩) x.pt.length q3) (rangeI (minF l k j) 4) ∧ OwnI wi w3.heap.size w4.heap.size (.slice (some ⟨gb, 0, none⟩) x.pt.length q4) (rangeI (maxF l k j) 4) ∧ Below w2.heap.size wo wi ∧ w4.heap.size ≤ wi.heap.size) (fun i _ => 4 - (intOf i).toNat)
          case atStart => exact ⟨0, Nat.zero_le _, rfl, oa', ob', Below.refl _ _, by omega⟩
          case round =>
            clear oa' ob'
            obtain ⟨j, hj, rfl, oi, oj, hbi, hzi⟩ := hrel
            by_cases hjl : j < 4
            · have hj4 := hjl
              have hjy : j < y.pt.length := by omega
              obtain ⟨bd, p, rfl, hbdb, hcp, _, _, hkp⟩ := (hyo.below hbi).at_ hjy
              obtain ⟨p1, p2⟩ := vecB_at HV.out hkp.out
              have hcyi := (hbi.cell (p := ⟨(ad.add (k * 3)).block, (ad.add (k * 3)).off + 1, none⟩) (by show (ad.add (k * 3)).block < w2.heap.size; rw [block_of_add]; exact hyd)).trans hcy
              have hx4 : x.pt.length = (rangeI (minF l k j) 4).length := by rw [rangeI_len, H4.out]
              have hx5 : x.pt.length = (rangeI (maxF l k j) 4).length := by rw [rangeI_len, H4.out]
              have hjx : j < x.pt.length := by rw [H4.out]; exact hj4
              have hcell := oi.cellAt hx4 (rangeI_at (minF l k j) hj4)
              have hcell2 := oj.cellAt hx5 (rangeI_at (maxF l k j) hj4)
              rw [minF_at] at hcell
              rw [maxF_at] at hcell2
              have hfz := oi.frozenAt j hx4
              have hfz2 := oj.frozenAt j hx5
              have hne : ga ≠ gb := by omega
              have hlo := lowC_bd HS.out hpos j (n := k) (by omega)
              have hhi := highC_bd HS.out hpos j (n := k) (by omega)
              obtain ⟨a, ha⟩ : ∃ a, a = lowC l j k := ⟨_, rfl⟩
              obtain ⟨b, hb'⟩ : ∃ b, b = highC l j k := ⟨_, rfl⟩
              rw [← ha] at hcell hlo
              rw [← hb'] at hcell2 hhi
              have os := oi.set_ (j := j) (x := gmin a p) hx4 (by unfold gmin; split <;> omega)
              have ot := (oj.far_set (g := ga) (j := j) (x := .int .i64 (gmin a p)) (by omega)).set_ (j := j) (x := gmax b p) hx5 (by unfold gmax; split <;> omega)
              have os2 := os.far_set (g := gb) (j := j) (x := .int .i64 (gmax b p)) (by omega)
              rw [ha, minF_set hy.out hkp.out] at os2
              rw [hb', maxF_set hy.out hkp.out] at ot
              rw [← ha] at os2
              rw [← hb'] at ot
              have hbs : Below w2.heap.size wo ((wr.setCell ⟨ga, j, none⟩ (.int .i64 (gmin a p))).setCell ⟨gb, j, none⟩ (.int .i64 (gmax b p))) := (hbi.setCell (p := ⟨ga, j, none⟩) ga1 _).setCell (p := ⟨gb, j, none⟩) (by show w2.heap.size ≤ gb; omega) _
              have hzs : w4.heap.size ≤ ((wr.setCell ⟨ga, j, none⟩ (.int .i64 (gmin a p))).setCell ⟨gb, j, none⟩ (.int .i64 (gmax b p))).heap.size := by simpa [World.setCell] using hzi
              clear os oi oj hbi hzi hx4 hx5 ha hb'
              have far : ∀ (q : Addr) (u v : Value), q.block < w2.heap.size → wr.cell? q = some u → (wr.setCell ⟨ga, j, none⟩ v).cell? q = some u := fun q u v hq hu => (World.cell?_setCell_other wr _ _ v (fun e => by subst e; exact absurd hq (by show ¬ ga < w2.heap.size; omega))).trans hu
              have n1 : ∀ v, (wr.setCell ⟨ga, j, none⟩ v).cell? (bd.add j) = some (.int .i64 p) := fun v => far _ _ v (by rw [block_of_add]; exact hbdb) hcp
              have n2 : ∀ v, (wr.setCell ⟨ga, j, none⟩ v).cell? ⟨(ad.add (k * 3)).block, (ad.add (k * 3)).off + 1, none⟩ = some (.slice (some bd) y.pt.length dk) := fun v => far _ _ v (by show (ad.add (k * 3)).block < w2.heap.size; rw [block_of_add]; exact hyd) hcyi
              have n3 : ∀ v, (wr.setCell ⟨ga, j, none⟩ v).cell? ⟨gb, j, none⟩ = some (.int .i64 b) := fun v => (World.cell?_setCell_other wr _ _ v (fun e => by injection e with e; exact hne e)).trans hcell2
              have n4 : ∀ v, (wr.setCell ⟨ga, j, none⟩ v).frozen? ⟨gb, j, none⟩ = false := fun v => by rw [World.frozen?_setCell]; exact hfz2
              clear far
              unfold gmin gmax at os2 ot hbs hzs
              by_cases q1 : p < a
              · rw [if_pos q1] at os2 ot hbs hzs
                by_cases q2 : b < p
                · rw [if_pos q2] at os2 ot hbs hzs
                  go_wp2
                  go_still_tail 16, (by kernel_rfl)
                  go_wp2
                  obtain ⟨W2, hW2⟩ : ∃ W2, W2 = (wr.setCell ⟨ga, j, none⟩ (.int .i64 p)).drew := ⟨_, rfl⟩
                  have m1 : W2.cell? (bd.add j) = some (.int .i64 p) := by rw [hW2]; exact n1 _
                  have m2 : W2.cell? ⟨(ad.add (k * 3)).block, (ad.add (k * 3)).off + 1, none⟩ = some (.slice (some bd) y.pt.length dk) := by rw [hW2]; exact n2 _
                  have m3 : W2.cell? ⟨gb, j, none⟩ = some (.int .i64 b) := by rw [hW2]; exact n3 _
                  have m4 : W2.frozen? ⟨gb, j, none⟩ = false := by rw [hW2]; exact n4 _
                  rw [← hW2]
                  have HW2 := Lib.hid hW2
                  clear hW2 n1 n2 n3 n4 hcell hcell2 hcp hcyi hfz hfz2
                  go_still_tail 16, (by kernel_rfl)
                  go_wp2
                  go_roundw
                  case rel => exact ⟨j + 1, by omega, by go_num, by rw [HW2.out]; exact os2.grow (Grow.alike rfl rfl rfl (by simp [World.setCell, World.drew])), by rw [HW2.out]; exact ot.grow (Grow.alike rfl rfl rfl (by simp [World.setCell, World.drew])), by rw [HW2.out]; exact below_trans hbs ⟨rfl, rfl, rfl, by simp [World.setCell, World.drew], fun _ _ => by simp [World.setCell, World.drew]⟩, by rw [HW2.out]; simpa [World.setCell, World.drew] using hzs⟩
                  case measure => simp [intOf]; omega
                · rw [if_neg q2] at os2 ot hbs hzs
                  go_wp2
                  go_still_tail 16, (by kernel_rfl)
                  go_wp2
                  obtain ⟨W2, hW2⟩ : ∃ W2, W2 = (wr.setCell ⟨ga, j, none⟩ (.int .i64 p)).drew := ⟨_, rfl⟩
                  have m1 : W2.cell? (bd.add j) = some (.int .i64 p) := by rw [hW2]; exact n1 _
                  have m2 : W2.cell? ⟨(ad.add (k * 3)).block, (ad.add (k * 3)).off + 1, none⟩ = some (.slice (some bd) y.pt.length dk) := by rw [hW2]; exact n2 _
                  have m3 : W2.cell? ⟨gb, j, none⟩ = some (.int .i64 b) := by rw [hW2]; exact n3 _
                  have m4 : W2.frozen? ⟨gb, j, none⟩ = false := by rw [hW2]; exact n4 _
                  rw [← hW2]
                  have HW2 := Lib.hid hW2
                  clear hW2 n1 n2 n3 n4 hcell hcell2 hcp hcyi hfz hfz2
                  go_still_tail 16, (by kernel_rfl)
                  go_wp2
                  go_roundw
                  case rel => exact ⟨j + 1, by omega, by go_num, by rw [HW2.out]; exact os2.grow (Grow.alike rfl rfl rfl (by simp [World.setCell, World.drew])), by rw [HW2.out]; exact ot.grow (Grow.alike rfl rfl rfl (by simp [World.setCell, World.drew])), by rw [HW2.out]; exact below_trans hbs ⟨rfl, rfl, rfl, by simp [World.setCell, World.drew], fun _ _ => by simp [World.setCell, World.drew]⟩, by rw [HW2.out]; simpa [World.setCell, World.drew] using hzs⟩
                  case measure => simp [intOf]; omega
              · rw [if_neg q1] at os2 ot hbs hzs
                by_cases q2 : b < p
                · rw [if_pos q2] at os2 ot hbs hzs
                  go_wp2
                  go_still_tail 16, (by kernel_rfl)
                  go_wp2
                  obtain ⟨W2, hW2⟩ : ∃ W2, W2 = (wr.setCell ⟨ga, j, none⟩ (.int .i64 a)).drew := ⟨_, rfl⟩
                  have m1 : W2.cell? (bd.add j) = some (.int .i64 p) := by rw [hW2]; exact n1 _
                  have m2 : W2.cell? ⟨(ad.add (k * 3)).block, (ad.add (k * 3)).off + 1, none⟩ = some (.slice (some bd) y.pt.length dk) := by rw [hW2]; exact n2 _
                  have m3 : W2.cell? ⟨gb, j, none⟩ = some (.int .i64 b) := by rw [hW2]; exact n3 _
                  have m4 : W2.frozen? ⟨gb, j, none⟩ = false := by rw [hW2]; exact n4 _
                  rw [← hW2]
                  have HW2 := Lib.hid hW2
                  clear hW2 n1 n2 n3 n4 hcell hcell2 hcp hcyi hfz hfz2
                  go_still_tail 16, (by kernel_rfl)
                  go_wp2
                  go_roundw
                  case rel => exact ⟨j + 1, by omega, by go_num, by rw [HW2.out]; exact os2.grow (Grow.alike rfl rfl rfl (by simp [World.setCell, World.drew])), by rw [HW2.out]; exact ot.grow (Grow.alike rfl rfl rfl (by simp [World.setCell, World.drew])), by rw [HW2.out]; exact below_trans hbs ⟨rfl, rfl, rfl, by simp [World.setCell, World.drew], fun _ _ => by simp [World.setCell, World.drew]⟩, by rw [HW2.out]; simpa [World.setCell, World.drew] using hzs⟩
                  case measure => simp [intOf]; omega
                · rw [if_neg q2] at os2 ot hbs hzs
                  go_wp2
                  go_still_tail 16, (by kernel_rfl)
                  go_wp2
                  obtain ⟨W2, hW2⟩ : ∃ W2, W2 = (wr.setCell ⟨ga, j, none⟩ (.int .i64 a)).drew := ⟨_, rfl⟩
                  have m1 : W2.cell? (bd.add j) = some (.int .i64 p) := by rw [hW2]; exact n1 _
                  have m2 : W2.cell? ⟨(ad.add (k * 3)).block, (ad.add (k * 3)).off + 1, none⟩ = some (.slice (some bd) y.pt.length dk) := by rw [hW2]; exact n2 _
                  have m3 : W2.cell? ⟨gb, j, none⟩ = some (.int .i64 b) := by rw [hW2]; exact n3 _
                  have m4 : W2.frozen? ⟨gb, j, none⟩ = false := by rw [hW2]; exact n4 _
                  rw [← hW2]
                  have HW2 := Lib.hid hW2
                  clear hW2 n1 n2 n3 n4 hcell hcell2 hcp hcyi hfz hfz2
                  go_still_tail 16, (by kernel_rfl)
                  go_wp2
                  go_roundw
                  case rel => exact ⟨j + 1, by omega, by go_num, by rw [HW2.out]; exact os2.grow (Grow.alike rfl rfl rfl (by simp [World.setCell, World.drew])), by rw [HW2.out]; exact ot.grow (Grow.alike rfl rfl rfl (by simp [World.setCell, World.drew])), by rw [HW2.out]; exact below_trans hbs ⟨rfl, rfl, rfl, by simp [World.setCell, World.drew], fun _ _ => by simp [World.setCell, World.drew]⟩, by rw [HW2.out]; simpa [World.setCell, World.drew] using hzs⟩
                  case measure => simp [intOf]; omega
            · have hj4 : j = 4 := by omega
              subst hj4
              rw [minF_all] at oi
              rw [maxF_all] at oj
              go_wp2
              go_roundw
              case rel => exact ⟨k + 1, by omega, by omega, by go_num, oi, oj, below_trans bo hbi, hzi⟩
              case measure => simp [intOf]; omega
        · obtain rfl : k = l.length := by omega
          go_wp2_with fail
          go_ret3
          have e1 := lowV_of HOK.out
          have e2 := highV_of HOK.out
          refine ⟨.slice (some ⟨ga, 0, none⟩) x.pt.length q3, .slice (some ⟨gb, 0, none⟩) x.pt.length q4, by rw [HOK.out]; rfl, ⟨w3.heap.size, by omega, by omega, ?_, ?_⟩, g2.trans hb⟩
          · rw [e1]; exact oa.lower s2 (Nat.le_refl _)
          · rw [e2]; exact ob.lower (Nat.le_refl _) hsz

theorem impl_BoundsOf (A : Option Addr) (c : Nat) (l : List It) (w : World) (h : RS w w.heap.size A l) :
    Calls Try.prog 47 #[.slice A l.length c] w fun e w' => ∃ u v, e = .returned (.tuple #[u, v, .bool (boundsOk l)]) ∧ (∃ m, w.heap.size ≤ m ∧ m ≤ w'.heap.size ∧ OwnI w' w.heap.size m u (lowV l) ∧ OwnI w' m w'.heap.size v (highV l)) ∧ Grow w w' :=
  (impl_BoundsOf' A c l w h).mono fun _ _ h => h
theorem spec_BoundsOf (A : Option Addr) (c : Nat) (l : List It) (w : World) (h : RS w w.heap.size A l) :
    Calls Try.prog 46 #[.slice A l.length c] w fun e w' => ∃ u v, e = .returned (.tuple #[u, v, .bool (boundsOk l)]) ∧ (∃ m, w.heap.size ≤ m ∧ m ≤ w'.heap.size ∧ OwnI w' w.heap.size m u (lowV l) ∧ OwnI w' m w'.heap.size v (highV l)) ∧ Grow w w' :=
  (spec_BoundsOf' A c l w h).mono fun _ _ h => h
end Go.Proofs.Ytaocmgafglalnaa
