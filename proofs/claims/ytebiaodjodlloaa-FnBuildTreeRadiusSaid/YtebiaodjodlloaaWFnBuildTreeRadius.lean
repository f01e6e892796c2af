/- The walk of the law FnBuildTreeRadius: it returns true, and writes nothing that was there. -/
import Derived.Test.YtebiaodjodlloaaSDraws
import Derived.Test.YtebiaodjodlloaaTreeJ
import Derived.Test.YtebiaodjodlloaaSAid
import Derived.Test.YtebiaodjodlloaaPlainD
import Derived.Test.YtebiaodjodlloaaItemOf
import Derived.Test.YtebiaodjodlloaaFrom
import Derived.Test.YtebiaodjodlloaaPut
namespace Go.Proofs.Ytebiaodjodlloaa
set_option linter.unusedVariables false
open Go Go.RowKit

set_option maxRecDepth 100000 in
set_option maxHeartbeats 3200000 in
theorem walk_FnBuildTreeRadius (a0 : Option Addr) (n0 c0 : Nat) (x0 : List Int) (w : World) (h0 : ArgB w a0 n0 c0 x0) :
    Calls Try.prog 6 #[.slice a0 n0 c0] w fun e w' => e = .returned (.bool true) ∧ Below w.heap.size w w' := by
  by_cases hn : n0 ≤ 1048576
  · go_enter Try.func6, Try.ntmps6
    go_wp2_with fail
    refine (spec_DrawBuildTree _ _ _ _ _ h0).mono ?_
    rintro e w2 ⟨A1, c1, l, kind, rfl, kb0, kb5, q2, g2⟩
    have hlc := q2.cap
    have hct := q2.top
    have hl17 := q2.few
    clear h0
    go_wp2_with fail
    refine (impl_BuildTree _ _ l kind _ q2.rs hlc hct).mono ?_; rintro e w3 ⟨u3, rfl, o3, g3⟩
    obtain ⟨S, hS⟩ : ∃ S, S = treeV l kind := ⟨_, rfl⟩
    have hSf : S.length ≤ 16 := by rw [hS]; exact treeV_few
    rw [← hS] at o3
    have HS := Lib.hid hS
    clear hS
    obtain ⟨A3, c3, rfl, hc3, hm3, _⟩ := o3.open_
    go_wp2_with fail
    refine (spec_BuildTree _ _ l kind _ (q2.grow g3).rs hlc hct).mono ?_; rintro e w4 ⟨u4, rfl, o4, g4⟩
    rw [← HS.out] at o4
    obtain ⟨A4, c4, rfl, _, _, _⟩ := o4.open_
    go_wp2_with fail
    refine (laws_equalNodes_same _ _ _ _ S _ (o3.grow g4).ri o4.ri).mono ?_; rintro e w5 ⟨rfl, g5⟩
    have k5 : Grow w2 w5 := g3.trans (g4.trans g5)
    have K5 : Grow w w5 := g2.trans k5
    have q5 := q2.grow k5
    have o5 := (o3.grow g4).grow g5
    clear o3 o4 q2
    have hv4 : ∀ y ∈ l, treeOk l kind = true → vecB y.pt 4 = true := fun y hy h => store_vecs (treeOk_iff.1 h).1 y hy
    have HV := Lib.hid hv4
    clear hv4
    go_wp2_with fail
    go_loopw [6] (fun i wr => ∃ k : Nat, k ≤ S.length ∧ i = .int .i64 k ∧ Grow w5 wr) (fun i _ => S.length - (intOf i).toNat)
    case atStart => exact ⟨0, Nat.zero_le _, rfl, Grow.refl _⟩
    case round =>
      obtain ⟨k, hkl, rfl, kr⟩ := hrel
      by_cases hlt : k < S.length
      · have or := o5.grow kr
        have qr := q5.grow kr
        have hok := treeV_ok (l := l) (kind := kind) (by rw [← HS.out]; omega)
        obtain ⟨hsb, htk⟩ := treeOk_iff.1 hok
        have hkd := (storeB_asc hsb).keysD
        have hkb : kindB kind = true := by unfold treeKind at htk; rw [Bool.and_eq_true] at htk; exact htk.1
        obtain ⟨ad, nd, rfl, had, c_0, c_1, c_2, c_3, hf, hnd⟩ := or.ri.nd hlt
        obtain ⟨x, hxl, hkx, hcase⟩ := treeV_node (l := l) (kind := kind) (j := k) (nd := nd) (by rw [← HS.out]; exact hnd.out)
        rw [← HS.out] at hcase
        obtain ⟨nk, rad, near, far⟩ := nd
        simp only at hkx hcase c_0 c_1 c_2 c_3
        subst hkx
        have hvx := HV.out x hxl hok
        obtain ⟨wo, hwo⟩ : ∃ wo, wo = wr.alloc (.cells #[.int .i64 x.key, .int .i64 rad, .int .i64 near, .int .i64 far] 30) := ⟨_, rfl⟩
        have go : Grow wr wo := by rw [hwo]; exact (Below.refl _ _).alloc (Nat.le_refl _) _
        have ko : Blk wo wr.heap.size 30 #[.int .i64 x.key, .int .i64 rad, .int .i64 near, .int .i64 far] := by rw [hwo]; exact Blk.new _ _ _
        have qo := qr.grow go
        obtain ⟨x', Ax, cx, hxm, hxk, hxr, hxc⟩ := laws_itemOf_fix _ c1 l x.key wo qo.rs (hasK_iff.2 ⟨x, hxl, rfl⟩)
        obtain rfl : x = x' := keysD_inj hkd hxl hxm hxk.symm
        have HWO := Lib.hid hwo
        have HKD := Lib.hid hkd
        have HOK := Lib.hid hok
        have HKB := Lib.hid hkb
        have z0 : wo.cell? ⟨wr.heap.size, 0, none⟩ = some (.int .i64 x.key) := ko.cell 0
        have hl2 : k + 1 ≤ S.length := by omega
        clear hwo hkd hok hsb htk hkb hxk hnd
        go_upto_region 11 with fail
        rw [← HWO.out]
        go_wp2_with fail
        refine (hxc _ (Grow.refl _)).mono ?_; rintro e w6 ⟨rfl, g6⟩
        have hfx : ∀ w : World, (Instr.field 43 (.agg #[.int .i64 x.key, .slice Ax x.pt.length cx, .int .i64 x.tags]) 1).run Try.prog w = .ok (.slice Ax x.pt.length cx) w := fun w => item_at _ _ _ w
        have k6 : Grow wr w6 := go.trans g6
        have q6 := qo.grow g6
        have o6 := or.grow k6
        have rx := hxr.grow g6
        clear z0 qo qr or c_0 c_1 c_2 c_3 hxc hxr
        have e_0 : ∀ s : From w6, s.w.cell? ⟨wr.heap.size, 0, none⟩ = some (.int .i64 x.key) := fun s => (ko.below (g6.trans s.g) ko.lt).cell 0
        have e_1 : ∀ s : From w6, s.w.cell? ⟨wr.heap.size, 1, none⟩ = some (.int .i64 rad) := fun s => (ko.below (g6.trans s.g) ko.lt).cell 1
        have e_2 : ∀ s : From w6, s.w.cell? ⟨wr.heap.size, 2, none⟩ = some (.int .i64 near) := fun s => (ko.below (g6.trans s.g) ko.lt).cell 2
        have e_3 : ∀ s : From w6, s.w.cell? ⟨wr.heap.size, 3, none⟩ = some (.int .i64 far) := fun s => (ko.below (g6.trans s.g) ko.lt).cell 3
        rcases hcase with ⟨rfl, rfl, rfl⟩ | ⟨rfl, ⟨yn, mn, hyln, hmn, hmyn, hlen⟩, hfar⟩
        · go_wp2_with fail
          refine wp_region_from (by kernel_rfl) (by kernel_rfl) ?_
          repeat (go_big_quiet_step (fail))
          refine wpQuiet_nil ?_
          intro w7 g7
          have f_0 : ∀ s : From w7, s.w.cell? ⟨wr.heap.size, 0, none⟩ = some (.int .i64 x.key) := fun s => e_0 ⟨s.w, g7.trans s.g⟩
          have f_1 : ∀ s : From w7, s.w.cell? ⟨wr.heap.size, 1, none⟩ = some (.int .i64 0) := fun s => e_1 ⟨s.w, g7.trans s.g⟩
          have f_2 : ∀ s : From w7, s.w.cell? ⟨wr.heap.size, 2, none⟩ = some (.int .i64 (-1)) := fun s => e_2 ⟨s.w, g7.trans s.g⟩
          have f_3 : ∀ s : From w7, s.w.cell? ⟨wr.heap.size, 3, none⟩ = some (.int .i64 (-1)) := fun s => e_3 ⟨s.w, g7.trans s.g⟩
          clear e_0 e_1 e_2 e_3
          go_wp2_with fail
          refine wp_region_from (by kernel_rfl) (by kernel_rfl) ?_
          repeat (go_big_quiet_step (fail))
          refine wpQuiet_nil ?_
          intro w8 g8
          have h_0 := f_0 ⟨w8, g8⟩
          have h_1 := f_1 ⟨w8, g8⟩
          have h_2 := f_2 ⟨w8, g8⟩
          have h_3 := f_3 ⟨w8, g8⟩
          simp only at h_0 h_1 h_2 h_3
          clear f_0 f_1 f_2 f_3
          go_wp2_with fail
          go_roundw
          case rel => exact ⟨k + 1, by omega, by go_num, kr.trans (k6.trans (g7.trans g8))⟩
          case measure => simp [intOf]; omega
        · obtain ⟨adn, ndn, ean, _, bn_0, _, _, _, _, hnn⟩ := o6.ri.nd (i := k + 1) (List.getElem?_eq_some_iff.1 hmn).1
          injection ean with ean
          subst ean
          have hnn' := hnn.out
          rw [hmn] at hnn'
          injection hnn' with hnn'
          subst hnn'
          rw [hmyn] at bn_0
          have ixn : (k + 1 : Nat) < S.length := (List.getElem?_eq_some_iff.1 hmn).1
          obtain ⟨yn', Ayn, cyn, hymn, hykn, hyrn, hycn⟩ := laws_itemOf_fix _ c1 l yn.key w6 q6.rs (hasK_iff.2 ⟨yn, hyln, rfl⟩)
          obtain rfl : yn = yn' := keysD_inj HKD.out hyln hymn hykn.symm
          have hdn : distV kind yn.pt x.pt = distL kind yn.pt x.pt 4 := distV_of HKB.out (HV.out yn hyln HOK.out) hvx
          obtain ⟨ddn, hddn⟩ : ∃ dd, dd = distL kind yn.pt x.pt 4 := ⟨_, rfl⟩
          rw [← hddn] at hdn hlen
          have HDDn := Lib.hid hddn
          have Bn : ∀ s : From w6, s.w.cell? (ad.add ((k + 1) * 4)) = some (.int .i64 yn.key) := fun s => (s.g.cell (by rw [block_of_add]; exact Nat.lt_of_lt_of_le had k6.size)).trans bn_0
          have ICn := fun s : From w6 => From.call (hycn s.w s.g)
          have DCn := fun s : From w6 => From.call_drew (by have := impl_Distance kind Ayn Ax yn.pt x.pt cyn cx s.w (hyrn.grow s.g) (rx.grow s.g); rw [hdn] at this; exact this)
          have hfyn : ∀ w : World, (Instr.field 43 (.agg #[.int .i64 yn.key, .slice Ayn yn.pt.length cyn, .int .i64 yn.tags]) 1).run Try.prog w = .ok (.slice Ayn yn.pt.length cyn) w := fun w => item_at _ _ _ w
          clear hddn hnn hmn hymn hykn bn_0
          have l1 : decide (rad < ddn) = false := by simpa using hlen
          have l1' : ¬ (rad < ddn) := by omega
          have jn : ((k : Int) + 1) < (S.length : Int) := by omega
          have jn0 : (0 : Int) ≤ (k : Int) + 1 := by omega
          have jn1 := eqT_ne ((k : Int) + 1)
          have jn2 : decide ((S.length : Int) ≤ (k : Int) + 1) = false := by simp; omega
          have jn3 : ¬ ((S.length : Int) ≤ (k : Int) + 1) := by omega
          rcases hfar with rfl | ⟨kf, rfl, hkf, yf, mf, hylf, hmf, hmyf, hlef⟩
          · go_wp2_with fail
            refine wp_region_from (by kernel_rfl) (by kernel_rfl) ?_
            repeat (go_big_quiet_step (first | exact ICn _ | exact DCn _))
            refine wpQuiet_nil ?_
            intro w7 g7
            have f_0 : ∀ s : From w7, s.w.cell? ⟨wr.heap.size, 0, none⟩ = some (.int .i64 x.key) := fun s => e_0 ⟨s.w, g7.trans s.g⟩
            have f_1 : ∀ s : From w7, s.w.cell? ⟨wr.heap.size, 1, none⟩ = some (.int .i64 rad) := fun s => e_1 ⟨s.w, g7.trans s.g⟩
            have f_2 : ∀ s : From w7, s.w.cell? ⟨wr.heap.size, 2, none⟩ = some (.int .i64 ((k : Int) + 1)) := fun s => e_2 ⟨s.w, g7.trans s.g⟩
            have f_3 : ∀ s : From w7, s.w.cell? ⟨wr.heap.size, 3, none⟩ = some (.int .i64 (-1)) := fun s => e_3 ⟨s.w, g7.trans s.g⟩
            clear e_0 e_1 e_2 e_3 Bn ICn DCn
            go_wp2_with fail
            refine wp_region_from (by kernel_rfl) (by kernel_rfl) ?_
            repeat (go_big_quiet_step (fail))
            refine wpQuiet_nil ?_
            intro w8 g8
            have h_0 := f_0 ⟨w8, g8⟩
            have h_1 := f_1 ⟨w8, g8⟩
            have h_2 := f_2 ⟨w8, g8⟩
            have h_3 := f_3 ⟨w8, g8⟩
            simp only at h_0 h_1 h_2 h_3
            clear f_0 f_1 f_2 f_3
            go_wp2_with fail
            go_roundw
            case rel => exact ⟨k + 1, by omega, by go_num, kr.trans (k6.trans (g7.trans g8))⟩
            case measure => simp [intOf]; omega
          · obtain ⟨adf, ndf, eaf, _, bf_0, _, _, _, _, hnf⟩ := o6.ri.nd (i := kf) (List.getElem?_eq_some_iff.1 hmf).1
            injection eaf with eaf
            subst eaf
            have hnf' := hnf.out
            rw [hmf] at hnf'
            injection hnf' with hnf'
            subst hnf'
            rw [hmyf] at bf_0
            have ixf : (kf : Nat) < S.length := (List.getElem?_eq_some_iff.1 hmf).1
            obtain ⟨yf', Ayf, cyf, hymf, hykf, hyrf, hycf⟩ := laws_itemOf_fix _ c1 l yf.key w6 q6.rs (hasK_iff.2 ⟨yf, hylf, rfl⟩)
            obtain rfl : yf = yf' := keysD_inj HKD.out hylf hymf hykf.symm
            have hdf : distV kind yf.pt x.pt = distL kind yf.pt x.pt 4 := distV_of HKB.out (HV.out yf hylf HOK.out) hvx
            obtain ⟨ddf, hddf⟩ : ∃ dd, dd = distL kind yf.pt x.pt 4 := ⟨_, rfl⟩
            rw [← hddf] at hdf hlef
            have HDDf := Lib.hid hddf
            have Bf : ∀ s : From w6, s.w.cell? (ad.add ((kf) * 4)) = some (.int .i64 yf.key) := fun s => (s.g.cell (by rw [block_of_add]; exact Nat.lt_of_lt_of_le had k6.size)).trans bf_0
            have ICf := fun s : From w6 => From.call (hycf s.w s.g)
            have DCf := fun s : From w6 => From.call_drew (by have := impl_Distance kind Ayf Ax yf.pt x.pt cyf cx s.w (hyrf.grow s.g) (rx.grow s.g); rw [hdf] at this; exact this)
            have hfyf : ∀ w : World, (Instr.field 43 (.agg #[.int .i64 yf.key, .slice Ayf yf.pt.length cyf, .int .i64 yf.tags]) 1).run Try.prog w = .ok (.slice Ayf yf.pt.length cyf) w := fun w => item_at _ _ _ w
            clear hddf hnf hmf hymf hykf bf_0
            have l2 : decide (ddf < rad) = false := by simpa using hlef
            have l2' : ¬ (ddf < rad) := by omega
            have jf : (kf : Int) < (S.length : Int) := by omega
            have jf0 : (0 : Int) ≤ (kf : Int) := by omega
            have jf1 : decide ((kf : Int) ≤ (k : Int)) = false := by simp; omega
            have jf2 : ¬ ((kf : Int) ≤ (k : Int)) := by omega
            have jf3 : decide ((S.length : Int) ≤ (kf : Int)) = false := by simp; omega
            have jf4 : ¬ ((S.length : Int) ≤ (kf : Int)) := by omega
            have jf5 : ¬ (kf ≤ k) := by omega
            have jf6 : ¬ (S.length ≤ kf) := by omega
            have jf7 : decide (kf ≤ k) = false := by simp; omega
            have jf8 : decide (S.length ≤ kf) = false := by simp; omega
            go_wp2_with fail
            refine wp_region_from (by kernel_rfl) (by kernel_rfl) ?_
            repeat (go_big_quiet_step (first | exact ICn _ | exact DCn _))
            refine wpQuiet_nil ?_
            intro w7 g7
            have f_0 : ∀ s : From w7, s.w.cell? ⟨wr.heap.size, 0, none⟩ = some (.int .i64 x.key) := fun s => e_0 ⟨s.w, g7.trans s.g⟩
            have f_1 : ∀ s : From w7, s.w.cell? ⟨wr.heap.size, 1, none⟩ = some (.int .i64 rad) := fun s => e_1 ⟨s.w, g7.trans s.g⟩
            have f_2 : ∀ s : From w7, s.w.cell? ⟨wr.heap.size, 2, none⟩ = some (.int .i64 ((k : Int) + 1)) := fun s => e_2 ⟨s.w, g7.trans s.g⟩
            have f_3 : ∀ s : From w7, s.w.cell? ⟨wr.heap.size, 3, none⟩ = some (.int .i64 (kf : Int)) := fun s => e_3 ⟨s.w, g7.trans s.g⟩
            have Bf' : ∀ s : From w7, s.w.cell? (ad.add (kf * 4)) = some (.int .i64 yf.key) := fun s => Bf ⟨s.w, g7.trans s.g⟩
            have ICf' := fun s : From w7 => From.call (hycf s.w (g7.trans s.g))
            have DCf' := fun s : From w7 => From.call_drew (by have := impl_Distance kind Ayf Ax yf.pt x.pt cyf cx s.w (hyrf.grow (g7.trans s.g)) (rx.grow (g7.trans s.g)); rw [hdf] at this; exact this)
            clear e_0 e_1 e_2 e_3 Bn ICn DCn Bf ICf DCf
            go_wp2_with fail
            refine wp_region_from (by kernel_rfl) (by kernel_rfl) ?_
            repeat (go_big_quiet_step (first | exact ICf' _ | exact DCf' _))
            refine wpQuiet_nil ?_
            intro w8 g8
            have h_0 := f_0 ⟨w8, g8⟩
            have h_1 := f_1 ⟨w8, g8⟩
            have h_2 := f_2 ⟨w8, g8⟩
            have h_3 := f_3 ⟨w8, g8⟩
            simp only at h_0 h_1 h_2 h_3
            clear f_0 f_1 f_2 f_3 Bf' ICf' DCf'
            go_wp2_with fail
            go_roundw
            case rel => exact ⟨k + 1, by omega, by go_num, kr.trans (k6.trans (g7.trans g8))⟩
            case measure => simp [intOf]; omega
      · go_wp2_with fail
        go_ret
        exact ⟨rfl, K5.trans kr⟩
  · go_enter Try.func6, Try.ntmps6
    go_wp2_with fail
    go_ret
    exact ⟨rfl, Below.refl _ _⟩
end Go.Proofs.Ytebiaodjodlloaa
