/- The walk of the law FnNearestDistance: it returns true, and writes nothing that was there. -/
import Derived.Test.YtbbiffaggnllnaaSDraw7
import Derived.Test.YtbbiffaggnllnaaNear4
import Derived.Test.YtbbiffaggnllnaaHLaw
import Derived.Test.YtbbiffaggnllnaaSAid
import Derived.Test.YtbbiffaggnllnaaPlainM
import Derived.Test.YtbbiffaggnllnaaGet
import Derived.Test.YtbbiffaggnllnaaMove
import Derived.Test.YtbbiffaggnllnaaFrom
namespace Go.Proofs.Ytbbiffaggnllnaa
set_option linter.unusedVariables false
open Go Go.RowKit

set_option maxRecDepth 100000 in
set_option maxHeartbeats 1200000 in
theorem walk_FnNearestDistance (a0 : Option Addr) (n0 c0 : Nat) (x0 : List Int) (w : World) (h0 : ArgB w a0 n0 c0 x0) :
    Calls Try.prog 14 #[.slice a0 n0 c0] w fun e w' => e = .returned (.bool true) ∧ Below w.heap.size w w' := by
  by_cases hn : n0 ≤ 1048576
  · go_enter Try.func14, Try.ntmps14
    go_wp2_with fail
    refine (spec_DrawNearest _ _ _ _ _ h0).mono ?_
    rintro e w2 ⟨A1, c1, l, kind, B1, d1, xs, k, rfl, ⟨kb0, kb5⟩, ⟨k0, k1⟩, qv, qs, hl17, g2⟩
    obtain ⟨_, q2⟩ := qs.shape (lo' := 0) (w' := w) hl17
    obtain ⟨_, v2⟩ := qv.shape
    have hlc := q2.cap
    have hct := q2.top
    have hvc := v2.cap
    have hvt := v2.top
    clear h0 qs qv
    go_wp2_with fail
    refine (impl_Nearest _ _ l kind _ _ xs k _ q2.rs v2.ri).mono ?_; rintro e w3 ⟨u3, rfl, o3, g3⟩
    obtain ⟨S, hS⟩ : ∃ S, S = nearV l kind xs k := ⟨_, rfl⟩
    have hSf : S.length ≤ 16 := by rw [hS]; exact nearV_few _ _ _ _
    rw [← hS] at o3
    have HS := Lib.hid hS
    clear hS
    obtain ⟨A3, c3, rfl, hc3, hm3, _⟩ := o3.open_
    go_wp2_with fail
    refine (spec_Nearest _ _ l kind _ _ xs k _ (q2.grow g3).rs (v2.grow g3).ri).mono ?_; rintro e w4 ⟨u4, rfl, o4, g4⟩
    rw [← HS.out] at o4
    obtain ⟨A4, c4, rfl, _, _, _⟩ := o4.open_
    go_wp2_with fail
    refine (laws_equalHits_same _ _ _ _ S _ (o3.grow g4).ri o4.ri).mono ?_; rintro e w5 ⟨rfl, g5⟩
    have k5 : Grow w2 w5 := g3.trans (g4.trans g5)
    have K5 : Grow w w5 := g2.trans k5
    have q5 := q2.grow k5
    have v5 := v2.grow k5
    have o5 := (o3.grow g4).grow g5
    clear o3 o4 q2 v2
    have dst := fun y hy => law_nearDist (l := l) (kind := kind) (c := xs) (k := k) (h := y) (by rw [← HS.out]; exact hy)
    have DST := Lib.hid dst
    clear dst
    go_wp2_with fail
    go_loopw [8] (fun i wr => ∃ n : Nat, n ≤ S.length ∧ i = .int .i64 n ∧ Grow w5 wr) (fun i _ => S.length - (intOf i).toNat)
    case atStart => exact ⟨0, Nat.zero_le _, rfl, Grow.refl _⟩
    case round =>
      obtain ⟨n, hnl, rfl, kr⟩ := hrel
      by_cases hn1 : n < S.length
      · have or := o5.grow kr
        obtain ⟨ad, y, rfl, had, z0, z1, fk, _, hy⟩ := or.ri.hit hn1
        obtain ⟨t1, t2⟩ := DST.out y (List.mem_of_getElem? hy.out)
        have hl2 : n + 1 ≤ S.length := hn1
        go_wp2_with fail
        refine (impl_GetItem _ _ l y.key _ (q5.grow kr).rs).mono ?_; rintro e w6 ⟨u6, rfl, o6, g6⟩
        rw [t1]
        obtain ⟨gv, hgv⟩ : ∃ gv, gv = getV l y.key := ⟨_, rfl⟩
        rw [← hgv] at o6 t2 ⊢
        clear hgv t1
        obtain ⟨A6, c6, rfl, _, _, r6⟩ := o6.open_
        obtain ⟨wo, hwo⟩ : ∃ wo, wo = w6.alloc (.cells #[.int .i64 gv.key, .slice A6 gv.pt.length c6, .int .i64 gv.tags] 48) := ⟨_, rfl⟩
        have go : Grow w6 wo := by rw [hwo]; exact (Below.refl _ _).alloc (Nat.le_refl _) _
        have ko : Blk wo w6.heap.size 48 #[.int .i64 gv.key, .slice A6 gv.pt.length c6, .int .i64 gv.tags] := by rw [hwo]; exact Blk.new _ _ _
        have gr : Grow wr wo := g6.trans go
        have e1 : ∀ s : From wo, s.w.cell? ⟨w6.heap.size, 1, none⟩ = some (.slice A6 gv.pt.length c6) := fun s => (ko.below s.g ko.lt).cell 1
        have f1 : ∀ s : From wo, s.w.cell? ⟨(ad.add (n * 2)).block, (ad.add (n * 2)).off + 1, none⟩ = some (.int .i64 y.dist) := fun s => ((gr.trans s.g).cell (by show (ad.add (n * 2)).block < wr.heap.size; rw [block_of_add]; exact had)).trans z1
        have r6' := r6.grow go
        have vx := (v5.grow (kr.trans gr)).ri
        have HC := fun s : From wo => From.call_drew (by have := impl_Distance kind A6 B1 gv.pt xs c6 d1 s.w (r6'.grow s.g) (vx.grow s.g); rw [t2] at this; exact this)
        have hne : (y.dist != y.dist) = false := by simp
        have HW := Lib.hid hwo
        clear hwo t2 o6 r6 or
        go_wp2_with fail
        rw [← HW.out]
        clear HW
        refine wp_region_from (by kernel_rfl) (by kernel_rfl) ?_
        repeat (go_big_quiet_step (exact HC _))
        refine wpQuiet_nil ?_
        intro w7 g7
        go_wp2_with fail
        go_roundw
        case rel => exact ⟨n + 1, by omega, by go_num, kr.trans (gr.trans g7)⟩
        case measure => simp [intOf]; omega
      · go_wp2_with fail
        go_ret
        exact ⟨rfl, K5.trans kr⟩
  · go_enter Try.func14, Try.ntmps14
    go_wp2_with fail
    go_ret
    exact ⟨rfl, Below.refl _ _⟩
end Go.Proofs.Ytbbiffaggnllnaa
