/- The walk of the law FnClosestPairNearest: it returns true, and writes nothing that was there. -/
import Derived.Test.YtbbiffaggnllnaaSDraw7
import Derived.Test.YtbbiffaggnllnaaNear4
import Derived.Test.YtbbiffaggnllnaaSAid
import Derived.Test.YtbbiffaggnllnaaPlainM
import Derived.Test.YtbbiffaggnllnaaItemOf
import Derived.Test.YtbbiffaggnllnaaFrom
import Derived.Test.YtbbiffaggnllnaaPut
namespace Go.Proofs.Ytbbiffaggnllnaa
set_option linter.unusedVariables false
open Go Go.RowKit

set_option maxRecDepth 100000 in
set_option maxHeartbeats 1000000 in
theorem walk_FnClosestPairNearest (a0 : Option Addr) (n0 c0 : Nat) (x0 : List Int) (w : World) (h0 : ArgB w a0 n0 c0 x0) :
    Calls Try.prog 9 #[.slice a0 n0 c0] w fun e w' => e = .returned (.bool true) ∧ Below w.heap.size w w' := by
  by_cases hn : n0 ≤ 1048576
  · go_enter Try.func9, Try.ntmps9
    go_wp2_with fail
    refine (spec_DrawClosestPair _ _ _ _ _ h0).mono ?_
    rintro e w2 ⟨A1, c1, l, kind, rfl, kb0, kb5, q2, g2⟩
    have hlc := q2.cap
    have hct := q2.top
    have hl17 := q2.few
    clear h0
    go_wp2_with fail
    refine (impl_ClosestPair _ _ l kind _ q2.rs hlc hct).mono ?_; rintro e w3 ⟨rfl, g3⟩
    go_wp2_with fail
    refine (spec_ClosestPair _ _ l kind _ (q2.grow g3).rs).mono ?_; rintro e w4 ⟨rfl, g4⟩
    have k4 : Grow w2 w4 := g3.trans g4
    have K4 : Grow w w4 := g2.trans k4
    have q4 := q2.grow k4
    unfold maxLen at hct
    have ea := eqT_ne (pairA l kind)
    have eb := eqT_ne (pairB l kind)
    have fa : (pairA l kind == pairA l kind) = true := by simp
    have fb : (pairB l kind == pairB l kind) = true := by simp
    cases hp : pairOk l kind
    · go_wp2_with fail
      go_ret
      exact ⟨rfl, K4⟩
    · obtain ⟨hs, hk, _⟩ := pairOk_iff.1 hp
      obtain ⟨x', y', hc⟩ := pair_is hp
      have haK : hasK l (pairA l kind) = true := hasK_iff.2 ⟨x', hc.mx, hc.kx⟩
      have hbK : hasK l (pairB l kind) = true := hasK_iff.2 ⟨y', hc.my, hc.ky⟩
      have LAW := Lib.hid (fun (x y : It) (hx : x ∈ l) (hxk : x.key = pairA l kind) (hy : y ∈ l) (hyk : y.key = pairB l kind) => law_pairNear hp hx hxk hy hyk)
      have HBK := Lib.hid hbK
      clear hc hs hk hbK
      go_wp2_with fail
      refine (laws_itemOf _ _ l (pairA l kind) _ q4.rs haK).mono ?_; rintro e w5 ⟨x, Ax, cx, rfl, hxm, hxk, hxr, g5⟩
      have hfx : ∀ w : World, (Instr.field 48 (.agg #[.int .i64 x.key, .slice Ax x.pt.length cx, .int .i64 x.tags]) 1).run Try.prog w = .ok (.slice Ax x.pt.length cx) w := fun w => item_at _ _ _ w
      have HX := Lib.hid hxk
      have hx5 := hxr.grow g5
      have q5 := q4.grow g5
      clear hxk hxr hp
      go_wp2_with fail
      refine (impl_DropItem _ _ l (pairA l kind) _ q5.rs).mono ?_; rintro e w6 ⟨u6, rfl, o6, g6⟩
      obtain ⟨okb, hokb⟩ : ∃ b, b = dropOk l (pairA l kind) := ⟨_, rfl⟩
      rw [← hokb]
      obtain ⟨D, hD⟩ : ∃ D, D = dropV l (pairA l kind) := ⟨_, rfl⟩
      rw [← hD] at o6
      have HOK := Lib.hid hokb
      have HD := Lib.hid hD
      clear hokb hD
      obtain ⟨A6, c6, rfl, _, _, _⟩ := o6.open_
      have hx6 := hx5.grow g6
      have q6 := q5.grow g6
      go_wp2_with fail
      refine (impl_Nearest _ _ D kind _ _ x.pt 1 _ o6.ri hx6).mono ?_; rintro e w7 ⟨u7, rfl, o7, g7⟩
      obtain ⟨F, hF⟩ : ∃ F, F = nearV D kind x.pt 1 := ⟨_, rfl⟩
      rw [← hF] at o7
      have HF := Lib.hid hF
      clear hF
      obtain ⟨A7, c7, rfl, _, _, r7⟩ := o7.open_
      -- the nearest of the rest
      have key : ∃ hd : Ht, F = [hd] ∧ okb = true ∧ ∀ y ∈ l, y.key = pairB l kind → hd.dist = distV kind x.pt y.pt := by
        obtain ⟨y0, hy0, hyk0⟩ := hasK_iff.1 HBK.out
        obtain ⟨t1, hd, e1, e2⟩ := LAW.out x y0 hxm HX.out hy0 hyk0
        refine ⟨hd, by rw [HF.out, HD.out]; exact e1, by rw [HOK.out]; exact t1, fun y hy hyk => ?_⟩
        obtain ⟨_, hd', e1', e2'⟩ := LAW.out x y hxm HX.out hy hyk
        rw [e1] at e1'
        injection e1' with e1'
        rw [e1']; exact e2'
      obtain ⟨hd, hFd, rfl, hdy⟩ := key
      obtain rfl := hFd
      obtain ⟨bd, z, rfl, hbd, y0, y1, _, _, hz⟩ := r7.hit (i := 0) (by simp)
      obtain rfl : hd = z := by have := hz.out; simpa using this
      simp only [Nat.zero_mul, show ∀ b : Addr, b.add 0 = b from fun b => rfl] at y0 y1
      have hl1 : ([hd] : List Ht).length = 1 := rfl
      have q7 := q6.grow g7
      have hx7 := hx6.grow g7
      have K7 : Grow w w7 := K4.trans (g5.trans (g6.trans g7))
      obtain ⟨y, Ay, cy, hym, hyk, hyr, hyc⟩ := laws_itemOf_fix _ c1 l (pairB l kind) w7 q7.rs HBK.out
      have hd8 := hdy y hym hyk
      have hfy : ∀ w : World, (Instr.field 48 (.agg #[.int .i64 y.key, .slice Ay y.pt.length cy, .int .i64 y.tags]) 1).run Try.prog w = .ok (.slice Ay y.pt.length cy) w := fun w => item_at _ _ _ w
      have H1 := fun s : From w7 => From.call (hyc s.w s.g)
      have H2 := fun s : From w7 => From.call_drew (impl_Distance kind Ax Ay x.pt y.pt cx cy s.w (hx7.grow s.g) (hyr.grow s.g))
      rw [← hd8] at H2
      have Y1 : ∀ s : From w7, s.w.cell? ⟨bd.block, bd.off + 1, none⟩ = some (.int .i64 hd.dist) := fun s => (s.cell (p := ⟨bd.block, bd.off + 1, none⟩) hbd).trans y1
      have hq : (hd.dist == hd.dist) = true := by simp
      clear hd8 hyk hdy r7 o7 hyc y0 y1 fa fb ea eb hfx
      go_wp2_with fail
      refine wp_region_from (by kernel_rfl) (by kernel_rfl) ?_
      repeat (go_big_quiet_step (first | exact H1 _ | exact H2 _))
      refine wpQuiet_nil ?_
      intro w8 g8
      go_wp2_with fail
      go_ret
      exact ⟨rfl, K7.trans g8⟩
  · go_enter Try.func9, Try.ntmps9
    go_wp2_with fail
    go_ret
    exact ⟨rfl, Below.refl _ _⟩
end Go.Proofs.Ytbbiffaggnllnaa
