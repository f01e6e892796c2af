/- The walk of the law FnInBoxMost: it returns true, and writes nothing that was there. -/
import Derived.Test.YtbbiffaggnllnaaSDraw7
import Derived.Test.YtbbiffaggnllnaaNear4
import Derived.Test.YtbbiffaggnllnaaHLaw
import Derived.Test.YtbbiffaggnllnaaSAid
import Derived.Test.YtbbiffaggnllnaaPlainM
import Derived.Test.YtbbiffaggnllnaaBox3
import Derived.Test.YtbbiffaggnllnaaIsIn
namespace Go.Proofs.Ytbbiffaggnllnaa
set_option linter.unusedVariables false
open Go Go.RowKit

set_option maxRecDepth 100000 in
set_option maxHeartbeats 3200000 in
theorem walk_FnInBoxMost (a0 : Option Addr) (n0 c0 : Nat) (x0 : List Int) (w : World) (h0 : ArgB w a0 n0 c0 x0) :
    Calls Try.prog 19 #[.slice a0 n0 c0] w fun e w' => e = .returned (.bool true) ∧ Below w.heap.size w w' := by
  by_cases hn : n0 ≤ 1048576
  · go_enter Try.func19, Try.ntmps19
    go_wp2_with fail
    refine (spec_DrawWithinDist _ _ _ _ _ h0).mono ?_
    rintro e w2 ⟨A1, c1, l, kind, B1, d1, xs, k, rfl, ⟨kb0, kb5⟩, ⟨k0, k1⟩, qv, qs, hl17, g2⟩
    obtain ⟨_, q2⟩ := qs.shape (lo' := 0) (w' := w) hl17
    obtain ⟨_, v2⟩ := qv.shape
    have hlc := q2.cap
    have hct := q2.top
    have hvc := v2.cap
    have hvt := v2.top
    clear h0 qs qv
    go_wp2_with fail
    refine (impl_WithinDist _ _ l kind _ _ xs k _ q2.rs v2.ri).mono ?_; rintro e w3 ⟨u3, rfl, o3, g3⟩
    obtain ⟨S, hS⟩ : ∃ S, S = withinV l kind xs k := ⟨_, rfl⟩
    have hSf : S.length ≤ 16 := by rw [hS]; exact withinV_few
    rw [← hS] at o3
    have HS := Lib.hid hS
    clear hS
    obtain ⟨A3, c3, rfl, hc3, hm3, _⟩ := o3.open_
    go_wp2_with fail
    refine (spec_WithinDist _ _ l kind _ _ xs k _ (q2.grow g3).rs (v2.grow g3).ri).mono ?_; rintro e w4 ⟨u4, rfl, o4, g4⟩
    rw [← HS.out] at o4
    obtain ⟨A4, c4, rfl, _, _, _⟩ := o4.open_
    go_wp2_with fail
    refine (laws_equalHits_same _ _ _ _ S _ (o3.grow g4).ri o4.ri).mono ?_; rintro e w5 ⟨rfl, g5⟩
    have k5 : Grow w2 w5 := g3.trans (g4.trans g5)
    have K5 : Grow w w5 := g2.trans k5
    have q5 := q2.grow k5
    have v5 := v2.grow k5
    have o5 := (o3.grow g4).grow g5
    clear o3 o4 q2 v2
    go_wp2_with fail
    refine (impl_ValidStore _ _ l _ q5.rs).mono ?_; rintro e w6 ⟨he, g6⟩
    replace K5 := K5.trans g6
    replace q5 := q5.grow g6
    replace v5 := v5.grow g6
    replace o5 := o5.grow g6
    cases hs : storeB l
    · rw [hs] at he; subst he
      go_wp2_with fail
      refine (spec_WithinDist _ _ l kind _ _ xs k _ q5.rs v5.ri).mono ?_; rintro e w8 ⟨u8, rfl, o8, g8⟩
      rw [← HS.out] at o8
      obtain ⟨A8, c8, rfl, _, _, _⟩ := o8.open_
      go_wp2_with fail
      refine (laws_equalHits_same _ _ _ _ S _ (o5.grow g8).ri o8.ri).mono ?_; rintro e w9 ⟨rfl, g9⟩
      go_wp2_with fail
      go_ret
      exact ⟨rfl, K5.trans (g8.trans g9)⟩
    · have HST := Lib.hid hs
      rw [hs] at he; subst he
      clear hs
      go_wp2_with fail
      refine (impl_ValidVector _ xs _ _ v5.ri).mono ?_; rintro e w' ⟨he, rfl⟩
      cases hv : vecB xs 4
      · rw [hv] at he; subst he
        go_wp2_with fail
        refine (spec_WithinDist _ _ l kind _ _ xs k _ q5.rs v5.ri).mono ?_; rintro e w8 ⟨u8, rfl, o8, g8⟩
        rw [← HS.out] at o8
        obtain ⟨A8, c8, rfl, _, _, _⟩ := o8.open_
        go_wp2_with fail
        refine (laws_equalHits_same _ _ _ _ S _ (o5.grow g8).ri o8.ri).mono ?_; rintro e w9 ⟨rfl, g9⟩
        go_wp2_with fail
        go_ret
        exact ⟨rfl, K5.trans (g8.trans g9)⟩
      · have HV := Lib.hid hv
        rw [hv] at he; subst he
        clear hv
        by_cases hk0 : k < 0
        · have e0 : decide (k < 0) = true := decide_eq_true hk0
          go_wp2_with fail
          refine (spec_WithinDist _ _ l kind _ _ xs k _ q5.rs v5.ri).mono ?_; rintro e w8 ⟨u8, rfl, o8, g8⟩
          rw [← HS.out] at o8
          obtain ⟨A8, c8, rfl, _, _, _⟩ := o8.open_
          go_wp2_with fail
          refine (laws_equalHits_same _ _ _ _ S _ (o5.grow g8).ri o8.ri).mono ?_; rintro e w9 ⟨rfl, g9⟩
          go_wp2_with fail
          go_ret
          exact ⟨rfl, K5.trans (g8.trans g9)⟩
        · have e0 : decide (k < 0) = false := decide_eq_false hk0
          have hx4 : xs.length ≤ 4 := Nat.le_of_eq (vecB_four HV.out)
          have hx5 : 4 ≤ xs.length := Nat.le_of_eq (vecB_four HV.out).symm
          obtain ⟨LO, hLO⟩ : ∃ f : Nat → Int, f = fun i => gI xs i - k := ⟨_, rfl⟩
          obtain ⟨HI, hHI⟩ : ∃ f : Nat → Int, f = fun i => gI xs i + k := ⟨_, rfl⟩
          have HLO := Lib.hid hLO
          have HHI := Lib.hid hHI
          have o5r := o5.ri
          clear hLO hHI o5
          go_wp2_with fail
          go_loopw [8, 9, 10] (fun a b i wr => ∃ n : Nat, n ≤ 4 ∧ i = .int .i64 n ∧ wr.ownsRow w6.heap.size 3 1 a (rangeI LO n).length ((rangeI LO n).map (Value.int .i64)) ∧ wr.ownsRow w6.heap.size 3 1 b (rangeI HI n).length ((rangeI HI n).map (Value.int .i64)) ∧ a.ownBlock ≠ b.ownBlock ∧ Below w6.heap.size w6 wr) (fun _ _ i _ => 4 - (intOf i).toNat)
          case atStart =>
            refine ⟨0, Nat.zero_le _, rfl, (World.ownsRow_lit w6 #[] 0 (Nat.le_refl _) (by unfold maxLen; omega) rfl).alloc _, ?_, by simp [Value.ownBlock], ((Below.refl _ _).alloc (Nat.le_refl _) _).alloc (by simp) _⟩
            have := World.ownsRow_lit (base := w6.heap.size) (e := 3) (size := 1) (w6.alloc (.cells #[] 3)) #[] 0 (by simp) (by unfold maxLen; omega) rfl
            rw [World.size_alloc] at this
            exact this
          case round =>
            obtain ⟨n, hn4, rfl, ha, hb, hab, hbb⟩ := hrel
            have hsz := hbb.size
            have vr := (v5.ri.far hbb)
            by_cases hn1 : n < 4
            · obtain ⟨pd, p, rfl, _, hcp, _, _, hkp⟩ := vr.at_ (k := n) (by omega)
              obtain ⟨p1, p2⟩ := vecB_at HV.out hkp.out
              have hnx : n < xs.length := by omega
              have hn5 : n + 1 ≤ 4 := hn1
              have w1e : IntKind.i64.wrap (p - k) = p - k := IntWalk.i64_in _ (by omega)
              have w2e : IntKind.i64.wrap (p + k) = p + k := IntWalk.i64_in _ (by omega)
              have s1 : rangeI LO (n + 1) = rangeI LO n ++ [p - k] := by rw [rangeI_succ, HLO.out]; simp [gI_of hkp.out]
              have s2 : rangeI HI (n + 1) = rangeI HI n ++ [p + k] := by rw [rangeI_succ, HHI.out]; simp [gI_of hkp.out]
              have S1 := Lib.hid s1
              have S2 := Lib.hid s2
              have n1 : (rangeI LO n).length ≤ 2000000 := by rw [rangeI_len]; omega
              have n2 : (rangeI HI n).length ≤ 2000000 := by rw [rangeI_len]; omega
              clear s1 s2
              go_wp2_with (first
                | (at_builtin; refine wpList_pushIx (by rfl) _ _ (by rfl) (by rfl) (by rfl) ha hbb hsz n1 ?_; intro v8 w8 o8 b8 keep8; obtain ⟨hb8, hne8⟩ := keep8 _ _ _ _ hb (fun e => hab e.symm); have hc8 : w8.cell? (pd.add n) = some (.int .i64 p) := (v5.ri.far b8).cell_ hkp)
                | (at_builtin; refine wpList_pushIx (by rfl) _ _ (by rfl) (by rfl) (by rfl) hb8 b8 b8.size n2 ?_; intro v9 w9 o9 b9 keep9; obtain ⟨ha9, hne9⟩ := keep9 _ _ _ _ o8 (fun e => hne8 e.symm)))
              go_roundw
              case rel => exact ⟨n + 1, by omega, by go_num, by rw [S1.out]; exact ha9, by rw [S2.out]; exact o9, hne9, b9⟩
              case measure => simp [intOf]; omega
            · obtain rfl : n = 4 := by omega
              have bd : ∀ i, -100 ≤ gI xs i ∧ gI xs i ≤ 100 := fun i => gI_vec HV.out i
              obtain ⟨LL, hLL⟩ : ∃ L, L = rangeI LO 4 := ⟨_, rfl⟩
              obtain ⟨HH, hHH⟩ : ∃ L, L = rangeI HI 4 := ⟨_, rfl⟩
              have fl : ∀ x ∈ LL, -9223372036854775808 ≤ x ∧ x ≤ 9223372036854775807 := fun x hx => by
                rw [hLL, HLO.out] at hx
                simp only [rangeI, List.mem_map] at hx
                obtain ⟨i, _, rfl⟩ := hx
                have := bd i; constructor <;> omega
              have fh : ∀ x ∈ HH, -9223372036854775808 ≤ x ∧ x ≤ 9223372036854775807 := fun x hx => by
                rw [hHH, HHI.out] at hx
                simp only [rangeI, List.mem_map] at hx
                obtain ⟨i, _, rfl⟩ := hx
                have := bd i; constructor <;> omega
              have ll : LL.length ≤ 2000000 := by rw [hLL, rangeI_len]; omega
              have lh : HH.length ≤ 2000000 := by rw [hHH, rangeI_len]; omega
              have e1 : ∀ i, i < 4 → gI LL i = gI xs i - k := fun i hi => by rw [hLL, gI_range hi, HLO.out]
              have e2 : ∀ i, i < 4 → gI HH i = gI xs i + k := fun i hi => by rw [hHH, gI_range hi, HHI.out]
              rw [← hLL] at ha
              rw [← hHH] at hb
              have oa := OwnI.mk' ha fl ll
              have ob := OwnI.mk' hb fh lh
              have E1 := Lib.hid e1
              have E2 := Lib.hid e2
              have qr := DrawnS.grow q5 (hbb : Grow w6 wr)
              clear hLL hHH fl fh ll lh e1 e2 ha hb
              obtain ⟨Aa, ca, rfl, _, _, ra⟩ := oa.open_
              obtain ⟨Ab, cb, rfl, _, _, rb⟩ := ob.open_
              clear oa ob
              go_wp2_with fail
              refine (impl_ValidVector _ LL _ _ ra).mono ?_; rintro e w' ⟨he, rfl⟩
              cases hvl : vecB LL 4
              · rw [hvl] at he; subst he
                go_wp2_with fail
                go_ret
                exact ⟨rfl, K5.trans hbb⟩
              · have HVL := Lib.hid hvl
                rw [hvl] at he; subst he
                clear hvl
                go_wp2_with fail
                refine (impl_ValidVector _ HH _ _ rb).mono ?_; rintro e w' ⟨he, rfl⟩
                cases hvh : vecB HH 4
                · rw [hvh] at he; subst he
                  go_wp2_with fail
                  go_ret
                  exact ⟨rfl, K5.trans hbb⟩
                · have LAW := Lib.hid (law_boxMost HST.out HV.out (show 0 ≤ k by omega) HVL.out hvh E1.out E2.out)
                  rw [hvh] at he; subst he
                  clear hvh
                  go_wp2_with fail
                  refine (impl_InBox _ _ l _ _ LL _ _ HH _ qr.rs ra rb).mono ?_; rintro e w8 ⟨u8, rfl, o8, g8⟩
                  obtain ⟨T, hT⟩ : ∃ T, T = boxV l LL HH := ⟨_, rfl⟩
                  rw [← hT] at o8
                  have HT := Lib.hid hT
                  clear hT
                  obtain ⟨A8, c8, rfl, _, _, _⟩ := o8.open_
                  go_wp2_with fail
                  refine (impl_WithinDist _ _ l 2 _ _ xs k _ (qr.grow g8).rs (vr.grow g8)).mono ?_; rintro e w9 ⟨u9, rfl, o9, g9⟩
                  obtain ⟨F, hF⟩ : ∃ F, F = withinV l 2 xs k := ⟨_, rfl⟩
                  obtain ⟨m1, m2⟩ := LAW.out
                  rw [← HT.out, ← hF] at m1 m2
                  rw [← hF] at o9
                  have hF16 : F.length ≤ 16 := by rw [hF]; exact withinV_few
                  clear hF
                  obtain ⟨A9, c9, rfl, _, _, r9⟩ := o9.open_
                  have t9 := (o8.grow g9).ri
                  have M2 := Lib.hid m2
                  have M1 := Lib.hid m1
                  have K9 : Grow w w9 := K5.trans (Grow.trans hbb (g8.trans g9))
                  clear m1 m2 o8 o9
                  go_wp2_with fail
                  go_loop [13] (fun i => ∃ n : Nat, n ≤ F.length ∧ i = .int .i64 n) (fun i => F.length - (intOf i).toNat)
                  case atStart => exact ⟨0, Nat.zero_le _, rfl⟩
                  case round =>
                    obtain ⟨n, hnF, rfl⟩ := hrel
                    by_cases hn1 : n < F.length
                    · obtain ⟨fd, y, rfl, _, y0, _, _, _, hy⟩ := r9.hit hn1
                      have hin : decide (y.key ∈ T) = true := decide_eq_true (M1.out y (List.mem_of_getElem? hy.out))
                      have hii := laws_isIn A8 c8 T y.key _ t9
                      rw [hin] at hii
                      have hn2 : n + 1 ≤ F.length := hn1
                      clear hin
                      go_wp2_with fail
                      refine hii.mono ?_; rintro e w' ⟨rfl, rfl⟩
                      go_wp2_with fail
                      go_round
                      case rel => exact ⟨n + 1, by omega, by go_num⟩
                      case measure => simp [intOf]; omega
                    · have hln : ((T.length : Int) == (F.length : Int)) = true := by rw [M2.out]; simp
                      go_wp2_with fail
                      go_ret
                      exact ⟨rfl, K9⟩
  · go_enter Try.func19, Try.ntmps19
    go_wp2_with fail
    go_ret
    exact ⟨rfl, Below.refl _ _⟩
end Go.Proofs.Ytbbiffaggnllnaa
