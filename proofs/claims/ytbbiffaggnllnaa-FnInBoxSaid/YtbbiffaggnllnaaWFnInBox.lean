/- The walk of the law FnInBox: it returns true, and writes nothing that was there. -/
import Derived.Test.YtbbiffaggnllnaaSDraw7
import Derived.Test.YtbbiffaggnllnaaSAid
import Derived.Test.YtbbiffaggnllnaaBox3
import Derived.Test.YtbbiffaggnllnaaPlainM
import Derived.Test.YtbbiffaggnllnaaIsIn
namespace Go.Proofs.Ytbbiffaggnllnaa
set_option linter.unusedVariables false
open Go Go.RowKit

theorem eqInts_same (A B : Option Addr) (xs : List Int) (c d : Nat) (w : World) (hx : RI w w.heap.size A xs) (hy : RI w w.heap.size B xs) :
    Calls Try.prog 27 #[.slice A xs.length c, .slice B xs.length d] w fun e w' => e = .returned (.bool true) ∧ Grow w w' := by
  have he := eqB_self xs
  refine (laws_equalInts A B xs xs c d w hx hy).mono ?_
  rintro e w' ⟨rfl, n, rfl⟩
  exact ⟨by rw [he], Grow.drewN _ _⟩
set_option maxRecDepth 100000 in
set_option maxHeartbeats 3200000 in
theorem walk_FnInBox (a0 : Option Addr) (n0 c0 : Nat) (x0 : List Int) (w : World) (h0 : ArgB w a0 n0 c0 x0) :
    Calls Try.prog 24 #[.slice a0 n0 c0] w fun e w' => e = .returned (.bool true) ∧ Below w.heap.size w w' := by
  by_cases hn : n0 ≤ 1048576
  · go_enter Try.func24, Try.ntmps24
    go_wp2_with fail
    refine (spec_DrawInBox _ _ _ _ _ h0).mono ?_
    rintro e w2 ⟨A1, c1, l, B1, d1, lo, C1, f1, hi, rfl, vlo, vhi, q2, g2⟩
    have hl17 := q2.few
    clear h0
    go_wp2_with fail
    refine (impl_InBox _ _ l _ _ lo _ _ hi _ q2.rs vlo.ri vhi.ri).mono ?_; rintro e w3 ⟨u3, rfl, o3, g3⟩
    obtain ⟨S, hS⟩ : ∃ S, S = boxV l lo hi := ⟨_, rfl⟩
    have hSl : S.length ≤ l.length := by rw [hS]; exact boxV_len _ _ _
    rw [← hS] at o3
    have HS := Lib.hid hS
    clear hS
    obtain ⟨A3, c3, rfl, _, _, _⟩ := o3.open_
    go_wp2_with fail
    refine (spec_InBox _ _ l _ _ lo _ _ hi _ (q2.grow g3).rs (vlo.grow g3).ri (vhi.grow g3).ri).mono ?_; rintro e w4 ⟨u4, rfl, o4, g4⟩
    rw [← HS.out] at o4
    obtain ⟨A4, c4, rfl, _, _, _⟩ := o4.open_
    go_wp2_with fail
    refine (eqInts_same _ _ S _ _ _ (o3.grow g4).ri o4.ri).mono ?_; rintro e w5 ⟨rfl, g5⟩
    have k5 : Grow w2 w5 := g3.trans (g4.trans g5)
    have K5 : Grow w w5 := g2.trans k5
    have q5 := q2.grow k5
    have vlo5 := (vlo.grow k5).ri
    have vhi5 := (vhi.grow k5).ri
    have o5 := (o3.grow g4).grow g5
    clear o3 o4 q2 vlo vhi
    by_cases hS0 : S.length = 0
    · have e0 : ((S.length : Int) == 0) = true := by rw [hS0]; rfl
      clear hS0
      go_wp2_with fail
      refine (spec_InBox _ _ l _ _ lo _ _ hi _ q5.rs vlo5 vhi5).mono ?_; rintro e w7 ⟨u7, rfl, o7, g7⟩
      rw [← HS.out] at o7
      obtain ⟨A7, c7, rfl, _, _, _⟩ := o7.open_
      go_wp2_with fail
      refine (eqInts_same _ _ S _ _ _ (o5.grow g7).ri o7.ri).mono ?_; rintro e w8 ⟨rfl, g8⟩
      go_wp2_with fail
      go_ret
      exact ⟨rfl, K5.trans (g7.trans g8)⟩
    · have e0 : ((S.length : Int) == 0) = false := by rw [beq_eq_false_iff_ne]; omega
      have hok := box_some (l := l) (lo := lo) (hi := hi) (by rw [← HS.out]; exact hS0)
      obtain ⟨b1, b2, b3⟩ := boxOk_iff.1 hok
      have hlo4 : 4 ≤ lo.length := Nat.le_of_eq (vecB_four b2).symm
      have hhi4 : 4 ≤ hi.length := Nat.le_of_eq (vecB_four b3).symm
      have HOK := Lib.hid hok
      have HB1 := Lib.hid b1
      have o5r := o5.ri
      clear hok b1 b2 b3 o5
      go_wp2_with fail
      go_loopw [7] (fun i wr => ∃ n : Nat, n ≤ l.length ∧ i = .int .i64 n ∧ Grow w5 wr) (fun i _ => l.length - (intOf i).toNat)
      case atStart => exact ⟨0, Nat.zero_le _, rfl, Grow.refl _⟩
      case round =>
        obtain ⟨n, hnl, rfl, kr⟩ := hrel
        by_cases hn1 : n < l.length
        · obtain ⟨ad, Ai, ci, x, rfl, had, z0, z1, _, _, _, hri, fx, _, hx⟩ := (q5.grow kr).rs.at_ (k := n) hn1
          have hl2 : n + 1 ≤ l.length := hn1
          have hvx : vecB x.pt 4 = true := store_vecs' HB1.out (List.mem_of_getElem? hx.out)
          have hx4 : 4 ≤ x.pt.length := Nat.le_of_eq (vecB_four hvx).symm
          have hin := law_inBox HOK.out (List.mem_of_getElem? hx.out)
          rw [← HS.out] at hin
          have HIN := Lib.hid hin
          have hlr := vlo5.grow kr
          have hhr := vhi5.grow kr
          have hsr := o5r.grow kr
          clear hin hvx
          go_wp2_with fail
          go_loopw [8, 9] (fun b i ws => ∃ (j m : Nat), j ≤ 4 ∧ i = .int .i64 j ∧ b = .bool (inTo x.pt lo hi j) ∧ ws = wr.drewN m) (fun _ i _ => 4 - (intOf i).toNat)
          case atStart => exact ⟨0, 0, Nat.zero_le _, rfl, rfl, by simp [World.drewN]⟩
          case round =>
            obtain ⟨j, m, hj, rfl, rfl, rfl⟩ := hrel
            by_cases hjl : j < 4
            · obtain ⟨pd, p, rfl, _, hcp, _, _, hkp⟩ := hri.at_ (k := j) (by omega)
              obtain ⟨qd, q, rfl, _, hcq, _, _, hkq⟩ := hlr.at_ (k := j) (by omega)
              obtain ⟨rd, r, rfl, _, hcr, _, _, hkr⟩ := hhr.at_ (k := j) (by omega)
              have hst := inTo_step hkp.out hkq.out hkr.out
              have hj2 : j < lo.length := by omega
              have hj3 : j < hi.length := by omega
              have hj4 : j < x.pt.length := by omega
              have hj5 : j + 1 ≤ 4 := hjl
              have HST := Lib.hid hst
              clear hst
              cases hb0 : inTo x.pt lo hi j
              · go_wp2_with fail
                go_quiet (fail)
                go_wp2_with fail
                go_roundw
                case rel => exact ⟨j + 1, _, by omega, by go_num, by rw [HST.out, hb0]; rfl, rfl⟩
                case measure => simp [intOf]; omega
              · by_cases e1 : q ≤ p
                · have e1' : decide (q ≤ p) = true := decide_eq_true e1
                  by_cases e2 : p ≤ r
                  · have hb1 := inB_yes e1 e2
                    have HB := Lib.hid hb1
                    have e2' : decide (p ≤ r) = true := decide_eq_true e2
                    clear hb1
                    go_wp2_with fail
                    go_quiet (fail)
                    go_wp2_with fail
                    go_roundw
                    case rel => exact ⟨j + 1, _, by omega, by go_num, by rw [HST.out, hb0, HB.out]; rfl, rfl⟩
                    case measure => simp [intOf]; omega
                  · have hb1 : inB p q r = false := inB_no (.inr (by omega))
                    have HB := Lib.hid hb1
                    have e2' : decide (p ≤ r) = false := decide_eq_false e2
                    clear hb1
                    go_wp2_with fail
                    go_quiet (fail)
                    go_wp2_with fail
                    go_roundw
                    case rel => exact ⟨j + 1, _, by omega, by go_num, by rw [HST.out, hb0, HB.out]; rfl, rfl⟩
                    case measure => simp [intOf]; omega
                · have hb1 : inB p q r = false := inB_no (.inl (by omega))
                  have HB := Lib.hid hb1
                  have e1' : decide (q ≤ p) = false := decide_eq_false e1
                  clear hb1
                  go_wp2_with fail
                  go_quiet (fail)
                  go_wp2_with fail
                  go_roundw
                  case rel => exact ⟨j + 1, _, by omega, by go_num, by rw [HST.out, hb0, HB.out]; rfl, rfl⟩
                  case measure => simp [intOf]; omega
            · obtain rfl : j = 4 := by omega
              obtain ⟨b, hb⟩ : ∃ b, b = inTo x.pt lo hi 4 := ⟨_, rfl⟩
              have hin2 := HIN.out
              rw [← hb] at hin2 ⊢
              have hii := fun W (h : RI W W.heap.size A3 S) => laws_isIn A3 c3 S x.key W h
              rw [hin2] at hii
              have hbb : (b != b) = false := by simp
              clear hb hin2
              go_wp2_with fail
              refine (hii _ (hsr.grow (Grow.drewN _ _))).mono ?_; rintro e w' ⟨rfl, rfl⟩
              go_wp2_with fail
              go_roundw
              case rel => exact ⟨n + 1, by omega, by go_num, kr.trans (Grow.drewN _ _)⟩
              case measure => simp [intOf]; omega
        · have hle : decide ((S.length : Int) ≤ (l.length : Int)) = true := decide_eq_true (by omega)
          go_wp2_with fail
          go_ret
          exact ⟨rfl, K5.trans kr⟩
  · go_enter Try.func24, Try.ntmps24
    go_wp2_with fail
    go_ret
    exact ⟨rfl, Below.refl _ _⟩
end Go.Proofs.Ytbbiffaggnllnaa
