/- The contracts of the reference's putting, and of getting in both texts. -/
import Derived.Test.YtebiaodjodlloaaPut
namespace Go.Proofs.Ytebiaodjodlloaa
set_option linter.unusedVariables false
open Go Go.RowKit

set_option maxHeartbeats 3200000 in
theorem spec_put (A : Option Addr) (c : Nat) (l : List It) (y : It) (B : Option Addr) (d : Nat) (w : World) (h : RS w w.heap.size A l) (hy : RI w w.heap.size B y.pt) (hyk : Fits y.key) (hyt : Fits y.tags) (h16 : l.length ≤ 16) :
    Calls Try.prog 125 #[.slice A l.length c, .agg #[.int .i64 y.key, .slice B y.pt.length d, .int .i64 y.tags]] w fun e w' => ∃ v, e = .returned v ∧ OwnS w' w.heap.size w'.heap.size v (putL l y) ∧ Grow w w' := by
  have hl := h.len
  obtain ⟨w2, hw2⟩ : ∃ w2, w2 = w.alloc (.cells #[.int .i64 y.key, .slice B y.pt.length d, .int .i64 y.tags] 43) := ⟨_, rfl⟩
  have g02 : Grow w w2 := by rw [hw2]; exact (Below.refl _ _).alloc (Nat.le_refl _) _
  have b2 : Blk w2 w.heap.size 43 #[.int .i64 y.key, .slice B y.pt.length d, .int .i64 y.tags] := by rw [hw2]; exact Blk.new _ _ _
  have s2 : w2.heap.size = w.heap.size + 1 := by rw [hw2]; simp
  have HW := Lib.hid hw2
  have S2 := Lib.hid s2
  clear hw2 s2
  go_enter Try.func125, Try.ntmps125
  go_wp2_with fail
  rw [← HW.out]
  go_loopw [5, 6] (fun v i wr => ∃ n : Nat, n ≤ l.length ∧ i = .int .i64 n ∧ OwnS wr w2.heap.size wr.heap.size v ((l.take n).filter (ltK y.key)) ∧ Below w2.heap.size w2 wr) (fun _ i _ => l.length - (intOf i).toNat)
  case atStart => exact ⟨0, Nat.zero_le _, rfl, by rw [S2.out.symm]; simpa using OwnS.lit w2, (Below.refl _ _).alloc (Nat.le_refl _) _⟩
  case round =>
    clear HW
    obtain ⟨n, hn, rfl, hown, hb⟩ := hrel
    have hsz := hb.size
    have hfl := filter_len (ltK y.key) l n
    by_cases hlt : n < l.length
    · obtain ⟨ad, Ak, ck, x, rfl, had, c0, c1, c2, hc1, hc2, hri, hf, hg, hx⟩ := ((h.grow g02).keep hb).at_ hlt
      have hl2 : n + 1 ≤ l.length := by omega
      have z0 : wr.cell? ⟨w.heap.size, 0, none⟩ = some (.int .i64 y.key) := (b2.below hb b2.lt).cell 0
      have hri' := hri.more hsz
      by_cases hk : x.key < y.key
      · have HF := Lib.hid (filter_hit (p := ltK y.key) hx.out (decide_eq_true hk))
        go_wp2_with fail
        go_quiet (fail)
        have g2 := Grow.drewN wr nq
        have hri2 := hri'.grow g2
        have hown2 := hown.grow g2
        have hb2 := below_grow hb g2 hsz
        go_wp2_with (first
          | (go_at_call 136; refine (spec_copyItem x _ _ _ hri2).mono ?_; rintro e w3 ⟨u, rfl, o3, g3⟩; have hown3 := hown2.grow g3; have hb3 := below_grow hb2 g3 hb2.size)
          | (at_builtin; go_must (refine wpList_pushS (y := x) rfl _ _ (by rfl) (by rfl) (by rfl) hb3.size (by omega) (b := wr.heap.size) hsz (o3.lower (Nat.le_refl _) (Nat.le_refl _)) hown3 hf hg ?_); intro v4 w4 hown4 hb4))
        go_roundw
        case rel => exact ⟨n + 1, by omega, by go_num, by rw [HF.out]; exact hown4, hb3.trans hb4⟩
        case measure => simp [intOf]; omega
      · have HF := Lib.hid (filter_miss (p := ltK y.key) hx.out (decide_eq_false hk))
        go_wp2_with fail
        go_quiet (fail)
        have g2 := Grow.drewN wr nq
        have hown2 := hown.grow g2
        have hb2 := below_grow hb g2 hsz
        go_wp2_with fail
        go_roundw
        case rel => exact ⟨n + 1, by omega, by go_num, by rw [HF.out]; exact hown2, hb2⟩
        case measure => simp [intOf]; omega
    · obtain rfl : n = l.length := by omega
      rw [List.take_length] at hown hfl
      obtain ⟨wo, rfl⟩ : ∃ wo : World, wo = wr := ⟨_, rfl⟩
      have b3 := b2.below hb b2.lt
      have z0 := b3.cell 0
      have z1 := b3.cell 1
      have z2 := b3.cell 2
      have y3 := ((hy.grow g02).far hb)
      go_wp2_with (first
        | (go_at_call 136; refine (spec_copyItem y _ _ _ y3).mono ?_; rintro e w3 ⟨u, rfl, o3, g3⟩; have hown3 := hown.grow g3; have hb3 := below_grow hb g3 hsz)
        | (at_builtin; go_must (refine wpList_pushS (y := y) rfl _ _ (by rfl) (by rfl) (by rfl) hb3.size (by omega) (b := wo.heap.size) hsz o3 hown3 hyk hyt ?_); intro v4 w4 hown4 hb4))
      have hb24 := hb3.trans hb4
      clear hown hown3 o3 hb3 hb4 z0 z1 z2 b3
      go_loopw [5, 7] (fun v i wr => ∃ n : Nat, n ≤ l.length ∧ i = .int .i64 n ∧ OwnS wr w2.heap.size wr.heap.size v (l.filter (ltK y.key) ++ [y] ++ (l.take n).filter (gtK y.key)) ∧ Below w2.heap.size w2 wr) (fun _ i _ => l.length - (intOf i).toNat)
      case atStart => exact ⟨0, Nat.zero_le _, rfl, by simpa using hown4, hb24⟩
      case round =>
        clear hown4 hb24
        obtain ⟨n, hn, rfl, hown, hb⟩ := hrel
        have hsz := hb.size
        have hfl2 := filter_len (gtK y.key) l n
        by_cases hlt : n < l.length
        · obtain ⟨ad, Ak, ck, x, rfl, had, c0, c1, c2, hc1, hc2, hri, hf, hg, hx⟩ := ((h.grow g02).keep hb).at_ hlt
          have hl2 : n + 1 ≤ l.length := by omega
          have z0 : wr.cell? ⟨w.heap.size, 0, none⟩ = some (.int .i64 y.key) := (b2.below hb b2.lt).cell 0
          have hri' := hri.more hsz
          by_cases hk : y.key < x.key
          · have HF := Lib.hid (filter_hit (p := gtK y.key) hx.out (decide_eq_true hk))
            go_wp2_with fail
            go_quiet (fail)
            have g2 := Grow.drewN wr nq
            have hri2 := hri'.grow g2
            have hown2 := hown.grow g2
            have hb2 := below_grow hb g2 hsz
            go_wp2_with (first
              | (go_at_call 136; refine (spec_copyItem x _ _ _ hri2).mono ?_; rintro e w3 ⟨u, rfl, o3, g3⟩; have hown3 := hown2.grow g3; have hb3 := below_grow hb2 g3 hb2.size)
              | (at_builtin; go_must (refine wpList_pushS (y := x) rfl _ _ (by rfl) (by rfl) (by rfl) hb3.size (by simp; omega) (b := wr.heap.size) hsz (o3.lower (Nat.le_refl _) (Nat.le_refl _)) hown3 hf hg ?_); intro v4 w4 hown4 hb4))
            go_roundw
            case rel => exact ⟨n + 1, by omega, by go_num, by rw [HF.out, ← List.append_assoc]; exact hown4, hb3.trans hb4⟩
            case measure => simp [intOf]; omega
          · have HF := Lib.hid (filter_miss (p := gtK y.key) hx.out (decide_eq_false hk))
            go_wp2_with fail
            go_quiet (fail)
            have g2 := Grow.drewN wr nq
            have hown2 := hown.grow g2
            have hb2 := below_grow hb g2 hsz
            go_wp2_with fail
            go_roundw
            case rel => exact ⟨n + 1, by omega, by go_num, by rw [HF.out]; exact hown2, hb2⟩
            case measure => simp [intOf]; omega
        · obtain rfl : n = l.length := by omega
          rw [List.take_length, ← putL_parts] at hown
          go_wp2_with fail
          go_ret
          exact ⟨_, rfl, hown.lower g02.size (Nat.le_refl _), g02.trans hb⟩

set_option maxHeartbeats 1600000 in
theorem spec_PutItem (A : Option Addr) (c : Nat) (l : List It) (y : It) (B : Option Addr) (d : Nat) (w : World) (h : RS w w.heap.size A l) (hy : RI w w.heap.size B y.pt) (hyk : Fits y.key) (hyt : Fits y.tags) :
    Calls Try.prog 103 #[.slice A l.length c, .agg #[.int .i64 y.key, .slice B y.pt.length d, .int .i64 y.tags]] w fun e w' => ∃ v, e = .returned (.tuple #[v, .bool (putOk l y)]) ∧ OwnS w' w.heap.size w'.heap.size v (putV l y) ∧ Grow w w' := by
  have hl := h.len
  have g0 : Grow w (w.alloc (.cells #[.int .i64 y.key, .slice B y.pt.length d, .int .i64 y.tags] 43)) := (Below.refl _ _).alloc (Nat.le_refl _) _
  have b0 : Blk (w.alloc (.cells #[.int .i64 y.key, .slice B y.pt.length d, .int .i64 y.tags] 43)) w.heap.size 43 #[.int .i64 y.key, .slice B y.pt.length d, .int .i64 y.tags] := Blk.new _ _ _
  have h0 := h.grow g0
  have y0 := hy.grow g0
  cases hs : storeB l
  · obtain ⟨h1, h2⟩ := putOk_no (x := y) hs
    rw [h1, h2]
    clear h1 h2
    go_enter Try.func103, Try.ntmps103
    go_wp2_with (go_at_call 43; refine (spec_validStore _ _ _ _ h0).mono ?_; rintro e w1 ⟨he, g1⟩; rw [hs] at he; subst he)
    go_ret2
    exact ⟨_, rfl, OwnS.nil_, g0.trans g1⟩
  · have HS := Lib.hid hs
    have h16 := storeB_len hs
    go_enter Try.func103, Try.ntmps103
    go_wp2_with fail
    refine (spec_validStore _ _ _ _ h0).mono ?_; rintro e w1 ⟨he, g1⟩; rw [hs] at he; subst he
    clear hs
    have b1 := b0.below g1 b0.lt
    have z0 := b1.cell 0
    have z1 := b1.cell 1
    have z2 := b1.cell 2
    go_wp2_with fail
    refine (spec_validItem y _ _ _ (y0.grow g1)).mono ?_; rintro e w2 ⟨he, g2⟩
    have g02 : Grow w w2 := g0.trans (g1.trans g2)
    cases hi : itemB y
    · obtain ⟨h1, h2⟩ := putOk_bad (l := l) hi
      rw [hi] at he; subst he
      have H1 := Lib.hid h1
      have H2 := Lib.hid h2
      clear h1 h2 hi
      go_wp2_with fail
      go_ret2
      rw [H1.out, H2.out]
      exact ⟨_, rfl, OwnS.nil_, g02⟩
    · rw [hi] at he; subst he
      have HI := Lib.hid hi
      clear hi z0 z1 z2
      have b2 := b1.below g2 b1.lt
      have z0 := b2.cell 0
      have z1 := b2.cell 1
      have z2 := b2.cell 2
      go_wp2_with fail
      refine (spec_put _ _ _ y _ _ _ (h.grow g02) (hy.grow g02) hyk hyt h16).mono ?_; rintro e w3 ⟨v, rfl, o3, g3⟩
      obtain ⟨Ao, co, rfl, ho1, ho2, q3⟩ := o3.open_
      have hst := putL_store HS.out HI.out
      clear z0 z1 z2
      by_cases hlong : 16 < (putL l y).length
      · obtain ⟨h1, h2⟩ := putOk_long hlong
        rw [decide_eq_false (by omega)] at hst
        have H1 := Lib.hid h1
        have H2 := Lib.hid h2
        clear h1 h2
        go_wp2_with fail
        refine (spec_validStore _ _ _ _ q3).mono ?_; rintro e w4 ⟨he, g4⟩; rw [hst] at he; subst he
        clear hst
        go_wp2_with fail
        go_ret2
        rw [H1.out, H2.out]
        exact ⟨_, rfl, OwnS.nil_, g02.trans (g3.trans g4)⟩
      · obtain ⟨h1, h2⟩ := putOk_yes HS.out HI.out hlong
        rw [decide_eq_true (by omega)] at hst
        have H1 := Lib.hid h1
        have H2 := Lib.hid h2
        clear h1 h2
        go_wp2_with fail
        refine (spec_validStore _ _ _ _ q3).mono ?_; rintro e w4 ⟨he, g4⟩; rw [hst] at he; subst he
        clear hst
        go_wp2_with fail
        go_ret2
        rw [H1.out, H2.out]
        exact ⟨_, rfl, (o3.grow g4).lower g02.size g4.size, g02.trans (g3.trans g4)⟩
end Go.Proofs.Ytebiaodjodlloaa
