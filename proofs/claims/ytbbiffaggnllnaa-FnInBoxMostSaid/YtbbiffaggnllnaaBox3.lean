/- The contracts of the items in a box, in both texts. -/
import Derived.Test.YtbbiffaggnllnaaBox
import Derived.Test.YtbbiffaggnllnaaFrom
namespace Go.Proofs.Ytbbiffaggnllnaa
set_option linter.unusedVariables false
open Go Go.RowKit

theorem box_no {l : List It} {lo hi : List Int} (h : boxOk l lo hi = false) : boxV l lo hi = [] := by rw [boxV, h]; rfl
theorem box_yes {l : List It} {lo hi : List Int} (h : boxOk l lo hi = true) : boxV l lo hi = (l.filter (boxB lo hi)).map It.key := by rw [boxV, if_pos h]
theorem boxOk_1 {l : List It} {lo hi : List Int} (h : storeB l = false) : boxOk l lo hi = false := by rw [boxOk, h]; rfl
theorem boxOk_2 {l : List It} {lo hi : List Int} (h : vecB lo 4 = false) : boxOk l lo hi = false := by rw [boxOk, h]; simp
theorem boxOk_3 {l : List It} {lo hi : List Int} (h : vecB hi 4 = false) : boxOk l lo hi = false := by rw [boxOk, h]; simp
theorem boxOk_4 {l : List It} {lo hi : List Int} (h1 : storeB l = true) (h2 : vecB lo 4 = true) (h3 : vecB hi 4 = true) : boxOk l lo hi = true := by rw [boxOk, h1, h2, h3]; rfl
def keysTo (l : List It) (lo hi : List Int) (n : Nat) : List Int := ((l.take n).filter (boxB lo hi)).map It.key
theorem keysTo_zero (l : List It) (lo hi : List Int) : keysTo l lo hi 0 = [] := by simp [keysTo]
theorem keysTo_all (l : List It) (lo hi : List Int) : keysTo l lo hi l.length = (l.filter (boxB lo hi)).map It.key := by simp [keysTo]
theorem keysTo_hit {l : List It} {lo hi : List Int} {n : Nat} {x : It} (hx : l[n]? = some x) (h : boxB lo hi x = true) : keysTo l lo hi (n + 1) = keysTo l lo hi n ++ [x.key] := by rw [keysTo, keysTo, filter_step hx, h]; simp
theorem keysTo_miss {l : List It} {lo hi : List Int} {n : Nat} {x : It} (hx : l[n]? = some x) (h : boxB lo hi x = false) : keysTo l lo hi (n + 1) = keysTo l lo hi n := by rw [keysTo, keysTo, filter_step hx, h]; simp
theorem keysTo_len (l : List It) (lo hi : List Int) (n : Nat) : (keysTo l lo hi n).length ≤ l.length := by rw [keysTo, List.length_map]; exact filter_len _ _ _
theorem boxV_bd {l : List It} {lo hi : List Int} (h : boxOk l lo hi = true) : ∀ x ∈ boxV l lo hi, 1 ≤ x ∧ x ≤ 99 := by
  intro x hx
  rw [box_yes h] at hx
  obtain ⟨y, hy, rfl⟩ := List.mem_map.1 hx
  have hs : storeB l = true := by simp only [boxOk, Bool.and_eq_true] at h; exact h.1.1
  exact (itemB_iff.1 (storeB_mem hs (List.mem_filter.1 hy).1)).1
theorem inTo_step {p lo hi : List Int} {k : Nat} {x y z : Int} (h1 : p[k]? = some x) (h2 : lo[k]? = some y) (h3 : hi[k]? = some z) : inTo p lo hi (k + 1) = (inTo p lo hi k && inB x y z) := by rw [inTo, gI_of h1, gI_of h2, gI_of h3]

set_option maxHeartbeats 6400000 in
theorem impl_InBox (A : Option Addr) (c : Nat) (l : List It) (B : Option Addr) (d : Nat) (lo : List Int) (C : Option Addr) (f : Nat) (hi : List Int) (w : World) (h : RS w w.heap.size A l) (hlo : RI w w.heap.size B lo) (hhi : RI w w.heap.size C hi) :
    Calls Try.prog 26 #[.slice A l.length c, .slice B lo.length d, .slice C hi.length f] w fun e w' => ∃ v, e = .returned v ∧ OwnI w' w.heap.size w'.heap.size v (boxV l lo hi) ∧ Grow w w' := by
  have hl := h.len
  cases hs : storeB l
  · rw [box_no (boxOk_1 hs)]
    go_enter Try.func26, Try.ntmps26
    go_wp2_with (go_at_call 29; refine (impl_ValidStore _ _ _ _ h).mono ?_; rintro e w1 ⟨he, g1⟩; rw [hs] at he; subst he)
    go_ret
    exact ⟨_, rfl, OwnI.nil_, g1⟩
  · have HS := Lib.hid hs
    have h16 := storeB_len hs
    go_enter Try.func26, Try.ntmps26
    go_wp2_with fail
    refine (impl_ValidStore _ _ _ _ h).mono ?_; rintro e w2 ⟨he, g2⟩; rw [hs] at he; subst he
    clear hs
    cases v1 : vecB lo 4
    · have HN := Lib.hid (box_no (l := l) (hi := hi) (boxOk_2 v1))
      go_wp2_with (go_at_call 84; refine (impl_isVector _ _ _ _ _ (hlo.grow g2)).mono ?_; rintro e w' ⟨rfl, rfl⟩)
      go_ret
      rw [HN.out]
      exact ⟨_, rfl, OwnI.nil_, g2⟩
    · have V1 := Lib.hid v1
      go_wp2_with fail
      refine (impl_isVector _ _ _ _ _ (hlo.grow g2)).mono ?_; rintro e w' ⟨rfl, rfl⟩
      cases v2 : vecB hi 4
      · have HN := Lib.hid (box_no (l := l) (lo := lo) (boxOk_3 v2))
        go_wp2_with fail
        refine (impl_isVector _ _ _ _ _ (hhi.grow g2)).mono ?_; rintro e w' ⟨rfl, rfl⟩
        go_wp2_with fail
        go_ret
        rw [HN.out]
        exact ⟨_, rfl, OwnI.nil_, g2⟩
      · have V2 := Lib.hid v2
        have HOK := Lib.hid (boxOk_4 HS.out v1 v2)
        go_wp2_with fail
        refine (impl_isVector _ _ _ _ _ (hhi.grow g2)).mono ?_; rintro e w' ⟨rfl, rfl⟩
        have l1 : 4 ≤ lo.length := Nat.le_of_eq (vecB_four v1).symm
        have l2 : 4 ≤ hi.length := Nat.le_of_eq (vecB_four v2).symm
        go_wp2_with fail
        clear v1 v2
        go_loopw [7, 29] (fun v i wr => ∃ n : Nat, n ≤ l.length ∧ i = .int .i64 n ∧ wr.ownsRow w2.heap.size 3 1 v (keysTo l lo hi n).length ((keysTo l lo hi n).map (Value.int .i64)) ∧ Below w2.heap.size w2 wr) (fun _ i _ => l.length - (intOf i).toNat)
        case atStart => exact ⟨0, Nat.zero_le _, rfl, by rw [keysTo_zero]; exact World.ownsRow_lit w2 #[] 0 (Nat.le_refl _) (by unfold maxLen; omega) rfl, (Below.refl _ _).alloc (Nat.le_refl _) _⟩
        case round =>
          obtain ⟨n, hn, rfl, hown, hb⟩ := hrel
          have hsz := hb.size
          by_cases hlt : n < l.length
          · obtain ⟨ad, Ak, ck, x, rfl, had, c0, c1, c2, _, _, hri, hf, _, hx⟩ := ((h.grow g2).keep hb).at_ hlt
            have hl2 : n + 1 ≤ l.length := by omega
            have hvy : vecB x.pt 4 = true := by have := store_vec HS.out hlt; rwa [itI_of hx.out] at this
            have hy4 : x.pt.length ≤ 4 := Nat.le_of_eq (vecB_four hvy)
            have hy5 : 4 ≤ x.pt.length := Nat.le_of_eq (vecB_four hvy).symm
            have hkl := keysTo_len l lo hi n
            obtain ⟨wo, hwo⟩ : ∃ wo, wo = wr.alloc (.cells #[.int .i64 x.key, .slice Ak x.pt.length ck, .int .i64 x.tags] 48) := ⟨_, rfl⟩
            have go : Grow wr wo := by rw [hwo]; exact (Below.refl _ _).alloc (Nat.le_refl _) _
            have ko : Blk wo wr.heap.size 48 #[.int .i64 x.key, .slice Ak x.pt.length ck, .int .i64 x.tags] := by rw [hwo]; exact Blk.new _ _ _
            have hown' : wo.ownsRow w2.heap.size 3 1 u7 (keysTo l lo hi n).length ((keysTo l lo hi n).map (Value.int .i64)) := by rw [hwo]; exact hown.alloc _
            have bo := below_grow hb go hsz
            have hpt := hri.below (Below.mono go hsz)
            have hla := (hlo.grow g2).below (bo)
            have hha := (hhi.grow g2).below (bo)
            have so := bo.size
            have ke := (ko.cell 0)
            have ke' : wo.cell? ⟨wr.heap.size, 0, none⟩ = some (.int .i64 x.key) := ke
            have HW := Lib.hid hwo
            clear hvy hwo hown ke
            go_wp2_with fail
            rw [← HW.out]
            clear HW c0 c1 c2
            go_loop [10, 36] (fun b i => ∃ j : Nat, j ≤ x.pt.length ∧ i = .int .i64 j ∧ b = .bool (inTo x.pt lo hi j)) (fun _ i => x.pt.length - (intOf i).toNat)
            case atStart => exact ⟨0, Nat.zero_le _, rfl, rfl⟩
            case round =>
              obtain ⟨j, hj, rfl, rfl⟩ := hrel
              by_cases hjl : j < x.pt.length
              · obtain ⟨pd, p, rfl, _, hcp, _, _, hkp⟩ := hpt.at_ hjl
                obtain ⟨qd, q, rfl, _, hcq, _, _, hkq⟩ := hla.at_ (k := j) (by omega)
                obtain ⟨rd, r, rfl, _, hcr, _, _, hkr⟩ := hha.at_ (k := j) (by omega)
                have hst := inTo_step hkp.out hkq.out hkr.out
                have hj2 : j < lo.length := by omega
                have hj3 : j < hi.length := by omega
                have HST := Lib.hid hst
                clear hst
                cases hb0 : inTo x.pt lo hi j
                · go_wp2
                  go_round
                  case rel => exact ⟨j + 1, by omega, by go_num, by rw [HST.out, hb0]; rfl⟩
                  case measure => simp [intOf]; omega
                · by_cases e1 : q ≤ p
                  · by_cases e2 : p ≤ r
                    · go_wp2
                      go_round
                      case rel => exact ⟨j + 1, by omega, by go_num, by rw [HST.out, hb0, inB_yes e1 e2]; rfl⟩
                      case measure => simp [intOf]; omega
                    · go_wp2
                      go_round
                      case rel => exact ⟨j + 1, by omega, by go_num, by rw [HST.out, hb0, inB_no (.inr (by omega))]; rfl⟩
                      case measure => simp [intOf]; omega
                  · go_wp2
                    go_round
                    case rel => exact ⟨j + 1, by omega, by go_num, by rw [HST.out, hb0, inB_no (.inl (by omega))]; rfl⟩
                    case measure => simp [intOf]; omega
              · obtain rfl : j = 4 := by omega
                cases hbx : inTo x.pt lo hi 4
                · have HK := Lib.hid (keysTo_miss (lo := lo) (hi := hi) hx.out hbx)
                  go_wp2
                  go_roundw
                  case rel => exact ⟨n + 1, by omega, by go_num, by rw [HK.out]; exact hown', bo⟩
                  case measure => simp [intOf]; omega
                · have HK := Lib.hid (keysTo_hit (lo := lo) (hi := hi) hx.out hbx)
                  go_wp2_with (at_builtin; refine wpList_pushI rfl _ _ rfl rfl rfl hown' bo so (by omega) ?_; intro v3 w3 hown3 hb3)
                  go_roundw
                  case rel => exact ⟨n + 1, by omega, by go_num, by rw [HK.out]; exact hown3, hb3⟩
                  case measure => simp [intOf]; omega
          · obtain rfl : n = l.length := by omega
            rw [keysTo_all, ← box_yes HOK.out] at hown
            go_wp2_with fail
            go_ret
            have hlen := keysTo_len l lo hi l.length
            rw [keysTo_all, ← box_yes HOK.out] at hlen
            exact ⟨_, rfl, (OwnI.mk' hown (fun z hz => by have := boxV_bd HOK.out z hz; omega) (by omega)).lower g2.size (Nat.le_refl _), g2.trans hb⟩

set_option maxHeartbeats 6400000 in
theorem spec_InBox (A : Option Addr) (c : Nat) (l : List It) (B : Option Addr) (d : Nat) (lo : List Int) (C : Option Addr) (f : Nat) (hi : List Int) (w : World) (h : RS w w.heap.size A l) (hlo : RI w w.heap.size B lo) (hhi : RI w w.heap.size C hi) :
    Calls Try.prog 28 #[.slice A l.length c, .slice B lo.length d, .slice C hi.length f] w fun e w' => ∃ v, e = .returned v ∧ OwnI w' w.heap.size w'.heap.size v (boxV l lo hi) ∧ Grow w w' := by
  have hl := h.len
  have g0 : Grow w (w.alloc (.cells #[] 3)) := (Below.refl _ _).alloc (Nat.le_refl _) _
  have o0 : (w.alloc (.cells #[] 3)).ownsRow w.heap.size 3 1 (.slice (some ⟨w.heap.size, 0, none⟩) 0 0) 0 [] := by
    simpa using World.ownsRow_lit (base := w.heap.size) (e := 3) (size := 1) w #[] 0 (Nat.le_refl _) (by unfold maxLen; omega) rfl
  have h0 := h.grow g0
  cases hs : storeB l
  · rw [box_no (boxOk_1 hs)]
    go_enter Try.func28, Try.ntmps28
    go_wp2_with (go_at_call 85; refine (spec_validStore _ _ _ _ h0).mono ?_; rintro e w1 ⟨he, g1⟩; rw [hs] at he; subst he)
    go_ret
    exact ⟨_, rfl, OwnI.nil_, g0.trans g1⟩
  · have HS := Lib.hid hs
    have h16 := storeB_len hs
    go_enter Try.func28, Try.ntmps28
    go_wp2_with fail
    refine (spec_validStore _ _ _ _ h0).mono ?_; rintro e w2 ⟨he, g1⟩; rw [hs] at he; subst he
    have g2 : Grow w w2 := g0.trans g1
    have o2 : w2.ownsRow w.heap.size 3 1 (.slice (some ⟨w.heap.size, 0, none⟩) 0 0) 0 [] := ownsRow_of_block o0 (fun q hq => g1.block q (o0.lt q hq).2)
    clear hs o0
    cases v1 : vecB lo 4
    · have HN := Lib.hid (box_no (l := l) (hi := hi) (boxOk_2 v1))
      go_wp2_with (go_at_call 86; refine (spec_isVector _ _ _ _ (hlo.grow g2)).mono ?_; rintro e w' ⟨rfl, rfl⟩)
      go_ret
      rw [HN.out]
      exact ⟨_, rfl, OwnI.nil_, g2⟩
    · have V1 := Lib.hid v1
      go_wp2_with fail
      refine (spec_isVector _ _ _ _ (hlo.grow g2)).mono ?_; rintro e w' ⟨rfl, rfl⟩
      cases v2 : vecB hi 4
      · have HN := Lib.hid (box_no (l := l) (lo := lo) (boxOk_3 v2))
        go_wp2_with fail
        refine (spec_isVector _ _ _ _ (hhi.grow g2)).mono ?_; rintro e w' ⟨rfl, rfl⟩
        go_wp2_with fail
        go_ret
        rw [HN.out]
        exact ⟨_, rfl, OwnI.nil_, g2⟩
      · have V2 := Lib.hid v2
        have HOK := Lib.hid (boxOk_4 HS.out v1 v2)
        go_wp2_with fail
        refine (spec_isVector _ _ _ _ (hhi.grow g2)).mono ?_; rintro e w' ⟨rfl, rfl⟩
        have l1 : 4 ≤ lo.length := Nat.le_of_eq (vecB_four v1).symm
        have l2 : 4 ≤ hi.length := Nat.le_of_eq (vecB_four v2).symm
        go_wp2_with fail
        clear v1 v2
        go_loopw [7, 8] (fun v i wr => ∃ n : Nat, n ≤ l.length ∧ i = .int .i64 n ∧ wr.ownsRow w.heap.size 3 1 v (keysTo l lo hi n).length ((keysTo l lo hi n).map (Value.int .i64)) ∧ Below w.heap.size w wr) (fun _ i _ => l.length - (intOf i).toNat)
        case atStart => exact ⟨0, Nat.zero_le _, rfl, by rw [keysTo_zero]; exact o2, g2⟩
        case round =>
          clear o2
          obtain ⟨n, hn, rfl, hown, hb⟩ := hrel
          have hsz := hb.size
          by_cases hlt : n < l.length
          · obtain ⟨ad, Ak, ck, x, rfl, had, c0, c1, c2, _, _, hri, hf, _, hx⟩ := (h.keep hb).at_ hlt
            have hl2 : n + 1 ≤ l.length := by omega
            have hvy : vecB x.pt 4 = true := by have := store_vec HS.out hlt; rwa [itI_of hx.out] at this
            have hy4 : x.pt.length ≤ 4 := Nat.le_of_eq (vecB_four hvy)
            have hy5 : 4 ≤ x.pt.length := Nat.le_of_eq (vecB_four hvy).symm
            have hkl := keysTo_len l lo hi n
            have hla := hlo.below hb
            have hha := hhi.below hb
            have hadn : (ad.add (n * 3)).block < w.heap.size := by rw [block_of_add]; exact had
            obtain ⟨wo, rfl⟩ : ∃ wo : World, wo = wr := ⟨_, rfl⟩
            clear hvy c0 c2
            go_wp2_with fail
            go_loopw [9, 10] (fun b i wi => ∃ j : Nat, j ≤ 4 ∧ i = .int .i64 j ∧ b = .bool (inTo x.pt lo hi j) ∧ Grow wo wi) (fun _ i _ => 4 - (intOf i).toNat)
            case atStart => exact ⟨0, Nat.zero_le _, rfl, rfl, Grow.refl _⟩
            case round =>
              obtain ⟨j, hj, rfl, rfl, gi⟩ := hrel
              by_cases hjl : j < 4
              · obtain ⟨pd, p, rfl, hpb, hcp, _, _, hkp⟩ := hri.at_ (k := j) (by omega)
                obtain ⟨qd, q, rfl, hqb, hcq, _, _, hkq⟩ := hla.at_ (k := j) (by omega)
                obtain ⟨rd, r, rfl, hrb, hcr, _, _, hkr⟩ := hha.at_ (k := j) (by omega)
                have hst := inTo_step hkp.out hkq.out hkr.out
                have hj0 : j < x.pt.length := by omega
                have hj2 : j < lo.length := by omega
                have hj3 : j < hi.length := by omega
                have HST := Lib.hid hst
                clear hst
                cases hb0 : inTo x.pt lo hi j
                · go_wp2_with fail
                  refine wp_region_from (by kernel_rfl) (by kernel_rfl) ?_
                  repeat (go_big_quiet_step (fail))
                  refine wpQuiet_nil ?_
                  intro w3 g3
                  go_wp2_with fail
                  go_roundw
                  case rel => exact ⟨j + 1, by omega, by go_num, by rw [HST.out, hb0]; rfl, gi.trans g3⟩
                  case measure => simp [intOf]; omega
                · have far : ∀ (s : From wr) (a : Addr) (u : Value), a.block < w.heap.size → wo.cell? a = some u → s.w.cell? a = some u := fun s a u ha hu => ((gi.trans s.g).cell (by omega)).trans hu
                  have e1 : ∀ s : From wr, s.w.cell? ⟨(ad.add (n * 3)).block, (ad.add (n * 3)).off + 1, none⟩ = some (.slice (some pd) x.pt.length ck) := fun s => far s _ _ hadn c1
                  have e2 : ∀ s : From wr, s.w.cell? (pd.add j) = some (.int .i64 p) := fun s => far s _ _ (by rw [block_of_add]; exact hpb) hcp
                  have e3 : ∀ s : From wr, s.w.cell? (qd.add j) = some (.int .i64 q) := fun s => far s _ _ (by rw [block_of_add]; exact hqb) hcq
                  have e4 : ∀ s : From wr, s.w.cell? (rd.add j) = some (.int .i64 r) := fun s => far s _ _ (by rw [block_of_add]; exact hrb) hcr
                  have HC := fun s : From wr => From.call_same (spec_inRange p q r s.w)
                  clear far
                  go_wp2_with fail
                  refine wp_region_from (by kernel_rfl) (by kernel_rfl) ?_
                  repeat (go_big_quiet_step (exact HC _))
                  refine wpQuiet_nil ?_
                  intro w3 g3
                  go_wp2_with fail
                  go_roundw
                  case rel => exact ⟨j + 1, by omega, by go_num, by rw [HST.out, hb0]; rfl, gi.trans g3⟩
                  case measure => simp [intOf]; omega
              · obtain rfl : j = 4 := by omega
                have hbi := below_grow hb gi hsz
                have hci : wr.cell? (ad.add (n * 3)) = some (.int .i64 x.key) := by
                  obtain ⟨_, _, q0, _⟩ := (h.keep hbi).cells_ hx
                  exact q0
                have hown' := ownsRow_of_block hown (fun q hq => gi.block q (hown.lt q hq).2)
                have so := hbi.size
                cases hbx : inTo x.pt lo hi 4
                · have HK := Lib.hid (keysTo_miss (lo := lo) (hi := hi) hx.out hbx)
                  go_wp2
                  go_roundw
                  case rel => exact ⟨n + 1, by omega, by go_num, by rw [HK.out]; exact hown', hbi⟩
                  case measure => simp [intOf]; omega
                · have HK := Lib.hid (keysTo_hit (lo := lo) (hi := hi) hx.out hbx)
                  go_wp2_with (at_builtin; refine wpList_pushI rfl _ _ rfl rfl rfl hown' hbi so (by omega) ?_; intro v3 w3 hown3 hb3)
                  go_roundw
                  case rel => exact ⟨n + 1, by omega, by go_num, by rw [HK.out]; exact hown3, hb3⟩
                  case measure => simp [intOf]; omega
          · obtain rfl : n = l.length := by omega
            rw [keysTo_all, ← box_yes HOK.out] at hown
            go_wp2_with fail
            go_ret
            have hlen := keysTo_len l lo hi l.length
            rw [keysTo_all, ← box_yes HOK.out] at hlen
            exact ⟨_, rfl, OwnI.mk' hown (fun z hz => by have := boxV_bd HOK.out z hz; omega) (by omega), hb⟩
end Go.Proofs.Ytbbiffaggnllnaa
