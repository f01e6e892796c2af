/- The nearest items, and the items within a distance: the reference's functions. -/
import Derived.Test.YtbbiffaggnllnaaNear3
namespace Go.Proofs.Ytbbiffaggnllnaa
set_option linter.unusedVariables false
open Go Go.RowKit

theorem spec_validQuery (A : Option Addr) (c : Nat) (l : List It) (kind : Int) (B : Option Addr) (d : Nat) (xs : List Int) (w : World) (h : RS w w.heap.size A l) (hx : RI w w.heap.size B xs) :
    Calls Try.prog 92 #[.slice A l.length c, .int .i64 kind, .slice B xs.length d] w fun e w' => e = .returned (.bool (queryOk l kind xs)) ∧ Grow w w' := by
  have HN := Lib.hid (show queryOk l kind xs = (storeB l && kindB kind && vecB xs 4) from rfl)
  cases hs : storeB l
  · go_enter Try.func92, Try.ntmps92
    go_wp2_with (go_at_call 85; refine (spec_validStore _ _ _ _ h).mono ?_; rintro e w1 ⟨he, g1⟩; rw [hs] at he; subst he)
    go_ret
    exact ⟨ret_bool (by rw [HN.out, hs]; rfl), g1⟩
  · have HS := Lib.hid hs
    go_enter Try.func92, Try.ntmps92
    go_wp2_with fail
    refine (spec_validStore _ _ _ _ h).mono ?_; rintro e w1 ⟨he, g1⟩; rw [hs] at he; subst he
    clear hs
    cases hk : kindB kind
    · go_wp2_with (go_at_call 103; refine (spec_validKind _ _).mono ?_; rintro e w' ⟨he, rfl⟩; rw [hk] at he; subst he)
      go_ret
      exact ⟨ret_bool (by rw [HN.out, HS.out, hk]; rfl), g1⟩
    · have HK := Lib.hid hk
      go_wp2_with fail
      refine (spec_validKind _ _).mono ?_; rintro e w' ⟨he, rfl⟩; rw [hk] at he; subst he
      clear hk
      have hx1 := hx.grow g1
      go_wp2_with fail
      refine (spec_isVector _ _ _ _ hx1).mono ?_; rintro e w' ⟨rfl, rfl⟩
      go_wp2_with fail
      go_ret
      exact ⟨ret_bool (by rw [HN.out, HS.out, HK.out]; rfl), g1⟩

theorem insToK_len {α : Type} (lt : α → α → Bool) (d : α) (l : List α) (k : Nat) : ∀ n, (insToK lt d l k n).length ≤ n
  | 0 => by simp [insToK]
  | n + 1 => by have := insToK_len lt d l k n; rw [insToK, List.length_take, insL_len]; omega
theorem hitsL_at {l : List It} {n : Nat} {x : It} {kind : Int} {c : List Int} (hx : l[n]? = some x) : (hitsL l kind c)[n]?.getD Ht.zero = hitOf kind c x := by
  rw [hitsL, List.getElem?_map, hx]; rfl
theorem nearest_all {l : List It} (ha : AscK l) (kind : Int) (c : List Int) (k : Nat) : insToK htB Ht.zero (hitsL l kind c) k l.length = (sortedHits l kind c).take k :=
  insToK_eq htB_ord (hits_parted ha kind c) k (by simp [hitsL])
set_option maxRecDepth 20000 in
set_option maxHeartbeats 3200000 in
theorem spec_nearest (A : Option Addr) (c : Nat) (l : List It) (kind : Int) (B : Option Addr) (d : Nat) (xs : List Int) (k : Nat) (w : World) (h : RS w w.heap.size A l) (hx : RI w w.heap.size B xs) (hs : storeB l = true) (hv : vecB xs 4 = true) (hk : k ≤ 1000) :
    Calls Try.prog 93 #[.slice A l.length c, .int .i64 kind, .slice B xs.length d, .int .i64 k] w fun e w' => ∃ u, e = .returned u ∧ OwnK hitP w' w.heap.size w'.heap.size u ((sortedHits l kind xs).take k) ∧ Grow w w' := by
  have hl := storeB_len hs
  have HS := Lib.hid hs
  have HV := Lib.hid hv
  clear hs hv
  go_enter Try.func93, Try.ntmps93
  go_wp2_with fail
  go_loopw [9, 10] (fun v i wr => ∃ n : Nat, n ≤ l.length ∧ i = .int .i64 n ∧ OwnK hitP wr w.heap.size wr.heap.size v (insToK htB Ht.zero (hitsL l kind xs) k n) ∧ Below w.heap.size w wr) (fun _ i _ => l.length - (intOf i).toNat)
  case atStart => exact ⟨0, Nat.zero_le _, rfl, (OwnK.lit (p := hitP) w).up, (Below.refl _ _).alloc (Nat.le_refl _) _⟩
  case round =>
    obtain ⟨n, hn, rfl, hown, hb⟩ := hrel
    have hsz := hb.size
    have hil := insToK_len htB Ht.zero (hitsL l kind xs) k n
    by_cases hlt : n < l.length
    · obtain ⟨ad, Ak, ck, x, rfl, had, c0, c1, c2, hc1, hc2, hri, hf, hg, hxn⟩ := (h.keep hb).at_ hlt
      have hl2 : n + 1 ≤ l.length := by omega
      have hvy : vecB x.pt 4 = true := by have := store_vec HS.out hlt; rwa [itI_of hxn.out] at this
      have hbd := hit_bd (kind := kind) HS.out HV.out (List.mem_of_getElem? hxn.out)
      have hfit : ∀ m ∈ hitP.f (hitOf kind xs x), Fits m := by
        intro m hm
        simp only [hitP, List.mem_cons, List.not_mem_nil, or_false] at hm
        rcases hm with rfl | rfl <;> constructor <;> omega
      have hst : insToK htB Ht.zero (hitsL l kind xs) k (n + 1) = addH (insToK htB Ht.zero (hitsL l kind xs) k n) (hitOf kind xs x) k := by rw [insToK, hitsL_at hxn.out]; rfl
      have HST := Lib.hid hst
      have hpt := hri.more hsz
      have hxo := hx.far hb
      have hdd := fun W (hW : Grow wr W) => spec_dist kind Ak B x.pt xs ck d W (hpt.grow hW) (hxo.grow hW) hvy HV.out
      obtain ⟨A9, c9, rfl, _, _, _⟩ := hown.open_
      have haa := fun W (hW : Grow wr W) => spec_addHit A9 c9 (insToK htB Ht.zero (hitsL l kind xs) k n) (hitOf kind xs x) k W (hown.grow hW).rk hfit (by omega) hk
      clear hvy hbd hst
      go_wp2_with fail
      go_region_law (first
        | (go_simp; go_at_call 104; refine (hdd _ (Grow.drew _)).mono ?_; rintro e w' ⟨rfl, nd, rfl⟩)
        | (go_simp; go_at_call 128; refine (haa _ (Grow.drewN _ _)).mono ?_; rintro e w5 ⟨u5, rfl, o5, g5⟩))
      all_goals
        have gg : Grow wr w5 := Grow.trans (Grow.drewN _ _) g5
        clear hdd haa hpt hxo hri c0 c1 c2
        go_wp2_with fail
        go_roundw
        case rel => exact ⟨n + 1, by omega, by go_num, by rw [HST.out]; exact o5.lower hsz (Nat.le_refl _), below_grow hb gg hsz⟩
        case measure => simp [intOf]; omega
    · obtain rfl : n = l.length := by omega
      rw [nearest_all (storeB_asc HS.out)] at hown
      go_wp2_with fail
      go_ret
      exact ⟨_, rfl, hown, hb⟩
theorem spec_Nearest (A : Option Addr) (c : Nat) (l : List It) (kind : Int) (B : Option Addr) (d : Nat) (xs : List Int) (k : Int) (w : World) (h : RS w w.heap.size A l) (hx : RI w w.heap.size B xs) :
    Calls Try.prog 34 #[.slice A l.length c, .int .i64 kind, .slice B xs.length d, .int .i64 k] w fun e w' => ∃ u, e = .returned u ∧ OwnK hitP w' w.heap.size w'.heap.size u (nearV l kind xs k) ∧ Grow w w' := by
  have hnk : nearOk l kind xs k = (queryOk l kind xs && inB k 1 16) := rfl
  cases hq : queryOk l kind xs
  · rw [nearV_no (by rw [hnk, hq]; rfl)]
    go_enter Try.func34, Try.ntmps34
    go_wp2_with (go_at_call 92; refine (spec_validQuery _ _ _ _ _ _ _ _ h hx).mono ?_; rintro e w1 ⟨he, g1⟩; rw [hq] at he; subst he)
    go_ret
    exact ⟨_, rfl, OwnK.nil_, g1⟩
  · cases hi : inB k 1 16
    · rw [nearV_no (by rw [hnk, hi, Bool.and_false])]
      go_enter Try.func34, Try.ntmps34
      go_wp2_with fail
      refine (spec_validQuery _ _ _ _ _ _ _ _ h hx).mono ?_; rintro e w1 ⟨he, g1⟩; rw [hq] at he; subst he
      go_wp2_with (go_at_call 87; refine (spec_inRange _ _ _ _).mono ?_; rintro e w' ⟨he, rfl⟩; rw [hi] at he; subst he)
      go_ret
      exact ⟨_, rfl, OwnK.nil_, g1⟩
    · have hn : nearOk l kind xs k = true := by rw [hnk, hq, hi]; rfl
      obtain ⟨h1, h2, h3, h4, h5⟩ := nearOk_iff.1 hn
      rw [nearV_of hn]
      have H1 := Lib.hid h1
      have H3 := Lib.hid h3
      obtain ⟨m, rfl⟩ := Int.eq_ofNat_of_zero_le (show 0 ≤ k by omega)
      rw [Int.toNat_natCast]
      clear h1 h2 h3 hn hnk
      go_enter Try.func34, Try.ntmps34
      go_wp2_with fail
      refine (spec_validQuery _ _ _ _ _ _ _ _ h hx).mono ?_; rintro e w1 ⟨he, g1⟩; rw [hq] at he; subst he
      clear hq
      go_wp2_with fail
      refine (spec_inRange _ _ _ _).mono ?_; rintro e w' ⟨he, rfl⟩; rw [hi] at he; subst he
      clear hi
      go_wp2_with fail
      refine (spec_nearest _ _ l kind _ _ xs m w1 (h.grow g1) (hx.grow g1) H1.out H3.out (by omega)).mono ?_; rintro e w2 ⟨u, rfl, o2, g2⟩
      go_wp2_with fail
      go_ret
      exact ⟨_, rfl, o2.lower g1.size (Nat.le_refl _), g1.trans g2⟩
set_option maxRecDepth 20000 in
set_option maxHeartbeats 3200000 in
theorem spec_WithinDist (A : Option Addr) (c : Nat) (l : List It) (kind : Int) (B : Option Addr) (d : Nat) (xs : List Int) (most : Int) (w : World) (h : RS w w.heap.size A l) (hx : RI w w.heap.size B xs) :
    Calls Try.prog 47 #[.slice A l.length c, .int .i64 kind, .slice B xs.length d, .int .i64 most] w fun e w' => ∃ u, e = .returned u ∧ OwnK hitP w' w.heap.size w'.heap.size u (withinV l kind xs most) ∧ Grow w w' := by
  obtain ⟨w3, hw3⟩ : ∃ w3, w3 = w.alloc (.cells #[] 50) := ⟨_, rfl⟩
  have g23 : Grow w w3 := by rw [hw3]; exact (Below.refl _ _).alloc (Nat.le_refl _) _
  have own0 : OwnK hitP w3 w.heap.size w3.heap.size (.slice (some ⟨w.heap.size, 0, none⟩) 0 0) [] := by rw [hw3]; exact (OwnK.lit (p := hitP) w).up
  have hb0 : w.heap.size < w3.heap.size := by rw [hw3]; simp
  have h3 := h.grow g23
  have hx3 := hx.grow g23
  have HW := Lib.hid hw3
  clear hw3
  cases hq : queryOk l kind xs
  · rw [withinV_no hq]
    go_enter Try.func47, Try.ntmps47
    go_wp2_with fail
    rw [← HW.out]
    refine (spec_validQuery _ _ _ _ _ _ _ _ h3 hx3).mono ?_; rintro e w1 ⟨he, g1⟩; rw [hq] at he; subst he
    go_wp2_with fail
    go_ret
    exact ⟨_, rfl, OwnK.nil_, g23.trans g1⟩
  · by_cases hm : most < 0
    · rw [withinV_neg hm]
      go_enter Try.func47, Try.ntmps47
      go_wp2_with fail
      rw [← HW.out]
      refine (spec_validQuery _ _ _ _ _ _ _ _ h3 hx3).mono ?_; rintro e w1 ⟨he, g1⟩; rw [hq] at he; subst he
      go_wp2_with fail
      go_ret
      exact ⟨_, rfl, OwnK.nil_, g23.trans g1⟩
    · obtain ⟨q1, q2, q3⟩ : storeB l = true ∧ kindB kind = true ∧ vecB xs 4 = true := by simpa [queryOk, and_assoc] using hq
      have HV := Lib.hid (withinV_of q1 q2 q3 (show 0 ≤ most by omega))
      have H1 := Lib.hid q1
      have H3 := Lib.hid q3
      have hl16 := storeB_len q1
      obtain ⟨S, hS⟩ : ∃ S, S = sortedHits l kind xs := ⟨_, rfl⟩
      have hSl : S.length = l.length := by rw [hS, sortedHits_len]
      have HS := Lib.hid hS
      have HSL := Lib.hid hSl
      have hall : (sortedHits l kind xs).take 16 = S := by rw [hS, List.take_of_length_le (by rw [sortedHits_len]; exact hl16)]
      have HA := Lib.hid hall
      have hSl16 : S.length ≤ 16 := by omega
      clear q1 q2 q3 hS hall hSl
      go_enter Try.func47, Try.ntmps47
      go_wp2_with fail
      rw [← HW.out]
      refine (spec_validQuery _ _ _ _ _ _ _ _ h3 hx3).mono ?_; rintro e w2 ⟨he, g2⟩; rw [hq] at he; subst he
      clear hq HW
      go_wp2_with fail
      refine (spec_nearest _ _ l kind _ _ xs 16 w2 (h3.grow g2) (hx3.grow g2) H1.out H3.out (by omega)).mono ?_; rintro e w4 ⟨u, rfl, o4, g4⟩
      rw [HA.out] at o4
      have own4 := (own0.grow g2).grow g4
      obtain ⟨A4, c4, rfl, hc4, _, _⟩ := o4.open_
      have e4 := g4.size
      have e2 := g2.size
      have hb4 : Grow w w4 := g23.trans (g2.trans g4)
      clear own0 h hx h3 hx3
      go_wp2_with fail
      go_loopw [9, 11] (fun v i wr => ∃ n : Nat, n ≤ S.length ∧ i = .int .i64 n ∧ OwnK hitP wr w.heap.size wr.heap.size v ((S.take n).filter (fun h => decide (h.dist ≤ most))) ∧ OwnK hitP wr w2.heap.size w4.heap.size (.slice A4 S.length c4) S ∧ (∀ g, v.ownBlock = some g → g < w2.heap.size ∨ w4.heap.size ≤ g) ∧ Below w.heap.size w wr ∧ w4.heap.size ≤ wr.heap.size) (fun _ i _ => S.length - (intOf i).toNat)
      case atStart => exact ⟨0, Nat.zero_le _, rfl, own4.up, o4, fun g hg => .inl (by simp [Value.ownBlock] at hg; omega), hb4, Nat.le_refl _⟩
      case round =>
        clear own4 o4 hb4
        obtain ⟨n, hn, rfl, hown, hS, hap, hb, hsz4⟩ := hrel
        have hsz := hb.size
        have hfl : ((S.take n).filter (fun h => decide (h.dist ≤ most))).length ≤ 16 := Nat.le_trans (List.length_filter_le _ _) (by simp; omega)
        by_cases hlt : n < S.length
        · obtain ⟨ad, x, rfl, had, c0, c1, hk1, hk2, hxn⟩ := hS.rk.hit hlt
          have hl2 : n + 1 ≤ S.length := by omega
          have hst := within_step (m := most) hxn.out
          have hfx := hS.fit x (List.mem_of_getElem? hxn.out)
          by_cases hle : x.dist ≤ most
          · rw [if_pos hle] at hst
            have HST := Lib.hid hst
            clear hst
            go_wp2_with (at_builtin; go_must (refine wpList_pushK (y := x) hit_in (by rfl) _ _ (by rfl) (by rfl) (by rfl) (by rfl) hown hsz (by omega) hfx ?_); intro v5 w5 o5 b5 gr5 bl5)
            go_roundw
            case rel => exact ⟨n + 1, by omega, by go_num, by rw [HST.out]; exact o5, grown_own (base := 0) (n := 0) (size := 0) (e := 0) (us := []) hS gr5 hap, fun g hg => by
              rcases bl5 with e | ⟨g', e, hge⟩
              · rw [e] at hg; exact hap g hg
              · rw [e] at hg; injection hg with hg; omega, hb.trans b5, by have := gr5.size; omega⟩
            case measure => simp [intOf]; omega
          · rw [if_neg hle, List.append_nil] at hst
            have HST := Lib.hid hst
            clear hst
            go_wp2_with fail
            go_roundw
            case rel => exact ⟨n + 1, by omega, by go_num, by rw [HST.out]; exact hown, hS, hap, hb, hsz4⟩
            case measure => simp [intOf]; omega
        · obtain rfl : n = S.length := by omega
          rw [List.take_length] at hown
          go_wp2_with fail
          go_ret
          rw [HV.out, ← HS.out]
          exact ⟨_, rfl, hown, hb⟩
end Go.Proofs.Ytbbiffaggnllnaa
