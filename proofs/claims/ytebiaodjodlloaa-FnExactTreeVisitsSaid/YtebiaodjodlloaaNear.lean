/- The nearest items: the program's own search. -/
import Derived.Test.YtebiaodjodlloaaHit2
import Derived.Test.YtebiaodjodlloaaStore
import Derived.Test.YtebiaodjodlloaaMove
import Derived.Test.YtebiaodjodlloaaPlainM
import Derived.Deep.RegionHeld3
namespace Go.Proofs.Ytebiaodjodlloaa
set_option linter.unusedVariables false
open Go Go.RowKit

theorem impl_canFind (A : Option Addr) (c : Nat) (l : List It) (kind : Int) (B : Option Addr) (d : Nat) (xs : List Int) (k : Int) (w : World) (h : RS w w.heap.size A l) (hx : RI w w.heap.size B xs) :
    Calls Try.prog 59 #[.slice A l.length c, .int .i64 kind, .slice B xs.length d, .int .i64 k] w fun e w' => e = .returned (.bool (nearOk l kind xs k)) ∧ Grow w w' := by
  have HN := Lib.hid (show nearOk l kind xs k = (storeB l && kindB kind && vecB xs 4 && inB k 1 16) from rfl)
  cases hs : storeB l
  · go_enter Try.func59, Try.ntmps59
    go_wp2_with (go_at_call 40; refine (impl_ValidStore _ _ _ _ h).mono ?_; rintro e w1 ⟨he, g1⟩; rw [hs] at he; subst he)
    go_ret
    exact ⟨ret_bool (by rw [HN.out, hs]; rfl), g1⟩
  · have HS := Lib.hid hs
    go_enter Try.func59, Try.ntmps59
    go_wp2_with fail
    refine (impl_ValidStore _ _ _ _ h).mono ?_; rintro e w1 ⟨he, g1⟩; rw [hs] at he; subst he
    clear hs
    cases hk : kindB kind
    · go_wp2_with (go_at_call 53; refine (impl_isKind _ _).mono ?_; rintro e w' ⟨he, rfl⟩; rw [hk] at he; subst he)
      go_ret
      exact ⟨ret_bool (by rw [HN.out, HS.out, hk]; rfl), g1⟩
    · have HK := Lib.hid hk
      go_wp2_with fail
      refine (impl_isKind _ _).mono ?_; rintro e w' ⟨he, rfl⟩; rw [hk] at he; subst he
      clear hk
      have hx1 := hx.grow g1
      cases hv : vecB xs 4
      · go_wp2_with (go_at_call 54; refine (impl_isVector _ _ _ _ _ hx1).mono ?_; rintro e w' ⟨he, rfl⟩; rw [hv] at he; subst he)
        go_ret
        exact ⟨ret_bool (by rw [HN.out, HS.out, HK.out, hv]; rfl), g1⟩
      · have HV := Lib.hid hv
        go_wp2_with fail
        refine (impl_isVector _ _ _ _ _ hx1).mono ?_; rintro e w' ⟨he, rfl⟩; rw [hv] at he; subst he
        clear hv
        by_cases h1 : 1 ≤ k
        · go_wp2_with fail
          go_ret
          exact ⟨ret_bool (by rw [HN.out, HS.out, HK.out, HV.out]; simp [inB, h1]), g1⟩
        · go_wp2_with fail
          go_ret
          exact ⟨ret_bool (by rw [HN.out, HS.out, HK.out, HV.out, inB_no (.inl (by omega))]; rfl), g1⟩

theorem hitsL_step {l : List It} {n : Nat} {x : It} {kind : Int} {c : List Int} (hx : l[n]? = some x) : hitsL (l.take (n + 1)) kind c = hitsL (l.take n) kind c ++ [hitOf kind c x] := by
  have e : l.take (n + 1) = l.take n ++ [x] := by rw [List.take_add_one, hx]; rfl
  rw [hitsL, e, List.map_append]; rfl
set_option maxRecDepth 20000 in
set_option maxHeartbeats 3200000 in
theorem impl_nearest (A : Option Addr) (c : Nat) (l : List It) (kind : Int) (B : Option Addr) (d : Nat) (xs : List Int) (k : Nat) (w : World) (h : RS w w.heap.size A l) (hx : RI w w.heap.size B xs) (hs : storeB l = true) (hv : vecB xs 4 = true) (hk : k ≤ 1000) :
    Calls Try.prog 60 #[.slice A l.length c, .int .i64 kind, .slice B xs.length d, .int .i64 k] w fun e w' => ∃ u, e = .returned u ∧ OwnK hitP w' w.heap.size w'.heap.size u ((sortedHits l kind xs).take k) ∧ Grow w w' := by
  have hl := storeB_len hs
  have HS := Lib.hid hs
  have HV := Lib.hid hv
  clear hs hv
  go_enter Try.func60, Try.ntmps60
  go_wp2_with fail
  go_loopw [9, 15] (fun v i wr => ∃ n : Nat, n ≤ l.length ∧ i = .int .i64 n ∧ OwnK hitP wr w.heap.size wr.heap.size v (hitsL (l.take n) kind xs) ∧ Below w.heap.size w wr) (fun _ i _ => l.length - (intOf i).toNat)
  case atStart => exact ⟨0, Nat.zero_le _, rfl, (OwnK.lit (p := hitP) w).up, (Below.refl _ _).alloc (Nat.le_refl _) _⟩
  case round =>
    obtain ⟨n, hn, rfl, hown, hb⟩ := hrel
    have hsz := hb.size
    by_cases hlt : n < l.length
    · obtain ⟨ad, Ak, ck, x, rfl, had, c0, c1, c2, hc1, hc2, hri, hf, hg, hxn⟩ := (h.keep hb).at_ hlt
      have hl2 : n + 1 ≤ l.length := by omega
      have hvy : vecB x.pt 4 = true := by have := store_vec HS.out hlt; rwa [itI_of hxn.out] at this
      have hbd := hit_bd (kind := kind) HS.out HV.out (List.mem_of_getElem? hxn.out)
      have hfit : ∀ m ∈ hitP.f (hitOf kind xs x), Fits m := by
        intro m hm
        simp only [hitP, List.mem_cons, List.not_mem_nil, or_false] at hm
        rcases hm with rfl | rfl <;> constructor <;> omega
      have HST := Lib.hid (hitsL_step (kind := kind) (c := xs) hxn.out)
      have hlen : (hitsL (l.take n) kind xs).length ≤ 1999999 := by simp [hitsL]; omega
      obtain ⟨wo, hwo⟩ : ∃ wo, wo = wr.alloc (.cells #[.int .i64 x.key, .slice Ak x.pt.length ck, .int .i64 x.tags] 43) := ⟨_, rfl⟩
      have go : Grow wr wo := by rw [hwo]; exact (Below.refl _ _).alloc (Nat.le_refl _) _
      have ko : Blk wo wr.heap.size 43 #[.int .i64 x.key, .slice Ak x.pt.length ck, .int .i64 x.tags] := by rw [hwo]; exact Blk.new _ _ _
      have hown' := hown.grow go
      have bo := below_grow hb go hsz
      have hpt := (hri.more hsz).grow go
      have hxo := hx.far bo
      have so := go.size
      have hdd := fun W (hW : Grow wo W) => impl_distance kind Ak B x.pt xs ck d W (hpt.grow hW) (hxo.grow hW) hvy HV.out
      have HW := Lib.hid hwo
      have e0 := ko.cell 0
      have e1 := ko.cell 1
      clear hwo hown hvy hbd
      go_wp2_with fail
      rw [← HW.out]
      clear HW c0 c1 c2
      go_region_law (first
        | (go_simp; go_at_call 55; refine (hdd _ (Grow.drew _)).mono ?_; rintro e w' ⟨rfl, nd, rfl⟩)
        | (refine step_pushK (p := hitP) (wr := wo) (y := hitOf kind xs x) hit_in (by rfl) (.tmp 19) (.tmp 28) (by rfl) (by rfl) (by rfl) rfl rfl rfl rfl hown' bo.size hlen hfit ?_; intro v5 w5 o5 b5 _ _))
      all_goals
        have w0b := bo.trans b5
        clear hdd hpt hxo hri e0 e1
        go_wp2_with fail
        go_roundw
        case rel => exact ⟨n + 1, by omega, by go_num, by rw [HST.out]; exact o5, w0b⟩
        case measure => simp [intOf]; omega
    · obtain rfl : n = l.length := by omega
      rw [List.take_length] at hown
      obtain ⟨A9, c9, rfl, _, _, _⟩ := hown.open_
      go_wp2_with fail
      refine (impl_firstHits _ _ _ k _ _ _ hown (sortedHits_perm l kind xs) (sortedHits_sorted (storeB_asc HS.out) kind xs) (by simp [hitsL]; omega) hk).mono ?_
      rintro e w5 ⟨u, rfl, o5, t5⟩
      go_wp2_with fail
      go_ret
      exact ⟨_, rfl, o5.lower hsz (Nat.le_refl _), hb.trans (t5.below hsz (Nat.le_refl _))⟩
end Go.Proofs.Ytebiaodjodlloaa
