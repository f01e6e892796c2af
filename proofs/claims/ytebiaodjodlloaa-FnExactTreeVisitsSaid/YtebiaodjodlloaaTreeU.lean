/- Searches in trees: what the reference hands back; the program's nearest items by a tree. -/
import Derived.Test.YtebiaodjodlloaaTreeS
namespace Go.Proofs.Ytebiaodjodlloaa
set_option linter.unusedVariables false
open Go Go.RowKit

theorem seekOk_of {l : List It} {kind : Int} {c : List Int} {k : Int} : seekOk l kind c k = true ↔ queryOk l kind c = true ∧ treeKind kind = true ∧ inB k 1 16 = true := by simp [seekOk, and_assoc]
theorem seekV_no {l : List It} {kind : Int} {c : List Int} {k : Int} (h : seekOk l kind c k = false) : seekV l kind c k = [] := by rw [seekV, h]; rfl
theorem seekV_of {l : List It} {kind : Int} {c : List Int} {k : Int} (h : seekOk l kind c k = true) : seekV l kind c k = (visT kind c k.toNat (treeT l kind) ([], 0)).1 := by rw [seekV, if_pos h]
theorem visitsV_no {l : List It} {kind : Int} {c : List Int} {k : Int} (h : seekOk l kind c k = false) : visitsV l kind c k = -1 := by rw [visitsV, h]; rfl
theorem visitsV_of {l : List It} {kind : Int} {c : List Int} {k : Int} (h : seekOk l kind c k = true) : visitsV l kind c k = (visT kind c k.toNat (treeT l kind) ([], 0)).2 := by rw [visitsV, if_pos h]
set_option maxRecDepth 20000 in
set_option maxHeartbeats 1600000 in
theorem spec_search (A : Option Addr) (c : Nat) (l : List It) (kind : Int) (B : Option Addr) (d : Nat) (xs : List Int) (k : Nat) (w : World) (h : RS w w.heap.size A l) (hx : RI w w.heap.size B xs) (hc : l.length ≤ c) (hcm : c ≤ maxLen)
    (hs : storeB l = true) (hvx : vecB xs 4 = true) (hk : 0 < k) (hk16 : k ≤ 16) :
    Calls Try.prog 58 #[.slice A l.length c, .int .i64 kind, .slice B xs.length d, .int .i64 k] w fun e w' => ∃ sb a0 a1 a2 a3 a4 v, e = .returned (.pointer (some ⟨sb, 0, none⟩)) ∧ w.heap.size ≤ sb ∧
      Blk w' sb 72 #[a0, a1, a2, a3, a4, v, .int .i64 (visT kind xs k (treeT l kind) ([], 0)).2] ∧ OwnK hitP w' w.heap.size w'.heap.size v (visT kind xs k (treeT l kind) ([], 0)).1 ∧ Grow w w' := by
  have hl := storeB_len hs
  have hkd := (storeB_asc hs).keysD
  have hvl := store_vecs hs
  have HS := Lib.hid hs
  clear hs
  go_enter Try.func58, Try.ntmps58
  go_wp2_with fail
  refine (spec_grown A c l kind w h hc hcm (by omega) hkd hvl).mono ?_; rintro e w2 ⟨u, rfl, o2, g2⟩
  obtain ⟨S, hS⟩ : ∃ S, S = (treeT l kind).nodes 0 := ⟨_, rfl⟩
  rw [← hS] at o2
  obtain ⟨An, cn, rfl, _, _, rn⟩ := o2.open_
  obtain ⟨w3, hw3⟩ : ∃ w3, w3 = w2.alloc (.cells #[.slice An S.length cn, .slice A l.length c, .int .i64 kind, .slice B xs.length d, .int .i64 k, .slice none 0 0, .int .i64 0] 72) := ⟨_, rfl⟩
  have B3 : Blk w3 w2.heap.size 72 #[.slice An S.length cn, .slice A l.length c, .int .i64 kind, .slice B xs.length d, .int .i64 k, .slice none 0 0, .int .i64 0] := by rw [hw3]; exact Blk.new _ _ _
  have g23 : Grow w2 w3 := by rw [hw3]; exact (Below.refl _ _).alloc (Nat.le_refl _) _
  have e3 : w3.heap.size = w2.heap.size + 1 := by rw [hw3]; simp
  have g03 := g2.trans g23
  have e2 := g2.size
  have HS2 := Lib.hid hS
  have HW3 := Lib.hid hw3
  have E3 := Lib.hid e3
  have B3l := B3.lt
  have env : SkEnv xs l S w2.heap.size A An B w3 := ⟨(h.grow g2).keep g23, rn.below g23, (hx.grow g2).below g23⟩
  have hsz : (treeT l kind).size = l.length := by rw [treeT, tree_size kind (Nat.le_refl _)]
  have hlay := lay_all (treeT l kind)
  rw [← hS] at hlay
  have hit : ∀ y ∈ (treeT l kind).items, y ∈ l := fun y hy => (tree_perm kind (Nat.le_refl _)).mem_iff.1 hy
  have own0 : OwnK hitP w3 (w2.heap.size + 1) w3.heap.size (.slice none 0 0) [] := OwnK.nil_
  have hok : VOk k (([] : List Ht), 0) 0 (1000 - ((treeT l kind).size : Int)) := ⟨fun h hh => by simp at hh, by simp, Int.le_refl _, by rw [hsz]; simp only; omega⟩
  have SV := spec_visit (k := k) (cn := cn) (d := d) (c := c) (A := A) (An := An) (B := B) (S := S) hvl hvx hkd hk hk16 (treeT l kind) _ 0 _ [] 0 _ w3 hlay hit env B3 own0 hok
  by_cases hl0 : l.length = 0
  · have hl1 : ¬ ((0 : Int) < (l.length : Int)) := by omega
    have hl2 : ¬ (0 < l.length) := by omega
    have HX := Lib.hid hl0
    clear hS hw3 e3 SV hsz hlay hit hl0
    go_upto_region 2 with fail
    rw [← HW3.out]
    go_wp2_with fail
    go_ret
    obtain rfl : l = [] := List.eq_nil_of_length_eq_zero HX.out
    exact ⟨w2.heap.size, _, _, _, _, _, _, rfl, e2, B3, OwnK.nil_, g03⟩
  · have hix : (treeT l kind).ix 0 = 0 := by rw [treeT, tree_ix kind (Nat.le_refl _), if_neg hl0]
    rw [hix] at SV
    have hl1 : (0 : Int) < (l.length : Int) := by omega
    have hl2 : 0 < l.length := by omega
    have HX := Lib.hid hl0
    clear hS hw3 e3 hsz hlay hit hix hl0
    go_upto_region 2 with fail
    rw [← HW3.out]
    go_wp2_with fail
    refine SV.mono ?_; rintro e w4 ⟨rfl, v, B4, o4, F4⟩
    go_wp2_with fail
    go_ret
    have hE := E3.out
    refine ⟨w2.heap.size, _, _, _, _, _, v, rfl, e2, B4, o4.lower (by omega) (Nat.le_refl _), ?_⟩
    exact Below.trans g03 (F4.below (B := w.heap.size) (by omega) (fun k hk hx => by have hx' : k = w2.heap.size := hx; omega))
set_option maxRecDepth 20000 in
set_option maxHeartbeats 3200000 in
theorem spec_TreeNearest (A : Option Addr) (c : Nat) (l : List It) (kind : Int) (B : Option Addr) (d : Nat) (xs : List Int) (k : Int) (w : World) (h : RS w w.heap.size A l) (hx : RI w w.heap.size B xs) (hc : l.length ≤ c) (hcm : c ≤ maxLen) :
    Calls Try.prog 29 #[.slice A l.length c, .int .i64 kind, .slice B xs.length d, .int .i64 k] w fun e w' => ∃ u, e = .returned u ∧ OwnK hitP w' w.heap.size w'.heap.size u (seekV l kind xs k) ∧ Grow w w' := by
  have HN := Lib.hid (show seekOk l kind xs k = (queryOk l kind xs && treeKind kind && inB k 1 16) from rfl)
  cases hq : queryOk l kind xs
  · rw [seekV_no (by rw [HN.out, hq]; rfl)]
    go_enter Try.func29, Try.ntmps29
    go_wp2_with (go_at_call 56; refine (spec_validQuery _ _ _ _ _ _ _ _ h hx).mono ?_; rintro e w1 ⟨he, g1⟩; rw [hq] at he; subst he)
    go_ret
    exact ⟨_, rfl, OwnK.nil_, g1⟩
  · cases ht : treeKind kind
    · rw [seekV_no (by rw [HN.out, hq, ht]; rfl)]
      go_enter Try.func29, Try.ntmps29
      go_wp2_with (first | (go_at_call 56; refine (spec_validQuery _ _ _ _ _ _ _ _ h hx).mono ?_; rintro e w1 ⟨he, g1⟩; rw [hq] at he; subst he) | (go_at_call 44; refine (spec_isMetric _ _).mono ?_; rintro e w' ⟨he, rfl⟩; rw [ht] at he; subst he))
      go_ret
      exact ⟨_, rfl, OwnK.nil_, g1⟩
    · cases hi : inB k 1 16
      · rw [seekV_no (by rw [HN.out, hi, Bool.and_false])]
        go_enter Try.func29, Try.ntmps29
        go_wp2_with (first | (go_at_call 56; refine (spec_validQuery _ _ _ _ _ _ _ _ h hx).mono ?_; rintro e w1 ⟨he, g1⟩; rw [hq] at he; subst he) | (go_at_call 44; refine (spec_isMetric _ _).mono ?_; rintro e w' ⟨he, rfl⟩; rw [ht] at he; subst he) | (go_at_call 57; refine (spec_inRange _ _ _ _).mono ?_; rintro e w' ⟨he, rfl⟩; rw [hi] at he; subst he))
        go_ret
        exact ⟨_, rfl, OwnK.nil_, g1⟩
      · have hn : seekOk l kind xs k = true := by rw [HN.out, hq, ht, hi]; rfl
        obtain ⟨q1, _, q3⟩ := queryOk_iff.1 hq
        obtain ⟨k1, k2⟩ := inB_iff.1 hi
        rw [seekV_of hn]
        have Q1 := Lib.hid q1
        have Q3 := Lib.hid q3
        obtain ⟨n, rfl⟩ := Int.eq_ofNat_of_zero_le (show 0 ≤ k by omega)
        rw [Int.toNat_natCast]
        clear q1 q3 hn
        obtain ⟨F, hF⟩ : ∃ F, F = (visT kind xs n (treeT l kind) ([], 0)).1 := ⟨_, rfl⟩
        have hF16 : F.length ≤ 16 := by
          have := (vis_ok (kind := kind) (c := xs) (k := n) Q3.out (treeT l kind) ([], 0) 0 0 (fun y hy => store_vecs Q1.out y ((tree_perm kind (Nat.le_refl _)).mem_iff.1 hy)) ⟨fun h hh => by simp at hh, by simp, Int.le_refl _, Int.le_refl _⟩).len
          rw [hF]; omega
        rw [← hF]
        have HF := Lib.hid hF
        clear hF
        go_enter Try.func29, Try.ntmps29
        go_wp2_with (first | (go_at_call 56; refine (spec_validQuery _ _ _ _ _ _ _ _ h hx).mono ?_; rintro e w1 ⟨he, g1⟩; rw [hq] at he; subst he) | (go_at_call 44; refine (spec_isMetric _ _).mono ?_; rintro e w' ⟨he, rfl⟩; rw [ht] at he; subst he) | (go_at_call 57; refine (spec_inRange _ _ _ _).mono ?_; rintro e w' ⟨he, rfl⟩; rw [hi] at he; subst he))
        have gA : Grow w1 (w1.alloc (.cells #[] 78)) := (Below.refl _ _).alloc (Nat.le_refl _) _
        have own0 : OwnK hitP (w1.alloc (.cells #[] 78)) w1.heap.size (w1.alloc (.cells #[] 78)).heap.size (.slice (some ⟨w1.heap.size, 0, none⟩) 0 0) [] := (OwnK.lit (p := hitP) w1).up
        refine (spec_search A c l kind B d xs n _ ((h.grow g1).grow gA) ((hx.grow g1).grow gA) hc hcm Q1.out Q3.out (by omega) (by omega)).mono ?_
        rintro e w2 ⟨sb, a0, a1, a2, a3, a4, v, rfl, hsb, B2, o2, g2⟩
        rw [← HF.out] at o2
        obtain ⟨Av, cv, rfl, _, _, rv⟩ := o2.open_
        have x5 : w2.cell? ⟨sb, 5, none⟩ = some (.slice Av F.length cv) := B2.cell 5
        have own2 := own0.grow g2
        have e2 := g2.size
        have eA := gA.size
        clear B2 own0
        go_wp2_with (at_builtin; go_must (refine wpList_copyK (l := []) (l2 := F) (B := w2.heap.size) hit_in rfl _ _ rfl (by rfl) (by rfl) rfl own2 rv (by omega) (by simp) (by omega) ?_); intro v3 w3 o3 b3 gr3 nb3)
        go_ret
        exact ⟨_, rfl, o3.lower g1.size (Nat.le_refl _), Below.trans ((g1.trans gA).trans g2) (Below.mono b3 g1.size)⟩
set_option maxRecDepth 20000 in
set_option maxHeartbeats 3200000 in
theorem spec_TreeVisits (A : Option Addr) (c : Nat) (l : List It) (kind : Int) (B : Option Addr) (d : Nat) (xs : List Int) (k : Int) (w : World) (h : RS w w.heap.size A l) (hx : RI w w.heap.size B xs) (hc : l.length ≤ c) (hcm : c ≤ maxLen) :
    Calls Try.prog 37 #[.slice A l.length c, .int .i64 kind, .slice B xs.length d, .int .i64 k] w fun e w' => e = .returned (.int .i64 (visitsV l kind xs k)) ∧ Grow w w' := by
  have HN := Lib.hid (show seekOk l kind xs k = (queryOk l kind xs && treeKind kind && inB k 1 16) from rfl)
  cases hq : queryOk l kind xs
  · rw [visitsV_no (by rw [HN.out, hq]; rfl)]
    go_enter Try.func37, Try.ntmps37
    go_wp2_with (go_at_call 56; refine (spec_validQuery _ _ _ _ _ _ _ _ h hx).mono ?_; rintro e w1 ⟨he, g1⟩; rw [hq] at he; subst he)
    go_ret
    exact ⟨rfl, g1⟩
  · cases ht : treeKind kind
    · rw [visitsV_no (by rw [HN.out, hq, ht]; rfl)]
      go_enter Try.func37, Try.ntmps37
      go_wp2_with (first | (go_at_call 56; refine (spec_validQuery _ _ _ _ _ _ _ _ h hx).mono ?_; rintro e w1 ⟨he, g1⟩; rw [hq] at he; subst he) | (go_at_call 44; refine (spec_isMetric _ _).mono ?_; rintro e w' ⟨he, rfl⟩; rw [ht] at he; subst he))
      go_ret
      exact ⟨rfl, g1⟩
    · cases hi : inB k 1 16
      · rw [visitsV_no (by rw [HN.out, hi, Bool.and_false])]
        go_enter Try.func37, Try.ntmps37
        go_wp2_with (first | (go_at_call 56; refine (spec_validQuery _ _ _ _ _ _ _ _ h hx).mono ?_; rintro e w1 ⟨he, g1⟩; rw [hq] at he; subst he) | (go_at_call 44; refine (spec_isMetric _ _).mono ?_; rintro e w' ⟨he, rfl⟩; rw [ht] at he; subst he) | (go_at_call 57; refine (spec_inRange _ _ _ _).mono ?_; rintro e w' ⟨he, rfl⟩; rw [hi] at he; subst he))
        go_ret
        exact ⟨rfl, g1⟩
      · have hn : seekOk l kind xs k = true := by rw [HN.out, hq, ht, hi]; rfl
        obtain ⟨q1, _, q3⟩ := queryOk_iff.1 hq
        obtain ⟨k1, k2⟩ := inB_iff.1 hi
        rw [visitsV_of hn]
        have Q1 := Lib.hid q1
        have Q3 := Lib.hid q3
        obtain ⟨n, rfl⟩ := Int.eq_ofNat_of_zero_le (show 0 ≤ k by omega)
        rw [Int.toNat_natCast]
        clear q1 q3 hn
        obtain ⟨q, hqq⟩ : ∃ q, q = (visT kind xs n (treeT l kind) ([], 0)).2 := ⟨_, rfl⟩
        rw [← hqq]
        have HQQ := Lib.hid hqq
        clear hqq
        go_enter Try.func37, Try.ntmps37
        go_wp2_with (first | (go_at_call 56; refine (spec_validQuery _ _ _ _ _ _ _ _ h hx).mono ?_; rintro e w1 ⟨he, g1⟩; rw [hq] at he; subst he) | (go_at_call 44; refine (spec_isMetric _ _).mono ?_; rintro e w' ⟨he, rfl⟩; rw [ht] at he; subst he) | (go_at_call 57; refine (spec_inRange _ _ _ _).mono ?_; rintro e w' ⟨he, rfl⟩; rw [hi] at he; subst he))
        refine (spec_search A c l kind B d xs n _ (h.grow g1) (hx.grow g1) hc hcm Q1.out Q3.out (by omega) (by omega)).mono ?_
        rintro e w2 ⟨sb, a0, a1, a2, a3, a4, v, rfl, hsb, B2, o2, g2⟩
        rw [← HQQ.out] at B2
        have x6 : w2.cell? ⟨sb, 6, none⟩ = some (.int .i64 q) := B2.cell 6
        clear B2 o2
        go_wp2_with fail
        go_ret
        exact ⟨rfl, g1.trans g2⟩
theorem nearOk_query {l : List It} {kind : Int} {xs : List Int} {k : Int} : nearOk l kind xs k = (queryOk l kind xs && inB k 1 16) := rfl
set_option maxRecDepth 20000 in
set_option maxHeartbeats 1600000 in
theorem impl_TreeNearest (A : Option Addr) (c : Nat) (l : List It) (kind : Int) (B : Option Addr) (d : Nat) (xs : List Int) (k : Int) (w : World) (h : RS w w.heap.size A l) (hx : RI w w.heap.size B xs) (hc : l.length ≤ c) (hcm : c ≤ maxLen) :
    Calls Try.prog 31 #[.slice A l.length c, .int .i64 kind, .slice B xs.length d, .int .i64 k] w fun e w' => ∃ u, e = .returned u ∧ OwnK hitP w' w.heap.size w'.heap.size u (seekV l kind xs k) ∧ Grow w w' := by
  have HN := Lib.hid (show seekOk l kind xs k = (queryOk l kind xs && treeKind kind && inB k 1 16) from rfl)
  cases hn : nearOk l kind xs k
  · have hno : seekOk l kind xs k = false := by
      rw [nearOk_query] at hn
      rw [HN.out]
      revert hn
      cases queryOk l kind xs <;> cases treeKind kind <;> cases inB k 1 16 <;> simp
    rw [seekV_no hno]
    go_enter Try.func31, Try.ntmps31
    go_wp2_with (go_at_call 59; refine (impl_canFind _ _ _ _ _ _ _ _ _ h hx).mono ?_; rintro e w1 ⟨he, g1⟩; rw [hn] at he; subst he)
    go_ret
    exact ⟨_, rfl, OwnK.nil_, g1⟩
  · cases ht : treeKind kind
    · rw [seekV_no (by rw [HN.out, ht, Bool.and_false]; rfl)]
      go_enter Try.func31, Try.ntmps31
      go_wp2_with (first | (go_at_call 59; refine (impl_canFind _ _ _ _ _ _ _ _ _ h hx).mono ?_; rintro e w1 ⟨he, g1⟩; rw [hn] at he; subst he) | (go_at_call 41; refine (impl_isTreeKind _ _).mono ?_; rintro e w' ⟨he, rfl⟩; rw [ht] at he; subst he))
      go_ret
      exact ⟨_, rfl, OwnK.nil_, g1⟩
    · have hq := hn
      rw [nearOk_query, Bool.and_eq_true] at hq
      rw [seek_nearest (by rw [HN.out, hq.1, hq.2, ht]; rfl), nearV_of hn]
      obtain ⟨h1, _, h3, h4, h5⟩ := nearOk_iff.1 hn
      have H1 := Lib.hid h1
      have H3 := Lib.hid h3
      obtain ⟨m, rfl⟩ := Int.eq_ofNat_of_zero_le (show 0 ≤ k by omega)
      rw [Int.toNat_natCast]
      clear h1 h3 hq
      go_enter Try.func31, Try.ntmps31
      go_wp2_with (first | (go_at_call 59; refine (impl_canFind _ _ _ _ _ _ _ _ _ h hx).mono ?_; rintro e w1 ⟨he, g1⟩; rw [hn] at he; subst he) | (go_at_call 41; refine (impl_isTreeKind _ _).mono ?_; rintro e w' ⟨he, rfl⟩; rw [ht] at he; subst he))
      refine (impl_nearest _ _ l kind _ _ xs m w1 (h.grow g1) (hx.grow g1) H1.out H3.out (by omega)).mono ?_; rintro e w2 ⟨u, rfl, o2, g2⟩
      go_wp2_with fail
      go_ret
      exact ⟨_, rfl, o2.lower g1.size (Nat.le_refl _), g1.trans g2⟩
end Go.Proofs.Ytebiaodjodlloaa
