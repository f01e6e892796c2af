/- Searches in trees: how many nodes the program's search looks at. -/
import Derived.Test.YtebiaodjodlloaaTreeV
import Derived.Laws.EntriesVeiled
namespace Go.Proofs.Ytebiaodjodlloaa
set_option linter.unusedVariables false
open Go Go.RowKit

theorem look_none {nb S cn : Nat} {An : Option Addr} {a1 a2 a3 a4 a5 a6 a7 a8 : Option Addr} {i : Nat} (w : World) (hn : w.cell? ⟨nb, 0, none⟩ = some (.slice An S cn)) (hi : S ≤ i) :
    Calls Try.prog 63 #[.int .i64 i, .pointer (some ⟨nb, 0, none⟩), .pointer a1, .pointer a2, .pointer a3, .pointer a4, .pointer a5, .pointer a6, .pointer a7, .pointer a8] w fun e w' => e = .returned (.tuple #[]) ∧ w = w' := by
  have h1 : ¬ ((i : Int) < 0) := by omega
  have h2 : (S : Int) ≤ (i : Int) := by omega
  go_enter Try.func63, Try.ntmps63
  go_wp2_with fail
  first | go_end0 | ((try simp only [Exit.inBlock, Exit.then]); refine bodyPost_ret (results_none rfl _ _ _) rfl ?_)
  exact ⟨rfl, rfl⟩
set_option maxRecDepth 20000 in
set_option maxHeartbeats 3200000 in
theorem impl_TreeVisits (A : Option Addr) (c : Nat) (l : List It) (kind : Int) (B : Option Addr) (d : Nat) (xs : List Int) (k : Int) (w : World) (h : RS w w.heap.size A l) (hx : RI w w.heap.size B xs) (hc : l.length ≤ c) (hcm : c ≤ maxLen) :
    Calls Try.prog 38 #[.slice A l.length c, .int .i64 kind, .slice B xs.length d, .int .i64 k] w fun e w' => e = .returned (.int .i64 (visitsV l kind xs k)) ∧ Grow w w' := by
  have HN := Lib.hid (show seekOk l kind xs k = (queryOk l kind xs && treeKind kind && inB k 1 16) from rfl)
  obtain ⟨w0, hw0⟩ : ∃ w0, w0 = (((w.alloc (.cells #[.slice A l.length c] 23)).alloc (.cells #[.int .i64 kind] 3)).alloc (.cells #[.slice B xs.length d] 41)).alloc (.cells #[.int .i64 k] 3) := ⟨_, rfl⟩
  have b0 : Blk w0 w.heap.size 23 #[.slice A l.length c] := by rw [hw0]; exact (((Blk.new w _ _).alloc _).alloc _).alloc _
  have b1 : Blk w0 (w.heap.size + 1) 3 #[.int .i64 kind] := by
    rw [hw0]
    have := ((Blk.new (w.alloc (.cells #[.slice A l.length c] 23)) 3 #[.int .i64 kind]).alloc (.cells #[.slice B xs.length d] 41)).alloc (.cells #[.int .i64 k] 3)
    simpa only [World.size_alloc] using this
  have b2 : Blk w0 (w.heap.size + 1 + 1) 41 #[.slice B xs.length d] := by
    rw [hw0]
    have := (Blk.new ((w.alloc (.cells #[.slice A l.length c] 23)).alloc (.cells #[.int .i64 kind] 3)) 41 #[.slice B xs.length d]).alloc (.cells #[.int .i64 k] 3)
    simpa only [World.size_alloc] using this
  have b3 : Blk w0 (w.heap.size + 1 + 1 + 1) 3 #[.int .i64 k] := by
    rw [hw0]
    have := Blk.new (((w.alloc (.cells #[.slice A l.length c] 23)).alloc (.cells #[.int .i64 kind] 3)).alloc (.cells #[.slice B xs.length d] 41)) 3 #[.int .i64 k]
    simpa only [World.size_alloc] using this
  have g0 : Grow w w0 := by rw [hw0]; exact ((((Below.refl _ _).alloc (Nat.le_refl _) _).alloc (by simp) _).alloc (by simp; omega) _).alloc (by simp; omega) _
  have e0 : w0.heap.size = w.heap.size + 4 := by rw [hw0]; simp
  have h0 := h.grow g0
  have hx0 := hx.grow g0
  have c0 : w0.cell? ⟨w.heap.size, 0, none⟩ = some (.slice A l.length c) := b0.cell 0
  have c1 : w0.cell? ⟨w.heap.size + 1, 0, none⟩ = some (.int .i64 kind) := b1.cell 0
  have c2 : w0.cell? ⟨w.heap.size + 1 + 1, 0, none⟩ = some (.slice B xs.length d) := b2.cell 0
  have c3 : w0.cell? ⟨w.heap.size + 1 + 1 + 1, 0, none⟩ = some (.int .i64 k) := b3.cell 0
  have E0 := Lib.hid e0
  have HW0 := Lib.hid hw0
  clear hw0 e0
  cases hn : nearOk l kind xs k
  · have hno : seekOk l kind xs k = false := by
      rw [nearOk_query] at hn
      rw [HN.out]
      revert hn
      cases queryOk l kind xs <;> cases treeKind kind <;> cases inB k 1 16 <;> simp
    rw [visitsV_no hno]
    go_enter Try.func38, Try.ntmps38
    go_upto_region 1 with fail
    rw [← HW0.out]
    go_wp2_with fail
    refine (impl_canFind _ _ _ _ _ _ _ _ _ h0 hx0).mono ?_; rintro e w1 ⟨he, g1⟩; rw [hn] at he; subst he
    go_wp2_with fail
    go_ret
    exact ⟨rfl, g0.trans g1⟩
  · cases ht : treeKind kind
    · rw [visitsV_no (by rw [HN.out, ht, Bool.and_false]; rfl)]
      go_enter Try.func38, Try.ntmps38
      go_upto_region 1 with fail
      rw [← HW0.out]
      go_wp2_with fail
      refine (impl_canFind _ _ _ _ _ _ _ _ _ h0 hx0).mono ?_; rintro e w1 ⟨he, g1⟩; rw [hn] at he; subst he
      have d1 : w1.cell? ⟨w.heap.size + 1, 0, none⟩ = some (.int .i64 kind) := (g1.cell (p := ⟨w.heap.size + 1, 0, none⟩) b1.lt).trans c1
      go_wp2_with fail
      refine (impl_isTreeKind _ _).mono ?_; rintro e w' ⟨he, rfl⟩; rw [ht] at he; subst he
      go_wp2_with fail
      go_ret
      exact ⟨rfl, g0.trans g1⟩
    · have hq := hn
      rw [nearOk_query, Bool.and_eq_true] at hq
      rw [visitsV_of (by rw [HN.out, hq.1, hq.2, ht]; rfl)]
      obtain ⟨h1, _, h3, h4, h5⟩ := nearOk_iff.1 hn
      have hl := storeB_len h1
      have hkd := (storeB_asc h1).keysD
      have hvl := store_vecs h1
      have H1 := Lib.hid h1
      have H3 := Lib.hid h3
      obtain ⟨m, rfl⟩ := Int.eq_ofNat_of_zero_le (show 0 ≤ k by omega)
      rw [Int.toNat_natCast]
      obtain ⟨q, hqq⟩ : ∃ q, q = (visT kind xs m (treeT l kind) ([], 0)).2 := ⟨_, rfl⟩
      rw [← hqq]
      have HQQ := Lib.hid hqq
      clear h1 h3 hq hqq
      go_enter Try.func38, Try.ntmps38
      go_upto_region 1 with fail
      rw [← HW0.out]
      go_wp2_with fail
      refine (impl_canFind _ _ _ _ _ _ _ _ _ h0 hx0).mono ?_; rintro e w1 ⟨he, g1⟩; rw [hn] at he; subst he
      have d0 : w1.cell? ⟨w.heap.size, 0, none⟩ = some (.slice A l.length c) := (g1.cell (p := ⟨w.heap.size, 0, none⟩) b0.lt).trans c0
      have d1 : w1.cell? ⟨w.heap.size + 1, 0, none⟩ = some (.int .i64 kind) := (g1.cell (p := ⟨w.heap.size + 1, 0, none⟩) b1.lt).trans c1
      go_wp2_with fail
      refine (impl_isTreeKind _ _).mono ?_; rintro e w' ⟨he, rfl⟩; rw [ht] at he; subst he
      go_wp2_with fail
      refine (impl_buildTree A c l kind w1 (h0.grow g1) hc hcm (by omega) hkd hvl).mono ?_; rintro e w2 ⟨u, rfl, o2, g2⟩
      obtain ⟨S, hS⟩ : ∃ S, S = (treeT l kind).nodes 0 := ⟨_, rfl⟩
      rw [← hS] at o2
      obtain ⟨An, cn, rfl, _, _, rn⟩ := o2.open_
      have g02 := g1.trans g2
      have e02 := g02.size
      obtain ⟨N, hN⟩ : ∃ N, N = w2.heap.size := ⟨_, rfl⟩
      obtain ⟨w3, hw3⟩ : ∃ w3, w3 = w2.alloc (.cells #[.slice An S.length cn] 26) := ⟨_, rfl⟩
      obtain ⟨w4, hw4⟩ : ∃ w4, w4 = w3.alloc (.cells #[] 78) := ⟨_, rfl⟩
      obtain ⟨w5, hw5⟩ : ∃ w5, w5 = w4.alloc (.cells #[.slice (some ⟨w3.heap.size, 0, none⟩) 0 0] 50) := ⟨_, rfl⟩
      obtain ⟨w6, hw6⟩ : ∃ w6, w6 = w5.alloc (.cells #[.int .i64 0] 3) := ⟨_, rfl⟩
      obtain ⟨w7, hw7⟩ : ∃ w7, w7 = w6.alloc (.cells #[.func (.func 62) #[] #[.pointer (some ⟨w4.heap.size, 0, none⟩), .pointer (some ⟨w.heap.size + 1 + 1 + 1, 0, none⟩)]] 79) := ⟨_, rfl⟩
      obtain ⟨w8, hw8⟩ : ∃ w8, w8 = w7.alloc (.cells #[.func (.func 63) #[] #[.pointer (some ⟨w2.heap.size, 0, none⟩), .pointer (some ⟨w5.heap.size, 0, none⟩), .pointer (some ⟨w.heap.size + 1, 0, none⟩), .pointer (some ⟨w.heap.size, 0, none⟩), .pointer (some ⟨w.heap.size + 1 + 1, 0, none⟩), .pointer (some ⟨w4.heap.size, 0, none⟩), .pointer (some ⟨w.heap.size + 1 + 1 + 1, 0, none⟩), .pointer (some ⟨w7.heap.size, 0, none⟩), .pointer (some ⟨w6.heap.size, 0, none⟩)]] 80) := ⟨_, rfl⟩
      have n3 : w3.heap.size = w2.heap.size + 1 := by rw [hw3]; simp
      have n4 : w4.heap.size = w3.heap.size + 1 := by rw [hw4]; simp
      have n5 : w5.heap.size = w4.heap.size + 1 := by rw [hw5]; simp
      have n6 : w6.heap.size = w5.heap.size + 1 := by rw [hw6]; simp
      have n7 : w7.heap.size = w6.heap.size + 1 := by rw [hw7]; simp
      have n8 : w8.heap.size = w7.heap.size + 1 := by rw [hw8]; simp
      have g3 : Grow w2 w3 := by rw [hw3]; exact (Below.refl _ _).alloc (Nat.le_refl _) _
      have g4 : Grow w3 w4 := by rw [hw4]; exact (Below.refl _ _).alloc (Nat.le_refl _) _
      have g5 : Grow w4 w5 := by rw [hw5]; exact (Below.refl _ _).alloc (Nat.le_refl _) _
      have g6 : Grow w5 w6 := by rw [hw6]; exact (Below.refl _ _).alloc (Nat.le_refl _) _
      have g7 : Grow w6 w7 := by rw [hw7]; exact (Below.refl _ _).alloc (Nat.le_refl _) _
      have g8 : Grow w7 w8 := by rw [hw8]; exact (Below.refl _ _).alloc (Nat.le_refl _) _
      have k3 : Blk w3 w2.heap.size 26 #[.slice An S.length cn] := by rw [hw3]; exact Blk.new _ _ _
      have k5 : Blk w5 w4.heap.size 50 #[.slice (some ⟨w3.heap.size, 0, none⟩) 0 0] := by rw [hw5]; exact Blk.new _ _ _
      have k6 : Blk w6 w5.heap.size 3 #[.int .i64 0] := by rw [hw6]; exact Blk.new _ _ _
      have k7 : Blk w7 w6.heap.size 79 #[.func (.func 62) #[] #[.pointer (some ⟨w4.heap.size, 0, none⟩), .pointer (some ⟨w.heap.size + 1 + 1 + 1, 0, none⟩)]] := by rw [hw7]; exact Blk.new _ _ _
      have k8 : Blk w8 w7.heap.size 80 #[.func (.func 63) #[] #[.pointer (some ⟨w2.heap.size, 0, none⟩), .pointer (some ⟨w5.heap.size, 0, none⟩), .pointer (some ⟨w.heap.size + 1, 0, none⟩), .pointer (some ⟨w.heap.size, 0, none⟩), .pointer (some ⟨w.heap.size + 1 + 1, 0, none⟩), .pointer (some ⟨w4.heap.size, 0, none⟩), .pointer (some ⟨w.heap.size + 1 + 1 + 1, 0, none⟩), .pointer (some ⟨w7.heap.size, 0, none⟩), .pointer (some ⟨w6.heap.size, 0, none⟩)]] := by rw [hw8]; exact Blk.new _ _ _
      have ow4 : OwnK hitP w4 w3.heap.size w4.heap.size (.slice (some ⟨w3.heap.size, 0, none⟩) 0 0) [] := by rw [hw4]; exact (OwnK.lit (p := hitP) w3).up
      have g58 : Grow w5 w8 := ((g6.trans g7).trans g8)
      have g28 : Grow w2 w8 := ((g3.trans g4).trans g5).trans g58
      have g08 : Grow w0 w8 := g02.trans g28
      have hE0 := E0.out
      have env : LkEnv kind xs m l S w2.heap.size w3.heap.size w4.heap.size w5.heap.size w6.heap.size w7.heap.size w.heap.size (w.heap.size + 1) (w.heap.size + 1 + 1) (w.heap.size + 1 + 1 + 1) w8.heap.size A An B c cn d w8 :=
        ⟨⟨by omega, by omega, by omega, by omega, by omega, by omega, by omega, by omega, by omega, by omega⟩, Nat.le_refl _,
          (k3.below (((g4.trans g5).trans g58)) k3.lt).cell 0, (b1.below g08 b1.lt).cell 0, (b0.below g08 b0.lt).cell 0, (b2.below g08 b2.lt).cell 0, (b3.below g08 b3.lt).cell 0, k8.cell 0, (k7.below g8 k7.lt).cell 0,
          ((h0.grow g02).keep g28), rn.below g28, ((hx0.grow g02).below g28)⟩
      have hob : ∀ g, (Value.slice (some ⟨w3.heap.size, 0, none⟩) 0 0).ownBlock = some g → g = w3.heap.size := fun g e => by
        have e' : some w3.heap.size = some g := e
        injection e' with e'
        exact e'.symm
      have ow8 : OwnK hitP w8 w3.heap.size w8.heap.size (.slice (some ⟨w3.heap.size, 0, none⟩) 0 0) [] := ((ow4.grow g5).grow g58).up
      have Bv8 := k6.below (g7.trans g8) k6.lt
      have Bf8 := k5.below g58 k5.lt
      have hsz : (treeT l kind).size = l.length := by rw [treeT, tree_size kind (Nat.le_refl _)]
      have hlay := lay_all (treeT l kind)
      rw [← hS] at hlay
      have hpm : (treeT l kind).items.Perm l := tree_perm kind (Nat.le_refl _)
      have hok : VOk m (([] : List Ht), 0) 0 (1000 - ((treeT l kind).size : Int)) := ⟨fun h hh => by simp at hh, by simp, Int.le_refl _, by rw [hsz]; simp only; omega⟩
      have SV := impl_look (k := m) hvl H3.out hkd (by omega) (by omega) (treeT l kind) _ 0 _ [] 0 _ w8 hlay (fun y hy => hpm.mem_iff.1 hy) (hkd.perm hpm) ⟨List.Pairwise.nil, fun h hh => by simp at hh⟩ env Bv8 Bf8 ow8 (fun g hg => .inl (hob g hg)) hok
      have y8 := env.cf
      have yn : w8.cell? ⟨w2.heap.size, 0, none⟩ = some (.slice An S.length cn) := env.cn_
      have yv : w8.cell? ⟨w5.heap.size, 0, none⟩ = some (.int .i64 0) := Bv8.cell 0
      have hSl : S.length = l.length := by rw [hS, nodes_len, hsz]
      have HSL := Lib.hid hSl
      have hw8' : w8 = ((((((w2.alloc (.cells #[.slice An S.length cn] 26)).alloc (.cells #[] 78)).alloc (.cells #[.slice (some ⟨w2.heap.size + 1, 0, none⟩) 0 0] 50)).alloc (.cells #[.int .i64 0] 3)).alloc (.cells #[.func (.func 62) #[] #[.pointer (some ⟨w2.heap.size + 1 + 1, 0, none⟩), .pointer (some ⟨w.heap.size + 1 + 1 + 1, 0, none⟩)]] 79)).alloc
          (.cells #[.func (.func 63) #[] #[.pointer (some ⟨w2.heap.size, 0, none⟩), .pointer (some ⟨w2.heap.size + 1 + 1 + 1, 0, none⟩), .pointer (some ⟨w.heap.size + 1, 0, none⟩), .pointer (some ⟨w.heap.size, 0, none⟩), .pointer (some ⟨w.heap.size + 1 + 1, 0, none⟩), .pointer (some ⟨w2.heap.size + 1 + 1, 0, none⟩), .pointer (some ⟨w.heap.size + 1 + 1 + 1, 0, none⟩), .pointer (some ⟨w2.heap.size + 1 + 1 + 1 + 1 + 1, 0, none⟩), .pointer (some ⟨w2.heap.size + 1 + 1 + 1 + 1, 0, none⟩)]] 80)) := by
        rw [hw8, hw7, hw6, hw5, hw4, hw3]
        simp only [World.size_alloc]
      have m3 : w3.heap.size = w2.heap.size + 1 := n3
      have m4 : w4.heap.size = w2.heap.size + 1 + 1 := by omega
      have m5 : w5.heap.size = w2.heap.size + 1 + 1 + 1 := by omega
      have m6 : w6.heap.size = w2.heap.size + 1 + 1 + 1 + 1 := by omega
      have m7 : w7.heap.size = w2.heap.size + 1 + 1 + 1 + 1 + 1 := by omega
      have m8 : w2.heap.size + 1 + 1 + 1 + 1 + 1 < w8.heap.size := by omega
      have hb8 : w.heap.size ≤ w2.heap.size := by omega
      simp only [m3, m4, m5, m6, m7] at SV y8 yv
      have HW8 := Lib.hid hw8'
      have HS := Lib.hid hS
      have G08 : Grow w w8 := g0.trans g08
      have SN := look_none (a1 := some ⟨w2.heap.size + 1 + 1 + 1, 0, none⟩) (a2 := some ⟨w.heap.size + 1, 0, none⟩) (a3 := some ⟨w.heap.size, 0, none⟩) (a4 := some ⟨w.heap.size + 1 + 1, 0, none⟩) (a5 := some ⟨w2.heap.size + 1 + 1, 0, none⟩) (a6 := some ⟨w.heap.size + 1 + 1 + 1, 0, none⟩) (a7 := some ⟨w2.heap.size + 1 + 1 + 1 + 1 + 1, 0, none⟩) (a8 := some ⟨w2.heap.size + 1 + 1 + 1 + 1, 0, none⟩) (i := 0) w8 yn
      clear hN hw3 hw4 hw5 hw6 hw7 hw8 hw8' n3 n4 n5 n6 n7 n8 m3 m4 m5 m6 m7 hS hSl hlay k3 k5 k6 k7 k8 hob hE0 env ow4 ow8 Bv8 Bf8 b0 b1 b2 b3 c0 c1 c2 c3 d0 d1
      by_cases hl0 : l.length = 0
      · have HL0 := Lib.hid hl0
        clear SV hl0
        go_upto_region 9 with fail
        rw [← HW8.out]
        go_wp2_with fail
        refine (SN (by rw [HSL.out, HL0.out]; exact Nat.le_refl _)).mono ?_; rintro e w9 ⟨rfl, rfl⟩
        go_wp2_with fail
        go_ret
        refine ⟨?_, G08⟩
        have hl : l = [] := List.eq_nil_of_length_eq_zero HL0.out
        rw [HQQ.out, hl]
        rfl
      · have hix : (treeT l kind).ix 0 = 0 := by rw [treeT, tree_ix kind (Nat.le_refl _), if_neg hl0]
        rw [hix, ← HQQ.out] at SV
        have HL0 := Lib.hid hl0
        clear SN hl0 hix
        go_upto_region 9 with fail
        rw [← HW8.out]
        go_wp2_with fail
        refine SV.mono ?_; rintro e w9 ⟨rfl, v9, Bv9, Bf9, o9, F9, _⟩
        have yv9 : w9.cell? ⟨w2.heap.size + 1 + 1 + 1, 0, none⟩ = some (.int .i64 q) := Bv9.cell 0
        go_wp2_with fail
        go_ret
        refine ⟨rfl, Below.trans G08 (F9.below (B := w.heap.size) (by omega) (fun z hz hx => ?_))⟩
        rcases hx with hx | hx | hx
        · have hx' : z = w2.heap.size + 1 + 1 := hx; omega
        · have hx' : z = w2.heap.size + 1 + 1 + 1 := hx; omega
        · have hx' : some (w2.heap.size + 1) = some z := hx
          injection hx' with hx'
          omega
end Go.Proofs.Ytebiaodjodlloaa
