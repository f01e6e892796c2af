/- The nearest items, and the items within a distance: the program's functions. -/
import Derived.Test.YtbbiffaggnllnaaNear
namespace Go.Proofs.Ytbbiffaggnllnaa
set_option linter.unusedVariables false
open Go Go.RowKit

theorem nearV_no {l : List It} {kind : Int} {c : List Int} {k : Int} (h : nearOk l kind c k = false) : nearV l kind c k = [] := by rw [nearV, h]; rfl
theorem nearOk_one (l : List It) (kind : Int) (c : List Int) : nearOk l kind c 1 = queryOk l kind c := by simp [nearOk, inB]
theorem withinV_no {l : List It} {kind : Int} {c : List Int} {m : Int} (h : queryOk l kind c = false) : withinV l kind c m = [] := by rw [withinV, h]; rfl
theorem withinV_neg {l : List It} {kind : Int} {c : List Int} {m : Int} (h : m < 0) : withinV l kind c m = [] := by
  rw [withinV, decide_eq_false (by omega), Bool.and_false]; rfl
theorem impl_Nearest (A : Option Addr) (c : Nat) (l : List It) (kind : Int) (B : Option Addr) (d : Nat) (xs : List Int) (k : Int) (w : World) (h : RS w w.heap.size A l) (hx : RI w w.heap.size B xs) :
    Calls Try.prog 37 #[.slice A l.length c, .int .i64 kind, .slice B xs.length d, .int .i64 k] w fun e w' => ∃ u, e = .returned u ∧ OwnK hitP w' w.heap.size w'.heap.size u (nearV l kind xs k) ∧ Grow w w' := by
  cases hn : nearOk l kind xs k
  · rw [nearV_no hn]
    go_enter Try.func37, Try.ntmps37
    go_wp2_with (go_at_call 89; refine (impl_canFind _ _ _ _ _ _ _ _ _ h hx).mono ?_; rintro e w1 ⟨he, g1⟩; rw [hn] at he; subst he)
    go_ret
    exact ⟨_, rfl, OwnK.nil_, g1⟩
  · obtain ⟨h1, h2, h3, h4, h5⟩ := nearOk_iff.1 hn
    rw [nearV_of hn]
    have H1 := Lib.hid h1
    have H3 := Lib.hid h3
    obtain ⟨m, rfl⟩ := Int.eq_ofNat_of_zero_le (show 0 ≤ k by omega)
    rw [Int.toNat_natCast]
    clear h1 h2 h3
    go_enter Try.func37, Try.ntmps37
    go_wp2_with fail
    refine (impl_canFind _ _ _ _ _ _ _ _ _ h hx).mono ?_; rintro e w1 ⟨he, g1⟩; rw [hn] at he; subst he
    clear hn
    go_wp2_with fail
    refine (impl_nearest _ _ l kind _ _ xs m w1 (h.grow g1) (hx.grow g1) H1.out H3.out (by omega)).mono ?_; rintro e w2 ⟨u, rfl, o2, g2⟩
    go_wp2_with fail
    go_ret
    exact ⟨_, rfl, o2.lower g1.size (Nat.le_refl _), g1.trans g2⟩

theorem within_step {S : List Ht} {n : Nat} {x : Ht} {m : Int} (hx : S[n]? = some x) : (S.take (n + 1)).filter (fun h => decide (h.dist ≤ m)) = (S.take n).filter (fun h => decide (h.dist ≤ m)) ++ (if x.dist ≤ m then [x] else []) := by
  have e : S.take (n + 1) = S.take n ++ [x] := by rw [List.take_add_one, hx]; rfl
  rw [e, List.filter_append]
  by_cases hp : x.dist ≤ m <;> simp [hp]
theorem grown_own {w w' : World} {base n size : Nat} {e : TypeId} {u v : Value} {us : List Value} {α : Type} {p : Pod α} {lo hi : Nat} {l : List α} (h : OwnK p w lo hi v l) (hg : w.grownBy w' u.ownBlock) (hd : ∀ g, u.ownBlock = some g → g < lo ∨ hi ≤ g) : OwnK p w' lo hi v l :=
  h.still fun g hv => hg.block g (h.lt g hv).2 fun e1 => by
    have a := (h.lt g hv).1
    have b := h.top g hv
    have := hd g e1.symm
    omega
set_option maxRecDepth 20000 in
set_option maxHeartbeats 3200000 in
theorem impl_WithinDist (A : Option Addr) (c : Nat) (l : List It) (kind : Int) (B : Option Addr) (d : Nat) (xs : List Int) (most : Int) (w : World) (h : RS w w.heap.size A l) (hx : RI w w.heap.size B xs) :
    Calls Try.prog 32 #[.slice A l.length c, .int .i64 kind, .slice B xs.length d, .int .i64 most] w fun e w' => ∃ u, e = .returned u ∧ OwnK hitP w' w.heap.size w'.heap.size u (withinV l kind xs most) ∧ Grow w w' := by
  have h1k := nearOk_one l kind xs
  cases hq : queryOk l kind xs
  · rw [withinV_no hq]
    rw [hq] at h1k
    go_enter Try.func32, Try.ntmps32
    go_wp2_with (go_at_call 89; refine (impl_canFind _ _ _ _ _ _ _ _ _ h hx).mono ?_; rintro e w1 ⟨he, g1⟩; rw [h1k] at he; subst he)
    go_ret
    exact ⟨_, rfl, OwnK.nil_, g1⟩
  · rw [hq] at h1k
    by_cases hm : most < 0
    · rw [withinV_neg hm]
      go_enter Try.func32, Try.ntmps32
      go_wp2_with (go_at_call 89; refine (impl_canFind _ _ _ _ _ _ _ _ _ h hx).mono ?_; rintro e w1 ⟨he, g1⟩; rw [h1k] at he; subst he)
      go_ret
      exact ⟨_, rfl, OwnK.nil_, g1⟩
    · obtain ⟨q1, q2, q3, q4, _⟩ := nearOk_iff.1 h1k
      have HV := Lib.hid (withinV_of q1 q2 q3 (show 0 ≤ most by omega))
      have H1 := Lib.hid q1
      have H3 := Lib.hid q3
      have hl16 := storeB_len q1
      obtain ⟨S, hS⟩ : ∃ S, S = sortedHits l kind xs := ⟨_, rfl⟩
      have hSl : S.length = l.length := by rw [hS, sortedHits_len]
      have HS := Lib.hid hS
      have HSL := Lib.hid hSl
      have hall : (sortedHits l kind xs).take l.length = S := by rw [hS, List.take_of_length_le (by rw [sortedHits_len]; exact Nat.le_refl _)]
      have HA := Lib.hid hall
      clear hq q1 q2 q3 q4 hS hall hSl
      go_enter Try.func32, Try.ntmps32
      go_wp2_with fail
      refine (impl_canFind _ _ _ _ _ _ _ _ _ h hx).mono ?_; rintro e w2 ⟨he, g2⟩; rw [h1k] at he; subst he
      clear h1k
      go_wp2_with fail
      have g23 : Grow w2 (w2.alloc (.cells #[] 50)) := (Below.refl _ _).alloc (Nat.le_refl _) _
      obtain ⟨w3, hw3⟩ : ∃ w3, w3 = w2.alloc (.cells #[] 50) := ⟨_, rfl⟩
      have own0 : OwnK hitP w3 w2.heap.size w3.heap.size (.slice (some ⟨w2.heap.size, 0, none⟩) 0 0) [] := by rw [hw3]; exact (OwnK.lit (p := hitP) w2).up
      have hb0 : w2.heap.size < w3.heap.size := by rw [hw3]; simp
      rw [← hw3] at g23 ⊢
      clear hw3
      refine (impl_nearest _ _ l kind _ _ xs l.length w3 ((h.grow g2).grow g23) ((hx.grow g2).grow g23) H1.out H3.out (by omega)).mono ?_; rintro e w4 ⟨u, rfl, o4, g4⟩
      rw [HA.out] at o4
      have own4 := own0.grow g4
      obtain ⟨A4, c4, rfl, hc4, _, _⟩ := o4.open_
      have e4 := g4.size
      have hb4 : Below w2.heap.size w2 w4 := (Below.trans g23 (Below.mono g4 g23.size))
      have hSl16 : S.length ≤ 16 := by have := HSL.out; omega
      clear own0 h hx
      go_wp2_with fail
      go_loopw [9, 29] (fun v i wr => ∃ n : Nat, n ≤ S.length ∧ i = .int .i64 n ∧ OwnK hitP wr w2.heap.size wr.heap.size v ((S.take n).filter (fun h => decide (h.dist ≤ most))) ∧ OwnK hitP wr w3.heap.size w4.heap.size (.slice A4 S.length c4) S ∧ (∀ g, v.ownBlock = some g → g < w3.heap.size ∨ w4.heap.size ≤ g) ∧ Below w2.heap.size w2 wr ∧ w4.heap.size ≤ wr.heap.size) (fun _ i _ => S.length - (intOf i).toNat)
      case atStart => exact ⟨0, Nat.zero_le _, rfl, own4.up, o4, fun g hg => .inl (by simp [Value.ownBlock] at hg; omega), hb4, Nat.le_refl _⟩
      case round =>
        clear own4 o4 hb4
        obtain ⟨n, hn, rfl, hown, hS, hap, hb, hsz4⟩ := hrel
        have hsz := hb.size
        have hfl : ((S.take n).filter (fun h => decide (h.dist ≤ most))).length ≤ 16 := Nat.le_trans (List.length_filter_le _ _) (by simp; omega)
        by_cases hlt : n < S.length
        · obtain ⟨ad, x, rfl, had, c0, c1, hk1, hk2, hxn⟩ := hS.rk.hit hlt
          have hl2 : n + 1 ≤ S.length := by omega
          have hst := within_step (m := most) hxn.out
          have hfx := hS.fit x (List.mem_of_getElem? hxn.out)
          obtain ⟨wo, hwo⟩ : ∃ wo, wo = wr.alloc (.cells #[.int .i64 x.key, .int .i64 x.dist] 50) := ⟨_, rfl⟩
          have go : Grow wr wo := by rw [hwo]; exact (Below.refl _ _).alloc (Nat.le_refl _) _
          have ko : Blk wo wr.heap.size 50 #[.int .i64 x.key, .int .i64 x.dist] := by rw [hwo]; exact Blk.new _ _ _
          have hown' := hown.grow go
          have hS' := hS.grow go
          have bo := below_grow hb go hsz
          have so := go.size
          have z0 : wo.cell? ⟨wr.heap.size, 0, none⟩ = some (.int .i64 x.key) := ko.cell 0
          have z1 : wo.cell? ⟨wr.heap.size, 1, none⟩ = some (.int .i64 x.dist) := ko.cell 1
          have so1 : wo.heap.size = wr.heap.size + 1 := by rw [hwo]; simp
          have SO := Lib.hid so1
          have HW := Lib.hid hwo
          clear hwo hown hS so1
          by_cases hle : x.dist ≤ most
          · rw [if_pos hle] at hst
            have HST := Lib.hid hst
            clear hst
            go_wp2_with (at_builtin; go_must (rw [← HW.out]; refine wpList_pushK (y := x) hit_in (by rfl) _ _ (by rfl) (by rfl) (by rw [SO.out]; rfl) (by rfl) hown' bo.size (by omega) hfx ?_); intro v5 w5 o5 b5 gr5 bl5)
            go_roundw
            case rel => exact ⟨n + 1, by omega, by go_num, by rw [HST.out]; exact o5, grown_own (base := 0) (n := 0) (size := 0) (e := 0) (us := []) hS' gr5 hap, fun g hg => by
              rcases bl5 with e | ⟨g', e, hge⟩
              · rw [e] at hg; exact hap g hg
              · rw [e] at hg; injection hg with hg; omega, bo.trans b5, by have := gr5.size; omega⟩
            case measure => simp [intOf]; omega
          · rw [if_neg hle, List.append_nil] at hst
            have HST := Lib.hid hst
            clear hst
            go_wp2_with fail
            rw [← HW.out]
            clear HW c0 c1
            go_wp2_with fail
            go_roundw
            case rel => exact ⟨n + 1, by omega, by go_num, by rw [HST.out]; exact hown'.up, hS', hap, bo, by omega⟩
            case measure => simp [intOf]; omega
        · obtain rfl : n = S.length := by omega
          rw [List.take_length] at hown
          go_wp2_with fail
          go_ret
          rw [HV.out, ← HS.out]
          exact ⟨_, rfl, hown.lower g2.size (Nat.le_refl _), g2.trans hb⟩
end Go.Proofs.Ytbbiffaggnllnaa
