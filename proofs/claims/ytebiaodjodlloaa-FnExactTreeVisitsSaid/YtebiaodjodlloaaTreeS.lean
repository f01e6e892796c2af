/- Searches in trees: the reference's search, walked. -/
import Derived.Test.YtebiaodjodlloaaTreeJ
import Derived.Test.YtebiaodjodlloaaPlainK
import Derived.Test.YtebiaodjodlloaaIdx
import Derived.Test.YtebiaodjodlloaaNear4
import Derived.Test.YtebiaodjodlloaaFrom
import Derived.StillTailTactics
namespace Go.Proofs.Ytebiaodjodlloaa
set_option linter.unusedVariables false
open Go Go.RowKit

theorem spec_keyAt_fix (A : Option Addr) (c : Nat) (l : List It) (x : It) (n : Nat) (w : World) (h : RS w w.heap.size A l) (hkd : KeysD l) (hn : l[n]? = some x) :
    Calls Try.prog 99 #[.slice A l.length c, .int .i64 x.key] w fun e w' => e = .returned (.int .i64 n) ∧ Grow w w' := by
  refine (spec_keyAt A c l x.key w h).mono ?_
  rintro e w' ⟨i, rfl, hat, g⟩
  rcases hat with ⟨h0, _⟩ | ⟨_, n', rfl, hlt, hk, _⟩
  · rw [hasK_iff.2 ⟨x, List.mem_of_getElem? hn, rfl⟩] at h0; cases h0
  · have hn' := List.getElem?_eq_getElem hlt
    rw [itI_of hn'] at hk
    rw [keysD_ix hkd hn' hn hk]
    exact ⟨rfl, g⟩
set_option maxRecDepth 20000 in
theorem spec_reach {sb k lo hi : Nat} {a0 a1 a2 a3 v a6 : Value} {F : List Ht} (w : World) (hb : Blk w sb 72 #[a0, a1, a2, a3, .int .i64 k, v, a6]) (ho : OwnK hitP w lo hi v F) (hk : 0 < k) (hk2 : k ≤ 1000) (hF : F.length ≤ 1000) :
    Calls Try.prog 101 #[.pointer (some ⟨sb, 0, none⟩)] w fun e w' => e = .returned (.int .i64 (reachV F k)) ∧ Grow w w' := by
  obtain ⟨A, c, rfl, hc, hm, _⟩ := ho.open_
  have c4 : w.cell? ⟨sb, 4, none⟩ = some (.int .i64 k) := hb.cell 4
  have c5 : w.cell? ⟨sb, 5, none⟩ = some (.slice A F.length c) := hb.cell 5
  by_cases hlt : F.length < k
  · have hr : reachV F k = 1000000 := if_pos hlt
    rw [hr]
    have hi : (F.length : Int) < (k : Int) := by omega
    have d5 : ∀ s : From w, s.w.cell? ⟨sb, 5, none⟩ = some (.slice A F.length c) := fun s => (s.cell hb.lt).trans c5
    have d4 : ∀ s : From w, s.w.cell? ⟨sb, 4, none⟩ = some (.int .i64 k) := fun s => (s.cell hb.lt).trans c4
    go_enter Try.func101, Try.ntmps101
    go_wp2_with fail
    refine wp_region_from (by kernel_rfl) (by kernel_rfl) ?_
    repeat (go_big_quiet_step (fail))
    refine wpQuiet_nil ?_
    intro w1 g1
    go_wp2_with fail
    go_ret
    exact ⟨rfl, g1⟩
  · obtain ⟨j, hj⟩ : ∃ j, F.length = j + 1 := ⟨F.length - 1, by omega⟩
    obtain ⟨ad, h, rfl, had, z0, z1, _, _, hh⟩ := ho.rk.hit (i := j) (by omega)
    have hr : reachV F k = h.dist := by unfold reachV; rw [if_neg hlt, hj, Nat.add_sub_cancel, hh.out]; rfl
    rw [hr]
    have hi : ¬ ((F.length : Int) < (k : Int)) := by omega
    have i1 : (F.length : Int) - 1 = (j : Int) := by omega
    have i2 : IntKind.i64.wrap (j : Int) = (j : Int) := by rw [IntKind.wrap_i64]; omega
    have i3 : (j : Int) < (F.length : Int) := by omega
    have i4 : (0 : Int) ≤ (j : Int) := by omega
    have HJ := Lib.hid hj
    have d5 : ∀ s : From w, s.w.cell? ⟨sb, 5, none⟩ = some (.slice (some ad) F.length c) := fun s => (s.cell hb.lt).trans c5
    have d4 : ∀ s : From w, s.w.cell? ⟨sb, 4, none⟩ = some (.int .i64 k) := fun s => (s.cell hb.lt).trans c4
    have z1' : ∀ s : From w, s.w.cell? ⟨(ad.add (j * 2)).block, (ad.add (j * 2)).off + 1, none⟩ = some (.int .i64 h.dist) := fun s => (s.cell (by show (ad.add (j * 2)).block < w.heap.size; rw [block_of_add]; exact had)).trans z1
    clear hj hlt hr
    go_enter Try.func101, Try.ntmps101
    go_wp2_with fail
    refine wp_region_from (by kernel_rfl) (by kernel_rfl) ?_
    repeat (go_big_quiet_step (fail))
    refine wpQuiet_nil ?_
    intro w1 g1
    have e5 : ∀ s : From w1, s.w.cell? ⟨sb, 5, none⟩ = some (.slice (some ad) F.length c) := fun s => d5 ⟨s.w, g1.trans s.g⟩
    have e1 : ∀ s : From w1, s.w.cell? ⟨(ad.add (j * 2)).block, (ad.add (j * 2)).off + 1, none⟩ = some (.int .i64 h.dist) := fun s => z1' ⟨s.w, g1.trans s.g⟩
    clear d5 d4 z1' c5 c4 z0 z1
    go_wp2_with fail
    refine wp_region_from (by kernel_rfl) (by kernel_rfl) ?_
    repeat (go_big_quiet_step (fail))
    refine wpQuiet_nil ?_
    intro w2 g2
    go_wp2_with fail
    go_ret
    exact ⟨rfl, g1.trans g2⟩

/-- What the search reads. -/
structure SkEnv (xs : List Int) (l : List It) (S : List Nd) (sb : Nat) (A An B : Option Addr) (w : World) : Prop where
  rs : RS w sb A l
  rk : RK nodeP w sb An S
  ri : RI w sb B xs
def XS (sb : Nat) (k : Nat) : Prop := k = sb
theorem SkEnv.fr {xs : List Int} {l : List It} {S : List Nd} {sb s : Nat} {A An B : Option Addr} {w w' : World} (h : SkEnv xs l S sb A An B w) (hf : FrB s (XS sb) w w') (hs : sb ≤ s) : SkEnv xs l S sb A An B w' :=
  have hb : Below sb w w' := hf.below hs fun k hk hx => by have hx' : k = sb := hx; omega
  ⟨h.rs.keep hb, h.rk.below hb, h.ri.below hb⟩
def Sought (kind : Int) (xs : List Int) (k : Nat) (l : List It) (S : List Nd) (sb : Nat) (A An B : Option Addr) (c cn d : Nat) (t : Tr) : Prop := ∀ (i : Int) (b e : Nat) (F : List Ht) (m : Int) (v : Value) (w : World),
  Lay S t i b e → (∀ y ∈ t.items, y ∈ l) → SkEnv xs l S sb A An B w →
  Blk w sb 72 #[.slice An S.length cn, .slice A l.length c, .int .i64 kind, .slice B xs.length d, .int .i64 k, v, .int .i64 m] →
  OwnK hitP w (sb + 1) w.heap.size v F → VOk k (F, m) 0 (1000 - t.size) →
  Calls Try.prog 81 #[.pointer (some ⟨sb, 0, none⟩), .int .i64 i] w fun e w' => e = .returned (.tuple #[]) ∧ ∃ v',
    Blk w' sb 72 #[.slice An S.length cn, .slice A l.length c, .int .i64 kind, .slice B xs.length d, .int .i64 k, v', .int .i64 (visT kind xs k t (F, m)).2] ∧
    OwnK hitP w' (sb + 1) w'.heap.size v' (visT kind xs k t (F, m)).1 ∧ FrB w.heap.size (XS sb) w w'

set_option maxRecDepth 20000 in
set_option maxHeartbeats 3200000 in
theorem seen_node {kind : Int} {xs : List Int} {k : Nat} {l : List It} {S : List Nd} {sb : Nat} {A An B : Option Addr} {c cn d : Nat} (hvl : ∀ y ∈ l, vecB y.pt 4 = true) (hvx : vecB xs 4 = true) (hkd : KeysD l) (hk : 0 < k) (hk16 : k ≤ 16) (x : It) (r : Int) (tn tf : Tr)
    (ihn : Sought kind xs k l S sb A An B c cn d tn) (ihf : Sought kind xs k l S sb A An B c cn d tf) : Sought kind xs k l S sb A An B c cn d (.node x r tn tf) := by
  intro i b e F m v w hlay hit henv hB ho hok
  obtain ⟨near, far, mm, rfl, hS, hln, hlf⟩ : ∃ near far mm, i = (b : Int) ∧ S[b]? = some ⟨x.key, r, near, far⟩ ∧ Lay S tn near (b + 1) mm ∧ Lay S tf far mm e := by
    cases hlay with
    | node _ _ near far _ _ _ mm _ h1 h2 h3 => exact ⟨near, far, mm, rfl, h1, h2, h3⟩
  have hsz : (((Tr.node x r tn tf).size : Nat) : Int) = tn.size + tf.size + 1 := by simp [Tr.size]
  have hlo : 0 ≤ m := hok.lo
  have hhi : m ≤ 1000 - ((Tr.node x r tn tf).size : Int) := hok.hi
  have hFl : F.length ≤ k := hok.len
  have hdb : DB F := hok.db
  have hxl : x ∈ l := hit x (by simp [Tr.items])
  have hitn : ∀ y ∈ tn.items, y ∈ l := fun y hy => hit y (by simp [Tr.items, hy])
  have hitf : ∀ y ∈ tf.items, y ∈ l := fun y hy => hit y (by simp [Tr.items, hy])
  have hvis := vis_node kind xs k x r tn tf F m
  obtain ⟨dd, hdd⟩ : ∃ dd, dd = distL kind x.pt xs 4 := ⟨_, rfl⟩
  have hbd : 0 ≤ dd ∧ dd ≤ 160000 := by rw [hdd]; exact distL_bd kind (hvl x hxl) hvx
  have hho : hitOf kind xs x = ⟨x.key, dd⟩ := by rw [hdd]; rfl
  rw [← hdd, hho] at hvis
  obtain ⟨F1, hF1⟩ : ∃ F1, F1 = addH F ⟨x.key, dd⟩ k := ⟨_, rfl⟩
  rw [← hF1] at hvis
  have hok1 : VOk k (F1, m + 1) 0 (1000 - (tn.size + tf.size : Int)) := ⟨by rw [hF1]; exact addH_db hdb hbd, by rw [hF1]; exact addH_len _ _ _, (by show 0 ≤ m + 1; omega), (by show m + 1 ≤ _; omega)⟩
  have hokn := vis_ok (kind := kind) (c := xs) hvx tn (F1, m + 1) 0 (1000 - (tn.size + tf.size : Int)) (fun y hy => hvl y (hitn y hy)) hok1
  have hokf := vis_ok (kind := kind) (c := xs) hvx tf (F1, m + 1) 0 (1000 - (tn.size + tf.size : Int)) (fun y hy => hvl y (hitf y hy)) hok1
  obtain ⟨sn, hsn⟩ : ∃ s, s = visT kind xs k tn (F1, m + 1) := ⟨_, rfl⟩
  obtain ⟨sf, hsf⟩ : ∃ s, s = visT kind xs k tf (F1, m + 1) := ⟨_, rfl⟩
  rw [← hsn] at hokn hvis
  rw [← hsf] at hokf hvis
  have HV := Lib.hid hvis
  have HSN := Lib.hid hsn
  have HSF := Lib.hid hsf
  have HF1 := Lib.hid hF1
  clear hvis hsn hsf
  obtain ⟨n, hn⟩ := List.getElem?_of_mem hxl
  have hnl := (List.getElem?_eq_some_iff.1 hn).1
  have hSl := henv.rk.len
  have hbl := (List.getElem?_eq_some_iff.1 hS).1
  obtain ⟨ad, nd, rfl, had, c_0, c_1, c_2, c_3, _, hnd⟩ := henv.rk.nd hbl
  have hnd' := hnd.out
  rw [hS] at hnd'
  injection hnd' with hnd'
  subst hnd'
  obtain ⟨ld, Ax, cx, x', rfl, hld, _, l1, _, _, _, rx, _, _, hx'⟩ := henv.rs.at_ hnl
  have hx'' := hx'.out
  rw [hn] at hx''
  injection hx'' with hx''
  subst hx''
  simp only at c_0 c_1 c_2 c_3
  obtain ⟨w1, hw1⟩ : ∃ w1, w1 = w.alloc (.cells #[.int .i64 x.key, .int .i64 r, .int .i64 near, .int .i64 far] 30) := ⟨_, rfl⟩
  have g1 : Grow w w1 := by rw [hw1]; exact (Below.refl _ _).alloc (Nat.le_refl _) _
  have N1 : Blk w1 w.heap.size 30 #[.int .i64 x.key, .int .i64 r, .int .i64 near, .int .i64 far] := by rw [hw1]; exact Blk.new _ _ _
  have hsb := hB.lt
  have e1 := g1.size
  have s0 : w.cell? ⟨sb, 0, none⟩ = some (.slice (some ad) S.length cn) := hB.cell 0
  have B1 := hB.below g1 hsb
  have f1 : ∀ s : From w1, s.w.cell? ⟨sb, 1, none⟩ = some (.slice (some ld) l.length c) := fun s => (s.cell (p := ⟨sb, 1, none⟩) (by show sb < _; omega)).trans (B1.cell 1)
  have f2 : ∀ s : From w1, s.w.cell? ⟨sb, 2, none⟩ = some (.int .i64 kind) := fun s => (s.cell (p := ⟨sb, 2, none⟩) (by show sb < _; omega)).trans (B1.cell 2)
  have f3 : ∀ s : From w1, s.w.cell? ⟨sb, 3, none⟩ = some (.slice B xs.length d) := fun s => (s.cell (p := ⟨sb, 3, none⟩) (by show sb < _; omega)).trans (B1.cell 3)
  have fb : ∀ s : From w1, s.w.cell? ⟨w.heap.size, 0, none⟩ = some (.int .i64 x.key) := fun s => (s.cell (p := ⟨w.heap.size, 0, none⟩) N1.lt).trans (N1.cell 0)
  have fl : ∀ s : From w1, s.w.cell? ⟨(ld.add (n * 3)).block, (ld.add (n * 3)).off + 1, none⟩ = some (.slice Ax x.pt.length cx) := fun s => ((g1.trans s.g).cell (p := ⟨(ld.add (n * 3)).block, (ld.add (n * 3)).off + 1, none⟩) (by show (ld.add (n * 3)).block < _; rw [block_of_add]; omega)).trans l1
  have rs1 : RS w1 w1.heap.size (some ld) l := (henv.rs.keep (Below.mono g1 (by omega))).more (by omega)
  have ri1 : RI w1 w1.heap.size B xs := (henv.ri.below (Below.mono g1 (by omega))).more (by omega)
  have rx1 : RI w1 w1.heap.size Ax x.pt := (rx.below (Below.mono g1 (by omega))).more (by omega)
  have KC := fun s : From w1 => From.call (spec_keyAt_fix (some ld) c l x n s.w (rs1.grow s.g) hkd hn)
  have DC := fun s : From w1 => From.call_drew (by have := spec_dist kind Ax B x.pt xs cx d s.w (rx1.grow s.g) (ri1.grow s.g) (hvl x hxl) hvx; rw [← hdd] at this; exact this)
  have HW1 := Lib.hid hw1
  have HDD := Lib.hid hdd
  have HN := Lib.hid hn
  have hi0 : ¬ ((b : Int) < 0) := by omega
  have i1 : (n : Int) < (l.length : Int) := by omega
  have i2 : (b : Int) < (S.length : Int) := by omega
  have i3 : (0 : Int) ≤ (n : Int) := by omega
  have i4 : (0 : Int) ≤ (b : Int) := by omega
  have hFx : Fits x.key := by
    have := henv.rk.fit _ (List.mem_of_getElem? hS)
    exact this _ (by simp [nodeP])
  clear hw1 hdd hn hlay hS hok hit hnd hx' hho
  go_enter Try.func81, Try.ntmps81
  go_upto_region 2 with fail
  rw [← HW1.out]
  refine wp_region_from (by kernel_rfl) (by kernel_rfl) ?_
  repeat (go_big_quiet_step (first | exact KC _ | exact DC _))
  refine wpQuiet_nil ?_
  intro w2 g2
  have B2 := B1.below g2 (by omega)
  have e2 := g2.size
  have z6 : w2.cell? ⟨sb, 6, none⟩ = some (.int .i64 m) := B2.cell 6
  have p6 := B2.frozen 6
  obtain ⟨w3, hw3⟩ : ∃ w3, w3 = w2.setCell ⟨sb, 6, none⟩ (.int .i64 (m + 1)) := ⟨_, rfl⟩
  have B3 : Blk w3 sb 72 #[.slice (some ad) S.length cn, .slice (some ld) l.length c, .int .i64 kind, .slice B xs.length d, .int .i64 k, v, .int .i64 (m + 1)] := by rw [hw3]; exact B2.set_ 6 _
  have e3 : w3.heap.size = w2.heap.size := by rw [hw3]; simp [World.setCell]
  have F03 : FrB w.heap.size (XS sb) w w3 := (FrB.of_below (g1.trans g2) (Nat.le_refl _)).trans (by rw [hw3]; exact FrB.set_ _ _ _ _ rfl)
  have N3 : Blk w3 w.heap.size 30 #[.int .i64 x.key, .int .i64 r, .int .i64 near, .int .i64 far] := by rw [hw3]; exact (N1.below g2 N1.lt).far (by show w.heap.size ≠ sb; omega) _
  have hvb : ∀ g, v.ownBlock = some g → sb + 1 ≤ g ∧ g < w.heap.size := ho.lt
  have o3 : OwnK hitP w3 (sb + 1) w3.heap.size v F := (ho.still (w' := w3) (fun g hg => F03.block g (hvb g hg).2 (fun hx => by have hx' : g = sb := hx; have := (hvb g hg).1; omega))).up
  obtain ⟨A5, c5, rfl, hc5, hm5, r5⟩ := o3.open_
  have AH := spec_addHit A5 c5 F ⟨x.key, dd⟩ k w3.drew (r5.grow (Grow.drew w3)) (fun z hz => by simp [hitP] at hz; rcases hz with rfl | rfl; exact hFx; exact ⟨by omega, by omega⟩) (by omega) (by omega)
  rw [← HF1.out] at AH
  clear hF1
  have y5 : w3.cell? ⟨sb, 5, none⟩ = some (.slice A5 F.length c5) := B3.cell 5
  have y4 : w3.cell? ⟨sb, 4, none⟩ = some (.int .i64 k) := B3.cell 4
  have y0 : w3.cell? ⟨w.heap.size, 0, none⟩ = some (.int .i64 x.key) := N3.cell 0
  have HW3 := Lib.hid hw3
  clear hw3 f1 f2 f3 fb fl KC DC c_0 c_1 c_2 c_3 l1 s0 rs1 ri1 rx1
  go_upto_region 4 with fail
  rw [← HW3.out]
  clear z6 p6
  have fin : ∀ (w4 : World) (A6 : Option Addr) (c6 : Nat), Grow w3.drew w4 → OwnK hitP w4 w3.drew.heap.size w4.heap.size (.slice A6 F1.length c6) F1 →
      Blk (w4.setCell ⟨sb, 5, none⟩ (.slice A6 F1.length c6)) sb 72 #[.slice (some ad) S.length cn, .slice (some ld) l.length c, .int .i64 kind, .slice B xs.length d, .int .i64 k, .slice A6 F1.length c6, .int .i64 (m + 1)] ∧ Blk (w4.setCell ⟨sb, 5, none⟩ (.slice A6 F1.length c6)) w.heap.size 30 #[.int .i64 x.key, .int .i64 r, .int .i64 near, .int .i64 far] ∧
      OwnK hitP (w4.setCell ⟨sb, 5, none⟩ (.slice A6 F1.length c6)) (sb + 1) (w4.setCell ⟨sb, 5, none⟩ (.slice A6 F1.length c6)).heap.size (.slice A6 F1.length c6) F1 ∧ FrB w.heap.size (XS sb) w (w4.setCell ⟨sb, 5, none⟩ (.slice A6 F1.length c6)) := by
    intro w4 A6 c6 g4 o4
    have B4 := (B3.drew).below g4 B3.lt
    have N4 := (N3.drew).below g4 N3.lt
    have e4 : w3.heap.size ≤ w4.heap.size := g4.size
    have hvb6 : ∀ g, (Value.slice A6 F1.length c6).ownBlock = some g → w3.heap.size ≤ g := fun g hg => (o4.lt g hg).1
    refine ⟨B4.set_ 5 _, N4.far (by show w.heap.size ≠ sb; omega) _, ?_, F03.trans (((FrB.drew _ _ _).trans (FrB.of_below g4 (show w.heap.size ≤ w3.heap.size by omega))).trans (FrB.set_ _ _ _ _ rfl))⟩
    have h1 : OwnK hitP (w4.setCell ⟨sb, 5, none⟩ (.slice A6 F1.length c6)) w3.drew.heap.size w4.heap.size (.slice A6 F1.length c6) F1 := o4.still (fun g hg => Below.heap_setCell w4 ⟨sb, 5, none⟩ _ g (by show g ≠ sb; have := hvb6 g hg; omega))
    exact (h1.lower (by show sb + 1 ≤ w3.heap.size; omega) (Nat.le_refl _)).up
  go_cut [5] (fun v5 wc => v5 = .int .i64 dd ∧ ∃ A6 c6, Blk wc sb 72 #[.slice (some ad) S.length cn, .slice (some ld) l.length c, .int .i64 kind, .slice B xs.length d, .int .i64 k, .slice A6 F1.length c6, .int .i64 (m + 1)] ∧ Blk wc w.heap.size 30 #[.int .i64 x.key, .int .i64 r, .int .i64 near, .int .i64 far] ∧
    OwnK hitP wc (sb + 1) wc.heap.size (.slice A6 F1.length c6) F1 ∧ FrB w.heap.size (XS sb) w wc)
  case first =>
    go_region_law (first
      | (go_simp; go_at_call 100; refine AH.mono ?_; rintro e w4 ⟨u, rfl, o4, g4⟩; obtain ⟨A6, c6, rfl, hc6, hm6, _⟩ := o4.open_; have B4 := (B3.drew).below g4 B3.lt; have x5 : w4.cell? ⟨sb, 5, none⟩ = some (.slice A5 F.length c5) := B4.cell 5; have p5 := B4.frozen 5))
    all_goals
      go_wp2_with fail
      go_meet
      exact ⟨rfl, A6, c6, fin _ _ _ g4 o4⟩
  case rest =>
  obtain ⟨rfl, A6, c6, B5, N5, o5, F05⟩ := hcut
  have e5 := F05.size
  have env5 := henv.fr F05 (by omega)
  have x1 : wc.cell? ⟨w.heap.size, 1, none⟩ = some (.int .i64 r) := N5.cell 1
  have x2 : wc.cell? ⟨w.heap.size, 2, none⟩ = some (.int .i64 near) := N5.cell 2
  have x3 : wc.cell? ⟨w.heap.size, 3, none⟩ = some (.int .i64 far) := N5.cell 3
  have hszn : (0 : Int) ≤ tn.size := by omega
  have hszf : (0 : Int) ≤ tf.size := by omega
  have hok1n : VOk k (F1, m + 1) 0 (1000 - (tn.size : Int)) := ⟨hok1.db, hok1.len, hok1.lo, by have := hok1.hi; simp only at this ⊢; omega⟩
  have hok1f : VOk k (F1, m + 1) 0 (1000 - (tf.size : Int)) := ⟨hok1.db, hok1.len, hok1.lo, by have := hok1.hi; simp only at this ⊢; omega⟩
  have hoknf : VOk k (sn.1, sn.2) 0 (1000 - (tf.size : Int)) := ⟨hokn.db, hokn.len, hokn.lo, by have := hokn.hi; simp only at this ⊢; omega⟩
  have hokfn : VOk k (sf.1, sf.2) 0 (1000 - (tn.size : Int)) := ⟨hokf.db, hokf.len, hokf.lo, by have := hokf.hi; simp only at this ⊢; omega⟩
  clear y5 y4 y0 B1 B2 B3 N3 o3 F03 hok1 fin AH
  have rb := reach_bd (k := k) hokn.db
  have rb2 := reach_bd (k := k) hokf.db
  obtain ⟨rn, hrn⟩ : ∃ q, q = reachV sn.1 k := ⟨_, rfl⟩
  obtain ⟨rf, hrf⟩ : ∃ q, q = reachV sf.1 k := ⟨_, rfl⟩
  rw [← hrn] at rb
  rw [← hrf] at rb2
  have hv := HV.out
  rw [← hrn, ← hrf] at hv
  by_cases hdr : dd ≤ r
  · rw [if_pos hdr] at hv
    have IHN := ihn near (b + 1) mm F1 (m + 1) _ wc hln hitn env5 B5 o5 hok1n
    rw [← HSN.out] at IHN
    have HV2 := Lib.hid hv
    clear hv HV
    go_wp2_with fail
    refine IHN.mono ?_; rintro e w6 ⟨rfl, v6, B6, o6, F56⟩
    have e6 := F56.size
    have N6 := F56.blk N5 N5.lt (fun hx => by have hx' : w.heap.size = sb := hx; omega)
    have F06 := F05.trans (F56.less (s := w.heap.size) e5 (fun _ _ h => h))
    have f1 : ∀ s : From w6, s.w.cell? ⟨w.heap.size, 1, none⟩ = some (.int .i64 r) := fun s => (s.cell (p := ⟨w.heap.size, 1, none⟩) N6.lt).trans (N6.cell 1)
    have RC := fun s : From w6 => From.call (by have := spec_reach s.w (B6.below s.g B6.lt) (o6.grow s.g) hk (by omega) (by have := hoknf.len; simp only at this; omega); rw [← hrn] at this; exact this)
    have HRN := Lib.hid hrn
    have HRF := Lib.hid hrf
    clear x1 x2 x3 hrn hrf IHN o5 B5 N5
    have i5 : IntKind.i64.wrap (dd + rn) = dd + rn := by rw [IntKind.wrap_i64]; omega
    by_cases hge : r ≤ dd + rn
    · have hge' : decide (r ≤ dd + rn) = true := by simpa using hge
      go_wp2_with fail
      refine wp_region_from (by kernel_rfl) (by kernel_rfl) ?_
      repeat (go_big_quiet_step (exact RC _))
      refine wpQuiet_nil ?_
      intro w7 g7
      have N7 := N6.below g7 N6.lt
      have x2 : w7.cell? ⟨w.heap.size, 3, none⟩ = some (.int .i64 far) := N7.cell 3
      have e7 := g7.size
      have F07 := F06.trans (FrB.of_below (X := XS sb) g7 (show w.heap.size ≤ w6.heap.size by omega))
      have IHF := ihf far mm e sn.1 sn.2 _ w7 hlf hitf (henv.fr F07 (by omega)) (B6.below g7 B6.lt) (o6.grow g7).up hoknf
      have hv := HV2.out
      rw [if_pos hge] at hv
      rw [show visT kind xs k tf (sn.1, sn.2) = visT kind xs k (.node x r tn tf) (F, m) from hv.symm] at IHF
      have HV3 := Lib.hid hv
      clear hv f1 RC
      go_wp2_with fail
      refine IHF.mono ?_; rintro e w8 ⟨rfl, v8, B8, o8, F78⟩
      go_wp2_with fail
      first | go_end0 | ((try simp only [Exit.inBlock, Exit.then]); refine bodyPost_ret (results_none rfl _ _ _) rfl ?_)
      exact ⟨rfl, v8, B8, o8, F07.trans (F78.less (by omega) (fun _ _ h => h))⟩
    · have hge' : decide (r ≤ dd + rn) = false := by simpa using hge
      go_wp2_with fail
      refine wp_region_from (by kernel_rfl) (by kernel_rfl) ?_
      repeat (go_big_quiet_step (exact RC _))
      refine wpQuiet_nil ?_
      intro w7 g7
      have hv := HV2.out
      rw [if_neg (by omega)] at hv
      have HV3 := Lib.hid hv
      clear hv f1 RC
      go_wp2_with fail
      first | go_end0 | ((try simp only [Exit.inBlock, Exit.then]); refine bodyPost_ret (results_none rfl _ _ _) rfl ?_)
      rw [HV3.out]
      exact ⟨rfl, v6, B6.below g7 B6.lt, (o6.grow g7).up, F06.trans (FrB.of_below (X := XS sb) g7 (show w.heap.size ≤ w6.heap.size by omega))⟩
  · rw [if_neg hdr] at hv
    have IHN := ihf far mm e F1 (m + 1) _ wc hlf hitf env5 B5 o5 hok1f
    rw [← HSF.out] at IHN
    have HV2 := Lib.hid hv
    clear hv HV
    go_wp2_with fail
    refine IHN.mono ?_; rintro e w6 ⟨rfl, v6, B6, o6, F56⟩
    have e6 := F56.size
    have N6 := F56.blk N5 N5.lt (fun hx => by have hx' : w.heap.size = sb := hx; omega)
    have F06 := F05.trans (F56.less (s := w.heap.size) e5 (fun _ _ h => h))
    have f1 : ∀ s : From w6, s.w.cell? ⟨w.heap.size, 1, none⟩ = some (.int .i64 r) := fun s => (s.cell (p := ⟨w.heap.size, 1, none⟩) N6.lt).trans (N6.cell 1)
    have RC := fun s : From w6 => From.call (by have := spec_reach s.w (B6.below s.g B6.lt) (o6.grow s.g) hk (by omega) (by have := hokfn.len; simp only at this; omega); rw [← hrf] at this; exact this)
    have HRN := Lib.hid hrn
    have HRF := Lib.hid hrf
    clear x1 x2 x3 hrn hrf IHN o5 B5 N5
    have i5 : IntKind.i64.wrap (dd - rf) = dd - rf := by rw [IntKind.wrap_i64]; omega
    by_cases hge : dd - rf ≤ r
    · have hge' : decide (dd - rf ≤ r) = true := by simpa using hge
      go_wp2_with fail
      refine wp_region_from (by kernel_rfl) (by kernel_rfl) ?_
      repeat (go_big_quiet_step (exact RC _))
      refine wpQuiet_nil ?_
      intro w7 g7
      have N7 := N6.below g7 N6.lt
      have x2 : w7.cell? ⟨w.heap.size, 2, none⟩ = some (.int .i64 near) := N7.cell 2
      have e7 := g7.size
      have F07 := F06.trans (FrB.of_below (X := XS sb) g7 (show w.heap.size ≤ w6.heap.size by omega))
      have IHF := ihn near (b + 1) mm sf.1 sf.2 _ w7 hln hitn (henv.fr F07 (by omega)) (B6.below g7 B6.lt) (o6.grow g7).up hokfn
      have hv := HV2.out
      rw [if_pos hge] at hv
      rw [show visT kind xs k tn (sf.1, sf.2) = visT kind xs k (.node x r tn tf) (F, m) from hv.symm] at IHF
      have HV3 := Lib.hid hv
      clear hv f1 RC
      go_wp2_with fail
      refine IHF.mono ?_; rintro e w8 ⟨rfl, v8, B8, o8, F78⟩
      go_wp2_with fail
      first | go_end0 | ((try simp only [Exit.inBlock, Exit.then]); refine bodyPost_ret (results_none rfl _ _ _) rfl ?_)
      exact ⟨rfl, v8, B8, o8, F07.trans (F78.less (by omega) (fun _ _ h => h))⟩
    · have hge' : decide (dd - rf ≤ r) = false := by simpa using hge
      go_wp2_with fail
      refine wp_region_from (by kernel_rfl) (by kernel_rfl) ?_
      repeat (go_big_quiet_step (exact RC _))
      refine wpQuiet_nil ?_
      intro w7 g7
      have hv := HV2.out
      rw [if_neg (by omega)] at hv
      have HV3 := Lib.hid hv
      clear hv f1 RC
      go_wp2_with fail
      first | go_end0 | ((try simp only [Exit.inBlock, Exit.then]); refine bodyPost_ret (results_none rfl _ _ _) rfl ?_)
      rw [HV3.out]
      exact ⟨rfl, v6, B6.below g7 B6.lt, (o6.grow g7).up, F06.trans (FrB.of_below (X := XS sb) g7 (show w.heap.size ≤ w6.heap.size by omega))⟩
theorem spec_visit {kind : Int} {xs : List Int} {k : Nat} {l : List It} {S : List Nd} {sb : Nat} {A An B : Option Addr} {c cn d : Nat} (hvl : ∀ y ∈ l, vecB y.pt 4 = true) (hvx : vecB xs 4 = true) (hkd : KeysD l) (hk : 0 < k) (hk16 : k ≤ 16) :
    ∀ t : Tr, Sought kind xs k l S sb A An B c cn d t := by
  intro t
  induction t with
  | nil =>
    intro i b e F m v w hlay hit henv hB ho hok
    cases hlay
    go_enter Try.func81, Try.ntmps81
    go_wp2_with fail
    first | go_end0 | ((try simp only [Exit.inBlock, Exit.then]); refine bodyPost_ret (results_none rfl _ _ _) rfl ?_)
    exact ⟨rfl, v, hB, ho, FrB.refl _ _ _⟩
  | node x r n f ih1 ih2 => exact seen_node hvl hvx hkd hk hk16 x r n f ih1 ih2
end Go.Proofs.Ytebiaodjodlloaa
