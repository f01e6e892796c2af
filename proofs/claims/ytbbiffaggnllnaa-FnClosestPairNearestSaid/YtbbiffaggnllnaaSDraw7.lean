/- The contracts of the generators of the arguments of the laws on nearest items, boxes and trees. -/
import Derived.Test.YtbbiffaggnllnaaSDraw6
import Derived.Test.YtbbiffaggnllnaaDrawR
namespace Go.Proofs.Ytbbiffaggnllnaa
set_option linter.unusedVariables false
open Go Go.RowKit

theorem spec_someK (g P : Nat) (w : World) (h : Rdr w g P) (hP : P ≤ 70000) :
    Calls Try.prog 99 #[.pointer (some ⟨g, 0, none⟩)] w fun e w' => ∃ v, e = .returned (.int .i64 v) ∧ 0 ≤ v ∧ v ≤ 17 ∧ Rdr w' g (P + 1) ∧ Asked g w w' := by
  have o := lit_ri w [1, 2, 3, 5, 16, 4, 0, 17] (by decide) (by decide)
  have hg := h.lt
  have hgr : Grow w (w.alloc (.cells #[.int .i64 1, .int .i64 2, .int .i64 3, .int .i64 5, .int .i64 16, .int .i64 4, .int .i64 0, .int .i64 17] 3)) := (Below.refl _ _).alloc (Nat.le_refl _) _
  go_enter Try.func99, Try.ntmps99
  go_wp2_with fail
  refine (reader_one _ _ _ _ [1, 2, 3, 5, 16, 4, 0, 17] _ (h.grow hgr) (by omega) o.ri (fun ad had => by injection had with had; subst had; show w.heap.size ≠ g; omega) (by simp) (by simp)).mono ?_
  rintro e w1 ⟨v, rfl, hv, r1, k1⟩
  have hv4 : 0 ≤ v ∧ v ≤ 17 := by simp at hv; omega
  clear hv o
  go_wp2_with fail
  go_ret
  exact ⟨v, rfl, hv4.1, hv4.2, r1, (Asked.of_grow hgr).trans k1⟩

/-- A drawn vector, as the law has it. -/
structure DrawnV (w' : World) (A : Option Addr) (c : Nat) (xs : List Int) : Prop where
  ri : RI w' w'.heap.size A xs
  cap : xs.length ≤ c
  top : c ≤ maxLen
theorem DrawnV.grow {w w' : World} {A : Option Addr} {c : Nat} {xs : List Int} (h : DrawnV w A c xs) (hg : Grow w w') : DrawnV w' A c xs := ⟨h.ri.grow hg, h.cap, h.top⟩
theorem VecI.drawn {w : World} {lo hi : Nat} {v : Value} {xs : List Int} (h : VecI w lo hi v xs) : ∃ A c, v = .slice A xs.length c ∧ DrawnV w A c xs := by
  obtain ⟨A, c, rfl, h1, h2, h3⟩ := h.open_
  exact ⟨A, c, rfl, h3, h1, h2⟩
theorem DrS.shape {w w' : World} {lo lo' n c : Nat} {A : Option Addr} {l : List It} (h : DrS w lo (.slice A n c) l) (hl : l.length ≤ 17) : n = l.length ∧ DrawnS w A c l := by
  obtain ⟨A2, c2, e2, q⟩ := h.drawn hl
  injection e2 with e1 e2 e3
  subst e1 e3
  exact ⟨e2, q⟩
theorem VecI.at_ {w : World} {lo hi n c k : Nat} {A : Option Addr} {xs : List Int} (h : VecI w lo hi (.slice A n c) xs) (hk : k < xs.length) :
    ∃ ad x, A = some ad ∧ lo ≤ ad.block ∧ ad.block < hi ∧ w.cell? (ad.add k) = some (.int .i64 x) ∧ -9223372036854775808 ≤ x ∧ x ≤ 9223372036854775807 ∧ Hid (xs[k]? = some x) := by
  obtain ⟨A', c', e, h1, h2, h3⟩ := h.form
  injection e with e1 e2 e3
  subst e1
  obtain ⟨ad, rfl, b1, b2, hc, _⟩ := h3 (by omega)
  have hf := h.fit _ (List.getElem_mem hk)
  exact ⟨ad, xs[k], rfl, b1, b2, hc k _ (by rw [List.getElem?_map, List.getElem?_eq_getElem hk]; rfl), hf.1, hf.2, Lib.hid (List.getElem?_eq_getElem hk)⟩
theorem VecI.shape {w : World} {lo hi n c : Nat} {A : Option Addr} {xs : List Int} (h : VecI w lo hi (.slice A n c) xs) : n = xs.length ∧ DrawnV w A c xs := by
  obtain ⟨A2, c2, e2, q⟩ := h.drawn
  injection e2 with e1 e2 e3
  subst e1 e3
  exact ⟨e2, q⟩

/-- What the generator of the nearest items' arguments hands back. -/
def GotN (w w' : World) (e : Ending) : Prop := ∃ A' c' l kind B d xs k, e = .returned (.tuple #[.slice A' (List.length l) c', .int .i64 kind, .slice B (List.length xs) d, .int .i64 k]) ∧ (0 ≤ kind ∧ kind ≤ 5) ∧ (-1 ≤ k ∧ k ≤ 10000) ∧
  VecI w' w.heap.size w'.heap.size (.slice B (List.length xs) d) xs ∧ DrS w' w.heap.size (.slice A' (List.length l) c') l ∧ l.length ≤ 17 ∧ Grow w w'

set_option maxHeartbeats 1600000 in
theorem spec_DrawNearest (A : Option Addr) (n c : Nat) (bs : List Int) (w : World) (h : ArgB w A n c bs) :
    Calls Try.prog 45 #[.slice A n c] w fun e w' => GotN w w' e := by
  go_enter Try.func45, Try.ntmps45
  go_wp2_with fail
  refine (spec_reader_of h).mono ?_
  rintro e w1 ⟨rfl, r1, g1⟩
  have l1 := r1.lt
  go_wp2_with fail
  refine (spec_anyStore _ _ _ r1 (by omega)).mono ?_
  rintro e w2 ⟨v, rfl, l, d2, hl, r2, k2⟩
  obtain ⟨A0, c0, rfl, _⟩ := d2.drawn hl
  go_wp2_with fail
  refine (spec_anyKind _ _ _ r2 (by omega)).mono ?_
  rintro e w3 ⟨kind, rfl, b0, b1, r3, k3⟩
  have d3 := d2.turn k3 (by omega)
  go_wp2_with fail
  refine (spec_anyVector _ _ _ r3 (by omega)).mono ?_
  rintro e w4 ⟨u, xs, rfl, o4, s4, r4, k4⟩
  have d4 := d3.turn k4 (by omega)
  have e2 := k2.size
  have e3 := k3.size
  have e4 := k4.size
  have a4 := k2.trans (k3.trans k4)
  clear d2 d3 r2 r3
  have fin : ∀ (w5 : World) (B : Option Addr) (m d : Nat) (ys : List Int), VecI w5 w1.heap.size w5.heap.size (.slice B m d) ys → DrS w5 w1.heap.size (.slice A0 l.length c0) l → Rdr w5 w.heap.size 500 → Asked w.heap.size w1 w5 →
      Calls Try.prog 99 #[.pointer (some ⟨w.heap.size, 0, none⟩)] w5 fun e w6 => ∃ k, e = .returned (.int .i64 k) ∧ GotN w w6 (.returned (.tuple #[.slice A0 l.length c0, .int .i64 kind, .slice B m d, .int .i64 k])) := fun w5 B m d ys hv hd hr ha => by
    refine (spec_someK _ _ _ hr (by omega)).mono ?_
    rintro e w6 ⟨k, rfl, q0, q1, r6, k6⟩
    have ea := ha.size
    have hd6 := hd.turn k6 (by omega)
    have hv6 := hv.turn k6 (.inr (by omega))
    have e6 := k6.size
    have eg := g1.size
    obtain ⟨rfl, _⟩ := hv6.shape
    exact ⟨k, rfl, A0, c0, l, kind, B, d, ys, k, rfl, ⟨b0, b1⟩, ⟨by omega, by omega⟩, hv6.wider eg e6 (Nat.le_refl _), hd6.lower eg, hl, grow_asked g1 (ha.trans k6)⟩
  have FIN := Lib.hid fin
  clear fin
  have o4' := o4.wider (lo' := w1.heap.size) (by omega) (Nat.le_refl _) (Nat.le_refl _)
  obtain ⟨B4, d4', rfl, _, _, _⟩ := o4.open_
  clear o4
  by_cases hl0 : 0 < l.length
  · go_wp2_with fail
    refine (reader_pick _ _ _ _ r4 (by omega) (by omega) (by omega)).mono ?_
    rintro e w5 ⟨p, rfl, p0, _, p1, _, r5, k5⟩
    have e5 := k5.size
    have d5 := d4.turn k5 (by omega)
    have o5 := (o4'.turn k5 (.inr (by omega))).wider (lo' := w1.heap.size) (Nat.le_refl _) e5 (Nat.le_refl _)
    have a5 := a4.trans k5
    clear d4 o4' p1
    by_cases hp : p = 0
    · subst hp
      go_wp2_with fail
      refine (reader_pick _ _ _ _ r5 (by omega) (by omega) (by omega)).mono ?_
      rintro e w6 ⟨q, rfl, q0, _, q1, _, r6, k6⟩
      have q1 := q1 (by omega)
      obtain ⟨j, rfl⟩ := Int.eq_ofNat_of_zero_le q0
      have d6 := d5.turn k6 (by omega)
      have a6 := a5.trans k6
      have e6 := k6.size
      obtain ⟨ad, Ak, ck, x, rfl, _, z0, z1, z2, _, _, hri, _, _, _⟩ := d6.ri.at_ (k := j) (by omega)
      go_wp2_with fail
      refine (spec_copyInts _ _ _ _ hri).mono ?_
      rintro e w7 ⟨u7, rfl, o7, g7⟩
      have d7 := d6.grow g7
      have o7' := (o7.vec (Nat.le_refl _)).wider (lo' := w1.heap.size) (by omega) (Nat.le_refl _) (Nat.le_refl _)
      obtain ⟨B7, c7, rfl, _, _, _⟩ := o7.open_
      clear d5 d6 o5 o7 z0 z1 z2
      go_wp2_with fail
      refine (FIN.out _ _ _ _ _ o7' d7 ((r6.grow g7).more (by omega)) (a6.grow g7)).mono ?_
      rintro e w8 ⟨k, rfl, hk⟩
      go_wp2_with fail
      exact bodyPost_ret (v := .tuple #[.slice (some ad) l.length c0, .int .i64 kind, .slice B7 x.pt.length c7, .int .i64 k]) (by simp [results, Try.results45, go_sem]) rfl hk
    · have hpz : (p == 0) = false := by rw [beq_eq_false_iff_ne]; exact hp
      go_wp2_with fail
      refine (FIN.out _ _ _ _ _ o5 d5 (r5.more (by omega)) a5).mono ?_
      rintro e w8 ⟨k, rfl, hk⟩
      go_wp2_with fail
      exact bodyPost_ret (v := .tuple #[.slice A0 l.length c0, .int .i64 kind, .slice B4 xs.length d4', .int .i64 k]) (by simp [results, Try.results45, go_sem]) rfl hk
  · go_wp2_with fail
    refine (FIN.out _ _ _ _ _ o4' d4 (r4.more (by omega)) a4).mono ?_
    rintro e w8 ⟨k, rfl, hk⟩
    go_wp2_with fail
    exact bodyPost_ret (v := .tuple #[.slice A0 l.length c0, .int .i64 kind, .slice B4 xs.length d4', .int .i64 k]) (by simp [results, Try.results45, go_sem]) rfl hk

set_option maxHeartbeats 1600000 in
theorem spec_DrawWithinDist (A : Option Addr) (n c : Nat) (bs : List Int) (w : World) (h : ArgB w A n c bs) :
    Calls Try.prog 48 #[.slice A n c] w fun e w' => GotN w w' e := by
  go_enter Try.func48, Try.ntmps48
  go_wp2_with fail
  refine (spec_reader_of h).mono ?_
  rintro e w1 ⟨rfl, r1, g1⟩
  have l1 := r1.lt
  have h1 := h.keep g1
  go_wp2_with fail
  refine (spec_DrawNearest _ _ _ _ _ h1).mono ?_
  rintro e w2 ⟨A', c', l, kind, B, d, xs, k, rfl, hk, _, qv, qs, hl, g2⟩
  have r2 := r1.grow g2
  have o := lit_ri w2 [0, 3, 20, 100, 500, 10000, -1] (by decide) (by decide)
  have hgr : Grow w2 (w2.alloc (.cells #[.int .i64 0, .int .i64 3, .int .i64 20, .int .i64 100, .int .i64 500, .int .i64 10000, .int .i64 (-1)] 3)) := (Below.refl _ _).alloc (Nat.le_refl _) _
  have l2 := r2.lt
  have e2 := g2.size
  go_wp2_with fail
  refine (reader_one _ _ _ _ [0, 3, 20, 100, 500, 10000, -1] _ (r2.grow hgr) (by omega) o.ri (fun ad had => by injection had with had; subst had; show w2.heap.size ≠ w.heap.size; omega) (by simp) (by simp)).mono ?_
  rintro e w3 ⟨most, rfl, hm, r3, k3⟩
  have hm4 : -1 ≤ most ∧ most ≤ 10000 := by simp at hm; omega
  clear hm o
  have eg := g1.size
  have e3 := k3.size
  have e4 := hgr.size
  have qs3 := ((qs.grow hgr).turn k3 (by omega)).lower eg
  have qv3 := ((qv.grow hgr).turn k3 (.inr (by omega))).wider eg (show w2.heap.size ≤ w3.heap.size by omega) (Nat.le_refl _)
  clear qs qv
  go_wp2_with fail
  exact bodyPost_ret (v := .tuple #[.slice A' l.length c', .int .i64 kind, .slice B xs.length d, .int .i64 most]) (by simp [results, Try.results48, go_sem]) rfl
    ⟨A', c', l, kind, B, d, xs, most, rfl, hk, hm4, qv3, qs3, hl, grow_asked g1 ((Asked.of_grow (g2.trans hgr)).trans k3)⟩

theorem spec_DrawBuildTree (A : Option Addr) (n c : Nat) (bs : List Int) (w : World) (h : ArgB w A n c bs) :
    Calls Try.prog 56 #[.slice A n c] w fun e w' => ∃ A' c' l kind, e = .returned (.tuple #[.slice A' (List.length l) c', .int .i64 kind]) ∧ 0 ≤ kind ∧ kind ≤ 5 ∧ DrawnS w' A' c' l ∧ Grow w w' := by
  go_enter Try.func56, Try.ntmps56
  go_wp2_with fail
  refine (spec_DrawClosestPair _ _ _ _ _ h).mono ?_
  rintro e w1 ⟨A', c', l, kind, rfl, b0, b1, q, g⟩
  go_wp2_with fail
  go_ret2
  exact ⟨A', c', l, kind, rfl, b0, b1, q, g⟩

set_option maxHeartbeats 3200000 in
theorem spec_DrawInBox (A : Option Addr) (n c : Nat) (bs : List Int) (w : World) (h : ArgB w A n c bs) :
    Calls Try.prog 25 #[.slice A n c] w fun e w' => ∃ A' c' l B d xs C f ys, e = .returned (.tuple #[.slice A' (List.length l) c', .slice B (List.length xs) d, .slice C (List.length ys) f]) ∧
      DrawnV w' B d xs ∧ DrawnV w' C f ys ∧ DrawnS w' A' c' l ∧ Grow w w' := by
  go_enter Try.func25, Try.ntmps25
  go_wp2_with fail
  refine (spec_reader_of h).mono ?_
  rintro e w1 ⟨rfl, r1, g1⟩
  have l1 := r1.lt
  clear h
  go_wp2_with fail
  refine (spec_anyStore _ _ _ r1 (by omega)).mono ?_
  rintro e w2 ⟨v, rfl, l, d2, hl, r2, k2⟩
  obtain ⟨A0, c0, rfl, _⟩ := d2.drawn hl
  go_wp2_with fail
  refine (spec_anyVector _ _ _ r2 (by omega)).mono ?_
  rintro e w3 ⟨u, xs, rfl, o3, s3, r3, k3⟩
  obtain ⟨B3, d3, rfl, _, _, _⟩ := o3.open_
  go_wp2_with fail
  refine (spec_anyVector _ _ _ r3 (by omega)).mono ?_
  rintro e w4 ⟨u, ys, rfl, o4, s4, r4, k4⟩
  obtain ⟨C4, f4, rfl, _, _, _⟩ := o4.open_
  have e2 := k2.size
  have e3 := k3.size
  have e4 := k4.size
  have o3' := o3.turn k4 (.inr (by omega))
  have a4 := k2.trans (k3.trans k4)
  clear o3 r1 r2 r3
  have hx5 : xs.length ≤ 5 := s3.1
  have hy5 : ys.length ≤ 5 := s4.1
  have fin : ∀ (wr : World) (xs' ys' : List Int), xs'.length = xs.length → ys'.length = ys.length → VecI wr w2.heap.size w3.heap.size (.slice B3 xs.length d3) xs' → VecI wr w3.heap.size w4.heap.size (.slice C4 ys.length f4) ys' → Asked w.heap.size w2 wr →
      ∃ A' c' l' B d xs2 C f ys2, Ending.returned (.tuple #[.slice A0 l.length c0, .slice B3 xs.length d3, .slice C4 ys.length f4]) = .returned (.tuple #[.slice A' (List.length l') c', .slice B (List.length xs2) d, .slice C (List.length ys2) f]) ∧
      DrawnV wr B d xs2 ∧ DrawnV wr C f ys2 ∧ DrawnS wr A' c' l' ∧ Grow w wr := fun wr xs' ys' ex ey vx vy ha => by
    obtain ⟨_, qx⟩ := vx.shape
    obtain ⟨_, qy⟩ := vy.shape
    obtain ⟨_, qs⟩ := (d2.turn ha (by omega)).shape (lo' := 0) (w' := w) hl
    exact ⟨A0, c0, l, B3, d3, xs', C4, f4, ys', by rw [ex, ey], qx, qy, qs, grow_asked g1 (k2.trans ha)⟩
  have FIN := Lib.hid fin
  have a4' : Asked w.heap.size w2 w4 := k3.trans k4
  clear fin d2
  go_wp2_with fail
  go_loopw [9] (fun i wr => ∃ (k : Nat) (xs' ys' : List Int), i = .int .i64 k ∧ k ≤ xs.length ∧ xs'.length = xs.length ∧ ys'.length = ys.length ∧ VecI wr w2.heap.size w3.heap.size (.slice B3 xs.length d3) xs' ∧ VecI wr w3.heap.size w4.heap.size (.slice C4 ys.length f4) ys' ∧ Rdr wr w.heap.size (400 + k) ∧ Asked w.heap.size w2 wr) (fun i _ => xs.length + 1 - (intOf i).toNat)
  case atStart => exact ⟨0, xs, ys, rfl, Nat.zero_le _, rfl, rfl, o3', o4, r4.more (by omega), a4'⟩
  case round =>
    clear o3' o4 r4 a4 a4'
    obtain ⟨k, xs', ys', rfl, hk, ex, ey, vx, vy, hr, ha⟩ := hrel
    have EX := Lib.hid ex
    have EY := Lib.hid ey
    have hra := ha.size
    by_cases hkx : k < xs.length
    · by_cases hky : k < ys.length
      · go_wp2_with fail
        refine (reader_pick _ _ _ _ hr (by omega) (by omega) (by omega)).mono ?_
        rintro e w5 ⟨p, rfl, p0, _, p1, _, r5, k5⟩
        have vx5 := vx.turn k5 (.inr (by omega))
        have vy5 := vy.turn k5 (.inr (by omega))
        have ha5 := ha.trans k5
        clear vx vy p1
        by_cases hp : 0 < p
        · obtain ⟨ad, x, rfl, b1, b2, cx, fx1, fx2, hx⟩ := vx5.at_ (k := k) (by omega)
          obtain ⟨bd, y, rfl, b3, b4, cy, fy1, fy2, hy⟩ := vy5.at_ (k := k) (by omega)
          by_cases hgt : y < x
          · have q2 : k + 1 ≤ xs.length := hkx
            go_wp2_with fail
            go_quiet (fail)
            obtain ⟨w6, hw6⟩ : ∃ w6, w6 = w5.drewN nq := ⟨_, rfl⟩
            have vx6 : VecI w6 w2.heap.size w3.heap.size (.slice (some ad) xs.length d3) xs' := by rw [hw6]; exact vx5.grow (Grow.drewN _ _)
            have vy6 : VecI w6 w3.heap.size w4.heap.size (.slice (some bd) ys.length f4) ys' := by rw [hw6]; exact vy5.grow (Grow.drewN _ _)
            have r6 : Rdr w6 w.heap.size (400 + k + 1) := by rw [hw6]; exact r5.grow (Grow.drewN _ _)
            have ha6 : Asked w.heap.size w2 w6 := by rw [hw6]; exact ha5.grow (Grow.drewN _ _)
            have zx : w6.cell? (ad.add k) = some (.int .i64 x) := by rw [hw6]; exact cx
            have zy : w6.cell? (bd.add k) = some (.int .i64 y) := by rw [hw6]; exact cy
            rw [← hw6]
            clear hw6 vx5 vy5 r5 ha5 cx cy
            have s1 := vx6.set_ (i := k) (x := y) (by omega) ⟨fy1, fy2⟩
            have t1 : Turn w2.heap.size w3.heap.size w6 (w6.setCell (ad.add k) (.int .i64 y)) := (Turn.refl _ _ _).setCell (by rw [block_of_add]; exact b1) (by rw [block_of_add]; exact b2) _
            have v1 := vy6.turn t1 (.inr (Nat.le_refl _))
            have s2 := v1.set_ (i := k) (x := x) (by omega) ⟨fx1, fx2⟩
            have t2 : Turn w3.heap.size w4.heap.size (w6.setCell (ad.add k) (.int .i64 y)) ((w6.setCell (ad.add k) (.int .i64 y)).setCell (bd.add k) (.int .i64 x)) := (Turn.refl _ _ _).setCell (by rw [block_of_add]; exact b3) (by rw [block_of_add]; exact b4) _
            have u1 := s1.1.turn t2 (.inl (Nat.le_refl _))
            obtain ⟨f1, f2⟩ := And.intro s1.2 s2.2
            have n1 : (w6.setCell (ad.add k) (.int .i64 y)).cell? (bd.add k) = some (.int .i64 y) := (World.cell?_setCell_other _ _ _ _ (fun e => by have := congrArg Addr.block e; rw [block_of_add, block_of_add] at this; omega)).trans zy
            have r7 := (r6.turn t1 (by omega)).turn t2 (by omega)
            have a7 : Asked w.heap.size w2 ((w6.setCell (ad.add k) (.int .i64 y)).setCell (bd.add k) (.int .i64 x)) := (ha6.below (t1.below (B := w2.heap.size) (by have := ha6.size; omega) (Nat.le_refl _)) (Nat.le_refl _)).below (t2.below (B := w2.heap.size) (by have := ha6.size; have := t1.size; omega) e3) (Nat.le_refl _)
            have u2 := s2.1
            clear vx6 vy6 v1 s1 s2 t1 t2
            go_wp2_with fail
            go_roundw
            case rel => exact ⟨k + 1, _, _, by go_num, q2, by rw [List.length_set]; exact EX.out, by rw [List.length_set]; exact EY.out, u1, u2, r7.more (by omega), a7⟩
            case measure => simp [intOf]; omega
          · have q2 : k + 1 ≤ xs.length := hkx
            go_wp2_with fail
            go_quiet (fail)
            go_wp2_with fail
            go_roundw
            case rel => exact ⟨k + 1, xs', ys', by go_num, q2, EX.out, EY.out, vx5.grow (Grow.drewN _ _), vy5.grow (Grow.drewN _ _), (r5.grow (Grow.drewN _ _)).more (by omega), ha5.grow (Grow.drewN _ _)⟩
            case measure => simp [intOf]; omega
        · go_wp2_with fail
          go_ret3
          exact FIN.out _ _ _ EX.out EY.out vx5 vy5 ha5
      · go_wp2_with fail
        go_ret3
        exact FIN.out _ _ _ EX.out EY.out vx vy ha
    · go_wp2_with fail
      go_ret3
      exact FIN.out _ _ _ EX.out EY.out vx vy ha
end Go.Proofs.Ytbbiffaggnllnaa
