/- Trees: the reference's sorting by distances. Trees: the reference's sorting by distances, walked. Trees: the reference's building of a tree, walked. -/
import Derived.Test.YtebiaodjodlloaaTreeP
import Derived.Test.YtebiaodjodlloaaNear3
import Derived.Deep.CutRange
import Derived.Deep.DeepCutAuto
namespace Go.Proofs.Ytebiaodjodlloaa
set_option linter.unusedVariables false
open Go Go.RowKit

set_option maxRecDepth 4000 in
set_option maxHeartbeats 1600000 in
theorem spec_hit (x : It) (Ax B : Option Addr) (cx d : Nat) (kind : Int) (xs : List Int) (w : World) (rx : RI w w.heap.size Ax x.pt) (ra : RI w w.heap.size B xs) (vx : vecB x.pt 4 = true) (va : vecB xs 4 = true) :
    Calls Try.prog 95 #[.agg #[.int .i64 x.key, .slice Ax x.pt.length cx, .int .i64 x.tags], .int .i64 kind, .slice B xs.length d] w fun e w' => e = .returned (.agg #[.int .i64 (hitOf kind xs x).key, .int .i64 (hitOf kind xs x).dist]) ∧ Grow w w' := by
  obtain ⟨k, ys, t⟩ := x
  simp only [hitOf] at rx vx ⊢
  obtain ⟨w0, hw0⟩ : ∃ w0, w0 = (w.alloc (.cells #[.int .i64 k, .slice Ax ys.length cx, .int .i64 t] 43)).alloc (.cells #[.int .i64 0, .int .i64 0] 78) := ⟨_, rfl⟩
  have g0 : Lays w w0 := by rw [hw0]; exact ((Lays.refl w).alloc _).alloc _
  have b0 : Blk w0 w.heap.size 43 #[.int .i64 k, .slice Ax ys.length cx, .int .i64 t] := by rw [hw0]; exact (Blk.new w _ _).alloc _
  have b1 : Blk w0 (w.heap.size + 1) 78 #[.int .i64 0, .int .i64 0] := by
    rw [hw0]; have := Blk.new (w.alloc (.cells #[.int .i64 k, .slice Ax ys.length cx, .int .i64 t] 43)) 78 #[.int .i64 0, .int .i64 0]; simpa using this
  have c0 : w0.cell? ⟨w.heap.size, 0, none⟩ = some (.int .i64 k) := b0.cell 0
  have c1 : w0.cell? ⟨w.heap.size, 1, none⟩ = some (.slice Ax ys.length cx) := b0.cell 1
  have D := fun (c d : Nat) (W : World) (L : Lays w W) => spec_dist kind Ax B ys xs c d W (rx.lays L) (ra.lays L) vx va
  obtain ⟨r, hr⟩ : ∃ r, r = distL kind ys xs 4 := ⟨_, rfl⟩
  rw [← hr] at D ⊢
  have d0 := b1.cell 0
  have d1 := b1.cell 1
  have e0 := b1.frozen 0
  have e1 := b1.frozen 1
  have hne : w.heap.size + 1 ≠ w.heap.size := by omega
  have HR := Lib.hid hr
  have HW := Lib.hid hw0
  clear hr hw0
  go_enter Try.func95, Try.ntmps95
  go_upto_region 1 with fail
  rw [← HW.out]
  go_region_held3 (fun w' => w'.cell? ⟨w.heap.size, 0, none⟩ = some (.int .i64 k) ∧ w'.cell? ⟨w.heap.size, 1, none⟩ = some (.slice Ax ys.length cx))
    (first | (exact ⟨c0, c1⟩) | go_keep)
    (first | (go_at_call 78; refine (D _ _ _ (by repeat' (first | exact Lays.refl _ | assumption | refine Lays.drewN ?_ _ | refine Lays.drew ?_ | refine Lays.alloc ?_ _))).mono ?_; rintro e w' ⟨rfl, n', rfl⟩))
  go_wp2_with fail
  refine bodyPost_ret (v := .agg #[.int .i64 k, .int .i64 r]) (by simp [results, Try.results95, go_sem, d0, d1]) rfl ⟨rfl, ?_⟩
  exact ((g0.grow.trans (Grow.drewN _ _)).setCell (p := ⟨w.heap.size + 1, 0, none⟩) (Nat.le_succ _) _).setCell (p := ⟨w.heap.size + 1, 1, none⟩) (Nat.le_succ _) _

theorem RowI.one (w : World) (q : It × Value) : RowI (w.alloc (.cells #[.int .i64 q.1.key, q.2, .int .i64 q.1.tags] 43)) (some ⟨w.heap.size, 0, none⟩) [q] :=
  ⟨by simp [flatS, rowS], fun _ => ⟨_, rfl, by simp, fun j u hu => by
    have hb := Blk.new w 43 #[.int .i64 q.1.key, q.2, .int .i64 q.1.tags]
    match j, hu with
    | 0, hu => simp [flatS, rowS] at hu; subst hu; exact hb.cell 0
    | 1, hu => simp [flatS, rowS] at hu; subst hu; exact hb.cell 1
    | 2, hu => simp [flatS, rowS] at hu; subst hu; exact hb.cell 2
    | j + 3, hu => simp [flatS, rowS] at hu⟩⟩
theorem ShP.cell_ {w : World} {lo B g n c : Nat} {p : List (It × Value)} (h : ShP w lo B (.slice (some ⟨g, 0, none⟩) n c) p) (hn : n = p.length) {k : Nat} {q : It × Value} (hk : p[k]? = some q) :
    w.cell? ⟨g, k * 3, none⟩ = some (.int .i64 q.1.key) ∧ w.cell? ⟨g, k * 3 + 1, none⟩ = some q.2 ∧ w.cell? ⟨g, k * 3 + 2, none⟩ = some (.int .i64 q.1.tags) ∧ w.frozen? ⟨g, k * 3, none⟩ = false ∧ w.frozen? ⟨g, k * 3 + 1, none⟩ = false ∧ w.frozen? ⟨g, k * 3 + 2, none⟩ = false := by
  subst hn
  have hk' : p[k]? = some (q.1, q.2) := hk
  obtain ⟨c0, c1, c2⟩ := flatS_at hk'
  have hp := (List.getElem?_eq_some_iff.1 hk).1
  have o := h.own
  have hl := flatS_len p
  have c0' := (List.getElem?_eq_some_iff.1 c0).1
  have c2' := (List.getElem?_eq_some_iff.1 c2).1
  exact ⟨(o.cellAt _ (by omega)).trans c0, (o.cellAt _ (by omega)).trans c1, (o.cellAt _ (by omega)).trans c2, o.frozenAt _, o.frozenAt _, o.frozenAt _⟩
theorem ShP.setItem {w : World} {lo B g n c : Nat} {p : List (It × Value)} (h : ShP w lo B (.slice (some ⟨g, 0, none⟩) n c) p) (hn : n = p.length) (hB : B ≤ lo) {k : Nat} {q0 q : It × Value} (hk : p[k]? = some q0) (hq : PtAt w B q) :
    ShP (((w.setCell ⟨g, k * 3, none⟩ (.int .i64 q.1.key)).setCell ⟨g, k * 3 + 1, none⟩ q.2).setCell ⟨g, k * 3 + 2, none⟩ (.int .i64 q.1.tags)) lo B (.slice (some ⟨g, 0, none⟩) n c) (p.set k q) := by
  subst hn
  obtain ⟨y, v⟩ := q0
  obtain ⟨x, u⟩ := q
  have hp := (List.getElem?_eq_some_iff.1 hk).1
  obtain ⟨g', e', _, hg1, hg2⟩ := h.form (by omega)
  injection e' with e'
  have eg : g = g' := by injection e'
  have hb : Below lo w (((w.setCell ⟨g, k * 3, none⟩ (.int .i64 x.key)).setCell ⟨g, k * 3 + 1, none⟩ u).setCell ⟨g, k * 3 + 2, none⟩ (.int .i64 x.tags)) :=
    (((Below.refl lo w).setCell (p := ⟨g, k * 3, none⟩) (by show lo ≤ g; omega) _).setCell (p := ⟨g, k * 3 + 1, none⟩) (by show lo ≤ g; omega) _).setCell (p := ⟨g, k * 3 + 2, none⟩) (by show lo ≤ g; omega) _
  refine ⟨?_, fun z hz => ?_⟩
  · have s1 := (h.own.stored (k * 3) (.int .i64 x.key)).1
    rw [(flatS_set hk).1 x.key] at s1
    have s2 := (s1.stored (k * 3 + 1) u).1
    have hk1 : (p.set k (⟨x.key, y.pt, y.tags⟩, v))[k]? = some (⟨x.key, y.pt, y.tags⟩, v) := by rw [List.getElem?_set_self hp]
    rw [(flatS_set hk1).2.1 x.pt u, List.set_set] at s2
    have s3 := (s2.stored (k * 3 + 2) (.int .i64 x.tags)).1
    have hk2 : (p.set k (⟨x.key, x.pt, y.tags⟩, u))[k]? = some (⟨x.key, x.pt, y.tags⟩, u) := by rw [List.getElem?_set_self hp]
    rw [(flatS_set hk2).2.2 x.tags, List.set_set] at s3
    simpa using s3
  · rcases List.mem_or_eq_of_mem_set hz with hz | rfl
    · exact (h.pts z hz).keep hb hB
    · exact hq.keep hb hB

/-! Sorting pairs and sorting items. -/
def ltP (kind : Int) (c : List Int) (a b : It × Value) : Bool := itB kind c a.1 b.1
def zeroP : It × Value := (It.zero, .slice none 0 0)
theorem insPos_map {α β : Type} (f : α → β) (lt : β → β → Bool) (d h : α) (l : List α) : ∀ n, insPos (fun a b => lt (f a) (f b)) d h l n = insPos lt (f d) (f h) (l.map f) n
  | 0 => rfl
  | n + 1 => by
    have e : ((l.map f)[n]?.getD (f d)) = f (l[n]?.getD d) := by rw [List.getElem?_map]; cases l[n]? <;> rfl
    rw [insPos, insPos, insPos_map f lt d h l n, e]
theorem insL_map {α β : Type} (f : α → β) (lt : β → β → Bool) (d h : α) (l : List α) : (insL (fun a b => lt (f a) (f b)) d h l).map f = insL lt (f d) (f h) (l.map f) := by
  rw [insL, insL, insPos_map, List.length_map, List.map_append, List.map_take, List.map_cons, List.map_drop]
theorem insTo_map {α β : Type} (f : α → β) (lt : β → β → Bool) (d : α) (l : List α) : ∀ n, (insTo (fun a b => lt (f a) (f b)) d l n).map f = insTo lt (f d) (l.map f) n
  | 0 => rfl
  | n + 1 => by
    have e : ((l.map f)[n]?.getD (f d)) = f (l[n]?.getD d) := by rw [List.getElem?_map]; cases l[n]? <;> rfl
    rw [insTo, insTo, insL_map, insTo_map f lt d l n, e]
theorem insP_byD (kind : Int) (c : List Int) (p : List (It × Value)) : (insTo (ltP kind c) zeroP p p.length).map Prod.fst = byD kind c (p.map Prod.fst) := by
  have := insTo_map Prod.fst (itB kind c) zeroP p p.length
  rw [byD, List.length_map]
  exact this
theorem insTo_lenP {α : Type} (lt : α → α → Bool) (d : α) (l : List α) : ∀ n, (insTo lt d l n).length = n
  | 0 => rfl
  | n + 1 => by rw [insTo, insL_len, insTo_lenP]
end Go.Proofs.Ytebiaodjodlloaa
namespace Go.Proofs.Ytebiaodjodlloaa
set_option linter.unusedVariables false
open Go Go.RowKit

theorem ShP.grow {w w' : World} {lo B : Nat} {v : Value} {p : List (It × Value)} (h : ShP w lo B v p) (g : Grow w w') (hB : B ≤ w.heap.size) : ShP w' lo B v p :=
  ⟨ownsRow_of_block h.own fun k hk => Below.block g k (h.own.lt k hk).2, fun q hq => (h.pts q hq).keep g hB⟩
theorem ShP.some_ {w : World} {lo B : Nat} {v : Value} {p : List (It × Value)} {q : It × Value} (h : ShP w lo B v (p ++ [q])) : ∃ g c, v = .slice (some ⟨g, 0, none⟩) (p.length + 1) c ∧ lo ≤ g ∧ g < w.heap.size ∧ p.length + 1 ≤ c ∧ c ≤ maxLen := by
  obtain ⟨A, c, rfl, hc, hm⟩ := h.open_
  obtain ⟨g, rfl, _, h1, h2⟩ := h.form (by simp)
  exact ⟨g, c, by simp, h1, h2, by simpa using hc, hm⟩
set_option maxRecDepth 20000 in
set_option maxHeartbeats 3200000 in
theorem spec_byDist (kind : Int) (B : Option Addr) (d : Nat) (xs : List Int) (p : List (It × Value)) (A : Option Addr) (c : Nat) (w : World) (base : Nat) (hrow : RowI w A p) (hpt : ∀ q ∈ p, PtAt w base q) (rx : RI w base B xs) (vx : vecB xs 4 = true) (vp : ∀ q ∈ p, vecB q.1.pt 4 = true) (hl : p.length ≤ 1000) (hb : base ≤ w.heap.size) :
    Calls Try.prog 77 #[.slice A p.length c, .int .i64 kind, .slice B xs.length d] w fun e w' => ∃ v s, e = .returned v ∧ s.Perm p ∧ s.map Prod.fst = byD kind xs (p.map Prod.fst) ∧ ShP w' w.heap.size base v s ∧ Grow w w' := by
  go_enter Try.func77, Try.ntmps77
  go_wp2_with fail
  go_loopw [7, 8] (fun v i wr => ∃ n : Nat, n ≤ p.length ∧ i = .int .i64 n ∧ ShP wr w.heap.size base v (insTo (ltP kind xs) zeroP p n) ∧ Below w.heap.size w wr) (fun _ i _ => p.length - (intOf i).toNat)
  case atStart => exact ⟨0, Nat.zero_le _, rfl, ShP.lit w base, (Below.refl _ _).alloc (Nat.le_refl _) _⟩
  case round =>
    obtain ⟨n, hn, rfl, hown, hbl⟩ := hrel
    have hsz := hbl.size
    obtain ⟨s, hs⟩ : ∃ s, s = insTo (ltP kind xs) zeroP p n := ⟨_, rfl⟩
    have hsl : s.length = n := by rw [hs, insTo_lenP]
    rw [← hs] at hown
    have HS := Lib.hid hs
    have HL := Lib.hid hsl
    clear hs hsl
    by_cases hlt : n < p.length
    · obtain ⟨q, hq⟩ : ∃ q, p[n]? = some q := ⟨_, List.getElem?_eq_getElem hlt⟩
      have hqm := List.mem_of_getElem? hq
      obtain ⟨ad, rfl, had, c0, c1, c2⟩ := (hrow.grow hbl).at_ hq
      obtain ⟨x, u⟩ := q
      have hptq := (hpt _ hqm).keep hbl hb
      obtain ⟨Aq, cq, e, hcq1, hcq2, rq, fq1, fq2⟩ := hptq
      simp only at e c0 c1 c2 rq
      subst e
      have vq := vp _ hqm
      have hsn : s.length ≤ 1000 := by rw [HL.out]; omega
      have gA : Grow wr (wr.alloc (.cells #[.int .i64 x.key, .slice Aq x.pt.length cq, .int .i64 x.tags] 43)) := (Below.refl _ _).alloc (Nat.le_refl _) _
      have hownA := hown.grow gA (by omega)
      have hone := RowI.one wr (x, .slice Aq x.pt.length cq)
      have hpA : ∀ z ∈ [(x, Value.slice Aq x.pt.length cq)], PtAt (wr.alloc (.cells #[.int .i64 x.key, .slice Aq x.pt.length cq, .int .i64 x.tags] 43)) base z := fun z hz => by
        rw [List.mem_singleton] at hz
        subst hz
        exact ((hpt _ hqm).keep hbl hb).keep gA (by omega)
      have HQ := Lib.hid hq
      have hszA := gA.size
      clear hq hown
      go_upto_region 6 with (at_builtin; go_must (refine wpList_copyS (p2 := [(x, .slice Aq x.pt.length cq)]) rfl _ _ rfl (by rfl) (by rfl) rfl hownA hone hpA hb (by omega) hsn (by simp) ?_); intro v3 w3 s3 b3; obtain ⟨g, c3, rfl, hg1, hg2, hc3, hm3⟩ := s3.some_)
      have hb3 : Below w.heap.size w w3 := Below.trans (below_grow hbl gA hsz) b3
      have e3 := b3.size
      have hsi : s ++ [(x, .slice Aq x.pt.length cq)] = insAt s (x, .slice Aq x.pt.length cq) s.length := (insAt_end _ _).symm
      rw [hsi] at s3
      clear hsi hownA hone hpA
      rw [HL.out] at s3 hc3 ⊢
      have hstep : insTo (ltP kind xs) zeroP p (n + 1) = insL (ltP kind xs) zeroP (x, .slice Aq x.pt.length cq) s := by rw [insTo, HQ.out, ← HS.out]; rfl
      have HST := Lib.hid hstep
      have hn1 : n + 1 ≤ p.length := by omega
      have hx3 : PtAt w base (x, .slice Aq x.pt.length cq) := hpt _ hqm
      have hway0 := OnWay.start (ltP kind xs) zeroP (x, .slice Aq x.pt.length cq) s
      rw [HL.out] at hway0
      obtain ⟨hv, hhv⟩ : ∃ hv : It → Ht, ∀ z, hitOf kind xs z = hv z := ⟨_, fun _ => rfl⟩
      have HV := Lib.hid hhv
      clear hstep c0 c1 c2 gA hszA b3 hhv
      go_wp2_with fail
      go_loopw [9] (fun i wr => ∃ m : Nat, i = .int .i64 m ∧ OnWay (ltP kind xs) zeroP (x, .slice Aq x.pt.length cq) s m ∧ ShP wr w.heap.size base (.slice (some ⟨g, 0, none⟩) (n + 1) c3) (insAt s (x, .slice Aq x.pt.length cq) m) ∧ Below w.heap.size w wr) (fun i _ => (intOf i).toNat)
      case atStart => exact ⟨n, by go_num, hway0, s3, hb3⟩
      case round =>
        clear s3 hb3 hway0 hbl rq
        obtain ⟨m, rfl, hway, hown, hbl⟩ := hrel
        have hsz := hbl.size
        have hml := hway.1
        have hil := insAt_len s (x, Value.slice Aq x.pt.length cq) hml
        rw [HL.out] at hil
        rcases Nat.eq_zero_or_pos m with rfl | hm0
        · have hz := hway.zero
          rw [hz, ← HST.out] at hown
          clear hz hil
          go_wp2_with fail
          go_quiet (fail)
          go_wp2_with fail
          go_roundw
          case rel => exact ⟨n + 1, by omega, by go_num, hown.grow (Grow.drewN _ _) (by omega), below_grow hbl (Grow.drewN _ _) hsz⟩
          case measure => simp [intOf]; omega
        · obtain ⟨j, rfl⟩ : ∃ j, m = j + 1 := ⟨m - 1, by omega⟩
          have hj : j < s.length := by omega
          obtain ⟨y, hy⟩ : ∃ y, s[j]? = some y := ⟨_, List.getElem?_eq_getElem hj⟩
          have hyi : (insAt s (x, Value.slice Aq x.pt.length cq) (j + 1))[j]? = some y := by rw [insAt_pre s _ (Nat.lt_succ_self j) hml]; exact hy
          have hhi := insAt_at s (x, Value.slice Aq x.pt.length cq) hml
          obtain ⟨yx, yu⟩ := y
          obtain ⟨Ay, cy, ey, hcy1, hcy2, ry, fy1, fy2⟩ := hown.pts _ (List.mem_of_getElem? hyi)
          obtain ⟨Ax, cx, ex, hcx1, hcx2, rq, _, _⟩ := hown.pts _ (List.mem_of_getElem? hhi)
          simp only at ey ex ry rq
          subst ey
          have hyp : (yx, Value.slice Ay yx.pt.length cy) ∈ p := by
            have h1 := List.mem_of_getElem? hy
            rw [HS.out] at h1
            have h2 := (insTo_perm (ltP kind xs) zeroP p (show n ≤ p.length by omega)).mem_iff.1 h1
            exact List.mem_of_mem_take h2
          have vy := vp _ hyp
          have hb' : base ≤ wr.heap.size := by omega
          have rqx : RI wr base Aq x.pt := by injection ex with e1; rw [e1]; exact rq
          have rxw : RI wr base B xs := rx.below (Below.mono hbl hb)
          have q0 : ∀ z : From wr, z.w.cell? ⟨g, (j + 1) * 3, none⟩ = some (.int .i64 x.key) := fun z => ((hown.grow z.g hb').cell_ hil.symm hhi).1
          have q1 : ∀ z : From wr, z.w.cell? ⟨g, (j + 1) * 3 + 1, none⟩ = some (.slice Aq x.pt.length cq) := fun z => ((hown.grow z.g hb').cell_ hil.symm hhi).2.1
          have q2 : ∀ z : From wr, z.w.cell? ⟨g, (j + 1) * 3 + 2, none⟩ = some (.int .i64 x.tags) := fun z => ((hown.grow z.g hb').cell_ hil.symm hhi).2.2.1
          have q3 : ∀ z : From wr, z.w.cell? ⟨g, j * 3, none⟩ = some (.int .i64 yx.key) := fun z => ((hown.grow z.g hb').cell_ hil.symm hyi).1
          have q4 : ∀ z : From wr, z.w.cell? ⟨g, j * 3 + 1, none⟩ = some (.slice Ay yx.pt.length cy) := fun z => ((hown.grow z.g hb').cell_ hil.symm hyi).2.1
          have q5 : ∀ z : From wr, z.w.cell? ⟨g, j * 3 + 2, none⟩ = some (.int .i64 yx.tags) := fun z => ((hown.grow z.g hb').cell_ hil.symm hyi).2.2.1
          have H1 := fun (x' : It) (A' : Option Addr) (c' : Nat) (h : RI wr base A' x'.pt) (v : vecB x'.pt 4 = true) (z : From wr) => From.call (spec_hit x' A' B c' d kind xs z.w ((h.more hb').grow z.g) ((rxw.more hb').grow z.g) v vx)
          have H3 := fun (b : Bool) (h1 h2 : Ht) (hb : htB h1 h2 = b) (z : From wr) => From.call (by have := spec_nearer h1 h2 z.w; rw [hb] at this; exact this)
          have hhv := HV.out
          have hlt' : ltP kind xs (x, Value.slice Aq x.pt.length cq) (yx, Value.slice Ay yx.pt.length cy) = htB (hv x) (hv yx) := by rw [← hhv, ← hhv]; rfl
          simp only [hhv] at H1
          have i1 : ((j + 1 : Nat) : Int) < ((n + 1 : Nat) : Int) := by rw [HL.out] at hml; omega
          have i2 : (j : Int) < ((n + 1 : Nat) : Int) := by omega
          have i3 : IntKind.i64.wrap (((j + 1 : Nat) : Int) - 1) = (j : Int) := by rw [IntKind.wrap_i64]; rw [HL.out] at hml; omega
          have i4 : decide ((0 : Int) < ((j + 1 : Nat) : Int)) = true := by simp
          have HY := Lib.hid hy
          have HLT := Lib.hid hlt'
          clear hy hhv hlt' ex
          cases hlt : htB (hv x) (hv yx)
          · have hst := hway.stop HY.out (HLT.out.trans hlt)
            rw [hst, ← HST.out] at hown
            clear hst
            go_wp2_with fail
            refine wp_region_from (by kernel_rfl) (by kernel_rfl) ?_
            repeat (go_big_quiet_step (first | (go_at_call 95; exact H1 _ _ _ (by first | exact rqx | exact ry) (by first | exact vq | exact vy) _) | (go_at_call 94; exact H3 _ _ _ hlt _)))
            refine wpQuiet_nil ?_
            intro w2 g2
            go_wp2_with fail
            go_roundw
            case rel => exact ⟨n + 1, by omega, by go_num, hown.grow g2 hb', below_grow hbl g2 hsz⟩
            case measure => simp [intOf]; omega
          · go_wp2_with fail
            refine wp_region_from (by kernel_rfl) (by kernel_rfl) ?_
            repeat (go_big_quiet_step (first | (go_at_call 95; exact H1 _ _ _ (by first | exact rqx | exact ry) (by first | exact vq | exact vy) _) | (go_at_call 94; exact H3 _ _ _ hlt _)))
            refine wpQuiet_nil ?_
            intro w2 g2
            have hnext := hway.next HY.out (HLT.out.trans hlt)
            have hsw := insAt_swap s (x, Value.slice Aq x.pt.length cq) (yx, Value.slice Ay yx.pt.length cy) hml HY.out
            have HN := Lib.hid hnext
            have HSW := Lib.hid hsw
            have own2 := hown.grow g2 hb'
            have hb2 := below_grow hbl g2 hsz
            have e2 := g2.size
            clear q0 q1 q2 q3 q4 q5 H1 H3 hown hbl hnext hsw
            obtain ⟨wa, hwa⟩ : ∃ wa, wa = w2.alloc (.cells #[.int .i64 x.key, .slice Aq x.pt.length cq, .int .i64 x.tags] 43) := ⟨_, rfl⟩
            have go : Grow w2 wa := by rw [hwa]; exact (Below.refl _ _).alloc (Nat.le_refl _) _
            have ko : Blk wa w2.heap.size 43 #[.int .i64 x.key, .slice Aq x.pt.length cq, .int .i64 x.tags] := by rw [hwa]; exact Blk.new _ _ _
            have ho := own2.grow go (by omega)
            have hbo := below_grow hb2 go hb2.size
            have hbw : Below base w wa := Below.mono hbo hb
            obtain ⟨p0, p1, p2, _, _, _⟩ := own2.cell_ hil.symm hhi
            obtain ⟨r0, r1, r2, f0, f1, f2⟩ := ho.cell_ hil.symm hhi
            obtain ⟨t0, t1, t2, _, _, _⟩ := ho.cell_ hil.symm hyi
            obtain ⟨wb, hwb⟩ : ∃ wb, wb = ((wa.setCell ⟨g, (j + 1) * 3, none⟩ (.int .i64 yx.key)).setCell ⟨g, (j + 1) * 3 + 1, none⟩ (.slice Ay yx.pt.length cy)).setCell ⟨g, (j + 1) * 3 + 2, none⟩ (.int .i64 yx.tags) := ⟨_, rfl⟩
            have o1 : ShP wb w.heap.size base (.slice (some ⟨g, 0, none⟩) (n + 1) c3) ((insAt s (x, Value.slice Aq x.pt.length cq) (j + 1)).set (j + 1) (yx, Value.slice Ay yx.pt.length cy)) := by
              rw [hwb]; exact ho.setItem hil.symm hb hhi (q := (yx, Value.slice Ay yx.pt.length cy)) ((hpt _ hyp).keep hbw (Nat.le_refl _))
            have hl1 : ((insAt s (x, Value.slice Aq x.pt.length cq) (j + 1)).set (j + 1) (yx, Value.slice Ay yx.pt.length cy)).length = n + 1 := by rw [List.length_set, hil]
            have hL1 : ((insAt s (x, Value.slice Aq x.pt.length cq) (j + 1)).set (j + 1) (yx, Value.slice Ay yx.pt.length cy))[j]? = some (yx, Value.slice Ay yx.pt.length cy) := by rw [List.getElem?_set_ne (by omega)]; exact hyi
            obtain ⟨v0, v1, v2, h0, h1, h2⟩ := o1.cell_ hl1.symm hL1
            have hg2' : g < w2.heap.size := (own2.own.lt g rfl).2
            have go1 : w2.heap.size ≠ g := by omega
            have k2 : Blk wb w2.heap.size 43 #[.int .i64 x.key, .slice Aq x.pt.length cq, .int .i64 x.tags] := by
              rw [hwb]; exact ((ko.far (p := ⟨g, (j + 1) * 3, none⟩) go1 (.int .i64 yx.key)).far (p := ⟨g, (j + 1) * 3 + 1, none⟩) go1 (.slice Ay yx.pt.length cy)).far (p := ⟨g, (j + 1) * 3 + 2, none⟩) go1 (.int .i64 yx.tags)
            have m0 : wb.cell? ⟨w2.heap.size, 0, none⟩ = some (.int .i64 x.key) := k2.cell 0
            have m1 : wb.cell? ⟨w2.heap.size, 1, none⟩ = some (.slice Aq x.pt.length cq) := k2.cell 1
            have m2 : wb.cell? ⟨w2.heap.size, 2, none⟩ = some (.int .i64 x.tags) := k2.cell 2
            have hb1 : Below w.heap.size w wb := by
              rw [hwb]; exact ((hbo.setCell (p := ⟨g, (j + 1) * 3, none⟩) hg1 (.int .i64 yx.key)).setCell (p := ⟨g, (j + 1) * 3 + 1, none⟩) hg1 (.slice Ay yx.pt.length cy)).setCell (p := ⟨g, (j + 1) * 3 + 2, none⟩) hg1 (.int .i64 yx.tags)
            have o2 := o1.setItem hl1.symm hb hL1 (q := (x, Value.slice Aq x.pt.length cq)) (hx3.keep hb1 hb)
            rw [HSW.out] at o2
            have hb3 := ((hb1.setCell (p := ⟨g, j * 3, none⟩) hg1 (.int .i64 x.key)).setCell (p := ⟨g, j * 3 + 1, none⟩) hg1 (.slice Aq x.pt.length cq)).setCell (p := ⟨g, j * 3 + 2, none⟩) hg1 (.int .i64 x.tags)
            simp only at v0 v1 v2 t0 t1 t2 r0 r1 r2 p0 p1 p2 o2
            have HWA := Lib.hid hwa
            have HWB := Lib.hid hwb
            clear o1 hL1 hl1 k2 ko ho hwa hwb
            go_upto_region 10 with fail
            rw [← HWA.out]
            clear p0 p1 p2
            go_upto_region 11 with fail
            rw [← HWB.out]
            clear r0 r1 r2 f0 f1 f2 t0 t1 t2
            go_wp2_with fail
            go_roundw
            case rel => exact ⟨j, rfl, HN.out, o2, hb3⟩
            case measure => simp [intOf]
    · obtain rfl : n = p.length := by omega
      obtain ⟨A7, c7, rfl, hc7, hm7⟩ := hown.open_
      go_wp2_with fail
      go_ret
      refine ⟨_, s, rfl, ?_, ?_, hown, hbl⟩
      · rw [HS.out]
        have := insTo_perm (ltP kind xs) zeroP p (Nat.le_refl p.length)
        rwa [List.take_length] at this
      · rw [HS.out]; exact insP_byD kind xs p
end Go.Proofs.Ytebiaodjodlloaa
namespace Go.Proofs.Ytebiaodjodlloaa
set_option linter.unusedVariables false
open Go Go.RowKit

def XV (v : Value) (k : Nat) : Prop := v.ownBlock = some k
theorem xv_back {s k : Nat} {v v' : Value} (hn : NewB s v v') (hk : k < s) (h : XV v' k) : XV v k := by
  rcases hn with hn | ⟨g, hg, hg2⟩
  · exact hn.symm.trans h
  · have h' : v'.ownBlock = some k := h
    rw [hg] at h'; injection h' with h'; omega
theorem grow_far {kind : Int} {n k : Nat} {top : It} {rs S : List It} {rad : Int} {N : List Nd} (hS : S = byD kind top.pt rs) (hk : k = halfN rs.length) (hr : rad = radOf kind top.pt S) (h0 : 0 < k) (hks : k < S.length) (hn : S.length ≤ n) :
    N ++ (treeOf kind (n + 1) (top :: rs)).nodes N.length = (N ++ ((⟨top.key, rad, (N.length : Int) + 1, (N.length : Int) + 1 + k⟩ : Nd) :: (treeOf kind n (S.take k)).nodes ((N.length : Int) + 1))) ++ (treeOf kind n (S.drop k)).nodes ((N.length : Int) + 1 + k) := by
  have hl : (S.take k).length = k := by rw [List.length_take]; omega
  have h1 : (treeOf kind n (S.take k)).size = k := by rw [tree_size kind (by omega), hl]
  have e := built_list (N := N) hS hk rfl rfl hr (near := (N.length : Int) + 1) (by rw [tree_ix kind (n := n) (l := S.take k) (by omega), if_neg (by omega)]) (far := (N.length : Int) + 1 + k) (by rw [h1, tree_ix kind (n := n) (l := S.drop k) (by rw [List.length_drop]; omega), if_neg (by rw [List.length_drop]; omega)])
  rw [e, h1]; simp
theorem grow_last {kind : Int} {n k : Nat} {top : It} {rs S : List It} {rad : Int} {N : List Nd} (hS : S = byD kind top.pt rs) (hk : k = halfN rs.length) (hr : rad = radOf kind top.pt S) (h0 : 0 < k) (hks : k = S.length) (hn : S.length ≤ n) :
    N ++ (treeOf kind (n + 1) (top :: rs)).nodes N.length = N ++ ((⟨top.key, rad, (N.length : Int) + 1, -1⟩ : Nd) :: (treeOf kind n (S.take k)).nodes ((N.length : Int) + 1)) := by
  have hl : (S.take k).length = k := by rw [List.length_take]; omega
  have hd : S.drop k = [] := by rw [hks, List.drop_length]
  have e := built_list (N := N) hS hk rfl rfl hr (near := (N.length : Int) + 1) (by rw [tree_ix kind (n := n) (l := S.take k) (by omega), if_neg (by omega)]) (far := -1) (by rw [hd, treeOf_nil]; rfl)
  rw [e, hd, treeOf_nil]; simp [Tr.nodes]
/-- What a call of the reference's grow shows. -/
def GrownN (kind : Int) (base lo : Nat) (n : Nat) : Prop := ∀ (p : List (It × Value)) (A : Option Addr) (c : Nat) (N : List Nd) (v : Value) (w : World),
    p.length ≤ n → p.length ≤ c → c ≤ maxLen → N.length + p.length ≤ 1000 → KeysD (p.map Prod.fst) → (∀ q ∈ p, vecB q.1.pt 4 = true) → RowI w A p → (∀ q ∈ p, PtAt w base q) →
    OwnK nodeP w lo w.heap.size v N → base ≤ lo → lo ≤ w.heap.size →
    Calls Try.prog 45 #[v, .slice A p.length c, .int .i64 kind] w
      fun e w' => ∃ v', e = .returned v' ∧ OwnK nodeP w' lo w'.heap.size v' (N ++ (treeOf kind n (p.map Prod.fst)).nodes N.length) ∧
        FrB w.heap.size (XV v) w w' ∧ NewB w.heap.size v v'
theorem grow_nil (v : Value) (A : Option Addr) (c : Nat) (kind : Int) (w : World) :
    Calls Try.prog 45 #[v, .slice A 0 c, .int .i64 kind] w fun e w' => e = .returned v ∧ w = w' := by
  go_enter Try.func45, Try.ntmps45
  go_wp2_with fail
  go_ret
  exact ⟨rfl, rfl⟩

set_option maxRecDepth 20000 in
set_option maxHeartbeats 3200000 in
theorem grow_cons {kind : Int} {base lo n : Nat} (ih : GrownN kind base lo n) (q : It × Value) (r : List (It × Value)) (A : Option Addr) (c : Nat) (N : List Nd) (v : Value) (w : World)
    (hr : 0 < r.length) (hn : r.length ≤ n) (hc : r.length + 1 ≤ c) (hcm : c ≤ maxLen) (hN : N.length + (r.length + 1) ≤ 1000) (hkd : KeysD (q.1 :: r.map Prod.fst)) (hv : ∀ x ∈ q :: r, vecB x.1.pt 4 = true) (hrow : RowI w A (q :: r)) (hpt : ∀ x ∈ q :: r, PtAt w base x)
    (ho : OwnK nodeP w lo w.heap.size v N) (hb : base ≤ lo) (hlw : lo ≤ w.heap.size) :
    Calls Try.prog 45 #[v, .slice A (r.length + 1) c, .int .i64 kind] w
      fun e w' => ∃ v', e = .returned v' ∧ OwnK nodeP w' lo w'.heap.size v' (N ++ (treeOf kind (n + 1) (q.1 :: r.map Prod.fst)).nodes N.length) ∧
        FrB w.heap.size (XV v) w w' ∧ NewB w.heap.size v v' := by
  obtain ⟨ad, rfl, had, c0, c1, c2⟩ := hrow.head
  obtain ⟨Aq, cq, hq2, _, _, rq, hfq, _⟩ := hpt q (List.mem_cons_self ..)
  rw [hq2] at c1
  obtain ⟨top, htop⟩ : ∃ t : It, t = q.1 := ⟨_, rfl⟩
  rw [← htop] at c0 c1 c2 rq hkd hfq ⊢
  have hfk : ∀ z ∈ nodeP.f ⟨top.key, 0, -1, -1⟩, Fits z := fun z hz => by
    simp [nodeP] at hz
    rcases hz with rfl | rfl | rfl
    · exact hfq
    · exact ⟨by omega, by omega⟩
    · exact ⟨by omega, by omega⟩
  have hvt : vecB top.pt 4 = true := by rw [htop]; exact hv q (List.mem_cons_self ..)
  obtain ⟨w1, hw1⟩ : ∃ w1, w1 = w.alloc (.cells #[.int .i64 top.key, .slice Aq top.pt.length cq, .int .i64 top.tags] 43) := ⟨_, rfl⟩
  have b1 : Blk w1 w.heap.size 43 #[.int .i64 top.key, .slice Aq top.pt.length cq, .int .i64 top.tags] := by rw [hw1]; exact Blk.new _ _ _
  have g1 : Grow w w1 := by rw [hw1]; exact (Below.refl _ _).alloc (Nat.le_refl _) _
  have hz1 : w1.heap.size = w.heap.size + 1 := by rw [hw1]; simp
  have HW := Lib.hid hw1
  have hvr : ∀ x ∈ r, vecB x.1.pt 4 = true := fun x hx => hv x (List.mem_cons_of_mem _ hx)
  have hkr : KeysD (r.map Prod.fst) := (List.pairwise_cons.1 hkd).2
  have hcut0 := hrow.cut (k := 1) (cap := c) (by simp) (by simpa using hc)
  simp only [List.drop_succ_cons, List.drop_zero, Option.map_some] at hcut0
  rw [if_neg (show c ≠ 1 by omega), show ad.add (1 * 3) = ⟨ad.block, ad.off + 3, none⟩ from rfl] at hcut0
  have hc2 : 1 < c := by omega
  have hc1 : ¬ c = 1 := by omega
  have j1 : (1 : Int) ≤ (r.length : Int) + 1 := by omega
  have j2 : (r.length : Int) + 1 ≤ (c : Int) := by omega
  have j3 : (1 : Int) ≤ (c : Int) := by omega
  have gd : Grow w w1.drew := Grow.trans g1 (Grow.drew w1)
  have HB := spec_byDist kind Aq cq top.pt r _ (c - 1) w1.drew base (hcut0.grow gd) (fun x hx => (hpt x (List.mem_cons_of_mem _ hx)).keep gd (by omega)) (rq.below (Below.mono gd (by omega))) hvt hvr (by omega) (by show base ≤ w1.heap.size; omega)
  have HT := Lib.hid htop
  have t1 : w1.cell? ⟨w.heap.size, 1, none⟩ = some (.slice Aq top.pt.length cq) := b1.cell 1
  have hlt := b1.lt
  have Hz1 := Lib.hid hz1
  clear hw1 hv hpt hrow hq2 htop hcut0 hz1
  go_enter Try.func45, Try.ntmps45
  go_upto_region 4 with fail
  rw [← HW.out]
  go_region_held3 (fun w' => w'.cell? ⟨w.heap.size, 1, none⟩ = some (.slice Aq top.pt.length cq))
    (first | (exact t1) | assumption | go_keep)
    (first | (go_at_call 77; refine HB.mono ?_; rintro e w3 ⟨v3, s, rfl, hsp, hsd, s3, g3⟩; have y3 := (Below.cell g3 (p := ⟨w.heap.size, 1, none⟩) hlt).trans t1))
  rename_i hH
  clear hH HB
  have g13 : Grow w1 w3 := Grow.trans (Grow.drew w1) g3
  have s3' : ShP w3 w1.heap.size base v3 s := s3
  clear s3
  obtain ⟨A4, c4, rfl, hl4, hm4⟩ := s3'.open_
  have g03 : Grow w w3 := Grow.trans g1 g13
  have e3 := g13.size
  have hsl := hsp.length_eq
  have hp0 : 0 < halfN s.length := halfN_pos (by omega)
  obtain ⟨m, hm⟩ : ∃ m, m + 1 = halfN s.length := ⟨halfN s.length - 1, by omega⟩
  have hm1 : m < s.length := by have := halfN_le s.length; omega
  obtain ⟨k, hk⟩ : ∃ k, k = m + 1 := ⟨_, rfl⟩
  have hq : Int.tdiv ((s.length : Int) + 1) 2 = (k : Int) := by rw [Int.tdiv_eq_ediv_of_nonneg (by omega)]; unfold halfN at hm; omega
  have hk0 : 0 < k := by omega
  have hk0' : decide ((k : Int) > 0) = true := by simp; omega
  have hks : k ≤ s.length := by omega
  have i3 : IntKind.i64.wrap (m : Int) = (m : Int) := by rw [IntKind.wrap_i64]; omega
  have i3b : (k : Int) - 1 = (m : Int) := by omega
  have HK := Lib.hid hk
  have HM := Lib.hid hm
  have HS := Lib.hid hsl
  have HD := Lib.hid hsd
  have hs1 : s.length ≤ 1000 := by omega
  obtain ⟨An, cn, rfl, _, _, _⟩ := ho.open_
  have hvo : ∀ g, (Value.slice An N.length cn).ownBlock = some g → lo ≤ g ∧ g < w.heap.size := ho.lt
  have bt3 := b1.below g13 hlt
  have t30 : w3.cell? ⟨w.heap.size, 0, none⟩ = some (.int .i64 top.key) := bt3.cell 0
  obtain ⟨w5, hw5⟩ : ∃ w5, w5 = w3.alloc (.cells #[.int .i64 top.key, .int .i64 0, .int .i64 (-1), .int .i64 (-1)] 30) := ⟨_, rfl⟩
  have b5 : Blk w5 w3.heap.size 30 #[.int .i64 top.key, .int .i64 0, .int .i64 (-1), .int .i64 (-1)] := by rw [hw5]; exact Blk.new _ _ _
  have g35 : Grow w3 w5 := by rw [hw5]; exact (Below.refl _ _).alloc (Nat.le_refl _) _
  have n0 : w5.cell? ⟨w3.heap.size, 0, none⟩ = some (.int .i64 top.key) := b5.cell 0
  have n1 : w5.cell? ⟨w3.heap.size, 1, none⟩ = some (.int .i64 0) := b5.cell 1
  have n2 : w5.cell? ⟨w3.heap.size, 2, none⟩ = some (.int .i64 (-1)) := b5.cell 2
  have n3 : w5.cell? ⟨w3.heap.size, 3, none⟩ = some (.int .i64 (-1)) := b5.cell 3
  have g05 : Grow w w5 := Grow.trans g03 g35
  have e5 := g35.size
  have ho5 := ho.grow g05
  have HW5 := Lib.hid hw5
  clear hk hp0 hm hsl hsd hw5 bt3 HW
  have hNl : N.length ≤ 1000 := by omega
  have hlo5 : lo ≤ w5.heap.size := by have := g05.size; omega
  go_upto_region 7 with fail
  rw [← HW5.out]
  go_upto_region 9 with (at_builtin; go_must (refine wpList_pushK (y := ⟨top.key, 0, -1, -1⟩) node_in rfl _ _ rfl (by rfl) (by rfl) rfl ho5 hlo5 (by omega) hfk ?_); intro v6 w6 o6 b6 gr6 nb6; obtain ⟨g6, c6, rfl, hg6, hh6, hc6⟩ := own_some o6)
  have NB6 : NewB w5.heap.size (.slice An N.length cn) (.slice (some ⟨g6, 0, none⟩) (N.length + 1) c6) := nb6
  have F56 : FrB w5.heap.size (XV (.slice An N.length cn)) w5 w6 := FrB.of_grown gr6 (Nat.le_refl _) (fun k hk => hk)
  have e6 := F56.size
  have hX : ∀ g, w.heap.size ≤ g → ¬ XV (.slice An N.length cn) g := fun g hg hx => by have := (hvo g hx).2; omega
  have hXb : ∀ g, g < base → ¬ XV (.slice An N.length cn) g := fun g hg hx => by have := (hvo g hx).1; omega
  have e05 := g05.size
  have s5 := s3'.grow g35 (by omega)
  have s6 := s5.fr F56 (fun g hg => ⟨(s5.own.lt g hg).2, hX g (by have := (s5.own.lt g hg).1; have := Hz1.out; omega)⟩) (by omega) hXb
  have y6 : w6.cell? ⟨w.heap.size, 1, none⟩ = some (.slice Aq top.pt.length cq) := (F56.cell (p := ⟨w.heap.size, 1, none⟩) (by show w.heap.size < _; have := Hz1.out; omega) (hX _ (Nat.le_refl _))).trans ((Below.cell g35 (p := ⟨w.heap.size, 1, none⟩) (by show w.heap.size < _; have := Hz1.out; omega)).trans y3)
  have hg6k : ∀ g, w.heap.size ≤ g → g < w5.heap.size → g6 ≠ g := fun g h1 h2 e => by
    rcases NB6 with h | ⟨g', hg', hg2⟩
    · have h' : (Value.slice An N.length cn).ownBlock = some g6 := h.symm
      have := (hvo _ h').2; omega
    · have h' : some g6 = some g' := hg'
      injection h' with h'; omega
  obtain ⟨ym, hym⟩ : ∃ ym, s[m]? = some ym := ⟨_, List.getElem?_eq_getElem hm1⟩
  have hymem := List.mem_of_getElem? hym
  obtain ⟨Am, cm, eqm, _, _, rm, _, _⟩ := s6.pts _ hymem
  obtain ⟨a4, rfl, ha4, _, x1, _⟩ := s6.row.2.at_ hym
  rw [eqm] at x1
  have vm : vecB ym.1.pt 4 = true := hvr _ (hsp.mem_iff.1 hymem)
  have g56b : Below base w5 w6 := F56.below (by omega) hXb
  have rt6 : RI w6 base Aq top.pt := (rq.below (Below.mono g05 (by omega))).below g56b
  have D := fun (c d : Nat) (W : World) (L : Lays w6 W) => spec_dist kind Am Aq ym.1.pt top.pt c d W ((rm.more (by omega)).lays L) ((rt6.more (by omega)).lays L) vm hvt
  obtain ⟨rad, hrad⟩ : ∃ rad, rad = distL kind ym.1.pt top.pt 4 := ⟨_, rfl⟩
  rw [← hrad] at D
  have ha4' : w1.heap.size ≤ a4.block ∧ a4.block < w5.heap.size := by
    obtain ⟨g4, eg4, _, h1, h2⟩ := s5.form (by omega)
    injection eg4 with eg4
    rw [eg4]; exact ⟨h1, h2⟩
  have hga : g6 ≠ (a4.add (m * 3)).block := by
    rw [block_of_add]
    exact hg6k _ (by have := Hz1.out; omega) ha4'.2
  have hgt : g6 ≠ w.heap.size := hg6k _ (Nat.le_refl _) (by have := Hz1.out; omega)
  have f6 := o6.frozenAt (N.length * 4 + 1) (by simp)
  have x6 : w6.cell? ⟨g6, N.length * 4 + 1, none⟩ = some (.int .i64 0) := o6.cellAt (i := N.length) (j := 1) (x := ⟨top.key, 0, -1, -1⟩) (by simp) (by simp) rfl
  have hP := Lib.hid hsp
  have HY := Lib.hid hym
  have HR := Lib.hid hrad
  clear hsp hym hrad eqm b5 n0 n1 n2 n3 t30 y3 HW5
  have i0 : (0 : Int) ≤ (m : Int) := by omega
  have i1 : (m : Int) < (s.length : Int) := by omega
  have i4 : (0 : Int) ≤ (N.length : Int) := by omega
  have i5 : (N.length : Int) < (N.length : Int) + 1 := by omega
  have hk1 : (0 : Int) < (k : Int) := by omega
  go_wp2_with fail
  go_region_held3 (fun w' => w'.cell? ⟨w.heap.size, 1, none⟩ = some (.slice Aq top.pt.length cq) ∧ w'.cell? ⟨(a4.add (m * 3)).block, (a4.add (m * 3)).off + 1, none⟩ = some (.slice Am ym.1.pt.length cm))
    (first | (exact ⟨y6, x1⟩) | go_keep)
    (first | (go_at_call 78; refine (D _ _ _ (by repeat' (first | exact Lays.refl _ | assumption | refine Lays.drewN ?_ _ | refine Lays.drew ?_ | refine Lays.alloc ?_ _))).mono ?_; rintro e w' ⟨rfl, n', rfl⟩))
  rename_i hH
  clear hH
  obtain ⟨w7, hw7⟩ : ∃ w7, w7 = (w6.drewN (1 + n')).setCell ⟨g6, N.length * 4 + 1, none⟩ (.int .i64 rad) := ⟨_, rfl⟩
  rw [← hw7]
  have hset : ∀ y z : Nd, (N ++ [y]).set N.length z = N ++ [z] := fun y z => by rw [List.set_append_right _ _ (Nat.le_refl _)]; simp
  have hfr : Fits rad := by
    have := (distL_bd kind vm hvt)
    rw [HR.out]; exact ⟨by omega, by omega⟩
  have o7 : OwnK nodeP w7 lo w7.heap.size (.slice (some ⟨g6, 0, none⟩) (N.length + 1) c6) (N ++ [⟨top.key, rad, -1, -1⟩]) := by
    have := ((o6.grow (Grow.drewN _ (1 + n'))).set_ (i := N.length) (j := 1) (x := ⟨top.key, 0, -1, -1⟩) (y := ⟨top.key, rad, -1, -1⟩) (z := rad) (by simp) (by simp) (by show 1 < 4; omega) rfl hfr)
    rw [hset] at this
    rw [hw7]; exact this.up
  have F67 : FrB w6.heap.size (XV (.slice (some ⟨g6, 0, none⟩) (N.length + 1) c6)) w6 w7 := by rw [hw7]; exact (FrB.drewN _ _ _ _).trans (FrB.set_ _ _ _ _ rfl)
  have fnr : Fits ((N.length : Int) + 1) := ⟨by omega, by omega⟩
  obtain ⟨w8, hw8⟩ : ∃ w8, w8 = w7.setCell ⟨g6, N.length * 4 + 2, none⟩ (.int .i64 ((N.length : Int) + 1)) := ⟨_, rfl⟩
  have o8 : OwnK nodeP w8 lo w8.heap.size (.slice (some ⟨g6, 0, none⟩) (N.length + 1) c6) (N ++ [⟨top.key, rad, (N.length : Int) + 1, -1⟩]) := by
    have := (o7.set_ (i := N.length) (j := 2) (x := ⟨top.key, rad, -1, -1⟩) (y := ⟨top.key, rad, (N.length : Int) + 1, -1⟩) (z := (N.length : Int) + 1) (by simp) (by simp) (by show 2 < 4; omega) rfl fnr)
    rw [hset] at this
    rw [hw8]; exact this.up
  have F78 : FrB w6.heap.size (XV (.slice (some ⟨g6, 0, none⟩) (N.length + 1) c6)) w7 w8 := by rw [hw8]; exact FrB.set_ _ _ _ _ rfl
  have x7 : w7.cell? ⟨g6, N.length * 4 + 2, none⟩ = some (.int .i64 (-1)) := o7.cellAt (i := N.length) (j := 2) (x := ⟨top.key, rad, -1, -1⟩) (by simp) (by simp) rfl
  have f7 := o7.frozenAt (N.length * 4 + 2) (by simp)
  have F8 : FrB w5.heap.size (XV (.slice An N.length cn)) w5 w8 := F56.trans ((F67.trans F78).less e6 (fun k hk hx => xv_back NB6 hk hx))
  have e8 := F8.size
  have s8 := s5.fr F8 (fun g hg => ⟨(s5.own.lt g hg).2, hX g (by have := (s5.own.lt g hg).1; have := Hz1.out; omega)⟩) (by omega) hXb
  have hlk : (s.take k).length = k := by rw [List.length_take]; omega
  have hpv : ∀ x ∈ s, vecB x.1.pt 4 = true := fun x hx => hvr x (hP.out.mem_iff.1 hx)
  have hkS : KeysD (s.map Prod.fst) := hkr.perm (hP.out.map Prod.fst)
  have hsr := HS.out
  have IH1 := ih (s.take k) (some a4) c4 (N ++ [(⟨top.key, rad, (N.length : Int) + 1, -1⟩ : Nd)]) _ w8 (by omega) (by omega) hm4 (by simp; omega) (by rw [List.map_take]; exact hkS.sub (List.take_sublist _ _)) (fun x hx => hpv x (List.mem_of_mem_take hx)) (s8.row.2.take k) (fun x hx => s8.pts x (List.mem_of_mem_take hx)) o8 hb (by omega)
  rw [hlk] at IH1
  have hl1 : ((N ++ [(⟨top.key, rad, (N.length : Int) + 1, -1⟩ : Nd)]).length : Int) = (N.length : Int) + 1 := by simp
  rw [hl1] at IH1
  obtain ⟨N9, hN9⟩ : ∃ L, L = N ++ [(⟨top.key, rad, (N.length : Int) + 1, -1⟩ : Nd)] ++ (treeOf kind n ((s.take k).map Prod.fst)).nodes ((N.length : Int) + 1) := ⟨_, rfl⟩
  rw [← hN9] at IH1
  have hT1s : (treeOf kind n ((s.take k).map Prod.fst)).size = k := by rw [tree_size kind (by rw [List.length_map, hlk]; omega), List.length_map, hlk]
  have hN9l : N9.length = N.length + 1 + k := by rw [hN9, List.length_append, nodes_len, hT1s, List.length_append, List.length_singleton]
  have HN9 := Lib.hid hN9
  have HL9 := Lib.hid hN9l
  have HLK := Lib.hid hlk
  have HW8 := Lib.hid hw8
  have hkc : k ≤ c4 := by omega
  have hkc' : (k : Int) ≤ (c4 : Int) := by omega
  clear hw7 hw8 hN9 hN9l hlk hl1 hT1s x1 x6 f6 y6 hsr D
  go_upto_region 12 with fail
  rw [← HW8.out]
  go_wp2_with fail
  refine IH1.mono ?_
  rintro e w9 ⟨v9, rfl, o9, F89, NB9⟩
  have hE9 := F89.size
  have F9 : FrB w5.heap.size (XV (.slice An N.length cn)) w5 w9 := F8.trans (F89.less e8 (fun k hk hx => xv_back NB6 hk hx))
  have NB09 : NewB w5.heap.size (.slice An N.length cn) v9 := NB6.trans NB9 e8
  obtain ⟨A9, c9, rfl, hc9, hm9, _⟩ := o9.open_
  obtain ⟨g9, rfl, _, h91, h92, h93⟩ := o9.form (by rw [HL9.out]; omega)
  have hrs : (r.map Prod.fst).length = s.length := by rw [List.length_map]; exact HS.out.symm
  have hkk : k = halfN (r.map Prod.fst).length := by rw [hrs, HK.out]; exact HM.out
  have hSl : (s.map Prod.fst).length = s.length := List.length_map ..
  have hrd : rad = radOf kind top.pt (s.map Prod.fst) := by
    unfold radOf
    rw [hSl, ← HM.out, if_pos (by omega), Nat.add_sub_cancel, HR.out, distL_comm, itI_of (x := ym.1) (by rw [List.getElem?_map, HY.out]; rfl)]
  have HRD := Lib.hid hrd
  have HKK := Lib.hid hkk
  have HRS := Lib.hid hrs
  have HSL := Lib.hid hSl
  clear hrs hkk hSl hrd IH1
  have G0 : FrB w.heap.size (XV (.slice An N.length cn)) w w9 := (FrB.of_below g05 (Nat.le_refl _)).trans (F9.less e05 (fun _ _ h => h))
  by_cases hk2 : k < s.length
  · have hk2' : (k : Int) < (s.length : Int) := by omega
    have i9 : (N.length : Int) < (N9.length : Int) := by rw [HL9.out]; omega
    have hN9e : N9 = N ++ ((⟨top.key, rad, (N.length : Int) + 1, -1⟩ : Nd) :: (treeOf kind n ((s.take k).map Prod.fst)).nodes ((N.length : Int) + 1)) := by rw [HN9.out]; simp
    have h9 : N9[N.length]? = some ⟨top.key, rad, (N.length : Int) + 1, -1⟩ := by rw [hN9e, List.getElem?_append_right (Nat.le_refl _), Nat.sub_self]; rfl
    have ff : Fits (N9.length : Int) := by rw [HL9.out]; exact ⟨by omega, by have := HS.out; omega⟩
    have oA := (o9.set_ (i := N.length) (j := 3) (x := ⟨top.key, rad, (N.length : Int) + 1, -1⟩) (y := ⟨top.key, rad, (N.length : Int) + 1, (N9.length : Int)⟩) (z := (N9.length : Int)) rfl h9 (by show 3 < 4; omega) rfl ff).up
    have q3 := o9.cellAt (i := N.length) (j := 3) rfl h9 rfl
    have p3 := o9.frozenAt (N.length * 4 + 3) rfl
    simp only [nodeP] at q3
    have hset9 : N9.set N.length ⟨top.key, rad, (N.length : Int) + 1, (N9.length : Int)⟩ = N ++ ((⟨top.key, rad, (N.length : Int) + 1, (N.length : Int) + 1 + k⟩ : Nd) :: (treeOf kind n ((s.take k).map Prod.fst)).nodes ((N.length : Int) + 1)) := by
      have e1 : (N9.length : Int) = (N.length : Int) + 1 + k := by rw [HL9.out]; omega
      rw [e1, hN9e, List.set_append_right _ _ (Nat.le_refl _), Nat.sub_self]; rfl
    have hla : (N9.set N.length ⟨top.key, rad, (N.length : Int) + 1, (N9.length : Int)⟩).length = N9.length := List.length_set ..
    obtain ⟨w10, hw10⟩ : ∃ w10, w10 = w9.setCell ⟨g9, N.length * 4 + 3, none⟩ (.int .i64 (N9.length : Int)) := ⟨_, rfl⟩
    have FA : FrB w9.heap.size (XV (.slice (some ⟨g9, 0, none⟩) N9.length c9)) w9 w10 := by rw [hw10]; exact FrB.set_ _ _ _ _ rfl
    have F10 : FrB w5.heap.size (XV (.slice An N.length cn)) w5 w10 := F9.trans (FA.less F9.size (fun k hk hx => xv_back NB09 hk hx))
    have e10 := F10.size
    have e9A := FA.size
    have s10 := s5.fr F10 (fun g hg => ⟨(s5.own.lt g hg).2, hX g (by have := (s5.own.lt g hg).1; have := Hz1.out; omega)⟩) (by omega) hXb
    have hld : (s.drop k).length = s.length - k := List.length_drop
    have hcut := s10.row.2.cut (k := k) (cap := c4) hks hl4
    rw [if_neg (show c4 ≠ k by omega)] at hcut
    simp only [Option.map_some] at hcut
    have hck2 : k < c4 := by omega
    have o10 : OwnK nodeP w10 lo w10.heap.size (.slice (some ⟨g9, 0, none⟩) N9.length c9) (N9.set N.length ⟨top.key, rad, (N.length : Int) + 1, (N9.length : Int)⟩) := by rw [hw10]; exact oA
    have IH2 := ih (s.drop k) _ (c4 - k) _ _ w10 (by have := HS.out; omega) (by omega) (by omega) (by rw [hla, HL9.out]; have := HS.out; omega) (by rw [List.map_drop]; exact hkS.sub (List.drop_sublist _ _)) (fun x hx => hpv x (List.mem_of_mem_drop hx)) hcut (fun x hx => s10.pts x (List.mem_of_mem_drop hx)) o10 hb (by omega)
    rw [hld] at IH2
    have hfin := grow_far (kind := kind) (n := n) (k := k) (top := top) (rs := r.map Prod.fst) (S := s.map Prod.fst) (rad := rad) (N := N) HD.out HKK.out HRD.out hk0 (by rw [HSL.out]; exact hk2) (by rw [HSL.out]; have := HS.out; omega)
    have e1 : (N9.length : Int) = (N.length : Int) + 1 + k := by rw [HL9.out]; omega
    rw [hla, hset9, e1, List.map_take, List.map_drop, ← hfin] at IH2
    rw [e1] at hw10
    have HF := Lib.hid hfin
    have HW10 := Lib.hid hw10
    have HE1 := Lib.hid e1
    have HLD := Lib.hid hld
    clear hfin hset9 hla hN9e h9 oA o10 hw10 e1 hld
    go_upto_region 15 with fail
    rw [HE1.out, ← HW10.out]
    go_wp2_with fail
    refine IH2.mono ?_
    rintro e w11 ⟨v11, rfl, o11, F11, NB11⟩
    go_wp2_with fail
    go_ret
    refine ⟨_, rfl, o11, G0.trans ((FA.trans (F11.less e9A (fun k hk hx => hx))).less (by omega) (fun k hk hx => xv_back NB09 (by omega) hx)), ?_⟩
    have hNN : NewB w5.heap.size (.slice An N.length cn) v11 := NB09.trans NB11 (by omega)
    exact hNN.low e05
  · have hk3 : ¬ ((k : Int) < (s.length : Int)) := by omega
    have hk4 : k = s.length := by omega
    have hfin := grow_last (kind := kind) (n := n) (k := k) (top := top) (rs := r.map Prod.fst) (S := s.map Prod.fst) (rad := rad) (N := N) HD.out HKK.out HRD.out hk0 (by rw [HSL.out]; exact hk4) (by rw [HSL.out]; have := HS.out; omega)
    have hN9e : N9 = N ++ (treeOf kind (n + 1) (top :: r.map Prod.fst)).nodes N.length := by rw [hfin, HN9.out, List.map_take]; simp
    have HF := Lib.hid hN9e
    have HK4 := Lib.hid hk4
    clear hfin hN9e hk4
    go_wp2_with fail
    go_ret
    exact ⟨_, rfl, by rw [← HF.out]; exact o9, G0, NB09.low e05⟩
set_option maxRecDepth 20000 in
set_option maxHeartbeats 3200000 in
theorem grow_leaf {kind : Int} {base lo n : Nat} (q : It × Value) (A : Option Addr) (c : Nat) (N : List Nd) (v : Value) (w : World)
    (hc : 1 ≤ c) (hcm : c ≤ maxLen) (hN : N.length + 1 ≤ 1000) (hv : vecB q.1.pt 4 = true) (hrow : RowI w A [q]) (hpt : PtAt w base q)
    (ho : OwnK nodeP w lo w.heap.size v N) (hb : base ≤ lo) (hlw : lo ≤ w.heap.size) :
    Calls Try.prog 45 #[v, .slice A 1 c, .int .i64 kind] w
      fun e w' => ∃ v', e = .returned v' ∧ OwnK nodeP w' lo w'.heap.size v' (N ++ (treeOf kind (n + 1) [q.1]).nodes N.length) ∧
        FrB w.heap.size (XV v) w w' ∧ NewB w.heap.size v v' := by
  obtain ⟨ad, rfl, had, c0, c1, c2⟩ := hrow.head
  obtain ⟨Aq, cq, hq2, _, _, rq, hfq, _⟩ := hpt
  rw [hq2] at c1
  obtain ⟨top, htop⟩ : ∃ t : It, t = q.1 := ⟨_, rfl⟩
  rw [← htop] at c0 c1 c2 rq hfq ⊢
  have hfk : ∀ z ∈ nodeP.f ⟨top.key, 0, -1, -1⟩, Fits z := fun z hz => by
    simp [nodeP] at hz
    rcases hz with rfl | rfl | rfl
    · exact hfq
    · exact ⟨by omega, by omega⟩
    · exact ⟨by omega, by omega⟩
  have hvt : vecB top.pt 4 = true := by rw [htop]; exact hv
  obtain ⟨w1, hw1⟩ : ∃ w1, w1 = w.alloc (.cells #[.int .i64 top.key, .slice Aq top.pt.length cq, .int .i64 top.tags] 43) := ⟨_, rfl⟩
  have b1 : Blk w1 w.heap.size 43 #[.int .i64 top.key, .slice Aq top.pt.length cq, .int .i64 top.tags] := by rw [hw1]; exact Blk.new _ _ _
  have g1 : Grow w w1 := by rw [hw1]; exact (Below.refl _ _).alloc (Nat.le_refl _) _
  have hz1 : w1.heap.size = w.heap.size + 1 := by rw [hw1]; simp
  have HW := Lib.hid hw1
  have gd : Grow w w1.drew := Grow.trans g1 (Grow.drew w1)
  have HB : ∀ (B : Option Addr) (d : Nat), Calls Try.prog 77 #[.slice B 0 d, .int .i64 kind, .slice Aq top.pt.length cq] w1.drew fun e w' => ∃ A3 c3, e = .returned (.slice A3 0 c3) ∧ Grow w1.drew w' := fun B d =>
    (spec_byDist kind Aq cq top.pt [] B d w1.drew base (RowI.nil_ _ _) (fun x hx => by simp at hx) (rq.below (Below.mono gd (by omega))) hvt (fun x hx => by simp at hx) (by simp) (by show base ≤ w1.heap.size; omega)).mono (by
      rintro e w' ⟨v3, s, rfl, hsp, _, s3, g3⟩
      obtain ⟨A3, c3, rfl, _, _⟩ := s3.open_
      have hs0 : s.length = 0 := hsp.length_eq
      rw [hs0]
      exact ⟨_, _, rfl, g3⟩)
  have HT := Lib.hid htop
  have t1 : w1.cell? ⟨w.heap.size, 1, none⟩ = some (.slice Aq top.pt.length cq) := b1.cell 1
  have hlt := b1.lt
  have Hz1 := Lib.hid hz1
  have j3 : (1 : Int) ≤ (c : Int) := by omega
  obtain ⟨An, cn, rfl, _, _, _⟩ := ho.open_
  clear hw1 hv hrow hq2 htop hz1
  go_enter Try.func45, Try.ntmps45
  go_upto_region 4 with fail
  rw [← HW.out]
  go_cut [8] (fun v8 wc => Grow w1 wc ∧ ∃ A8 c8, v8 = .slice A8 0 c8)
  case first =>
    by_cases hc1 : c = 1
    · subst hc1
      go_region_held3 (fun w' => w'.cell? ⟨w.heap.size, 1, none⟩ = some (.slice Aq top.pt.length cq))
        (first | (exact t1) | assumption | go_keep)
        (first | (go_at_call 77; refine (HB _ _).mono ?_; rintro e w3 ⟨A3, c3, rfl, g3⟩; have y3 := (Below.cell g3 (p := ⟨w.heap.size, 1, none⟩) hlt).trans t1))
      rename_i hH
      clear hH
      go_wp2_with fail
      go_meet
      exact ⟨Grow.trans (Grow.drew w1) g3, A3, c3, rfl⟩
    · have hc2 : 1 < c := by omega
      go_region_held3 (fun w' => w'.cell? ⟨w.heap.size, 1, none⟩ = some (.slice Aq top.pt.length cq))
        (first | (exact t1) | assumption | go_keep)
        (first | (go_at_call 77; refine (HB _ _).mono ?_; rintro e w3 ⟨A3, c3, rfl, g3⟩; have y3 := (Below.cell g3 (p := ⟨w.heap.size, 1, none⟩) hlt).trans t1))
      rename_i hH
      clear hH
      go_wp2_with fail
      go_meet
      exact ⟨Grow.trans (Grow.drew w1) g3, A3, c3, rfl⟩
  case rest =>
    obtain ⟨g13, A8, c8, rfl⟩ := hcut
    have g03 : Grow w wc := Grow.trans g1 g13
    have e3 := g13.size
    have bt3 := b1.below g13 hlt
    have t30 : wc.cell? ⟨w.heap.size, 0, none⟩ = some (.int .i64 top.key) := bt3.cell 0
    obtain ⟨w5, hw5⟩ : ∃ w5, w5 = wc.alloc (.cells #[.int .i64 top.key, .int .i64 0, .int .i64 (-1), .int .i64 (-1)] 30) := ⟨_, rfl⟩
    have b5 : Blk w5 wc.heap.size 30 #[.int .i64 top.key, .int .i64 0, .int .i64 (-1), .int .i64 (-1)] := by rw [hw5]; exact Blk.new _ _ _
    have g35 : Grow wc w5 := by rw [hw5]; exact (Below.refl _ _).alloc (Nat.le_refl _) _
    have n0 : w5.cell? ⟨wc.heap.size, 0, none⟩ = some (.int .i64 top.key) := b5.cell 0
    have n1 : w5.cell? ⟨wc.heap.size, 1, none⟩ = some (.int .i64 0) := b5.cell 1
    have n2 : w5.cell? ⟨wc.heap.size, 2, none⟩ = some (.int .i64 (-1)) := b5.cell 2
    have n3 : w5.cell? ⟨wc.heap.size, 3, none⟩ = some (.int .i64 (-1)) := b5.cell 3
    have g05 : Grow w w5 := Grow.trans g03 g35
    have e05 := g05.size
    have ho5 := ho.grow g05
    have HW5 := Lib.hid hw5
    clear hw5 bt3 HW
    have hNl : N.length ≤ 1000 := by omega
    have hlo5 : lo ≤ w5.heap.size := by omega
    have hq : Int.tdiv ((0 : Int) + 1) 2 = 0 := by decide
    have hq2 : Int.tdiv (1 : Int) 2 = 0 := by decide
    go_upto_region 7 with fail
    rw [← HW5.out]
    go_upto_region 9 with (at_builtin; go_must (refine wpList_pushK (y := ⟨top.key, 0, -1, -1⟩) node_in rfl _ _ rfl (by rfl) (by rfl) rfl ho5 hlo5 (by omega) hfk ?_); intro v6 w6 o6 b6 gr6 nb6; obtain ⟨g6, c6, rfl, hg6, hh6, hc6⟩ := own_some o6)
    have NB6 : NewB w5.heap.size (.slice An N.length cn) (.slice (some ⟨g6, 0, none⟩) (N.length + 1) c6) := nb6
    have F56 : FrB w5.heap.size (XV (.slice An N.length cn)) w5 w6 := FrB.of_grown gr6 (Nat.le_refl _) (fun k hk => hk)
    go_wp2_with fail
    go_ret
    have hfin : N ++ (treeOf kind (n + 1) [top]).nodes N.length = N ++ [(⟨top.key, 0, -1, -1⟩ : Nd)] := by
      have h0 : byD kind top.pt [] = [] := rfl
      simp [treeOf, h0, treeOf_nil, Tr.nodes, Tr.ix, radOf, halfN]
    exact ⟨_, rfl, by rw [hfin]; exact o6, (FrB.of_below g05 (Nat.le_refl _)).trans (F56.less e05 (fun _ _ h => h)), NB6.low e05⟩

theorem spec_grow (kind : Int) (base lo : Nat) : ∀ n, GrownN kind base lo n
  | 0 => fun p A c N v w hn hc hcm hN hkd hv hrow hpt ho hb hlw => by
    obtain rfl : p = [] := List.eq_nil_of_length_eq_zero (by omega)
    refine (grow_nil _ _ _ _ _).mono ?_
    rintro e w' ⟨rfl, rfl⟩
    exact ⟨v, rfl, by simpa [treeOf, Tr.nodes] using ho, FrB.refl _ _ _, .inl rfl⟩
  | n + 1 => fun p A c N v w hn hc hcm hN hkd hv hrow hpt ho hb hlw => by
    match p, hn, hc, hN, hkd, hv, hrow, hpt with
    | [], hn, hc, hN, hkd, hv, hrow, hpt =>
      refine (grow_nil _ _ _ _ _).mono ?_
      rintro e w' ⟨rfl, rfl⟩
      exact ⟨v, rfl, by simpa [treeOf, Tr.nodes] using ho, FrB.refl _ _ _, .inl rfl⟩
    | q :: r, hn, hc, hN, hkd, hv, hrow, hpt =>
      simp only [List.length_cons] at hn hc hN
      rcases Nat.eq_zero_or_pos r.length with h0 | h0
      · obtain rfl : r = [] := List.eq_nil_of_length_eq_zero h0
        exact grow_leaf q A c N v w hc hcm hN (hv q (List.mem_cons_self ..)) hrow (hpt q (List.mem_cons_self ..)) ho hb hlw
      · exact grow_cons (spec_grow kind base lo n) q r A c N v w h0 (by omega) hc hcm hN hkd hv hrow hpt ho hb hlw
end Go.Proofs.Ytebiaodjodlloaa
