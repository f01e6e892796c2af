/- The contracts of the bounds of a store and of the items in a box, in both texts. -/
import Derived.Test.YtaocmgafglalnaaStore
import Derived.Test.YtaocmgafglalnaaPlainV
import Derived.Test.YtaocmgafglalnaaRead
namespace Go.Proofs.Ytaocmgafglalnaa
set_option linter.unusedVariables false
open Go Go.RowKit

def minF (l : List It) (k j c : Nat) : Int := if c < j then lowC l c (k + 1) else lowC l c k
def maxF (l : List It) (k j c : Nat) : Int := if c < j then highC l c (k + 1) else highC l c k
theorem range_set {f g : Nat → Int} {n j : Nat} {y : Int} (h1 : g j = y) (h2 : ∀ i, i < n → i ≠ j → g i = f i) : (rangeI f n).set j y = rangeI g n := by
  apply List.ext_getElem (by simp [rangeI_len])
  intro i a b
  rw [rangeI_len] at b
  rw [List.getElem_set]
  split
  · rename_i e; subst e; simp [rangeI, h1]
  · rename_i e; simp [rangeI]; exact (h2 i b (fun h => e h.symm)).symm
theorem minF_set {l : List It} {k j : Nat} {it : It} {x : Int} (hx : l[k]? = some it) (hp : it.pt[j]? = some x) : (rangeI (minF l k j) 4).set j (gmin (lowC l j k) x) = rangeI (minF l k (j + 1)) 4 := by
  refine range_set ?_ fun i _ hne => ?_
  · rw [minF, if_pos (by omega), lowC, itI_of hx, gI_of hp]
  · unfold minF
    by_cases h : i < j
    · rw [if_pos h, if_pos (by omega)]
    · rw [if_neg h, if_neg (by omega)]
theorem maxF_set {l : List It} {k j : Nat} {it : It} {x : Int} (hx : l[k]? = some it) (hp : it.pt[j]? = some x) : (rangeI (maxF l k j) 4).set j (gmax (highC l j k) x) = rangeI (maxF l k (j + 1)) 4 := by
  refine range_set ?_ fun i _ hne => ?_
  · rw [maxF, if_pos (by omega), highC, itI_of hx, gI_of hp]
  · unfold maxF
    by_cases h : i < j
    · rw [if_pos h, if_pos (by omega)]
    · rw [if_neg h, if_neg (by omega)]
theorem minF_at (l : List It) (k j : Nat) : minF l k j j = lowC l j k := by simp [minF]
theorem maxF_at (l : List It) (k j : Nat) : maxF l k j j = highC l j k := by simp [maxF]
theorem minF_zero (l : List It) (k : Nat) : rangeI (fun c => lowC l c k) 4 = rangeI (minF l k 0) 4 := rangeI_congr fun i _ => by simp [minF]
theorem maxF_zero (l : List It) (k : Nat) : rangeI (fun c => highC l c k) 4 = rangeI (maxF l k 0) 4 := rangeI_congr fun i _ => by simp [maxF]
theorem minF_all (l : List It) (k : Nat) : rangeI (minF l k 4) 4 = rangeI (fun c => lowC l c (k + 1)) 4 := rangeI_congr fun i hi => by simp [minF, hi]
theorem maxF_all (l : List It) (k : Nat) : rangeI (maxF l k 4) 4 = rangeI (fun c => highC l c (k + 1)) 4 := rangeI_congr fun i hi => by simp [maxF, hi]
theorem low_first {l : List It} {x : It} (hx : l[0]? = some x) (hv : vecB x.pt 4 = true) : x.pt = rangeI (fun c => lowC l c 0) 4 ∧ x.pt = rangeI (fun c => highC l c 0) 4 := by
  have e := (rangeI_gI (vecB_four hv)).symm
  refine ⟨e.trans (rangeI_congr fun i _ => ?_), e.trans (rangeI_congr fun i _ => ?_)⟩
  · rw [lowC, itI_of hx]
  · rw [highC, itI_of hx]
theorem low_self {l : List It} (h : 0 < l.length) (c : Nat) : lowC l c 1 = lowC l c 0 := by show gmin (gI (itI l 0).pt c) (gI (itI l 0).pt c) = gI (itI l 0).pt c; rw [gmin]; split <;> rfl
theorem high_self {l : List It} (h : 0 < l.length) (c : Nat) : highC l c 1 = highC l c 0 := by show gmax (gI (itI l 0).pt c) (gI (itI l 0).pt c) = gI (itI l 0).pt c; rw [gmax]; split <;> rfl
theorem bounds_no {l : List It} (h : storeB l = false) : boundsOk l = false ∧ lowV l = [] ∧ highV l = [] := by
  have : boundsOk l = false := by rw [boundsOk, h]; rfl
  rw [lowV, highV, this]; exact ⟨rfl, rfl, rfl⟩
theorem bounds_nil {l : List It} (h : l.length = 0) : boundsOk l = false ∧ lowV l = [] ∧ highV l = [] := by
  have : boundsOk l = false := by rw [boundsOk, decide_eq_false (by omega), Bool.and_false]
  rw [lowV, highV, this]; exact ⟨rfl, rfl, rfl⟩
theorem OwnI.far_set {w : World} {lo hi g j : Nat} {u x : Value} {xs : List Int} (o : OwnI w lo hi u xs) (h : g < lo ∨ hi ≤ g) : OwnI (w.setCell ⟨g, j, none⟩ x) lo hi u xs :=
  ⟨ownsRow_of_block o.own (fun k hk => Below.heap_setCell w ⟨g, j, none⟩ x k (by have := (o.lt k hk).1; have := o.top k hk; show k ≠ g; omega)), o.top, o.fit, o.len⟩

theorem OwnI.as {w : World} {lo hi : Nat} {v : Value} {xs ys : List Int} (h : OwnI w lo hi v xs) (e : xs = ys) : OwnI w lo hi v ys := e ▸ h
theorem below_trans {B : Nat} {a b c : World} (h : Below B a b) (k : Below B b c) : Below B a c := h.trans k
/-- What the two texts hand back of the bounds. -/
def GotB (w w' : World) (l : List It) (e : Ending) : Prop :=
  ∃ u v, e = .returned (.tuple #[u, v, .bool (boundsOk l)]) ∧ (∃ m, w.heap.size ≤ m ∧ m ≤ w'.heap.size ∧ OwnI w' w.heap.size m u (lowV l) ∧ OwnI w' m w'.heap.size v (highV l)) ∧ Grow w w'
theorem GotB.none_ {w w' : World} {l : List It} (h : boundsOk l = false ∧ lowV l = [] ∧ highV l = []) (g : Grow w w') : GotB w w' l (.returned (.tuple #[.slice none 0 0, .slice none 0 0, .bool false])) := by
  obtain ⟨h1, h2, h3⟩ := h
  refine ⟨.slice none 0 0, .slice none 0 0, by rw [h1], ⟨w.heap.size, Nat.le_refl _, g.size, ?_, ?_⟩, g⟩
  · rw [h2]; exact OwnI.nil_
  · rw [h3]; exact OwnI.nil_

set_option maxHeartbeats 6400000 in
theorem impl_BoundsOf' (A : Option Addr) (c : Nat) (l : List It) (w : World) (h : RS w w.heap.size A l) :
    Calls Try.prog 47 #[.slice A l.length c] w fun e w' => GotB w w' l e := by
  have hl := h.len
  cases hs : storeB l
  · have HN := Lib.hid (bounds_no hs)
    go_enter Try.func47, Try.ntmps47
    go_wp2_with (go_at_call 43; refine (impl_ValidStore _ _ _ _ h).mono ?_; rintro e w1 ⟨he, g1⟩; rw [hs] at he; subst he)
    go_ret3
    exact GotB.none_ HN.out g1
  · have HS := Lib.hid hs
    have h16 := storeB_len hs
    go_enter Try.func47, Try.ntmps47
    go_wp2_with fail
    refine (impl_ValidStore _ _ _ _ h).mono ?_; rintro e w2 ⟨he, g2⟩; rw [hs] at he; subst he
    clear hs
    have s2 := g2.size
    by_cases hz : l.length = 0
    · have HN := Lib.hid (bounds_nil hz)
      have hz' : ((l.length : Int) == 0) = true := by rw [hz]; rfl
      clear hz
      go_wp2_with fail
      go_ret3
      exact GotB.none_ HN.out g2
    · have hz' : ((l.length : Int) == 0) = false := by rw [beq_eq_false_iff_ne]; omega
      have hpos : 0 < l.length := by omega
      have hposi : (0 : Int) < l.length := by omega
      have HOK := Lib.hid (boundsOk_iff.2 ⟨HS.out, hpos⟩)
      obtain ⟨ad, Ak, ck, x, rfl, had, c0, c1, c2, hc1, hc2, hri, hf, hg, hx⟩ := (h.grow g2).at_ (k := 0) hpos
      have z1 : w2.cell? ⟨ad.block, ad.off + 1, none⟩ = some (.slice Ak x.pt.length ck) := c1
      have hvx : vecB x.pt 4 = true := by have := store_vec HS.out hpos; rwa [itI_of hx.out] at this
      obtain ⟨p1, p2⟩ := low_first hx.out hvx
      have P1 := Lib.hid p1
      have P2 := Lib.hid p2
      have h4 : x.pt.length = 4 := vecB_four hvx
      have H4 := Lib.hid h4
      clear hz p1 p2 hvx h4 c0 c1 c2
      have tok1 : True := trivial
      go_wp2_with (first
        | (at_builtin; have _t := tok1; go_must (refine wpList_copyI rfl _ _ (by rfl) (by rfl) rfl (by rfl) hri (Nat.le_refl _) ?_); intro v3 w3 o3 g3; clear tok1 _t; have z3 := (g3.cell (p := ⟨ad.block, ad.off + 1, none⟩) had).trans z1; have hri3 := hri.grow g3; have had3 := Nat.lt_of_lt_of_le had g3.size)
        | (at_builtin; go_must (refine wpList_copyI rfl _ _ (by rfl) (by rfl) rfl (by rfl) hri3 (Nat.le_refl _) ?_); intro v4 w4 o4 g4))
      obtain ⟨A3, q3, rfl, _, _, _⟩ := o3.open_
      obtain ⟨A4, q4, rfl, _, _, _⟩ := o4.open_
      obtain ⟨ga, rfl, _, ga1, ga2, ga3⟩ := o3.form (by rw [H4.out]; omega)
      obtain ⟨gb, rfl, _, gb1, gb2, gb3⟩ := o4.form (by rw [H4.out]; omega)
      have s3 := g3.size
      have s4 := g4.size
      have o3' := o3.grow g4
      have o3' := o3'.as P1.out
      have o4 := o4.as P2.out
      have hg24 : Grow w w4 := g2.trans (g3.trans g4)
      have b4 : Below w2.heap.size w2 w4 := g3.trans g4
      clear o3 z1 z3 hri hri3 P1 P2
      go_loopw [33] (fun i wr => ∃ k : Nat, k ≤ l.length ∧ i = .int .i64 k ∧ OwnI wr w2.heap.size w3.heap.size (.slice (some ⟨ga, 0, none⟩) x.pt.length q3) (rangeI (fun c => lowC l c k) 4) ∧ OwnI wr w3.heap.size w4.heap.size (.slice (some ⟨gb, 0, none⟩) x.pt.length q4) (rangeI (fun c => highC l c k) 4) ∧ Below w2.heap.size w2 wr ∧ w4.heap.size ≤ wr.heap.size) (fun i _ => l.length - (intOf i).toNat)
      case atStart => exact ⟨0, Nat.zero_le _, rfl, o3', o4, b4, Nat.le_refl _⟩
      case round =>
        clear o3' o4 b4
        obtain ⟨k, hk, rfl, oa, ob, hb, hsz⟩ := hrel
        by_cases hlt : k < l.length
        · obtain ⟨ad', Bk, dk, y, e, hyd, c0, c1, c2, _, _, hyi, _, _, hy⟩ := ((h.grow g2).keep hb).at_ hlt
          injection e with e
          subst e
          have hl2 : k + 1 ≤ l.length := by omega
          have hvy : vecB y.pt 4 = true := by have := store_vec HS.out hlt; rwa [itI_of hy.out] at this
          have HV := Lib.hid hvy
          have hy4 : y.pt.length ≤ 4 := Nat.le_of_eq (vecB_four hvy)
          have hy5 : 4 ≤ y.pt.length := Nat.le_of_eq (vecB_four hvy).symm
          obtain ⟨wo, hwo⟩ : ∃ wo, wo = wr.alloc (.cells #[.int .i64 y.key, .slice Bk y.pt.length dk, .int .i64 y.tags] 53) := ⟨_, rfl⟩
          have go : Grow wr wo := by rw [hwo]; exact (Below.refl _ _).alloc (Nat.le_refl _) _
          have bo := below_grow hb go hb.size
          have so := go.size
          have hyo := hyi.below (Below.mono go hb.size)
          have oa' := oa.grow go
          have ob' := ob.grow go
          rw [minF_zero] at oa'
          rw [maxF_zero] at ob'
          have HW := Lib.hid hwo
          clear hvy hwo oa ob
          go_wp2_with fail
          rw [← HW.out]
          clear HW c0 c1 c2
          go_loopw [40] (fun i wi => ∃ j : Nat, j ≤ y.pt.length ∧ i = .int .i64 j ∧ OwnI wi w2.heap.size w3.heap.size (.slice (some ⟨ga, 0, none⟩) x.pt.length q3) (rangeI (minF l k j) 4) ∧ OwnI wi w3.heap.size w4.heap.size (.slice (some ⟨gb, 0, none⟩) x.pt.length q4) (rangeI (maxF l k j) 4) ∧ Below w2.heap.size wo wi ∧ w4.heap.size ≤ wi.heap.size) (fun i _ => y.pt.length - (intOf i).toNat)
          case atStart => exact ⟨0, Nat.zero_le _, rfl, oa', ob', Below.refl _ _, by omega⟩
          case round =>
            clear oa' ob'
            obtain ⟨j, hj, rfl, oi, oj, hbi, hzi⟩ := hrel
            by_cases hjl : j < y.pt.length
            · have hj4 : j < 4 := by omega
              obtain ⟨bd, p, rfl, _, hcp, _, _, hkp⟩ := (hyo.below hbi).at_ hjl
              obtain ⟨p1, p2⟩ := vecB_at HV.out hkp.out
              have hx4 : x.pt.length = (rangeI (minF l k j) 4).length := by rw [rangeI_len, H4.out]
              have hx5 : x.pt.length = (rangeI (maxF l k j) 4).length := by rw [rangeI_len, H4.out]
              have hjx : j < x.pt.length := by rw [H4.out]; exact hj4
              have hcell := oi.cellAt hx4 (rangeI_at (minF l k j) hj4)
              have hcell2 := oj.cellAt hx5 (rangeI_at (maxF l k j) hj4)
              rw [minF_at] at hcell
              rw [maxF_at] at hcell2
              have hfz := oi.frozenAt j hx4
              have hfz2 := oj.frozenAt j hx5
              have hne : ga ≠ gb := by omega
              have hlo := lowC_bd HS.out hpos j (n := k) (by omega)
              have hhi := highC_bd HS.out hpos j (n := k) (by omega)
              obtain ⟨a, ha⟩ : ∃ a, a = lowC l j k := ⟨_, rfl⟩
              obtain ⟨b, hb'⟩ : ∃ b, b = highC l j k := ⟨_, rfl⟩
              rw [← ha] at hcell hlo
              rw [← hb'] at hcell2 hhi
              have os := oi.set_ (j := j) (x := gmin a p) hx4 (by unfold gmin; split <;> omega)
              have ot := (oj.far_set (g := ga) (j := j) (x := .int .i64 (gmin a p)) (by omega)).set_ (j := j) (x := gmax b p) hx5 (by unfold gmax; split <;> omega)
              have os2 := os.far_set (g := gb) (j := j) (x := .int .i64 (gmax b p)) (by omega)
              rw [ha, minF_set hy.out hkp.out] at os2
              rw [hb', maxF_set hy.out hkp.out] at ot
              rw [← ha] at os2
              rw [← hb'] at ot
              have hbs : Below w2.heap.size wo ((wr.setCell ⟨ga, j, none⟩ (.int .i64 (gmin a p))).setCell ⟨gb, j, none⟩ (.int .i64 (gmax b p))) := (hbi.setCell (p := ⟨ga, j, none⟩) ga1 _).setCell (p := ⟨gb, j, none⟩) (by show w2.heap.size ≤ gb; omega) _
              have hzs : w4.heap.size ≤ ((wr.setCell ⟨ga, j, none⟩ (.int .i64 (gmin a p))).setCell ⟨gb, j, none⟩ (.int .i64 (gmax b p))).heap.size := by simpa [World.setCell] using hzi
              clear os oi oj hbi hzi hx4 hx5 ha hb'
              unfold gmin gmax at os2 ot hbs hzs
              by_cases q1 : p < a
              · rw [if_pos q1] at os2 ot hbs hzs
                by_cases q2 : b < p
                · rw [if_pos q2] at os2 ot hbs hzs
                  go_wp2
                  go_roundw
                  case rel => exact ⟨j + 1, by omega, by go_num, os2, ot, hbs, hzs⟩
                  case measure => simp [intOf]; omega
                · rw [if_neg q2] at os2 ot hbs hzs
                  go_wp2
                  go_roundw
                  case rel => exact ⟨j + 1, by omega, by go_num, os2, ot, hbs, hzs⟩
                  case measure => simp [intOf]; omega
              · rw [if_neg q1] at os2 ot hbs hzs
                by_cases q2 : b < p
                · rw [if_pos q2] at os2 ot hbs hzs
                  go_wp2
                  go_roundw
                  case rel => exact ⟨j + 1, by omega, by go_num, os2, ot, hbs, hzs⟩
                  case measure => simp [intOf]; omega
                · rw [if_neg q2] at os2 ot hbs hzs
                  go_wp2
                  go_roundw
                  case rel => exact ⟨j + 1, by omega, by go_num, os2, ot, hbs, hzs⟩
                  case measure => simp [intOf]; omega
            · have hj4 : j = 4 := by omega
              subst hj4
              rw [minF_all] at oi
              rw [maxF_all] at oj
              go_wp2
              go_roundw
              case rel => exact ⟨k + 1, by omega, by go_num, oi, oj, below_trans bo hbi, hzi⟩
              case measure => simp [intOf]; omega
        · obtain rfl : k = l.length := by omega
          go_wp2_with fail
          go_ret3
          have e1 := lowV_of HOK.out
          have e2 := highV_of HOK.out
          refine ⟨.slice (some ⟨ga, 0, none⟩) x.pt.length q3, .slice (some ⟨gb, 0, none⟩) x.pt.length q4, by rw [HOK.out]; rfl, ⟨w3.heap.size, by omega, by omega, ?_, ?_⟩, g2.trans hb⟩
          · rw [e1]; exact oa.lower s2 (Nat.le_refl _)
          · rw [e2]; exact ob.lower (Nat.le_refl _) hsz
end Go.Proofs.Ytaocmgafglalnaa
