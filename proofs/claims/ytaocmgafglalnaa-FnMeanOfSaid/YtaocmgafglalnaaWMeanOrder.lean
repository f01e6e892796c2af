/- The walk of the law 'FnMeanOfOrder': it returns true, and writes nothing that was there. -/
import Derived.Test.YtaocmgafglalnaaDrawR
import Derived.Test.YtaocmgafglalnaaPlainV
namespace Go.Proofs.Ytaocmgafglalnaa
set_option linter.unusedVariables false
open Go Go.RowKit

theorem rowI_rev {l : List (List Int)} {i : Nat} (h : i < l.length) : rowI l.reverse i = rowI l (l.length - 1 - i) := by
  rw [rowI, rowI, List.getElem?_reverse h]
theorem meanV_rev (l : List (List Int)) : meanV l.reverse = meanV l := by
  have h1 : meanOk l.reverse = meanOk l := by simp [meanOk, rowsB]
  have h2 : ∀ c, meanF l.reverse c = meanF l c := fun c => by
    have e : colS l.reverse c l.length = colS l c l.length := by
      have e1 : colS l.reverse c l.length = sumTo (fun i => gI (rowI l (l.length - 1 - i)) c) l.length := sumTo_congr fun i hi => by rw [rowI_rev hi]
      rw [e1]
      exact sumTo_back (fun i => gI (rowI l i) c) l.length
    rw [meanF, meanF, List.length_reverse, e]
  unfold meanV
  rw [h1, rangeI_congr fun c _ => h2 c]

/-- The row's values V read as the vectors l, all below block B. -/
def RowV (w : World) (B : Nat) (v : Value) (r : List Int) : Prop := ∃ A c, v = .slice A r.length c ∧ r.length ≤ c ∧ c ≤ maxLen ∧ RI w B A r
def RowQ (w : World) (B : Nat) (V : List Value) (l : List (List Int)) : Prop :=
  V.length = l.length ∧ ∀ (i : Nat) (v : Value) (r : List Int), V[i]? = some v → l[i]? = some r → RowV w B v r
theorem RowV.keep {w w' : World} {B lo : Nat} {v : Value} {r : List Int} (h : RowV w B v r) (hb : Below lo w w') (hB : B ≤ lo) : RowV w' B v r := by
  obtain ⟨A, c, e, h1, h2, h3⟩ := h
  exact ⟨A, c, e, h1, h2, h3.below (hb.mono hB)⟩
theorem RowQ.keep {w w' : World} {B lo : Nat} {V : List Value} {l : List (List Int)} (h : RowQ w B V l) (hb : Below lo w w') (hB : B ≤ lo) : RowQ w' B V l :=
  ⟨h.1, fun i v r hv hr => (h.2 i v r hv hr).keep hb hB⟩
theorem RowQ.snoc {w : World} {B : Nat} {V : List Value} {l : List (List Int)} {v : Value} {r : List Int} (h : RowQ w B V l) (hv : RowV w B v r) : RowQ w B (V ++ [v]) (l ++ [r]) :=
  ⟨by simp [h.1], fun i u q hu hq => by
    rcases Nat.lt_trichotomy i l.length with hi | hi | hi
    · rw [List.getElem?_append_left (by rw [h.1]; exact hi)] at hu
      rw [List.getElem?_append_left hi] at hq
      exact h.2 i u q hu hq
    · rw [List.getElem?_append_right (by rw [h.1]; omega), h.1, hi, Nat.sub_self] at hu
      rw [List.getElem?_append_right (by omega), hi, Nat.sub_self] at hq
      simp at hu hq
      subst hu hq
      exact hv
    · rw [List.getElem?_append_right (by omega)] at hq
      have : (l ++ [r]).length ≤ i := by simp; omega
      rw [← List.getElem?_append_right (by omega), List.getElem?_eq_none this] at hq
      cases hq⟩
theorem rr_ofQ {w : World} {B base : Nat} {v : Value} {V : List Value} {l : List (List Int)} (h : RowQ w B V l) (ho : w.ownsRow base 24 1 v l.length V) (hB : B ≤ w.heap.size) (hl : l.length ≤ 2000000) : ∃ A c, v = .slice A l.length c ∧ RR w w.heap.size A l := by
  rcases ho.2 with ⟨rfl, h0⟩ | ⟨g, cap, cur, rfl, hb, hg, hn, hm, hs, ht⟩
  · refine ⟨none, 0, by rw [h0], ⟨fun k r hk => by have := (List.getElem?_eq_some_iff.1 hk).1; omega, hl⟩⟩
  · refine ⟨some ⟨g, 0, none⟩, cap, rfl, ⟨fun k r hk => ?_, hl⟩⟩
    have hlt := (List.getElem?_eq_some_iff.1 hk).1
    have hV : V[k]? = some (V[k]'(by rw [h.1]; exact hlt)) := List.getElem?_eq_getElem _
    obtain ⟨Ak, ck, e, h1, h2, h3⟩ := h.2 k _ r hV hk
    have hc := ho.cells (g := g) rfl k _ hV
    rw [e] at hc
    exact ⟨_, Ak, ck, rfl, (Array.getElem?_eq_some_iff.1 hg).1, hc, h1, h2, h3.more hB⟩
theorem wpList_pushQ {ops : Array Oper} {rest : List Oper} {o : Oper} {a : Act} {Q : Exit → Act → World → Prop} (hgd : o.guard = none) (s x : Operand)
    (ho : o.op = .call { callee := .builtin .append, args := #[s, x], argTypes := #[22, 22] })
    {wr : World} {lo B n c1 : Nat} {v val : Value} {V : List Value} {l : List (List Int)} {r : List Int} (hs : a.eval s = v) (hx : a.eval x = .slice (some ⟨wr.heap.size, 0, none⟩) 1 c1)
    (hown : wr.ownsRow lo 24 1 v n V) (hlo : lo ≤ wr.heap.size) (hn : n ≤ 2000000) (hrows : RowQ wr B V l) (hval : RowV wr B val r) (hB : B ≤ lo)
    (h : ∀ v' w', w'.ownsRow lo 24 1 v' (n + 1) (V ++ [val]) → RowQ w' B (V ++ [val]) (l ++ [r]) → Below lo wr w' → wpList Try.prog ops Q rest (a.put o.dst v') w') :
    wpList Try.prog ops Q (o :: rest) a (wr.alloc (.cells #[val] 24)) := by
  obtain ⟨i0, hi0, hz0, hz1, hz2⟩ := info_parts info_ints
  have h1c : val.oneCell' = true := by obtain ⟨A, c, rfl, _⟩ := hval; rfl
  refine wpList_push hgd s x 22 ho 24 i0 (.slice none 0 0) 1 24 Try.underlying22 hi0 hz0 hz1 hz2 rfl (by omega) hs hx (cs := #[val]) rfl (by simpa using h1c)
    (cells_new_at wr #[val] 24) (hown.alloc _) ((Below.refl lo wr).alloc hlo _) (by simp; omega) hn (by omega) ?_
  intro v' w' a1 a2 a3 a4
  exact h v' w' (by simpa using a1) ((hrows.snoc hval).keep a2 hB) a2
theorem eqIntsM (A B : Option Addr) (xs : List Int) (c d : Nat) (w : World) (hx : RI w w.heap.size A xs) (hy : RI w w.heap.size B xs) :
    Calls Try.prog 38 #[.slice A xs.length c, .slice B xs.length d] w fun e w' => e = .returned (.bool true) ∧ Grow w w' := by
  have he := eqB_self xs
  refine (laws_equalInts A B xs xs c d w hx hy).mono ?_
  rintro e w' ⟨rfl, n, rfl⟩
  exact ⟨by rw [he], Grow.drewN _ _⟩

set_option maxHeartbeats 3200000 in
theorem walk_FnMeanOfOrder (a0 : Option Addr) (n0 c0 : Nat) (x0 : List Int) (w : World) (h0 : ArgB w a0 n0 c0 x0) :
    Calls Try.prog 5 #[.slice a0 n0 c0] w fun e w' => e = .returned (.bool true) ∧ Below w.heap.size w w' := by
  by_cases hn : n0 ≤ 1048576
  · go_enter Try.func5, Try.ntmps5
    go_wp2_with fail
    refine (spec_DrawMeanOf _ _ _ _ _ h0).mono ?_
    rintro e w1 ⟨A1, c1, l, rfl, q1, hsm, hlc, hcm, hl18, g1⟩
    clear h0
    go_wp2_with fail
    refine (impl_MeanOf _ _ l _ q1).mono ?_; rintro e w2 ⟨v2, rfl, o2, g2⟩
    obtain ⟨zs, hzs⟩ : ∃ zs, zs = meanV l := ⟨_, rfl⟩
    rw [← hzs] at o2
    have HZ := Lib.hid hzs
    obtain ⟨A3, c3, rfl, _, _, q3⟩ := o2.open_
    clear o2 hzs
    go_wp2_with fail
    refine (spec_MeanOf _ _ l _ (q1.grow g2)).mono ?_; rintro e w3 ⟨v3, rfl, o3, g3⟩
    rw [← HZ.out] at o3
    obtain ⟨A4, c4, rfl, _, _, q4⟩ := o3.open_
    clear o3
    go_wp2_with fail
    refine (eqIntsM _ _ zs _ _ _ (q3.grow g3) q4).mono ?_; rintro e w4 ⟨rfl, g4⟩
    have k4 : Grow w1 w4 := g2.trans (g3.trans g4)
    have K4 : Grow w w4 := g1.trans k4
    have q14 := q1.grow k4
    have q34 := q3.grow (g3.trans g4)
    clear q3 q4 hsm
    go_wp2_with fail
    have hm1 : ((l.length : Int) - 1 - (0 : Nat)) = (l.length : Int) - 1 := by omega
    go_loopw [5, 6] (fun v i wr => ∃ (k : Nat) (V : List Value), k ≤ l.length ∧ i = .int .i64 ((l.length : Int) - 1 - k) ∧ wr.ownsRow w4.heap.size 24 1 v k V ∧ RowQ wr w4.heap.size V (l.reverse.take k) ∧ Below w4.heap.size w4 wr) (fun _ i _ => (intOf i + 1).toNat)
    case atStart => exact ⟨0, [], Nat.zero_le _, by go_num, by simpa using World.ownsRow_lit (base := w4.heap.size) (e := 24) (size := 1) w4 #[] 0 (Nat.le_refl _) (by unfold maxLen; omega) rfl, ⟨by simp, fun i v r hv => by simp at hv⟩, (Below.refl _ _).alloc (Nat.le_refl _) _⟩
    case round =>
      obtain ⟨k, V, hk, rfl, hown, hrows, hb⟩ := hrel
      by_cases hlt : k < l.length
      · obtain ⟨j, hj⟩ : ∃ j : Nat, (l.length : Int) - 1 - k = j := ⟨l.length - 1 - k, by omega⟩
        have hjl : j < l.length := by omega
        have hjk : l.length - 1 - k = j := by omega
        obtain ⟨ad, Ak, ck, r, rfl, hab, hc, hrc, hck, hri, hr⟩ := (q14.keep hb).at_ (k := j) hjl
        have hval : RowV wr w4.heap.size (.slice Ak r.length ck) r := ⟨Ak, ck, rfl, hrc, hck, hri⟩
        have hlo := hb.size
        have hn3 : k ≤ 2000000 := by omega
        have hrev : l.reverse.take k ++ [r] = l.reverse.take (k + 1) := by
          rw [List.take_add_one, List.getElem?_reverse hlt, hjk, hr.out]; rfl
        have HR := Lib.hid hrev
        rw [hj]
        have HJ := Lib.hid hj
        have hj0 : (0 : Int) ≤ (j : Int) := by omega
        clear hj hjk hrev hm1
        go_wp2_with (at_builtin; go_must (refine wpList_pushQ (by rfl) _ _ (by rfl) (by rfl) (by rfl) hown hlo hn3 hrows hval (Nat.le_refl _) ?_); intro v5 w5 hown5 hrows5 hb5)
        rw [HR.out] at hrows5
        go_roundw
        case rel => exact ⟨k + 1, _, by omega, by have := HJ.out; go_num, hown5, hrows5, hb.trans hb5⟩
        case measure => simp [intOf]
      · obtain rfl : k = l.length := by omega
        have hfull : l.reverse.take l.length = l.reverse := by rw [← List.length_reverse, List.take_length]
        rw [hfull] at hrows
        have hlen : l.reverse.length = l.length := List.length_reverse
        have gw : Grow w4 wr := hb
        obtain ⟨A5, c5, rfl, rr5⟩ := rr_ofQ hrows (by rw [hlen]; exact hown) gw.size (by rw [hlen]; omega)
        obtain ⟨bk, hbk⟩ : ∃ bk, bk = l.reverse := ⟨_, rfl⟩
        rw [← hbk] at rr5 hlen
        have hmv : meanV bk = zs := by rw [hbk, meanV_rev, HZ.out]
        have HM := Lib.hid hmv
        have hneg : ¬ (0 : Int) ≤ (l.length : Int) - 1 - l.length := by omega
        have q3w := q34.grow gw
        rw [← hbk]
        clear hmv hbk hfull hrows hown hlen hm1
        go_wp2_with fail
        refine (impl_MeanOf _ _ bk _ rr5).mono ?_; rintro e w6 ⟨v6, rfl, o6, g6⟩
        rw [HM.out] at o6
        obtain ⟨A6, c6, rfl, _, _, q6⟩ := o6.open_
        clear o6
        go_wp2_with fail
        refine (eqIntsM _ _ zs _ _ _ q6 (q3w.grow g6)).mono ?_; rintro e w7 ⟨rfl, g7⟩
        go_wp2_with fail
        go_ret
        exact ⟨rfl, K4.trans (gw.trans (g6.trans g7))⟩
  · go_enter Try.func5, Try.ntmps5
    go_wp2_with fail
    go_ret
    exact ⟨rfl, Below.refl _ _⟩
end Go.Proofs.Ytaocmgafglalnaa
