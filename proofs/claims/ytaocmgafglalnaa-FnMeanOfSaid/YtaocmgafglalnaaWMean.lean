/- The walks of the laws on means: each returns true, and writes nothing that was there. -/
import Derived.Test.YtaocmgafglalnaaDrawR
import Derived.Test.YtaocmgafglalnaaPlainV
import Derived.Deep.RegionHeld3
import Derived.Test.YtaocmgafglalnaaWMeanOrder
namespace Go.Proofs.Ytaocmgafglalnaa
set_option linter.unusedVariables false
open Go Go.RowKit

def mnTo (f : Nat → Int) (x : Int) : Nat → Int
  | 0 => x
  | i + 1 => if f i < mnTo f x i then f i else mnTo f x i
def mxTo (f : Nat → Int) (x : Int) : Nat → Int
  | 0 => x
  | i + 1 => if mxTo f x i < f i then f i else mxTo f x i
theorem mnTo_le {f : Nat → Int} {x : Int} : ∀ {n i : Nat}, i < n → mnTo f x n ≤ f i
  | n + 1, i, h => by
    rcases Nat.lt_succ_iff_lt_or_eq.1 h with h | rfl
    · have := mnTo_le (f := f) (x := x) h
      show (if f n < mnTo f x n then f n else mnTo f x n) ≤ f i
      split <;> omega
    · show (if f i < mnTo f x i then f i else mnTo f x i) ≤ f i
      split <;> omega
theorem mxTo_ge {f : Nat → Int} {x : Int} : ∀ {n i : Nat}, i < n → f i ≤ mxTo f x n
  | n + 1, i, h => by
    rcases Nat.lt_succ_iff_lt_or_eq.1 h with h | rfl
    · have := mxTo_ge (f := f) (x := x) h
      show f i ≤ (if mxTo f x n < f n then f n else mxTo f x n)
      split <;> omega
    · show f i ≤ (if mxTo f x i < f i then f i else mxTo f x i)
      split <;> omega
theorem sumTo_lo {f : Nat → Int} {m : Int} : ∀ {n : Nat}, (∀ i, i < n → m ≤ f i) → m * n ≤ sumTo f n
  | 0, _ => by simp [sumTo]
  | n + 1, h => by
    have h1 := sumTo_lo (f := f) (m := m) (n := n) fun i hi => h i (by omega)
    have h2 := h n (by omega)
    have e : m * ((n + 1 : Nat) : Int) = m * n + m := by rw [Int.natCast_add, Int.mul_add]; simp
    rw [e]; show _ ≤ sumTo f n + f n; omega
theorem sumTo_hi {f : Nat → Int} {m : Int} : ∀ {n : Nat}, (∀ i, i < n → f i ≤ m) → sumTo f n ≤ m * n
  | 0, _ => by simp [sumTo]
  | n + 1, h => by
    have h1 := sumTo_hi (f := f) (m := m) (n := n) fun i hi => h i (by omega)
    have h2 := h n (by omega)
    have e : m * ((n + 1 : Nat) : Int) = m * n + m := by rw [Int.natCast_add, Int.mul_add]; simp
    rw [e]; show sumTo f n + f n ≤ _; omega
theorem meanF_mid {l : List (List Int)} (hl : 0 < l.length) (c : Nat) (x y : Int) :
    mnTo (fun i => gI (rowI l i) c) x l.length ≤ meanF l c ∧ meanF l c ≤ mxTo (fun i => gI (rowI l i) c) y l.length :=
  div_between (by omega) (sumTo_lo fun i hi => mnTo_le hi) (sumTo_hi fun i hi => mxTo_ge hi)

theorem meanOk_some {l : List (List Int)} (h : ¬ (meanV l).length = 0) : meanOk l = true := by
  cases e : meanOk l
  · rw [meanV_no e] at h; exact absurd rfl h
  · rfl
theorem meanOk_len {l : List (List Int)} (h : meanOk l = true) : 1 ≤ l.length ∧ l.length ≤ 16 := by
  have h1 : inB (l.length : Int) 1 16 = true := by
    rw [meanOk, Bool.and_eq_true] at h; exact h.1
  have := inB_iff.1 h1
  omega
theorem RR.one {w : World} {B : Nat} {A : Option Addr} {l : List (List Int)} {r : List Int} (h : RR w B A l) (hr : l[0]? = some r) : RR w B A [r] :=
  ⟨fun k q hq => by
    obtain rfl : k = 0 := by rcases Nat.eq_zero_or_pos k with h | h; exact h; rw [List.getElem?_eq_none (by simp; omega)] at hq; cases hq
    simp at hq; subst hq
    exact h.row 0 _ hr, by simp⟩
theorem meanV_all {n : Nat} {r : List Int} (hv : vecB r 4 = true) (h1 : 1 ≤ n) (hn : n ≤ 16) : meanV (List.replicate n r) = r := by
  have hok : meanOk (List.replicate n r) = true := by
    rw [meanOk, inB_yes (by simp; omega) (by simp; omega), rowsB_of (fun k q hk hq => ?_)]
    · rfl
    · rw [List.getElem?_replicate] at hq; split at hq
      · injection hq with hq; rw [← hq]; exact hv
      · cases hq
  rw [meanV_of hok]
  have hs : ∀ (c k : Nat), k ≤ n → colS (List.replicate n r) c k = k * gI r c := fun c k => by
    induction k with
    | zero => intro _; simp [colS, sumTo]
    | succ k ih =>
      intro hk
      have e : rowI (List.replicate n r) k = r := rowI_of (by rw [List.getElem?_replicate, if_pos (by omega)])
      have := ih (by omega)
      show colS (List.replicate n r) c k + gI (rowI (List.replicate n r) k) c = _
      rw [this, e, Int.natCast_add, Int.add_mul]; simp
  rw [rangeI_congr fun c _ => (show meanF (List.replicate n r) c = gI r c by
    rw [meanF, List.length_replicate, hs c n (Nat.le_refl _)]
    exact Int.mul_ediv_cancel_left _ (by omega)), rangeI_gI (vecB_four hv)]

theorem rr_lit3 (w : World) {A : Option Addr} {c : Nat} {r : List Int} (h : RI w w.heap.size A r) (h1 : r.length ≤ c) (h2 : c ≤ maxLen) :
    RR (w.alloc (.cells #[.slice A r.length c, .slice A r.length c, .slice A r.length c] 24)) (w.alloc (.cells #[.slice A r.length c, .slice A r.length c, .slice A r.length c] 24)).heap.size (some ⟨w.heap.size, 0, none⟩) [r, r, r] := by
  have g : Grow w (w.alloc (.cells #[.slice A r.length c, .slice A r.length c, .slice A r.length c] 24)) := (Below.refl _ _).alloc (Nat.le_refl _) _
  have hv : RowV (w.alloc (.cells #[.slice A r.length c, .slice A r.length c, .slice A r.length c] 24)) w.heap.size (.slice A r.length c) r := ⟨A, c, rfl, h1, h2, h.below g⟩
  have ho := World.ownsRow_lit (base := w.heap.size) (e := 24) (size := 1) w #[.slice A r.length c, .slice A r.length c, .slice A r.length c] 3 (Nat.le_refl _) (by unfold maxLen; omega) rfl
  obtain ⟨A', c', e, hr⟩ := rr_ofQ (l := [r, r, r]) (B := w.heap.size) ⟨rfl, fun i v q hi hq => by
    match i, hi, hq with
    | 0, hi, hq => simp at hi hq; subst hi hq; exact hv
    | 1, hi, hq => simp at hi hq; subst hi hq; exact hv
    | 2, hi, hq => simp at hi hq; subst hi hq; exact hv
    | i + 3, hi, hq => simp at hq⟩ ho g.size (by simp)
  injection e with e1
  subst e1
  exact hr

set_option maxRecDepth 2000 in
set_option maxHeartbeats 3200000 in
theorem walk_FnMeanOfOne (a0 : Option Addr) (n0 c0 : Nat) (x0 : List Int) (w : World) (h0 : ArgB w a0 n0 c0 x0) :
    Calls Try.prog 4 #[.slice a0 n0 c0] w fun e w' => e = .returned (.bool true) ∧ Below w.heap.size w w' := by
  by_cases hn : n0 ≤ 1048576
  · go_enter Try.func4, Try.ntmps4
    go_wp2_with fail
    refine (spec_DrawMeanOf _ _ _ _ _ h0).mono ?_
    rintro e w1 ⟨A1, c1, l, rfl, q1, hsm, hlc, hcm, hl18, g1⟩
    clear h0
    go_wp2_with fail
    refine (impl_MeanOf _ _ l _ q1).mono ?_; rintro e w2 ⟨v2, rfl, o2, g2⟩
    obtain ⟨zs, hzs⟩ : ∃ zs, zs = meanV l := ⟨_, rfl⟩
    rw [← hzs] at o2
    have HZ := Lib.hid hzs
    obtain ⟨A3, c3, rfl, _, _, q3⟩ := o2.open_
    clear o2 hzs
    go_wp2_with fail
    refine (spec_MeanOf _ _ l _ (q1.grow g2)).mono ?_; rintro e w3 ⟨v3, rfl, o3, g3⟩
    rw [← HZ.out] at o3
    obtain ⟨A4, c4, rfl, _, _, q4⟩ := o3.open_
    clear o3
    have heq := eqB_self zs
    go_wp2_with fail
    refine (laws_equalInts _ _ _ _ _ _ _ (q3.grow g3) q4).mono ?_; rintro e w' ⟨rfl, m, rfl⟩
    have g5 : Grow w (w3.drewN m) := g1.trans (g2.trans (g3.trans (Grow.drewN _ _)))
    have k1 : Grow w1 (w3.drewN m) := g2.trans (g3.trans (Grow.drewN _ _))
    have k2 : Grow w2 (w3.drewN m) := g3.trans (Grow.drewN _ _)
    by_cases hz : zs.length = 0
    · have hz' : ((zs.length : Int) == 0) = true := by rw [hz]; rfl
      have HL := Lib.hid hz
      clear hz
      go_wp2_with fail
      refine (spec_MeanOf _ _ l _ (q1.grow k1)).mono ?_; rintro e w4 ⟨v4, rfl, o4, g4⟩
      rw [← HZ.out] at o4
      obtain ⟨A5, c5, rfl, _, _, q5⟩ := o4.open_
      clear o4
      go_wp2_with fail
      refine (laws_equalInts _ _ zs zs _ _ _ (q3.grow (k2.trans g4)) q5).mono ?_; rintro e w' ⟨rfl, m2, rfl⟩
      go_wp2_with fail
      go_ret
      exact ⟨rfl, g5.trans (g4.trans (Grow.alike rfl rfl rfl rfl))⟩
    · have hz' : ((zs.length : Int) == 0) = false := by rw [beq_eq_false_iff_ne]; omega
      have hok : meanOk l = true := meanOk_some (by rw [← HZ.out]; exact hz)
      clear hz
      have hl1 : 1 ≤ l.length := (meanOk_len hok).1
      have hl1i : (1:Int) ≤ l.length := by omega
      have hc1i : (1:Int) ≤ (c1 : Int) := by omega
      have hc1n : 1 ≤ c1 := by omega
      have W3 := q1.grow (g2.trans g3)
      obtain ⟨ad, Ak, ck, r, rfl, hab, hc, hrc, hck, hri, hr⟩ := W3.at_ (k := 0) (by omega)
      have hc0 : w3.cell? ad = some (.slice Ak r.length ck) := by
        have e : ad.add 0 = ad := by cases ad; simp [Addr.add]
        rw [e] at hc; exact hc
      have HOK := Lib.hid hok
      clear hok hc
      have hc1z : ¬ c1 = 0 := by omega
      go_wp2_with fail
      have rr1 := W3.one hr.out
      have hv := rowsB_at (by have := HOK.out; rw [meanOk, Bool.and_eq_true] at this; exact this.2) hr.out
      have hm1 : meanV [r] = r := meanV_all (n := 1) hv (by omega) (by omega)
      have hm3 : meanV [r, r, r] = r := meanV_all (n := 3) hv (by omega) (by omega)
      have HM1 := Lib.hid hm1
      have HM3 := Lib.hid hm3
      have herr := eqB_self r
      clear hm1 hm3
      go_wp2_with fail
      obtain ⟨wz, hwz⟩ : ∃ wz, wz = w3.drewN m := ⟨_, rfl⟩
      have hcz : wz.cell? ad = some (.slice Ak r.length ck) := by rw [hwz]; exact hc0
      have rrz : RR wz wz.heap.size (some ad) [r] := by rw [hwz]; exact rr1.drewN m
      have riz : RI wz wz.heap.size Ak r := by rw [hwz]; exact hri.drewN m
      have habz : ad.block < wz.heap.size := by rw [hwz]; exact hab
      have GZ : Grow w wz := by rw [hwz]; exact g5
      rw [← hwz]
      clear hwz
      have hl0i : (0 : Int) < (l.length : Int) := by omega
      have hl0n : 0 < l.length := by omega
      have hczd : wz.drew.cell? ad = some (.slice Ak r.length ck) := hcz
      go_region_held3 (fun w' => w'.cell? ad = some (.slice Ak r.length ck))
        (first | assumption | go_keep)
        (first
          | ((go_at_call 31; refine (impl_MeanOf (some ad) c1 [r] _ (rrz.grow (Grow.drew _))).mono ?_; rintro e w4 ⟨v4, rfl, o4, g4⟩; rw [HM1.out] at o4; obtain ⟨A5, c5, rfl, _, _, q5⟩ := o4.open_; have G4 : Grow wz w4 := (Grow.drew wz).trans g4; have hc4 : w4.cell? ad = some (.slice Ak r.length ck) := (G4.cell habz).trans hcz; clear o4 rrz))
          | ((go_at_call 38; refine (eqIntsM _ _ r _ _ _ q5 (riz.grow G4)).mono ?_; rintro e w5 ⟨rfl, g5⟩; have G5 : Grow wz w5 := G4.trans g5; have hc5 : w5.cell? ad = some (.slice Ak r.length ck) := (G5.cell habz).trans hcz; have hab5 : ad.block < w5.heap.size := Nat.lt_of_lt_of_le habz G5.size; clear q5))
          | ((go_at_call 31; refine (impl_MeanOf _ 3 [r, r, r] _ (rr_lit3 w5 (riz.grow G5) hrc hck)).mono ?_; rintro e w6 ⟨v6, rfl, o6, g6⟩; rw [HM3.out] at o6; obtain ⟨A7, c7, rfl, _, _, q7⟩ := o6.open_; have G6 : Grow wz w6 := G5.trans (Grow.trans ((Below.refl _ _).alloc (Nat.le_refl _) _) g6); have hc6 : w6.cell? ad = some (.slice Ak r.length ck) := (G6.cell habz).trans hcz; clear o6))
          | ((go_at_call 38; refine (eqIntsM _ _ r _ _ _ q7 (riz.grow G6)).mono ?_; rintro e w8 ⟨rfl, g8⟩; have G8 : Grow wz w8 := G6.trans g8; have hc8 : w8.cell? ad = some (.slice Ak r.length ck) := (G8.cell habz).trans hcz)))
      go_wp2_with fail
      go_ret
      exact ⟨rfl, GZ.trans G8⟩
  · go_enter Try.func4, Try.ntmps4
    go_wp2_with fail
    go_ret
    exact ⟨rfl, Below.refl _ _⟩

end Go.Proofs.Ytaocmgafglalnaa
