/- The nearest items: the reference's putting in of a hit. -/
import Derived.Test.YtebiaodjodlloaaNear2
import Derived.Test.YtebiaodjodlloaaPlainT
import Derived.Deep.CutRange
import Derived.Deep.DeepCutAuto
namespace Go.Proofs.Ytebiaodjodlloaa
set_option linter.unusedVariables false
open Go Go.RowKit

theorem RK.of_blk {α : Type} {p : Pod α} {w : World} {g : Nat} {y : α} (h : Blk w g p.t (podV p y).toArray) (hf : ∀ n ∈ p.f y, Fits n) : RK p w w.heap.size (some ⟨g, 0, none⟩) [y] := by
  refine ⟨⟨podL_len p _, fun _ => ⟨_, rfl, h.lt, fun j u hu => ?_⟩⟩, fun x hx n hn => by rw [List.mem_singleton] at hx; subst hx; exact hf n hn, by simp⟩
  rw [podL_one] at hu
  have e : (⟨g, 0, none⟩ : Addr).add j = ⟨g, j, none⟩ := by
    unfold Addr.add; by_cases hj : j = 0 <;> simp [hj]
  rw [e, h.cell]; simpa using hu
theorem step_copyK {α : Type} {p : Pod α} {P : Program} {ops : Array Oper} {o : Oper} {a : Act} {Q : Exit → Act → World → Prop} {K : Act → World → Prop} {E : Prop} {T : TypeId} (hi : PodIn P p T) (hgd : o.guard = none) (s x : Operand)
    (ho : o.op = .call { callee := .builtin .append, args := #[s, x], argTypes := #[T, T] })
    {wr : World} {lo hi' B n c : Nat} {v : Value} {A : Option Addr} {l l2 : List α} (hs : a.eval s = v) (hx : a.eval x = .slice A n c) (hn : n = l2.length)
    (hown : OwnK p wr lo hi' v l) (hr : RK p wr B A l2) (hB : lo ≤ wr.heap.size) (hn1 : l.length ≤ 1000000) (hn2 : l2.length ≤ 1000000)
    (h : ∀ v' w', OwnK p w' lo w'.heap.size v' (l ++ l2) → Below lo wr w' → wr.grownBy w' v.ownBlock → (v'.ownBlock = v.ownBlock ∨ v'.ownBlock = some wr.heap.size) → K (a.put o.dst v') w') :
    if Region.wanted o (yielded ops a.tmps) = true then Oper.wp P o a wr K Q else E := by
  rw [if_pos (by simp [Region.wanted, hgd])]
  exact wp_copyK hi s x ho hs hx hn hown hr hB hn1 hn2 h

set_option maxRecDepth 20000 in
theorem spec_nearer (a b : Ht) (w : World) :
    Calls Try.prog 94 #[.agg #[.int .i64 a.key, .int .i64 a.dist], .agg #[.int .i64 b.key, .int .i64 b.dist]] w fun e w' => e = .returned (.bool (htB a b)) ∧ Grow w w' := by
  obtain ⟨ak, ad⟩ := a
  obtain ⟨bk, bd⟩ := b
  have hg : Grow w ((w.alloc (.cells #[.int .i64 ak, .int .i64 ad] 78)).alloc (.cells #[.int .i64 bk, .int .i64 bd] 78)) := ((Below.refl _ _).alloc (Nat.le_refl _) _).alloc (by simp) _
  have HB := Lib.hid (show htB ⟨ak, ad⟩ ⟨bk, bd⟩ = (decide (ad < bd) || (decide (ad = bd) && decide (ak < bk))) from rfl)
  simp only
  by_cases h1 : ad < bd
  · go_enter Try.func94, Try.ntmps94
    go_wp2_with fail
    go_ret
    exact ⟨ret_bool (by rw [HB.out]; simp [h1]), hg⟩
  · by_cases h2 : ad = bd
    · subst h2
      go_enter Try.func94, Try.ntmps94
      go_wp2_with fail
      go_ret
      exact ⟨ret_bool (by rw [HB.out]; simp), hg⟩
    · have h3 : (ad == bd) = false := by rw [beq_eq_false_iff_ne]; exact h2
      go_enter Try.func94, Try.ntmps94
      go_wp2_with fail
      go_ret
      exact ⟨ret_bool (by rw [HB.out]; simp [h1, h2]), hg⟩

/-- The first elements of a row of the call's own: 's[:m]'. -/
theorem OwnK.cut {α : Type} {p : Pod α} {w : World} {lo hi g n c m : Nat} {l : List α} (h : OwnK p w lo hi (.slice (some ⟨g, 0, none⟩) n c) l) (hm : m ≤ l.length) : OwnK p w lo hi (.slice (some ⟨g, 0, none⟩) m c) (l.take m) := by
  have hlm : (l.take m).length = m := by simp; omega
  refine ⟨⟨podL_len p _, ?_⟩, h.top, fun x hx => h.fit x (List.mem_of_mem_take hx), by have := h.len; omega⟩
  rcases h.own.2 with ⟨h', _⟩ | ⟨g', cap', cur, h', hb, hg, hnc, hcm, hcs, htake⟩
  · simp at h'
  · simp only [Value.slice.injEq, Option.some.injEq, Addr.mk.injEq, and_true] at h'
    obtain ⟨rfl, rfl, rfl⟩ := h'
    refine .inr ⟨g, c, cur, by rw [hlm], hb, hg, by omega, hcm, hcs, ?_⟩
    have e : podL p l = podL p (l.take m) ++ podL p (l.drop m) := by rw [← podL_append, List.take_append_drop]
    have e2 : cur.toList.take ((l.take m).length * p.k) = (cur.toList.take (l.length * p.k)).take ((l.take m).length * p.k) := by
      rw [List.take_take, Nat.min_eq_left (Nat.mul_le_mul_right _ (by omega))]
    rw [e2, htake, e, List.take_append_of_le_length (by rw [podL_len]; exact Nat.le_refl _), List.take_of_length_le (by rw [podL_len]; exact Nat.le_refl _)]
/-- The hit h stands at place i of the list. -/
def insAt {α : Type} (l : List α) (h : α) (i : Nat) : List α := l.take i ++ h :: l.drop i
theorem insAt_len {α : Type} (l : List α) (h : α) {i : Nat} (hi : i ≤ l.length) : (insAt l h i).length = l.length + 1 := by simp [insAt]; omega
theorem insAt_at {α : Type} (l : List α) (h : α) {i : Nat} (hi : i ≤ l.length) : (insAt l h i)[i]? = some h := by
  rw [insAt, List.getElem?_append_right (by simp; omega), List.length_take, Nat.min_eq_left hi, Nat.sub_self]; rfl
theorem insAt_pre {α : Type} (l : List α) (h : α) {i j : Nat} (hj : j < i) (hi : i ≤ l.length) : (insAt l h i)[j]? = l[j]? := by
  rw [insAt, List.getElem?_append_left (by simp; omega), List.getElem?_take, if_pos hj]
theorem insAt_swap {α : Type} (l : List α) (h y : α) {i : Nat} (hi : i + 1 ≤ l.length) (hy : l[i]? = some y) : ((insAt l h (i + 1)).set (i + 1) y).set i h = insAt l h i := by
  apply List.ext_getElem?
  intro j
  have hlen := insAt_len l h hi
  have hlen2 := insAt_len l h (show i ≤ l.length by omega)
  by_cases h1 : j = i
  · subst h1
    rw [List.getElem?_set_self (by rw [List.length_set, hlen]; omega), insAt_at l h (by omega)]
  · rw [List.getElem?_set_ne (fun e => h1 e.symm)]
    by_cases h2 : j = i + 1
    · subst h2
      rw [List.getElem?_set_self (by rw [hlen]; omega)]
      rw [insAt, List.getElem?_append_right (by simp; omega), List.length_take, Nat.min_eq_left (show i ≤ l.length by omega), Nat.add_sub_cancel_left, List.getElem?_cons_succ, List.getElem?_drop, Nat.add_zero, hy]
    · rw [List.getElem?_set_ne (fun e => h2 e.symm)]
      rcases Nat.lt_or_ge j i with h3 | h3
      · rw [insAt_pre l h (by omega) hi, insAt_pre l h h3 (by omega)]
      · have h4 : i + 1 < j := by omega
        rw [insAt, insAt, List.getElem?_append_right (by simp; omega), List.getElem?_append_right (by simp; omega), List.length_take, List.length_take, Nat.min_eq_left hi, Nat.min_eq_left (show i ≤ l.length by omega)]
        obtain ⟨m, rfl⟩ : ∃ m, j = i + 2 + m := ⟨j - i - 2, by omega⟩
        rw [show i + 2 + m - (i + 1) = m + 1 by omega, show i + 2 + m - i = m + 2 by omega, List.getElem?_cons_succ, List.getElem?_cons_succ, List.getElem?_drop, List.getElem?_drop]
        congr 1; omega
theorem insAt_end {α : Type} (l : List α) (h : α) : insAt l h l.length = l ++ [h] := by simp [insAt]
theorem insL_at {α : Type} (lt : α → α → Bool) (d h : α) (l : List α) : insL lt d h l = insAt l h (insPos lt d h l l.length) := rfl
/-- The loop's place: still on the way to where h belongs. -/
def OnWay {α : Type} (lt : α → α → Bool) (d h : α) (l : List α) (i : Nat) : Prop := i ≤ l.length ∧ insPos lt d h l l.length = insPos lt d h l i
theorem OnWay.start {α : Type} (lt : α → α → Bool) (d h : α) (l : List α) : OnWay lt d h l l.length := ⟨Nat.le_refl _, rfl⟩
theorem OnWay.next {α : Type} {lt : α → α → Bool} {d h y : α} {l : List α} {i : Nat} (k : OnWay lt d h l (i + 1)) (hy : l[i]? = some y) (hl : lt h y = true) : OnWay lt d h l i :=
  ⟨by have := k.1; omega, by rw [k.2, insPos, hy]; simp [hl]⟩
theorem OnWay.stop {α : Type} {lt : α → α → Bool} {d h y : α} {l : List α} {i : Nat} (k : OnWay lt d h l (i + 1)) (hy : l[i]? = some y) (hl : lt h y = false) : insAt l h (i + 1) = insL lt d h l := by
  rw [insL_at, k.2, insPos, hy]; simp [hl]
theorem OnWay.zero {α : Type} {lt : α → α → Bool} {d h : α} {l : List α} (k : OnWay lt d h l 0) : insAt l h 0 = insL lt d h l := by rw [insL_at, k.2]; rfl

set_option maxRecDepth 20000 in
set_option maxHeartbeats 3200000 in
theorem spec_addHit (A : Option Addr) (c : Nat) (l : List Ht) (h : Ht) (k : Nat) (w : World) (hr : RK hitP w w.heap.size A l) (hf : ∀ n ∈ hitP.f h, Fits n) (hl : l.length ≤ 1000) (hk : k ≤ 1000) :
    Calls Try.prog 100 #[.slice A l.length c, .agg #[.int .i64 h.key, .int .i64 h.dist], .int .i64 k] w fun e w' => ∃ u, e = .returned u ∧ OwnK hitP w' w.heap.size w'.heap.size u (addH l h k) ∧ Grow w w' := by
  obtain ⟨w0, hw0⟩ : ∃ w0, w0 = w.alloc (.cells #[.int .i64 h.key, .int .i64 h.dist] 78) := ⟨_, rfl⟩
  have g0 : Grow w w0 := by rw [hw0]; exact (Below.refl _ _).alloc (Nat.le_refl _) _
  have b0 : Blk w0 w.heap.size 78 #[.int .i64 h.key, .int .i64 h.dist] := by rw [hw0]; exact Blk.new _ _ _
  have e0 : w.heap.size < w0.heap.size := b0.lt
  have r0 := hr.grow g0
  have z0 : ∀ o1 o2, ((w0.alloc o1).alloc o2).cell? ⟨w.heap.size, 0, none⟩ = some (.int .i64 h.key) := fun o1 o2 => ((b0.alloc o1).alloc o2).cell 0
  have HW := Lib.hid hw0
  clear hw0
  go_enter Try.func100, Try.ntmps100
  go_wp2_with fail
  rw [← HW.out]
  have oA : OwnK hitP (w0.alloc (.cells #[] 78)).drew w0.heap.size (w0.heap.size + 1) (.slice (some ⟨w0.heap.size, 0, none⟩) 0 0) [] := (OwnK.lit (p := hitP) w0).grow (Grow.drew _)
  have gA : Grow w0 (w0.alloc (.cells #[] 78)).drew := Grow.trans ((Below.refl _ _).alloc (Nat.le_refl _) _) (Grow.drew _)
  have oB : OwnK hitP ((w0.alloc (.cells #[] 78)).alloc (.cells #[.int .i64 h.key, .int .i64 h.dist] 78)).drew w0.heap.size (w0.heap.size + 1) (.slice (some ⟨w0.heap.size, 0, none⟩) 0 0) [] := ((OwnK.lit (p := hitP) w0).grow ((Below.refl _ _).alloc (Nat.le_refl _) _)).grow (Grow.drew _)
  have gB : Grow w0 ((w0.alloc (.cells #[] 78)).alloc (.cells #[.int .i64 h.key, .int .i64 h.dist] 78)).drew := Grow.trans (((Below.refl _ _).alloc (Nat.le_refl _) _).alloc (by simp) _) (Grow.drew _)
  have hB : Blk ((w0.alloc (.cells #[] 78)).alloc (.cells #[.int .i64 h.key, .int .i64 h.dist] 78)).drew (w0.heap.size + 1) 78 #[.int .i64 h.key, .int .i64 h.dist] := by
    have := Blk.new (w0.alloc (.cells #[] 78)) 78 #[.int .i64 h.key, .int .i64 h.dist]
    rw [World.size_alloc] at this
    exact this.drew
  have oC : OwnK hitP ((w0.alloc (.cells #[.int .i64 h.key, .int .i64 h.dist] 78)).alloc (.cells #[] 78)).drew w0.heap.size (w0.heap.size + 2) (.slice (some ⟨w0.heap.size + 1, 0, none⟩) 0 0) [] := by
    have := OwnK.lit (p := hitP) (w0.alloc (.cells #[.int .i64 h.key, .int .i64 h.dist] 78))
    rw [World.size_alloc] at this
    exact (this.grow (Grow.drew _)).lower (Nat.le_succ _) (Nat.le_refl _)
  have gC : Grow w0 ((w0.alloc (.cells #[.int .i64 h.key, .int .i64 h.dist] 78)).alloc (.cells #[] 78)).drew := Grow.trans (((Below.refl _ _).alloc (Nat.le_refl _) _).alloc (by simp) _) (Grow.drew _)
  have hC : Blk ((w0.alloc (.cells #[.int .i64 h.key, .int .i64 h.dist] 78)).alloc (.cells #[] 78)).drew w0.heap.size 78 #[.int .i64 h.key, .int .i64 h.dist] := ((Blk.new w0 _ _).alloc _).drew
  have y0 : ∀ o1, (w0.alloc o1).cell? ⟨w.heap.size, 0, none⟩ = some (.int .i64 h.key) := fun o1 => (b0.alloc o1).cell 0
  have y1 : ∀ o1, (w0.alloc o1).cell? ⟨w.heap.size, 1, none⟩ = some (.int .i64 h.dist) := fun o1 => (b0.alloc o1).cell 1
  have x0 : w0.cell? ⟨w.heap.size, 0, none⟩ = some (.int .i64 h.key) := b0.cell 0
  have x1 : w0.cell? ⟨w.heap.size, 1, none⟩ = some (.int .i64 h.dist) := b0.cell 1
  have hl2 : l.length ≤ 1000000 := by omega
  have hl3 : ([] ++ l).length ≤ 1000000 := by simpa using hl2
  have hl4 : ([] ++ l).length ≤ 1999999 := by simp; omega
  have key : ∀ w1, Grow w0 w1 → w1.cell? ⟨w.heap.size, 0, none⟩ = some (.int .i64 h.key) ∧ w1.cell? ⟨w.heap.size, 1, none⟩ = some (.int .i64 h.dist) := fun w1 g => ⟨(b0.below g e0).cell 0, (b0.below g e0).cell 1⟩
  have KEY := Lib.hid key
  clear HW key z0
  go_cut [7] (fun v wc => OwnK hitP wc w0.heap.size wc.heap.size v (l ++ [h]) ∧ Below w0.heap.size w0 wc)
  case first =>
    go_region_law (first
      | (refine step_copyK hit_in (by rfl) (.tmp 10) (.tmp 11) (by rfl) (by rfl) (by rfl) rfl oA (r0.below gA) gA.size (by simp) hl2 ?_; intro v1 w1 o1 b1 gr1 bl1; have k1 : Grow w0 w1 := Below.trans gA b1; obtain ⟨x0, x1⟩ := KEY.out w1 k1)
      | (refine step_copyK hit_in (by rfl) (.tmp 10) (.tmp 11) (by rfl) (by rfl) (by rfl) rfl oB (r0.below gB) gB.size (by simp) hl2 ?_; intro v1 w1 o1 b1 gr1 bl1; have k1 : Grow w0 w1 := Below.trans gB b1; have hq := hB.grown gr1 (by simp [Value.ownBlock]))
      | (refine step_copyK hit_in (by rfl) (.tmp 10) (.tmp 11) (by rfl) (by rfl) (by rfl) rfl oC (r0.below gC) gC.size (by simp) hl2 ?_; intro v1 w1 o1 b1 gr1 bl1; have k1 : Grow w0 w1 := Below.trans gC b1; have hq := hC.grown gr1 (by simp [Value.ownBlock]))
      | (refine step_pushK (p := hitP) (wr := w1) (y := h) hit_in (by rfl) (.tmp 12) (.tmp 14) (by rfl) (by rfl) (by rfl) rfl rfl rfl rfl o1 k1.size hl4 hf ?_; intro v2 w2 o2 b2 _ _)
      | (refine step_copyK (l2 := [h]) hit_in (by rfl) (.tmp 12) (.tmp 14) (by rfl) (by rfl) (by rfl) rfl o1 (RK.of_blk (p := hitP) hq hf) k1.size hl3 (by simp) ?_; intro v2 w2 o2 b2 _ _))
    all_goals
      go_wp2_with fail
      go_meet
      exact ⟨o2, Below.trans k1 b2⟩
  case rest =>
    obtain ⟨hown, hb⟩ := hcut
    obtain ⟨A7, c7, rfl, hc7, hm7, _⟩ := hown.open_
    obtain ⟨g, rfl, _, hg1, hg2, hg3⟩ := hown.form (by simp)
    have hnl : (l ++ [h]).length = l.length + 1 := by simp
    rw [hnl] at hown hc7 ⊢
    have hb0 := hb.size
    rw [← insAt_end] at hown
    obtain ⟨mm, hmm, hmm2⟩ : ∃ mm : Nat, min (k : Int) ((l.length : Int) + 1) = (mm : Int) ∧ mm = min k (l.length + 1) := ⟨min k (l.length + 1), by omega, rfl⟩
    have hmc : (mm : Int) ≤ (c7 : Int) := by omega
    have fin : ∀ wr, OwnK hitP wr w0.heap.size wc.heap.size (.slice (some ⟨g, 0, none⟩) (l.length + 1) c7) (insL htB Ht.zero h l) → Below w0.heap.size w0 wr → wc.heap.size ≤ wr.heap.size →
        ∃ u, Ending.returned (.slice (some ⟨g, 0, none⟩) mm c7) = .returned u ∧ OwnK hitP wr w.heap.size wr.heap.size u (addH l h k) ∧ Grow w wr := fun wr ho hb hs => by
      have hil := insL_len htB Ht.zero h l
      refine ⟨_, rfl, ?_, g0.trans hb⟩
      have := (ho.cut (m := mm) (by omega)).lower (lo' := w.heap.size) (hi' := wr.heap.size) (by omega) hs
      rw [addH]
      rw [hmm2] at this ⊢
      rcases Nat.le_total k (l.length + 1) with h1 | h1
      · rwa [Nat.min_eq_left h1] at this ⊢
      · rw [Nat.min_eq_right h1] at this ⊢
        rw [List.take_of_length_le (by omega)] at this ⊢
        exact this
    have FIN := Lib.hid fin
    clear fin hmm2
    clear oA gA oB gB hB oC gC hC y0 y1 x0 x1 hl2 hl3 hl4 KEY hnl b0 r0 hr
    go_wp2_with fail
    go_loopw [8] (fun i wr => ∃ m : Nat, i = .int .i64 m ∧ OnWay htB Ht.zero h l m ∧ OwnK hitP wr w0.heap.size wc.heap.size (.slice (some ⟨g, 0, none⟩) (l.length + 1) c7) (insAt l h m) ∧ Below w0.heap.size w0 wr ∧ wc.heap.size ≤ wr.heap.size) (fun i _ => (intOf i).toNat)
    case atStart => exact ⟨l.length, by go_num, OnWay.start _ _ _ _, hown, hb, Nat.le_refl _⟩
    case round =>
      clear hown hb
      obtain ⟨m, rfl, hway, hown, hb, hsz⟩ := hrel
      have hml := hway.1
      have hil := insAt_len l h hml
      rcases Nat.eq_zero_or_pos m with rfl | hm0
      · have hz := hway.zero
        rw [hz] at hown
        clear hz hil
        go_wp2_with fail
        go_quiet (fail)
        go_wp2_with fail
        go_ret
        exact FIN.out _ (hown.grow (Grow.drewN _ _)) (below_grow hb (Grow.drewN _ _) hb.size) hsz
      · obtain ⟨j, rfl⟩ : ∃ j, m = j + 1 := ⟨m - 1, by omega⟩
        have hj : j < l.length := by omega
        obtain ⟨y, hy⟩ : ∃ y, l[j]? = some y := ⟨_, List.getElem?_eq_getElem hj⟩
        have hyi : (insAt l h (j + 1))[j]? = some y := by rw [insAt_pre l h (Nat.lt_succ_self j) hml]; exact hy
        have hhi := insAt_at l h hml
        have q0 : ∀ s : From wr, s.w.cell? ⟨g, (j + 1) * 2, none⟩ = some (.int .i64 h.key) := fun s => (hown.grow s.g).cellAt (j := 0) hil.symm hhi rfl
        have q1 : ∀ s : From wr, s.w.cell? ⟨g, (j + 1) * 2 + 1, none⟩ = some (.int .i64 h.dist) := fun s => (hown.grow s.g).cellAt (j := 1) hil.symm hhi rfl
        have q2 : ∀ s : From wr, s.w.cell? ⟨g, j * 2, none⟩ = some (.int .i64 y.key) := fun s => (hown.grow s.g).cellAt (j := 0) hil.symm hyi rfl
        have q3 : ∀ s : From wr, s.w.cell? ⟨g, j * 2 + 1, none⟩ = some (.int .i64 y.dist) := fun s => (hown.grow s.g).cellAt (j := 1) hil.symm hyi rfl
        have HC := fun (b : Bool) (hb : htB h y = b) (s : From wr) => From.call (by have := spec_nearer h y s.w; rw [hb] at this; exact this)
        have i1 : ((j + 1 : Nat) : Int) < ((l.length + 1 : Nat) : Int) := by omega
        have i2 : (j : Int) < ((l.length + 1 : Nat) : Int) := by omega
        have i3 : IntKind.i64.wrap (((j + 1 : Nat) : Int) - 1) = (j : Int) := by rw [IntKind.wrap_i64]; omega
        have i4 : decide ((0 : Int) < ((j + 1 : Nat) : Int)) = true := by simp
        have HY := Lib.hid hy
        clear hy
        cases hlt : htB h y
        · have hst := hway.stop HY.out hlt
          rw [hst] at hown
          clear hst
          go_wp2_with fail
          refine wp_region_from (by kernel_rfl) (by kernel_rfl) ?_
          repeat (go_big_quiet_step (exact HC _ hlt _))
          refine wpQuiet_nil ?_
          intro w2 g2
          go_wp2_with fail
          go_ret
          exact FIN.out _ (hown.grow g2) (below_grow hb g2 hb.size) (Nat.le_trans hsz g2.size)
        · have hnext := hway.next HY.out hlt
          have hsw := insAt_swap l h y hml HY.out
          have hfy : ∀ n ∈ hitP.f y, Fits n := hown.fit y (List.mem_of_getElem? hyi)
          have HN := Lib.hid hnext
          have HSW := Lib.hid hsw
          clear hnext hsw
          go_wp2_with fail
          refine wp_region_from (by kernel_rfl) (by kernel_rfl) ?_
          repeat (go_big_quiet_step (exact HC _ hlt _))
          refine wpQuiet_nil ?_
          intro w2 g2
          have own2 := hown.grow g2
          have hb2 := below_grow hb g2 hb.size
          have e2 := g2.size
          clear q0 q1 q2 q3 HC hown hb
          have go : Grow w2 (w2.alloc (.cells #[.int .i64 h.key, .int .i64 h.dist] 78)) := (Below.refl _ _).alloc (Nat.le_refl _) _
          have ko : Blk (w2.alloc (.cells #[.int .i64 h.key, .int .i64 h.dist] 78)) w2.heap.size 78 #[.int .i64 h.key, .int .i64 h.dist] := Blk.new _ _ _
          have ho := own2.grow go
          have hbo := below_grow hb2 go hb2.size
          have p0 : w2.cell? ⟨g, (j + 1) * 2, none⟩ = some (.int .i64 h.key) := own2.cellAt (j := 0) hil.symm hhi rfl
          have p1 : w2.cell? ⟨g, (j + 1) * 2 + 1, none⟩ = some (.int .i64 h.dist) := own2.cellAt (j := 1) hil.symm hhi rfl
          have o1 := ho.set_ (i := j + 1) (j := 0) (x := h) (y := ⟨y.key, h.dist⟩) (z := y.key) hil.symm hhi (by show 0 < 2; omega) rfl (hfy _ (by simp [hitP]))
          have hL1 : ((insAt l h (j + 1)).set (j + 1) ⟨y.key, h.dist⟩)[j + 1]? = some ⟨y.key, h.dist⟩ := by rw [List.getElem?_set_self (by rw [hil]; omega)]
          have hl1 : ((insAt l h (j + 1)).set (j + 1) (⟨y.key, h.dist⟩ : Ht)).length = l.length + 1 := by rw [List.length_set, hil]
          have o2 := o1.set_ (i := j + 1) (j := 1) (x := ⟨y.key, h.dist⟩) (y := y) (z := y.dist) hl1.symm hL1 (by show 1 < 2; omega) rfl (hfy _ (by simp [hitP]))
          rw [List.set_set] at o2
          have hl2 : ((insAt l h (j + 1)).set (j + 1) y).length = l.length + 1 := by rw [List.length_set, hil]
          have hL2 : ((insAt l h (j + 1)).set (j + 1) y)[j]? = some y := by rw [List.getElem?_set_ne (by omega)]; exact hyi
          have o3 := o2.set_ (i := j) (j := 0) (x := y) (y := ⟨h.key, y.dist⟩) (z := h.key) hl2.symm hL2 (by show 0 < 2; omega) rfl (hf _ (by simp [hitP]))
          have hl3 : (((insAt l h (j + 1)).set (j + 1) y).set j ⟨h.key, y.dist⟩).length = l.length + 1 := by rw [List.length_set, hl2]
          have hL3 : (((insAt l h (j + 1)).set (j + 1) y).set j (⟨h.key, y.dist⟩ : Ht))[j]? = some ⟨h.key, y.dist⟩ := by rw [List.getElem?_set_self (by rw [hl2]; omega)]
          have o4 := o3.set_ (i := j) (j := 1) (x := ⟨h.key, y.dist⟩) (y := h) (z := h.dist) hl3.symm hL3 (by show 1 < 2; omega) rfl (hf _ (by simp [hitP]))
          rw [List.set_set, HSW.out] at o4
          have m0 := ho.cellAt (j := 0) hil.symm hyi rfl
          have m1 := ho.cellAt (j := 1) hil.symm hyi rfl
          have m2 := ho.cellAt (j := 0) hil.symm hhi rfl
          have f2 := ho.frozenAt ((j + 1) * 2) hil.symm
          have m3 := o1.cellAt (j := 1) hl1.symm hL1 rfl
          have f3 := o1.frozenAt ((j + 1) * 2 + 1) hl1.symm
          have m4 := o2.cellAt (j := 0) hl2.symm hL2 rfl
          have f4 := o2.frozenAt (j * 2) hl2.symm
          have m5 := o3.cellAt (j := 1) hl3.symm hL3 rfl
          have f5 := o3.frozenAt (j * 2 + 1) hl3.symm
          have go1 : g ≠ w2.heap.size := by have := own2.lt g rfl; omega
          have k2 := ((ko.far (p := ⟨g, (j + 1) * 2, none⟩) (fun e => go1 e.symm) (.int .i64 y.key)).far (p := ⟨g, (j + 1) * 2 + 1, none⟩) (fun e => go1 e.symm) (.int .i64 y.dist))
          have m6 := k2.cell 0
          have m7 := k2.cell 1
          have t4 : Turn g (g + 1) (w2.alloc (.cells #[.int .i64 h.key, .int .i64 h.dist] 78)) (((((w2.alloc (.cells #[.int .i64 h.key, .int .i64 h.dist] 78)).setCell ⟨g, (j + 1) * 2, none⟩ (.int .i64 y.key)).setCell ⟨g, (j + 1) * 2 + 1, none⟩ (.int .i64 y.dist)).setCell ⟨g, j * 2, none⟩ (.int .i64 h.key)).setCell ⟨g, j * 2 + 1, none⟩ (.int .i64 h.dist)) :=
            ((turn_at _ g _ _).trans (turn_at _ g _ _)).trans ((turn_at _ g _ _).trans (turn_at _ g _ _))
          have b4 := below_turn hbo t4 hbo.size hg1
          have e4 := t4.size
          have eo := go.size
          simp only [hitP, Nat.add_zero] at m0 m1 m2 m3 m4 m5 f2 f3 f4 f5 o4
          clear o1 o2 o3 hL1 hL2 hL3 hl1 hl2 hl3 k2 ko ho
          go_wp2_with fail
          go_roundw
          case rel => exact ⟨j, rfl, HN.out, o4, b4, by omega⟩
          case measure => simp [intOf]
end Go.Proofs.Ytebiaodjodlloaa
