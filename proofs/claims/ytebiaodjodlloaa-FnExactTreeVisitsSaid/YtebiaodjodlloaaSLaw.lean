/- The contracts of the laws' helpers on stores: sizes, copies, comparing. -/
import Derived.Test.YtebiaodjodlloaaSOpen
import Derived.Test.YtebiaodjodlloaaCopy
import Derived.Test.YtebiaodjodlloaaGet
import Derived.Test.YtebiaodjodlloaaLawAid
import Derived.Test.YtebiaodjodlloaaDraw
import Derived.Test.YtebiaodjodlloaaFrom
namespace Go.Proofs.Ytebiaodjodlloaa
set_option linter.unusedVariables false
open Go Go.RowKit

/-- What a measure of sizes gives: a number below 0, or what is left, and that it fitted. -/
def Left (left z : Int) (Q : Prop) : Prop := z < 0 ∨ (0 ≤ z ∧ z ≤ left ∧ Q)
theorem laws_szIntS (A : Option Addr) (n c : Nat) (left : Int) (w : World) (hn : n ≤ maxLen) (h0 : 0 ≤ left) (h1 : left ≤ 1048576) :
    Calls Try.prog 79 #[.slice A n c, .int .i64 left] w fun e w' => ∃ z, e = .returned (.int .i64 z) ∧ Left left z (n ≤ 1048576) ∧ w = w' := by
  unfold maxLen at hn
  by_cases hlt : left < n
  · have h' : left - (n : Int) < 0 := by omega
    go_enter Try.func79, Try.ntmps79
    go_wp2
    go_ret
    exact ⟨-1, rfl, .inl (by omega), rfl⟩
  · have h' : ¬ left - (n : Int) < 0 := by omega
    go_enter Try.func79, Try.ntmps79
    go_wp2
    go_ret
    exact ⟨left - n, rfl, .inr ⟨by omega, by omega, by omega⟩, rfl⟩

theorem laws_szItem (k : Int) (A : Option Addr) (n c : Nat) (t left : Int) (w : World) (hn : n ≤ maxLen) (h0 : 0 ≤ left) (h1 : left ≤ 1048576) :
    Calls Try.prog 46 #[.agg #[.int .i64 k, .slice A n c, .int .i64 t], .int .i64 left] w fun e w' => ∃ z, e = .returned (.int .i64 z) ∧ Left left z (n ≤ 1048576) ∧ Grow w w' := by
  have hg : Grow w (w.alloc (.cells #[.int .i64 k, .slice A n c, .int .i64 t] 63)) := (Below.refl _ _).alloc (Nat.le_refl _) _
  go_enter Try.func46, Try.ntmps46
  go_wp2_with fail
  refine (laws_szIntS A n c left _ hn h0 h1).mono ?_; rintro e w1 ⟨z, rfl, hz, rfl⟩
  rcases hz with hz | ⟨z0, z1, hq⟩
  · go_wp2_with fail
    go_ret
    exact ⟨-1, rfl, .inl (by omega), hg⟩
  · go_wp2_with fail
    go_ret
    exact ⟨z, rfl, .inr ⟨z0, z1, hq⟩, hg⟩

/-- The items so far have short slices. -/
def ShortTo (l : List It) (k : Nat) : Prop := ∀ j x, j < k → l[j]? = some x → x.pt.length ≤ 1048576
theorem ShortTo.zero {l : List It} : ShortTo l 0 := fun j x hj => absurd hj (by omega)
theorem ShortTo.succ {l : List It} {k : Nat} {x : It} (h : ShortTo l k) (hx : l[k]? = some x) (hs : x.pt.length ≤ 1048576) : ShortTo l (k + 1) := fun j y hj hy => by
  rcases Nat.lt_succ_iff_lt_or_eq.1 hj with hj | rfl
  · exact h j y hj hy
  · rw [hx] at hy; injection hy with hy; rw [← hy]; exact hs
theorem ArgS.rs_of {w : World} {A : Option Addr} {n c : Nat} {l : List It} (h : ArgS w A n c l) (hn : n ≤ 1048576) (hs : ShortTo l n) : RS w w.heap.size A l :=
  h.rs (by omega) (fun k x hx => by have := hs k x (by have := (List.getElem?_eq_some_iff.1 hx).1; rw [h.len] at this; exact this) hx; omega)
theorem ArgS.at_ {w : World} {A : Option Addr} {n c : Nat} {l : List It} (h : ArgS w A n c l) {k : Nat} (hk : k < n) : ∃ ad Ak ck x, A = some ad ∧ w.cell? (ad.add (k * 3)) = some (.int .i64 x.key) ∧ w.cell? ⟨(ad.add (k * 3)).block, (ad.add (k * 3)).off + 1, none⟩ = some (.slice Ak x.pt.length ck) ∧
    w.cell? ⟨(ad.add (k * 3)).block, (ad.add (k * 3)).off + 2, none⟩ = some (.int .i64 x.tags) ∧ x.pt.length ≤ maxLen ∧ Hid (l[k]? = some x) := by
  have hk' : k < l.length := by rw [h.len]; exact hk
  obtain ⟨ad, Ak, ck, e, hB, h0, h1, h2, h3, h4⟩ := h.row k _ (List.getElem?_eq_getElem hk')
  rw [add_one _ _ _ (by omega)] at h1 h2
  exact ⟨ad, Ak, ck, _, e, h0, h1, h2, Nat.le_trans h3.cap h3.top, Lib.hid (List.getElem?_eq_getElem hk')⟩

set_option maxHeartbeats 800000 in
theorem laws_szItemS (A : Option Addr) (n c : Nat) (l : List It) (left : Int) (w : World) (h : ArgS w A n c l) (h0 : 0 ≤ left) (h1 : left ≤ 1048576) :
    Calls Try.prog 16 #[.slice A n c, .int .i64 left] w fun e w' => ∃ z, e = .returned (.int .i64 z) ∧ Left left z (RS w w.heap.size A l) ∧ Grow w w' := by
  have hn : n ≤ maxLen := Nat.le_trans h.cap h.top
  unfold maxLen at hn
  by_cases hlt : left < n
  · have h' : left - (n : Int) < 0 := by omega
    go_enter Try.func16, Try.ntmps16
    go_wp2
    go_ret
    exact ⟨-1, rfl, .inl (by omega), Grow.refl _⟩
  · have h' : ¬ left - (n : Int) < 0 := by omega
    have hn2 : n ≤ 1048576 := by omega
    go_enter Try.func16, Try.ntmps16
    go_wp2_with fail
    go_loopw [1, 5] (fun v i wr => ∃ (k : Nat) (z : Int), k ≤ n ∧ i = .int .i64 k ∧ v = .int .i64 z ∧ 0 ≤ z ∧ z ≤ left ∧ ShortTo l k ∧ Grow w wr) (fun _ i _ => n - (intOf i).toNat)
    case atStart => exact ⟨0, left - n, Nat.zero_le _, rfl, rfl, by omega, by omega, ShortTo.zero, Grow.refl _⟩
    case round =>
      obtain ⟨k, z, hk, rfl, rfl, z0, z1, hs, hg⟩ := hrel
      have HS := Lib.hid hs
      clear hs
      by_cases hkn : k < n
      · obtain ⟨ad, Ak, ck, x, rfl, c0, c1, c2, hxl, hx⟩ := (h.grow hg).at_ hkn
        have hk2 : k + 1 ≤ n := by omega
        go_wp2_with fail
        refine (laws_szItem x.key Ak x.pt.length ck x.tags z _ hxl z0 (by omega)).mono ?_; rintro e w1 ⟨y, rfl, hy, g1⟩
        rcases hy with hy | ⟨y0, y1, hq⟩
        · go_wp2_with fail
          go_ret
          exact ⟨-1, rfl, .inl (by omega), hg.trans g1⟩
        · go_wp2_with fail
          go_roundw
          case rel => exact ⟨k + 1, y, by omega, by go_num, rfl, y0, by omega, HS.out.succ hx.out hq, hg.trans g1⟩
          case measure => simp [intOf]; omega
      · obtain rfl : k = n := by omega
        go_wp2_with fail
        go_ret
        exact ⟨z, rfl, .inr ⟨z0, z1, h.rs_of hn2 HS.out⟩, hg⟩

/-- Two items are one: the comparison of each text says so. -/
theorem eqT_ne (a : Int) : (a != a) = false := by simp
set_option maxHeartbeats 800000 in
theorem laws_eqItem_same (x : It) (A B : Option Addr) (c d : Nat) (w : World) (hx : RI w w.heap.size A x.pt) (hy : RI w w.heap.size B x.pt) :
    Calls Try.prog 52 #[.agg #[.int .i64 x.key, .slice A x.pt.length c, .int .i64 x.tags], .agg #[.int .i64 x.key, .slice B x.pt.length d, .int .i64 x.tags]] w fun e w' => e = .returned (.bool true) ∧ Grow w w' := by
  obtain ⟨k, xs, t⟩ := x
  simp only at hx hy ⊢
  have hk := eqT_ne k
  have ht := eqT_ne t
  have he := eqB_self xs
  have g1 : Grow w (w.alloc (.cells #[.int .i64 k, .slice A xs.length c, .int .i64 t] 43)) := (Below.refl _ _).alloc (Nat.le_refl _) _
  have g2 : Grow w ((w.alloc (.cells #[.int .i64 k, .slice A xs.length c, .int .i64 t] 43)).alloc (.cells #[.int .i64 k, .slice B xs.length d, .int .i64 t] 43)) := ((Below.refl _ _).alloc (Nat.le_refl _) _).alloc (by simp) _
  have hx2 := hx.grow g2
  have hy2 := hy.grow g2
  go_enter Try.func52, Try.ntmps52
  go_wp2_with fail
  refine (laws_eqIntS _ _ xs xs _ _ _ hx2 hy2).mono ?_; rintro e w' ⟨rfl, m, rfl⟩
  go_wp2_with fail
  go_ret
  exact ⟨rfl, g2.trans (Grow.drewN _ _)⟩

set_option maxHeartbeats 1600000 in
theorem laws_eqItemS_same (A B : Option Addr) (c d : Nat) (l : List It) (w : World) (hx : RS w w.heap.size A l) (hy : RS w w.heap.size B l) :
    Calls Try.prog 22 #[.slice A l.length c, .slice B l.length d] w fun e w' => e = .returned (.bool true) ∧ Grow w w' := by
  have hl := hx.len
  have hn := eqT_ne (l.length : Int)
  go_enter Try.func22, Try.ntmps22
  go_wp2_with fail
  go_loopw [5] (fun i wr => ∃ k : Nat, k ≤ l.length ∧ i = .int .i64 k ∧ Grow w wr) (fun i _ => l.length - (intOf i).toNat)
  case atStart => exact ⟨0, Nat.zero_le _, rfl, Grow.refl _⟩
  case round =>
    obtain ⟨k, hk, rfl, hg⟩ := hrel
    have hX := hx.grow hg
    have hY := hy.grow hg
    by_cases hlt : k < l.length
    · obtain ⟨ad, Ak, ck, x, rfl, had, c0, c1, c2, _, _, hri, _, _, hxk⟩ := hX.at_ hlt
      obtain ⟨bd, Bk, dk, y, rfl, hbd, d0, d1, d2, _, _, hrj, _, _, hyk⟩ := hY.at_ hlt
      obtain rfl : y = x := by have a := hxk.out; rw [hyk.out] at a; injection a
      have hba : (ad.add (k * 3)).block = ad.block := block_of_add _ _
      have hbb : (bd.add (k * 3)).block = bd.block := block_of_add _ _
      have e0 : ∀ s : From wr, s.w.cell? (ad.add (k * 3)) = some (.int .i64 y.key) := fun s => (s.cell (by rw [hba]; exact had)).trans c0
      have e1 : ∀ s : From wr, s.w.cell? ⟨(ad.add (k * 3)).block, (ad.add (k * 3)).off + 1, none⟩ = some (.slice Ak y.pt.length ck) := fun s => (s.cell (by rw [hba]; exact had)).trans c1
      have e2 : ∀ s : From wr, s.w.cell? ⟨(ad.add (k * 3)).block, (ad.add (k * 3)).off + 2, none⟩ = some (.int .i64 y.tags) := fun s => (s.cell (by rw [hba]; exact had)).trans c2
      have f0 : ∀ s : From wr, s.w.cell? (bd.add (k * 3)) = some (.int .i64 y.key) := fun s => (s.cell (by rw [hbb]; exact hbd)).trans d0
      have f1 : ∀ s : From wr, s.w.cell? ⟨(bd.add (k * 3)).block, (bd.add (k * 3)).off + 1, none⟩ = some (.slice Bk y.pt.length dk) := fun s => (s.cell (by rw [hbb]; exact hbd)).trans d1
      have f2 : ∀ s : From wr, s.w.cell? ⟨(bd.add (k * 3)).block, (bd.add (k * 3)).off + 2, none⟩ = some (.int .i64 y.tags) := fun s => (s.cell (by rw [hbb]; exact hbd)).trans d2
      have HC := fun s : From wr => From.call (laws_eqItem_same y Ak Bk ck dk s.w (hri.grow s.g) (hrj.grow s.g))
      have hl2 : k + 1 ≤ l.length := by omega
      clear hba hbb c0 c1 c2 d0 d1 d2 hX hY
      go_wp2_with fail
      refine wp_region_from (by kernel_rfl) (by kernel_rfl) ?_
      repeat (go_big_quiet_step (exact HC _))
      refine wpQuiet_nil ?_
      intro w2 g2
      go_wp2_with fail
      go_roundw
      case rel => exact ⟨k + 1, by omega, by go_num, hg.trans g2⟩
      case measure => simp [intOf]; omega
    · obtain rfl : k = l.length := by omega
      go_wp2
      go_ret
      exact ⟨rfl, hg⟩

theorem info_item_zero : (Value.agg #[.int .i64 0, .slice none 0 0, .int .i64 0]).cells = #[.int .i64 0, .slice none 0 0, .int .i64 0] := rfl
set_option maxHeartbeats 1600000 in
theorem laws_toItem (x : It) (A : Option Addr) (c : Nat) (w : World) (h : RI w w.heap.size A x.pt) :
    Calls Try.prog 49 #[.agg #[.int .i64 x.key, .slice A x.pt.length c, .int .i64 x.tags]] w fun e w' => ∃ u, e = .returned (.agg #[.int .i64 x.key, u, .int .i64 x.tags]) ∧ OwnI w' w.heap.size w'.heap.size u x.pt ∧ Grow w w' := by
  obtain ⟨k, xs, t⟩ := x
  simp only at h ⊢
  obtain ⟨w0, hw0⟩ : ∃ w0, w0 = ((w.alloc (.cells #[.int .i64 k, .slice A xs.length c, .int .i64 t] 63)).alloc (.cells #[.int .i64 0, .slice none 0 0, .int .i64 0] 43)).alloc (.cells #[.int .i64 k, .slice none 0 0, .int .i64 0] 43) := ⟨_, rfl⟩
  have s0 : w0.heap.size = w.heap.size + 3 := by rw [hw0]; simp
  have g0 : Grow w w0 := by rw [hw0]; exact (((Below.refl _ _).alloc (Nat.le_refl _) _).alloc (by simp) _).alloc (by simp; omega) _
  have b0 : Blk w0 w.heap.size 63 #[.int .i64 k, .slice A xs.length c, .int .i64 t] := by rw [hw0]; exact ((Blk.new w _ _).alloc _).alloc _
  have b1 : Blk w0 (w.heap.size + 1) 43 #[.int .i64 0, .slice none 0 0, .int .i64 0] := by
    rw [hw0]; have := (Blk.new (w.alloc (.cells #[.int .i64 k, .slice A xs.length c, .int .i64 t] 63)) 43 #[.int .i64 0, .slice none 0 0, .int .i64 0]).alloc (.cells #[.int .i64 k, .slice none 0 0, .int .i64 0] 43); simpa using this
  have b2 : Blk w0 (w.heap.size + 1 + 1) 43 #[.int .i64 k, .slice none 0 0, .int .i64 0] := by
    rw [hw0]; have := Blk.new ((w.alloc (.cells #[.int .i64 k, .slice A xs.length c, .int .i64 t] 63)).alloc (.cells #[.int .i64 0, .slice none 0 0, .int .i64 0] 43)) 43 #[.int .i64 k, .slice none 0 0, .int .i64 0]; simpa using this
  have hr := h.grow g0
  have HW := Lib.hid hw0
  have S0 := Lib.hid s0
  clear hw0 s0
  go_enter Try.func49, Try.ntmps49
  go_wp2_with fail
  rw [← HW.out]
  refine (laws_toIntS _ _ _ _ hr).mono ?_; rintro e w1 ⟨u, rfl, o1, g1⟩
  obtain ⟨c0, c1, c2, _, _, _⟩ := cells3 b0 g1
  obtain ⟨d0, d1, d2, e0, e1, e2⟩ := cells3 b1 g1
  obtain ⟨f0, f1, f2, h0, h1, h2⟩ := cells3 b2 g1
  obtain ⟨Au, cu, rfl, _, _, _⟩ := o1.open_
  clear HW
  go_wp2_with fail
  have hs := S0.out
  refine bodyPost_ret (v := .agg #[.int .i64 k, .slice Au xs.length cu, .int .i64 t]) (by simp [results, Try.results49, go_sem, d0, d1, d2]) rfl ⟨_, rfl, ?_, ?_⟩
  · have o2 := o1.turn (lo' := w.heap.size) (hi' := w0.heap.size) ((((((Turn.refl _ _ w1).setCell (p := ⟨w.heap.size + 1 + 1, 1, none⟩) (by show w.heap.size ≤ w.heap.size + 1 + 1; omega) (show w.heap.size + 1 + 1 < w0.heap.size by omega) (.slice Au xs.length cu)).setCell
      (p := ⟨w.heap.size + 1 + 1, 2, none⟩) (by show w.heap.size ≤ w.heap.size + 1 + 1; omega) (show w.heap.size + 1 + 1 < w0.heap.size by omega) (.int .i64 t)).setCell (p := ⟨w.heap.size + 1, 0, none⟩) (Nat.le_succ _) (show w.heap.size + 1 < w0.heap.size by omega) (.int .i64 k)).setCell
      (p := ⟨w.heap.size + 1, 1, none⟩) (Nat.le_succ _) (show w.heap.size + 1 < w0.heap.size by omega) (.slice Au xs.length cu)).setCell (p := ⟨w.heap.size + 1, 2, none⟩) (Nat.le_succ _) (show w.heap.size + 1 < w0.heap.size by omega) (.int .i64 t)) (.inr (Nat.le_refl _))
    exact o2.lower (by omega) (by simp [World.setCell])
  · exact (((((Grow.trans g0 g1).setCell (p := ⟨w.heap.size + 1 + 1, 1, none⟩) (by show w.heap.size ≤ w.heap.size + 1 + 1; omega) _).setCell (p := ⟨w.heap.size + 1 + 1, 2, none⟩) (by show w.heap.size ≤ w.heap.size + 1 + 1; omega) _).setCell (p := ⟨w.heap.size + 1, 0, none⟩) (Nat.le_succ _) _).setCell (p := ⟨w.heap.size + 1, 1, none⟩) (Nat.le_succ _) _).setCell (p := ⟨w.heap.size + 1, 2, none⟩) (Nat.le_succ _) _

/-! A store into a row of items that the call owns. -/
theorem OwnSP.form {w : World} {lo hi : Nat} {A : Option Addr} {n c : Nat} {p : List (It × Value)} (h : OwnSP w lo hi (.slice A n c) p) (hn : 0 < p.length) : ∃ g, A = some ⟨g, 0, none⟩ ∧ n = p.length ∧ lo ≤ g ∧ g < hi ∧ g < w.heap.size := by
  rcases h.own.2 with ⟨_, h0⟩ | ⟨g, cap, cur, hv, hb, hg, _⟩
  · omega
  · injection hv with e1 e2 e3
    subst e1
    exact ⟨g, rfl, e2, hb, h.top g rfl, (Array.getElem?_eq_some_iff.1 hg).1⟩
theorem OwnSP.not_own {w : World} {lo hi g n c : Nat} {p : List (It × Value)} (h : OwnSP w lo hi (.slice (some ⟨g, 0, none⟩) n c) p) {a b : Nat} {u : Value} {xs : List Int} (o : OwnI w a b u xs) : ∀ k, u.ownBlock = some k → k ≠ g := by
  intro k hk e
  subst e
  exact own_apart o.own h.own (by decide) _ hk (by simp [Value.ownBlock])
theorem OwnI.setFar {w : World} {lo hi g j : Nat} {u x : Value} {xs : List Int} (o : OwnI w lo hi u xs) (h : ∀ k, u.ownBlock = some k → k ≠ g) : OwnI (w.setCell ⟨g, j, none⟩ x) lo hi u xs :=
  o.still fun k hk => Below.heap_setCell w ⟨g, j, none⟩ x k (h k hk)
theorem OwnSP.cell_ {w : World} {lo hi g n c : Nat} {p : List (It × Value)} (h : OwnSP w lo hi (.slice (some ⟨g, 0, none⟩) n c) p) (hn : n = p.length) {k : Nat} {x : It} {u : Value} (hk : p[k]? = some (x, u)) :
    w.cell? ⟨g, k * 3, none⟩ = some (.int .i64 x.key) ∧ w.cell? ⟨g, k * 3 + 1, none⟩ = some u ∧ w.cell? ⟨g, k * 3 + 2, none⟩ = some (.int .i64 x.tags) ∧ w.frozen? ⟨g, k * 3, none⟩ = false ∧ w.frozen? ⟨g, k * 3 + 1, none⟩ = false ∧ w.frozen? ⟨g, k * 3 + 2, none⟩ = false := by
  subst hn
  obtain ⟨c0, c1, c2⟩ := flatS_at hk
  have hp := (List.getElem?_eq_some_iff.1 hk).1
  have o := h.own
  have hl := flatS_len p
  have c0' := (List.getElem?_eq_some_iff.1 c0).1
  have c2' := (List.getElem?_eq_some_iff.1 c2).1
  exact ⟨(o.cellAt _ (by omega)).trans c0, (o.cellAt _ (by omega)).trans c1, (o.cellAt _ (by omega)).trans c2, o.frozenAt _, o.frozenAt _, o.frozenAt _⟩
theorem pairwise_set {p : List (It × Value)} {k : Nat} {z : It × Value} (h : p.Pairwise fun a b => ∀ g, a.2.ownBlock = some g → b.2.ownBlock ≠ some g) (hz : ∀ (j : Nat) (q : It × Value), p[j]? = some q → j ≠ k → ∀ g, q.2.ownBlock = some g → z.2.ownBlock ≠ some g) :
    (p.set k z).Pairwise fun a b => ∀ g, a.2.ownBlock = some g → b.2.ownBlock ≠ some g := by
  rw [List.pairwise_iff_getElem] at h ⊢
  intro i j hi hj hij g h1 h2
  simp only [List.length_set] at hi hj
  rw [List.getElem_set] at h1 h2
  by_cases e1 : k = i
  · rw [if_pos e1] at h1
    rw [if_neg (by omega)] at h2
    exact hz j _ (List.getElem?_eq_getElem hj) (by omega) g h2 h1
  · rw [if_neg e1] at h1
    by_cases e2 : k = j
    · rw [if_pos e2] at h2
      exact hz i _ (List.getElem?_eq_getElem hi) (by omega) g h1 h2
    · rw [if_neg e2] at h2
      exact h i j hi hj hij g h1 h2
theorem OwnSP.setItem {w : World} {lo hi g n c : Nat} {p : List (It × Value)} (h : OwnSP w lo hi (.slice (some ⟨g, 0, none⟩) n c) p) (hn : n = p.length) {k : Nat} {q : It × Value} (hk : p[k]? = some q) {x : It} {u : Value} (hu : OwnI w hi w.heap.size u x.pt) (hle : hi ≤ w.heap.size) (f1 : Fits x.key) (f2 : Fits x.tags) :
    OwnSP (((w.setCell ⟨g, k * 3, none⟩ (.int .i64 x.key)).setCell ⟨g, k * 3 + 1, none⟩ u).setCell ⟨g, k * 3 + 2, none⟩ (.int .i64 x.tags)) lo w.heap.size (.slice (some ⟨g, 0, none⟩) n c) (p.set k (x, u)) := by
  subst hn
  obtain ⟨y, v⟩ := q
  have hlo : lo ≤ hi := by
    have hp := (List.getElem?_eq_some_iff.1 hk).1
    obtain ⟨g', _, _, h1, h2, _⟩ := h.form (by omega)
    omega
  refine ⟨?_, fun a ha => Nat.lt_of_lt_of_le (h.top a ha) hle, fun q hq => ?_, pairwise_set h.apart fun j q hj _ a h1 h2 => ?_, fun q hq => ?_, by simpa using h.len⟩
  · have s1 := (h.own.stored (k * 3) (.int .i64 x.key)).1
    rw [(flatS_set hk).1 x.key] at s1
    have s2 := (s1.stored (k * 3 + 1) u).1
    have hk1 : (p.set k (⟨x.key, y.pt, y.tags⟩, v))[k]? = some (⟨x.key, y.pt, y.tags⟩, v) := by rw [List.getElem?_set_self (List.getElem?_eq_some_iff.1 hk).1]
    rw [(flatS_set hk1).2.1 x.pt u, List.set_set] at s2
    have s3 := (s2.stored (k * 3 + 2) (.int .i64 x.tags)).1
    have hk2 : (p.set k (⟨x.key, x.pt, y.tags⟩, u))[k]? = some (⟨x.key, x.pt, y.tags⟩, u) := by rw [List.getElem?_set_self (List.getElem?_eq_some_iff.1 hk).1]
    rw [(flatS_set hk2).2.2 x.tags, List.set_set] at s3
    simpa using s3
  · have far : ∀ {a b : Nat} {z : Value} {zs : List Int}, OwnI w a b z zs → OwnI (((w.setCell ⟨g, k * 3, none⟩ (.int .i64 x.key)).setCell ⟨g, k * 3 + 1, none⟩ u).setCell ⟨g, k * 3 + 2, none⟩ (.int .i64 x.tags)) a b z zs :=
      fun o => ((o.setFar (h.not_own o)).setFar (h.not_own o)).setFar (h.not_own o)
    rcases List.mem_or_eq_of_mem_set hq with hq | rfl
    · exact (far (h.pts q hq)).lower (Nat.le_refl _) hle
    · exact (far hu).lower hlo (Nat.le_refl _)
  · have a1 := (h.pts q (List.mem_of_getElem? hj)).top a h1
    have a2 := (hu.lt a h2).1
    omega
  · rcases List.mem_or_eq_of_mem_set hq with hq | rfl
    · exact h.fit q hq
    · exact ⟨f1, f2⟩

theorem flatS_zero (n : Nat) : (madeCells (Value.agg #[.int .i64 0, .slice none 0 0, .int .i64 0]).cells (n * 3)).toList = flatS (List.replicate n (It.zero, .slice none 0 0)) := by
  apply List.ext_getElem?
  intro j
  have hl := flatS_len (List.replicate n (It.zero, Value.slice none 0 0))
  rw [List.length_replicate] at hl
  by_cases hj : j < n * 3
  · obtain ⟨k, r, hr, rfl⟩ : ∃ k r, r < 3 ∧ j = k * 3 + r := ⟨j / 3, j % 3, Nat.mod_lt _ (by omega), by omega⟩
    have hk : (List.replicate n (It.zero, Value.slice none 0 0))[k]? = some (It.zero, .slice none 0 0) := by rw [List.getElem?_replicate, if_pos (by omega)]
    obtain ⟨f0, f1, f2⟩ := flatS_at hk
    have hm : (madeCells (Value.agg #[.int .i64 0, .slice none 0 0, .int .i64 0]).cells (n * 3)).toList[k * 3 + r]? = some ((#[.int .i64 0, .slice none 0 0, .int .i64 0] : Array Value)[(k * 3 + r) % 3]!) := by
      simp [madeCells, info_item_zero, hj]
    have hmod : (k * 3 + r) % 3 = r := by omega
    rw [hm, hmod]
    match r, hr with
    | 0, _ => rw [Nat.add_zero, f0]; rfl
    | 1, _ => rw [f1]; rfl
    | 2, _ => rw [f2]; rfl
  · rw [List.getElem?_eq_none (by simp [madeCells]; omega), List.getElem?_eq_none (by omega)]
theorem OwnSP.zeros {w : World} {lo n c : Nat} {v : Value} (h : w.ownsRow lo 43 3 v n (flatS (List.replicate n (It.zero, .slice none 0 0)))) (hn : n ≤ 2000000) : OwnSP w lo w.heap.size v (List.replicate n (It.zero, .slice none 0 0)) :=
  ⟨by simpa using h, fun g hg => (h.lt g hg).2, fun q hq => by rw [List.eq_of_mem_replicate hq]; exact OwnI.nil_, by
    rw [List.pairwise_replicate]; right; intro g hg; simp [Value.ownBlock] at hg, fun q hq => by rw [List.eq_of_mem_replicate hq]; exact ⟨by simp [Fits, It.zero], by simp [Fits, It.zero]⟩, by simpa using hn⟩
def mixS (l : List It) (k : Nat) : List It := l.take k ++ List.replicate (l.length - k) It.zero
theorem mixS_zero (l : List It) : mixS l 0 = List.replicate l.length It.zero := by simp [mixS]
theorem mixS_all (l : List It) : mixS l l.length = l := by simp [mixS]
theorem mixS_len {l : List It} {k : Nat} (hk : k ≤ l.length) : (mixS l k).length = l.length := by simp [mixS]; omega
theorem mixS_set {l : List It} {k : Nat} {x : It} (hx : l[k]? = some x) : (mixS l k).set k x = mixS l (k + 1) := by
  have hk : k < l.length := (List.getElem?_eq_some_iff.1 hx).1
  have e : l.length - k = (l.length - (k + 1)) + 1 := by omega
  have et : l.take (k + 1) = l.take k ++ [x] := by rw [List.take_add_one, hx]; rfl
  rw [mixS, mixS, e, List.replicate_succ, List.set_append_right _ _ (by simp; omega), et]
  simp [Nat.min_eq_left (Nat.le_of_lt hk)]

set_option maxHeartbeats 1600000 in
theorem laws_toItemS (A : Option Addr) (c : Nat) (l : List It) (w : World) (h : RS w w.heap.size A l) :
    Calls Try.prog 19 #[.slice A l.length c] w fun e w' => ∃ v, e = .returned v ∧ OwnS w' w.heap.size w'.heap.size v l ∧ Grow w w' := by
  have hl := h.len
  obtain ⟨i0, hi0, hz0, hz1, hz2⟩ := info_parts info_item
  go_enter Try.func19, Try.ntmps19
  go_wp2_with (at_make; refine wpList_make_full _ rfl _ _ _ rfl w.heap.size 43 i0 _ 3 Try.underlying23 hi0 hz0 hz1 .i64 .i64 _ _ l.length rfl rfl rfl rfl (by rw [hz2]; omega) (by unfold maxLen; omega) (Nat.le_refl _) ?_; intro w1 hown1 hgr1)
  rw [flatS_zero] at hown1
  have hb1 : Below w.heap.size w w1 := (Below.refl _ _).grown hgr1 (Nat.le_refl _) (by simp)
  have o1 := OwnSP.zeros (c := 0) hown1 hl
  clear hgr1 hown1
  go_loopw [4] (fun i wr => ∃ (k : Nat) (p : List (It × Value)), k ≤ l.length ∧ i = .int .i64 k ∧ p.map Prod.fst = mixS l k ∧ OwnSP wr w.heap.size wr.heap.size (.slice (some ⟨w.heap.size, 0, none⟩) l.length l.length) p ∧ Below w.heap.size w wr) (fun i _ => l.length - (intOf i).toNat)
  case atStart => exact ⟨0, _, Nat.zero_le _, rfl, by simp [mixS_zero], o1, hb1⟩
  case round =>
    clear o1 hb1
    obtain ⟨k, p, hk, rfl, hp, hown, hb⟩ := hrel
    have hpl : p.length = l.length := by have := congrArg List.length hp; rwa [List.length_map, mixS_len hk] at this
    have HP := Lib.hid hp
    have HL := Lib.hid hpl
    clear hp hpl
    have hsz := hb.size
    by_cases hlt : k < l.length
    · obtain ⟨ad, Ak, ck, x, rfl, had, c0, c1, c2, hc1, hc2, hri, hf, hg, hx⟩ := (h.keep hb).at_ hlt
      have hl2 : k + 1 ≤ l.length := by omega
      have hri' := hri.more hsz
      have hkp : k < p.length := by rw [HL.out]; exact hlt
      have hq : p[k]? = some (p[k].1, p[k].2) := List.getElem?_eq_getElem hkp
      go_wp2_with fail
      refine (laws_toItem x _ _ _ hri').mono ?_; rintro e w3 ⟨u, rfl, o3, g3⟩
      have hown3 := hown.turn (g3.turn 0 0) (.inr (Nat.zero_le _))
      obtain ⟨z0, z1, z2, f0, f1, f2⟩ := hown3.cell_ HL.out.symm hq
      obtain ⟨Au, cu, rfl, _, _, _⟩ := o3.open_
      have hset := hown3.setItem HL.out.symm hq o3 g3.size hf hg
      have hb3 := below_grow hb g3 hsz
      have hbW : Below w.heap.size w (((w3.setCell ⟨w.heap.size, k * 3, none⟩ (.int .i64 x.key)).setCell ⟨w.heap.size, k * 3 + 1, none⟩ (.slice Au x.pt.length cu)).setCell ⟨w.heap.size, k * 3 + 2, none⟩ (.int .i64 x.tags)) :=
        ((hb3.setCell (p := ⟨w.heap.size, k * 3, none⟩) (Nat.le_refl _) _).setCell (p := ⟨w.heap.size, k * 3 + 1, none⟩) (Nat.le_refl _) _).setCell (p := ⟨w.heap.size, k * 3 + 2, none⟩) (Nat.le_refl _) _
      have hmx := mixS_set hx.out
      have HM := Lib.hid hmx
      clear hmx hq hown hown3
      go_wp2_with fail
      go_roundw
      case rel => exact ⟨k + 1, p.set k (x, .slice Au x.pt.length cu), by omega, by go_num, by rw [List.map_set, HP.out]; exact HM.out, by simpa [World.setCell] using hset, hbW⟩
      case measure => simp [intOf]; omega
    · obtain rfl : k = l.length := by omega
      go_wp2_with fail
      go_ret
      exact ⟨_, rfl, ⟨p, by rw [HP.out, mixS_all], hown⟩, hb⟩
end Go.Proofs.Ytebiaodjodlloaa
