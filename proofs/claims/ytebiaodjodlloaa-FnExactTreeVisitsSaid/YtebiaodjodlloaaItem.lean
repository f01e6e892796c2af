/- Stores in memory: slices of items, read, and owned. Plain lemmas on worlds; no condition. -/
import Derived.Test.YtebiaodjodlloaaRead
import Derived.Test.YtebiaodjodlloaaPlainS
namespace Go.Proofs.Ytebiaodjodlloaa
set_option linter.unusedVariables false
open Go Go.RowKit

def Fits (n : Int) : Prop := -9223372036854775808 ≤ n ∧ n ≤ 9223372036854775807
/-- The slice value with address A reads as the items l, below block B. -/
structure RS (w : World) (B : Nat) (A : Option Addr) (l : List It) : Prop where
  row : ∀ k x, l[k]? = some x → ∃ ad Ak ck, A = some ad ∧ ad.block < B ∧ w.cell? (ad.add (k * 3)) = some (.int .i64 x.key) ∧ w.cell? (ad.add (k * 3 + 1)) = some (.slice Ak x.pt.length ck) ∧
    w.cell? (ad.add (k * 3 + 2)) = some (.int .i64 x.tags) ∧ x.pt.length ≤ ck ∧ ck ≤ maxLen ∧ RI w B Ak x.pt ∧ Fits x.key ∧ Fits x.tags
  len : l.length ≤ 2000000
section
variable {w w' : World} {B B' : Nat} {A : Option Addr} {l : List It}
theorem RS.keep (h : RS w B A l) (hb : Below B w w') : RS w' B A l :=
  ⟨fun k x hx => by
    obtain ⟨ad, Ak, ck, e, hB, h0, h1, h2, h3, h4, h5, h6⟩ := h.row k x hx
    exact ⟨ad, Ak, ck, e, hB, (hb.cell (by rw [block_of_add]; exact hB)).trans h0, (hb.cell (by rw [block_of_add]; exact hB)).trans h1, (hb.cell (by rw [block_of_add]; exact hB)).trans h2, h3, h4, h5.below hb, h6⟩, h.len⟩
theorem RS.more (h : RS w B A l) (hB : B ≤ B') : RS w B' A l :=
  ⟨fun k x hx => by
    obtain ⟨ad, Ak, ck, e, hb, h0, h1, h2, h3, h4, h5, h6⟩ := h.row k x hx
    exact ⟨ad, Ak, ck, e, by omega, h0, h1, h2, h3, h4, h5.more hB, h6⟩, h.len⟩
theorem RS.grow (h : RS w w.heap.size A l) (hg : Grow w w') : RS w' w'.heap.size A l := (h.keep hg).more hg.size
theorem RS.far (h : RS w w.heap.size A l) (hb : Below w.heap.size w w') : RS w' w'.heap.size A l := (h.keep hb).more hb.size
theorem RS.drewN (h : RS w B A l) (k : Nat) : RS (w.drewN k) B A l := h.keep ⟨rfl, rfl, rfl, Nat.le_refl _, fun _ _ => rfl⟩
theorem RS.nil_ : RS w B A [] := ⟨fun k x hx => by simp at hx, by simp⟩
theorem add_one (ad : Addr) (k j : Nat) (hj : 0 < j) : ad.add (k + j) = ⟨(ad.add k).block, (ad.add k).off + j, none⟩ := by
  unfold Addr.add
  by_cases hk : k = 0
  · subst hk
    simp only [if_pos, Nat.zero_add]
    rw [if_neg (by omega)]
  · rw [if_neg (by omega), if_neg hk, Nat.add_assoc]
/-- An element, cell by cell. -/
theorem RS.at_ (h : RS w B A l) {k : Nat} (hk : k < l.length) : ∃ ad Ak ck x, A = some ad ∧ ad.block < B ∧ w.cell? (ad.add (k * 3)) = some (.int .i64 x.key) ∧ w.cell? ⟨(ad.add (k * 3)).block, (ad.add (k * 3)).off + 1, none⟩ = some (.slice Ak x.pt.length ck) ∧
    w.cell? ⟨(ad.add (k * 3)).block, (ad.add (k * 3)).off + 2, none⟩ = some (.int .i64 x.tags) ∧ x.pt.length ≤ ck ∧ ck ≤ maxLen ∧ RI w B Ak x.pt ∧ (-9223372036854775808 ≤ x.key ∧ x.key ≤ 9223372036854775807) ∧ (-9223372036854775808 ≤ x.tags ∧ x.tags ≤ 9223372036854775807) ∧ Hid (l[k]? = some x) := by
  obtain ⟨ad, Ak, ck, e, hB, h0, h1, h2, h3, h4, h5, h6, h7⟩ := h.row k _ (List.getElem?_eq_getElem hk)
  rw [add_one _ _ _ (by omega)] at h1 h2
  exact ⟨ad, Ak, ck, _, e, hB, h0, h1, h2, h3, h4, h5, h6, h7, Lib.hid (List.getElem?_eq_getElem hk)⟩
theorem RS.cells_ {ad : Addr} (h : RS w B (some ad) l) {k : Nat} {x : It} (hx : Hid (l[k]? = some x)) : ∃ Ak ck, w.cell? (ad.add (k * 3)) = some (.int .i64 x.key) ∧ w.cell? ⟨(ad.add (k * 3)).block, (ad.add (k * 3)).off + 1, none⟩ = some (.slice Ak x.pt.length ck) ∧
    w.cell? ⟨(ad.add (k * 3)).block, (ad.add (k * 3)).off + 2, none⟩ = some (.int .i64 x.tags) ∧ RI w B Ak x.pt := by
  obtain ⟨ad', Ak, ck, e, hB, h0, h1, h2, h3, h4, h5, h6, h7⟩ := h.row k _ hx.out
  injection e with e; subst e
  rw [add_one _ _ _ (by omega)] at h1 h2
  exact ⟨Ak, ck, h0, h1, h2, h5⟩
theorem RS.sub (h : RS w B A l) {n : Nat} : RS w B A (l.take n) :=
  ⟨fun k x hx => h.row k x (by rw [List.getElem?_take] at hx; split at hx; exact hx; cases hx), by have := h.len; simp; omega⟩
theorem RS.cut (h : RS w B A l) {n : Nat} (hn : n ≤ l.length) {ad : Addr} (hA : A = some ad) : RS w B (some (ad.add (n * 3))) (l.drop n) :=
  ⟨fun k x hx => by
    rw [List.getElem?_drop] at hx
    obtain ⟨ad', Ak, ck, e, hB, h0, h1, h2, h3⟩ := h.row _ x hx
    rw [hA] at e; injection e with e; subst e
    refine ⟨ad.add (n * 3), Ak, ck, rfl, by rw [block_of_add]; exact hB, ?_, ?_, ?_, h3⟩
    · rw [add_of_add, ← Nat.add_mul]; exact h0
    · rw [add_of_add, ← Nat.add_assoc, ← Nat.add_mul]; exact h1
    · rw [add_of_add, ← Nat.add_assoc, ← Nat.add_mul]; exact h2, by have := h.len; simp; omega⟩
end

/-! A row of items that the call owns: its cells. -/
def rowS (x : It) (u : Value) : List Value := [.int .i64 x.key, u, .int .i64 x.tags]
def flatS : List (It × Value) → List Value
  | [] => []
  | q :: p => rowS q.1 q.2 ++ flatS p
theorem flatS_append (p q : List (It × Value)) : flatS (p ++ q) = flatS p ++ flatS q := by
  induction p with
  | nil => rfl
  | cons a p ih => simp [flatS, ih]
theorem flatS_snoc (p : List (It × Value)) (x : It) (u : Value) : flatS (p ++ [(x, u)]) = flatS p ++ rowS x u := by simp [flatS_append, flatS]
theorem flatS_len (p : List (It × Value)) : (flatS p).length = p.length * 3 := by
  induction p with
  | nil => rfl
  | cons a p ih => simp [flatS, rowS, ih]; omega
theorem flatS_at {p : List (It × Value)} : ∀ {k : Nat} {x : It} {u : Value}, p[k]? = some (x, u) → (flatS p)[k * 3]? = some (.int .i64 x.key) ∧ (flatS p)[k * 3 + 1]? = some u ∧ (flatS p)[k * 3 + 2]? = some (.int .i64 x.tags) := by
  induction p with
  | nil => intro k x u h; simp at h
  | cons a p ih =>
    intro k x u h
    match k, h with
    | 0, h => simp at h; subst h; exact ⟨rfl, rfl, rfl⟩
    | k + 1, h =>
      have := ih (k := k) (x := x) (u := u) (by simpa using h)
      rw [show (k + 1) * 3 = k * 3 + 3 by omega]
      exact this
theorem flatS_set {p : List (It × Value)} : ∀ {k : Nat} {x : It} {u : Value}, p[k]? = some (x, u) →
    (∀ y : Int, (flatS p).set (k * 3) (.int .i64 y) = flatS (p.set k (⟨y, x.pt, x.tags⟩, u))) ∧ (∀ (ys : List Int) (u' : Value), (flatS p).set (k * 3 + 1) u' = flatS (p.set k (⟨x.key, ys, x.tags⟩, u'))) ∧
    (∀ y : Int, (flatS p).set (k * 3 + 2) (.int .i64 y) = flatS (p.set k (⟨x.key, x.pt, y⟩, u))) := by
  induction p with
  | nil => intro k x u h; simp at h
  | cons a p ih =>
    intro k x u h
    match k, h with
    | 0, h => simp at h; subst h; exact ⟨fun y => rfl, fun ys u' => rfl, fun y => rfl⟩
    | k + 1, h =>
      obtain ⟨h1, h2, h3⟩ := ih (k := k) (x := x) (u := u) (by simpa using h)
      rw [show (k + 1) * 3 = k * 3 + 3 by omega]
      refine ⟨fun y => ?_, fun ys u' => ?_, fun y => ?_⟩
      · show _ = rowS a.1 a.2 ++ flatS (p.set k (⟨y, x.pt, x.tags⟩, u)); rw [← h1 y]; rfl
      · show _ = rowS a.1 a.2 ++ flatS (p.set k (⟨x.key, ys, x.tags⟩, u')); rw [← h2 ys u']; rfl
      · show _ = rowS a.1 a.2 ++ flatS (p.set k (⟨x.key, x.pt, y⟩, u)); rw [← h3 y]; rfl
theorem flatS_one {p : List (It × Value)} (h : ∀ q ∈ p, q.2.oneCell' = true) : ∀ u ∈ flatS p, u.oneCell' = true := by
  induction p with
  | nil => intro u hu; cases hu
  | cons a p ih =>
    intro u hu
    rw [flatS, List.mem_append] at hu
    rcases hu with hu | hu
    · simp only [rowS, List.mem_cons, List.not_mem_nil, or_false] at hu
      rcases hu with rfl | rfl | rfl
      · rfl
      · exact h a (List.mem_cons_self ..)
      · rfl
    · exact ih (fun q hq => h q (List.mem_cons_of_mem _ hq)) u hu
theorem pair_at {p : List (It × Value)} {l : List It} (e : p.map Prod.fst = l) {k : Nat} {x : It} (h : l[k]? = some x) : ∃ u, p[k]? = some (x, u) := by
  subst e
  rw [List.getElem?_map] at h
  obtain ⟨q, hq, rfl⟩ := Option.map_eq_some_iff.1 h
  exact ⟨q.2, hq⟩

/-- Rows of two element types lie in two blocks. -/
theorem own_apart {w : World} {b1 b2 n1 n2 s1 s2 : Nat} {e1 e2 : TypeId} {v1 v2 : Value} {x1 x2 : List Value} (h1 : w.ownsRow b1 e1 s1 v1 n1 x1) (h2 : w.ownsRow b2 e2 s2 v2 n2 x2) (he : e1 ≠ e2) :
    ∀ g, v1.ownBlock = some g → v2.ownBlock ≠ some g := by
  intro g hg hg2
  rcases h1.2 with ⟨rfl, _⟩ | ⟨a, cap, cur, rfl, _, hh, _⟩
  · simp [Value.ownBlock] at hg
  · rcases h2.2 with ⟨rfl, _⟩ | ⟨a2, cap2, cur2, rfl, _, hh2, _⟩
    · simp [Value.ownBlock] at hg2
    · simp [Value.ownBlock] at hg hg2
      subst hg hg2
      rw [hh] at hh2
      injection hh2 with hh2
      injection hh2 with _ hh2
      exact he hh2
theorem OwnI.still {w w' : World} {lo hi : Nat} {v : Value} {xs : List Int} (h : OwnI w lo hi v xs) (hb : ∀ g, v.ownBlock = some g → w'.heap[g]? = w.heap[g]?) : OwnI w' lo hi v xs :=
  ⟨ownsRow_of_block h.own hb, h.top, h.fit, h.len⟩
theorem OwnI.other {w w' : World} {lo hi base n size : Nat} {e : TypeId} {v u : Value} {xs : List Int} {us : List Value} (h : OwnI w lo hi v xs) (ho : w.ownsRow base e size u n us) (he : e ≠ 3) (hg : w.grownBy w' u.ownBlock) : OwnI w' lo hi v xs :=
  h.still fun g hv => hg.block g (h.lt g hv).2 (fun e1 => own_apart h.own ho (fun e2 => he e2.symm) g hv e1.symm)
/-- A row alone: its own block is the window. -/
theorem OwnI.narrow {w : World} {lo hi : Nat} {v : Value} {xs : List Int} (h : OwnI w lo hi v xs) : ∃ a b, OwnI w a b v xs ∧ (∀ g, a ≤ g → g < b → v.ownBlock = some g) := by
  rcases h.own.2 with ⟨rfl, h0⟩ | ⟨g, cap, cur, rfl, hb, r⟩
  · exact ⟨0, 0, ⟨⟨h.own.1, .inl ⟨rfl, h0⟩⟩, fun g hg => by simp [Value.ownBlock] at hg, h.fit, h.len⟩, fun g _ hg => by omega⟩
  · exact ⟨g, g + 1, ⟨⟨h.own.1, .inr ⟨g, cap, cur, rfl, Nat.le_refl _, r⟩⟩, fun k hk => by simp [Value.ownBlock] at hk; omega, h.fit, h.len⟩, fun k h1 h2 => by simp [Value.ownBlock]; omega⟩

theorem info_item : (Try.prog.info? 43).map (fun i => (i.zero, i.size, i.bytes)) = some (some (.agg #[.int .i64 0, .slice none 0 0, .int .i64 0]), 3, 40) := by kernel_rfl

/-- The call owns the slice value v of items; q.1 of each q in p is what it reads as, q.2 its slice; all rows are apart, from block lo on, below hi. -/
structure OwnSP (w : World) (lo hi : Nat) (v : Value) (p : List (It × Value)) : Prop where
  own : w.ownsRow lo 43 3 v p.length (flatS p)
  top : ∀ g, v.ownBlock = some g → g < hi
  pts : ∀ q ∈ p, OwnI w lo hi q.2 q.1.pt
  apart : p.Pairwise fun a b => ∀ g, a.2.ownBlock = some g → b.2.ownBlock ≠ some g
  fit : ∀ q ∈ p, Fits q.1.key ∧ Fits q.1.tags
  len : p.length ≤ 2000000
def OwnS (w : World) (lo hi : Nat) (v : Value) (l : List It) : Prop := ∃ p, p.map Prod.fst = l ∧ OwnSP w lo hi v p
/-- .. the slices but readable, each in memory from lo on. -/
structure DrSP (w : World) (lo : Nat) (v : Value) (p : List (It × Value)) : Prop where
  own : w.ownsRow lo 43 3 v p.length (flatS p)
  vec : ∀ q ∈ p, VecI w lo w.heap.size q.2 q.1.pt
  fit : ∀ q ∈ p, Fits q.1.key ∧ Fits q.1.tags
  len : p.length ≤ 2000000
def DrS (w : World) (lo : Nat) (v : Value) (l : List It) : Prop := ∃ p, p.map Prod.fst = l ∧ DrSP w lo v p
section
variable {w w' : World} {lo hi lo' hi' : Nat} {v : Value} {p : List (It × Value)} {l : List It}
theorem OwnSP.turn (h : OwnSP w lo hi v p) (ht : Turn lo' hi' w w') (hd : hi ≤ lo' ∨ hi' ≤ lo) : OwnSP w' lo hi v p :=
  ⟨ownsRow_of_block h.own (fun g hg => by have := h.own.lt g hg; have := h.top g hg; exact ht.block g (by omega) (by omega)), h.top, fun q hq => (h.pts q hq).turn ht hd, h.apart, h.fit, h.len⟩
theorem OwnSP.lower (h : OwnSP w lo hi v p) (hl : lo' ≤ lo) (hh : hi ≤ hi') : OwnSP w lo' hi' v p :=
  ⟨⟨h.own.1, h.own.2.imp id (fun ⟨g, cap, cur, h1, h2, h3⟩ => ⟨g, cap, cur, h1, by omega, h3⟩)⟩, fun g hg => Nat.lt_of_lt_of_le (h.top g hg) hh, fun q hq => (h.pts q hq).lower hl hh, h.apart, h.fit, h.len⟩
theorem OwnSP.dr (h : OwnSP w lo hi v p) (ht : hi ≤ w.heap.size) : DrSP w lo v p :=
  ⟨h.own, fun q hq => ((h.pts q hq).vec ht).wider (Nat.le_refl _) ht (Nat.le_refl _), h.fit, h.len⟩
theorem DrSP.turn (h : DrSP w lo v p) (ht : Turn lo' hi' w w') (hd : hi' ≤ lo) : DrSP w' lo v p :=
  ⟨ownsRow_of_block h.own (fun g hg => by have := h.own.lt g hg; exact ht.block g (by omega) (by omega)), fun q hq => ((h.vec q hq).turn ht (.inr hd)).wider (Nat.le_refl _) ht.size (Nat.le_refl _), h.fit, h.len⟩
theorem DrSP.lower (h : DrSP w lo v p) (hl : lo' ≤ lo) : DrSP w lo' v p :=
  ⟨⟨h.own.1, h.own.2.imp id (fun ⟨g, cap, cur, h1, h2, h3⟩ => ⟨g, cap, cur, h1, by omega, h3⟩)⟩, fun q hq => (h.vec q hq).wider hl (Nat.le_refl _) (Nat.le_refl _), h.fit, h.len⟩
theorem DrSP.rs (h : DrSP w lo v p) : ∃ A c, v = .slice A p.length c ∧ p.length ≤ c ∧ c ≤ maxLen ∧ RS w w.heap.size A (p.map Prod.fst) := by
  rcases h.own.2 with ⟨rfl, h0⟩ | ⟨g, cap, cur, rfl, hb, hg, hn, hm, hs, ht⟩
  · have e : p = [] := List.eq_nil_of_length_eq_zero h0
    subst e
    exact ⟨none, 0, rfl, by simp, by simp [maxLen], RS.nil_⟩
  · refine ⟨_, cap, rfl, hn, hm, ⟨fun k x hx => ?_, by simpa using h.len⟩⟩
    obtain ⟨u, hu⟩ := pair_at rfl hx
    obtain ⟨c0, c1, c2⟩ := flatS_at hu
    have hq := List.mem_of_getElem? hu
    obtain ⟨Ak, ck, e, h1, h2, h3⟩ := (h.vec _ hq).open_
    simp only at e
    subst e
    obtain ⟨f1, f2⟩ := h.fit _ hq
    have hc := h.own.cells (g := g) rfl
    exact ⟨_, Ak, ck, rfl, (Array.getElem?_eq_some_iff.1 hg).1, hc _ _ c0, hc _ _ c1, hc _ _ c2, h1, h2, h3, f1, f2⟩
theorem DrS.rs (h : DrS w lo v l) : ∃ A c, v = .slice A l.length c ∧ l.length ≤ c ∧ c ≤ maxLen ∧ RS w w.heap.size A l := by
  obtain ⟨p, rfl, h⟩ := h
  simpa using h.rs
theorem OwnS.dr (h : OwnS w lo hi v l) (ht : hi ≤ w.heap.size) : DrS w lo v l := by
  obtain ⟨p, e, h⟩ := h
  exact ⟨p, e, h.dr ht⟩
theorem OwnSP.up (h : OwnSP w lo hi v p) : OwnSP w lo w.heap.size v p :=
  ⟨h.own, fun g hg => (h.own.lt g hg).2, fun q hq => ⟨(h.pts q hq).own, fun g hg => ((h.pts q hq).lt g hg).2, (h.pts q hq).fit, (h.pts q hq).len⟩, h.apart, h.fit, h.len⟩
theorem OwnS.open_ (h : OwnS w lo hi v l) : ∃ A c, v = .slice A l.length c ∧ l.length ≤ c ∧ c ≤ maxLen ∧ RS w w.heap.size A l := by
  obtain ⟨p, e, h⟩ := h
  exact DrS.rs ⟨p, e, h.up.dr (Nat.le_refl _)⟩
theorem OwnS.ri {A : Option Addr} {n c : Nat} (h : OwnS w lo hi (.slice A n c) l) : RS w w.heap.size A l := by
  obtain ⟨A', c', e, _, _, hr⟩ := h.open_
  injection e with e1
  subst e1
  exact hr
theorem OwnS.turn (h : OwnS w lo hi v l) (ht : Turn lo' hi' w w') (hd : hi ≤ lo' ∨ hi' ≤ lo) : OwnS w' lo hi v l := by
  obtain ⟨p, e, h⟩ := h; exact ⟨p, e, h.turn ht hd⟩
theorem OwnS.grow (h : OwnS w lo hi v l) (hg : Grow w w') : OwnS w' lo hi v l := h.turn (hg.turn 0 0) (.inr (Nat.zero_le _))
theorem OwnS.lower (h : OwnS w lo hi v l) (hl : lo' ≤ lo) (hh : hi ≤ hi') : OwnS w lo' hi' v l := by
  obtain ⟨p, e, h⟩ := h; exact ⟨p, e, h.lower hl hh⟩
theorem OwnS.nil_ : OwnS w lo hi (.slice none 0 0) [] :=
  ⟨[], rfl, ⟨⟨by simp [flatS], .inl ⟨rfl, rfl⟩⟩, by simp [Value.ownBlock], by simp, List.Pairwise.nil, by simp, by simp⟩⟩
theorem OwnS.len (h : OwnS w lo hi v l) : l.length ≤ 2000000 := by obtain ⟨p, rfl, h⟩ := h; simpa using h.len
theorem DrS.turn (h : DrS w lo v l) (ht : Turn lo' hi' w w') (hd : hi' ≤ lo) : DrS w' lo v l := by
  obtain ⟨p, e, h⟩ := h; exact ⟨p, e, h.turn ht hd⟩
theorem DrS.grow (h : DrS w lo v l) (hg : Grow w w') : DrS w' lo v l := h.turn (hg.turn 0 0) (Nat.zero_le _)
theorem DrS.lower (h : DrS w lo v l) (hl : lo' ≤ lo) : DrS w lo' v l := by
  obtain ⟨p, e, h⟩ := h; exact ⟨p, e, h.lower hl⟩
theorem OwnSP.lit (w : World) (c : Nat) : OwnSP (w.alloc (.cells #[] 43)) w.heap.size (w.heap.size + 1) (.slice (some ⟨w.heap.size, 0, none⟩) 0 0) [] :=
  ⟨by simpa [flatS] using World.ownsRow_lit (base := w.heap.size) (e := 43) (size := 3) w #[] 0 (Nat.le_refl _) (by unfold maxLen; omega) rfl, by simp [Value.ownBlock], by simp, List.Pairwise.nil, by simp, by simp⟩
theorem OwnS.lit (w : World) : OwnS (w.alloc (.cells #[] 43)) w.heap.size (w.heap.size + 1) (.slice (some ⟨w.heap.size, 0, none⟩) 0 0) [] := ⟨[], rfl, OwnSP.lit w 0⟩
end

/-- An item appended to a row of the call's own. -/
theorem wpList_pushS {ops : Array Oper} {rest : List Oper} {o : Oper} {a : Act} {Q : Exit → Act → World → Prop} (hgd : o.guard = none) (s x : Operand)
    (ho : o.op = .call { callee := .builtin .append, args := #[s, x], argTypes := #[23, 23] })
    {wr : World} {lo c1 : Nat} {v u : Value} {l : List It} {y : It} (hs : a.eval s = v) (hx : a.eval x = .slice (some ⟨wr.heap.size, 0, none⟩) 1 c1)
    (hB : lo ≤ wr.heap.size) (hn : l.length ≤ 1999999) {b : Nat} (hlb : lo ≤ b) (hpt : OwnI wr b wr.heap.size u y.pt) (hnew : OwnS wr lo b v l) (hk : Fits y.key) (ht : Fits y.tags)
    (h : ∀ v' w', OwnS w' lo w'.heap.size v' (l ++ [y]) → Below lo wr w' → wpList Try.prog ops Q rest (a.put o.dst v') w') :
    wpList Try.prog ops Q (o :: rest) a (wr.alloc (.cells #[.int .i64 y.key, u, .int .i64 y.tags] 43)) := by
  obtain ⟨i0, hi0, hz0, hz1, hz2⟩ := info_parts info_item
  obtain ⟨p, rfl, hp⟩ := hnew
  have hlp : p.length ≤ 1999999 := by simpa using hn
  have g0 : Grow wr (wr.alloc (.cells #[.int .i64 y.key, u, .int .i64 y.tags] 43)) := (Below.refl _ _).alloc (Nat.le_refl _) _
  have h1c : u.oneCell' = true := by obtain ⟨A, c, rfl, _⟩ := hpt.open_; rfl
  refine wpList_push hgd s x 23 ho 43 i0 _ 3 40 Try.underlying23 hi0 hz0 hz1 hz2 rfl (by omega) hs hx (cs := #[.int .i64 y.key, u, .int .i64 y.tags]) rfl (by simpa [Value.oneCell'] using h1c)
    (cells_new_at wr #[.int .i64 y.key, u, .int .i64 y.tags] 43) (hp.own.alloc _) ((Below.refl lo wr).alloc hB _) (by simp; omega) (by omega) (by omega) ?_
  intro v' w' a1 a2 a3 a4
  have hq : ∀ q ∈ p, OwnI w' lo w'.heap.size q.2 q.1.pt := fun q hq => by
    have := ((hp.pts q hq).grow g0).other (hp.own.alloc _) (by decide) a3
    exact ⟨this.own.1 |> fun _ => ⟨this.own.1, this.own.2⟩, fun g hg => (this.lt g hg).2, this.fit, this.len⟩
  have hu : OwnI w' lo w'.heap.size u y.pt := by
    have := ((hpt.grow g0).lower hlb (Nat.le_refl _)).other (hp.own.alloc _) (by decide) a3
    exact ⟨this.own, fun g hg => (this.lt g hg).2, this.fit, this.len⟩
  refine h v' w' ⟨p ++ [(y, u)], by simp, ⟨by rw [flatS_snoc]; simpa [rowS] using a1, fun g hg => (a1.lt g hg).2, ?_, ?_, ?_, by simp; omega⟩⟩ a2
  · intro q hqm
    rcases List.mem_append.1 hqm with hqm | hqm
    · exact hq q hqm
    · rw [List.mem_singleton] at hqm; subst hqm; exact hu
  · rw [List.pairwise_append]
    refine ⟨hp.apart, List.pairwise_singleton _ _, fun a ha b' hb' g hg hg' => ?_⟩
    rw [List.mem_singleton] at hb'; subst hb'
    have h1 := (hp.pts a ha).top g hg
    have h2 := (hpt.lt g hg').1
    omega
  · intro q hqm
    rcases List.mem_append.1 hqm with hqm | hqm
    · exact hp.fit q hqm
    · rw [List.mem_singleton] at hqm; subst hqm; exact ⟨hk, ht⟩
/-- .. a drawn item onto a drawn store. -/
theorem wpList_pushD {ops : Array Oper} {rest : List Oper} {o : Oper} {a : Act} {Q : Exit → Act → World → Prop} (hgd : o.guard = none) (s x : Operand)
    (ho : o.op = .call { callee := .builtin .append, args := #[s, x], argTypes := #[23, 23] })
    {wr : World} {lo c1 : Nat} {v u : Value} {l : List It} {y : It} (hs : a.eval s = v) (hx : a.eval x = .slice (some ⟨wr.heap.size, 0, none⟩) 1 c1)
    (hown : DrS wr lo v l) (hB : lo ≤ wr.heap.size) (hn : l.length ≤ 1999999) (hpt : VecI wr lo wr.heap.size u y.pt) (hk : Fits y.key) (ht : Fits y.tags)
    (h : ∀ v' w', DrS w' lo v' (l ++ [y]) → Below lo wr w' → wpList Try.prog ops Q rest (a.put o.dst v') w') :
    wpList Try.prog ops Q (o :: rest) a (wr.alloc (.cells #[.int .i64 y.key, u, .int .i64 y.tags] 43)) := by
  obtain ⟨i0, hi0, hz0, hz1, hz2⟩ := info_parts info_item
  obtain ⟨p, rfl, hp⟩ := hown
  have hlp : p.length ≤ 1999999 := by simpa using hn
  have g0 : Grow wr (wr.alloc (.cells #[.int .i64 y.key, u, .int .i64 y.tags] 43)) := (Below.refl _ _).alloc (Nat.le_refl _) _
  have h1c : u.oneCell' = true := by obtain ⟨A, c, rfl, _⟩ := hpt.open_; rfl
  refine wpList_push hgd s x 23 ho 43 i0 _ 3 40 Try.underlying23 hi0 hz0 hz1 hz2 rfl (by omega) hs hx (cs := #[.int .i64 y.key, u, .int .i64 y.tags]) rfl (by simpa [Value.oneCell'] using h1c)
    (cells_new_at wr #[.int .i64 y.key, u, .int .i64 y.tags] 43) (hp.own.alloc _) ((Below.refl lo wr).alloc hB _) (by simp; omega) (by omega) (by omega) ?_
  intro v' w' a1 a2 a3 a4
  refine h v' w' ⟨p ++ [(y, u)], by simp, ⟨by rw [flatS_snoc]; simpa [rowS] using a1, fun q hqm => ?_, fun q hqm => ?_, by simp; omega⟩⟩ a2
  · rcases List.mem_append.1 hqm with hqm | hqm
    · exact (((hp.vec q hqm).grow g0).other (hp.own.alloc _) (by decide) a3).wider (Nat.le_refl _) (Nat.le_trans g0.size a3.size) (Nat.le_refl _)
    · rw [List.mem_singleton] at hqm; subst hqm
      exact ((hpt.grow g0).other (hp.own.alloc _) (by decide) a3).wider (Nat.le_refl _) (Nat.le_trans g0.size a3.size) (Nat.le_refl _)
  · rcases List.mem_append.1 hqm with hqm | hqm
    · exact hp.fit q hqm
    · rw [List.mem_singleton] at hqm; subst hqm; exact ⟨hk, ht⟩
end Go.Proofs.Ytebiaodjodlloaa
