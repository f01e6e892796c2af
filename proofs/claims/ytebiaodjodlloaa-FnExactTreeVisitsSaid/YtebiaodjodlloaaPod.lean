/- Rows of structs of integers: read, and owned; appended to, stored into, copied, sorted. Plain lemmas on worlds; no condition. -/
import Derived.Test.YtebiaodjodlloaaItem
import Derived.Test.YtebiaodjodlloaaPlainN
import Derived.Test.YtebiaodjodlloaaFrom
import Derived.Deep.RegionLaw
import Derived.Shelf.SlSortCmp.KitK
namespace Go.Proofs.Ytebiaodjodlloaa
set_option linter.unusedVariables false
open Go Go.RowKit

/-- How a struct of integers lies: its type, its cells. -/
structure Pod (α : Type) where
  t : TypeId
  k : Nat
  f : α → List Int
  hk : ∀ x, (f x).length = k
  pos : 0 < k
section
variable {α : Type}
def podV (p : Pod α) (x : α) : List Value := (p.f x).map (Value.int .i64)
def podL (p : Pod α) : List α → List Value
  | [] => []
  | x :: xs => podV p x ++ podL p xs
theorem podV_len (p : Pod α) (x : α) : (podV p x).length = p.k := by rw [podV, List.length_map, p.hk]
theorem podL_len (p : Pod α) (l : List α) : (podL p l).length = l.length * p.k := by
  induction l with
  | nil => simp [podL]
  | cons a l ih => rw [podL, List.length_append, podV_len, ih, List.length_cons, Nat.add_mul, Nat.one_mul, Nat.add_comm]
theorem podL_append (p : Pod α) (l l' : List α) : podL p (l ++ l') = podL p l ++ podL p l' := by
  induction l with
  | nil => rfl
  | cons a l ih => rw [List.cons_append, podL, podL, ih, List.append_assoc]
theorem podL_one (p : Pod α) (x : α) : podL p [x] = podV p x := by rw [podL, podL, List.append_nil]
theorem podL_cell (p : Pod α) : ∀ {l : List α} {i j : Nat} {x : α} {u : Value}, l[i]? = some x → (podV p x)[j]? = some u → (podL p l)[i * p.k + j]? = some u
  | [], i, j, x, u, h, _ => by simp at h
  | y :: ys, 0, j, x, u, h, hu => by
    simp at h; subst h
    have := (List.getElem?_eq_some_iff.1 hu).1
    rw [podL, Nat.zero_mul, Nat.zero_add, List.getElem?_append_left this, hu]
  | y :: ys, i + 1, j, x, u, h, hu => by
    have e : (i + 1) * p.k + j = p.k + (i * p.k + j) := by rw [Nat.add_mul, Nat.one_mul]; omega
    rw [podL, e, List.getElem?_append_right (by rw [podV_len]; omega), podV_len, Nat.add_sub_cancel_left]
    exact podL_cell p (by simpa using h) hu
theorem podL_set (p : Pod α) : ∀ {l : List α} {i j : Nat} {x y : α} {u : Value}, l[i]? = some x → j < p.k → podV p y = (podV p x).set j u → (podL p l).set (i * p.k + j) u = podL p (l.set i y)
  | [], i, j, x, y, u, h, _, _ => by simp at h
  | z :: zs, 0, j, x, y, u, h, hj, hu => by
    simp at h; subst h
    rw [podL, List.set_cons_zero, podL, hu, Nat.zero_mul, Nat.zero_add, List.set_append_left _ _ (by rw [podV_len]; exact hj)]
  | z :: zs, i + 1, j, x, y, u, h, hj, hu => by
    have e : (i + 1) * p.k + j = p.k + (i * p.k + j) := by rw [Nat.add_mul, Nat.one_mul]; omega
    rw [podL, List.set_cons_succ, podL, e, List.set_append_right _ _ (by rw [podV_len]; omega), podV_len, Nat.add_sub_cancel_left]
    rw [podL_set p (by simpa using h) hj hu]
theorem podL_int (p : Pod α) (l : List α) : ∀ u ∈ podL p l, u.oneCell' = true := by
  induction l with
  | nil => intro u hu; simp [podL] at hu
  | cons a l ih =>
    intro u hu
    rw [podL, List.mem_append] at hu
    rcases hu with hu | hu
    · obtain ⟨n, _, rfl⟩ := List.mem_map.1 hu; rfl
    · exact ih u hu

/-- The slice value with address A reads as the structs l, below block B. -/
structure RK (p : Pod α) (w : World) (B : Nat) (A : Option Addr) (l : List α) : Prop where
  rd : Reads w B p.k A l.length (podL p l)
  fit : ∀ x ∈ l, ∀ n ∈ p.f x, Fits n
  len : l.length ≤ 2000000
/-- The call owns the slice value v, which reads as the structs l; its row lies from block lo on, below hi. -/
structure OwnK (p : Pod α) (w : World) (lo hi : Nat) (v : Value) (l : List α) : Prop where
  own : w.ownsRow lo p.t p.k v l.length (podL p l)
  top : ∀ g, v.ownBlock = some g → g < hi
  fit : ∀ x ∈ l, ∀ n ∈ p.f x, Fits n
  len : l.length ≤ 2000000
variable {p : Pod α} {w w' : World} {B B' lo hi lo' hi' : Nat} {A : Option Addr} {v : Value} {l : List α}
theorem RK.below (h : RK p w B A l) (hb : Below B w w') : RK p w' B A l := ⟨h.rd.below hb, h.fit, h.len⟩
theorem RK.more (h : RK p w B A l) (hB : B ≤ B') : RK p w B' A l := ⟨h.rd.more hB, h.fit, h.len⟩
theorem RK.alloc (h : RK p w B A l) (hB : B ≤ w.heap.size) (o : Obj) : RK p (w.alloc o) B A l := ⟨h.rd.alloc hB o, h.fit, h.len⟩
theorem RK.grow (h : RK p w w.heap.size A l) (hg : Grow w w') : RK p w' w'.heap.size A l := (h.below hg).more hg.size
theorem RK.nil_ : RK p w B A [] := ⟨⟨by simp [podL], fun h => absurd h (by simp)⟩, by simp, by simp⟩
theorem RK.cell_ (h : RK p w B A l) {i j : Nat} {x : α} {u : Value} (hx : l[i]? = some x) (hu : (podV p x)[j]? = some u) : ∃ ad, A = some ad ∧ ad.block < B ∧ w.cell? (ad.add (i * p.k + j)) = some u := by
  have hi := (List.getElem?_eq_some_iff.1 hx).1
  obtain ⟨ad, e, hb, hc⟩ := h.rd.2 (by omega)
  exact ⟨ad, e, hb, hc _ u (podL_cell p hx hu)⟩
theorem RK.take (h : RK p w B A l) (n : Nat) : RK p w B A (l.take n) := by
  refine ⟨⟨podL_len p _, fun hn => ?_⟩, fun x hx => h.fit x (List.mem_of_mem_take hx), by have := h.len; simp; omega⟩
  obtain ⟨ad, e, hb, hc⟩ := h.rd.2 (by simp at hn; omega)
  refine ⟨ad, e, hb, fun j u hu => hc j u ?_⟩
  have e2 : podL p l = podL p (l.take n) ++ podL p (l.drop n) := by rw [← podL_append, List.take_append_drop]
  rw [e2, List.getElem?_append_left (List.getElem?_eq_some_iff.1 hu).1, hu]
theorem OwnK.lt (h : OwnK p w lo hi v l) : ∀ g, v.ownBlock = some g → lo ≤ g ∧ g < w.heap.size := h.own.lt
theorem OwnK.open_ (h : OwnK p w lo hi v l) : ∃ A c, v = .slice A l.length c ∧ l.length ≤ c ∧ c ≤ maxLen ∧ RK p w w.heap.size A l := by
  rcases h.own.2 with ⟨rfl, h0⟩ | ⟨g, cap, cur, rfl, hb, hg, hn, hm, hs, ht⟩
  · have : l = [] := List.eq_nil_of_length_eq_zero h0
    subst this
    exact ⟨none, 0, rfl, by simp, by simp [maxLen], RK.nil_⟩
  · exact ⟨_, cap, rfl, hn, hm, Reads.of_own h.own, h.fit, h.len⟩
theorem OwnK.rk {n c : Nat} (h : OwnK p w lo hi (.slice A n c) l) : RK p w w.heap.size A l := by
  obtain ⟨A', c', e, _, _, hr⟩ := h.open_
  injection e with e1
  subst e1
  exact hr
theorem OwnK.nil_ : OwnK p w lo hi (.slice none 0 0) [] := ⟨⟨by simp [podL], .inl ⟨rfl, rfl⟩⟩, by simp [Value.ownBlock], by simp, by simp⟩
theorem OwnK.still (h : OwnK p w lo hi v l) (hb : ∀ g, v.ownBlock = some g → w'.heap[g]? = w.heap[g]?) : OwnK p w' lo hi v l :=
  ⟨ownsRow_of_block h.own hb, h.top, h.fit, h.len⟩
theorem OwnK.turn (h : OwnK p w lo hi v l) (ht : Turn lo' hi' w w') (hd : hi ≤ lo' ∨ hi' ≤ lo) : OwnK p w' lo hi v l :=
  h.still fun g hg => by have := h.lt g hg; have := h.top g hg; exact ht.block g (by omega) (by omega)
theorem OwnK.grow (h : OwnK p w lo hi v l) (hg : Grow w w') : OwnK p w' lo hi v l := h.turn (hg.turn 0 0) (.inr (Nat.zero_le _))
theorem OwnK.lower (h : OwnK p w lo hi v l) (hl : lo' ≤ lo) (hh : hi ≤ hi') : OwnK p w lo' hi' v l :=
  ⟨⟨h.own.1, h.own.2.imp id (fun ⟨g, cap, cur, h1, h2, h3⟩ => ⟨g, cap, cur, h1, by omega, h3⟩)⟩, fun g hg => Nat.lt_of_lt_of_le (h.top g hg) hh, h.fit, h.len⟩
theorem OwnK.up (h : OwnK p w lo hi v l) : OwnK p w lo w.heap.size v l := ⟨h.own, fun g hg => (h.lt g hg).2, h.fit, h.len⟩
theorem OwnK.far (h : OwnK p w lo hi v l) (hb : Below w.heap.size w w') : OwnK p w' lo hi v l := h.grow hb
theorem OwnK.other {base n size : Nat} {e : TypeId} {u : Value} {us : List Value} (h : OwnK p w lo hi v l) (ho : w.ownsRow base e size u n us) (he : e ≠ p.t) (hg : w.grownBy w' u.ownBlock) : OwnK p w' lo hi v l :=
  h.still fun g hv => hg.block g (h.lt g hv).2 (fun e1 => own_apart h.own ho (fun e2 => he e2.symm) g hv e1.symm)
theorem OwnK.form {n c : Nat} (h : OwnK p w lo hi (.slice A n c) l) (hn : 0 < l.length) : ∃ g, A = some ⟨g, 0, none⟩ ∧ n = l.length ∧ lo ≤ g ∧ g < hi ∧ g < w.heap.size := by
  rcases h.own.2 with ⟨_, h0⟩ | ⟨g, cap, cur, hv, hb, hg, _⟩
  · omega
  · injection hv with e1 e2 e3
    subst e1
    exact ⟨g, rfl, e2, hb, h.top g rfl, (Array.getElem?_eq_some_iff.1 hg).1⟩
theorem OwnK.cellAt {g n c i j : Nat} {x : α} {u : Value} (h : OwnK p w lo hi (.slice (some ⟨g, 0, none⟩) n c) l) (hn : n = l.length) (hx : l[i]? = some x) (hu : (podV p x)[j]? = some u) : w.cell? ⟨g, i * p.k + j, none⟩ = some u := by
  subst hn
  have hc := podL_cell p hx hu
  have := (List.getElem?_eq_some_iff.1 hc).1
  rw [h.own.cellAt _ (by rw [← podL_len]; exact this), hc]
theorem OwnK.frozenAt {g n c : Nat} (j : Nat) (h : OwnK p w lo hi (.slice (some ⟨g, 0, none⟩) n c) l) (hn : n = l.length) : w.frozen? ⟨g, j, none⟩ = false := by
  subst hn; exact h.own.frozenAt j
/-- A store into a field of a row that the call owns. -/
theorem OwnK.set_ {g n c i j : Nat} {x y : α} {z : Int} (h : OwnK p w lo hi (.slice (some ⟨g, 0, none⟩) n c) l) (hn : n = l.length) (hx : l[i]? = some x) (hj : j < p.k) (hy : p.f y = (p.f x).set j z) (hz : Fits z) :
    OwnK p (w.setCell ⟨g, i * p.k + j, none⟩ (.int .i64 z)) lo hi (.slice (some ⟨g, 0, none⟩) n c) (l.set i y) := by
  subst hn
  refine ⟨?_, h.top, fun q hq m hm => ?_, by simpa using h.len⟩
  · have := (h.own.stored (i * p.k + j) (.int .i64 z)).1
    rw [podL_set (y := y) p hx hj (by rw [podV, hy, podV, List.map_set])] at this
    simpa using this
  · rcases List.mem_or_eq_of_mem_set hq with hq | rfl
    · exact h.fit q hq m hm
    · rw [hy] at hm
      rcases List.mem_or_eq_of_mem_set hm with hm | rfl
      · exact h.fit x (List.mem_of_getElem? hx) m hm
      · exact hz
theorem turn_at (w : World) (g j : Nat) (u : Value) : Turn g (g + 1) w (w.setCell ⟨g, j, none⟩ u) :=
  ⟨rfl, rfl, rfl, by simp [World.setCell], fun k hk hh => Below.heap_setCell w ⟨g, j, none⟩ u k (by show k ≠ g; omega)⟩
theorem OwnK.lit (w : World) : OwnK p (w.alloc (.cells #[] p.t)) w.heap.size (w.heap.size + 1) (.slice (some ⟨w.heap.size, 0, none⟩) 0 0) [] :=
  ⟨by simpa [podL] using World.ownsRow_lit (base := w.heap.size) (e := p.t) (size := p.k) w #[] 0 (Nat.le_refl _) (by unfold maxLen; omega) (by simp), by simp [Value.ownBlock], by simp, by simp⟩

/-! Appending. -/
section
variable {P : Program} {ops : Array Oper} {rest : List Oper} {o : Oper} {a : Act} {Q : Exit → Act → World → Prop} {K : Act → World → Prop}
/-- What the program says of the struct's type and of slices of it. -/
structure PodIn (P : Program) (p : Pod α) (T : TypeId) : Prop where
  under : P.underlying T = some (.slice p.t)
  info : ∃ i z, P.info? p.t = some i ∧ i.zero = some z ∧ i.size = p.k ∧ z.cells.size = p.k ∧ i.bytes ≤ 1000
theorem wp_pushK {T : TypeId} (hi : PodIn P p T) (s x : Operand)
    (ho : o.op = .call { callee := .builtin .append, args := #[s, x], argTypes := #[T, T] })
    {wr W : World} {lo c1 : Nat} {v : Value} {l : List α} {y : α} (hs : a.eval s = v) (hx : a.eval x = .slice (some ⟨wr.heap.size, 0, none⟩) 1 c1)
    (hW : W.heap = (wr.alloc (.cells (podV p y).toArray p.t)).heap) (hWo : W.os = wr.os) (hWt : W.tape = wr.tape) (hWp : W.output = wr.output)
    (hown : OwnK p wr lo hi' v l) (hB : lo ≤ wr.heap.size) (hn : l.length ≤ 1999999) (hf : ∀ n ∈ p.f y, Fits n)
    (h : ∀ v' w', OwnK p w' lo w'.heap.size v' (l ++ [y]) → Below lo wr w' → wr.grownBy w' v.ownBlock → (v'.ownBlock = v.ownBlock ∨ ∃ g, v'.ownBlock = some g ∧ wr.heap.size ≤ g) → K (a.put o.dst v') w') :
    o.wp P a W K Q := by
  obtain ⟨i0, z0, hi0, hz0, hz1, hz3, hz2⟩ := hi.info
  have hc : ∀ q, W.cell? q = (wr.alloc (.cells (podV p y).toArray p.t)).cell? q := fun q => World.cell?_of_block (by rw [hW])
  have hsz : W.heap.size = wr.heap.size + 1 := by rw [hW]; simp
  have hb1 : Below lo wr W := ⟨hWo, hWt, hWp, by omega, fun k hk => by rw [hW]; exact Below.heap_alloc _ _ _ (by omega)⟩
  refine wp_push s x T ho p.t i0 z0 p.k i0.bytes hi.under hi0 hz0 hz1 rfl hz3 p.pos hs hx (cs := (podV p y).toArray) (by simp [podV_len]) (fun u hu => by obtain ⟨n, _, rfl⟩ := List.mem_map.1 (by simpa using hu : u ∈ podV p y); rfl)
    (fun j u hu => (hc _).trans (cells_new_at wr _ p.t j u hu)) (ownsRow_of_block (hown.own.alloc _) (fun g _ => by rw [hW])) hb1 (by omega) (by omega) hz2 ?_
  intro v' w' h1 h2 h3 h4
  have h1' : w'.ownsRow lo p.t p.k v' (l ++ [y]).length (podL p (l ++ [y])) := by rw [podL_append, podL_one]; simpa using h1
  refine h v' w' ⟨h1', fun g hg => (h1'.lt g hg).2, fun q hq n hn => ?_, by simp; omega⟩ h2 ⟨h3.os.trans hWo, h3.tape.trans hWt, h3.output.trans hWp, by have := h3.size; omega, fun k hk hne => ?_⟩ (h4.imp id fun e => ⟨_, e, by omega⟩)
  · rcases List.mem_append.1 hq with hq | hq
    · exact hown.fit q hq n hn
    · rw [List.mem_singleton] at hq; subst hq; exact hf n hn
  · rw [h3.block k (by omega) hne, hW]; exact Below.heap_alloc _ _ _ hk
theorem wpList_pushK {T : TypeId} (hi : PodIn P p T) (hgd : o.guard = none) (s x : Operand)
    (ho : o.op = .call { callee := .builtin .append, args := #[s, x], argTypes := #[T, T] })
    {wr : World} {lo c1 : Nat} {v : Value} {l : List α} {y : α} (hs : a.eval s = v) (hx : a.eval x = .slice (some ⟨wr.heap.size, 0, none⟩) 1 c1)
    {cs : Array Value} (hcs : cs = (podV p y).toArray)
    (hown : OwnK p wr lo hi' v l) (hB : lo ≤ wr.heap.size) (hn : l.length ≤ 1999999) (hf : ∀ n ∈ p.f y, Fits n)
    (h : ∀ v' w', OwnK p w' lo w'.heap.size v' (l ++ [y]) → Below lo wr w' → wr.grownBy w' v.ownBlock → (v'.ownBlock = v.ownBlock ∨ ∃ g, v'.ownBlock = some g ∧ wr.heap.size ≤ g) → wpList P ops Q rest (a.put o.dst v') w') :
    wpList P ops Q (o :: rest) a (wr.alloc (.cells cs p.t)) := by
  subst hcs
  exact wpList_plain hgd fun _ hK => wp_pushK hi s x ho hs hx rfl rfl rfl rfl hown hB hn hf fun v' w' h1 h2 h3 h4 => hK _ _ (h v' w' h1 h2 h3 h4)
theorem step_pushK {E : Prop} {T : TypeId} (hi : PodIn P p T) (hgd : o.guard = none) (s x : Operand)
    (ho : o.op = .call { callee := .builtin .append, args := #[s, x], argTypes := #[T, T] })
    {wr W : World} {lo c1 : Nat} {v : Value} {l : List α} {y : α} (hs : a.eval s = v) (hx : a.eval x = .slice (some ⟨wr.heap.size, 0, none⟩) 1 c1)
    (hW : W.heap = (wr.alloc (.cells (podV p y).toArray p.t)).heap) (hWo : W.os = wr.os) (hWt : W.tape = wr.tape) (hWp : W.output = wr.output)
    (hown : OwnK p wr lo hi' v l) (hB : lo ≤ wr.heap.size) (hn : l.length ≤ 1999999) (hf : ∀ n ∈ p.f y, Fits n)
    (h : ∀ v' w', OwnK p w' lo w'.heap.size v' (l ++ [y]) → Below lo wr w' → wr.grownBy w' v.ownBlock → (v'.ownBlock = v.ownBlock ∨ ∃ g, v'.ownBlock = some g ∧ wr.heap.size ≤ g) → K (a.put o.dst v') w') :
    if Region.wanted o (yielded ops a.tmps) = true then Oper.wp P o a W K Q else E := by
  rw [if_pos (by simp [Region.wanted, hgd])]
  exact wp_pushK hi s x ho hs hx hW hWo hWt hWp hown hB hn hf h
/-- A copy: append to an empty literal. -/
theorem wp_copyK {T : TypeId} (hi : PodIn P p T) (s x : Operand)
    (ho : o.op = .call { callee := .builtin .append, args := #[s, x], argTypes := #[T, T] })
    {wr : World} {lo n c : Nat} {v : Value} {A : Option Addr} {l l2 : List α} (hs : a.eval s = v) (hx : a.eval x = .slice A n c) (hn : n = l2.length)
    (hown : OwnK p wr lo hi' v l) (hr : RK p wr B A l2) (hB : lo ≤ wr.heap.size) (hn1 : l.length ≤ 1000000) (hn2 : l2.length ≤ 1000000)
    (h : ∀ v' w', OwnK p w' lo w'.heap.size v' (l ++ l2) → Below lo wr w' → wr.grownBy w' v.ownBlock → (v'.ownBlock = v.ownBlock ∨ v'.ownBlock = some wr.heap.size) → K (a.put o.dst v') w') :
    o.wp P a wr K Q := by
  obtain ⟨i0, z0, hi0, hz0, hz1, hz3, hz2⟩ := hi.info
  subst hn
  have hm : (l.length + l2.length) * i0.bytes ≤ 140737488355328 := by
    have := Nat.mul_le_mul (show l.length + l2.length ≤ 2000000 by omega) hz2
    omega
  refine wp_append_any wr s x T ho lo p.t i0 z0 p.k i0.bytes hi.under hi0 hz0 hz1 rfl hz3 p.pos v l.length (podL p l) hs hown.own B A l2.length c (podL p l2) hx hr.rd (podL_int p l2) (by unfold maxLen; omega) hm hB ?_
  intro v' w' h1 h2 h3
  have h1' : w'.ownsRow lo p.t p.k v' (l ++ l2).length (podL p (l ++ l2)) := by rw [podL_append]; simpa using h1
  refine h v' w' ⟨h1', fun g hg => (h1'.lt g hg).2, fun q hq n hn => ?_, by simp; omega⟩ ⟨h2.os, h2.tape, h2.output, h2.size, fun k hk => h2.block k (by omega) (fun e => by have := hown.lt k e.symm; omega)⟩ h2 h3
  rcases List.mem_append.1 hq with hq | hq
  · exact hown.fit q hq n hn
  · exact hr.fit q hq n hn
theorem wpList_copyK {T : TypeId} (hi : PodIn P p T) (hgd : o.guard = none) (s x : Operand)
    (ho : o.op = .call { callee := .builtin .append, args := #[s, x], argTypes := #[T, T] })
    {wr : World} {lo n c : Nat} {v : Value} {A : Option Addr} {l l2 : List α} (hs : a.eval s = v) (hx : a.eval x = .slice A n c) (hn : n = l2.length)
    (hown : OwnK p wr lo hi' v l) (hr : RK p wr B A l2) (hB : lo ≤ wr.heap.size) (hn1 : l.length ≤ 1000000) (hn2 : l2.length ≤ 1000000)
    (h : ∀ v' w', OwnK p w' lo w'.heap.size v' (l ++ l2) → Below lo wr w' → wr.grownBy w' v.ownBlock → (v'.ownBlock = v.ownBlock ∨ v'.ownBlock = some wr.heap.size) → wpList P ops Q rest (a.put o.dst v') w') :
    wpList P ops Q (o :: rest) a wr :=
  wpList_plain hgd fun _ hK => wp_copyK hi s x ho hs hx hn hown hr hB hn1 hn2 fun v' w' h1 h2 h3 h4 => hK _ _ (h v' w' h1 h2 h3 h4)
end
end

/-! Sorting: between the words for rows and the words of the sort's contract. -/
section
open Go.Sort
theorem own_sorted {w : World} {lo g cap n k m : Nat} {t : TypeId} {xs : List Value} {os : Array Obj} {F : Array Value} (h : w.ownsRow lo t k (.slice (some ⟨g, 0, none⟩) n cap) n xs) (hF : F.size = n * k) :
    (Go.Sort.grow (putRow id (Sort.ahead w m) g 0 F) os).ownsRow lo t k (.slice (some ⟨g, 0, none⟩) n cap) n F.toList ∧ w.grownBy (Go.Sort.grow (putRow id (Sort.ahead w m) g 0 F) os) (some g) := by
  rcases h.2 with ⟨h', _⟩ | ⟨g', cap', cur, h', hb, hg, hnc, hcm, hcs, htake⟩
  · simp at h'
  · simp only [Value.slice.injEq, Option.some.injEq, Addr.mk.injEq, and_true, true_and] at h'
    obtain ⟨rfl, rfl⟩ := h'
    have hlt : g < w.heap.size := (Array.getElem?_eq_some_iff.1 hg).1
    have hle : n * k ≤ cur.size := by rw [hcs]; exact Nat.mul_le_mul_right _ hnc
    refine ⟨⟨by simpa using hF, .inr ⟨g, cap, putCells id 0 F cur, rfl, hb, ?_, hnc, hcm, by simp [putCells, hcs], ?_⟩⟩, rfl, rfl, rfl, by simp, fun j hj hne => ?_⟩
    · rw [heap_grow_old _ _ (by simpa using hlt)]
      simp [putRow, mapBlock, Sort.ahead, Array.getElem?_modify, hg, onCells]
    · apply List.ext_getElem?
      intro j
      by_cases hj : j < n * k
      · rw [List.getElem?_take_of_lt hj, Array.getElem?_toList, Array.getElem?_toList]
        have hj' : j < F.size := by omega
        simp only [putCells, Array.getElem?_mapIdx, Nat.zero_le, true_and, Nat.zero_add, Nat.sub_zero]
        rw [Array.getElem?_eq_getElem (show j < cur.size by omega), Option.map_some, if_pos hj', Array.getElem?_eq_getElem hj', getElem!_pos F j hj']
        rfl
      · rw [List.getElem?_take_eq_none (by omega), Array.getElem?_toList, Array.getElem?_eq_none (by omega)]
    · rw [heap_grow_old _ _ (by simpa using hj)]
      have : g ≠ j := fun e => hne (by rw [e])
      simp [putRow, mapBlock, Sort.ahead, Array.getElem?_modify, this]
theorem holds_own {w : World} {lo g cap n k : Nat} {t : TypeId} {xs : List Value} (h : w.ownsRow lo t k (.slice (some ⟨g, 0, none⟩) n cap) n xs) {F : Array Value} (hF : F.toList = xs) : Holds id w g 0 F := by
  intro j hj
  have hl : F.size = n * k := by rw [← Array.length_toList, hF, h.1]
  refine ⟨?_, h.frozenAt _⟩
  rw [Nat.zero_add, h.cellAt j (by omega), ← hF, Array.getElem?_toList, Array.getElem?_eq_getElem hj, getElem!_pos F j hj]
  rfl
/-- The flat row of the sort's contract, as a list. -/
theorem flatK_list {β : Type} [Inhabited β] (f : β → List Value) (k : Nat) (hk : ∀ x, (f x).length = k) (d : Array β) : (flatK f k d).toList = (d.toList.map f).flatten := by
  have hlen : ((d.toList.map f).flatten).length = d.size * k := by
    rw [List.length_flatten, List.map_map, show (List.length ∘ f) = fun _ => k from funext hk, List.map_const', List.sum_replicate_nat, Array.length_toList]
  apply List.ext_getElem (by rw [Array.length_toList, size_flatK, hlen])
  intro j h1 h2
  rw [Array.length_toList, size_flatK] at h1
  have hk0 : 0 < k := by rcases Nat.eq_zero_or_pos k with h | h; · subst h; simp at h1
                         · exact h
  have hjd : j / k < d.size := Nat.div_lt_of_lt_mul (by rw [Nat.mul_comm]; exact h1)
  have e1 : (flatK f k d).toList[j]'(by rw [Array.length_toList, size_flatK]; exact h1) = (f d[j / k]!)[j % k]! := by
    rw [Array.getElem_toList, ← getElem!_pos (flatK f k d) j (by rw [size_flatK]; exact h1)]
    exact get_flatK f k d j h1
  rw [e1]
  have key : ∀ (l : List β) (q r : Nat) (x : β), l[q]? = some x → r < k → ((l.map f).flatten)[q * k + r]? = (f x)[r]? := by
    intro l
    induction l with
    | nil => intro q r x h; simp at h
    | cons y ys ih =>
      intro q r x h hr
      match q, h with
      | 0, h =>
        simp at h; subst h
        rw [List.map_cons, List.flatten_cons, Nat.zero_mul, Nat.zero_add, List.getElem?_append_left (by rw [hk]; exact hr)]
      | q + 1, h =>
        have e : (q + 1) * k + r = k + (q * k + r) := by rw [Nat.add_mul, Nat.one_mul]; omega
        rw [List.map_cons, List.flatten_cons, e, List.getElem?_append_right (by rw [hk]; omega), hk, Nat.add_sub_cancel_left]
        exact ih q r x (by simpa using h) hr
  have hr : j % k < k := Nat.mod_lt _ hk0
  have hx : d.toList[j / k]? = some d[j / k]! := by rw [Array.getElem?_toList, Array.getElem?_eq_getElem hjd, getElem!_pos d _ hjd]
  have := key d.toList (j / k) (j % k) _ hx hr
  rw [Nat.mul_comm, Nat.div_add_mod] at this
  rw [List.getElem?_eq_getElem h2] at this
  have hrl : j % k < (f d[j / k]!).length := by rw [hk]; exact hr
  rw [List.getElem?_eq_getElem hrl] at this
  injection this with this
  rw [this]
  exact getElem!_pos (f d[j / k]!) (j % k) hrl
theorem podL_flat {α : Type} (p : Pod α) (l : List α) : podL p l = (l.map (podV p)).flatten := by
  induction l with
  | nil => rfl
  | cons a l ih => rw [podL, ih, List.map_cons, List.flatten_cons]
/-- What the sort's contract says of the order, on lists. -/
theorem sorted_list {β : Type} [Inhabited β] {lt : β → β → Bool} {d d' : Array β} (hp : PermIn 0 d.size d d') (hs : SortedIn lt 0 d.size d') : d'.toList.Perm d.toList ∧ d'.toList.Pairwise (fun a b => lt b a = false) := by
  obtain ⟨h1, _, h3⟩ := hp
  have e1 : (d'.extract 0 d.size) = d' := by rw [← h1]; simp
  have e2 : (d.extract 0 d.size) = d := by simp
  rw [e1, e2] at h3
  refine ⟨h3, List.pairwise_iff_getElem.2 fun i j hi hj hij => ?_⟩
  rw [Array.length_toList] at hi hj
  have := hs i j (Nat.zero_le _) hij (by omega)
  rwa [getElem!_pos d' j hj, getElem!_pos d' i hi] at this
end
end Go.Proofs.Ytebiaodjodlloaa
