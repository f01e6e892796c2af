/- Words for memory: a slice that reads as a list of integers, nil let in; a block known whole. Plain lemmas; no condition. -/
import Derived.Test.YtebiaodjodlloaaRows
import Derived.WalkKit
import Derived.WalkSpells
import Derived.WalkLawsBesides
import Derived.Deep.AppendLies
import Derived.Deep.Draws
import Derived.Maps.AppendAt
import Derived.RegionTactic
import Derived.OwnWalk
import Derived.Lib.Hide
import Derived.Deep.QuietTactic
import Derived.BigQuiet
namespace Go.Proofs.Ytebiaodjodlloaa
set_option linter.unusedVariables false
open Go Go.RowKit

theorem block_of_add (a : Addr) (n : Nat) : (a.add n).block = a.block := by unfold Addr.add; split <;> rfl
theorem add_of_add (a : Addr) (i j : Nat) : (a.add i).add j = a.add (i + j) := by
  unfold Addr.add
  by_cases hi : i = 0 <;> by_cases hj : j = 0 <;> simp [hi, hj, Nat.add_assoc]

/-- The slice value with address A and n elements of 'size' cells reads as the cells xs, below block B. -/
def Reads (w : World) (B size : Nat) (A : Option Addr) (n : Nat) (xs : List Value) : Prop :=
  xs.length = n * size ∧ (0 < n → ∃ ad, A = some ad ∧ ad.block < B ∧ ∀ j u, xs[j]? = some u → w.cell? (ad.add j) = some u)

section
variable {w w' : World} {B B' size n : Nat} {A : Option Addr} {xs : List Value}
theorem Reads.none_ : Reads w B size A 0 [] := ⟨by simp, fun h => absurd h (by omega)⟩
theorem Reads.at_ {k : Nat} (h : Reads w B 1 A n xs) (hk : k < n) : ∃ ad u, A = some ad ∧ ad.block < B ∧ xs[k]? = some u ∧ w.cell? (ad.add k) = some u := by
  obtain ⟨ad, e, hb, hc⟩ := h.2 (by omega)
  have hl : k < xs.length := by have := h.1; omega
  exact ⟨ad, xs[k], e, hb, List.getElem?_eq_getElem hl, hc k _ (List.getElem?_eq_getElem hl)⟩
theorem Reads.keep (h : Reads w B size A n xs) (hk : ∀ p : Addr, p.block < B → w'.cell? p = w.cell? p) : Reads w' B size A n xs :=
  ⟨h.1, fun hn => by
    obtain ⟨ad, e, hb, hc⟩ := h.2 hn
    exact ⟨ad, e, hb, fun j u hu => (hk _ (by rw [block_of_add]; exact hb)).trans (hc j u hu)⟩⟩
theorem Reads.more (h : Reads w B size A n xs) (hB : B ≤ B') : Reads w B' size A n xs :=
  ⟨h.1, fun hn => by
    obtain ⟨ad, e, hb, hc⟩ := h.2 hn
    exact ⟨ad, e, by omega, hc⟩⟩
theorem Reads.below (h : Reads w B size A n xs) (hb : Below B w w') : Reads w' B size A n xs := h.keep fun _ hp => hb.cell hp
theorem Reads.drew (h : Reads w B size A n xs) : Reads w.drew B size A n xs := h
theorem Reads.drewN (h : Reads w B size A n xs) (k : Nat) : Reads (w.drewN k) B size A n xs := h
theorem Reads.alloc (h : Reads w B size A n xs) (hB : B ≤ w.heap.size) (o : Obj) : Reads (w.alloc o) B size A n xs := h.keep fun p hp => World.cell?_alloc_lt w o p (by omega)
theorem Reads.setCell (h : Reads w B size A n xs) {p : Addr} (hB : B ≤ p.block) (u : Value) : Reads (w.setCell p u) B size A n xs :=
  h.keep fun q hq => World.cell?_setCell_other w p q u (fun e => by subst e; omega)
theorem Reads.grown (h : Reads w B size A n xs) {row : Option Nat} (hg : w.grownBy w' row) (hB : B ≤ w.heap.size) (hr : ∀ g, row = some g → B ≤ g) : Reads w' B size A n xs :=
  h.keep fun p hp => World.cell?_of_block (hg.block p.block (by omega) (fun e => by have := hr _ e.symm; omega))
theorem Reads.cut (h : Reads w B size A n xs) {k cap : Nat} (hk : k ≤ n) (hc : n ≤ cap) :
    Reads w B size (if cap = k then A else A.map (·.add (k * size))) (n - k) (xs.drop (k * size)) := by
  refine ⟨by rw [List.length_drop, h.1, Nat.sub_mul], fun hn => ?_⟩
  obtain ⟨ad, rfl, hb, hcell⟩ := h.2 (by omega)
  rw [if_neg (by omega)]
  refine ⟨ad.add (k * size), rfl, by rw [block_of_add]; exact hb, fun j u hu => ?_⟩
  rw [add_of_add]
  exact hcell _ u (by rw [← hu, List.getElem?_drop])
theorem Reads.of_own {base : Nat} {e : TypeId} {c : Nat} (h : w.ownsRow base e size (.slice A n c) n xs) : Reads w w.heap.size size A n xs := by
  refine ⟨h.1, fun hn => ?_⟩
  obtain ⟨g, cap, hv, _, hlt⟩ := h.form hn
  have hA : A = some ⟨g, 0, none⟩ := by injection hv
  subst hA
  exact ⟨_, rfl, hlt, h.cells (g := g) rfl⟩
end

/-- The slice value with address A reads as the integers xs, below block B; they fit an int; there are no more than two million. -/
structure RI (w : World) (B : Nat) (A : Option Addr) (xs : List Int) : Prop where
  rd : Reads w B 1 A xs.length (xs.map (Value.int .i64))
  fit : ∀ x ∈ xs, -9223372036854775808 ≤ x ∧ x ≤ 9223372036854775807
  len : xs.length ≤ 2000000
section
variable {w w' : World} {B B' : Nat} {A : Option Addr} {xs : List Int}
theorem RI.at_ (h : RI w B A xs) {k : Nat} (hk : k < xs.length) :
    ∃ ad x, A = some ad ∧ ad.block < B ∧ w.cell? (ad.add k) = some (.int .i64 x) ∧ -9223372036854775808 ≤ x ∧ x ≤ 9223372036854775807 ∧ Hid (xs[k]? = some x) := by
  obtain ⟨ad, u, e, hb, hx, hc⟩ := h.rd.at_ hk
  have hm := h.fit _ (List.getElem_mem hk)
  refine ⟨ad, xs[k], e, hb, ?_, hm.1, hm.2, Lib.hid (List.getElem?_eq_getElem hk)⟩
  rw [hc, ← hx, List.getElem?_map, List.getElem?_eq_getElem hk]; rfl
theorem RI.cell_ {ad : Addr} {k : Nat} {x : Int} (h : RI w B (some ad) xs) (hx : Hid (xs[k]? = some x)) : w.cell? (ad.add k) = some (.int .i64 x) := by
  have hk := hx.out
  obtain ⟨hlt, rfl⟩ := List.getElem?_eq_some_iff.1 hk
  obtain ⟨ad', x', e, _, hc, _, _, hx'⟩ := h.at_ hlt
  injection e with e
  subst e
  have := hx'.out
  rw [hk] at this
  injection this with this
  rw [hc, this]
theorem RI.below (h : RI w B A xs) (hb : Below B w w') : RI w' B A xs := ⟨h.rd.below hb, h.fit, h.len⟩
theorem RI.more (h : RI w B A xs) (hB : B ≤ B') : RI w B' A xs := ⟨h.rd.more hB, h.fit, h.len⟩
theorem RI.drew (h : RI w B A xs) : RI w.drew B A xs := ⟨h.rd.drew, h.fit, h.len⟩
theorem RI.drewN (h : RI w B A xs) (k : Nat) : RI (w.drewN k) B A xs := ⟨h.rd.drewN k, h.fit, h.len⟩
theorem RI.alloc (h : RI w B A xs) (hB : B ≤ w.heap.size) (o : Obj) : RI (w.alloc o) B A xs := ⟨h.rd.alloc hB o, h.fit, h.len⟩
theorem RI.setCell (h : RI w B A xs) {p : Addr} (hB : B ≤ p.block) (u : Value) : RI (w.setCell p u) B A xs := ⟨h.rd.setCell hB u, h.fit, h.len⟩
theorem RI.nil_ : RI w B A [] := ⟨Reads.none_, by simp, by simp⟩
end

/-- From w to w' nothing that was there has turned. -/
def Grow (w w' : World) : Prop := Below w.heap.size w w'
/-- From w to w' nothing that was there has turned, but for the blocks from lo on below hi. -/
structure Turn (lo hi : Nat) (w w' : World) : Prop where
  os : w'.os = w.os
  tape : w'.tape = w.tape
  output : w'.output = w.output
  size : w.heap.size ≤ w'.heap.size
  block : ∀ k, k < w.heap.size → (k < lo ∨ hi ≤ k) → w'.heap[k]? = w.heap[k]?
section
variable {w w' w'' : World} {lo hi lo' hi' : Nat}
theorem Grow.refl (w : World) : Grow w w := Below.refl _ _
theorem Grow.trans (h : Grow w w') (k : Grow w' w'') : Grow w w'' := Below.trans h (Below.mono k (Below.size h))
theorem Grow.drewN (w : World) (n : Nat) : Grow w (w.drewN n) := ⟨rfl, rfl, rfl, Nat.le_refl _, fun _ _ => rfl⟩
theorem Grow.drew (w : World) : Grow w w.drew := ⟨rfl, rfl, rfl, Nat.le_refl _, fun _ _ => rfl⟩
theorem Grow.alike (h1 : w'.os = w.os) (h2 : w'.tape = w.tape) (h3 : w'.output = w.output) (h4 : w'.heap = w.heap) : Grow w w' := ⟨h1, h2, h3, by rw [h4]; exact Nat.le_refl _, fun _ _ => by rw [h4]⟩
theorem Grow.size (h : Grow w w') : w.heap.size ≤ w'.heap.size := Below.size h
theorem Grow.turn (h : Grow w w') (lo hi : Nat) : Turn lo hi w w' := ⟨Below.os h, Below.tape h, Below.output h, Below.size h, fun k hk _ => Below.block h k hk⟩
theorem Turn.below {B : Nat} (h : Turn lo hi w w') (hB : B ≤ w.heap.size) (hl : B ≤ lo) : Below B w w' := ⟨h.os, h.tape, h.output, h.size, fun k hk => h.block k (by omega) (.inl (by omega))⟩
theorem Turn.trans (h : Turn lo hi w w') (k : Turn lo hi w' w'') : Turn lo hi w w'' :=
  ⟨k.os.trans h.os, k.tape.trans h.tape, k.output.trans h.output, Nat.le_trans h.size k.size, fun j hj hh => (k.block j (Nat.lt_of_lt_of_le hj h.size) hh).trans (h.block j hj hh)⟩
theorem Turn.wider (h : Turn lo hi w w') (h1 : lo' ≤ lo) (h2 : hi ≤ hi') : Turn lo' hi' w w' := ⟨h.os, h.tape, h.output, h.size, fun k hk hh => h.block k hk (by omega)⟩
theorem Turn.refl (lo hi : Nat) (w : World) : Turn lo hi w w := ⟨rfl, rfl, rfl, Nat.le_refl _, fun _ _ _ => rfl⟩
theorem Turn.grown {row : Option Nat} (h : w.grownBy w' row) (hr : ∀ g, row = some g → lo ≤ g ∧ g < hi) : Turn lo hi w w' :=
  ⟨h.os, h.tape, h.output, h.size, fun k hk hh => h.block k hk (fun e => by have := hr k e.symm; omega)⟩
end

/-- The call owns the slice value v, which reads as the integers xs; its row lies from block lo on, below hi. -/
structure OwnI (w : World) (lo hi : Nat) (v : Value) (xs : List Int) : Prop where
  own : w.ownsRow lo 3 1 v xs.length (xs.map (Value.int .i64))
  top : ∀ g, v.ownBlock = some g → g < hi
  fit : ∀ x ∈ xs, -9223372036854775808 ≤ x ∧ x ≤ 9223372036854775807
  len : xs.length ≤ 2000000
section
variable {w w' : World} {lo hi lo' hi' : Nat} {v : Value} {xs : List Int}
theorem OwnI.mk' (own : w.ownsRow lo 3 1 v xs.length (xs.map (Value.int .i64))) (fit : ∀ x ∈ xs, -9223372036854775808 ≤ x ∧ x ≤ 9223372036854775807) (len : xs.length ≤ 2000000) : OwnI w lo w.heap.size v xs :=
  ⟨own, fun g hg => (own.lt g hg).2, fit, len⟩
theorem OwnI.open_ (h : OwnI w lo hi v xs) : ∃ A c, v = .slice A xs.length c ∧ xs.length ≤ c ∧ c ≤ maxLen ∧ RI w w.heap.size A xs := by
  rcases h.own.2 with ⟨rfl, h0⟩ | ⟨g, cap, cur, rfl, hb, hg, hn, hm, hs, ht⟩
  · have : xs = [] := List.eq_nil_of_length_eq_zero h0
    subst this
    exact ⟨none, 0, rfl, by simp, by simp [maxLen], RI.nil_⟩
  · exact ⟨_, cap, rfl, hn, hm, Reads.of_own h.own, h.fit, h.len⟩
theorem OwnI.ri {A : Option Addr} {n c : Nat} (h : OwnI w lo hi (.slice A n c) xs) : RI w w.heap.size A xs := by
  obtain ⟨A', c', e, _, _, hr⟩ := h.open_
  injection e with e1
  subst e1
  exact hr
theorem OwnI.nil_ : OwnI w lo hi (.slice none 0 0) [] := ⟨⟨by simp, .inl ⟨rfl, rfl⟩⟩, by simp [Value.ownBlock], by simp, by simp⟩
theorem OwnI.lt (h : OwnI w lo hi v xs) : ∀ k, v.ownBlock = some k → lo ≤ k ∧ k < w.heap.size := h.own.lt
/-- What a row owned is hangs on its own block alone. -/
theorem ownsRow_of_block {base : Nat} {e : TypeId} {size n : Nat} {xs : List Value} (h : w.ownsRow base e size v n xs) (hb : ∀ g, v.ownBlock = some g → w'.heap[g]? = w.heap[g]?) : w'.ownsRow base e size v n xs := by
  refine ⟨h.1, ?_⟩
  rcases h.2 with h0 | ⟨g, cap, cur, rfl, hg, hh, r⟩
  · exact .inl h0
  · exact .inr ⟨g, cap, cur, rfl, hg, (hb g rfl).trans hh, r⟩
theorem OwnI.turn (h : OwnI w lo hi v xs) (ht : Turn lo' hi' w w') (hd : hi ≤ lo' ∨ hi' ≤ lo) : OwnI w' lo hi v xs :=
  ⟨ownsRow_of_block h.own (fun g hg => by have := h.lt g hg; have := h.top g hg; exact ht.block g (by omega) (by omega)), h.top, h.fit, h.len⟩
theorem OwnI.form {A : Option Addr} {n c : Nat} (h : OwnI w lo hi (.slice A n c) xs) (hn : 0 < xs.length) : ∃ g, A = some ⟨g, 0, none⟩ ∧ n = xs.length ∧ lo ≤ g ∧ g < hi ∧ g < w.heap.size := by
  rcases h.own.2 with ⟨_, h0⟩ | ⟨g, cap, cur, hv, hb, hg, _⟩
  · omega
  · injection hv with e1 e2 e3
    subst e1
    exact ⟨g, rfl, e2, hb, h.top g rfl, (Array.getElem?_eq_some_iff.1 hg).1⟩
/-- A store into a row that the call owns. -/
theorem OwnI.set_ {g n c j : Nat} {x : Int} (h : OwnI w lo hi (.slice (some ⟨g, 0, none⟩) n c) xs) (hn : n = xs.length) (hx : -9223372036854775808 ≤ x ∧ x ≤ 9223372036854775807) :
    OwnI (w.setCell ⟨g, j, none⟩ (.int .i64 x)) lo hi (.slice (some ⟨g, 0, none⟩) n c) (xs.set j x) := by
  subst hn
  refine ⟨?_, h.top, fun y hy => ?_, by simpa using h.len⟩
  · have := (h.own.stored j (.int .i64 x)).1
    rw [← List.map_set] at this
    simpa using this
  · rcases List.mem_or_eq_of_mem_set hy with hy | rfl
    · exact h.fit y hy
    · exact hx
theorem OwnI.cellAt {g n c j : Nat} {x : Int} (h : OwnI w lo hi (.slice (some ⟨g, 0, none⟩) n c) xs) (hn : n = xs.length) (hx : xs[j]? = some x) : w.cell? ⟨g, j, none⟩ = some (.int .i64 x) := by
  subst hn
  have hj := (List.getElem?_eq_some_iff.1 hx).1
  rw [h.own.cellAt j (by omega), List.getElem?_map, hx]; rfl
theorem OwnI.frozenAt {g n c : Nat} (j : Nat) (h : OwnI w lo hi (.slice (some ⟨g, 0, none⟩) n c) xs) (hn : n = xs.length) : w.frozen? ⟨g, j, none⟩ = false := by
  subst hn; exact h.own.frozenAt j
theorem OwnI.grow (h : OwnI w lo hi v xs) (hg : Grow w w') : OwnI w' lo hi v xs := h.turn (hg.turn 0 0) (.inr (Nat.zero_le _))
theorem RI.grow {A : Option Addr} (h : RI w w.heap.size A xs) (hg : Grow w w') : RI w' w'.heap.size A xs := (RI.below h hg).more hg.size
theorem OwnI.lower (h : OwnI w lo hi v xs) (hl : lo' ≤ lo) (hh : hi ≤ hi') : OwnI w lo' hi' v xs :=
  ⟨⟨h.own.1, h.own.2.imp id (fun ⟨g, cap, cur, h1, h2, h3⟩ => ⟨g, cap, cur, h1, by omega, h3⟩)⟩, fun g hg => Nat.lt_of_lt_of_le (h.top g hg) hh, h.fit, h.len⟩
end

theorem info_int : (Try.prog.info? 3).map (fun i => (i.zero, i.size, i.bytes)) = some (some (.int .i64 0), 1, 8) := by kernel_rfl

/-- Block g is just the cells cs of element type t, none frozen. -/
def Blk (w : World) (g : Nat) (t : TypeId) (cs : Array Value) : Prop := w.heap[g]? = some (.cells cs t (0, 0))
section
variable {w w' : World} {g : Nat} {t : TypeId} {cs : Array Value}
theorem Blk.lt (h : Blk w g t cs) : g < w.heap.size := by
  rcases Nat.lt_or_ge g w.heap.size with hlt | hge
  · exact hlt
  · unfold Blk at h; rw [Array.getElem?_eq_none hge] at h; cases h
theorem Blk.cell (h : Blk w g t cs) (i : Nat) : w.cell? ⟨g, i, none⟩ = cs[i]? := cell_of_row w g i cs t (0, 0) h
theorem Blk.frozen (h : Blk w g t cs) (i : Nat) : w.frozen? ⟨g, i, none⟩ = false := by
  unfold Blk at h
  simp [World.frozen?, h]
theorem Blk.new (w : World) (t : TypeId) (cs : Array Value) : Blk (w.alloc (.cells cs t)) w.heap.size t cs := heap_alloc_new w _
theorem Blk.drew (h : Blk w g t cs) : Blk w.drew g t cs := h
theorem Blk.drewN (h : Blk w g t cs) (n : Nat) : Blk (w.drewN n) g t cs := h
theorem Blk.alloc (h : Blk w g t cs) (o : Obj) : Blk (w.alloc o) g t cs := (Below.heap_alloc w o g h.lt).trans h
theorem Blk.set_ (h : Blk w g t cs) (i : Nat) (u : Value) : Blk (w.setCell ⟨g, i, none⟩ u) g t (cs.setIfInBounds i u) := by
  unfold Blk at h ⊢
  simp [World.setCell, Array.getElem?_modify, h]
theorem Blk.far (h : Blk w g t cs) {p : Addr} (hp : g ≠ p.block) (u : Value) : Blk (w.setCell p u) g t cs := (Below.heap_setCell w p u g hp).trans h
theorem Blk.below {B : Nat} (h : Blk w g t cs) (hb : Below B w w') (hg : g < B) : Blk w' g t cs := (hb.block g hg).trans h
theorem Blk.grown {row : Option Nat} (h : Blk w g t cs) (hb : w.grownBy w' row) (hg : some g ≠ row) : Blk w' g t cs := (hb.block g h.lt hg).trans h
end
theorem ret_int {k : IntKind} {a b : Int} (h : a = b) : Ending.returned (.int k a) = .returned (.int k b) := by rw [h]
theorem ret_bool {a b : Bool} (h : a = b) : Ending.returned (.bool a) = .returned (.bool b) := by rw [h]
theorem int_eq {k : IntKind} {a b : Int} (h : a = b) : Value.int k a = .int k b := by rw [h]
theorem bool_eq {a b : Bool} (h : a = b) : Value.bool a = .bool b := by rw [h]
theorem quiet_add_same {P : Program} {f : FuncId} {args : Array Value} {w : World} {a n : Nat} {v : Value}
    (h : Calls P f args (w.drewN (a + n)) fun e w' => e = .returned v ∧ w' = w.drewN (a + n)) :
    Calls P f args (w.drewN (a + n)) fun e w'' => e = .returned v ∧ ∃ m, w'' = w.drewN (a + m) :=
  h.mono fun _ _ ⟨he, hm⟩ => ⟨he, n, hm⟩
theorem quiet_add {P : Program} {f : FuncId} {args : Array Value} {w : World} {a n : Nat} {v : Value}
    (h : Calls P f args (w.drewN (a + n)) fun e w' => e = .returned v ∧ ∃ m, w' = (w.drewN (a + n)).drewN m) :
    Calls P f args (w.drewN (a + n)) fun e w'' => e = .returned v ∧ ∃ m, w'' = w.drewN (a + m) :=
  h.mono fun _ _ ⟨he, m, hm⟩ => ⟨he, n + m, by rw [hm, World.drewN_drewN, Nat.add_assoc]⟩
theorem cells_new_at (w : World) (cs : Array Value) (t : TypeId) : ∀ (j : Nat) (u : Value), cs.toList[j]? = some u → (w.alloc (.cells cs t)).cell? ((⟨w.heap.size, 0, none⟩ : Addr).add j) = some u := by
  intro j u hu
  have h := Blk.cell (Blk.new w t cs) j
  have e : (⟨w.heap.size, 0, none⟩ : Addr).add j = ⟨w.heap.size, j, none⟩ := by
    unfold Addr.add; by_cases hj : j = 0 <;> simp [hj]
  rw [e, h]; simpa using hu
/-- An element (its cells in a block of their own) is appended to a row that the call owns. -/
theorem wp_push {P : Program} {o : Oper} {a : Act} {K : Act → World → Prop} {Q : Exit → Act → World → Prop} (s x : Operand) (t : TypeId)
    (ho : o.op = .call { callee := .builtin .append, args := #[s, x], argTypes := #[t, t] })
    (e : TypeId) (i : TypeInfo) (z : Value) (size bytes : Nat) (ht : P.underlying t = some (.slice e)) (hi : P.info? e = some i) (hz : i.zero = some z)
    (hsize : i.size = size) (hby : i.bytes = bytes) (hzs : z.cells.size = size) (hsz : 0 < size)
    {w0 W : World} {B n c1 g : Nat} {v : Value} {xs : List Value} {cs : Array Value} (hs : a.eval s = v) (hx : a.eval x = .slice (some ⟨g, 0, none⟩) 1 c1) (hcs : cs.size = size) (h1 : ∀ u ∈ cs.toList, u.oneCell' = true)
    (hnew : ∀ (j : Nat) (u : Value), cs.toList[j]? = some u → W.cell? ((⟨g, 0, none⟩ : Addr).add j) = some u)
    (hown : W.ownsRow B e size v n xs) (hb : Below B w0 W) (hB : B ≤ W.heap.size) (hn : n ≤ 2000000) (hbs : bytes ≤ 1000)
    (h : ∀ v' w', w'.ownsRow B e size v' (n + 1) (xs ++ cs.toList) → Below B w0 w' → W.grownBy w' v.ownBlock → (v'.ownBlock = v.ownBlock ∨ v'.ownBlock = some W.heap.size) → K (a.put o.dst v') w') :
    o.wp P a W K Q := by
  have hm : (n + 1) * bytes ≤ 140737488355328 := by
    have := Nat.mul_le_mul (show n + 1 ≤ 2000001 by omega) hbs
    omega
  obtain ⟨v', w', hr, h2, h3, _, h5⟩ := run_append_own_at (P := P) W B t o.type e i z size bytes ht hi hz hsize hby hzs hsz v n xs hown ⟨g, 0, none⟩ 1 c1 cs.toList (by simpa using hcs) hnew h1 (by unfold maxLen; omega) hm hB
  unfold Oper.wp execOp
  simp only [ho, resolve, invoke, builtin, Sem.run_bind, Sem.run_pure, Result.andThen_ok, List.map_toArray, List.map_cons, List.map_nil, hs, hx, hr]
  exact h v' w' h2 (hb.grown h3 hB (fun k hk => (hown.lt k hk).1)) h3 h5
theorem wpList_push {P : Program} {ops : Array Oper} {rest : List Oper} {o : Oper} {a : Act} {Q : Exit → Act → World → Prop} (hgd : o.guard = none) (s x : Operand) (t : TypeId)
    (ho : o.op = .call { callee := .builtin .append, args := #[s, x], argTypes := #[t, t] })
    (e : TypeId) (i : TypeInfo) (z : Value) (size bytes : Nat) (ht : P.underlying t = some (.slice e)) (hi : P.info? e = some i) (hz : i.zero = some z)
    (hsize : i.size = size) (hby : i.bytes = bytes) (hzs : z.cells.size = size) (hsz : 0 < size)
    {w0 W : World} {B n c1 g : Nat} {v : Value} {xs : List Value} {cs : Array Value} (hs : a.eval s = v) (hx : a.eval x = .slice (some ⟨g, 0, none⟩) 1 c1) (hcs : cs.size = size) (h1 : ∀ u ∈ cs.toList, u.oneCell' = true)
    (hnew : ∀ (j : Nat) (u : Value), cs.toList[j]? = some u → W.cell? ((⟨g, 0, none⟩ : Addr).add j) = some u)
    (hown : W.ownsRow B e size v n xs) (hb : Below B w0 W) (hB : B ≤ W.heap.size) (hn : n ≤ 2000000) (hbs : bytes ≤ 1000)
    (h : ∀ v' w', w'.ownsRow B e size v' (n + 1) (xs ++ cs.toList) → Below B w0 w' → W.grownBy w' v.ownBlock → (v'.ownBlock = v.ownBlock ∨ v'.ownBlock = some W.heap.size) → wpList P ops Q rest (a.put o.dst v') w') :
    wpList P ops Q (o :: rest) a W :=
  wpList_plain hgd fun _ hK => wp_push s x t ho e i z size bytes ht hi hz hsize hby hzs hsz hs hx hcs h1 hnew hown hb hB hn hbs fun v' w' a1 a2 a3 a4 => hK _ _ (h v' w' a1 a2 a3 a4)
/-- .. an integer onto a row of integers. -/
theorem wp_pushI {o : Oper} {a : Act} {K : Act → World → Prop} {Q : Exit → Act → World → Prop} (s x : Operand)
    (ho : o.op = .call { callee := .builtin .append, args := #[s, x], argTypes := #[41, 41] })
    {w0 wr W : World} {B c1 : Nat} {v : Value} {xs : List Int} {y : Int} (hs : a.eval s = v) (hx : a.eval x = .slice (some ⟨wr.heap.size, 0, none⟩) 1 c1)
    (hW : W.heap = (wr.alloc (.cells #[.int .i64 y] 3)).heap) (hWo : W.os = wr.os) (hWt : W.tape = wr.tape) (hWp : W.output = wr.output)
    (hown : wr.ownsRow B 3 1 v xs.length (xs.map (Value.int .i64))) (hb : Below B w0 wr) (hB : B ≤ wr.heap.size) (hn : xs.length ≤ 2000000)
    (h : ∀ v' w', w'.ownsRow B 3 1 v' (xs ++ [y]).length ((xs ++ [y]).map (Value.int .i64)) → Below B w0 w' → K (a.put o.dst v') w') :
    o.wp Try.prog a W K Q := by
  obtain ⟨i0, hi0, hz0, hz1, hz2⟩ := info_parts info_int
  have hc : ∀ p, W.cell? p = (wr.alloc (.cells #[.int .i64 y] 3)).cell? p := fun p => World.cell?_of_block (by rw [hW])
  have hb1 : Below B w0 W := hb.trans ⟨hWo, hWt, hWp, by rw [hW]; simp, fun k hk => by rw [hW]; exact Below.heap_alloc _ _ _ (by omega)⟩
  exact wp_push s x 41 ho 3 i0 (.int .i64 0) 1 8 Try.underlying41 hi0 hz0 hz1 hz2 rfl (by omega) hs hx (cs := #[.int .i64 y]) rfl (by simp [Value.oneCell'])
    (fun j u hu => (hc _).trans (cells_new_at wr #[.int .i64 y] 3 j u hu)) (ownsRow_of_block (hown.alloc _) (fun g _ => by rw [hW])) hb1 (by rw [hW]; simp; omega) hn (by omega)
    (fun v' w' h1 h2 _ _ => h v' w' (by simpa using h1) h2)
theorem wpList_pushI {ops : Array Oper} {rest : List Oper} {o : Oper} {a : Act} {Q : Exit → Act → World → Prop} (hgd : o.guard = none) (s x : Operand)
    (ho : o.op = .call { callee := .builtin .append, args := #[s, x], argTypes := #[41, 41] })
    {w0 wr : World} {B c1 : Nat} {v : Value} {xs : List Int} {y : Int} (hs : a.eval s = v) (hx : a.eval x = .slice (some ⟨wr.heap.size, 0, none⟩) 1 c1)
    (hown : wr.ownsRow B 3 1 v xs.length (xs.map (Value.int .i64))) (hb : Below B w0 wr) (hB : B ≤ wr.heap.size) (hn : xs.length ≤ 2000000)
    (h : ∀ v' w', w'.ownsRow B 3 1 v' (xs ++ [y]).length ((xs ++ [y]).map (Value.int .i64)) → Below B w0 w' → wpList Try.prog ops Q rest (a.put o.dst v') w') :
    wpList Try.prog ops Q (o :: rest) a (wr.alloc (.cells #[.int .i64 y] 3)) :=
  wpList_plain hgd fun _ hK => wp_pushI s x ho hs hx rfl rfl rfl rfl hown hb hB hn fun v' w' h2 h3 => hK _ _ (h v' w' h2 h3)
theorem step_pushI {ops : Array Oper} {o : Oper} {a : Act} {K : Act → World → Prop} {Q : Exit → Act → World → Prop} {E : Prop} (hgd : o.guard = none) (s x : Operand)
    (ho : o.op = .call { callee := .builtin .append, args := #[s, x], argTypes := #[41, 41] })
    {w0 wr : World} {B c1 : Nat} {v : Value} {xs : List Int} {y : Int} (hs : a.eval s = v) (hx : a.eval x = .slice (some ⟨wr.heap.size, 0, none⟩) 1 c1)
    (hown : wr.ownsRow B 3 1 v xs.length (xs.map (Value.int .i64))) (hb : Below B w0 wr) (hB : B ≤ wr.heap.size) (hn : xs.length ≤ 2000000)
    (h : ∀ v' w', w'.ownsRow B 3 1 v' (xs ++ [y]).length ((xs ++ [y]).map (Value.int .i64)) → Below B w0 w' → K (a.put o.dst v') w') :
    if Region.wanted o (yielded ops a.tmps) = true then Oper.wp Try.prog o a ((wr.alloc (.cells #[.int .i64 y] 3)).drew) K Q else E := by
  have hw : Region.wanted o (yielded ops a.tmps) = true := by simp [Region.wanted, hgd]
  rw [if_pos hw]
  exact wp_pushI s x ho hs hx rfl rfl rfl rfl hown hb hB hn h
/-! append onto a row of the call's own, the source nil, empty or not. -/
section
variable {P : Program} (w : World)
theorem run_append_of_nil (base : Nat) (t ty e : TypeId) (i : TypeInfo) (size : Nat) (ht : P.underlying t = some (.slice e)) (hi : P.info? e = some i)
    (v : Value) (n : Nat) (xs : List Value) (hown : w.ownsRow base e size v n xs) (c : Nat) : (Builtin.append_ #[t, t] ty #[v, .slice none 0 c]).run P w = .ok v w := by
  rcases hown.2 with ⟨rfl, rfl⟩ | ⟨g, cap, cur, rfl, _, _, hnc, _⟩
  · simp [Builtin.append_, run_underlying ht, sizeOf, typeInfo, hi, Builtin.lenOf, Builtin.firstCells]
  · simp [Builtin.append_, run_underlying ht, sizeOf, typeInfo, hi, Builtin.lenOf, Builtin.firstCells, hnc, storeCells]

theorem run_append_any (base : Nat) (t ty e : TypeId) (i : TypeInfo) (z : Value) (size bytes : Nat) (ht : P.underlying t = some (.slice e)) (hi : P.info? e = some i) (hz : i.zero = some z)
    (hsize : i.size = size) (hby : i.bytes = bytes) (hzs : z.cells.size = size) (hsz : 0 < size)
    (v : Value) (n : Nat) (xs : List Value) (hown : w.ownsRow base e size v n xs)
    (B : Nat) (A : Option Addr) (m c : Nat) (news : List Value) (hr : Reads w B size A m news) (h1 : ∀ u ∈ news, u.oneCell' = true)
    (h63 : n + m ≤ maxLen) (hbytes : (n + m) * bytes ≤ 140737488355328) (hbase : base ≤ w.heap.size) :
    ∃ v' w', (Builtin.append_ #[t, t] ty #[v, .slice A m c]).run P w = .ok v' w' ∧ w'.ownsRow base e size v' (n + m) (xs ++ news) ∧ w.grownBy w' v.ownBlock ∧
      (v'.ownBlock = v.ownBlock ∨ v'.ownBlock = some w.heap.size) := by
  rcases A with _ | ad
  · have hm : m = 0 := by
      rcases Nat.eq_zero_or_pos m with h0 | h0
      · exact h0
      · obtain ⟨ad, h, _⟩ := hr.2 h0
        cases h
    subst hm
    have hn : news = [] := List.eq_nil_of_length_eq_zero (by simpa using hr.1)
    subst hn
    exact ⟨v, w, run_append_of_nil w base t ty e i size ht hi v n xs hown c, by simpa using hown, World.grownBy.refl w _, .inl rfl⟩
  · have hcells : ∀ j u, news[j]? = some u → w.cell? (ad.add j) = some u := by
      intro j u hu
      rcases Nat.eq_zero_or_pos m with h0 | h0
      · subst h0
        have hn : news = [] := List.eq_nil_of_length_eq_zero (by simpa using hr.1)
        subst hn
        simp at hu
      · obtain ⟨ad', h, _, hc⟩ := hr.2 h0
        injection h with h
        subst h
        exact hc j u hu
    obtain ⟨v', w', hrun, h2, h3, _, h5⟩ := run_append_own_at (P := P) w base t ty e i z size bytes ht hi hz hsize hby hzs hsz v n xs hown ad m c news hr.1 hcells h1 h63 hbytes hbase
    exact ⟨v', w', hrun, h2, h3, h5⟩

theorem wp_append_any {o : Oper} {a : Act} {K : Act → World → Prop} {Q : Exit → Act → World → Prop} (s x : Operand) (t : TypeId)
    (ho : o.op = .call { callee := .builtin .append, args := #[s, x], argTypes := #[t, t] })
    (base : Nat) (e : TypeId) (i : TypeInfo) (z : Value) (size bytes : Nat) (ht : P.underlying t = some (.slice e)) (hi : P.info? e = some i) (hz : i.zero = some z)
    (hsize : i.size = size) (hby : i.bytes = bytes) (hzs : z.cells.size = size) (hsz : 0 < size)
    (v : Value) (n : Nat) (xs : List Value) (hs : a.eval s = v) (hown : w.ownsRow base e size v n xs)
    (B : Nat) (A : Option Addr) (m c : Nat) (news : List Value) (hx : a.eval x = .slice A m c) (hr : Reads w B size A m news) (h1 : ∀ u ∈ news, u.oneCell' = true)
    (h63 : n + m ≤ maxLen) (hbytes : (n + m) * bytes ≤ 140737488355328) (hbase : base ≤ w.heap.size)
    (h : ∀ v' w', w'.ownsRow base e size v' (n + m) (xs ++ news) → w.grownBy w' v.ownBlock → (v'.ownBlock = v.ownBlock ∨ v'.ownBlock = some w.heap.size) → K (a.put o.dst v') w') : o.wp P a w K Q := by
  obtain ⟨v', w', hrun, h2, h3, h4⟩ := run_append_any (P := P) w base t o.type e i z size bytes ht hi hz hsize hby hzs hsz v n xs hown B A m c news hr h1 h63 hbytes hbase
  unfold Oper.wp execOp
  simp only [ho, resolve, invoke, builtin, Sem.run_bind, Sem.run_pure, Result.andThen_ok, List.map_toArray, List.map_cons, List.map_nil, hs, hx, hrun]
  exact h v' w' h2 h3 h4

theorem wpList_append_any {ops : Array Oper} {rest : List Oper} {o : Oper} {a : Act} {Q : Exit → Act → World → Prop} (hgd : o.guard = none) (s x : Operand) (t : TypeId)
    (ho : o.op = .call { callee := .builtin .append, args := #[s, x], argTypes := #[t, t] })
    (base : Nat) (e : TypeId) (i : TypeInfo) (z : Value) (size bytes : Nat) (ht : P.underlying t = some (.slice e)) (hi : P.info? e = some i) (hz : i.zero = some z)
    (hsize : i.size = size) (hby : i.bytes = bytes) (hzs : z.cells.size = size) (hsz : 0 < size)
    (v : Value) (n : Nat) (xs : List Value) (hs : a.eval s = v) (hown : w.ownsRow base e size v n xs)
    (B : Nat) (A : Option Addr) (m c : Nat) (news : List Value) (hx : a.eval x = .slice A m c) (hr : Reads w B size A m news) (h1 : ∀ u ∈ news, u.oneCell' = true)
    (h63 : n + m ≤ maxLen) (hbytes : (n + m) * bytes ≤ 140737488355328) (hbase : base ≤ w.heap.size)
    (h : ∀ v' w', w'.ownsRow base e size v' (n + m) (xs ++ news) → w.grownBy w' v.ownBlock → (v'.ownBlock = v.ownBlock ∨ v'.ownBlock = some w.heap.size) → wpList P ops Q rest (a.put o.dst v') w') : wpList P ops Q (o :: rest) a w :=
  wpList_plain hgd fun _ hK => wp_append_any w s x t ho base e i z size bytes ht hi hz hsize hby hzs hsz v n xs hs hown B A m c news hx hr h1 h63 hbytes hbase fun v' w' h2 h3 h4 => hK _ _ (h v' w' h2 h3 h4)

end
/-- 'append([]int{}, xs...)': a copy in new memory. -/
theorem wpList_copyI {ops : Array Oper} {rest : List Oper} {o : Oper} {a : Act} {Q : Exit → Act → World → Prop} (hgd : o.guard = none) (s x : Operand)
    (ho : o.op = .call { callee := .builtin .append, args := #[s, x], argTypes := #[41, 41] })
    {wr : World} {A : Option Addr} {c B c0 : Nat} {xs : List Int} (hs : a.eval s = .slice (some ⟨wr.heap.size, 0, none⟩) 0 c0) (hc0 : c0 = 0) (hx : a.eval x = .slice A xs.length c)
    (hr : RI wr B A xs) (hB : B ≤ wr.heap.size)
    (h : ∀ v' w', OwnI w' wr.heap.size w'.heap.size v' xs → Grow wr w' → wpList Try.prog ops Q rest (a.put o.dst v') w') :
    wpList Try.prog ops Q (o :: rest) a (wr.alloc (.cells #[] 3)) := by
  obtain ⟨i0, hi0, hz0, hz1, hz2⟩ := info_parts info_int
  subst hc0
  have hl := hr.len
  refine wpList_append_any _ hgd s x 41 ho wr.heap.size 3 i0 (.int .i64 0) 1 8 Try.underlying41 hi0 hz0 hz1 hz2 rfl (by omega) _ 0 [] hs (World.ownsRow_lit wr #[] 0 (Nat.le_refl _) (by unfold maxLen; omega) rfl)
    B A xs.length c _ hx (hr.rd.alloc hB _) (fun u hu => by obtain ⟨z, _, rfl⟩ := List.mem_map.1 hu; rfl) (by unfold maxLen; omega) (by omega) (by simp) ?_
  intro v' w' h2 h3 _
  have g0 : Grow wr (wr.alloc (.cells #[] 3)) := (Below.refl _ _).alloc (Nat.le_refl _) _
  exact h v' w' (OwnI.mk' (by simpa using h2) hr.fit hr.len) (Below.grown g0 h3 (by simp) (fun k hk => by simp [Value.ownBlock] at hk; omega))
/-- 'make([]int, n)', n a literal. -/
theorem wpList_zeros {ops : Array Oper} {rest : List Oper} {o : Oper} {a : Act} {Q : Exit → Act → World → Prop} {w : World} (hg : o.guard = none) (l c : Operand) (hop : o.op = Op.makeSlice 41 l c)
    (n : Nat) (hl : a.eval l = .int .i64 (n : Int)) (hc : a.eval c = .int .i64 (n : Int)) (hn : n ≤ 2000000)
    (hK : ∀ w', OwnI w' w.heap.size w'.heap.size (.slice (some ⟨w.heap.size, 0, none⟩) n n) (List.replicate n 0) → Grow w w' → wpList Try.prog ops Q rest (a.put o.dst (.slice (some ⟨w.heap.size, 0, none⟩) n n)) w') :
    wpList Try.prog ops Q (o :: rest) a w := by
  obtain ⟨i0, hi0, hz0, hz1, hz2⟩ := info_parts info_int
  refine wpList_make_full w hg l c 41 hop w.heap.size 3 i0 (.int .i64 0) 1 Try.underlying41 hi0 hz0 hz1 .i64 .i64 _ _ n hl hc rfl rfl (by rw [hz2]; omega) (by unfold maxLen; omega) (Nat.le_refl _) ?_
  intro w' hown hgr
  have e : (madeCells (Value.int .i64 0).cells (n * 1)).toList = (List.replicate n (0 : Int)).map (Value.int .i64) := by rw [Nat.mul_one, List.map_replicate]; exact toList_madeCells_one _ _
  rw [e] at hown
  exact hK w' (OwnI.mk' (by simpa using hown) (fun x hx => by have := List.eq_of_mem_replicate hx; omega) (by simpa using hn)) ((Below.refl _ _).grown hgr (Nat.le_refl _) (by simp))
/-- .. and what becomes of the blocks. -/
theorem wpList_pushIx {ops : Array Oper} {rest : List Oper} {o : Oper} {a : Act} {Q : Exit → Act → World → Prop} (hgd : o.guard = none) (s x : Operand)
    (ho : o.op = .call { callee := .builtin .append, args := #[s, x], argTypes := #[41, 41] })
    {w0 wr : World} {B c1 : Nat} {v : Value} {xs : List Int} {y : Int} (hs : a.eval s = v) (hx : a.eval x = .slice (some ⟨wr.heap.size, 0, none⟩) 1 c1)
    (hown : wr.ownsRow B 3 1 v xs.length (xs.map (Value.int .i64))) (hb : Below B w0 wr) (hB : B ≤ wr.heap.size) (hn : xs.length ≤ 2000000)
    (h : ∀ v' w', w'.ownsRow B 3 1 v' (xs ++ [y]).length ((xs ++ [y]).map (Value.int .i64)) → Below B w0 w' →
      (∀ (lo : Nat) (u : Value) (us : List Value) (m : Nat), wr.ownsRow lo 3 1 u m us → u.ownBlock ≠ v.ownBlock → w'.ownsRow lo 3 1 u m us ∧ u.ownBlock ≠ v'.ownBlock) → wpList Try.prog ops Q rest (a.put o.dst v') w') :
    wpList Try.prog ops Q (o :: rest) a (wr.alloc (.cells #[.int .i64 y] 3)) := by
  obtain ⟨i0, hi0, hz0, hz1, hz2⟩ := info_parts info_int
  refine wpList_push hgd s x 41 ho 3 i0 (.int .i64 0) 1 8 Try.underlying41 hi0 hz0 hz1 hz2 rfl (by omega) hs hx (cs := #[.int .i64 y]) rfl (by simp [Value.oneCell'])
    (cells_new_at wr #[.int .i64 y] 3) (hown.alloc _) (hb.alloc hB _) (by simp; omega) hn (by omega) ?_
  intro v' w' h1 h2 h3 h4
  refine h v' w' (by simpa using h1) h2 fun lo u us m hu hne => ⟨(hu.alloc _).kept h3 (.inr hne), ?_⟩
  rcases h4 with h4 | h4
  · rw [h4]; exact hne
  · rw [h4]; intro e
    have := (hu.lt _ e).2
    simp at this
    omega
end Go.Proofs.Ytebiaodjodlloaa
