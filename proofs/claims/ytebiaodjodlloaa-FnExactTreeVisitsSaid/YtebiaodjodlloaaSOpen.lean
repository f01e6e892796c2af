/- Arguments that are slices of items, or an item by value, opened: what they read as. -/
import Derived.Test.YtebiaodjodlloaaOpen
import Derived.Test.YtebiaodjodlloaaItem
import Derived.Deep.Slices
import Derived.Deep.Fields
import Derived.ChangeSame
import Derived.Lib.SmallJoins
namespace Go.Proofs.Ytebiaodjodlloaa
set_option linter.unusedVariables false
set_option maxRecDepth 20000
open Go Go.ChangeShapes Go.WideShapes Go.ChangeAt Go.RowKit Go.Deep Go.Joins

section
variable {H : Type} {enc : TypeId × Value → H} {P : Program} {w : World} {base : Nat} {spare : Nat → Bool} {held : Bool}
/-- A slice of structs of one-cell fields, field by field. -/
theorem open_rows {t e : TypeId} {fs : Array Field} {fuel : Nat} {cs : List Value} {x : DataW H × List MemPlace} (ht : P.underlying t = some (.slice e)) (he : P.underlying e = some (.struct fs))
    (hone : oneCellFields P fs = true) (hC : P.cellsOf e = fs.size) (h : DataW.trod enc P w base spare held fuel t cs = some x) :
    cs = [.slice none 0 0] ∨
    ∃ (a : Addr) (len cap m : Nat), cs = [.slice (some a) len cap] ∧ len ≤ cap ∧ cap ≤ maxLen ∧ m = (if spare a.block then cap else len) ∧
      ∀ i, i < m → ∃ n : Nat, ∀ (j : Nat) (f : Field), fs[j]? = some f → ∃ (v : Value) (y : DataW H × List MemPlace), w.cell? (a.add (i * fs.size + j)) = some v ∧ DataW.trod enc P w base spare held n f.type [v] = some y := by
  rcases open_slice ht h with h0 | ⟨a, len, cap, m, n, D, Pl, hcs, hb, hl, hm, hmm, hx, hi⟩
  · exact .inl h0.1
  · refine .inr ⟨a, len, cap, m, hcs, hl, hm, hmm, fun i him => ?_⟩
    obtain ⟨cs', hc, ht'⟩ := hi i him
    rw [hC] at hc
    obtain ⟨ys, n', hn', hy, hlen, hyl, hf⟩ := DataW.trod_struct he ht'
    obtain ⟨_, hcl, hat⟩ := World.cells?_some hc
    refine ⟨n', fun j f hj => ?_⟩
    obtain ⟨ho, hk⟩ := hone_of hone j f hj
    have hjl : j < fs.size := (Array.getElem?_eq_some_iff.1 hj).1
    have hcell := hat j hjl
    have h1 := hf j f hj
    rw [ho, hk] at h1
    have hone' : (cs'.drop j).take 1 = [cs'[j]'(by omega)] := by
      rw [List.drop_eq_getElem_cons (by omega)]
      rfl
    rw [hone'] at h1
    have hys : ys[j]? = some (ys[j]'(by omega)) := List.getElem?_eq_getElem (by omega)
    have hv : cs'[j]? = some (cs'[j]'(by omega)) := List.getElem?_eq_getElem (by omega)
    refine ⟨_, _, ?_, h1.trans hys⟩
    rw [← Go.Deep.add_add, hcell, hv]
end

/-- An argument of type []Item: its items l, however long. -/
structure ArgS (w : World) (A : Option Addr) (n c : Nat) (l : List It) : Prop where
  len : l.length = n
  row : ∀ k x, l[k]? = some x → ∃ ad Ak ck, A = some ad ∧ ad.block < w.heap.size ∧ w.cell? (ad.add (k * 3)) = some (.int .i64 x.key) ∧ w.cell? (ad.add (k * 3 + 1)) = some (.slice Ak x.pt.length ck) ∧
    w.cell? (ad.add (k * 3 + 2)) = some (.int .i64 x.tags) ∧ ArgI w Ak x.pt.length ck x.pt ∧ Fits x.key ∧ Fits x.tags
  cap : n ≤ c
  top : c ≤ maxLen
theorem ArgI.keep {w w' : World} {A : Option Addr} {n c : Nat} {xs : List Int} (h : ArgI w A n c xs) (hb : Grow w w') : ArgI w' A n c xs := ⟨h.len, (h.rd.below hb).more hb.size, h.fit, h.cap, h.top⟩
theorem ArgS.grow {w w' : World} {A : Option Addr} {n c : Nat} {l : List It} (h : ArgS w A n c l) (hb : Grow w w') : ArgS w' A n c l :=
  ⟨h.len, fun k x hx => by
    obtain ⟨ad, Ak, ck, e, hB, h0, h1, h2, h3, h4⟩ := h.row k x hx
    exact ⟨ad, Ak, ck, e, Nat.lt_of_lt_of_le hB hb.size, (hb.cell (by rw [block_of_add]; exact hB)).trans h0, (hb.cell (by rw [block_of_add]; exact hB)).trans h1, (hb.cell (by rw [block_of_add]; exact hB)).trans h2, h3.keep hb, h4⟩, h.cap, h.top⟩
theorem ArgS.rs {w : World} {A : Option Addr} {n c : Nat} {l : List It} (h : ArgS w A n c l) (hn : n ≤ 2000000) (hp : ∀ (k : Nat) (x : It), l[k]? = some x → x.pt.length ≤ 2000000) : RS w w.heap.size A l :=
  ⟨fun k x hx => by
    obtain ⟨ad, Ak, ck, e, hB, h0, h1, h2, h3, h4, h5⟩ := h.row k x hx
    exact ⟨ad, Ak, ck, e, hB, h0, h1, h2, h3.cap, h3.top, h3.ri (hp k x hx), h4, h5⟩, by rw [h.len]; exact hn⟩
/-- An argument of type Item: its cells' values, and what its slice reads as. -/
structure ArgT (w : World) (k : Int) (A : Option Addr) (n c : Nat) (t : Int) (xs : List Int) : Prop where
  arg : ArgI w A n c xs
  fk : Fits k
  ft : Fits t

section
variable {H : Type} {enc : TypeId × Value → H} {W : World}
theorem argI_cell {v : Value} {y : DataW H × List MemPlace} {fuel : Nat} (h : DataW.trod enc Try.prog W 0 (fun _ => true) true fuel 41 [v] = some y) : ∃ A n c xs, v = .slice A n c ∧ ArgI W A n c xs := by
  rcases open_ints Try.underlying41 Try.underlying3 (by kernel_rfl) h with ⟨hcs, _⟩ | ⟨x, l, cc, zs, hcs, _, hl, hm, hz, _, hcell, hwz⟩
  · injection hcs with hcs
    exact ⟨none, 0, 0, [], hcs, rfl, Reads.none_, by simp, by simp, by simp [maxLen]⟩
  · injection hcs with hcs
    have hz' : zs.length = cc := by simpa using hz
    exact ⟨some x, l, cc, zs.take l, hcs, by simp; omega, reads_take (by omega) hcell, fun y hy => wf_i64 (hwz y (List.mem_of_mem_take hy)), hl, hm⟩
theorem int_cell {v : Value} {y : DataW H × List MemPlace} {fuel : Nat} (h : DataW.trod enc Try.prog W 0 (fun _ => true) true fuel 3 [v] = some y) : ∃ n, v = .int .i64 n ∧ Fits n := by
  obtain ⟨n, e, _, hw⟩ := DataW.trod_int Try.underlying3 h
  injection e with e
  exact ⟨n, e, wf_i64 hw⟩
theorem argT_of {base : Nat} {v : Value} {d : DataW H} {p : List MemPlace} (hv : Value.okWide Try.prog W .any base 63 v) (h : DataW.Trod enc Try.prog W 0 (fun _ => true) true 63 v d p) :
    ∃ k A n c t xs, v = .agg #[.int .i64 k, .slice A n c, .int .i64 t] ∧ ArgT W k A n c t xs := by
  obtain ⟨v0, v1, v2, y0, y1, y2, n, rfl, _, _, h0, h1, h2⟩ := open_agg3 Try.underlying63 (by kernel_rfl) (by kernel_rfl) hv h
  obtain ⟨k, rfl, hk⟩ := int_cell h0
  obtain ⟨A, m, c, xs, rfl, hx⟩ := argI_cell h1
  obtain ⟨t, rfl, ht⟩ := int_cell h2
  exact ⟨k, A, m, c, t, xs, rfl, hx, hk, ht⟩
/-- The items that a row of cells reads as. -/
theorem items_of {a : Addr} {m : Nat} (h : ∀ i, i < m → ∃ (k : Int) (A : Option Addr) (n c : Nat) (t : Int) (xs : List Int), W.cell? (a.add (i * 3)) = some (.int .i64 k) ∧ W.cell? (a.add (i * 3 + 1)) = some (.slice A n c) ∧ W.cell? (a.add (i * 3 + 2)) = some (.int .i64 t) ∧ ArgI W A n c xs ∧ Fits k ∧ Fits t) :
    ∃ l : List It, l.length = m ∧ ∀ k x, l[k]? = some x → ∃ Ak ck, W.cell? (a.add (k * 3)) = some (.int .i64 x.key) ∧ W.cell? (a.add (k * 3 + 1)) = some (.slice Ak x.pt.length ck) ∧ W.cell? (a.add (k * 3 + 2)) = some (.int .i64 x.tags) ∧ ArgI W Ak x.pt.length ck x.pt ∧ Fits x.key ∧ Fits x.tags := by
  induction m with
  | zero => exact ⟨[], rfl, fun k x hx => by simp at hx⟩
  | succ m ih =>
    obtain ⟨l, hl, hr⟩ := ih (fun i hi => h i (by omega))
    obtain ⟨k, A, n, c, t, xs, c0, c1, c2, ha, hk, ht⟩ := h m (by omega)
    refine ⟨l ++ [⟨k, xs, t⟩], by simp [hl], fun j x hx => ?_⟩
    rcases Nat.lt_or_ge j l.length with hj | hj
    · rw [List.getElem?_append_left hj] at hx
      exact hr j x hx
    · rw [List.getElem?_append_right hj] at hx
      have hj0 : j - l.length = 0 := by
        rcases Nat.eq_zero_or_pos (j - l.length) with h | h
        · exact h
        · rw [List.getElem?_eq_none (by simp; omega)] at hx; cases hx
      rw [hj0] at hx
      simp at hx
      subst hx
      obtain rfl : j = m := by omega
      obtain rfl := ha.len
      exact ⟨A, c, c0, c1, c2, ha, hk, ht⟩
theorem argS_of {a0 : Option Addr} {n c : Nat} {d : DataW H} {p : List MemPlace} (h : DataW.Trod enc Try.prog W 0 (fun _ => true) true 33 (.slice a0 n c) d p) : ∃ l, ArgS W a0 n c l := by
  obtain ⟨fuel, hf⟩ := h
  rcases open_rows Try.underlying33 Try.underlying63 (by kernel_rfl) (by kernel_rfl) hf with hcs | ⟨a, len, cap, m, hcs, hl, hm, hmm, hi⟩
  · simp [Value.cells] at hcs
    obtain ⟨rfl, rfl, rfl⟩ := hcs
    exact ⟨[], rfl, fun k x hx => by simp at hx, by simp, by simp [maxLen]⟩
  · simp [Value.cells] at hcs
    obtain ⟨rfl, rfl, rfl⟩ := hcs
    have hmc : m = c := by simpa using hmm
    subst hmc
    obtain ⟨l, hll, hr⟩ := items_of (W := W) (a := a) (m := n) (fun i hin => by
      obtain ⟨n', hj⟩ := hi i (by omega)
      obtain ⟨v0, y0, c0, t0⟩ := hj 0 _ rfl
      obtain ⟨v1, y1, c1, t1⟩ := hj 1 _ rfl
      obtain ⟨v2, y2, c2, t2⟩ := hj 2 _ rfl
      obtain ⟨k, rfl, hk⟩ := int_cell t0
      obtain ⟨A, nn, cc, xs, rfl, hx⟩ := argI_cell t1
      obtain ⟨t, rfl, ht⟩ := int_cell t2
      exact ⟨k, A, nn, cc, t, xs, c0, c1, c2, hx, hk, ht⟩)
    refine ⟨l, hll, fun k x hx => ?_, hl, hm⟩
    obtain ⟨Ak, ck, c0, c1, c2, r⟩ := hr k x hx
    have hb := World.block_lt_of_cell? W _ c0
    rw [block_of_add] at hb
    exact ⟨a, Ak, ck, rfl, hb, c0, c1, c2, r⟩
end
end Go.Proofs.Ytebiaodjodlloaa
