/- Arguments that are nodes: what they read as, their sizes, fresh copies of them. -/
import Derived.Test.YtebiaodjodlloaaTreeJ
import Derived.Test.YtebiaodjodlloaaSOpen
namespace Go.Proofs.Ytebiaodjodlloaa
set_option linter.unusedVariables false
set_option maxRecDepth 20000
open Go Go.ChangeShapes Go.WideShapes Go.ChangeAt Go.RowKit Go.Deep Go.Joins

/-- An argument of type []Node: its nodes l, however many. -/
structure ArgN (w : World) (A : Option Addr) (n c : Nat) (l : List Nd) : Prop where
  len : l.length = n
  row : ∀ k x, l[k]? = some x → ∃ ad, A = some ad ∧ ad.block < w.heap.size ∧ w.cell? (ad.add (k * 4)) = some (.int .i64 x.key) ∧ w.cell? (ad.add (k * 4 + 1)) = some (.int .i64 x.radius) ∧
    w.cell? (ad.add (k * 4 + 2)) = some (.int .i64 x.near) ∧ w.cell? (ad.add (k * 4 + 3)) = some (.int .i64 x.far) ∧ ∀ z ∈ nodeP.f x, Fits z
  cap : n ≤ c
  top : c ≤ maxLen
theorem podL_at {α : Type} (p : Pod α) : ∀ {l : List α} {j : Nat} {u : Value}, (podL p l)[j]? = some u → ∃ i r x, j = i * p.k + r ∧ l[i]? = some x ∧ (podV p x)[r]? = some u
  | [], j, u, h => by simp [podL] at h
  | x :: l, j, u, h => by
    rw [podL] at h
    by_cases hj : j < (podV p x).length
    · rw [List.getElem?_append_left hj] at h
      exact ⟨0, j, x, by omega, rfl, h⟩
    · rw [List.getElem?_append_right (by omega)] at h
      obtain ⟨i, r, y, e, h1, h2⟩ := podL_at p h
      rw [podV_len] at e hj
      refine ⟨i + 1, r, y, ?_, h1, h2⟩
      rw [Nat.succ_mul]; omega
theorem ArgN.rk {w : World} {A : Option Addr} {n c : Nat} {l : List Nd} (h : ArgN w A n c l) (hn : n ≤ 2000000) : RK nodeP w w.heap.size A l :=
  ⟨⟨podL_len _ _, fun h0 => by
      obtain ⟨ad, e, hb, _⟩ := h.row 0 _ (List.getElem?_eq_getElem h0)
      refine ⟨ad, e, hb, fun j u hu => ?_⟩
      obtain ⟨i, r, x, rfl, hi, hr⟩ := podL_at nodeP hu
      obtain ⟨ad', e', _, c0, c1, c2, c3, _⟩ := h.row i x hi
      rw [e] at e'; injection e' with e'; subst e'
      match r, hr with
      | 0, hr => simp [podV, nodeP] at hr; subst hr; exact c0
      | 1, hr => simp [podV, nodeP] at hr; subst hr; exact c1
      | 2, hr => simp [podV, nodeP] at hr; subst hr; exact c2
      | 3, hr => simp [podV, nodeP] at hr; subst hr; exact c3
      | r + 4, hr => simp [podV, nodeP] at hr⟩,
    fun x hx => by
      obtain ⟨k, hk⟩ := List.getElem?_of_mem hx
      obtain ⟨_, _, _, _, _, _, _, hf⟩ := h.row k x hk
      exact hf,
    by rw [h.len]; exact hn⟩
theorem RK.far {α : Type} {p : Pod α} {a b : World} {A : Option Addr} {l : List α} (h : RK p a a.heap.size A l) (hb : Below a.heap.size a b) : RK p b b.heap.size A l := h.grow hb
section
variable {H : Type} {enc : TypeId × Value → H} {W : World}
theorem nodes_of {a : Addr} {m : Nat} (h : ∀ i, i < m → ∃ k r n f : Int, W.cell? (a.add (i * 4)) = some (.int .i64 k) ∧ W.cell? (a.add (i * 4 + 1)) = some (.int .i64 r) ∧ W.cell? (a.add (i * 4 + 2)) = some (.int .i64 n) ∧ W.cell? (a.add (i * 4 + 3)) = some (.int .i64 f) ∧ Fits k ∧ Fits r ∧ Fits n ∧ Fits f) :
    ∃ l : List Nd, l.length = m ∧ ∀ k x, l[k]? = some x → W.cell? (a.add (k * 4)) = some (.int .i64 x.key) ∧ W.cell? (a.add (k * 4 + 1)) = some (.int .i64 x.radius) ∧ W.cell? (a.add (k * 4 + 2)) = some (.int .i64 x.near) ∧ W.cell? (a.add (k * 4 + 3)) = some (.int .i64 x.far) ∧ ∀ z ∈ nodeP.f x, Fits z := by
  induction m with
  | zero => exact ⟨[], rfl, fun k x hx => by simp at hx⟩
  | succ m ih =>
    obtain ⟨l, hl, hr⟩ := ih (fun i hi => h i (by omega))
    obtain ⟨k, r, n, f, c0, c1, c2, c3, h0, h1, h2, h3⟩ := h m (by omega)
    refine ⟨l ++ [⟨k, r, n, f⟩], by simp [hl], fun j x hx => ?_⟩
    rcases Nat.lt_or_ge j l.length with hj | hj
    · rw [List.getElem?_append_left hj] at hx
      exact hr j x hx
    · rw [List.getElem?_append_right hj] at hx
      have hj0 : j - l.length = 0 := by
        rcases Nat.eq_zero_or_pos (j - l.length) with h | h
        · exact h
        · rw [List.getElem?_eq_none (by simp; omega)] at hx; cases hx
      rw [hj0] at hx
      simp at hx
      subst hx
      obtain rfl : j = m := by omega
      exact ⟨c0, c1, c2, c3, fun z hz => by
        simp [nodeP] at hz
        rcases hz with rfl | rfl | rfl | rfl
        · exact h0
        · exact h1
        · exact h2
        · exact h3⟩
theorem argN_of {a0 : Option Addr} {n c : Nat} {d : DataW H} {p : List MemPlace} (h : DataW.Trod enc Try.prog W 0 (fun _ => true) true 32 (.slice a0 n c) d p) : ∃ l, ArgN W a0 n c l := by
  obtain ⟨fuel, hf⟩ := h
  rcases open_rows Try.underlying32 Try.underlying65 (by kernel_rfl) (by kernel_rfl) hf with hcs | ⟨a, len, cap, m, hcs, hl, hm, hmm, hi⟩
  · simp [Value.cells] at hcs
    obtain ⟨rfl, rfl, rfl⟩ := hcs
    exact ⟨[], rfl, fun k x hx => by simp at hx, by simp, by simp [maxLen]⟩
  · simp [Value.cells] at hcs
    obtain ⟨rfl, rfl, rfl⟩ := hcs
    have hmc : m = c := by simpa using hmm
    subst hmc
    obtain ⟨l, hll, hr⟩ := nodes_of (W := W) (a := a) (m := n) (fun i hin => by
      obtain ⟨n', hj⟩ := hi i (by omega)
      obtain ⟨v0, y0, c0, t0⟩ := hj 0 _ rfl
      obtain ⟨v1, y1, c1, t1⟩ := hj 1 _ rfl
      obtain ⟨v2, y2, c2, t2⟩ := hj 2 _ rfl
      obtain ⟨v3, y3, c3, t3⟩ := hj 3 _ rfl
      obtain ⟨k, rfl, hk⟩ := int_cell t0
      obtain ⟨r, rfl, hr⟩ := int_cell t1
      obtain ⟨ne, rfl, hne⟩ := int_cell t2
      obtain ⟨f, rfl, hf⟩ := int_cell t3
      exact ⟨k, r, ne, f, c0, c1, c2, c3, hk, hr, hne, hf⟩)
    refine ⟨l, hll, fun k x hx => ?_, hl, hm⟩
    obtain ⟨c0, c1⟩ := hr k x hx
    have hb := World.block_lt_of_cell? W _ c0
    rw [block_of_add] at hb
    exact ⟨a, rfl, hb, c0, c1⟩
end
theorem ArgN.grow {w w' : World} {A : Option Addr} {n c : Nat} {l : List Nd} (h : ArgN w A n c l) (hb : Grow w w') : ArgN w' A n c l :=
  ⟨h.len, fun k x hx => by
    obtain ⟨ad, e, hB, h0, h1, h2, h3, h4⟩ := h.row k x hx
    exact ⟨ad, e, Nat.lt_of_lt_of_le hB hb.size, (hb.cell (by rw [block_of_add]; exact hB)).trans h0, (hb.cell (by rw [block_of_add]; exact hB)).trans h1, (hb.cell (by rw [block_of_add]; exact hB)).trans h2, (hb.cell (by rw [block_of_add]; exact hB)).trans h3, h4⟩, h.cap, h.top⟩
theorem laws_szNodeS (A : Option Addr) (n c : Nat) (l : List Nd) (left : Int) (w : World) (h : ArgN w A n c l) (h0 : 0 ≤ left) (h1 : left ≤ 1048576) :
    Calls Try.prog 15 #[.slice A n c, .int .i64 left] w fun e w' => ∃ z, e = .returned (.int .i64 z) ∧ Left left z (RK nodeP w w.heap.size A l) ∧ Grow w w' := by
  have hn : n ≤ maxLen := Nat.le_trans h.cap h.top
  unfold maxLen at hn
  by_cases hlt : left < n
  · have h' : left - (n : Int) < 0 := by omega
    go_enter Try.func15, Try.ntmps15
    go_wp2
    go_ret
    exact ⟨-1, rfl, .inl (by omega), Grow.refl _⟩
  · have h' : ¬ left - (n : Int) < 0 := by omega
    go_enter Try.func15, Try.ntmps15
    go_wp2
    go_ret
    exact ⟨left - n, rfl, .inr ⟨by omega, by omega, h.rk (by omega)⟩, Grow.refl _⟩
set_option maxHeartbeats 800000 in
theorem laws_toNode (x : Nd) (w : World) :
    Calls Try.prog 48 #[.agg #[.int .i64 x.key, .int .i64 x.radius, .int .i64 x.near, .int .i64 x.far]] w fun e w' => e = .returned (.agg #[.int .i64 x.key, .int .i64 x.radius, .int .i64 x.near, .int .i64 x.far]) ∧ Grow w w' := by
  obtain ⟨k, r, n, f⟩ := x
  simp only
  obtain ⟨w0, hw0⟩ : ∃ w0, w0 = ((w.alloc (.cells #[.int .i64 k, .int .i64 r, .int .i64 n, .int .i64 f] 65)).alloc (.cells #[.int .i64 0, .int .i64 0, .int .i64 0, .int .i64 0] 30)).alloc (.cells #[.int .i64 k, .int .i64 r, .int .i64 n, .int .i64 f] 30) := ⟨_, rfl⟩
  have g0 : Grow w w0 := by rw [hw0]; exact (((Below.refl _ _).alloc (Nat.le_refl _) _).alloc (by simp) _).alloc (by simp; omega) _
  have b1 : Blk w0 (w.heap.size + 1) 30 #[.int .i64 0, .int .i64 0, .int .i64 0, .int .i64 0] := by
    rw [hw0]; have := (Blk.new (w.alloc (.cells #[.int .i64 k, .int .i64 r, .int .i64 n, .int .i64 f] 65)) 30 #[.int .i64 0, .int .i64 0, .int .i64 0, .int .i64 0]).alloc (.cells #[.int .i64 k, .int .i64 r, .int .i64 n, .int .i64 f] 30); simpa using this
  have b2 : Blk w0 (w.heap.size + 1 + 1) 30 #[.int .i64 k, .int .i64 r, .int .i64 n, .int .i64 f] := by
    rw [hw0]; have := Blk.new ((w.alloc (.cells #[.int .i64 k, .int .i64 r, .int .i64 n, .int .i64 f] 65)).alloc (.cells #[.int .i64 0, .int .i64 0, .int .i64 0, .int .i64 0] 30)) 30 #[.int .i64 k, .int .i64 r, .int .i64 n, .int .i64 f]; simpa using this
  have d0 := b1.cell 0
  have d1 := b1.cell 1
  have d2 := b1.cell 2
  have d3 := b1.cell 3
  have e0 := b1.frozen 0
  have e1 := b1.frozen 1
  have e2 := b1.frozen 2
  have e3 := b1.frozen 3
  have f0 : w0.cell? ⟨w.heap.size + 1 + 1, 0, none⟩ = some (.int .i64 k) := b2.cell 0
  have f1 : w0.cell? ⟨w.heap.size + 1 + 1, 1, none⟩ = some (.int .i64 r) := b2.cell 1
  have f2 : w0.cell? ⟨w.heap.size + 1 + 1, 2, none⟩ = some (.int .i64 n) := b2.cell 2
  have f3 : w0.cell? ⟨w.heap.size + 1 + 1, 3, none⟩ = some (.int .i64 f) := b2.cell 3
  have HW := Lib.hid hw0
  clear hw0
  go_enter Try.func48, Try.ntmps48
  go_upto_region 6 with fail
  rw [← HW.out]
  go_wp2_with fail
  refine bodyPost_ret (v := .agg #[.int .i64 k, .int .i64 r, .int .i64 n, .int .i64 f]) (by simp [results, Try.results48, go_sem, d0, d1, d2, d3]) rfl ⟨rfl, ?_⟩
  exact (((g0.setCell (p := ⟨w.heap.size + 1, 0, none⟩) (Nat.le_succ _) _).setCell (p := ⟨w.heap.size + 1, 1, none⟩) (Nat.le_succ _) _).setCell (p := ⟨w.heap.size + 1, 2, none⟩) (Nat.le_succ _) _).setCell (p := ⟨w.heap.size + 1, 3, none⟩) (Nat.le_succ _) _

theorem podN_zero (n : Nat) : (madeCells (Value.agg #[.int .i64 0, .int .i64 0, .int .i64 0, .int .i64 0]).cells (n * 4)).toList = podL nodeP (List.replicate n Nd.zero) := by
  apply List.ext_getElem?
  intro j
  have hl := podL_len nodeP (List.replicate n Nd.zero)
  rw [List.length_replicate] at hl
  have hl4 : (podL nodeP (List.replicate n Nd.zero)).length = n * 4 := hl
  by_cases hj : j < n * 4
  · obtain ⟨k, r, hr, rfl⟩ : ∃ k r, r < 4 ∧ j = k * 4 + r := ⟨j / 4, j % 4, Nat.mod_lt _ (by omega), by omega⟩
    have hk : (List.replicate n Nd.zero)[k]? = some Nd.zero := by rw [List.getElem?_replicate, if_pos (by omega)]
    have hm : (madeCells (Value.agg #[.int .i64 0, .int .i64 0, .int .i64 0, .int .i64 0]).cells (n * 4)).toList[k * 4 + r]? = some ((#[.int .i64 0, .int .i64 0, .int .i64 0, .int .i64 0] : Array Value)[(k * 4 + r) % 4]!) := by
      have : (Value.agg #[.int .i64 0, .int .i64 0, .int .i64 0, .int .i64 0]).cells = #[.int .i64 0, .int .i64 0, .int .i64 0, .int .i64 0] := rfl
      simp [madeCells, this, hj]
    have hmod : (k * 4 + r) % 4 = r := by omega
    rw [hm, hmod]
    match r, hr with
    | 0, _ => exact (podL_cell nodeP (j := 0) hk rfl).symm
    | 1, _ => exact (podL_cell nodeP (j := 1) hk rfl).symm
    | 2, _ => exact (podL_cell nodeP (j := 2) hk rfl).symm
    | 3, _ => exact (podL_cell nodeP (j := 3) hk rfl).symm
  · rw [List.getElem?_eq_none (by simp [madeCells]; omega), List.getElem?_eq_none (by omega)]
def mixN (l : List Nd) (k : Nat) : List Nd := l.take k ++ List.replicate (l.length - k) Nd.zero
theorem mixN_zero (l : List Nd) : mixN l 0 = List.replicate l.length Nd.zero := by simp [mixN]
theorem mixN_all (l : List Nd) : mixN l l.length = l := by simp [mixN]
theorem mixN_len {l : List Nd} {k : Nat} (hk : k ≤ l.length) : (mixN l k).length = l.length := by simp [mixN]; omega
theorem mixN_set {l : List Nd} {k : Nat} {x : Nd} (hx : l[k]? = some x) : (mixN l k).set k x = mixN l (k + 1) := by
  have hk : k < l.length := (List.getElem?_eq_some_iff.1 hx).1
  have e : l.length - k = (l.length - (k + 1)) + 1 := by omega
  have et : l.take (k + 1) = l.take k ++ [x] := by rw [List.take_add_one, hx]; rfl
  rw [mixN, mixN, e, List.replicate_succ, List.set_append_right _ _ (by simp; omega), et]
  simp [Nat.min_eq_left (Nat.le_of_lt hk)]
theorem OwnK.set4 {w : World} {lo hi g n c i : Nat} {l : List Nd} {x y : Nd} (h : OwnK nodeP w lo hi (.slice (some ⟨g, 0, none⟩) n c) l) (hn : n = l.length) (hx : l[i]? = some x) (hf : ∀ z ∈ nodeP.f y, Fits z) :
    OwnK nodeP ((((w.setCell ⟨g, i * 4, none⟩ (.int .i64 y.key)).setCell ⟨g, i * 4 + 1, none⟩ (.int .i64 y.radius)).setCell ⟨g, i * 4 + 2, none⟩ (.int .i64 y.near)).setCell ⟨g, i * 4 + 3, none⟩ (.int .i64 y.far)) lo hi (.slice (some ⟨g, 0, none⟩) n c) (l.set i y) := by
  obtain ⟨k, r, ne, f⟩ := y
  have hi' := (List.getElem?_eq_some_iff.1 hx).1
  have q0 : Fits k := hf k (by simp [nodeP])
  have q1 : Fits r := hf r (by simp [nodeP])
  have q2 : Fits ne := hf ne (by simp [nodeP])
  have q3 : Fits f := hf f (by simp [nodeP])
  have o1 := h.set_ (i := i) (j := 0) (x := x) (y := ⟨k, x.radius, x.near, x.far⟩) (z := k) hn hx (by show 0 < 4; omega) rfl q0
  have o2 := o1.set_ (i := i) (j := 1) (x := ⟨k, x.radius, x.near, x.far⟩) (y := ⟨k, r, x.near, x.far⟩) (z := r) (by rw [List.length_set]; exact hn) (by rw [List.getElem?_set_self hi']) (by show 1 < 4; omega) rfl q1
  rw [List.set_set] at o2
  have o3 := o2.set_ (i := i) (j := 2) (x := ⟨k, r, x.near, x.far⟩) (y := ⟨k, r, ne, x.far⟩) (z := ne) (by rw [List.length_set]; exact hn) (by rw [List.getElem?_set_self hi']) (by show 2 < 4; omega) rfl q2
  rw [List.set_set] at o3
  have o4 := o3.set_ (i := i) (j := 3) (x := ⟨k, r, ne, x.far⟩) (y := ⟨k, r, ne, f⟩) (z := f) (by rw [List.length_set]; exact hn) (by rw [List.getElem?_set_self hi']) (by show 3 < 4; omega) rfl q3
  rw [List.set_set] at o4
  exact o4
set_option maxHeartbeats 1600000 in
theorem laws_toNodeS (A : Option Addr) (c : Nat) (l : List Nd) (w : World) (h : RK nodeP w w.heap.size A l) :
    Calls Try.prog 18 #[.slice A l.length c] w fun e w' => ∃ v, e = .returned v ∧ OwnK nodeP w' w.heap.size w'.heap.size v l ∧ Grow w w' := by
  have hl := h.len
  obtain ⟨i0, hi0, hz0, hz1, hz2⟩ := info_parts info_node
  go_enter Try.func18, Try.ntmps18
  go_wp2_with (at_make; refine wpList_make_full _ rfl _ _ _ rfl w.heap.size 30 i0 _ 4 Try.underlying26 hi0 hz0 hz1 .i64 .i64 _ _ l.length rfl rfl rfl rfl (by rw [hz2]; omega) (by unfold maxLen; omega) (Nat.le_refl _) ?_; intro w1 hown1 hgr1)
  rw [podN_zero] at hown1
  have hb1 : Below w.heap.size w w1 := (Below.refl _ _).grown hgr1 (Nat.le_refl _) (by simp)
  have o1 : OwnK nodeP w1 w.heap.size w1.heap.size (.slice (some ⟨w.heap.size, 0, none⟩) l.length l.length) (List.replicate l.length Nd.zero) :=
    ⟨by rw [List.length_replicate]; exact hown1, fun g hg => (hown1.lt g hg).2, fun x hx => by rw [List.eq_of_mem_replicate hx]; simp [nodeP, Nd.zero, Fits], by simpa using hl⟩
  clear hgr1 hown1
  go_loopw [4] (fun i wr => ∃ k : Nat, k ≤ l.length ∧ i = .int .i64 k ∧ OwnK nodeP wr w.heap.size wr.heap.size (.slice (some ⟨w.heap.size, 0, none⟩) l.length l.length) (mixN l k) ∧ Below w.heap.size w wr) (fun i _ => l.length - (intOf i).toNat)
  case atStart => exact ⟨0, Nat.zero_le _, rfl, by rw [mixN_zero]; exact o1, hb1⟩
  case round =>
    clear o1 hb1
    obtain ⟨k, hk, rfl, hown, hb⟩ := hrel
    have hpl := mixN_len hk
    have hsz := hb.size
    by_cases hlt : k < l.length
    · obtain ⟨ad, x, rfl, had, c0, c1, c2, c3, hf, hx⟩ := (h.below hb).nd hlt
      have hl2 : k + 1 ≤ l.length := by omega
      obtain ⟨y, hy⟩ : ∃ y, (mixN l k)[k]? = some y := ⟨_, List.getElem?_eq_getElem (by omega)⟩
      have HL := Lib.hid hpl
      clear hpl
      go_wp2_with fail
      refine (laws_toNode x _).mono ?_; rintro e w3 ⟨rfl, g3⟩
      have hown3 := hown.grow g3
      have z0 := hown3.cellAt (i := k) (j := 0) HL.out.symm hy rfl
      have z1 := hown3.cellAt (i := k) (j := 1) HL.out.symm hy rfl
      have z2 := hown3.cellAt (i := k) (j := 2) HL.out.symm hy rfl
      have z3 := hown3.cellAt (i := k) (j := 3) HL.out.symm hy rfl
      have f0 := hown3.frozenAt (k * 4) HL.out.symm
      have f1 := hown3.frozenAt (k * 4 + 1) HL.out.symm
      have f2 := hown3.frozenAt (k * 4 + 2) HL.out.symm
      have f3 := hown3.frozenAt (k * 4 + 3) HL.out.symm
      have hset := hown3.set4 HL.out.symm hy hf
      rw [mixN_set hx.out] at hset
      have hb3 := below_grow hb g3 hsz
      have hbW : Below w.heap.size w ((((w3.setCell ⟨w.heap.size, k * 4, none⟩ (.int .i64 x.key)).setCell ⟨w.heap.size, k * 4 + 1, none⟩ (.int .i64 x.radius)).setCell ⟨w.heap.size, k * 4 + 2, none⟩ (.int .i64 x.near)).setCell ⟨w.heap.size, k * 4 + 3, none⟩ (.int .i64 x.far)) :=
        (((hb3.setCell (p := ⟨w.heap.size, k * 4, none⟩) (Nat.le_refl _) _).setCell (p := ⟨w.heap.size, k * 4 + 1, none⟩) (Nat.le_refl _) _).setCell (p := ⟨w.heap.size, k * 4 + 2, none⟩) (Nat.le_refl _) _).setCell (p := ⟨w.heap.size, k * 4 + 3, none⟩) (Nat.le_refl _) _
      simp only [nodeP, Nat.add_zero] at z0 z1 z2 z3
      clear hy hown hown3
      go_wp2_with fail
      go_roundw
      case rel => exact ⟨k + 1, by omega, by go_num, hset.up, hbW⟩
      case measure => simp [intOf]; omega
    · obtain rfl : k = l.length := by omega
      go_wp2_with fail
      go_ret
      exact ⟨_, rfl, by rw [mixN_all] at hown; exact hown, hb⟩
end Go.Proofs.Ytebiaodjodlloaa
