/- Rows of rows of integers, owned whole; the laws' helpers on them: sizes, copies, comparing, marks. -/
import Derived.Test.YtbbiffaggnllnaaSMark
import Derived.Test.YtbbiffaggnllnaaSAid
import Derived.Test.YtbbiffaggnllnaaDrawR
namespace Go.Proofs.Ytbbiffaggnllnaa
set_option linter.unusedVariables false
set_option maxRecDepth 20000
open Go Go.ChangeShapes Go.WideShapes Go.ChangeAt Go.RowKit Go.Deep Go.Joins

/-- An argument of type [][]int: its rows l, however long. -/
structure ArgR (w : World) (A : Option Addr) (n c : Nat) (l : List (List Int)) : Prop where
  len : l.length = n
  row : ∀ k r, l[k]? = some r → ∃ ad Ak ck, A = some ad ∧ ad.block < w.heap.size ∧ w.cell? (ad.add k) = some (.slice Ak r.length ck) ∧ ArgI w Ak r.length ck r
  cap : n ≤ c
  top : c ≤ maxLen
theorem ArgR.rr {w : World} {A : Option Addr} {n c : Nat} {l : List (List Int)} (h : ArgR w A n c l) (hn : n ≤ 2000000) (hp : ∀ (k : Nat) (r : List Int), l[k]? = some r → r.length ≤ 2000000) : RR w w.heap.size A l :=
  ⟨fun k r hr => by
    obtain ⟨ad, Ak, ck, e, hB, h1, h3⟩ := h.row k r hr
    exact ⟨ad, Ak, ck, e, hB, h1, h3.cap, h3.top, h3.ri (hp k r hr)⟩, by rw [h.len]; exact hn⟩
theorem ArgR.at_ {w : World} {A : Option Addr} {n c : Nat} {l : List (List Int)} (h : ArgR w A n c l) {k : Nat} (hk : k < n) : ∃ ad Ak ck r, A = some ad ∧ w.cell? (ad.add k) = some (.slice Ak r.length ck) ∧ r.length ≤ maxLen ∧ Hid (l[k]? = some r) := by
  have hk' : k < l.length := by rw [h.len]; exact hk
  obtain ⟨ad, Ak, ck, e, hB, h1, h3⟩ := h.row k _ (List.getElem?_eq_getElem hk')
  exact ⟨ad, Ak, ck, _, e, h1, Nat.le_trans h3.cap h3.top, Lib.hid (List.getElem?_eq_getElem hk')⟩
section
variable {H : Type} {enc : TypeId × Value → H} {W : World}
theorem rows_of {a : Addr} {m : Nat} (h : ∀ i, i < m → ∃ (A : Option Addr) (n c : Nat) (xs : List Int), W.cell? (a.add i) = some (.slice A n c) ∧ ArgI W A n c xs) :
    ∃ l : List (List Int), l.length = m ∧ ∀ k r, l[k]? = some r → ∃ Ak ck, W.cell? (a.add k) = some (.slice Ak r.length ck) ∧ ArgI W Ak r.length ck r := by
  induction m with
  | zero => exact ⟨[], rfl, fun k x hx => by simp at hx⟩
  | succ m ih =>
    obtain ⟨l, hl, hr⟩ := ih (fun i hi => h i (by omega))
    obtain ⟨A, n, c, xs, c1, ha⟩ := h m (by omega)
    refine ⟨l ++ [xs], by simp [hl], fun j x hx => ?_⟩
    rcases Nat.lt_or_ge j l.length with hj | hj
    · rw [List.getElem?_append_left hj] at hx
      exact hr j x hx
    · rw [List.getElem?_append_right hj] at hx
      have hj0 : j - l.length = 0 := by
        rcases Nat.eq_zero_or_pos (j - l.length) with h | h
        · exact h
        · rw [List.getElem?_eq_none (by simp; omega)] at hx; cases hx
      rw [hj0] at hx
      simp at hx
      subst hx
      obtain rfl : j = m := by omega
      obtain rfl := ha.len
      exact ⟨A, c, c1, ha⟩
theorem argR_of {a0 : Option Addr} {n c : Nat} {d : DataW H} {p : List MemPlace} (h : DataW.Trod enc Try.prog W 0 (fun _ => true) true 76 (.slice a0 n c) d p) : ∃ l, ArgR W a0 n c l := by
  obtain ⟨fuel, hf⟩ := h
  rcases open_slice1 Try.underlying76 (by kernel_rfl) hf with ⟨hcs, _⟩ | ⟨a, len, cap, m, n', V, D, Pl, hcs, hb, hl, hm, hmm, hx, hi⟩
  · simp [Value.cells] at hcs
    obtain ⟨rfl, rfl, rfl⟩ := hcs
    exact ⟨[], rfl, fun k x hx => by simp at hx, by simp, by simp [maxLen]⟩
  · simp [Value.cells] at hcs
    obtain ⟨rfl, rfl, rfl⟩ := hcs
    have hmc : m = c := by simpa using hmm
    subst hmc
    obtain ⟨l, hll, hr⟩ := rows_of (W := W) (a := a) (m := n) (fun i hin => by
      obtain ⟨c1, t1⟩ := hi i (by omega)
      obtain ⟨A, nn, cc, xs, e, hx⟩ := argI_cell t1
      rw [e] at c1
      exact ⟨A, nn, cc, xs, c1, hx⟩)
    refine ⟨l, hll, fun k x hx => ?_, hl, hm⟩
    obtain ⟨Ak, ck, c1, r⟩ := hr k x hx
    have hb := World.block_lt_of_cell? W _ c1
    rw [block_of_add] at hb
    exact ⟨a, Ak, ck, rfl, hb, c1, r⟩
end

/-! ### Owned rows of rows -/
structure OwnRP (w : World) (lo hi : Nat) (v : Value) (p : List (List Int × Value)) : Prop where
  own : w.ownsRow lo 24 1 v p.length (p.map Prod.snd)
  top : ∀ g, v.ownBlock = some g → g < hi
  pts : ∀ q ∈ p, OwnI w lo hi q.2 q.1
  apart : p.Pairwise fun a b => ∀ g, a.2.ownBlock = some g → b.2.ownBlock ≠ some g
  len : p.length ≤ 2000000
def OwnR (w : World) (lo hi : Nat) (v : Value) (l : List (List Int)) : Prop := ∃ p, p.map Prod.fst = l ∧ OwnRP w lo hi v p
theorem rpair_at {p : List (List Int × Value)} {l : List (List Int)} (e : p.map Prod.fst = l) {k : Nat} {x : List Int} (h : l[k]? = some x) : ∃ u, p[k]? = some (x, u) := by
  subst e
  rw [List.getElem?_map] at h
  cases e : p[k]? with
  | none => rw [e] at h; cases h
  | some q => rw [e] at h; obtain ⟨a, b⟩ := q; simp at h; subst h; exact ⟨b, rfl⟩
theorem rpairwise_set {p : List (List Int × Value)} {k : Nat} {z : List Int × Value} (h : p.Pairwise fun a b => ∀ g, a.2.ownBlock = some g → b.2.ownBlock ≠ some g) (hz : ∀ (j : Nat) (q : List Int × Value), p[j]? = some q → j ≠ k → ∀ g, q.2.ownBlock = some g → z.2.ownBlock ≠ some g) :
    (p.set k z).Pairwise fun a b => ∀ g, a.2.ownBlock = some g → b.2.ownBlock ≠ some g := by
  rw [List.pairwise_iff_getElem] at h ⊢
  intro i j hi hj hij g h1 h2
  simp only [List.length_set] at hi hj
  rw [List.getElem_set] at h1 h2
  by_cases e1 : k = i
  · rw [if_pos e1] at h1
    rw [if_neg (by omega)] at h2
    exact hz j _ (List.getElem?_eq_getElem hj) (by omega) g h2 h1
  · rw [if_neg e1] at h1
    by_cases e2 : k = j
    · rw [if_pos e2] at h2
      exact hz i _ (List.getElem?_eq_getElem hi) (by omega) g h1 h2
    · rw [if_neg e2] at h2
      exact h i j hi hj hij g h1 h2
section
variable {w w' : World} {lo hi lo' hi' : Nat} {v : Value} {p : List (List Int × Value)} {l : List (List Int)}
theorem OwnRP.turn (h : OwnRP w lo hi v p) (ht : Turn lo' hi' w w') (hd : hi ≤ lo' ∨ hi' ≤ lo) : OwnRP w' lo hi v p :=
  ⟨ownsRow_of_block h.own (fun g hg => by have := h.own.lt g hg; have := h.top g hg; exact ht.block g (by omega) (by omega)), h.top, fun q hq => (h.pts q hq).turn ht hd, h.apart, h.len⟩
theorem OwnRP.rr (h : OwnRP w lo hi v p) (ht : hi ≤ w.heap.size) : ∃ A c, v = .slice A p.length c ∧ p.length ≤ c ∧ c ≤ maxLen ∧ RR w w.heap.size A (p.map Prod.fst) := by
  rcases h.own.2 with ⟨rfl, h0⟩ | ⟨g, cap, cur, rfl, hb, hg, hn, hm, hs, _⟩
  · have e : p = [] := List.eq_nil_of_length_eq_zero h0
    subst e
    exact ⟨none, 0, rfl, by simp, by simp [maxLen], ⟨fun k r hk => by simp at hk, by simp⟩⟩
  · refine ⟨_, cap, rfl, hn, hm, ⟨fun k x hx => ?_, by simpa using h.len⟩⟩
    obtain ⟨u, hu⟩ := rpair_at rfl hx
    have hus : (p.map Prod.snd)[k]? = some u := by rw [List.getElem?_map, hu]; rfl
    have hq := List.mem_of_getElem? hu
    obtain ⟨Ak, ck, e, h1, h2, h3⟩ := (h.pts _ hq).open_
    simp only at e
    subst e
    have hc := h.own.cells (g := g) rfl k _ hus
    exact ⟨_, Ak, ck, rfl, (Array.getElem?_eq_some_iff.1 hg).1, hc, h1, h2, h3⟩
theorem OwnRP.up (h : OwnRP w lo hi v p) : OwnRP w lo w.heap.size v p :=
  ⟨h.own, fun g hg => (h.own.lt g hg).2, fun q hq => ⟨(h.pts q hq).own, fun g hg => ((h.pts q hq).lt g hg).2, (h.pts q hq).fit, (h.pts q hq).len⟩, h.apart, h.len⟩
theorem OwnR.open_ (h : OwnR w lo hi v l) : ∃ A c, v = .slice A l.length c ∧ l.length ≤ c ∧ c ≤ maxLen ∧ RR w w.heap.size A l := by
  obtain ⟨p, rfl, h⟩ := h
  simpa using h.up.rr (Nat.le_refl _)
theorem OwnR.ri {A : Option Addr} {n c : Nat} (h : OwnR w lo hi (.slice A n c) l) : RR w w.heap.size A l := by
  obtain ⟨A', c', e, _, _, hr⟩ := h.open_
  injection e with e1
  subst e1
  exact hr
theorem OwnR.turn (h : OwnR w lo hi v l) (ht : Turn lo' hi' w w') (hd : hi ≤ lo' ∨ hi' ≤ lo) : OwnR w' lo hi v l := by
  obtain ⟨p, e, h⟩ := h; exact ⟨p, e, h.turn ht hd⟩
theorem OwnR.grow (h : OwnR w lo hi v l) (hg : Grow w w') : OwnR w' lo hi v l := h.turn (hg.turn 0 0) (.inr (Nat.zero_le _))
theorem OwnR.len (h : OwnR w lo hi v l) : l.length ≤ 2000000 := by obtain ⟨p, rfl, h⟩ := h; simpa using h.len
theorem OwnRP.form {A : Option Addr} {n c : Nat} (h : OwnRP w lo hi (.slice A n c) p) (hn : 0 < p.length) : ∃ g, A = some ⟨g, 0, none⟩ ∧ n = p.length ∧ lo ≤ g ∧ g < hi ∧ g < w.heap.size := by
  rcases h.own.2 with ⟨_, h0⟩ | ⟨g, cap, cur, hv, hb, hg, _⟩
  · omega
  · injection hv with e1 e2 e3
    subst e1
    exact ⟨g, rfl, e2, hb, h.top g rfl, (Array.getElem?_eq_some_iff.1 hg).1⟩
theorem OwnRP.not_own {g n c : Nat} (h : OwnRP w lo hi (.slice (some ⟨g, 0, none⟩) n c) p) {a b : Nat} {u : Value} {xs : List Int} (o : OwnI w a b u xs) : ∀ k, u.ownBlock = some k → k ≠ g := by
  intro k hk e
  subst e
  exact own_apart o.own h.own (by decide) _ hk (by simp [Value.ownBlock])
theorem OwnRP.cell_ {g n c : Nat} (h : OwnRP w lo hi (.slice (some ⟨g, 0, none⟩) n c) p) (hn : n = p.length) {k : Nat} {x : List Int} {u : Value} (hk : p[k]? = some (x, u)) :
    w.cell? ⟨g, k, none⟩ = some u ∧ w.frozen? ⟨g, k, none⟩ = false := by
  subst hn
  have hus : (p.map Prod.snd)[k]? = some u := by rw [List.getElem?_map, hk]; rfl
  have hp := (List.getElem?_eq_some_iff.1 hk).1
  exact ⟨(h.own.cellAt _ (by omega)).trans hus, h.own.frozenAt _⟩
theorem OwnRP.setRow {g n c : Nat} (h : OwnRP w lo hi (.slice (some ⟨g, 0, none⟩) n c) p) (hn : n = p.length) {k : Nat} {q : List Int × Value} (hk : p[k]? = some q) {x : List Int} {u : Value} (hu : OwnI w hi w.heap.size u x) (hle : hi ≤ w.heap.size) :
    OwnRP (w.setCell ⟨g, k, none⟩ u) lo w.heap.size (.slice (some ⟨g, 0, none⟩) n c) (p.set k (x, u)) := by
  subst hn
  have hlo : lo ≤ hi := by
    have hp := (List.getElem?_eq_some_iff.1 hk).1
    obtain ⟨g', _, _, h1, h2, _⟩ := h.form (by omega)
    omega
  refine ⟨?_, fun a ha => Nat.lt_of_lt_of_le (h.top a ha) hle, fun q hq => ?_, rpairwise_set h.apart fun j q hj _ a h1 h2 => ?_, by simpa using h.len⟩
  · have s1 := (h.own.stored k u).1
    rw [List.length_set, List.map_set]
    exact s1
  · rcases List.mem_or_eq_of_mem_set hq with hq | rfl
    · exact ((h.pts q hq).setFar (h.not_own (h.pts q hq))).lower (Nat.le_refl _) hle
    · exact (hu.setFar (h.not_own hu)).lower hlo (Nat.le_refl _)
  · have a1 := (h.pts q (List.mem_of_getElem? hj)).top a h1
    have a2 := (hu.lt a h2).1
    omega
theorem OwnRP.other_of {g n c k : Nat} {q : List Int × Value} (h : OwnRP w lo hi (.slice (some ⟨g, 0, none⟩) n c) p) (hk : p[k]? = some q) {i : Nat} {z : List Int × Value} (hi : p[i]? = some z) (hne : i ≠ k) {a : Nat} (h1 : z.2.ownBlock = some a) : q.2.ownBlock ≠ some a := fun h2 => by
  rcases Nat.lt_trichotomy i k with hlt | he | hgt
  · have := (List.pairwise_iff_getElem.1 h.apart) i k (List.getElem?_eq_some_iff.1 hi).1 (List.getElem?_eq_some_iff.1 hk).1 hlt a
    rw [(List.getElem?_eq_some_iff.1 hi).2, (List.getElem?_eq_some_iff.1 hk).2] at this
    exact this h1 h2
  · exact hne he
  · have := (List.pairwise_iff_getElem.1 h.apart) k i (List.getElem?_eq_some_iff.1 hk).1 (List.getElem?_eq_some_iff.1 hi).1 hgt a
    rw [(List.getElem?_eq_some_iff.1 hi).2, (List.getElem?_eq_some_iff.1 hk).2] at this
    exact this h2 h1
theorem OwnRP.setPt {g n c k : Nat} {q : List Int × Value} (h : OwnRP w lo hi (.slice (some ⟨g, 0, none⟩) n c) p) (hk : p[k]? = some q) {a b : Nat} (ht : Turn a b w w') (hw : ∀ r, a ≤ r → r < b → q.2.ownBlock = some r) {ys : List Int} (ho : OwnI w' a b q.2 ys) :
    OwnRP w' lo hi (.slice (some ⟨g, 0, none⟩) n c) (p.set k (ys, q.2)) := by
  have hkl := (List.getElem?_eq_some_iff.1 hk).1
  have hoq := h.pts q (List.mem_of_getElem? hk)
  have stay : ∀ r, r < w.heap.size → q.2.ownBlock ≠ some r → w'.heap[r]? = w.heap[r]? := fun r hr hne => by
    refine ht.block r hr ?_
    rcases Nat.lt_or_ge r a with h1 | h1
    · exact .inl h1
    · rcases Nat.lt_or_ge r b with h2 | h2
      · exact absurd (hw r h1 h2) hne
      · exact .inr h2
  have hfl : (p.set k (ys, q.2)).map Prod.snd = p.map Prod.snd := by
    apply List.ext_getElem?
    intro j
    rw [List.map_set, List.getElem?_set]
    split
    · rename_i e
      subst e
      rw [List.getElem?_map, hk, List.length_map, if_pos hkl]; rfl
    · rfl
  refine ⟨?_, h.top, fun z hz => ?_, rpairwise_set h.apart fun i z hi hne r h1 => h.other_of hk hi hne h1, by simpa using h.len⟩
  · rw [hfl, List.length_set]
    exact ownsRow_of_block h.own fun r hr => stay r (h.own.lt r hr).2 fun e => own_apart hoq.own h.own (by decide) r e hr
  · obtain ⟨i, hi⟩ := List.getElem?_of_mem hz
    rw [List.getElem?_set] at hi
    split at hi
    · rename_i e
      subst e
      injection hi with hi
      subst hi
      refine ⟨⟨ho.own.1, ?_⟩, hoq.top, ho.fit, ho.len⟩
      rcases ho.own.2 with h0 | ⟨r, cap, cur, hv, hr, rest⟩
      · exact .inl h0
      · exact .inr ⟨r, cap, cur, hv, (hoq.lt r (by rw [hv]; simp [Value.ownBlock])).1, rest⟩
    · rename_i e
      have oz := h.pts z (List.mem_of_getElem? hi)
      exact oz.still fun r hr => stay r (oz.lt r hr).2 (h.other_of hk hi (fun e2 => e e2.symm) hr)
theorem OwnRP.zeros {n : Nat} (h : w.ownsRow lo 24 1 v n (List.replicate n (.slice none 0 0))) (hn : n ≤ 2000000) : OwnRP w lo w.heap.size v (List.replicate n (([] : List Int), Value.slice none 0 0)) :=
  ⟨by simpa using h, fun g hg => (h.lt g hg).2, fun q hq => by rw [List.eq_of_mem_replicate hq]; exact OwnI.nil_, by
    rw [List.pairwise_replicate]; right; intro g hg; simp [Value.ownBlock] at hg, by simpa using hn⟩
end
theorem RR.short {w : World} {B : Nat} {A : Option Addr} {l : List (List Int)} (h : RR w B A l) : ∀ (j : Nat) (x : List Int), l[j]? = some x → x.length ≤ 2000000 := fun j x hx => by
  obtain ⟨_, _, _, _, _, _, _, _, hr⟩ := h.row j x hx
  exact hr.len
theorem RR.far {w w' : World} {A : Option Addr} {l : List (List Int)} (h : RR w w.heap.size A l) (hb : Below w.heap.size w w') : RR w' w'.heap.size A l := (h.keep hb).more hb.size

/-! ### The laws' helpers -/
def ShortR (l : List (List Int)) (k : Nat) : Prop := ∀ (j : Nat) (x : List Int), j < k → l[j]? = some x → x.length ≤ 1048576
theorem ShortR.zero {l : List (List Int)} : ShortR l 0 := fun j x hj => absurd hj (by omega)
theorem ShortR.succ {l : List (List Int)} {k : Nat} {x : List Int} (h : ShortR l k) (hx : l[k]? = some x) (hs : x.length ≤ 1048576) : ShortR l (k + 1) := fun j y hj hy => by
  rcases Nat.lt_succ_iff_lt_or_eq.1 hj with hj | rfl
  · exact h j y hj hy
  · rw [hx] at hy; injection hy with hy; rw [← hy]; exact hs
theorem ArgR.rr_of {w : World} {A : Option Addr} {n c : Nat} {l : List (List Int)} (h : ArgR w A n c l) (hn : n ≤ 1048576) (hs : ShortR l n) : RR w w.heap.size A l :=
  h.rr (by omega) (fun k x hx => by have := hs k x (by have := (List.getElem?_eq_some_iff.1 hx).1; rw [h.len] at this; exact this) hx; omega)
set_option maxHeartbeats 800000 in
theorem laws_szIntSS (A : Option Addr) (n c : Nat) (l : List (List Int)) (left : Int) (w : World) (h : ArgR w A n c l) (h0 : 0 ≤ left) (h1 : left ≤ 1048576) :
    Calls Try.prog 73 #[.slice A n c, .int .i64 left] w fun e w' => ∃ z, e = .returned (.int .i64 z) ∧ Left left z (RR w w.heap.size A l) ∧ Grow w w' := by
  have hn : n ≤ maxLen := Nat.le_trans h.cap h.top
  unfold maxLen at hn
  by_cases hlt : left < n
  · have h' : left - (n : Int) < 0 := by omega
    go_enter Try.func73, Try.ntmps73
    go_wp2
    go_ret
    exact ⟨-1, rfl, .inl (by omega), Grow.refl _⟩
  · have h' : ¬ left - (n : Int) < 0 := by omega
    have hn2 : n ≤ 1048576 := by omega
    go_enter Try.func73, Try.ntmps73
    go_wp2_with fail
    go_loop [1, 5] (fun v i => ∃ (k : Nat) (z : Int), k ≤ n ∧ i = .int .i64 k ∧ v = .int .i64 z ∧ 0 ≤ z ∧ z ≤ left ∧ ShortR l k) (fun _ i => n - (intOf i).toNat)
    case atStart => exact ⟨0, left - n, Nat.zero_le _, rfl, rfl, by omega, by omega, ShortR.zero⟩
    case round =>
      obtain ⟨k, z, hk, rfl, rfl, z0, z1, hs⟩ := hrel
      have HS := Lib.hid hs
      clear hs
      by_cases hkn : k < n
      · obtain ⟨ad, Ak, ck, x, rfl, c1, hxl, hx⟩ := h.at_ hkn
        have hk2 : k + 1 ≤ n := by omega
        go_wp2_with fail
        refine (laws_szIntS Ak x.length ck z _ hxl z0 (by omega)).mono ?_; rintro e w1 ⟨y, rfl, hy, rfl⟩
        rcases hy with hy | ⟨y0, y1, hq⟩
        · go_wp2_with fail
          go_ret
          exact ⟨-1, rfl, .inl (by omega), Grow.refl _⟩
        · go_wp2_with fail
          go_round
          case rel => exact ⟨k + 1, y, by omega, by go_num, rfl, y0, by omega, HS.out.succ hx.out hq⟩
          case measure => simp [intOf]; omega
      · obtain rfl : k = n := by omega
        go_wp2_with fail
        go_ret
        exact ⟨z, rfl, .inr ⟨z0, z1, h.rr_of hn2 HS.out⟩, Grow.refl _⟩

set_option maxHeartbeats 1600000 in
theorem laws_eqIntSS_same (A B : Option Addr) (c d : Nat) (l : List (List Int)) (w : World) (hx : RR w w.heap.size A l) (hy : RR w w.heap.size B l) :
    Calls Try.prog 77 #[.slice A l.length c, .slice B l.length d] w fun e w' => e = .returned (.bool true) ∧ Grow w w' := by
  have hl := hx.len
  have hn := eqT_ne (l.length : Int)
  go_enter Try.func77, Try.ntmps77
  go_wp2_with fail
  go_loopw [5] (fun i wr => ∃ k : Nat, k ≤ l.length ∧ i = .int .i64 k ∧ Grow w wr) (fun i _ => l.length - (intOf i).toNat)
  case atStart => exact ⟨0, Nat.zero_le _, rfl, Grow.refl _⟩
  case round =>
    obtain ⟨k, hk, rfl, hg⟩ := hrel
    have hX := hx.grow hg
    have hY := hy.grow hg
    by_cases hlt : k < l.length
    · obtain ⟨ad, Ak, ck, x, rfl, had, c1, _, _, hri, hxk⟩ := hX.at_ hlt
      obtain ⟨bd, Bk, dk, y, rfl, hbd, d1, _, _, hrj, hyk⟩ := hY.at_ hlt
      obtain rfl : y = x := by have a := hxk.out; rw [hyk.out] at a; injection a
      have hba : (ad.add k).block = ad.block := block_of_add _ _
      have hbb : (bd.add k).block = bd.block := block_of_add _ _
      have e1 : ∀ s : From wr, s.w.cell? (ad.add k) = some (.slice Ak y.length ck) := fun s => (s.cell (by rw [hba]; exact had)).trans c1
      have f1 : ∀ s : From wr, s.w.cell? (bd.add k) = some (.slice Bk y.length dk) := fun s => (s.cell (by rw [hbb]; exact hbd)).trans d1
      have HC := fun s : From wr => From.call (laws_eqIntS_same Ak Bk ck dk y s.w (hri.grow s.g) (hrj.grow s.g))
      have hl2 : k + 1 ≤ l.length := by omega
      clear hba hbb c1 d1 hX hY
      go_wp2_with fail
      refine wp_region_from (by kernel_rfl) (by kernel_rfl) ?_
      repeat (go_big_quiet_step (exact HC _))
      refine wpQuiet_nil ?_
      intro w2 g2
      go_wp2_with fail
      go_roundw
      case rel => exact ⟨k + 1, by omega, by go_num, hg.trans g2⟩
      case measure => simp [intOf]; omega
    · obtain rfl : k = l.length := by omega
      go_wp2
      go_ret
      exact ⟨rfl, hg⟩

def mixR (l : List (List Int)) (k : Nat) : List (List Int) := l.take k ++ List.replicate (l.length - k) []
theorem mixR_zero (l : List (List Int)) : mixR l 0 = List.replicate l.length [] := by simp [mixR]
theorem mixR_all (l : List (List Int)) : mixR l l.length = l := by simp [mixR]
theorem mixR_len {l : List (List Int)} {k : Nat} (hk : k ≤ l.length) : (mixR l k).length = l.length := by simp [mixR]; omega
theorem mixR_set {l : List (List Int)} {k : Nat} {x : List Int} (hx : l[k]? = some x) : (mixR l k).set k x = mixR l (k + 1) := by
  have hk : k < l.length := (List.getElem?_eq_some_iff.1 hx).1
  have e : l.length - k = (l.length - (k + 1)) + 1 := by omega
  have et : l.take (k + 1) = l.take k ++ [x] := by rw [List.take_add_one, hx]; rfl
  rw [mixR, mixR, e, List.replicate_succ, List.set_append_right _ _ (by simp; omega), et]
  simp [Nat.min_eq_left (Nat.le_of_lt hk)]
theorem rows_start (n : Nat) : (madeCells (Value.slice none 0 0).cells (n * 1)).toList = List.replicate n (Value.slice none 0 0) := by
  rw [Nat.mul_one]; exact toList_madeCells_one _ _
set_option maxHeartbeats 1600000 in
theorem laws_toIntSS (A : Option Addr) (c : Nat) (l : List (List Int)) (w : World) (h : RR w w.heap.size A l) :
    Calls Try.prog 75 #[.slice A l.length c] w fun e w' => ∃ v, e = .returned v ∧ OwnR w' w.heap.size w'.heap.size v l ∧ Grow w w' := by
  have hl := h.len
  obtain ⟨i0, hi0, hz0, hz1, hz2⟩ := info_parts info_ints
  go_enter Try.func75, Try.ntmps75
  go_wp2_with (at_make; refine wpList_make_full _ rfl _ _ _ rfl w.heap.size 24 i0 _ 1 Try.underlying76 hi0 hz0 hz1 .i64 .i64 _ _ l.length rfl rfl rfl rfl (by rw [hz2]; omega) (by unfold maxLen; omega) (Nat.le_refl _) ?_; intro w1 hown1 hgr1)
  rw [rows_start] at hown1
  have hb1 : Below w.heap.size w w1 := (Below.refl _ _).grown hgr1 (Nat.le_refl _) (by simp)
  have o1 := OwnRP.zeros hown1 hl
  clear hgr1 hown1
  go_loopw [4] (fun i wr => ∃ (k : Nat) (p : List (List Int × Value)), k ≤ l.length ∧ i = .int .i64 k ∧ p.map Prod.fst = mixR l k ∧ OwnRP wr w.heap.size wr.heap.size (.slice (some ⟨w.heap.size, 0, none⟩) l.length l.length) p ∧ Below w.heap.size w wr) (fun i _ => l.length - (intOf i).toNat)
  case atStart => exact ⟨0, _, Nat.zero_le _, rfl, by simp [mixR_zero], o1, hb1⟩
  case round =>
    clear o1 hb1
    obtain ⟨k, p, hk, rfl, hp, hown, hb⟩ := hrel
    have hpl : p.length = l.length := by have := congrArg List.length hp; rwa [List.length_map, mixR_len hk] at this
    have HP := Lib.hid hp
    have HL := Lib.hid hpl
    clear hp hpl
    have hsz := hb.size
    by_cases hlt : k < l.length
    · obtain ⟨ad, Ak, ck, x, rfl, had, c1, hc1, hc2, hri, hx⟩ := (h.keep hb).at_ hlt
      have hl2 : k + 1 ≤ l.length := by omega
      have hri' := hri.more hsz
      have hkp : k < p.length := by rw [HL.out]; exact hlt
      have hq : p[k]? = some (p[k].1, p[k].2) := List.getElem?_eq_getElem hkp
      go_wp2_with fail
      refine (laws_toIntS _ x _ _ hri').mono ?_; rintro e w3 ⟨u, rfl, o3, g3⟩
      have hown3 := hown.turn (g3.turn 0 0) (.inr (Nat.zero_le _))
      obtain ⟨z1, f1⟩ := hown3.cell_ HL.out.symm hq
      obtain ⟨Au, cu, rfl, _, _, _⟩ := o3.open_
      have hset := hown3.setRow HL.out.symm hq o3 g3.size
      have hb3 := below_grow hb g3 hsz
      have hbW : Below w.heap.size w (w3.setCell ⟨w.heap.size, k, none⟩ (.slice Au x.length cu)) := hb3.setCell (p := ⟨w.heap.size, k, none⟩) (Nat.le_refl _) _
      have hmx := mixR_set hx.out
      have HM := Lib.hid hmx
      clear hmx hq hown hown3
      go_wp2_with fail
      go_roundw
      case rel => exact ⟨k + 1, p.set k (x, .slice Au x.length cu), by omega, by go_num, by rw [List.map_set, HP.out]; exact HM.out, by simpa [World.setCell] using hset, hbW⟩
      case measure => simp [intOf]; omega
    · obtain rfl : k = l.length := by omega
      go_wp2_with fail
      go_ret
      exact ⟨_, rfl, ⟨p, by rw [HP.out, mixR_all], hown⟩, hb⟩

/-! Marks. -/
def rI (l : List (List Int)) (j : Nat) : List Int := l[j]?.getD []
theorem rI_get {l : List (List Int)} {j : Nat} (h : j < l.length) : l[j]? = some (rI l j) := by rw [rI, List.getElem?_eq_getElem h]; rfl
def offR (l : List (List Int)) (k : Int) : Nat → Int
  | 0 => k
  | j + 1 => offR l k j + (rI l j).length
def markRI (l : List (List Int)) (k : Int) (j : Nat) : List Int := markL (offR l k j) (rI l j).length
def markRTo (l : List (List Int)) (k : Int) (j : Nat) : List (List Int) := (List.range j).map (markRI l k) ++ l.drop j
def markR (l : List (List Int)) (k : Int) : List (List Int) := (List.range l.length).map (markRI l k)
def endR (l : List (List Int)) (k : Int) : Int := offR l k l.length
theorem markRTo_zero (l : List (List Int)) (k : Int) : markRTo l k 0 = l := by simp [markRTo]
theorem markRTo_all (l : List (List Int)) (k : Int) : markRTo l k l.length = markR l k := by simp [markRTo, markR]
theorem markRTo_len {l : List (List Int)} {k : Int} {j : Nat} (hj : j ≤ l.length) : (markRTo l k j).length = l.length := by simp [markRTo]; omega
theorem markRTo_at {l : List (List Int)} {k : Int} {j : Nat} {x : List Int} (hx : l[j]? = some x) : (markRTo l k j)[j]? = some x := by
  rw [markRTo, List.getElem?_append_right (by simp)]
  simpa using hx
theorem markRTo_set {l : List (List Int)} {k : Int} {j : Nat} (hj : j < l.length) : (markRTo l k j).set j (markRI l k j) = markRTo l k (j + 1) := by
  rw [markRTo, markRTo, List.set_append_right _ _ (by simp), List.length_map, List.length_range, Nat.sub_self, List.drop_eq_getElem_cons hj, List.set_cons_zero, List.range_succ, List.map_append, List.append_assoc]
  rfl
theorem offR_bd {l : List (List Int)} {k : Int} (h : ∀ (j : Nat) (x : List Int), l[j]? = some x → x.length ≤ 2000000) (hk : 0 ≤ k) : ∀ j, 0 ≤ offR l k j ∧ offR l k j ≤ k + 2000002 * j
  | 0 => ⟨hk, by simp [offR]⟩
  | j + 1 => by
    have := offR_bd (l := l) (k := k) h hk j
    have hp : (rI l j).length ≤ 2000000 := by
      cases e : l[j]? with
      | none => simp [rI, e]
      | some x => rw [show rI l j = x by rw [rI, e]; rfl]; exact h j x e
    rw [offR]; omega
theorem endR_bd {w : World} {B : Nat} {A : Option Addr} {l : List (List Int)} {k : Int} (h : RR w B A l) (hk : 0 ≤ k) : k ≤ endR l k ∧ endR l k ≤ k + 5000000000000 := by
  have h1 := offR_bd (l := l) (k := k) h.short hk l.length
  have h2 := h.len
  have h3 : ∀ j, k ≤ offR l k j := fun j => by
    induction j with
    | zero => exact Int.le_refl _
    | succ j ih => rw [offR]; omega
  have h4 := h3 l.length
  unfold endR
  omega
set_option maxHeartbeats 3200000 in
theorem laws_markIntSS (A : Option Addr) (c : Nat) (l : List (List Int)) (k : Int) (w : World) (lo hi : Nat) (h : OwnR w lo hi (.slice A l.length c) l) (hk : 0 ≤ k) (hk2 : k ≤ 1000000000000) :
    Calls Try.prog 78 #[.slice A l.length c, .int .i64 k] w fun e w' => e = .returned (.int .i64 (endR l k)) ∧ OwnR w' lo hi (.slice A l.length c) (markR l k) ∧ Turn lo hi w w' := by
  have hl := h.len
  have hsh := h.ri.short
  have hbd := fun j => offR_bd (l := l) (k := k) hsh hk j
  have HB := Lib.hid hbd
  have HSH := Lib.hid hsh
  clear hbd hsh
  obtain ⟨p0, hp0, hO⟩ := h
  have H0 := Lib.hid hp0
  clear hp0
  go_enter Try.func78, Try.ntmps78
  go_wp2_with fail
  go_loopw [1, 5] (fun q i wr => ∃ (j : Nat) (p : List (List Int × Value)), j ≤ l.length ∧ i = .int .i64 j ∧ q = .int .i64 (offR l k j) ∧ p.map Prod.fst = markRTo l k j ∧ OwnRP wr lo hi (.slice A l.length c) p ∧ Turn lo hi w wr) (fun _ i _ => l.length - (intOf i).toNat)
  case atStart => exact ⟨0, p0, Nat.zero_le _, rfl, rfl, by rw [H0.out, markRTo_zero], hO, Turn.refl _ _ _⟩
  case round =>
    clear hO H0
    obtain ⟨j, p, hj, rfl, rfl, hp, ho, ht⟩ := hrel
    have hpl : p.length = l.length := by have := congrArg List.length hp; rwa [List.length_map, markRTo_len hj] at this
    have HP := Lib.hid hp
    have HL := Lib.hid hpl
    clear hp hpl
    obtain ⟨b0, b1⟩ := HB.out j
    by_cases hlt : j < l.length
    · obtain ⟨g, rfl, hnp, hg1, hg2, hg3⟩ := ho.form (by rw [HL.out]; omega)
      clear hnp
      have hxj := rI_get hlt
      have hsl := HSH.out j _ hxj
      obtain ⟨u, hu⟩ := rpair_at HP.out (markRTo_at (k := k) hxj)
      have HX := Lib.hid hxj
      obtain ⟨z1, f1⟩ := ho.cell_ HL.out.symm hu
      obtain ⟨o, ho'⟩ : ∃ o, o = offR l k j := ⟨_, rfl⟩
      obtain ⟨x, hx'⟩ : ∃ x, x = rI l j := ⟨_, rfl⟩
      have hj2 : (j : Int) ≤ 2000000 := by omega
      have hmI : markRI l k j = markL o x.length := by rw [ho', hx']; rfl
      have hoff : offR l k (j + 1) = o + x.length := by rw [ho', hx']; rfl
      rw [← ho'] at b0 b1
      rw [← hx'] at hsl hu
      rw [← ho']
      have MI := Lib.hid hmI
      have MO := Lib.hid hoff
      clear hmI hoff ho' hx' hxj
      have hoU := ho.pts _ (List.mem_of_getElem? hu)
      obtain ⟨a, b, hn, hwin⟩ := hoU.narrow
      obtain ⟨Au, cu, hAu, _, _, _⟩ := hn.open_
      simp only at hAu hn hwin
      subst hAu
      clear hoU
      go_wp2_with fail
      refine (laws_markIntS _ _ x o _ a b hn (by omega) (by omega)).mono ?_
      rintro e w2 ⟨rfl, om, tm⟩
      have o2 := ho.setPt hu tm hwin om
      have t2 : Turn lo hi w w2 := by
        refine ht.trans ⟨tm.os, tm.tape, tm.output, tm.size, fun r hr hh => tm.block r hr ?_⟩
        rcases Nat.lt_or_ge r a with q1 | q1
        · exact .inl q1
        · rcases Nat.lt_or_ge r b with q2 | q2
          · exfalso
            have e1 := hwin r q1 q2
            have e2 := ((ho.pts _ (List.mem_of_getElem? hu)).lt r e1).1
            have e3 := (ho.pts _ (List.mem_of_getElem? hu)).top r e1
            omega
          · exact .inr q2
      clear om hn tm z1 hwin ho ht
      go_wp2_with fail
      go_roundw
      case rel => exact ⟨j + 1, _, by omega, by go_num, by rw [MO.out], by rw [List.map_set, HP.out]; exact (by have := markRTo_set (k := k) hlt; rw [MI.out] at this; exact this), o2, t2⟩
      case measure => simp [intOf]; omega
    · obtain rfl : j = l.length := by omega
      go_wp2_with fail
      go_ret
      exact ⟨rfl, ⟨p, by rw [HP.out, markRTo_all], ho⟩, ht⟩
end Go.Proofs.Ytbbiffaggnllnaa
