/- The contracts of the generator of drawn inputs: what it draws is some slice of small numbers. -/
import Derived.Test.YtebiaodjodlloaaVec
import Derived.Deep.RegionHeld3
import Derived.Deep.RegionWith
namespace Go.Proofs.Ytebiaodjodlloaa
set_option linter.unusedVariables false
open Go Go.RowKit

/-- The slice value v reads as the integers xs; its cells lie from block lo on, below hi. -/
structure VecI (w : World) (lo hi : Nat) (v : Value) (xs : List Int) : Prop where
  form : ∃ A c, v = .slice A xs.length c ∧ xs.length ≤ c ∧ c ≤ maxLen ∧ (0 < xs.length → ∃ ad, A = some ad ∧ lo ≤ ad.block ∧ ad.block < hi ∧ (∀ j u, (xs.map (Value.int .i64))[j]? = some u → w.cell? (ad.add j) = some u) ∧ ∃ cs, w.heap[ad.block]? = some (.cells cs 3 (0, 0)) ∧ ad.spot = none)
  fit : ∀ x ∈ xs, -9223372036854775808 ≤ x ∧ x ≤ 9223372036854775807
  len : xs.length ≤ 2000000
  top : hi ≤ w.heap.size
section
variable {w w' : World} {lo hi lo' hi' : Nat} {v : Value} {xs : List Int}
theorem VecI.open_ (h : VecI w lo hi v xs) : ∃ A c, v = .slice A xs.length c ∧ xs.length ≤ c ∧ c ≤ maxLen ∧ RI w w.heap.size A xs := by
  obtain ⟨A, c, hv, h1, h2, h3⟩ := h.form
  refine ⟨A, c, hv, h1, h2, ⟨by simp, fun hn => ?_⟩, h.fit, h.len⟩
  obtain ⟨ad, hA, _, hb, hc, _⟩ := h3 hn
  exact ⟨ad, hA, Nat.lt_of_lt_of_le hb h.top, hc⟩
theorem VecI.turn (h : VecI w lo hi v xs) (ht : Turn lo' hi' w w') (hd : hi ≤ lo' ∨ hi' ≤ lo) : VecI w' lo hi v xs := by
  obtain ⟨A, c, hv, h1, h2, h3⟩ := h.form
  refine ⟨⟨A, c, hv, h1, h2, fun hn => ?_⟩, h.fit, h.len, Nat.le_trans h.top ht.size⟩
  obtain ⟨ad, hA, hl, hb, hc, cs, hty, hsp⟩ := h3 hn
  have := h.top
  have hkeep := ht.block ad.block (by omega) (by omega)
  refine ⟨ad, hA, hl, hb, fun j u hu => ?_, cs, hkeep.trans hty, hsp⟩
  rw [← hc j u hu]
  exact World.cell?_of_block (by rw [block_of_add]; exact hkeep)
theorem VecI.grow (h : VecI w lo hi v xs) (hg : Grow w w') : VecI w' lo hi v xs := h.turn (hg.turn 0 0) (.inr (Nat.zero_le _))
theorem VecI.wider (h : VecI w lo hi v xs) (hl : lo' ≤ lo) (hh : hi ≤ hi') (ht : hi' ≤ w.heap.size) : VecI w lo' hi' v xs := by
  obtain ⟨A, c, hv, h1, h2, h3⟩ := h.form
  refine ⟨⟨A, c, hv, h1, h2, fun hn => ?_⟩, h.fit, h.len, ht⟩
  obtain ⟨ad, hA, hl', hb, hc⟩ := h3 hn
  exact ⟨ad, hA, by omega, by omega, hc⟩
/-- What it reads as does not hang on a row of another element type. -/
theorem VecI.other {base n size : Nat} {e : TypeId} {u : Value} {us : List Value} (h : VecI w lo hi v xs) (ho : w.ownsRow base e size u n us) (he : e ≠ 3) (hg : w.grownBy w' u.ownBlock) : VecI w' lo hi v xs := by
  obtain ⟨A, c, hv, h1, h2, h3⟩ := h.form
  refine ⟨⟨A, c, hv, h1, h2, fun hn => ?_⟩, h.fit, h.len, Nat.le_trans h.top hg.size⟩
  obtain ⟨ad, hA, hl', hb, hc, cs, hty, hsp⟩ := h3 hn
  have hne : some ad.block ≠ u.ownBlock := by
    intro e1
    rcases ho.2 with ⟨rfl, _⟩ | ⟨g, cap, cur, rfl, _, hh, _⟩
    · simp [Value.ownBlock] at e1
    · simp [Value.ownBlock] at e1
      rw [e1, hh] at hty
      injection hty with hty
      injection hty with _ hty
      exact he hty
  have hkeep := hg.block ad.block (by have := h.top; omega) hne
  exact ⟨ad, hA, hl', hb, fun j x hx => (World.cell?_of_block (by rw [block_of_add]; exact hkeep)).trans (hc j x hx), cs, hkeep.trans hty, hsp⟩
theorem OwnI.vec (h : OwnI w lo hi v xs) (ht : hi ≤ w.heap.size) : VecI w lo hi v xs := by
  rcases h.own.2 with ⟨rfl, h0⟩ | ⟨g, cap, cur, rfl, hb, hg, hn, hm, hs, _⟩
  · have : xs = [] := List.eq_nil_of_length_eq_zero h0
    subst this
    exact ⟨⟨none, 0, rfl, by simp, by simp [maxLen], fun hn => absurd hn (by simp)⟩, h.fit, h.len, ht⟩
  · exact ⟨⟨_, cap, rfl, hn, hm, fun hn => ⟨_, rfl, hb, h.top g rfl, h.own.cells (g := g) rfl, cur, hg, rfl⟩⟩, h.fit, h.len, ht⟩
/-- A cut 's[1:]'. -/
theorem VecI.tail {A : Option Addr} {c : Nat} {x : Int} {ys : List Int} (h : VecI w lo hi (.slice A (ys.length + 1) c) (x :: ys)) (ad : Addr) (hA : A = some ad) (hc : 1 < c) : VecI w lo hi (.slice (some (ad.add 1)) ys.length (c - 1)) ys := by
  obtain ⟨A', c', hv, h1, h2, h3⟩ := h.form
  injection hv with e1 e2 e3
  subst e1 e3 hA
  simp only [List.length_cons] at h1
  refine ⟨⟨_, _, rfl, by omega, by omega, fun hn => ?_⟩, fun z hz => h.fit z (List.mem_cons_of_mem _ hz), by have := h.len; simp at this; omega, h.top⟩
  obtain ⟨ad', hA, hl, hb, hcell, cs, hty, hsp⟩ := h3 (by simp)
  injection hA with hA
  subst hA
  refine ⟨_, rfl, by rw [block_of_add]; exact hl, by rw [block_of_add]; exact hb, fun j u hu => ?_, cs, by rw [block_of_add]; exact hty, by unfold Addr.add; simp⟩
  rw [add_of_add, Nat.add_comm]
  exact hcell (j + 1) u (by simpa using hu)
/-- A store into it. -/
theorem VecI.set_ {ad : Addr} {n c i : Nat} {x : Int} (h : VecI w lo hi (.slice (some ad) n c) xs) (hi' : i < xs.length) (hx : -9223372036854775808 ≤ x ∧ x ≤ 9223372036854775807) :
    VecI (w.setCell (ad.add i) (.int .i64 x)) lo hi (.slice (some ad) n c) (xs.set i x) ∧ w.frozen? (ad.add i) = false := by
  obtain ⟨A, c', hv, h1, h2, h3⟩ := h.form
  injection hv with e1 e2 e3
  subst e1 e2 e3
  obtain ⟨ad', hA, hl, hb, hc, cs, hty, hsp⟩ := h3 (by omega)
  injection hA with hA
  subst hA
  have hadd : ∀ j, ad.add j = ⟨ad.block, ad.off + j, none⟩ := fun j => by
    unfold Addr.add
    split
    · rename_i h0
      cases ad
      simp only at hsp
      subst hsp
      simp [h0]
    · rfl
  have hT : Turn ad.block (ad.block + 1) w (w.setCell (ad.add i) (.int .i64 x)) :=
    ⟨rfl, rfl, rfl, by simp [World.setCell], fun k hk hh => Below.heap_setCell w (ad.add i) _ k (by rw [block_of_add]; omega)⟩
  refine ⟨⟨⟨some ad, c, by simp, by simpa using h1, h2, fun hn => ⟨ad, rfl, hl, hb, fun j u hu => ?_, cs.setIfInBounds (ad.off + i) (.int .i64 x), ?_, hsp⟩⟩, fun y hy => ?_, by simpa using h.len, Nat.le_trans h.top hT.size⟩, ?_⟩
  · have hxi : (xs.map (Value.int .i64))[i]? = some (.int .i64 xs[i]) := by rw [List.getElem?_map, List.getElem?_eq_getElem hi']; rfl
    by_cases hj : j = i
    · subst hj
      rw [List.map_set, List.getElem?_set_self (by simpa using hi')] at hu
      rw [← hu]
      exact World.cell?_setCell_same _ _ _ (hc j _ hxi)
    · rw [List.map_set, List.getElem?_set_ne (fun e => hj e.symm)] at hu
      rw [World.cell?_setCell_other _ _ _ _ (by rw [hadd, hadd]; intro e; injection e with _ e; omega)]
      exact hc j u hu
  · rw [hadd]
    simp [World.setCell, Array.getElem?_modify, hty]
  · rcases List.mem_or_eq_of_mem_set hy with hy | rfl
    · exact h.fit y hy
    · exact hx
  · rw [hadd]
    simp [World.frozen?, hty]
end

/-- Block g is a reader: its bytes lie below it; its position is at most P. -/
def Rdr (w : World) (g P : Nat) : Prop :=
  ∃ (A : Option Addr) (bs : List Int) (c p : Nat), Blk w g 98 #[.slice A bs.length c, .int .i64 p] ∧ p ≤ P ∧ Reads w g 1 A bs.length (bs.map (Value.int .u8)) ∧ (∀ x ∈ bs, 0 ≤ x ∧ x ≤ 255) ∧ bs.length ≤ 2000 ∧ bs.length ≤ c
theorem Rdr.turn {w w' : World} {g P lo hi : Nat} (h : Rdr w g P) (ht : Turn lo hi w w') (hg : g < lo) : Rdr w' g P := by
  obtain ⟨A, bs, c, p, h1, h2, h3, h4⟩ := h
  have hb := ht.below (B := lo.min (g + 1)) (Nat.le_trans (Nat.min_le_right _ _) h1.lt) (Nat.min_le_left _ _)
  have hb' : Below (g + 1) w w' := hb.mono (by rw [show lo.min (g + 1) = g + 1 from Nat.min_eq_right (by omega)]; exact Nat.le_refl _)
  exact ⟨A, bs, c, p, h1.below hb' (by omega), h2, h3.keep fun q hq => hb'.cell (by omega), h4⟩
theorem Rdr.grow {w w' : World} {g P : Nat} (h : Rdr w g P) (hg : Grow w w') : Rdr w' g P := by
  have hl : g < w.heap.size := by obtain ⟨A, bs, c, p, h1, _⟩ := h; exact h1.lt
  exact h.turn (lo := g + 1) (hi := g + 1) (hg.turn _ _) (by omega)
theorem Rdr.more {w : World} {g P P' : Nat} (h : Rdr w g P) (hP : P ≤ P') : Rdr w g P' := by
  obtain ⟨A, bs, c, p, h1, h2, h3⟩ := h; exact ⟨A, bs, c, p, h1, by omega, h3⟩
theorem Rdr.lt {w : World} {g P : Nat} (h : Rdr w g P) : g < w.heap.size := by obtain ⟨A, bs, c, p, h1, _⟩ := h; exact h1.lt
/-- From w to w' the reader g has been asked; nothing else that was there has turned. -/
def Asked (g : Nat) (w w' : World) : Prop := Turn g (g + 1) w w'
theorem Asked.trans {g : Nat} {a b c : World} (h : Asked g a b) (k : Asked g b c) : Asked g a c := Turn.trans h k
theorem Asked.grow {g : Nat} {a b c : World} (h : Asked g a b) (k : Grow b c) : Asked g a c := Turn.trans h (k.turn _ _)
theorem Asked.of_grow {g : Nat} {a b : World} (k : Grow a b) : Asked g a b := k.turn _ _

theorem Asked.below {g B : Nat} {a b c : World} (h : Asked g a b) (k : Below B b c) (hB : a.heap.size ≤ B) : Asked g a c :=
  ⟨k.os.trans h.os, k.tape.trans h.tape, k.output.trans h.output, Nat.le_trans h.size k.size, fun j hj hh => (k.block j (by omega)).trans (h.block j hj hh)⟩
theorem Rdr.below {w w' : World} {g P B : Nat} (h : Rdr w g P) (hb : Below B w w') (hg : g < B) : Rdr w' g P := by
  obtain ⟨A, bs, c, p, h1, h2, h3, h4⟩ := h
  exact ⟨A, bs, c, p, h1.below hb hg, h2, h3.keep fun q hq => hb.cell (by omega), h4⟩
theorem xor_bd {x y : Int} (h0 : 0 ≤ x) (h1 : x ≤ 1000000000) (h2 : 0 ≤ y) (h3 : y ≤ 1000000000) : ∃ z, bits .xor .i64 x y = z ∧ 0 ≤ z ∧ z ≤ 1073741823 := by
  obtain ⟨a, rfl⟩ := Int.eq_ofNat_of_zero_le h0
  obtain ⟨b, rfl⟩ := Int.eq_ofNat_of_zero_le h2
  have hx : a ^^^ b < 2 ^ 30 := Nat.xor_lt_two_pow (by omega) (by omega)
  have e : ∀ n : Nat, n < 9223372036854775808 → (BitVec.ofInt 64 (n : Int)).toNat = n := fun n hn => by
    rw [BitVec.ofInt_natCast, BitVec.toNat_ofNat]; exact Nat.mod_eq_of_lt (by omega)
  refine ⟨((a ^^^ b : Nat) : Int), ?_, by omega, by omega⟩
  show IntKind.i64.wrap ((BitVec.ofInt 64 (a : Int) ^^^ BitVec.ofInt 64 (b : Int)).toNat : Int) = _
  rw [BitVec.toNat_xor, e a (by omega), e b (by omega), IntKind.wrap_i64]
  omega

/-- A byte of the reader. -/
theorem byte_at {w : World} {g : Nat} {A : Option Addr} {bs : List Int} (h : Reads w g 1 A bs.length (bs.map (Value.int .u8))) (hf : ∀ x ∈ bs, 0 ≤ x ∧ x ≤ 255) {k : Nat} (hk : k < bs.length) :
    ∃ ad x, A = some ad ∧ ad.block < g ∧ w.cell? (ad.add k) = some (.int .u8 x) ∧ 0 ≤ x ∧ x ≤ 255 := by
  obtain ⟨ad, u, e, hb, hx, hc⟩ := h.at_ hk
  have hm := hf _ (List.getElem_mem hk)
  refine ⟨ad, bs[k], e, hb, ?_, hm.1, hm.2⟩
  rw [hc, ← hx, List.getElem?_map, List.getElem?_eq_getElem hk]; rfl

/-- What a reader that has been asked once more is. -/
theorem rdr_next {w : World} {g p : Nat} {A : Option Addr} {bs : List Int} {c P : Nat} (h1 : Blk w g 98 #[.slice A bs.length c, .int .i64 p]) (h2 : p ≤ P) (h3 : Reads w g 1 A bs.length (bs.map (Value.int .u8))) (h4 : ∀ x ∈ bs, 0 ≤ x ∧ x ≤ 255) (h5 : bs.length ≤ 2000) (h6 : bs.length ≤ c) (n : Nat) :
    Rdr ((w.setCell ⟨g, 1, none⟩ (.int .i64 ((p : Int) + 1))).drewN n) g (P + 1) ∧ Asked g w ((w.setCell ⟨g, 1, none⟩ (.int .i64 ((p : Int) + 1))).drewN n) := by
  refine ⟨⟨A, bs, c, p + 1, ?_, by omega, (h3.setCell (p := ⟨g, 1, none⟩) (Nat.le_refl _) _).drewN n, h4, h5, h6⟩, ?_⟩
  · have := (h1.set_ 1 (.int .i64 ((p : Int) + 1))).drewN n
    simpa using this
  · exact ⟨rfl, rfl, rfl, by simp [World.drewN, World.setCell], fun k hk hh => Below.heap_setCell w ⟨g, 1, none⟩ _ k (by show k ≠ g; omega)⟩

set_option maxHeartbeats 1600000 in
theorem reader_pick (g P : Nat) (n : Int) (w : World) (h : Rdr w g P) (hP : P ≤ 100000) (hn : n ≤ 1000000) (hn0 : -1000000 ≤ n) :
    Calls Try.prog 87 #[.pointer (some ⟨g, 0, none⟩), .int .i64 n] w fun e w' => ∃ v, e = .returned (.int .i64 v) ∧ 0 ≤ v ∧ v ≤ 1000000 ∧ (0 < n → v < n) ∧ (n < 1 → v = 0) ∧ Rdr w' g (P + 1) ∧ Asked g w w' := by
  obtain ⟨A, bs, c, p, h1, h2, h3, h4, h5, h6⟩ := h
  have hN := rdr_next h1 h2 h3 h4 h5 h6
  have h3' := h3.setCell (p := ⟨g, 1, none⟩) (Nat.le_refl _) (.int .i64 ((p : Int) + 1))
  have HN := Lib.hid hN
  clear hN
  have c0 : w.cell? ⟨g, 0, none⟩ = some (.slice A bs.length c) := by rw [h1.cell]; rfl
  have c1 : w.cell? ⟨g, 1, none⟩ = some (.int .i64 p) := by rw [h1.cell]; rfl
  have f1 : w.frozen? ⟨g, 1, none⟩ = false := h1.frozen 1
  by_cases hn1 : n < 1
  · go_enter Try.func87, Try.ntmps87
    go_wp2
    go_ret
    exact ⟨0, rfl, by omega, by omega, by omega, fun _ => rfl, HN.out 0⟩
  · by_cases hL : bs.length = 0
    · have hz : ((bs.length : Int) == 0) = true := by rw [hL]; rfl
      have HL := Lib.hid hL
      clear hL
      go_enter Try.func87, Try.ntmps87
      go_wp2
      go_ret
      exact ⟨0, rfl, by omega, by omega, by omega, fun _ => rfl, HN.out 0⟩
    · have hz : ((bs.length : Int) == 0) = false := by rw [beq_eq_false_iff_ne]; omega
      by_cases hk : p < bs.length
      · obtain ⟨ad, x, rfl, hab, hc, x0, x1⟩ := byte_at h3' h4 hk
        have m0 : 0 ≤ x % n := Int.emod_nonneg _ (by omega)
        have m1 : x % n < n := Int.emod_lt_of_pos _ (by omega)
        have hnz : (n == 0) = false := by rw [beq_eq_false_iff_ne]; omega
        go_enter Try.func87, Try.ntmps87
        go_wp2
        go_ret
        exact ⟨x % n, rfl, by omega, by omega, fun _ => m1, fun h => absurd h (by omega), HN.out 0⟩
      · have hL2 : 0 < bs.length := by omega
        obtain ⟨q1, t1, l1⟩ : ∃ q1 : Nat, (p : Int).tmod (bs.length : Int) = (q1 : Int) ∧ q1 < bs.length :=
          ⟨p % bs.length, by rw [Int.tmod_eq_emod_of_nonneg (by omega)]; norm_cast, Nat.mod_lt _ hL2⟩
        obtain ⟨q2, t2, l2⟩ : ∃ q2 : Nat, ((p : Int) * 7 + 3).tmod (bs.length : Int) = (q2 : Int) ∧ q2 < bs.length :=
          ⟨(p * 7 + 3) % bs.length, by rw [Int.tmod_eq_emod_of_nonneg (by omega)]; norm_cast, Nat.mod_lt _ hL2⟩
        obtain ⟨q3, t3, l3⟩ : ∃ q3 : Nat, (p : Int).tdiv (bs.length : Int) = (q3 : Int) ∧ q3 ≤ 100000 :=
          ⟨p / bs.length, by rw [Int.tdiv_eq_ediv_of_nonneg (by omega)]; norm_cast, Nat.le_trans (Nat.div_le_self _ _) (by omega)⟩
        obtain ⟨ad, x, rfl, hab, hc, x0, x1⟩ := byte_at h3' h4 l1
        obtain ⟨ad', y, e, hab', hc', y0, y1⟩ := byte_at h3' h4 l2
        injection e with e
        subst e
        clear hab'
        have l1' : (q1 : Int) < (bs.length : Int) := by omega
        have l2' : (q2 : Int) < (bs.length : Int) := by omega
        go_enter Try.func87, Try.ntmps87
        go_wp2
        go_quiet (fail)
        obtain ⟨X, hX⟩ : ∃ X, x * 131 + y * 1117 + (p : Int) * 29 + (q3 : Int) * 53 = X := ⟨_, rfl⟩
        obtain ⟨b0, b1⟩ : 0 ≤ X ∧ X ≤ 1000000000 := by omega
        rw [hX]
        obtain ⟨z, hzz, z0, z1⟩ := xor_bd (y := X / 64) b0 b1 (by omega) (by omega)
        have m0 : 0 ≤ z % n := Int.emod_nonneg _ (by omega)
        have m1 : z % n < n := Int.emod_lt_of_pos _ (by omega)
        have hnz : (n == 0) = false := by rw [beq_eq_false_iff_ne]; omega
        clear hX t1 t2 t3 hc hc' c0 c1 f1 h1 h3 h3'
        go_wp2
        go_ret
        exact ⟨z % n, rfl, by omega, by omega, fun _ => m1, fun h => absurd h (by omega), HN.out _⟩

/-- A slice of integers in new memory, as a literal makes it. -/
theorem lit_ri (w : World) (xs : List Int) (hf : ∀ x ∈ xs, -9223372036854775808 ≤ x ∧ x ≤ 9223372036854775807) (hl : xs.length ≤ 2000000) :
    OwnI (w.alloc (.cells (xs.map (Value.int .i64)).toArray 3)) w.heap.size (w.alloc (.cells (xs.map (Value.int .i64)).toArray 3)).heap.size (.slice (some ⟨w.heap.size, 0, none⟩) xs.length xs.length) xs :=
  OwnI.mk' (by simpa using World.ownsRow_lit w (xs.map (Value.int .i64)).toArray xs.length (base := w.heap.size) (e := 3) (size := 1) (Nat.le_refl _) (by unfold maxLen; omega) (by simp)) hf hl

theorem reader_one (g P : Nat) (A : Option Addr) (c : Nat) (xs : List Int) (w : World) (h : Rdr w g P) (hP : P ≤ 100000) (hx : RI w w.heap.size A xs) (hB : ∀ ad, A = some ad → ad.block ≠ g) (hne : 0 < xs.length) (hs : xs.length ≤ 1000000) :
    Calls Try.prog 90 #[.pointer (some ⟨g, 0, none⟩), .slice A xs.length c] w fun e w' => ∃ v, e = .returned (.int .i64 v) ∧ v ∈ xs ∧ Rdr w' g (P + 1) ∧ Asked g w w' := by
  have hl := hx.len
  go_enter Try.func90, Try.ntmps90
  go_wp2_with fail
  refine (reader_pick g P _ w h hP (by omega) (by omega)).mono ?_
  rintro e w1 ⟨v, rfl, v0, _, v1, _, hr, ha⟩
  obtain ⟨k, rfl⟩ := Int.eq_ofNat_of_zero_le v0
  have hk : k < xs.length := by have := v1 (by omega); omega
  obtain ⟨ad, x, rfl, hb, hc, _, _, hkx⟩ := hx.at_ hk
  have hc1 : w1.cell? (ad.add k) = some (.int .i64 x) := by
    rw [← hc]; exact World.cell?_of_block (by rw [block_of_add]; exact ha.block _ hb (by have := hB ad rfl; omega))
  clear hc v1
  go_wp2
  go_ret
  exact ⟨x, rfl, List.mem_of_getElem? hkx.out, hr, ha⟩

theorem spec_copyInts (A : Option Addr) (c : Nat) (xs : List Int) (w : World) (h : RI w w.heap.size A xs) :
    Calls Try.prog 126 #[.slice A xs.length c] w fun e w' => ∃ v, e = .returned v ∧ OwnI w' w.heap.size w'.heap.size v xs ∧ Grow w w' := by
  go_enter Try.func126, Try.ntmps126
  go_wp2_with (at_builtin; refine wpList_copyI rfl _ _ rfl rfl rfl rfl h (Nat.le_refl _) ?_; intro v1 w1 hown1 hg1)
  go_ret
  exact ⟨_, rfl, hown1, hg1⟩

theorem spec_someCoord (g P : Nat) (w : World) (h : Rdr w g P) (hP : P ≤ 90000) :
    Calls Try.prog 127 #[.pointer (some ⟨g, 0, none⟩)] w fun e w' => ∃ v, e = .returned (.int .i64 v) ∧ -100 ≤ v ∧ v ≤ 100 ∧ Rdr w' g (P + 3) ∧ Asked g w w' := by
  go_enter Try.func127, Try.ntmps127
  go_wp2_with fail
  refine (reader_pick g P _ w h (by omega) (by omega) (by omega)).mono ?_
  rintro e w1 ⟨a, rfl, a0, _, a1, _, h1, k1⟩
  have a1 := a1 (by omega)
  go_wp2_with fail
  refine (reader_pick g (P + 1) _ w1 h1 (by omega) (by omega) (by omega)).mono ?_
  rintro e w2 ⟨b, rfl, b0, _, b1, _, h2, k2⟩
  have b1 := b1 (by omega)
  have hg : g < w2.heap.size := h2.lt
  have o := lit_ri w2 [0, 1, -1, 5, -7, 10, 3, 100, -100, a - 100, b - 10] (fun x hx => by simp at hx; omega) (by simp)
  go_wp2_with fail
  have hgr : Grow w2 (w2.alloc (.cells #[.int .i64 0, .int .i64 1, .int .i64 (-1), .int .i64 5, .int .i64 (-7), .int .i64 10, .int .i64 3, .int .i64 100, .int .i64 (-100), .int .i64 (a - 100), .int .i64 (b - 10)] 3)) := (Below.refl _ _).alloc (Nat.le_refl _) _
  refine (reader_one g (P + 2) _ _ [0, 1, -1, 5, -7, 10, 3, 100, -100, a - 100, b - 10] _ (h2.grow hgr) (by omega) o.ri (fun ad had => by injection had with had; subst had; show w2.heap.size ≠ g; omega) (by simp) (by simp)).mono ?_
  rintro e w3 ⟨v, rfl, hv, h3, k3⟩
  go_wp2
  go_ret
  simp at hv
  exact ⟨v, rfl, by omega, by omega, h3, k1.trans (k2.trans ((Asked.of_grow hgr).trans k3))⟩

set_option maxHeartbeats 800000 in
theorem spec_someVector (g P : Nat) (w : World) (h : Rdr w g P) (hP : P ≤ 80000) :
    Calls Try.prog 106 #[.pointer (some ⟨g, 0, none⟩)] w fun e w' => ∃ v xs, e = .returned v ∧ OwnI w' w.heap.size w'.heap.size v xs ∧ vecB xs 4 = true ∧ Rdr w' g (P + 12) ∧ Asked g w w' := by
  have hg : g < w.heap.size := h.lt
  go_enter Try.func106, Try.ntmps106
  go_wp2_with fail
  go_loopw [3, 4] (fun v i wr => ∃ (k : Nat) (xs : List Int), k ≤ 4 ∧ i = .int .i64 k ∧ xs.length = k ∧ (∀ x ∈ xs, -100 ≤ x ∧ x ≤ 100) ∧ wr.ownsRow w.heap.size 3 1 v xs.length (xs.map (Value.int .i64)) ∧ Rdr wr g (P + 3 * k) ∧ Asked g w wr) (fun _ i _ => 4 - (intOf i).toNat)
  case atStart =>
    have hgr : Grow w (w.alloc (.cells #[] 3)) := (Below.refl _ _).alloc (Nat.le_refl _) _
    exact ⟨0, [], by omega, rfl, rfl, by simp, World.ownsRow_lit w #[] 0 (Nat.le_refl _) (by unfold maxLen; omega) rfl, h.grow hgr, Asked.of_grow hgr⟩
  case round =>
    obtain ⟨k, xs, hk, rfl, hlen, hbd, hown, hr, ha⟩ := hrel
    have HL := Lib.hid hlen
    have hl4 : xs.length ≤ 4 := by omega
    have HB := Lib.hid hbd
    clear hlen hbd
    by_cases hlt : k < 4
    · go_wp2_with fail
      refine (spec_someCoord g _ _ hr (by omega)).mono ?_
      rintro e w1 ⟨x, rfl, x0, x1, hr1, ka⟩
      have hlo := hown.lt
      have hown1 : w1.ownsRow w.heap.size 3 1 u3 xs.length (xs.map (Value.int .i64)) :=
        ownsRow_of_block hown (fun q hq => ka.block q (hlo q hq).2 (by have := (hlo q hq).1; omega))
      have hb1 : Below w.heap.size w1 w1 := Below.refl _ _
      have hB1 : w.heap.size ≤ w1.heap.size := Nat.le_trans ha.size ka.size
      clear hown hlo
      go_wp2_with (at_builtin; refine wpList_pushI rfl _ _ rfl rfl rfl hown1 hb1 hB1 (by omega) ?_; intro v2 w2 hown2 hb2)
      go_roundw
      case rel =>
        refine ⟨k + 1, xs ++ [x], by omega, by go_num, by simp [HL.out], ?_, hown2, Rdr.more (hr1.below hb2 hg) (by omega), (ha.trans ka).below hb2 (Nat.le_refl _)⟩
        intro y hy
        rcases List.mem_append.1 hy with hy | hy
        · exact HB.out y hy
        · simp at hy; subst hy; exact ⟨x0, x1⟩
      case measure => simp [intOf]; omega
    · obtain rfl : k = 4 := by omega
      go_wp2
      go_ret
      refine ⟨_, xs, rfl, OwnI.mk' hown (fun x hx => by have := HB.out x hx; omega) (by omega), ?_, hr, ha⟩
      rw [vecB_len HL.out, allB, List.all_eq_true]
      intro x hx
      exact inB_yes (HB.out x hx).1 (HB.out x hx).2

/-- A drawn vector: at most five small numbers. -/
def Small (xs : List Int) : Prop := xs.length ≤ 5 ∧ ∀ x ∈ xs, -1000 ≤ x ∧ x ≤ 1000
theorem small_of_vec {xs : List Int} (h : vecB xs 4 = true) : Small xs :=
  ⟨by have := vecB_four h; omega, fun x hx => by have := vecB_mem h hx; omega⟩

set_option maxHeartbeats 1600000 in
theorem reader_spoil (g P : Nat) (A : Option Addr) (c : Nat) (xs : List Int) (n : Int) (w : World) (h : Rdr w g P) (hP : P ≤ 80000) (hx : RI w w.heap.size A xs) (hv : vecB xs 4 = true) (hn : 0 ≤ n) (hn2 : n ≤ 1000) :
    Calls Try.prog 105 #[.pointer (some ⟨g, 0, none⟩), .slice A xs.length c, .int .i64 n] w fun e w' => ∃ v ys, e = .returned v ∧ VecI w' w.heap.size w'.heap.size v ys ∧ Small ys ∧ Rdr w' g (P + 3) ∧ Asked g w w' := by
  have hg : g < w.heap.size := h.lt
  have HV := Lib.hid hv
  have hl4 : xs.length ≤ 4 := Nat.le_of_eq (vecB_four hv)
  have hl5 : 4 ≤ xs.length := Nat.le_of_eq (vecB_four hv).symm
  clear hv
  go_enter Try.func105, Try.ntmps105
  go_wp2_with fail
  refine (spec_copyInts _ _ _ _ hx).mono ?_
  rintro e w1 ⟨v1, rfl, o1, g1⟩
  have r1 := h.grow g1
  go_wp2_with fail
  refine (reader_pick g P _ w1 r1 (by omega) (by omega) (by omega)).mono ?_
  rintro e w2 ⟨a, rfl, a0, _, a1, _, r2, k2⟩
  have a1 := a1 (by omega)
  have o2 : OwnI w2 w.heap.size w1.heap.size v1 xs := o1.turn k2 (.inr (by omega))
  have ask2 : Asked g w w2 := (Asked.of_grow g1).trans k2
  have hsz : w.heap.size ≤ w2.heap.size := ask2.size
  by_cases ha0 : a = 0
  · subst ha0
    go_wp2_with (at_builtin; refine wpList_pushI rfl _ _ rfl rfl rfl o2.own (Below.refl w.heap.size w2) hsz (by omega) ?_; intro v3 w3 hown3 hb3)
    go_ret
    refine ⟨_, xs ++ [n], rfl, (OwnI.mk' hown3 ?_ (by simp; omega)).vec (Nat.le_refl _), ⟨by simp; omega, ?_⟩, (r2.below hb3 hg).more (by omega), ask2.below hb3 (Nat.le_refl _)⟩
    · intro x hx'; rcases List.mem_append.1 hx' with hx' | hx'
      · exact hx.fit x hx'
      · simp at hx'; omega
    · intro x hx'; rcases List.mem_append.1 hx' with hx' | hx'
      · have := vecB_mem HV.out hx'; omega
      · simp at hx'; omega
  · have z0 : (a == 0) = false := by rw [beq_eq_false_iff_ne]; exact ha0
    obtain ⟨A2, c2, rfl, hc2, hm2, q2⟩ := o2.open_
    have V2 := o2.vec (by have := k2.size; omega)
    by_cases ha1 : a = 1
    · subst ha1
      match xs, hl5, hl4, o2, q2, V2, HV with
      | x :: ys, hl5, hl4, o2, q2, V2, HV =>
        obtain ⟨ad, x', rfl, _, _, _, _, _⟩ := q2.at_ (k := 0) (by simp)
        have V3 := V2.tail ad rfl (by simp at hl5 hc2; omega)
        have ea : ad.add 1 = ⟨ad.block, ad.off + 1, none⟩ := rfl
        rw [ea] at V3
        have hs : Small ys := ⟨by simp at hl4; omega, fun z hz => by have := vecB_mem HV.out (List.mem_cons_of_mem x hz); omega⟩
        have hc1 : ((c2 : Nat) : Int) ≠ 1 := by simp at hl5 hc2; omega
        clear ea
        go_wp2
        go_ret
        exact ⟨_, ys, rfl, V3.wider (Nat.le_refl _) (by have := k2.size; omega) (Nat.le_refl _), hs, r2.more (by omega), ask2⟩
    · have z1 : (a == 1) = false := by rw [beq_eq_false_iff_ne]; exact ha1
      by_cases ha2 : a = 2
      · subst ha2
        go_wp2_with fail
        refine (reader_pick g (P + 1) _ w2 r2 (by omega) (by omega) (by omega)).mono ?_
        rintro e w3 ⟨b, rfl, b0, _, b1, _, r3, k3⟩
        have b1 := b1 (by omega)
        obtain ⟨j, rfl⟩ := Int.eq_ofNat_of_zero_le b0
        have o := lit_ri w3 [-1, n, 0, 1] (fun x hx => by simp at hx; omega) (by simp)
        have hg3 : g < w3.heap.size := r3.lt
        have o3 := o2.turn k3 (.inr (by omega))
        have hgr : Grow w3 (w3.alloc (.cells #[.int .i64 (-1), .int .i64 n, .int .i64 0, .int .i64 1] 3)) := (Below.refl _ _).alloc (Nat.le_refl _) _
        go_wp2_with fail
        refine (reader_one g (P + 2) _ _ [-1, n, 0, 1] _ (r3.grow hgr) (by omega) o.ri (fun ad had => by injection had with had; subst had; show w3.heap.size ≠ g; omega) (by simp) (by simp)).mono ?_
        rintro e w4 ⟨x, rfl, hxm, r4, k4⟩
        have hx4 : -1000 ≤ x ∧ x ≤ 1000 := by simp at hxm; omega
        have o4 := (o3.grow hgr).turn k4 (.inr (by omega))
        obtain ⟨gb, rfl, _, hgb, hgb1, hgb2⟩ := o4.form (by omega)
        have hj : j < xs.length := by omega
        have hcell := o4.cellAt rfl (List.getElem?_eq_getElem hj)
        have hfz := o4.frozenAt j rfl
        have o5 := o4.set_ (j := j) (x := x) rfl (by omega)
        have ask4 : Asked g w w4 := ask2.trans (k3.trans ((Asked.of_grow hgr).trans k4))
        have hb5 : Below w.heap.size w4 (w4.setCell ⟨gb, j, none⟩ (.int .i64 x)) := (Below.refl _ _).setCell hgb _
        have hs5 : Small (xs.set j x) := ⟨by simp; omega, fun z hz => by
          rcases List.mem_or_eq_of_mem_set hz with hz | rfl
          · have := vecB_mem HV.out hz; omega
          · exact hx4⟩
        have hle : w1.heap.size ≤ w4.heap.size := Nat.le_trans k2.size (Nat.le_trans k3.size (Nat.le_trans hgr.size k4.size))
        clear o o3 hx o2 V2 q2 hxm
        go_wp2
        go_ret
        refine ⟨_, xs.set j x, rfl, (o5.vec (by simpa [World.setCell] using hle)).wider (Nat.le_refl _) (by simpa [World.setCell] using hle) (Nat.le_refl _), hs5, r4.below hb5 hg, ask4.below hb5 (Nat.le_refl _)⟩
      · have z2 : (a == 2) = false := by rw [beq_eq_false_iff_ne]; exact ha2
        go_wp2
        go_ret
        exact ⟨_, xs, rfl, V2.wider (Nat.le_refl _) (by have := k2.size; omega) (Nat.le_refl _), small_of_vec HV.out, r2.more (by omega), ask2⟩

set_option maxHeartbeats 800000 in
theorem spec_anyVector (g P : Nat) (w : World) (h : Rdr w g P) (hP : P ≤ 70000) :
    Calls Try.prog 89 #[.pointer (some ⟨g, 0, none⟩)] w fun e w' => ∃ v ys, e = .returned v ∧ VecI w' w.heap.size w'.heap.size v ys ∧ Small ys ∧ Rdr w' g (P + 16) ∧ Asked g w w' := by
  go_enter Try.func89, Try.ntmps89
  go_wp2_with fail
  refine (reader_pick g P _ w h (by omega) (by omega) (by omega)).mono ?_
  rintro e w1 ⟨a, rfl, a0, _, a1, _, r1, k1⟩
  by_cases ha : a = 0
  · subst ha
    go_wp2_with fail
    refine (spec_someVector g (P + 1) w1 r1 (by omega)).mono ?_
    rintro e w2 ⟨v2, xs, rfl, o2, hv, r2, k2⟩
    obtain ⟨A2, c2, rfl, _, _, q2⟩ := o2.open_
    go_wp2_with fail
    refine (reader_spoil g (P + 1 + 12) _ _ xs _ w2 r2 (by omega) q2 hv (by omega) (by omega)).mono ?_
    rintro e w3 ⟨v3, ys, rfl, o3, hs, r3, k3⟩
    go_wp2_with fail
    go_ret
    exact ⟨_, ys, rfl, o3.wider (by have := k1.size; have := k2.size; omega) (Nat.le_refl _) (Nat.le_refl _), hs, r3, k1.trans (k2.trans k3)⟩
  · have z : (a == 0) = false := by rw [beq_eq_false_iff_ne]; exact ha
    go_wp2_with fail
    refine (spec_someVector g (P + 1) w1 r1 (by omega)).mono ?_
    rintro e w2 ⟨v2, xs, rfl, o2, hv, r2, k2⟩
    go_wp2_with fail
    go_ret
    exact ⟨_, xs, rfl, (o2.vec (Nat.le_refl _)).wider (by have := k1.size; omega) (Nat.le_refl _) (Nat.le_refl _), small_of_vec hv, r2.more (by omega), k1.trans k2⟩

theorem spec_anyKind (g P : Nat) (w : World) (h : Rdr w g P) (hP : P ≤ 70000) :
    Calls Try.prog 68 #[.pointer (some ⟨g, 0, none⟩)] w fun e w' => ∃ v, e = .returned (.int .i64 v) ∧ 0 ≤ v ∧ v ≤ 5 ∧ Rdr w' g (P + 1) ∧ Asked g w w' := by
  have o := lit_ri w [1, 2, 3, 4, 1, 2, 3, 4, 1, 2, 0, 5] (by decide) (by decide)
  have hg := h.lt
  have hgr : Grow w (w.alloc (.cells #[.int .i64 1, .int .i64 2, .int .i64 3, .int .i64 4, .int .i64 1, .int .i64 2, .int .i64 3, .int .i64 4, .int .i64 1, .int .i64 2, .int .i64 0, .int .i64 5] 3)) := (Below.refl _ _).alloc (Nat.le_refl _) _
  go_enter Try.func68, Try.ntmps68
  go_wp2_with fail
  refine (reader_one g P _ _ [1, 2, 3, 4, 1, 2, 3, 4, 1, 2, 0, 5] _ (h.grow hgr) (by omega) o.ri (fun ad had => by injection had with had; subst had; show w.heap.size ≠ g; omega) (by simp) (by simp)).mono ?_
  rintro e w4 ⟨x, rfl, hxm, r4, k4⟩
  have hx4 : 0 ≤ x ∧ x ≤ 5 := by simp at hxm; omega
  clear hxm o
  go_wp2_with fail
  go_ret
  exact ⟨x, rfl, hx4.1, hx4.2, r4, (Asked.of_grow hgr).trans k4⟩

theorem reads_cut {w : World} {B n : Nat} {A : Option Addr} {bs : List Int} (h : Reads w B 1 A n (bs.map (Value.int .u8))) {m : Nat} (hm : m ≤ n) : Reads w B 1 A m ((bs.take m).map (Value.int .u8)) := by
  have hl : bs.length = n := by simpa using h.1
  refine ⟨by simp; omega, fun h0 => ?_⟩
  obtain ⟨ad, hA, hb, hc⟩ := h.2 (by omega)
  refine ⟨ad, hA, hb, fun j u hu => hc j u ?_⟩
  rw [List.getElem?_map, List.getElem?_take] at hu
  rw [List.getElem?_map]
  split at hu
  · exact hu
  · simp at hu
theorem spec_newReader (A : Option Addr) (n c : Nat) (bs : List Int) (w : World) (hl : bs.length = n) (hr : Reads w w.heap.size 1 A n (bs.map (Value.int .u8))) (hf : ∀ x ∈ bs, 0 ≤ x ∧ x ≤ 255) (hc : n ≤ c) (hm : c ≤ maxLen) :
    Calls Try.prog 66 #[.slice A n c] w fun e w' => e = .returned (.pointer (some ⟨w.heap.size, 0, none⟩)) ∧ Rdr w' w.heap.size 0 ∧ Grow w w' := by
  unfold maxLen at hm
  have HL := Lib.hid hl
  clear hl
  by_cases h2 : 2000 < n
  · have hc2 : (2000 : Int) ≤ (c : Int) := by omega
    go_enter Try.func66, Try.ntmps66
    go_wp2
    go_ret
    have e : (bs.take 2000).length = 2000 := by rw [List.length_take, HL.out]; omega
    refine ⟨rfl, ⟨A, bs.take 2000, c, 0, ?_, Nat.le_refl _, ?_, fun x hx => hf x (List.mem_of_mem_take hx), by omega, by omega⟩, (Below.refl _ _).alloc (Nat.le_refl _) _⟩
    · rw [e]; exact Blk.new w _ _
    · rw [e]; exact (reads_cut hr (by omega)).alloc (Nat.le_refl _) _
  · go_enter Try.func66, Try.ntmps66
    go_wp2
    go_ret
    refine ⟨rfl, ⟨A, bs, c, 0, ?_, Nat.le_refl _, ?_, hf, by rw [HL.out]; omega, by rw [HL.out]; omega⟩, (Below.refl _ _).alloc (Nat.le_refl _) _⟩
    · rw [HL.out]; exact Blk.new w _ _
    · rw [HL.out]; exact hr.alloc (Nat.le_refl _) _
end Go.Proofs.Ytebiaodjodlloaa
