/- The contract of the function that draws some vectors. -/
import Derived.Test.YtaocmgafglalnaaMat
import Derived.Test.YtaocmgafglalnaaDraw
namespace Go.Proofs.Ytaocmgafglalnaa
set_option linter.unusedVariables false
open Go Go.RowKit

theorem info_ints : (Try.prog.info? 24).map (fun i => (i.zero, i.size, i.bytes)) = some (some (.slice none 0 0), 1, 24) := by kernel_rfl
/-- The row's values V read as the vectors l, each in memory from B on. -/
def RowsAt (w : World) (B : Nat) (V : List Value) (l : List (List Int)) : Prop :=
  V.length = l.length ∧ ∀ (i : Nat) (v : Value) (r : List Int), V[i]? = some v → l[i]? = some r → VecI w B w.heap.size v r ∧ Small r
theorem RowsAt.turn {w w' : World} {B lo hi : Nat} {V : List Value} {l : List (List Int)} (h : RowsAt w B V l) (ht : Turn lo hi w w') (hd : hi ≤ B) : RowsAt w' B V l :=
  ⟨h.1, fun i v r hv hr => by
    obtain ⟨a, b⟩ := h.2 i v r hv hr
    exact ⟨(a.turn ht (.inr hd)).wider (Nat.le_refl _) ht.size (Nat.le_refl _), b⟩⟩
theorem RowsAt.other {w w' : World} {B base n size : Nat} {e : TypeId} {u : Value} {us V : List Value} {l : List (List Int)} (h : RowsAt w B V l) (ho : w.ownsRow base e size u n us) (he : e ≠ 3) (hg : w.grownBy w' u.ownBlock) : RowsAt w' B V l :=
  ⟨h.1, fun i v r hv hr => by
    obtain ⟨a, b⟩ := h.2 i v r hv hr
    exact ⟨(a.other ho he hg).wider (Nat.le_refl _) hg.size (Nat.le_refl _), b⟩⟩
theorem RowsAt.snoc {w : World} {B : Nat} {V : List Value} {l : List (List Int)} {v : Value} {r : List Int} (h : RowsAt w B V l) (hv : VecI w B w.heap.size v r) (hs : Small r) : RowsAt w B (V ++ [v]) (l ++ [r]) :=
  ⟨by simp [h.1], fun i u q hu hq => by
    rcases Nat.lt_trichotomy i l.length with hi | hi | hi
    · rw [List.getElem?_append_left (by rw [h.1]; exact hi)] at hu
      rw [List.getElem?_append_left hi] at hq
      exact h.2 i u q hu hq
    · rw [List.getElem?_append_right (by rw [h.1]; omega), h.1, hi, Nat.sub_self] at hu
      rw [List.getElem?_append_right (by omega), hi, Nat.sub_self] at hq
      simp at hu hq
      subst hu hq
      exact ⟨hv, hs⟩
    · rw [List.getElem?_append_right (by omega)] at hq
      have : (l ++ [r]).length ≤ i := by simp; omega
      rw [← List.getElem?_append_right (by omega), List.getElem?_eq_none this] at hq
      cases hq⟩
theorem rr_of {w : World} {B base : Nat} {A : Option Addr} {n c : Nat} {V : List Value} {l : List (List Int)} (h : RowsAt w B V l) (ho : w.ownsRow base 24 1 (.slice A n c) n V) (hl : l.length ≤ 2000000) : RR w w.heap.size A l := by
  have hr := Reads.of_own ho
  have hn : n = l.length := by have := ho.1; rw [h.1] at this; omega
  refine ⟨fun k r hk => ?_, hl⟩
  have hlt := (List.getElem?_eq_some_iff.1 hk).1
  obtain ⟨ad, u, hA, hb, hu, hc⟩ := hr.at_ (k := k) (by omega)
  obtain ⟨hv, _⟩ := h.2 k u r hu hk
  obtain ⟨Ak, ck, rfl, h1, h2, h3⟩ := hv.open_
  exact ⟨ad, Ak, ck, hA, hb, hc, h1, h2, h3⟩
/-- A vector appended to a row of vectors. -/
theorem wpList_pushR {ops : Array Oper} {rest : List Oper} {o : Oper} {a : Act} {Q : Exit → Act → World → Prop} (hgd : o.guard = none) (s x : Operand)
    (ho : o.op = .call { callee := .builtin .append, args := #[s, x], argTypes := #[22, 22] })
    {wr : World} {B n c1 : Nat} {v val : Value} {V : List Value} {l : List (List Int)} {r : List Int} (hs : a.eval s = v) (hx : a.eval x = .slice (some ⟨wr.heap.size, 0, none⟩) 1 c1)
    (hown : wr.ownsRow B 24 1 v n V) (hB : B ≤ wr.heap.size) (hn : n ≤ 2000000) (hrows : RowsAt wr B V l) (hval : VecI wr B wr.heap.size val r) (hsm : Small r)
    (h : ∀ v' w', w'.ownsRow B 24 1 v' (n + 1) (V ++ [val]) → RowsAt w' B (V ++ [val]) (l ++ [r]) → Below B wr w' → wpList Try.prog ops Q rest (a.put o.dst v') w') :
    wpList Try.prog ops Q (o :: rest) a (wr.alloc (.cells #[val] 24)) := by
  obtain ⟨i0, hi0, hz0, hz1, hz2⟩ := info_parts info_ints
  have g0 : Grow wr (wr.alloc (.cells #[val] 24)) := (Below.refl _ _).alloc (Nat.le_refl _) _
  have h1c : val.oneCell' = true := by obtain ⟨A, c, rfl, _⟩ := hval.form; rfl
  refine wpList_push hgd s x 22 ho 24 i0 (.slice none 0 0) 1 24 Try.underlying22 hi0 hz0 hz1 hz2 rfl (by omega) hs hx (cs := #[val]) rfl (by simpa using h1c)
    (cells_new_at wr #[val] 24) (hown.alloc _) ((Below.refl B wr).alloc hB _) (by simp; omega) hn (by omega) ?_
  intro v' w' a1 a2 a3 a4
  have r0 := (hrows.snoc hval hsm).turn (g0.turn 0 0) (Nat.zero_le _)
  exact h v' w' (by simpa using a1) (r0.other (hown.alloc _) (by decide) a3) a2

set_option maxHeartbeats 3200000 in
theorem spec_DrawMeanOf (A : Option Addr) (n c : Nat) (bs : List Int) (w : World) (h : ArgB w A n c bs) :
    Calls Try.prog 37 #[.slice A n c] w fun e w' => ∃ A' c' l, e = .returned (.slice A' l.length c') ∧ RR w' w'.heap.size A' l ∧ (∀ r ∈ l, Small r) ∧ l.length ≤ c' ∧ c' ≤ maxLen ∧ l.length ≤ 18 ∧ Grow w w' := by
  go_enter Try.func37, Try.ntmps37
  go_wp2_with fail
  refine (spec_reader_of h).mono ?_
  rintro e w1 ⟨rfl, r1, g1⟩
  have l1 := r1.lt
  clear h
  go_wp2_with fail
  have hgo : Grow w1 (w1.alloc (.cells #[] 24)) := (Below.refl _ _).alloc (Nat.le_refl _) _
  have o := lit_ri (w1.alloc (.cells #[] 24)) [3, 2, 4, 1, 0, 16, 17] (by decide) (by decide)
  simp only [World.size_alloc] at o
  have hgr : Grow (w1.alloc (.cells #[] 24)) ((w1.alloc (.cells #[] 24)).alloc (.cells #[.int .i64 3, .int .i64 2, .int .i64 4, .int .i64 1, .int .i64 0, .int .i64 16, .int .i64 17] 3)) := (Below.refl _ _).alloc (Nat.le_refl _) _
  refine (reader_one _ _ _ _ [3, 2, 4, 1, 0, 16, 17] _ ((r1.grow hgo).grow hgr) (by omega) o.ri (fun ad had => by injection had with had; subst had; show w1.heap.size + 1 ≠ w.heap.size; omega) (by simp) (by simp)).mono ?_
  rintro e w2 ⟨x, rfl, hxm, r2, k2⟩
  have hx4 : 0 ≤ x ∧ x ≤ 17 := by simp at hxm; omega
  clear hxm o
  have own0 : (w1.alloc (.cells #[] 24)).ownsRow w1.heap.size 24 1 (.slice (some ⟨w1.heap.size, 0, none⟩) 0 0) 0 [] := by
    simpa using World.ownsRow_lit (base := w1.heap.size) (e := 24) (size := 1) w1 #[] 0 (Nat.le_refl _) (by unfold maxLen; omega) rfl
  have own2 : w2.ownsRow w1.heap.size 24 1 (.slice (some ⟨w1.heap.size, 0, none⟩) 0 0) 0 [] :=
    ownsRow_of_block (own0.alloc _) (fun q hq => by
      have hq' : q = w1.heap.size := by simpa [Value.ownBlock] using hq.symm
      subst hq'
      exact k2.block _ (by simp; omega) (by omega))
  have ask2 : Asked w.heap.size w1 w2 := (Asked.of_grow (hgo.trans hgr)).trans k2
  clear own0 hgo hgr k2 r1
  go_wp2_with fail
  go_loopw [4, 5] (fun v i wr => ∃ (l : List (List Int)) (V : List Value) (z : Int), i = .int .i64 z ∧ 0 ≤ z ∧ z + l.length ≤ 17 ∧ wr.ownsRow w1.heap.size 24 1 v l.length V ∧ RowsAt wr w1.heap.size V l ∧ Rdr wr w.heap.size (1 + 12 * l.length) ∧ Asked w.heap.size w1 wr) (fun _ i _ => (intOf i).toNat)
  case atStart => exact ⟨[], [], x, rfl, hx4.1, by simp; omega, own2, ⟨rfl, fun i v r hv => by simp at hv⟩, r2, ask2⟩
  case round =>
    obtain ⟨l, V, z, rfl, hz0, hz1, hown, hrows, hr, ha⟩ := hrel
    have hll : l.length ≤ 17 := by omega
    by_cases hzp : 0 < z
    · go_wp2_with fail
      refine (spec_someVector _ _ _ hr (by omega)).mono ?_
      rintro e w3 ⟨v3, xs, rfl, o3, hv3, r3, k3⟩
      have hlo := hown.lt
      have e3 := k3.size
      have ea := ha.size
      have hown3 := ownsRow_of_block hown (fun q hq => k3.block q (hlo q hq).2 (by have := (hlo q hq).1; omega))
      have hrows3 := hrows.turn k3 (by omega)
      have hval : VecI w3 w1.heap.size w3.heap.size v3 xs := (o3.vec (Nat.le_refl _)).wider ea (Nat.le_refl _) (Nat.le_refl _)
      have hsm := small_of_vec hv3
      have hB3 : w1.heap.size ≤ w3.heap.size := by omega
      have hn3 : l.length ≤ 2000000 := by omega
      clear hown hrows hlo o3
      obtain ⟨A3, c3, rfl, _, _, _⟩ := hval.open_
      go_wp2_with (at_builtin; go_must (refine wpList_pushR rfl _ _ rfl rfl rfl hown3 hB3 hn3 hrows3 hval hsm ?_); intro v4 w4 hown4 hrows4 hb4)
      go_roundw
      case rel => exact ⟨l ++ [xs], V ++ [.slice A3 xs.length c3], z - 1, rfl, by omega, by simp; omega, by simpa using hown4, hrows4, (r3.below hb4 l1).more (by simp; omega), (ha.trans k3).below hb4 (Nat.le_refl _)⟩
      case measure => simp [intOf]; omega
    · have hle := ha.size
      go_wp2_with fail
      refine (reader_pick _ _ _ _ hr (by omega) (by omega) (by omega)).mono ?_
      rintro e w3 ⟨p, rfl, p0, _, p1, _, r3, k3⟩
      have hlo := hown.lt
      have hown3 := ownsRow_of_block hown (fun q hq => k3.block q (hlo q hq).2 (by have := (hlo q hq).1; omega))
      have hrows3 := hrows.turn k3 (by omega)
      have e3 := k3.size
      have fin : ∀ (W : World) (v : Value) (L : List (List Int)) (U : List Value), W.ownsRow w1.heap.size 24 1 v L.length U → RowsAt W w1.heap.size U L → L.length ≤ 18 → Asked w.heap.size w1 W →
          ∃ A' c' l, Ending.returned v = .returned (.slice A' l.length c') ∧ RR W W.heap.size A' l ∧ (∀ r ∈ l, Small r) ∧ l.length ≤ c' ∧ c' ≤ maxLen ∧ l.length ≤ 18 ∧ Grow w W := fun W v L U h1 h2 h3 h4 => by
        have hs : ∀ r ∈ L, Small r := fun r hr => by
          obtain ⟨i, hi⟩ := List.getElem?_of_mem hr
          have hiL := (List.getElem?_eq_some_iff.1 hi).1
          exact (h2.2 i (U[i]'(by rw [h2.1]; exact hiL)) r (List.getElem?_eq_getElem _) hi).2
        rcases h1.2 with ⟨rfl, h0⟩ | ⟨q, cap, cur, rfl, _, _, hn, hm, _⟩
        · exact ⟨none, 0, L, by rw [h0], ⟨fun k r hk => by have := (List.getElem?_eq_some_iff.1 hk).1; omega, by omega⟩, hs, by omega, by simp [maxLen], h3, grow_asked g1 h4⟩
        · exact ⟨_, cap, L, rfl, rr_of h2 h1 (by omega), hs, hn, hm, h3, grow_asked g1 h4⟩
      have FIN := Lib.hid fin
      clear hown hrows hlo fin
      by_cases hp : p = 0
      · subst hp
        go_wp2_with fail
        refine (spec_anyVector _ _ _ r3 (by omega)).mono ?_
        rintro e w4 ⟨v4, ys, rfl, o4, s4, r4, k4⟩
        have hlo := hown3.lt
        have e4 := k4.size
        have hown4 := ownsRow_of_block hown3 (fun q hq => k4.block q (hlo q hq).2 (by have := (hlo q hq).1; omega))
        have hrows4 := hrows3.turn k4 (by omega)
        have hval : VecI w4 w1.heap.size w4.heap.size v4 ys := o4.wider (by omega) (Nat.le_refl _) (Nat.le_refl _)
        have hB4 : w1.heap.size ≤ w4.heap.size := by omega
        have hn4 : l.length ≤ 2000000 := by omega
        clear hown3 hrows3 hlo o4
        obtain ⟨A4, c4, rfl, _, _, _⟩ := hval.open_
        go_wp2_with (at_builtin; go_must (refine wpList_pushR rfl _ _ rfl rfl rfl hown4 hB4 hn4 hrows4 hval s4 ?_); intro v5 w5 hown5 hrows5 hb5)
        go_ret
        exact FIN.out _ _ _ _ (by simpa using hown5) hrows5 (by simp; omega) ((ha.trans (k3.trans k4)).below hb5 (Nat.le_refl _))
      · have hpz : (p == 0) = false := by rw [beq_eq_false_iff_ne]; exact hp
        go_wp2_with fail
        go_ret
        exact FIN.out _ _ _ _ hown3 hrows3 (by omega) (ha.trans k3)
end Go.Proofs.Ytaocmgafglalnaa
