/- The contract of the function that draws some vectors. -/
import Derived.Test.YtbbiffaggnllnaaMat
import Derived.Test.YtbbiffaggnllnaaDraw
namespace Go.Proofs.Ytbbiffaggnllnaa
set_option linter.unusedVariables false
open Go Go.RowKit

theorem info_ints : (Try.prog.info? 24).map (fun i => (i.zero, i.size, i.bytes)) = some (some (.slice none 0 0), 1, 24) := by kernel_rfl
/-- The row's values V read as the vectors l, each in memory from B on. -/
def RowsAt (w : World) (B : Nat) (V : List Value) (l : List (List Int)) : Prop :=
  V.length = l.length ∧ ∀ (i : Nat) (v : Value) (r : List Int), V[i]? = some v → l[i]? = some r → VecI w B w.heap.size v r ∧ Small r
theorem RowsAt.turn {w w' : World} {B lo hi : Nat} {V : List Value} {l : List (List Int)} (h : RowsAt w B V l) (ht : Turn lo hi w w') (hd : hi ≤ B) : RowsAt w' B V l :=
  ⟨h.1, fun i v r hv hr => by
    obtain ⟨a, b⟩ := h.2 i v r hv hr
    exact ⟨(a.turn ht (.inr hd)).wider (Nat.le_refl _) ht.size (Nat.le_refl _), b⟩⟩
theorem RowsAt.other {w w' : World} {B base n size : Nat} {e : TypeId} {u : Value} {us V : List Value} {l : List (List Int)} (h : RowsAt w B V l) (ho : w.ownsRow base e size u n us) (he : e ≠ 3) (hg : w.grownBy w' u.ownBlock) : RowsAt w' B V l :=
  ⟨h.1, fun i v r hv hr => by
    obtain ⟨a, b⟩ := h.2 i v r hv hr
    exact ⟨(a.other ho he hg).wider (Nat.le_refl _) hg.size (Nat.le_refl _), b⟩⟩
theorem RowsAt.snoc {w : World} {B : Nat} {V : List Value} {l : List (List Int)} {v : Value} {r : List Int} (h : RowsAt w B V l) (hv : VecI w B w.heap.size v r) (hs : Small r) : RowsAt w B (V ++ [v]) (l ++ [r]) :=
  ⟨by simp [h.1], fun i u q hu hq => by
    rcases Nat.lt_trichotomy i l.length with hi | hi | hi
    · rw [List.getElem?_append_left (by rw [h.1]; exact hi)] at hu
      rw [List.getElem?_append_left hi] at hq
      exact h.2 i u q hu hq
    · rw [List.getElem?_append_right (by rw [h.1]; omega), h.1, hi, Nat.sub_self] at hu
      rw [List.getElem?_append_right (by omega), hi, Nat.sub_self] at hq
      simp at hu hq
      subst hu hq
      exact ⟨hv, hs⟩
    · rw [List.getElem?_append_right (by omega)] at hq
      have : (l ++ [r]).length ≤ i := by simp; omega
      rw [← List.getElem?_append_right (by omega), List.getElem?_eq_none this] at hq
      cases hq⟩
theorem rr_of {w : World} {B base : Nat} {A : Option Addr} {n c : Nat} {V : List Value} {l : List (List Int)} (h : RowsAt w B V l) (ho : w.ownsRow base 24 1 (.slice A n c) n V) (hl : l.length ≤ 2000000) : RR w w.heap.size A l := by
  have hr := Reads.of_own ho
  have hn : n = l.length := by have := ho.1; rw [h.1] at this; omega
  refine ⟨fun k r hk => ?_, hl⟩
  have hlt := (List.getElem?_eq_some_iff.1 hk).1
  obtain ⟨ad, u, hA, hb, hu, hc⟩ := hr.at_ (k := k) (by omega)
  obtain ⟨hv, _⟩ := h.2 k u r hu hk
  obtain ⟨Ak, ck, rfl, h1, h2, h3⟩ := hv.open_
  exact ⟨ad, Ak, ck, hA, hb, hc, h1, h2, h3⟩
/-- A vector appended to a row of vectors. -/
theorem wpList_pushR {ops : Array Oper} {rest : List Oper} {o : Oper} {a : Act} {Q : Exit → Act → World → Prop} (hgd : o.guard = none) (s x : Operand)
    (ho : o.op = .call { callee := .builtin .append, args := #[s, x], argTypes := #[76, 76] })
    {wr : World} {B n c1 : Nat} {v val : Value} {V : List Value} {l : List (List Int)} {r : List Int} (hs : a.eval s = v) (hx : a.eval x = .slice (some ⟨wr.heap.size, 0, none⟩) 1 c1)
    (hown : wr.ownsRow B 24 1 v n V) (hB : B ≤ wr.heap.size) (hn : n ≤ 2000000) (hrows : RowsAt wr B V l) (hval : VecI wr B wr.heap.size val r) (hsm : Small r)
    (h : ∀ v' w', w'.ownsRow B 24 1 v' (n + 1) (V ++ [val]) → RowsAt w' B (V ++ [val]) (l ++ [r]) → Below B wr w' → wpList Try.prog ops Q rest (a.put o.dst v') w') :
    wpList Try.prog ops Q (o :: rest) a (wr.alloc (.cells #[val] 24)) := by
  obtain ⟨i0, hi0, hz0, hz1, hz2⟩ := info_parts info_ints
  have g0 : Grow wr (wr.alloc (.cells #[val] 24)) := (Below.refl _ _).alloc (Nat.le_refl _) _
  have h1c : val.oneCell' = true := by obtain ⟨A, c, rfl, _⟩ := hval.form; rfl
  refine wpList_push hgd s x 76 ho 24 i0 (.slice none 0 0) 1 24 Try.underlying76 hi0 hz0 hz1 hz2 rfl (by omega) hs hx (cs := #[val]) rfl (by simpa using h1c)
    (cells_new_at wr #[val] 24) (hown.alloc _) ((Below.refl B wr).alloc hB _) (by simp; omega) hn (by omega) ?_
  intro v' w' a1 a2 a3 a4
  have r0 := (hrows.snoc hval hsm).turn (g0.turn 0 0) (Nat.zero_le _)
  exact h v' w' (by simpa using a1) (r0.other (hown.alloc _) (by decide) a3) a2

end Go.Proofs.Ytbbiffaggnllnaa
