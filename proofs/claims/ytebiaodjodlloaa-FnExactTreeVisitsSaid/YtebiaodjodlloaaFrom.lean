/- A region that draws its order and holds calls that make memory but hand back a value that does not hang on it: one walk of the text's order serves every order. -/
import Derived.Test.YtebiaodjodlloaaMem
import Derived.Deep.QuietTactic
import Derived.BigQuiet
namespace Go.Proofs.Ytebiaodjodlloaa
set_option linter.unusedVariables false
open Go Go.RowKit

theorem below_grow {B : Nat} {a b c : World} (h : Below B a b) (k : Grow b c) (hB : B ≤ b.heap.size) : Below B a c := h.trans (Below.mono k hB)
theorem below_turn {B lo hi : Nat} {a b c : World} (h : Below B a b) (k : Turn lo hi b c) (hB : B ≤ b.heap.size) (hl : B ≤ lo) : Below B a c := h.trans (k.below hB hl)
theorem RI.far {a b : World} {A : Option Addr} {xs : List Int} (h : RI a a.heap.size A xs) (hb : Below a.heap.size a b) : RI b b.heap.size A xs := (h.below hb).more hb.size
/-- A world that has grown from W. -/
structure From (W : World) where
  w : World
  g : Grow W w
instance (W : World) : Nonempty (From W) := ⟨⟨W, Grow.refl W⟩⟩
theorem From.cell {W : World} (s : From W) {p : Addr} (hp : p.block < W.heap.size) : s.w.cell? p = W.cell? p := s.g.cell hp
theorem From.call {P : Program} {f : FuncId} {args : Array Value} {W : World} {s : From W} {v : Value}
    (h : Calls P f args s.w fun e w' => e = .returned v ∧ Grow s.w w') : Calls P f args s.w fun e w'' => e = .returned v ∧ ∃ s' : From W, w'' = s'.w :=
  h.mono fun _ w' ⟨he, hg⟩ => ⟨he, ⟨w', s.g.trans hg⟩, rfl⟩
theorem From.call_same {P : Program} {f : FuncId} {args : Array Value} {W : World} {s : From W} {v : Value}
    (h : Calls P f args s.w fun e w' => e = .returned v ∧ s.w = w') : Calls P f args s.w fun e w'' => e = .returned v ∧ ∃ s' : From W, w'' = s'.w :=
  h.mono fun _ w' ⟨he, hg⟩ => ⟨he, s, hg.symm⟩
theorem From.call_drew {P : Program} {f : FuncId} {args : Array Value} {W : World} {s : From W} {v : Value}
    (h : Calls P f args s.w fun e w' => e = .returned v ∧ ∃ n, w' = s.w.drewN n) : Calls P f args s.w fun e w'' => e = .returned v ∧ ∃ s' : From W, w'' = s'.w :=
  h.mono fun _ w' ⟨he, n, hg⟩ => ⟨he, ⟨w', by rw [hg]; exact s.g.trans (Grow.drewN _ _)⟩, rfl⟩
theorem wpQuiet_mono {P : Program} {ops : Array Oper} {C : World → Prop} {Q Q' : Act → Prop} (hq : ∀ a, Q a → Q' a) : ∀ {l : List Oper} {a : Act}, wpQuiet P ops C Q l a → wpQuiet P ops C Q' l a
  | [], _, h => hq _ h
  | o :: rest, a, h => by
    unfold wpQuiet at h ⊢
    split
    · rename_i hw
      rw [if_pos hw] at h
      exact Oper.quiet_mono (fun a' h' => wpQuiet_mono hq h') h
    · rename_i hw
      rw [if_neg hw] at h
      exact wpQuiet_mono hq h
theorem wp_region_from {P : Program} {id : Nat} {Q : Exit → Act → World → Prop} {a : Act} {w : World} {l : List Oper} (hm : P.follows .mixedOrders = true) (hB : Region.lexB .any l.toArray = true)
    (h : wpQuiet P l.toArray (fun w' => ∃ s : From w, w' = s.w) (fun a' => ∀ w', Grow w w' → Q .normal a' w') l a) : (Code.region id l.toArray true).wp P Q a w := by
  refine wp_region_quiet (C := fun w' => ∃ s : From w, w' = s.w) hm hB ⟨⟨w.drew, Grow.drew w⟩, rfl⟩ ?_
  have h2 : wpQuiet P l.toArray (fun w' => ∃ s : From w, w' = s.w) (fun a' => ∀ w', (∃ s : From w, w' = s.w) → Q .normal a' w') l a :=
    wpQuiet_mono (fun a' h w' hs => by obtain ⟨s, hs⟩ := hs; rw [hs]; exact h s.w s.g) h
  simpa using h2
end Go.Proofs.Ytebiaodjodlloaa
