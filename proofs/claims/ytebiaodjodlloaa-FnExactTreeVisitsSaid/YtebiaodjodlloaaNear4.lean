/- The nearest items, and the items within a distance: the reference's functions. -/
import Derived.Test.YtebiaodjodlloaaNear3
namespace Go.Proofs.Ytebiaodjodlloaa
set_option linter.unusedVariables false
open Go Go.RowKit

theorem spec_validQuery (A : Option Addr) (c : Nat) (l : List It) (kind : Int) (B : Option Addr) (d : Nat) (xs : List Int) (w : World) (h : RS w w.heap.size A l) (hx : RI w w.heap.size B xs) :
    Calls Try.prog 56 #[.slice A l.length c, .int .i64 kind, .slice B xs.length d] w fun e w' => e = .returned (.bool (queryOk l kind xs)) ∧ Grow w w' := by
  have HN := Lib.hid (show queryOk l kind xs = (storeB l && kindB kind && vecB xs 4) from rfl)
  cases hs : storeB l
  · go_enter Try.func56, Try.ntmps56
    go_wp2_with (go_at_call 43; refine (spec_validStore _ _ _ _ h).mono ?_; rintro e w1 ⟨he, g1⟩; rw [hs] at he; subst he)
    go_ret
    exact ⟨ret_bool (by rw [HN.out, hs]; rfl), g1⟩
  · have HS := Lib.hid hs
    go_enter Try.func56, Try.ntmps56
    go_wp2_with fail
    refine (spec_validStore _ _ _ _ h).mono ?_; rintro e w1 ⟨he, g1⟩; rw [hs] at he; subst he
    clear hs
    cases hk : kindB kind
    · go_wp2_with (go_at_call 76; refine (spec_validKind _ _).mono ?_; rintro e w' ⟨he, rfl⟩; rw [hk] at he; subst he)
      go_ret
      exact ⟨ret_bool (by rw [HN.out, HS.out, hk]; rfl), g1⟩
    · have HK := Lib.hid hk
      go_wp2_with fail
      refine (spec_validKind _ _).mono ?_; rintro e w' ⟨he, rfl⟩; rw [hk] at he; subst he
      clear hk
      have hx1 := hx.grow g1
      go_wp2_with fail
      refine (spec_isVector _ _ _ _ hx1).mono ?_; rintro e w' ⟨rfl, rfl⟩
      go_wp2_with fail
      go_ret
      exact ⟨ret_bool (by rw [HN.out, HS.out, HK.out]; rfl), g1⟩

theorem insToK_len {α : Type} (lt : α → α → Bool) (d : α) (l : List α) (k : Nat) : ∀ n, (insToK lt d l k n).length ≤ n
  | 0 => by simp [insToK]
  | n + 1 => by have := insToK_len lt d l k n; rw [insToK, List.length_take, insL_len]; omega
theorem hitsL_at {l : List It} {n : Nat} {x : It} {kind : Int} {c : List Int} (hx : l[n]? = some x) : (hitsL l kind c)[n]?.getD Ht.zero = hitOf kind c x := by
  rw [hitsL, List.getElem?_map, hx]; rfl
theorem nearest_all {l : List It} (ha : AscK l) (kind : Int) (c : List Int) (k : Nat) : insToK htB Ht.zero (hitsL l kind c) k l.length = (sortedHits l kind c).take k :=
  insToK_eq htB_ord (hits_parted ha kind c) k (by simp [hitsL])
end Go.Proofs.Ytebiaodjodlloaa
