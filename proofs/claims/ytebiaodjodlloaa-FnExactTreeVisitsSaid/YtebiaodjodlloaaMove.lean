/- The contracts of Distance and MoveTo, in both texts. -/
import Derived.Test.YtebiaodjodlloaaDist
import Derived.Deep.RegionHeld3
import Derived.StillTailTactics
namespace Go.Proofs.Ytebiaodjodlloaa
open Go Go.RowKit

theorem kindB_iff {kind : Int} : kindB kind = true ↔ 1 ≤ kind ∧ kind ≤ 4 := by simp [kindB]
theorem impl_isKind (kind : Int) (w : World) :
    Calls Try.prog 53 #[.int .i64 kind] w fun e w' => e = .returned (.bool (kindB kind)) ∧ w = w' := by
  by_cases h1 : 1 ≤ kind
  · go_enter Try.func53, Try.ntmps53
    go_wp2
    go_ret
    exact ⟨ret_bool (by simp [kindB, h1]), rfl⟩
  · have hk : kindB kind = false := by simp [kindB, h1]
    go_enter Try.func53, Try.ntmps53
    go_wp2
    go_ret
    exact ⟨rfl, rfl⟩
theorem spec_validKind (kind : Int) (w : World) :
    Calls Try.prog 76 #[.int .i64 kind] w fun e w' => e = .returned (.bool (kindB kind)) ∧ w = w' := by
  go_enter Try.func76, Try.ntmps76
  go_wp2_with (go_at_call 57; refine (spec_inRange _ _ _ _).mono ?_; rintro e w' ⟨rfl, rfl⟩)
  go_ret
  exact ⟨rfl, rfl⟩
theorem impl_Distance (kind : Int) (A B : Option Addr) (xs ys : List Int) (c d : Nat) (w : World) (hx : RI w w.heap.size A xs) (hy : RI w w.heap.size B ys) :
    Calls Try.prog 23 #[.int .i64 kind, .slice A xs.length c, .slice B ys.length d] w fun e w' => e = .returned (.int .i64 (distV kind xs ys)) ∧ ∃ n, w' = w.drewN n := by
  cases hk : kindB kind
  · go_enter Try.func23, Try.ntmps23
    go_wp2_with fail
    refine (impl_isKind _ _).mono ?_; rintro e w' ⟨rfl, rfl⟩
    go_wp2_with fail
    go_ret
    exact ⟨ret_int (by simp [distV, hk]), 0, by simp [World.drewN]⟩
  · cases vx : vecB xs 4
    · go_enter Try.func23, Try.ntmps23
      go_wp2_with fail
      refine (impl_isKind _ _).mono ?_; rintro e w' ⟨rfl, rfl⟩
      go_wp2_with fail
      refine (impl_isVector _ _ _ _ _ hx).mono ?_; rintro e w' ⟨rfl, rfl⟩
      go_wp2_with fail
      go_ret
      exact ⟨ret_int (by simp [distV, hk, vx]), 0, by simp [World.drewN]⟩
    · cases vy : vecB ys 4
      · go_enter Try.func23, Try.ntmps23
        go_wp2_with fail
        refine (impl_isKind _ _).mono ?_; rintro e w' ⟨rfl, rfl⟩
        go_wp2_with fail
        refine (impl_isVector _ _ _ _ _ hx).mono ?_; rintro e w' ⟨rfl, rfl⟩
        go_wp2_with fail
        refine (impl_isVector _ _ _ _ _ hy).mono ?_; rintro e w' ⟨rfl, rfl⟩
        go_wp2_with fail
        go_ret
        exact ⟨ret_int (by simp [distV, hk, vx, vy]), 0, by simp [World.drewN]⟩
      · go_enter Try.func23, Try.ntmps23
        go_wp2_with fail
        refine (impl_isKind _ _).mono ?_; rintro e w' ⟨rfl, rfl⟩
        go_wp2_with fail
        refine (impl_isVector _ _ _ _ _ hx).mono ?_; rintro e w' ⟨rfl, rfl⟩
        go_wp2_with fail
        refine (impl_isVector _ _ _ _ _ hy).mono ?_; rintro e w' ⟨rfl, rfl⟩
        go_wp2_with fail
        refine (impl_distance _ _ _ _ _ _ _ _ hx hy vx vy).mono ?_; rintro e w' ⟨rfl, n, rfl⟩
        go_wp2_with fail
        go_ret
        exact ⟨ret_int (by simp [distV, hk, vx, vy]), n, rfl⟩
end Go.Proofs.Ytebiaodjodlloaa
