/- The contracts of getting an item, in both texts. -/
import Derived.Test.YtbbiffaggnllnaaPut
namespace Go.Proofs.Ytbbiffaggnllnaa
set_option linter.unusedVariables false
open Go Go.RowKit

theorem getV_no {l : List It} {k : Int} (h : storeB l = false) : dropOk l k = false ∧ getV l k = It.zero := by
  have : dropOk l k = false := by rw [dropOk, h]; rfl
  rw [getV, this]; exact ⟨rfl, rfl⟩
theorem getV_none {l : List It} {k : Int} (h : hasK l k = false) : dropOk l k = false ∧ getV l k = It.zero := by
  have : dropOk l k = false := by rw [dropOk, h, Bool.and_false]
  rw [getV, this]; exact ⟨rfl, rfl⟩
theorem getV_yes {l : List It} {k : Int} {x : It} (h : storeB l = true) (h2 : hasK l k = true) (h3 : l.find? (isK k) = some x) : dropOk l k = true ∧ getV l k = x := by
  have : dropOk l k = true := by rw [dropOk, h, h2]; rfl
  rw [getV, this, h3]; exact ⟨rfl, rfl⟩
/-- What a call hands back of an item: its value u, and true or false. -/
def GotI (w w' : World) (l : List It) (k : Int) (e : Ending) : Prop :=
  ∃ u, e = .returned (.tuple #[.agg #[.int .i64 (getV l k).key, u, .int .i64 (getV l k).tags], .bool (dropOk l k)]) ∧ OwnI w' w.heap.size w'.heap.size u (getV l k).pt ∧ Grow w w'

theorem cells3 {w0 w1 : World} {g : Nat} {t : TypeId} {x0 x1 x2 : Value} (a : Blk w0 g t #[x0, x1, x2]) (hg : Grow w0 w1) :
    w1.cell? ⟨g, 0, none⟩ = some x0 ∧ w1.cell? ⟨g, 1, none⟩ = some x1 ∧ w1.cell? ⟨g, 2, none⟩ = some x2 ∧ w1.frozen? ⟨g, 0, none⟩ = false ∧ w1.frozen? ⟨g, 1, none⟩ = false ∧ w1.frozen? ⟨g, 2, none⟩ = false := by
  have a' := a.below hg a.lt
  exact ⟨a'.cell 0, a'.cell 1, a'.cell 2, a'.frozen 0, a'.frozen 1, a'.frozen 2⟩

set_option maxHeartbeats 1600000 in
theorem impl_GetItem (A : Option Addr) (c : Nat) (l : List It) (k : Int) (w : World) (h : RS w w.heap.size A l) :
    Calls Try.prog 65 #[.slice A l.length c, .int .i64 k] w fun e w' => GotI w w' l k e := by
  have hl := h.len
  obtain ⟨w0, hw0⟩ : ∃ w0, w0 = w.alloc (.cells #[.int .i64 0, .slice none 0 0, .int .i64 0] 48) := ⟨_, rfl⟩
  have g0 : Grow w w0 := by rw [hw0]; exact (Below.refl _ _).alloc (Nat.le_refl _) _
  have b0 : Blk w0 w.heap.size 48 #[.int .i64 0, .slice none 0 0, .int .i64 0] := by rw [hw0]; exact Blk.new _ _ _
  have h0 := h.grow g0
  have HW := Lib.hid hw0
  clear hw0
  unfold GotI
  cases hs : storeB l
  · obtain ⟨h1, h2⟩ := getV_no (k := k) hs
    rw [h1, h2]
    clear h1 h2
    go_enter Try.func65, Try.ntmps65
    go_wp2_with fail
    rw [← HW.out]
    refine (impl_ValidStore _ _ _ _ h0).mono ?_; rintro e w1 ⟨he, g1⟩; rw [hs] at he; subst he
    obtain ⟨d0, d1, d2, e0, e1, e2⟩ := cells3 b0 g1
    go_wp2_with fail
    exact bodyPost_ret (v := .tuple #[.agg #[.int .i64 0, .slice none 0 0, .int .i64 0], .bool false]) (by simp [results, Try.results65, go_sem, d0, d1, d2]) rfl
      ⟨_, rfl, OwnI.nil_, (three_set g0 g1 (Nat.le_refl _) b0.lt _ _ _).1⟩
  · have HS := Lib.hid hs
    go_enter Try.func65, Try.ntmps65
    go_wp2_with fail
    rw [← HW.out]
    refine (impl_ValidStore _ _ _ _ h0).mono ?_; rintro e w1 ⟨he, g1⟩; rw [hs] at he; subst he
    clear hs HW
    go_wp2_with fail
    refine (impl_indexOf _ _ _ k _ (h0.grow g1)).mono ?_; rintro e w2 ⟨i, rfl, hi, g2⟩
    have g12 : Grow w0 w2 := g1.trans g2
    rcases hi with ⟨hno, rfl⟩ | ⟨hyes, i, rfl, hil, _, hfind⟩
    · obtain ⟨h1, h2⟩ := getV_none hno
      have H1 := Lib.hid h1
      have H2 := Lib.hid h2
      clear h1 h2 hno
      obtain ⟨d0, d1, d2, e0, e1, e2⟩ := cells3 b0 g12
      go_wp2_with fail
      rw [H1.out, H2.out]
      exact bodyPost_ret (v := .tuple #[.agg #[.int .i64 0, .slice none 0 0, .int .i64 0], .bool false]) (by simp [results, Try.results65, go_sem, d0, d1, d2]) rfl
        ⟨_, rfl, OwnI.nil_, (three_set g0 g12 (Nat.le_refl _) b0.lt _ _ _).1⟩
    · obtain ⟨h1, h2⟩ := getV_yes HS.out hyes hfind
      have H1 := Lib.hid h1
      have H2 := Lib.hid h2
      clear h1 h2 hyes hfind
      obtain ⟨ad, Ak, ck, x, rfl, had, c0, c1, c2, hc1, hc2, hri, hf, hg, hx⟩ := (h0.grow g12).at_ hil
      have hli : (i : Int) < l.length := by omega
      go_wp2_with fail
      refine (impl_copyItem x _ _ _ hri).mono ?_; rintro e w3 ⟨u, rfl, o3, g3⟩
      obtain ⟨d0, d1, d2, e0, e1, e2⟩ := cells3 b0 (g12.trans g3)
      obtain ⟨Au, cu, rfl, _, _, _⟩ := o3.open_
      go_wp2_with fail
      rw [H1.out, H2.out, itI_of hx.out]
      have o3' : OwnI w3 w0.heap.size w3.heap.size (.slice Au x.pt.length cu) x.pt := o3.lower g12.size (Nat.le_refl _)
      exact bodyPost_ret (v := .tuple #[.agg #[.int .i64 x.key, .slice Au x.pt.length cu, .int .i64 x.tags], .bool true]) (by simp [results, Try.results65, go_sem, d0, d1, d2]) rfl
        ⟨_, rfl, three_own g0 (g12.trans g3) (Nat.le_refl _) b0.lt _ _ _ o3', (three_set g0 (g12.trans g3) (Nat.le_refl _) b0.lt _ _ _).1⟩

end Go.Proofs.Ytbbiffaggnllnaa
