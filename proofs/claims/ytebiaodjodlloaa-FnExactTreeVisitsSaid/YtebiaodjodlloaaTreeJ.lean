/- Trees: what the reference hands back; whether nodes are the tree of a store, in both texts. -/
import Derived.Test.YtebiaodjodlloaaTreeR
import Derived.Test.YtebiaodjodlloaaDLaw
namespace Go.Proofs.Ytebiaodjodlloaa
set_option linter.unusedVariables false
open Go Go.RowKit

theorem spec_grown (A : Option Addr) (c : Nat) (l : List It) (kind : Int) (w : World) (h : RS w w.heap.size A l) (hc : l.length ≤ c) (hcm : c ≤ maxLen) (hl : l.length ≤ 1000) (hkd : KeysD l) (hv : ∀ y ∈ l, vecB y.pt 4 = true) :
    Calls Try.prog 45 #[.slice (some ⟨w.heap.size, 0, none⟩) 0 0, .slice A l.length c, .int .i64 kind] (w.alloc (.cells #[] 30)) fun e w' => ∃ u, e = .returned u ∧ OwnK nodeP w' w.heap.size w'.heap.size u ((treeT l kind).nodes 0) ∧ Grow w w' := by
  obtain ⟨p, rfl, hrow, hpt, hA⟩ := h.rowI
  have hpl : (p.map Prod.fst).length = p.length := List.length_map ..
  have gA : Grow w (w.alloc (.cells #[] 30)) := (Below.refl _ _).alloc (Nat.le_refl _) _
  have ho : OwnK nodeP (w.alloc (.cells #[] 30)) w.heap.size (w.alloc (.cells #[] 30)).heap.size (.slice (some ⟨w.heap.size, 0, none⟩) 0 0) [] := (OwnK.lit (p := nodeP) w).up
  have hg := spec_grow kind w.heap.size w.heap.size p.length p A c [] _ _ (Nat.le_refl _) (by rw [← hpl]; exact hc) hcm (by simp; rw [← hpl]; exact hl) hkd (fun q hq => hv _ (List.mem_map_of_mem hq)) (hrow.grow gA) (fun q hq => (hpt q hq).keep gA (Nat.le_refl _)) ho (Nat.le_refl _) gA.size
  rw [hpl]
  refine hg.mono ?_
  rintro e w' ⟨v', rfl, o', F, _⟩
  refine ⟨v', rfl, ?_, ?_⟩
  · have ht : treeT (p.map Prod.fst) kind = treeOf kind p.length (p.map Prod.fst) := by unfold treeT; rw [hpl]
    rw [ht]
    simpa using o'
  · refine Below.trans gA (F.below (B := w.heap.size) gA.size (fun k hk hx => ?_))
    have hx' : some w.heap.size = some k := hx
    injection hx' with hx'
    omega
theorem spec_BuildTree (A : Option Addr) (c : Nat) (l : List It) (kind : Int) (w : World) (h : RS w w.heap.size A l) (hc : l.length ≤ c) (hcm : c ≤ maxLen) :
    Calls Try.prog 14 #[.slice A l.length c, .int .i64 kind] w fun e w' => ∃ u, e = .returned u ∧ OwnK nodeP w' w.heap.size w'.heap.size u (treeV l kind) ∧ Grow w w' := by
  have HN := Lib.hid (show treeOk l kind = (storeB l && treeKind kind) from rfl)
  cases hs : storeB l
  · rw [treeV_no (by rw [HN.out, hs]; rfl)]
    go_enter Try.func14, Try.ntmps14
    go_wp2_with (go_at_call 43; refine (spec_validStore _ _ _ _ h).mono ?_; rintro e w1 ⟨he, g1⟩; rw [hs] at he; subst he)
    go_ret
    exact ⟨_, rfl, OwnK.nil_, g1⟩
  · cases hk : treeKind kind
    · rw [treeV_no (by rw [HN.out, hk, Bool.and_false])]
      go_enter Try.func14, Try.ntmps14
      go_wp2_with (first | (go_at_call 43; refine (spec_validStore _ _ _ _ h).mono ?_; rintro e w1 ⟨he, g1⟩; rw [hs] at he; subst he) | (go_at_call 44; refine (spec_isMetric _ _).mono ?_; rintro e w' ⟨he, rfl⟩; rw [hk] at he; subst he))
      go_ret
      exact ⟨_, rfl, OwnK.nil_, g1⟩
    · rw [treeV_of (by rw [HN.out, hs, hk]; rfl)]
      have HS := Lib.hid hs
      have hl := storeB_len hs
      go_enter Try.func14, Try.ntmps14
      go_wp2_with (first | (go_at_call 43; refine (spec_validStore _ _ _ _ h).mono ?_; rintro e w1 ⟨he, g1⟩; rw [hs] at he; subst he) | (go_at_call 44; refine (spec_isMetric _ _).mono ?_; rintro e w' ⟨he, rfl⟩; rw [hk] at he; subst he))
      refine (spec_grown _ _ l kind w1 (h.grow g1) hc hcm (by omega) (storeB_asc HS.out).keysD (store_vecs HS.out)).mono ?_; rintro e w2 ⟨u, rfl, o2, g2⟩
      go_wp2_with fail
      go_ret
      exact ⟨_, rfl, o2.lower g1.size (Nat.le_refl _), g1.trans g2⟩

def isTreeV (ns : List Nd) (l : List It) (kind : Int) : Bool := treeOk l kind && decide (ns = (treeT l kind).nodes 0)
theorem isTreeV_no {ns : List Nd} {l : List It} {kind : Int} (h : treeOk l kind = false) : isTreeV ns l kind = false := by rw [isTreeV, h]; rfl
theorem isTreeV_of {ns : List Nd} {l : List It} {kind : Int} (h : treeOk l kind = true) : isTreeV ns l kind = decide (ns = (treeT l kind).nodes 0) := by rw [isTreeV, h]; rfl
theorem impl_IsTreeOf (B : Option Addr) (d : Nat) (ns : List Nd) (A : Option Addr) (c : Nat) (l : List It) (kind : Int) (w : World) (hn : RK nodeP w w.heap.size B ns) (h : RS w w.heap.size A l) (hc : l.length ≤ c) (hcm : c ≤ maxLen) :
    Calls Try.prog 20 #[.slice B ns.length d, .slice A l.length c, .int .i64 kind] w fun e w' => e = .returned (.bool (isTreeV ns l kind)) ∧ Grow w w' := by
  have HN := Lib.hid (show treeOk l kind = (storeB l && treeKind kind) from rfl)
  cases hs : storeB l
  · have HT := Lib.hid (isTreeV_no (ns := ns) (show treeOk l kind = false by rw [HN.out, hs]; rfl))
    go_enter Try.func20, Try.ntmps20
    go_wp2_with (go_at_call 40; refine (impl_ValidStore _ _ _ _ h).mono ?_; rintro e w1 ⟨he, g1⟩; rw [hs] at he; subst he)
    go_ret
    exact ⟨ret_bool HT.out.symm, g1⟩
  · cases hk : treeKind kind
    · have HT := Lib.hid (isTreeV_no (ns := ns) (show treeOk l kind = false by rw [HN.out, hk, Bool.and_false]))
      go_enter Try.func20, Try.ntmps20
      go_wp2_with (first | (go_at_call 40; refine (impl_ValidStore _ _ _ _ h).mono ?_; rintro e w1 ⟨he, g1⟩; rw [hs] at he; subst he) | (go_at_call 41; refine (impl_isTreeKind _ _).mono ?_; rintro e w' ⟨he, rfl⟩; rw [hk] at he; subst he))
      go_ret
      exact ⟨ret_bool HT.out.symm, g1⟩
    · have HT := Lib.hid (isTreeV_of (ns := ns) (show treeOk l kind = true by rw [HN.out, hs, hk]; rfl))
      have HS := Lib.hid hs
      have hl := storeB_len hs
      go_enter Try.func20, Try.ntmps20
      go_wp2_with (first | (go_at_call 40; refine (impl_ValidStore _ _ _ _ h).mono ?_; rintro e w1 ⟨he, g1⟩; rw [hs] at he; subst he) | (go_at_call 41; refine (impl_isTreeKind _ _).mono ?_; rintro e w' ⟨he, rfl⟩; rw [hk] at he; subst he))
      refine (impl_buildTree _ _ l kind w1 (h.grow g1) hc hcm (by omega) (storeB_asc HS.out).keysD (store_vecs HS.out)).mono ?_; rintro e w2 ⟨u, rfl, o2, g2⟩
      obtain ⟨tl, htl⟩ : ∃ tl, (treeT l kind).nodes 0 = tl := ⟨_, rfl⟩
      rw [htl] at o2
      obtain ⟨Au, cu, rfl, _, _, ru⟩ := o2.open_
      have HTL := Lib.hid htl
      clear htl
      go_wp2_with fail
      refine (slices_EqualN _ _ _ _ ns tl _ ((hn.grow g1).grow g2) ru).mono ?_; rintro e w3 ⟨rfl, g3⟩
      go_wp2_with fail
      go_ret
      exact ⟨ret_bool (by rw [HT.out, HTL.out]), (g1.trans g2).trans g3⟩
theorem spec_IsTreeOf (B : Option Addr) (d : Nat) (ns : List Nd) (A : Option Addr) (c : Nat) (l : List It) (kind : Int) (w : World) (hn : RK nodeP w w.heap.size B ns) (h : RS w w.heap.size A l) (hc : l.length ≤ c) (hcm : c ≤ maxLen) :
    Calls Try.prog 17 #[.slice B ns.length d, .slice A l.length c, .int .i64 kind] w fun e w' => e = .returned (.bool (isTreeV ns l kind)) ∧ Grow w w' := by
  have HN := Lib.hid (show treeOk l kind = (storeB l && treeKind kind) from rfl)
  cases hs : storeB l
  · have HT := Lib.hid (isTreeV_no (ns := ns) (show treeOk l kind = false by rw [HN.out, hs]; rfl))
    go_enter Try.func17, Try.ntmps17
    go_wp2_with (go_at_call 43; refine (spec_validStore _ _ _ _ h).mono ?_; rintro e w1 ⟨he, g1⟩; rw [hs] at he; subst he)
    go_ret
    exact ⟨ret_bool HT.out.symm, g1⟩
  · cases hk : treeKind kind
    · have HT := Lib.hid (isTreeV_no (ns := ns) (show treeOk l kind = false by rw [HN.out, hk, Bool.and_false]))
      go_enter Try.func17, Try.ntmps17
      go_wp2_with (first | (go_at_call 43; refine (spec_validStore _ _ _ _ h).mono ?_; rintro e w1 ⟨he, g1⟩; rw [hs] at he; subst he) | (go_at_call 44; refine (spec_isMetric _ _).mono ?_; rintro e w' ⟨he, rfl⟩; rw [hk] at he; subst he))
      go_ret
      exact ⟨ret_bool HT.out.symm, g1⟩
    · have HT := Lib.hid (isTreeV_of (ns := ns) (show treeOk l kind = true by rw [HN.out, hs, hk]; rfl))
      have HS := Lib.hid hs
      have hl := storeB_len hs
      go_enter Try.func17, Try.ntmps17
      go_wp2_with (first | (go_at_call 43; refine (spec_validStore _ _ _ _ h).mono ?_; rintro e w1 ⟨he, g1⟩; rw [hs] at he; subst he) | (go_at_call 44; refine (spec_isMetric _ _).mono ?_; rintro e w' ⟨he, rfl⟩; rw [hk] at he; subst he))
      refine (spec_grown _ _ l kind w1 (h.grow g1) hc hcm (by omega) (storeB_asc HS.out).keysD (store_vecs HS.out)).mono ?_; rintro e w2 ⟨u, rfl, o2, g2⟩
      obtain ⟨tl, htl⟩ : ∃ tl, (treeT l kind).nodes 0 = tl := ⟨_, rfl⟩
      rw [htl] at o2
      obtain ⟨Au, cu, rfl, _, _, ru⟩ := o2.open_
      have HTL := Lib.hid htl
      clear htl
      go_wp2_with fail
      refine (spec_sameNodes _ _ _ _ ns tl _ ((hn.grow g1).grow g2) ru).mono ?_; rintro e w3 ⟨rfl, g3⟩
      go_wp2_with fail
      go_ret
      exact ⟨ret_bool (by rw [HT.out, HTL.out]), (g1.trans g2).trans g3⟩
end Go.Proofs.Ytebiaodjodlloaa
