/- Hits: how they lie; comparing them, in both texts. -/
import Derived.Test.YtebiaodjodlloaaPod
import Derived.Test.YtebiaodjodlloaaDist
import Derived.Deep.RegionHeld3
namespace Go.Proofs.Ytebiaodjodlloaa
set_option linter.unusedVariables false
open Go Go.RowKit

def hitP : Pod Ht := ⟨78, 2, fun h => [h.key, h.dist], fun _ => rfl, by omega⟩
theorem info_hit : (Try.prog.info? 78).map (fun i => (i.zero, i.size, i.bytes)) = some (some (.agg #[.int .i64 0, .int .i64 0]), 2, 16) := by kernel_rfl
theorem hit_in : PodIn Try.prog hitP 50 := ⟨Try.underlying50, by
  obtain ⟨i0, h0, h1, h2, h3⟩ := info_parts info_hit
  exact ⟨i0, _, h0, h1, h2, rfl, by rw [h3]; omega⟩⟩
abbrev RH := RK hitP
abbrev OwnH := OwnK hitP
theorem RK.hit {w : World} {B : Nat} {A : Option Addr} {l : List Ht} (h : RK hitP w B A l) {i : Nat} (hi : i < l.length) : ∃ ad x, A = some ad ∧ ad.block < B ∧ w.cell? (ad.add (i * 2)) = some (.int .i64 x.key) ∧ w.cell? ⟨(ad.add (i * 2)).block, (ad.add (i * 2)).off + 1, none⟩ = some (.int .i64 x.dist) ∧
    (-9223372036854775808 ≤ x.key ∧ x.key ≤ 9223372036854775807) ∧ (-9223372036854775808 ≤ x.dist ∧ x.dist ≤ 9223372036854775807) ∧ Hid (l[i]? = some x) := by
  have hx := List.getElem?_eq_getElem hi
  obtain ⟨ad, e, hb, c0⟩ := h.cell_ (j := 0) hx rfl
  obtain ⟨ad', e', _, c1⟩ := h.cell_ (j := 1) hx rfl
  rw [e] at e'; injection e' with e'; subst e'
  have hf := h.fit _ (List.getElem_mem hi)
  have e1 : ad.add (i * hitP.k + 1) = ⟨(ad.add (i * 2)).block, (ad.add (i * 2)).off + 1, none⟩ := add_one ad (i * 2) 1 (by omega)
  rw [e1] at c1
  exact ⟨ad, l[i], e, hb, c0, c1, hf _ (by simp [hitP]), hf _ (by simp [hitP]), Lib.hid hx⟩

/-- A world that has grown by draws and blocks alone. -/
def Lays (w w' : World) : Prop := ∃ n os, w' = Go.Sort.grow (w.drewN n) os
theorem Lays.refl (w : World) : Lays w w := ⟨0, #[], by simp [Go.Sort.grow, World.drewN]⟩
theorem Lays.trans {a b c : World} (h : Lays a b) (k : Lays b c) : Lays a c := by
  obtain ⟨n, os, rfl⟩ := h
  obtain ⟨m, os', rfl⟩ := k
  exact ⟨n + m, os ++ os', by simp [Go.Sort.grow, World.drewN, Nat.add_assoc]⟩
theorem Lays.alloc {a b : World} (h : Lays a b) (o : Obj) : Lays a (b.alloc o) := h.trans ⟨0, #[o], by rw [Go.Sort.alloc_eq_grow]; rfl⟩
theorem Lays.drew {a b : World} (h : Lays a b) : Lays a b.drew := h.trans ⟨1, #[], by simp [Go.Sort.grow]; rfl⟩
theorem Lays.drewN {a b : World} (h : Lays a b) (n : Nat) : Lays a (b.drewN n) := h.trans ⟨n, #[], by simp [Go.Sort.grow, World.drewN]⟩
theorem Lays.grow {a b : World} (h : Lays a b) : Grow a b := by
  obtain ⟨n, os, rfl⟩ := h
  exact ⟨rfl, rfl, rfl, by simp [World.drewN], fun k hk => Go.Sort.heap_grow_old _ _ hk⟩

def cmpI (a b : Int) : Int := if a < b then -1 else if b < a then 1 else 0
theorem cmpI_bd (a b : Int) : -1 ≤ cmpI a b ∧ cmpI a b ≤ 1 := by unfold cmpI; split <;> (try split) <;> omega
def orI (a b : Int) : Int := if a = 0 then b else a
theorem cmp_isNaN (a : Int) (w : World) : Calls Try.prog 93 #[.int .i64 a] w fun e w' => e = .returned (.bool false) ∧ w = w' := by
  have h : (a != a) = false := by simp
  go_enter Try.func93, Try.ntmps93
  go_wp2_with fail
  go_ret
  exact ⟨rfl, rfl⟩
theorem cmp_Compare (a b : Int) (w : World) : Calls Try.prog 74 #[.int .i64 a, .int .i64 b] w fun e w' => e = .returned (.int .i64 (cmpI a b)) ∧ w = w' := by
  by_cases h1 : a < b
  · have hr : cmpI a b = -1 := by rw [cmpI, if_pos h1]
    have HR := Lib.hid hr
    clear hr
    go_enter Try.func74, Try.ntmps74
    go_wp2_with (go_at_call 93; refine (cmp_isNaN _ _).mono ?_; rintro e w' ⟨rfl, rfl⟩)
    go_ret
    exact ⟨ret_int HR.out.symm, rfl⟩
  · by_cases h2 : b < a
    · have hr : cmpI a b = 1 := by rw [cmpI, if_neg h1, if_pos h2]
      have HR := Lib.hid hr
      clear hr
      go_enter Try.func74, Try.ntmps74
      go_wp2_with (go_at_call 93; refine (cmp_isNaN _ _).mono ?_; rintro e w' ⟨rfl, rfl⟩)
      go_ret
      exact ⟨ret_int HR.out.symm, rfl⟩
    · have hr : cmpI a b = 0 := by rw [cmpI, if_neg h1, if_neg h2]
      have HR := Lib.hid hr
      clear hr
      go_enter Try.func74, Try.ntmps74
      go_wp2_with (go_at_call 93; refine (cmp_isNaN _ _).mono ?_; rintro e w' ⟨rfl, rfl⟩)
      go_ret
      exact ⟨ret_int HR.out.symm, rfl⟩
theorem cmp_Or (g : Nat) (x y : Int) (c : Nat) (w : World) (h : Blk w g 3 #[.int .i64 x, .int .i64 y]) :
    Calls Try.prog 73 #[.slice (some ⟨g, 0, none⟩) 2 c] w fun e w' => e = .returned (.int .i64 (orI x y)) ∧ w = w' := by
  have c0 : w.cell? ⟨g, 0, none⟩ = some (.int .i64 x) := h.cell 0
  have c1 : w.cell? ⟨g, 1, none⟩ = some (.int .i64 y) := h.cell 1
  by_cases hx : x = 0
  · have hr : orI x y = y := by rw [orI, if_pos hx]
    have HR := Lib.hid hr
    have x0 : (x != 0) = false := by rw [hx]; rfl
    have HX := Lib.hid hx
    clear hr hx
    by_cases hy : y = 0
    · have y0 : (y != 0) = false := by rw [hy]; rfl
      have HY := Lib.hid hy
      clear hy
      go_enter Try.func73, Try.ntmps73
      go_wp2_with fail
      refine wp_loop_rounds 3 ?_
      rw [rounds_succ]
      go_wp2_with fail
      rw [rounds_succ]
      go_wp2_with fail
      rw [rounds_succ]
      go_wp2_with fail
      go_ret
      exact ⟨ret_int (by rw [HR.out, HY.out]), rfl⟩
    · have y0 : (y != 0) = true := by simpa using hy
      go_enter Try.func73, Try.ntmps73
      go_wp2_with fail
      refine wp_loop_rounds 3 ?_
      rw [rounds_succ]
      go_wp2_with fail
      rw [rounds_succ]
      go_wp2_with fail
      go_ret
      exact ⟨ret_int HR.out.symm, rfl⟩
  · have hr : orI x y = x := by rw [orI, if_neg hx]
    have HR := Lib.hid hr
    have x0 : (x != 0) = true := by simpa using hx
    clear hr
    go_enter Try.func73, Try.ntmps73
    go_wp2_with fail
    refine wp_loop_rounds 3 ?_
    rw [rounds_succ]
    go_wp2_with fail
    go_ret
    exact ⟨ret_int HR.out.symm, rfl⟩
/-- How the program compares hits. -/
def cmpH (a b : Ht) : Int := orI (cmpI a.dist b.dist) (cmpI a.key b.key)
theorem cmpH_lt (a b : Ht) : Go.Proofs.ltOf cmpH a b = htB a b := by
  rw [Bool.eq_iff_iff, htB_iff]
  unfold Go.Proofs.ltOf cmpH orI cmpI
  rw [decide_eq_true_eq]
  split <;> (try split) <;> (try split) <;> (try split) <;> omega
theorem cmpH_swo : Go.Sort.SWO (Go.Proofs.ltOf cmpH) where
  irrefl x := by rw [cmpH_lt]; exact htB_ord.irr x
  trans x y z h1 h2 := by rw [cmpH_lt] at *; exact htB_ord.tr x y z h1 h2
  ntrans x y z h1 h2 := by
    rw [cmpH_lt] at *
    rw [Bool.eq_false_iff, ne_eq, htB_iff] at *
    omega
set_option maxRecDepth 2000 in
set_option maxHeartbeats 1600000 in
theorem impl_compareHits (a b : Ht) (w : World) :
    Calls Try.prog 85 #[.agg #[.int .i64 a.key, .int .i64 a.dist], .agg #[.int .i64 b.key, .int .i64 b.dist]] w fun e w' => e = .returned (.int .i64 (cmpH a b)) ∧ Lays w w' := by
  obtain ⟨ak, ad⟩ := a
  obtain ⟨bk, bd⟩ := b
  simp only
  have h3 := fun (W : World) => cmp_Or W.heap.size (cmpI ad bd) (cmpI ak bk) 2 (W.alloc (.cells #[.int .i64 (cmpI ad bd), .int .i64 (cmpI ak bk)] 3)).drew (Blk.new _ _ _).drew
  have hr : cmpH ⟨ak, ad⟩ ⟨bk, bd⟩ = orI (cmpI ad bd) (cmpI ak bk) := rfl
  rw [hr]
  clear hr
  obtain ⟨r, hr⟩ : ∃ r, orI (cmpI ad bd) (cmpI ak bk) = r := ⟨_, rfl⟩
  simp only [hr] at h3 ⊢
  clear hr
  go_enter Try.func85, Try.ntmps85
  go_wp2_with fail
  obtain ⟨w0, hw0⟩ : ∃ w0, w0 = (w.alloc (.cells #[.int .i64 ak, .int .i64 ad] 78)).alloc (.cells #[.int .i64 bk, .int .i64 bd] 78) := ⟨_, rfl⟩
  have g0 : Lays w w0 := by rw [hw0]; exact ((Lays.refl w).alloc _).alloc _
  have b0 : Blk w0 w.heap.size 78 #[.int .i64 ak, .int .i64 ad] := by rw [hw0]; exact (Blk.new w _ _).alloc _
  have b1 : Blk w0 (w.heap.size + 1) 78 #[.int .i64 bk, .int .i64 bd] := by
    rw [hw0]; have := Blk.new (w.alloc (.cells #[.int .i64 ak, .int .i64 ad] 78)) 78 #[.int .i64 bk, .int .i64 bd]; simpa using this
  rw [← hw0]
  clear hw0
  have c0 : w0.cell? ⟨w.heap.size, 0, none⟩ = some (.int .i64 ak) := b0.cell 0
  have c1 : w0.cell? ⟨w.heap.size, 1, none⟩ = some (.int .i64 ad) := b0.cell 1
  have d0 : w0.cell? ⟨w.heap.size + 1, 0, none⟩ = some (.int .i64 bk) := b1.cell 0
  have d1 : w0.cell? ⟨w.heap.size + 1, 1, none⟩ = some (.int .i64 bd) := b1.cell 1
  go_region_held3 (fun w' => w'.cell? ⟨w.heap.size, 0, none⟩ = some (.int .i64 ak) ∧ w'.cell? ⟨w.heap.size, 1, none⟩ = some (.int .i64 ad) ∧ w'.cell? ⟨w.heap.size + 1, 0, none⟩ = some (.int .i64 bk) ∧ w'.cell? ⟨w.heap.size + 1, 1, none⟩ = some (.int .i64 bd))
    (first | go_keep | (exact ⟨c0, c1, d0, d1⟩))
    ((first
      | (go_at_call 74; refine (cmp_Compare _ _ _).mono ?_; rintro e w' ⟨rfl, rfl⟩)
      | (go_at_call 73; refine (h3 _).mono ?_; rintro e w' ⟨rfl, rfl⟩)))
  go_wp2
  go_ret
  exact ⟨rfl, (g0.alloc _).drew⟩
end Go.Proofs.Ytebiaodjodlloaa
