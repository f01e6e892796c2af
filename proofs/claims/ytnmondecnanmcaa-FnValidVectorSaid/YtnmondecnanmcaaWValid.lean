/- The walk of the law 'FnValidVector': it returns true, and writes nothing that was there. -/
import Derived.Test.YtnmondecnanmcaaDraw
import Derived.Test.YtnmondecnanmcaaPlainV
namespace Go.Proofs.Ytnmondecnanmcaa
set_option linter.unusedVariables false
open Go Go.RowKit

theorem negl_step {ys : List Int} {k : Nat} {y : Int} (h : ys[k]? = some y) : (ys.take (k + 1)).map (fun x => -x) = (ys.take k).map (fun x => -x) ++ [-y] := by
  rw [take_step h, List.map_append]; rfl
/-- An integer appended, in an operation whose guard holds. -/
theorem wpList_pushIg {ops : Array Oper} {rest : List Oper} {o : Oper} {a : Act} {Q : Exit → Act → World → Prop} (hgd : Region.wanted o (yielded ops a.tmps) = true) (s x : Operand)
    (ho : o.op = .call { callee := .builtin .append, args := #[s, x], argTypes := #[23, 23] })
    {w0 wr : World} {B c1 : Nat} {v : Value} {xs : List Int} {y : Int} (hs : a.eval s = v) (hx : a.eval x = .slice (some ⟨wr.heap.size, 0, none⟩) 1 c1)
    (hown : wr.ownsRow B 3 1 v xs.length (xs.map (Value.int .i64))) (hb : Below B w0 wr) (hB : B ≤ wr.heap.size) (hn : xs.length ≤ 2000000)
    (h : ∀ v' w', w'.ownsRow B 3 1 v' (xs ++ [y]).length ((xs ++ [y]).map (Value.int .i64)) → Below B w0 w' → wpList Try.prog ops Q rest (a.put o.dst v') w') :
    wpList Try.prog ops Q (o :: rest) a (wr.alloc (.cells #[.int .i64 y] 3)) :=
  wpList_step fun K hK => by rw [if_pos hgd]; exact wp_pushI s x ho hs hx rfl rfl rfl rfl hown hb hB hn fun v' w' h2 h3 => hK _ _ (h v' w' h2 h3)
theorem vecB_more {xs : List Int} {y : Int} (h : vecB (xs ++ [y]) 4 = true) : xs.length = 3 := by
  have := vecB_four h; simp at this; omega

set_option maxHeartbeats 1600000 in
theorem walk_FnValidVector (a0 : Option Addr) (n0 c0 : Nat) (x0 : List Int) (w : World) (h0 : ArgB w a0 n0 c0 x0) :
    Calls Try.prog 6 #[.slice a0 n0 c0] w fun e w' => e = .returned (.bool true) ∧ Below w.heap.size w w' := by
  by_cases hn : n0 ≤ 1048576
  · go_enter Try.func6, Try.ntmps6
    go_wp2_with fail
    refine (spec_DrawValidVector _ _ _ _ _ h0).mono ?_
    rintro e w1 ⟨v, ys, rfl, d2, g1⟩
    obtain ⟨A2, c2, rfl, _, _, q2⟩ := d2.vec.open_
    have hsm := d2.small
    have hl5 := hsm.1
    clear d2 h0
    go_wp2_with fail
    refine (impl_ValidVector _ ys _ _ q2).mono ?_; rintro e w' ⟨rfl, rfl⟩
    go_wp2_with fail
    refine (spec_ValidVector _ ys _ _ q2).mono ?_; rintro e w' ⟨rfl, rfl⟩
    obtain ⟨b, hb0⟩ : ∃ b, vecB ys 4 = b := ⟨_, rfl⟩
    rw [hb0]
    have HB := Lib.hid hb0
    clear hb0
    go_wp2_with fail
    go_loopw [5, 6] (fun v i wr => ∃ k : Nat, k ≤ ys.length ∧ i = .int .i64 k ∧ wr.ownsRow w1.heap.size 3 1 v ((ys.take k).map fun x => -x).length (((ys.take k).map fun x => -x).map (Value.int .i64)) ∧ Below w1.heap.size w1 wr) (fun _ i _ => ys.length - (intOf i).toNat)
    case atStart => exact ⟨0, Nat.zero_le _, rfl, World.ownsRow_lit w1 #[] 0 (Nat.le_refl _) (by unfold maxLen; omega) rfl, (Below.refl _ _).alloc (Nat.le_refl _) _⟩
    case round =>
      obtain ⟨k, hk, rfl, hown, hb⟩ := hrel
      by_cases hlt : k < ys.length
      · obtain ⟨ad, y, rfl, _, hc, hf1, hf2, hky⟩ := (q2.below hb).at_ hlt
        obtain ⟨s1, s2⟩ := hsm.2 y (List.mem_of_getElem? hky.out)
        have hB := hb.size
        have hlen : ((ys.take k).map fun x => -x).length ≤ 2000000 := by simp; omega
        go_wp2_with (at_builtin; refine wpList_pushI rfl _ _ rfl rfl rfl hown hb hB hlen ?_; intro v2 w2 hown2 hb2)
        rw [← negl_step hky.out] at hown2
        go_roundw
        case rel => exact ⟨k + 1, by omega, by go_num, hown2, hb2⟩
        case measure => simp [intOf]; omega
      · obtain rfl : k = ys.length := by omega
        rw [List.take_length] at hown
        have o3 : OwnI wr w1.heap.size wr.heap.size u5 (ys.map fun x => -x) := OwnI.mk' hown (fun x hx => by
          obtain ⟨y, hy, rfl⟩ := List.mem_map.1 hx
          have := hsm.2 y hy; omega) (by simp; omega)
        have hvn : vecB (ys.map fun x => -x) 4 = b := by rw [vecB_neg]; exact HB.out
        have hlz : (ys.map fun x => -x).length = ys.length := by simp
        have gw : Grow w1 wr := hb
        have hBw := hb.size
        obtain ⟨zs, o3, hvn, hlz⟩ : ∃ zs, OwnI wr w1.heap.size wr.heap.size u5 zs ∧ vecB zs 4 = b ∧ zs.length = ys.length := ⟨_, o3, hvn, hlz⟩
        have HL := Lib.hid hlz
        have hzl : zs.length ≤ 5 := by omega
        clear hown hb hlz
        have hmore : vecB (zs ++ [0]) 4 = true → zs.length = 3 := vecB_more
        have HM := Lib.hid hmore
        clear hmore
        have q3 : ∃ A3 c3, u5 = .slice A3 zs.length c3 ∧ zs.length ≤ c3 ∧ c3 ≤ maxLen ∧ RI wr wr.heap.size A3 zs := o3.open_
        obtain ⟨A3, c3, rfl, _, _, q3⟩ := q3
        have hbb : (b == b) = true := by simp
        have G : ∀ {w4 : World}, Below w1.heap.size wr w4 → Below w.heap.size w w4 := fun h4 => Below.trans (g1.trans gw) (h4.mono g1.size)
        cases hm : vecB (zs ++ [0]) 4
        · have ho : ∀ v4 w4, w4.ownsRow w1.heap.size 3 1 v4 (zs ++ [0]).length ((zs ++ [0]).map (Value.int .i64)) → ∃ ts, OwnI w4 w1.heap.size w4.heap.size v4 ts ∧ vecB ts 4 = false := fun v4 w4 h4 =>
            ⟨_, OwnI.mk' h4 (by intro x hx; rcases List.mem_append.1 hx with hx | hx; exact o3.fit x hx; simp at hx; omega) (by simp; omega), hm⟩
          have HO := Lib.hid ho
          clear ho hm
          go_wp2_with fail
          refine (impl_ValidVector _ zs _ _ q3).mono ?_; rintro e w' ⟨rfl, rfl⟩
          go_wp2_with (at_builtin; refine wpList_pushIg rfl _ _ rfl rfl rfl o3.own (Below.refl w1.heap.size wr) hBw (by omega) ?_; intro v4 w4 hown4 hb4; obtain ⟨ts, o4, hm4⟩ := HO.out v4 w4 hown4; obtain ⟨A4, c4, rfl, _, _, q4⟩ := o4.open_)
          refine (impl_ValidVector _ ts _ _ q4).mono ?_; rintro e w' ⟨rfl, rfl⟩
          go_wp2_with fail
          go_ret
          exact ⟨rfl, G hb4⟩
        · have h3 : ys.length = 3 := by rw [← HL.out]; exact HM.out hm
          have hbf : b = false := by rw [← HB.out]; exact vecB_short (by omega)
          have hy3 : ((ys.length : Int) + 1 == 4) = true := by rw [h3]; rfl
          subst hbf
          have ho : ∀ v4 w4, w4.ownsRow w1.heap.size 3 1 v4 (zs ++ [0]).length ((zs ++ [0]).map (Value.int .i64)) → ∃ ts, OwnI w4 w1.heap.size w4.heap.size v4 ts ∧ vecB ts 4 = true := fun v4 w4 h4 =>
            ⟨_, OwnI.mk' h4 (by intro x hx; rcases List.mem_append.1 hx with hx | hx; exact o3.fit x hx; simp at hx; omega) (by simp; omega), hm⟩
          have HO := Lib.hid ho
          clear ho hm h3
          go_wp2_with fail
          refine (impl_ValidVector _ zs _ _ q3).mono ?_; rintro e w' ⟨rfl, rfl⟩
          go_wp2_with (at_builtin; refine wpList_pushIg rfl _ _ rfl rfl rfl o3.own (Below.refl w1.heap.size wr) hBw (by omega) ?_; intro v4 w4 hown4 hb4; obtain ⟨ts, o4, hm4⟩ := HO.out v4 w4 hown4; obtain ⟨A4, c4, rfl, _, _, q4⟩ := o4.open_)
          refine (impl_ValidVector _ ts _ _ q4).mono ?_; rintro e w' ⟨rfl, rfl⟩
          go_wp2_with fail
          go_ret
          exact ⟨rfl, G hb4⟩
  · go_enter Try.func6, Try.ntmps6
    go_wp2_with fail
    go_ret
    exact ⟨rfl, Below.refl _ _⟩
end Go.Proofs.Ytnmondecnanmcaa
