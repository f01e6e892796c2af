/- The contracts of the functions on items and on valid stores, in both texts. -/
import Derived.Test.YtebiaodjodlloaaItem
import Derived.Test.YtebiaodjodlloaaPlainS2
import Derived.Test.YtebiaodjodlloaaLawAid
import Derived.Test.YtebiaodjodlloaaFrom
import Derived.Deep.RegionHeld3
import Derived.StillTailTactics
namespace Go.Proofs.Ytebiaodjodlloaa
set_option linter.unusedVariables false
open Go Go.RowKit

theorem itemB_mk (k : Int) (xs : List Int) (t : Int) : itemB ⟨k, xs, t⟩ = (inB k 1 99 && vecB xs 4 && inB t 0 15) := rfl
theorem impl_isItem (x : It) (A : Option Addr) (c : Nat) (w : World) (h : RI w w.heap.size A x.pt) :
    Calls Try.prog 69 #[.agg #[.int .i64 x.key, .slice A x.pt.length c, .int .i64 x.tags]] w fun e w' => e = .returned (.bool (itemB x)) ∧ Grow w w' := by
  obtain ⟨k, xs, t⟩ := x
  simp only at h ⊢
  have hg : Grow w (w.alloc (.cells #[.int .i64 k, .slice A xs.length c, .int .i64 t] 43)) := (Below.refl _ _).alloc (Nat.le_refl _) _
  have h' := h.grow hg
  have HB := Lib.hid (itemB_mk k xs t)
  by_cases h1 : 1 ≤ k
  · by_cases h2 : k ≤ 99
    · cases hv : vecB xs 4
      · go_enter Try.func69, Try.ntmps69
        go_wp2_with (go_at_call 54; refine (impl_isVector _ _ _ _ _ h').mono ?_; rintro e w' ⟨rfl, rfl⟩)
        go_ret
        exact ⟨ret_bool (by rw [HB.out, hv]; simp), hg⟩
      · by_cases h3 : 0 ≤ t
        · go_enter Try.func69, Try.ntmps69
          go_wp2_with (go_at_call 54; refine (impl_isVector _ _ _ _ _ h').mono ?_; rintro e w' ⟨rfl, rfl⟩)
          go_ret
          exact ⟨ret_bool (by rw [HB.out, hv, inB_yes h1 h2]; simp [inB, h3]), hg⟩
        · go_enter Try.func69, Try.ntmps69
          go_wp2_with (go_at_call 54; refine (impl_isVector _ _ _ _ _ h').mono ?_; rintro e w' ⟨rfl, rfl⟩)
          go_ret
          exact ⟨ret_bool (by rw [HB.out, hv, inB_no (n := t) (.inl (by omega))]; simp), hg⟩
    · go_enter Try.func69, Try.ntmps69
      go_wp2_with fail
      go_ret
      exact ⟨ret_bool (by rw [HB.out, inB_no (n := k) (.inr (by omega))]; simp), hg⟩
  · go_enter Try.func69, Try.ntmps69
    go_wp2_with fail
    go_ret
    exact ⟨ret_bool (by rw [HB.out, inB_no (n := k) (.inl (by omega))]; simp), hg⟩

theorem Turn.setCell {lo hi : Nat} {a b : World} (h : Turn lo hi a b) {p : Addr} (h1 : lo ≤ p.block) (h2 : p.block < hi) (u : Value) : Turn lo hi a (b.setCell p u) :=
  ⟨h.os, h.tape, h.output, by simpa [World.setCell] using h.size, fun k hk hh => (Below.heap_setCell b p u k (by omega)).trans (h.block k hk hh)⟩
theorem cells_kept {w0 w1 : World} {g h : Nat} {t t' : TypeId} {x0 x1 x2 y0 y1 y2 : Value} (a : Blk w0 g t #[x0, x1, x2]) (b : Blk w0 h t' #[y0, y1, y2]) (hg : Grow w0 w1) :
    w1.cell? ⟨g, 0, none⟩ = some x0 ∧ w1.cell? ⟨g, 1, none⟩ = some x1 ∧ w1.cell? ⟨g, 2, none⟩ = some x2 ∧ w1.cell? ⟨h, 0, none⟩ = some y0 ∧ w1.cell? ⟨h, 1, none⟩ = some y1 ∧ w1.cell? ⟨h, 2, none⟩ = some y2 ∧
      w1.frozen? ⟨g, 1, none⟩ = false ∧ w1.frozen? ⟨h, 0, none⟩ = false ∧ w1.frozen? ⟨h, 1, none⟩ = false ∧ w1.frozen? ⟨h, 2, none⟩ = false := by
  have a' := a.below hg a.lt
  have b' := b.below hg b.lt
  exact ⟨a'.cell 0, a'.cell 1, a'.cell 2, b'.cell 0, b'.cell 1, b'.cell 2, a'.frozen 1, b'.frozen 0, b'.frozen 1, b'.frozen 2⟩
theorem okAt_item {l : List It} {k : Nat} {x : It} (hx : l[k]? = some x) (h : itemB x = false) : okAt l k = false := by rw [okAt, itI_of hx, h]; rfl
theorem okAt_zero {l : List It} {x : It} (hx : l[0]? = some x) (h : itemB x = true) : okAt l 0 = true := by rw [okAt, itI_of hx, h]; rfl
theorem okAt_succ {l : List It} {k : Nat} {x y : It} (hx : l[k + 1]? = some x) (hy : l[k]? = some y) (h : itemB x = true) : okAt l (k + 1) = decide (y.key < x.key) := by
  rw [okAt, itI_of hx, h, Nat.add_sub_cancel, itI_of hy]; simp
theorem okTo_succ {l : List It} {k : Nat} (h : okTo l k = true) (h2 : okAt l k = true) : okTo l (k + 1) = true := by rw [okTo, h, h2]; rfl
set_option maxHeartbeats 1600000 in
theorem impl_ValidStore (A : Option Addr) (c : Nat) (l : List It) (w : World) (h : RS w w.heap.size A l) :
    Calls Try.prog 40 #[.slice A l.length c] w fun e w' => e = .returned (.bool (storeB l)) ∧ Grow w w' := by
  have hl := h.len
  by_cases h16 : 16 < l.length
  · go_enter Try.func40, Try.ntmps40
    go_wp2
    go_ret
    exact ⟨ret_bool (storeB_long h16).symm, Grow.refl _⟩
  · go_enter Try.func40, Try.ntmps40
    go_wp2_with fail
    go_loopw [10] (fun i wr => ∃ k : Nat, k ≤ l.length ∧ i = .int .i64 k ∧ okTo l k = true ∧ Below w.heap.size w wr) (fun i _ => l.length - (intOf i).toNat)
    case atStart => exact ⟨0, Nat.zero_le _, rfl, rfl, Below.refl _ _⟩
    case round =>
      obtain ⟨k, hk, rfl, hok, hb⟩ := hrel
      have HO := Lib.hid hok
      clear hok
      by_cases hlt : k < l.length
      · obtain ⟨ad, Ak, ck, x, rfl, had, c0, c1, c2, hc1, hc2, hri, hf, hg, hx⟩ := (h.keep hb).at_ hlt
        have hl2 : k + 1 ≤ l.length := by omega
        go_wp2_with fail
        have ga : Grow wr (wr.alloc (.cells #[.int .i64 x.key, .slice Ak x.pt.length ck, .int .i64 x.tags] 43)) := (Below.refl _ _).alloc (Nat.le_refl _) _
        have ba : Blk (wr.alloc (.cells #[.int .i64 x.key, .slice Ak x.pt.length ck, .int .i64 x.tags] 43)) wr.heap.size 43 #[.int .i64 x.key, .slice Ak x.pt.length ck, .int .i64 x.tags] := Blk.new _ _ _
        have hri' := (hri.more hb.size).grow ga
        have hbW := below_grow hb ga hb.size
        generalize wr.alloc (.cells #[.int .i64 x.key, .slice Ak x.pt.length ck, .int .i64 x.tags] 43) = W at *
        have e0 : ∀ s : From W, s.w.cell? ⟨wr.heap.size, 0, none⟩ = some (.int .i64 x.key) := fun s => (ba.below s.g ba.lt).cell 0
        have e1 : ∀ s : From W, s.w.cell? ⟨wr.heap.size, 1, none⟩ = some (.slice Ak x.pt.length ck) := fun s => (ba.below s.g ba.lt).cell 1
        have e2 : ∀ s : From W, s.w.cell? ⟨wr.heap.size, 2, none⟩ = some (.int .i64 x.tags) := fun s => (ba.below s.g ba.lt).cell 2
        have HC := fun (b : Bool) (hb : itemB x = b) (s : From W) => From.call (by have := impl_isItem x Ak ck s.w (hri'.grow s.g); rw [hb] at this; exact this)
        cases hi : itemB x
        · have HN := Lib.hid (storeB_bad (okAt_item hx.out hi) hlt)
          refine wp_region_from (by kernel_rfl) (by kernel_rfl) ?_
          repeat (go_big_quiet_step (exact HC _ hi _))
          refine wpQuiet_nil ?_
          intro w2 g2
          go_wp2_with fail
          go_ret
          exact ⟨ret_bool HN.out.symm, below_grow hbW g2 hbW.size⟩
        · rcases Nat.eq_zero_or_pos k with rfl | hk0
          · refine wp_region_from (by kernel_rfl) (by kernel_rfl) ?_
            repeat (go_big_quiet_step (exact HC _ hi _))
            refine wpQuiet_nil ?_
            intro w2 g2
            go_wp2_with fail
            go_roundw
            case rel => exact ⟨1, by omega, rfl, okTo_succ HO.out (okAt_zero hx.out hi), below_grow hbW g2 hbW.size⟩
            case measure => simp [intOf]; omega
          · obtain ⟨j, rfl⟩ : ∃ j, k = j + 1 := ⟨k - 1, by omega⟩
            obtain ⟨ad', Aj, cj, y, e, hadB, d0, _, _, _, _, _, hyf, _, hy⟩ := (h.keep hbW).at_ (k := j) (by omega)
            injection e with e
            subst e
            have hs := okAt_succ hx.out hy.out hi
            have HS := Lib.hid hs
            have e3 : ∀ s : From W, s.w.cell? (ad.add (j * 3)) = some (.int .i64 y.key) := fun s => (s.cell (by rw [block_of_add]; have := hbW.size; omega)).trans d0
            clear hs c0 c1 c2 d0 hk0
            by_cases hle : x.key ≤ y.key
            · have HN := Lib.hid (storeB_bad (by rw [HS.out]; exact decide_eq_false (by omega)) hlt)
              refine wp_region_from (by kernel_rfl) (by kernel_rfl) ?_
              repeat (go_big_quiet_step (exact HC _ hi _))
              refine wpQuiet_nil ?_
              intro w2 g2
              go_wp2_with fail
              go_ret
              exact ⟨ret_bool HN.out.symm, below_grow hbW g2 hbW.size⟩
            · refine wp_region_from (by kernel_rfl) (by kernel_rfl) ?_
              repeat (go_big_quiet_step (exact HC _ hi _))
              refine wpQuiet_nil ?_
              intro w2 g2
              go_wp2_with fail
              go_roundw
              case rel => exact ⟨j + 1 + 1, by omega, by go_num, okTo_succ HO.out (by rw [HS.out]; exact decide_eq_true (by omega)), below_grow hbW g2 hbW.size⟩
              case measure => simp [intOf]; omega
      · obtain rfl : k = l.length := by omega
        go_wp2
        go_ret
        exact ⟨ret_bool (by rw [storeB_end HO.out]; exact (decide_eq_true (by omega)).symm), hb⟩

theorem spec_validItem (x : It) (A : Option Addr) (c : Nat) (w : World) (h : RI w w.heap.size A x.pt) :
    Calls Try.prog 75 #[.agg #[.int .i64 x.key, .slice A x.pt.length c, .int .i64 x.tags]] w fun e w' => e = .returned (.bool (itemB x)) ∧ Grow w w' := by
  obtain ⟨k, xs, t⟩ := x
  simp only at h ⊢
  have hg : Grow w (w.alloc (.cells #[.int .i64 k, .slice A xs.length c, .int .i64 t] 43)) := (Below.refl _ _).alloc (Nat.le_refl _) _
  have h' := h.grow hg
  have HB := Lib.hid (itemB_mk k xs t)
  cases h1 : inB k 1 99
  · go_enter Try.func75, Try.ntmps75
    go_wp2_with (go_at_call 57; refine (spec_inRange _ _ _ _).mono ?_; rintro e w' ⟨rfl, rfl⟩)
    go_ret
    exact ⟨ret_bool (by rw [HB.out, h1]; simp), hg⟩
  · cases hv : vecB xs 4
    · go_enter Try.func75, Try.ntmps75
      go_wp2_with (first
        | (go_at_call 57; refine (spec_inRange _ _ _ _).mono ?_; rintro e w' ⟨rfl, rfl⟩)
        | (go_at_call 80; refine (spec_isVector _ _ _ _ h').mono ?_; rintro e w' ⟨rfl, rfl⟩))
      go_ret
      exact ⟨ret_bool (by rw [HB.out, hv]; simp), hg⟩
    · go_enter Try.func75, Try.ntmps75
      go_wp2_with (first
        | (go_at_call 57; refine (spec_inRange _ _ _ _).mono ?_; rintro e w' ⟨rfl, rfl⟩)
        | (go_at_call 80; refine (spec_isVector _ _ _ _ h').mono ?_; rintro e w' ⟨rfl, rfl⟩))
      go_ret
      exact ⟨ret_bool (by rw [HB.out, h1, hv]; simp), hg⟩

set_option maxHeartbeats 1600000 in
theorem spec_validStore (A : Option Addr) (c : Nat) (l : List It) (w : World) (h : RS w w.heap.size A l) :
    Calls Try.prog 43 #[.slice A l.length c] w fun e w' => e = .returned (.bool (storeB l)) ∧ Grow w w' := by
  have hl := h.len
  go_enter Try.func43, Try.ntmps43
  go_wp2_with fail
  go_loopw [3] (fun i wr => ∃ k : Nat, k ≤ l.length ∧ i = .int .i64 k ∧ okTo l k = true ∧ Below w.heap.size w wr) (fun i _ => l.length - (intOf i).toNat)
  case atStart => exact ⟨0, Nat.zero_le _, rfl, rfl, Below.refl _ _⟩
  case round =>
    obtain ⟨k, hk, rfl, hok, hb⟩ := hrel
    have HO := Lib.hid hok
    clear hok
    by_cases hlt : k < l.length
    · obtain ⟨ad, Ak, ck, x, rfl, had, c0, c1, c2, hc1, hc2, hri, hf, hg, hx⟩ := (h.keep hb).at_ hlt
      have hl2 : k + 1 ≤ l.length := by omega
      have hri' := hri.more hb.size
      have hsz := hb.size
      have hbk : (ad.add (k * 3)).block = ad.block := block_of_add _ _
      have e0 : ∀ s : From wr, s.w.cell? (ad.add (k * 3)) = some (.int .i64 x.key) := fun s => (s.cell (by rw [hbk]; omega)).trans c0
      have e1 : ∀ s : From wr, s.w.cell? ⟨(ad.add (k * 3)).block, (ad.add (k * 3)).off + 1, none⟩ = some (.slice Ak x.pt.length ck) := fun s => (s.cell (by rw [hbk]; omega)).trans c1
      have e2 : ∀ s : From wr, s.w.cell? ⟨(ad.add (k * 3)).block, (ad.add (k * 3)).off + 2, none⟩ = some (.int .i64 x.tags) := fun s => (s.cell (by rw [hbk]; omega)).trans c2
      clear hbk
      have HC := fun (b : Bool) (hb : itemB x = b) (s : From wr) => From.call (by have := spec_validItem x Ak ck s.w (hri'.grow s.g); rw [hb] at this; exact this)
      go_wp2_with fail
      cases hi : itemB x
      · have HN := Lib.hid (storeB_bad (okAt_item hx.out hi) hlt)
        refine wp_region_from (by kernel_rfl) (by kernel_rfl) ?_
        repeat (go_big_quiet_step (exact HC _ hi _))
        refine wpQuiet_nil ?_
        intro w2 g2
        go_wp2_with fail
        go_ret
        exact ⟨ret_bool HN.out.symm, below_grow hb g2 hsz⟩
      · rcases Nat.eq_zero_or_pos k with rfl | hk0
        · have z0 : ∀ s : From wr, s.w.cell? ad = some (.int .i64 x.key) := e0
          have z1 : ∀ s : From wr, s.w.cell? ⟨ad.block, ad.off + 1, none⟩ = some (.slice Ak x.pt.length ck) := e1
          have z2 : ∀ s : From wr, s.w.cell? ⟨ad.block, ad.off + 2, none⟩ = some (.int .i64 x.tags) := e2
          clear e0 e1 e2 c0 c1 c2
          refine wp_region_from (by kernel_rfl) (by kernel_rfl) ?_
          repeat (go_big_quiet_step (exact HC _ hi _))
          refine wpQuiet_nil ?_
          intro w2 g2
          go_wp2_with fail
          go_roundw
          case rel => exact ⟨1, by omega, rfl, okTo_succ HO.out (okAt_zero hx.out hi), below_grow hb g2 hsz⟩
          case measure => simp [intOf]; omega
        · obtain ⟨j, rfl⟩ : ∃ j, k = j + 1 := ⟨k - 1, by omega⟩
          obtain ⟨ad', Aj, cj, y, e, hadB, d0, _, _, _, _, _, hyf, _, hy⟩ := (h.keep hb).at_ (k := j) (by omega)
          injection e with e
          subst e
          have hs := okAt_succ hx.out hy.out hi
          have HS := Lib.hid hs
          have e3 : ∀ s : From wr, s.w.cell? (ad.add (j * 3)) = some (.int .i64 y.key) := fun s => (s.cell (by rw [block_of_add]; omega)).trans d0
          clear hs c0 c1 c2 d0 hk0
          by_cases hle : x.key ≤ y.key
          · have HN := Lib.hid (storeB_bad (by rw [HS.out]; exact decide_eq_false (by omega)) hlt)
            refine wp_region_from (by kernel_rfl) (by kernel_rfl) ?_
            repeat (go_big_quiet_step (exact HC _ hi _))
            refine wpQuiet_nil ?_
            intro w2 g2
            go_wp2_with fail
            go_ret
            exact ⟨ret_bool HN.out.symm, below_grow hb g2 hsz⟩
          · refine wp_region_from (by kernel_rfl) (by kernel_rfl) ?_
            repeat (go_big_quiet_step (exact HC _ hi _))
            refine wpQuiet_nil ?_
            intro w2 g2
            go_wp2_with fail
            go_roundw
            case rel => exact ⟨j + 1 + 1, by omega, by go_num, okTo_succ HO.out (by rw [HS.out]; exact decide_eq_true (by omega)), below_grow hb g2 hsz⟩
            case measure => simp [intOf]; omega
    · obtain rfl : k = l.length := by omega
      go_wp2
      go_ret
      exact ⟨ret_bool (by rw [storeB_end HO.out]; exact decide_eq_decide.2 (by omega)), hb⟩
end Go.Proofs.Ytebiaodjodlloaa
