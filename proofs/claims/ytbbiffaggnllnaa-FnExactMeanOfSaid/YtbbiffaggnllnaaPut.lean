/- The contracts of putting and dropping, in both texts. -/
import Derived.Test.YtbbiffaggnllnaaCopy
import Derived.Test.YtbbiffaggnllnaaIdx
namespace Go.Proofs.Ytbbiffaggnllnaa
set_option linter.unusedVariables false
open Go Go.RowKit

theorem dropOk_no {l : List It} {k : Int} (h : storeB l = false) : dropOk l k = false ∧ dropV l k = [] := by
  have : dropOk l k = false := by rw [dropOk, h]; rfl
  rw [dropV, this]; exact ⟨rfl, rfl⟩
theorem dropOk_none {l : List It} {k : Int} (h : hasK l k = false) : dropOk l k = false ∧ dropV l k = [] := by
  have : dropOk l k = false := by rw [dropOk, h, Bool.and_false]
  rw [dropV, this]; exact ⟨rfl, rfl⟩
theorem dropOk_yes {l : List It} {k : Int} (h : storeB l = true) (h2 : hasK l k = true) : dropOk l k = true ∧ dropV l k = dropL l k := by
  have : dropOk l k = true := by rw [dropOk, h, h2]; rfl
  rw [dropV, this]; exact ⟨rfl, rfl⟩
theorem filter_hit {p : It → Bool} {l : List It} {k : Nat} {x : It} (h : l[k]? = some x) (hp : p x = true) : (l.take (k + 1)).filter p = (l.take k).filter p ++ [x] := by rw [filter_step h, hp]; rfl
theorem filter_miss {p : It → Bool} {l : List It} {k : Nat} {x : It} (h : l[k]? = some x) (hp : p x = false) : (l.take (k + 1)).filter p = (l.take k).filter p := by rw [filter_step h, hp]; simp

set_option maxHeartbeats 3200000 in
theorem impl_DropItem (A : Option Addr) (c : Nat) (l : List It) (k : Int) (w : World) (h : RS w w.heap.size A l) :
    Calls Try.prog 53 #[.slice A l.length c, .int .i64 k] w fun e w' => ∃ v, e = .returned (.tuple #[v, .bool (dropOk l k)]) ∧ OwnS w' w.heap.size w'.heap.size v (dropV l k) ∧ Grow w w' := by
  have hl := h.len
  cases hs : storeB l
  · obtain ⟨h1, h2⟩ := dropOk_no (k := k) hs
    rw [h1, h2]
    clear h1 h2
    go_enter Try.func53, Try.ntmps53
    go_wp2_with (go_at_call 29; refine (impl_ValidStore _ _ _ _ h).mono ?_; rintro e w1 ⟨he, g1⟩; rw [hs] at he; subst he)
    go_ret2
    exact ⟨_, rfl, OwnS.nil_, g1⟩
  · have HS := Lib.hid hs
    have h16 := storeB_len hs
    go_enter Try.func53, Try.ntmps53
    go_wp2_with fail
    refine (impl_ValidStore _ _ _ _ h).mono ?_; rintro e w1 ⟨he, g1⟩; rw [hs] at he; subst he
    clear hs
    go_wp2_with fail
    refine (impl_indexOf _ _ _ k _ (h.grow g1)).mono ?_; rintro e w2 ⟨i, rfl, hi, g2⟩
    have g02 : Grow w w2 := g1.trans g2
    rcases hi with ⟨hno, rfl⟩ | ⟨hyes, i, rfl, _⟩
    · obtain ⟨h1, h2⟩ := dropOk_none hno
      have H1 := Lib.hid h1
      have H2 := Lib.hid h2
      clear h1 h2 hno
      go_wp2_with fail
      go_ret2
      rw [H1.out, H2.out]
      exact ⟨_, rfl, OwnS.nil_, g02⟩
    · obtain ⟨h1, h2⟩ := dropOk_yes HS.out hyes
      have H1 := Lib.hid h1
      have H2 := Lib.hid h2
      clear h1 h2 hyes
      go_wp2_with fail
      go_loopw [6, 21] (fun v i wr => ∃ n : Nat, n ≤ l.length ∧ i = .int .i64 n ∧ OwnS wr w2.heap.size wr.heap.size v ((l.take n).filter (neK k)) ∧ Below w2.heap.size w2 wr) (fun _ i _ => l.length - (intOf i).toNat)
      case atStart => exact ⟨0, Nat.zero_le _, rfl, by simpa using OwnS.lit w2, (Below.refl _ _).alloc (Nat.le_refl _) _⟩
      case round =>
        obtain ⟨n, hn, rfl, hown, hb⟩ := hrel
        by_cases hlt : n < l.length
        · obtain ⟨ad, Ak, ck, x, rfl, had, c0, c1, c2, hc1, hc2, hri, hf, hg, hx⟩ := ((h.grow g02).keep hb).at_ hlt
          have hl2 : n + 1 ≤ l.length := by omega
          have hsz := hb.size
          have hfl := filter_len (neK k) l n
          have ga : Grow wr (wr.alloc (.cells #[.int .i64 x.key, .slice Ak x.pt.length ck, .int .i64 x.tags] 48)) := (Below.refl _ _).alloc (Nat.le_refl _) _
          have hri' := (hri.more hsz).grow ga
          have hownA := hown.grow ga
          have hbA := below_grow hb ga hsz
          by_cases hk : x.key = k
          · have ht : (x.key != k) = false := by rw [hk]; simp
            have HF := Lib.hid (filter_miss (p := neK k) hx.out ht)
            clear hk
            go_wp2_with fail
            go_roundw
            case rel => exact ⟨n + 1, by omega, by go_num, by rw [HF.out]; exact hownA.lower (Nat.le_refl _) ga.size, hbA⟩
            case measure => simp [intOf]; omega
          · have ht : (x.key != k) = true := by simpa using hk
            have HF := Lib.hid (filter_hit (p := neK k) hx.out ht)
            clear hk
            go_wp2_with (first
              | (go_at_call 106; refine (impl_copyItem x _ _ _ hri').mono ?_; rintro e w3 ⟨u, rfl, o3, g3⟩; have hown3 := hownA.grow g3; have hb3 := below_grow hbA g3 hbA.size)
              | (at_builtin; go_must (refine wpList_pushS (y := x) rfl _ _ (by rfl) (by rfl) (by rfl) hb3.size (by omega) (b := wr.heap.size) hsz (o3.lower ga.size (Nat.le_refl _)) hown3 hf hg ?_); intro v4 w4 hown4 hb4))
            go_roundw
            case rel => exact ⟨n + 1, by omega, by go_num, by rw [HF.out]; exact hown4, hb3.trans hb4⟩
            case measure => simp [intOf]; omega
        · obtain rfl : n = l.length := by omega
          rw [List.take_length] at hown
          go_wp2_with fail
          go_ret2
          rw [H1.out, H2.out]
          exact ⟨_, rfl, hown.lower g02.size (Nat.le_refl _), g02.trans hb⟩

theorem putL_parts (l : List It) (x : It) : putL l x = l.filter (ltK x.key) ++ [x] ++ l.filter (gtK x.key) := rfl
theorem putOk_no {l : List It} {x : It} (h : storeB l = false) : putOk l x = false ∧ putV l x = [] := by
  have : putOk l x = false := by rw [putOk, h]; rfl
  rw [putV, this]; exact ⟨rfl, rfl⟩
theorem putOk_bad {l : List It} {x : It} (h : itemB x = false) : putOk l x = false ∧ putV l x = [] := by
  have : putOk l x = false := by rw [putOk, h, Bool.and_false]; rfl
  rw [putV, this]; exact ⟨rfl, rfl⟩
theorem putOk_long {l : List It} {x : It} (h : 16 < (putL l x).length) : putOk l x = false ∧ putV l x = [] := by
  have : putOk l x = false := by rw [putOk, decide_eq_false (by omega), Bool.and_false]
  rw [putV, this]; exact ⟨rfl, rfl⟩
theorem putOk_yes {l : List It} {x : It} (h : storeB l = true) (h2 : itemB x = true) (h3 : ¬ 16 < (putL l x).length) : putOk l x = true ∧ putV l x = putL l x := by
  have : putOk l x = true := by rw [putOk, h, h2, decide_eq_true (by omega)]; rfl
  rw [putV, this]; exact ⟨rfl, rfl⟩

set_option maxHeartbeats 3200000 in
theorem impl_PutItem (A : Option Addr) (c : Nat) (l : List It) (y : It) (B : Option Addr) (d : Nat) (w : World) (h : RS w w.heap.size A l) (hy : RI w w.heap.size B y.pt) (hyk : Fits y.key) (hyt : Fits y.tags) :
    Calls Try.prog 55 #[.slice A l.length c, .agg #[.int .i64 y.key, .slice B y.pt.length d, .int .i64 y.tags]] w fun e w' => ∃ v, e = .returned (.tuple #[v, .bool (putOk l y)]) ∧ OwnS w' w.heap.size w'.heap.size v (putV l y) ∧ Grow w w' := by
  have hl := h.len
  have g0 : Grow w (w.alloc (.cells #[.int .i64 y.key, .slice B y.pt.length d, .int .i64 y.tags] 48)) := (Below.refl _ _).alloc (Nat.le_refl _) _
  have b0 : Blk (w.alloc (.cells #[.int .i64 y.key, .slice B y.pt.length d, .int .i64 y.tags] 48)) w.heap.size 48 #[.int .i64 y.key, .slice B y.pt.length d, .int .i64 y.tags] := Blk.new _ _ _
  have h0 := h.grow g0
  have y0 := hy.grow g0
  cases hs : storeB l
  · obtain ⟨h1, h2⟩ := putOk_no (x := y) hs
    rw [h1, h2]
    clear h1 h2
    go_enter Try.func55, Try.ntmps55
    go_wp2_with (go_at_call 29; refine (impl_ValidStore _ _ _ _ h0).mono ?_; rintro e w1 ⟨he, g1⟩; rw [hs] at he; subst he)
    go_ret2
    exact ⟨_, rfl, OwnS.nil_, g0.trans g1⟩
  · have HS := Lib.hid hs
    have h16 := storeB_len hs
    go_enter Try.func55, Try.ntmps55
    go_wp2_with fail
    refine (impl_ValidStore _ _ _ _ h0).mono ?_; rintro e w1 ⟨he, g1⟩; rw [hs] at he; subst he
    clear hs
    have b1 := b0.below g1 b0.lt
    have z0 := b1.cell 0
    have z1 := b1.cell 1
    have z2 := b1.cell 2
    go_wp2_with fail
    refine (impl_isItem y _ _ _ (y0.grow g1)).mono ?_; rintro e w2 ⟨he, g2⟩
    have g02 : Grow w w2 := g0.trans (g1.trans g2)
    cases hi : itemB y
    · obtain ⟨h1, h2⟩ := putOk_bad (l := l) hi
      rw [hi] at he; subst he
      have H1 := Lib.hid h1
      have H2 := Lib.hid h2
      clear h1 h2 hi
      go_wp2_with fail
      go_ret2
      rw [H1.out, H2.out]
      exact ⟨_, rfl, OwnS.nil_, g02⟩
    · rw [hi] at he; subst he
      have HI := Lib.hid hi
      clear hi z0 z1 z2
      have b2 := b1.below g2 b1.lt
      go_wp2_with fail
      go_loopw [6, 22] (fun v i wr => ∃ n : Nat, n ≤ l.length ∧ i = .int .i64 n ∧ OwnS wr w2.heap.size wr.heap.size v ((l.take n).filter (ltK y.key)) ∧ Below w2.heap.size w2 wr) (fun _ i _ => l.length - (intOf i).toNat)
      case atStart => exact ⟨0, Nat.zero_le _, rfl, by simpa using OwnS.lit w2, (Below.refl _ _).alloc (Nat.le_refl _) _⟩
      case round =>
        obtain ⟨n, hn, rfl, hown, hb⟩ := hrel
        have hsz := hb.size
        have hfl := filter_len (ltK y.key) l n
        by_cases hlt : n < l.length
        · obtain ⟨ad, Ak, ck, x, rfl, had, c0, c1, c2, hc1, hc2, hri, hf, hg, hx⟩ := ((h.grow g02).keep hb).at_ hlt
          have hl2 : n + 1 ≤ l.length := by omega
          have ga : Grow wr (wr.alloc (.cells #[.int .i64 x.key, .slice Ak x.pt.length ck, .int .i64 x.tags] 48)) := (Below.refl _ _).alloc (Nat.le_refl _) _
          have za : (wr.alloc (.cells #[.int .i64 x.key, .slice Ak x.pt.length ck, .int .i64 x.tags] 48)).cell? ⟨w.heap.size, 0, none⟩ = some (.int .i64 y.key) := ((b2.below hb b2.lt).alloc _).cell 0
          have hri' := (hri.more hsz).grow ga
          have hownA := hown.grow ga
          have hbA := below_grow hb ga hsz
          by_cases hk : x.key < y.key
          · have HF := Lib.hid (filter_hit (p := ltK y.key) hx.out (decide_eq_true hk))
            go_wp2_with (first
              | (go_at_call 106; refine (impl_copyItem x _ _ _ hri').mono ?_; rintro e w3 ⟨u, rfl, o3, g3⟩; have hown3 := hownA.grow g3; have hb3 := below_grow hbA g3 hbA.size)
              | (at_builtin; go_must (refine wpList_pushS (y := x) rfl _ _ (by rfl) (by rfl) (by rfl) hb3.size (by omega) (b := wr.heap.size) hsz (o3.lower ga.size (Nat.le_refl _)) hown3 hf hg ?_); intro v4 w4 hown4 hb4))
            go_roundw
            case rel => exact ⟨n + 1, by omega, by go_num, by rw [HF.out]; exact hown4, hb3.trans hb4⟩
            case measure => simp [intOf]; omega
          · have HF := Lib.hid (filter_miss (p := ltK y.key) hx.out (decide_eq_false hk))
            go_wp2_with fail
            go_roundw
            case rel => exact ⟨n + 1, by omega, by go_num, by rw [HF.out]; exact hownA.lower (Nat.le_refl _) ga.size, hbA⟩
            case measure => simp [intOf]; omega
        · obtain rfl : n = l.length := by omega
          rw [List.take_length] at hown hfl
          obtain ⟨wo, rfl⟩ : ∃ wo : World, wo = wr := ⟨_, rfl⟩
          have b3 := b2.below hb b2.lt
          have z0 := b3.cell 0
          have z1 := b3.cell 1
          have z2 := b3.cell 2
          have y3 := ((hy.grow g02).far hb)
          go_wp2_with (first
            | (go_at_call 106; refine (impl_copyItem y _ _ _ y3).mono ?_; rintro e w3 ⟨u, rfl, o3, g3⟩; have hown3 := hown.grow g3; have hb3 := below_grow hb g3 hsz)
            | (at_builtin; go_must (refine wpList_pushS (y := y) rfl _ _ (by rfl) (by rfl) (by rfl) hb3.size (by omega) (b := wo.heap.size) hsz o3 hown3 hyk hyt ?_); intro v4 w4 hown4 hb4))
          have hb24 := hb3.trans hb4
          clear hown hown3 o3 hb3 hb4 z0 z1 z2 b3
          go_loopw [6, 44] (fun v i wr => ∃ n : Nat, n ≤ l.length ∧ i = .int .i64 n ∧ OwnS wr w2.heap.size wr.heap.size v (l.filter (ltK y.key) ++ [y] ++ (l.take n).filter (gtK y.key)) ∧ Below w2.heap.size w2 wr) (fun _ i _ => l.length - (intOf i).toNat)
          case atStart => exact ⟨0, Nat.zero_le _, rfl, by simpa using hown4, hb24⟩
          case round =>
            clear hown4 hb24
            obtain ⟨n, hn, rfl, hown, hb⟩ := hrel
            have hsz := hb.size
            have hfl2 := filter_len (gtK y.key) l n
            by_cases hlt : n < l.length
            · obtain ⟨ad, Ak, ck, x, rfl, had, c0, c1, c2, hc1, hc2, hri, hf, hg, hx⟩ := ((h.grow g02).keep hb).at_ hlt
              have hl2 : n + 1 ≤ l.length := by omega
              have ga : Grow wr (wr.alloc (.cells #[.int .i64 x.key, .slice Ak x.pt.length ck, .int .i64 x.tags] 48)) := (Below.refl _ _).alloc (Nat.le_refl _) _
              have za : (wr.alloc (.cells #[.int .i64 x.key, .slice Ak x.pt.length ck, .int .i64 x.tags] 48)).cell? ⟨w.heap.size, 0, none⟩ = some (.int .i64 y.key) := ((b2.below hb b2.lt).alloc _).cell 0
              have hri' := (hri.more hsz).grow ga
              have hownA := hown.grow ga
              have hbA := below_grow hb ga hsz
              by_cases hk : y.key < x.key
              · have HF := Lib.hid (filter_hit (p := gtK y.key) hx.out (decide_eq_true hk))
                go_wp2_with (first
                  | (go_at_call 106; refine (impl_copyItem x _ _ _ hri').mono ?_; rintro e w3 ⟨u, rfl, o3, g3⟩; have hown3 := hownA.grow g3; have hb3 := below_grow hbA g3 hbA.size)
                  | (at_builtin; go_must (refine wpList_pushS (y := x) rfl _ _ (by rfl) (by rfl) (by rfl) hb3.size (by simp; omega) (b := wr.heap.size) hsz (o3.lower ga.size (Nat.le_refl _)) hown3 hf hg ?_); intro v4 w4 hown4 hb4))
                go_roundw
                case rel => exact ⟨n + 1, by omega, by go_num, by rw [HF.out, ← List.append_assoc]; exact hown4, hb3.trans hb4⟩
                case measure => simp [intOf]; omega
              · have HF := Lib.hid (filter_miss (p := gtK y.key) hx.out (decide_eq_false hk))
                go_wp2_with fail
                go_roundw
                case rel => exact ⟨n + 1, by omega, by go_num, by rw [HF.out]; exact hownA.lower (Nat.le_refl _) ga.size, hbA⟩
                case measure => simp [intOf]; omega
            · obtain rfl : n = l.length := by omega
              rw [List.take_length, ← putL_parts] at hown
              obtain ⟨Ao, co, rfl, ho1, ho2, _⟩ := hown.open_
              unfold maxLen at ho2
              by_cases hlong : 16 < (putL l y).length
              · obtain ⟨h1, h2⟩ := putOk_long hlong
                have H1 := Lib.hid h1
                have H2 := Lib.hid h2
                clear h1 h2
                go_wp2_with fail
                go_ret2
                rw [H1.out, H2.out]
                exact ⟨_, rfl, OwnS.nil_, g02.trans hb⟩
              · obtain ⟨h1, h2⟩ := putOk_yes HS.out HI.out hlong
                have H1 := Lib.hid h1
                have H2 := Lib.hid h2
                clear h1 h2
                go_wp2_with fail
                go_ret2
                rw [H1.out, H2.out]
                exact ⟨_, rfl, hown.lower g02.size (Nat.le_refl _), g02.trans hb⟩
end Go.Proofs.Ytbbiffaggnllnaa
