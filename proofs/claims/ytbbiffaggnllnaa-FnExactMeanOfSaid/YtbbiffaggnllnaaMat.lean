/- Slices of slices of integers: reading, copying, comparing, marking. -/
import Derived.Test.YtbbiffaggnllnaaRead
import Derived.Test.YtbbiffaggnllnaaLawAid
import Derived.Test.YtbbiffaggnllnaaPlainV
namespace Go.Proofs.Ytbbiffaggnllnaa
set_option linter.unusedVariables false
open Go Go.RowKit

/-- The slice value with address A reads as the rows l, below block B. -/
structure RR (w : World) (B : Nat) (A : Option Addr) (l : List (List Int)) : Prop where
  row : ∀ k r, l[k]? = some r → ∃ ad Ak ck, A = some ad ∧ ad.block < B ∧ w.cell? (ad.add k) = some (.slice Ak r.length ck) ∧ r.length ≤ ck ∧ ck ≤ maxLen ∧ RI w B Ak r
  len : l.length ≤ 2000000
section
variable {w w' : World} {B B' : Nat} {A : Option Addr} {l : List (List Int)}
theorem RR.keep (h : RR w B A l) (hb : Below B w w') : RR w' B A l :=
  ⟨fun k r hr => by
    obtain ⟨ad, Ak, ck, e, hB, hc, h1, h2, h3⟩ := h.row k r hr
    exact ⟨ad, Ak, ck, e, hB, (hb.cell (by rw [block_of_add]; exact hB)).trans hc, h1, h2, h3.below hb⟩, h.len⟩
theorem RR.more (h : RR w B A l) (hB : B ≤ B') : RR w B' A l :=
  ⟨fun k r hr => by
    obtain ⟨ad, Ak, ck, e, hb, hc, h1, h2, h3⟩ := h.row k r hr
    exact ⟨ad, Ak, ck, e, by omega, hc, h1, h2, h3.more hB⟩, h.len⟩
theorem RR.grow (h : RR w w.heap.size A l) (hg : Grow w w') : RR w' w'.heap.size A l := (h.keep hg).more hg.size
theorem RR.drewN (h : RR w B A l) (k : Nat) : RR (w.drewN k) B A l := h.keep ⟨rfl, rfl, rfl, Nat.le_refl _, fun _ _ => rfl⟩
theorem RR.at_ (h : RR w B A l) {k : Nat} (hk : k < l.length) : ∃ ad Ak ck r, A = some ad ∧ ad.block < B ∧ w.cell? (ad.add k) = some (.slice Ak r.length ck) ∧ r.length ≤ ck ∧ ck ≤ maxLen ∧ RI w B Ak r ∧ Hid (l[k]? = some r) := by
  obtain ⟨ad, Ak, ck, e, hB, hc, h1, h2, h3⟩ := h.row k _ (List.getElem?_eq_getElem hk)
  exact ⟨ad, Ak, ck, _, e, hB, hc, h1, h2, h3, Lib.hid (List.getElem?_eq_getElem hk)⟩
end

/-! Means, in plain terms. -/
def rowI (l : List (List Int)) (i : Nat) : List Int := l[i]?.getD []
theorem rowI_of {l : List (List Int)} {i : Nat} {r : List Int} (h : l[i]? = some r) : rowI l i = r := by rw [rowI, h]; rfl
def colS (l : List (List Int)) (c n : Nat) : Int := sumTo (fun i => gI (rowI l i) c) n
def rowsB (l : List (List Int)) : Bool := l.all fun r => vecB r 4
def meanOk (l : List (List Int)) : Bool := inB l.length 1 16 && rowsB l
def meanF (l : List (List Int)) (c : Nat) : Int := colS l c l.length / l.length
def meanV (l : List (List Int)) : List Int := if meanOk l then rangeI (meanF l) 4 else []
theorem rowsB_at {l : List (List Int)} (h : rowsB l = true) {k : Nat} {r : List Int} (hr : l[k]? = some r) : vecB r 4 = true := by
  simp only [rowsB, List.all_eq_true] at h
  exact h r (List.mem_of_getElem? hr)
theorem rowsB_bad {l : List (List Int)} {k : Nat} {r : List Int} (hr : l[k]? = some r) (h : vecB r 4 = false) : meanOk l = false := by
  have : rowsB l = false := by
    rw [rowsB, List.all_eq_false]
    exact ⟨r, List.mem_of_getElem? hr, by rw [h]; simp⟩
  rw [meanOk, this, Bool.and_false]
theorem rowsB_of {l : List (List Int)} (h : ∀ k r, k < l.length → l[k]? = some r → vecB r 4 = true) : rowsB l = true := by
  simp only [rowsB, List.all_eq_true]
  intro r hr
  obtain ⟨k, hk⟩ := List.getElem?_of_mem hr
  exact h k r (List.getElem?_eq_some_iff.1 hk).1 hk
theorem rowI_bd {l : List (List Int)} (h : rowsB l = true) (k c : Nat) : -100 ≤ gI (rowI l k) c ∧ gI (rowI l k) c ≤ 100 := by
  cases e : l[k]? with
  | none => rw [rowI, e]; simp [gI]
  | some r => rw [rowI_of e]; exact gI_bd (rowsB_at h e) c
theorem colS_bd {l : List (List Int)} (h : rowsB l = true) (c n : Nat) : -(100 * n) ≤ colS l c n ∧ colS l c n ≤ 100 * n :=
  sumTo_bd (f := fun i => gI (rowI l i) c) fun i _ => rowI_bd h i c
theorem div_between {s n lo hi : Int} (hn : 0 < n) (h1 : lo * n ≤ s) (h2 : s ≤ hi * n) : lo ≤ s / n ∧ s / n ≤ hi := by
  refine ⟨(Int.le_ediv_iff_mul_le hn).2 h1, ?_⟩
  have : s / n < hi + 1 := (Int.ediv_lt_iff_lt_mul hn).2 (by rw [Int.add_mul]; omega)
  omega
theorem meanF_bd {l : List (List Int)} (h : meanOk l = true) (c : Nat) : -100 ≤ meanF l c ∧ meanF l c ≤ 100 := by
  simp only [meanOk, Bool.and_eq_true, inB_iff] at h
  have b := colS_bd h.2 c l.length
  exact div_between (by omega) (by omega) (by omega)
theorem meanV_of {l : List (List Int)} (h : meanOk l = true) : meanV l = rangeI (meanF l) 4 := by rw [meanV, if_pos h]
theorem meanV_no {l : List (List Int)} (h : meanOk l = false) : meanV l = [] := by rw [meanV, h]; rfl
theorem meanV_len (l : List (List Int)) : (meanV l).length ≤ 4 := by
  unfold meanV; split
  · rw [rangeI_len]; omega
  · simp
theorem meanV_bd (l : List (List Int)) : ∀ x ∈ meanV l, -100 ≤ x ∧ x ≤ 100 := by
  intro x hx
  unfold meanV at hx
  split at hx
  · rename_i h
    simp only [rangeI, List.mem_map, List.mem_range] at hx
    obtain ⟨i, _, rfl⟩ := hx
    exact meanF_bd h i
  · cases hx

set_option maxHeartbeats 1600000 in
theorem spec_mean (A : Option Addr) (c : Nat) (l : List (List Int)) (w : World) (h : RR w w.heap.size A l) (hok : meanOk l = true) :
    Calls Try.prog 120 #[.slice A l.length c] w fun e w' => ∃ v, e = .returned v ∧ OwnI w' w.heap.size w'.heap.size v (meanV l) ∧ Grow w w' := by
  have hok' := hok
  simp only [meanOk, Bool.and_eq_true, inB_iff] at hok'
  obtain ⟨⟨hl1, hl2⟩, hrows⟩ := hok'
  have HO := Lib.hid hok
  have HR := Lib.hid hrows
  clear hok hrows
  have hlen : l.length ≤ 16 := by omega
  have hlen1 : 1 ≤ l.length := by omega
  go_enter Try.func120, Try.ntmps120
  go_wp2_with fail
  go_loopw [3, 4] (fun v i wr => ∃ k : Nat, k ≤ 4 ∧ i = .int .i64 k ∧ wr.ownsRow w.heap.size 3 1 v (rangeI (meanF l) k).length ((rangeI (meanF l) k).map (Value.int .i64)) ∧ Below w.heap.size w wr) (fun _ i _ => 4 - (intOf i).toNat)
  case atStart => exact ⟨0, Nat.zero_le _, rfl, World.ownsRow_lit w #[] 0 (Nat.le_refl _) (by unfold maxLen; omega) rfl, (Below.refl _ _).alloc (Nat.le_refl _) _⟩
  case round =>
    obtain ⟨k, hk, rfl, hown, hb⟩ := hrel
    by_cases hlt : k < 4
    · obtain ⟨wo, rfl⟩ : ∃ wo : World, wo = wr := ⟨_, rfl⟩
      have hW := h.keep hb
      go_wp2_with fail
      go_loop [5, 6] (fun s i => ∃ (j : Nat) (z : Int), j ≤ l.length ∧ i = .int .i64 j ∧ s = .int .i64 z ∧ z = colS l k j ∧ -(100 * j) ≤ z ∧ z ≤ 100 * j) (fun _ i => l.length - (intOf i).toNat)
      case atStart => exact ⟨0, 0, Nat.zero_le _, rfl, rfl, rfl, by omega, by omega⟩
      case round =>
        obtain ⟨j, z, hj, rfl, rfl, hz, z1, z2⟩ := hrel
        have HZ := Lib.hid hz
        clear hz
        by_cases hjl : j < l.length
        · obtain ⟨ad, Ak, ck, r, rfl, _, hc, _, _, hri, hkr⟩ := hW.at_ hjl
          have hr4 : 4 ≤ r.length := Nat.le_of_eq (vecB_four (rowsB_at HR.out hkr.out)).symm
          obtain ⟨bd, x, rfl, _, hcx, _, _, hkx⟩ := hri.at_ (k := k) (by omega)
          obtain ⟨x1, x2⟩ := vecB_at (rowsB_at HR.out hkr.out) hkx.out
          go_wp2
          go_round
          case rel => exact ⟨j + 1, z + x, by omega, by go_num, rfl, by rw [HZ.out]; simp [colS, sumTo, rowI_of hkr.out, gI_of hkx.out], by omega, by omega⟩
          case measure => simp [intOf]; omega
        · have hjl' : j = l.length := by omega
          have HJ := Lib.hid hjl'
          clear hjl'
          have hB := hb.size
          have hfl : (rangeI (meanF l) k).length ≤ 2000000 := by rw [rangeI_len]; omega
          go_wp2_with (first
            | (go_at_call 142; refine (spec_floorDiv _ _ _ (by omega) (by omega) (by omega) (by omega)).mono ?_; rintro e w' ⟨rfl, rfl⟩)
            | (at_builtin; refine wpList_pushI rfl _ _ rfl rfl rfl hown hb hB hfl ?_; intro v2 w2 hown2 hb2))
          go_roundw
          case rel =>
            have e : rangeI (meanF l) (k + 1) = rangeI (meanF l) k ++ [z / (l.length : Int)] := by rw [rangeI_succ, meanF, HZ.out, HJ.out]
            exact ⟨k + 1, by omega, by go_num, by rw [e]; exact hown2, hb2⟩
          case measure => simp [intOf]; omega
    · obtain rfl : k = 4 := by omega
      rw [← meanV_of HO.out] at hown
      go_wp2
      go_ret
      exact ⟨_, rfl, OwnI.mk' hown (fun x hx => by have := meanV_bd l x hx; omega) (by have := meanV_len l; omega), hb⟩

set_option maxHeartbeats 800000 in
theorem spec_MeanOf (A : Option Addr) (c : Nat) (l : List (List Int)) (w : World) (h : RR w w.heap.size A l) :
    Calls Try.prog 74 #[.slice A l.length c] w fun e w' => ∃ v, e = .returned v ∧ OwnI w' w.heap.size w'.heap.size v (meanV l) ∧ Grow w w' := by
  have hl := h.len
  cases hr : inB (l.length : Int) 1 16
  · have hno : meanV l = [] := meanV_no (by rw [meanOk, hr]; rfl)
    rw [hno]
    go_enter Try.func74, Try.ntmps74
    go_wp2_with (go_at_call 87; refine (spec_inRange _ _ _ _).mono ?_; rintro e w' ⟨rfl, rfl⟩)
    go_ret
    exact ⟨_, rfl, OwnI.nil_, Grow.refl _⟩
  · have HR := Lib.hid hr
    go_enter Try.func74, Try.ntmps74
    go_wp2_with (go_at_call 87; refine (spec_inRange _ _ _ _).mono ?_; rintro e w' ⟨rfl, rfl⟩)
    clear hr
    go_loop [3] (fun i => ∃ k : Nat, k ≤ l.length ∧ i = .int .i64 k ∧ ∀ j r, j < k → l[j]? = some r → vecB r 4 = true) (fun i => l.length - (intOf i).toNat)
    case atStart => exact ⟨0, Nat.zero_le _, rfl, fun j r hj => absurd hj (by omega)⟩
    case round =>
      obtain ⟨k, hk, rfl, hall⟩ := hrel
      have HA := Lib.hid hall
      clear hall
      by_cases hlt : k < l.length
      · obtain ⟨ad, Ak, ck, r, rfl, _, hc, _, _, hri, hkr⟩ := h.at_ hlt
        cases hv : vecB r 4
        · have hno : meanV l = [] := meanV_no (rowsB_bad hkr.out hv)
          have HN := Lib.hid hno
          clear hno
          go_wp2_with (go_at_call 86; refine (spec_isVector _ r _ _ hri).mono ?_; rintro e w' ⟨rfl, rfl⟩)
          go_ret
          exact ⟨_, rfl, by rw [HN.out]; exact OwnI.nil_, Grow.refl _⟩
        · go_wp2_with (go_at_call 86; refine (spec_isVector _ r _ _ hri).mono ?_; rintro e w' ⟨rfl, rfl⟩)
          go_round
          case rel =>
            refine ⟨k + 1, by omega, by go_num, fun j r' hj hr' => ?_⟩
            rcases Nat.lt_succ_iff_lt_or_eq.1 hj with hj | rfl
            · exact HA.out j r' hj hr'
            · rw [hkr.out] at hr'; injection hr' with hr'; rw [← hr']; exact hv
          case measure => simp [intOf]; omega
      · obtain rfl : k = l.length := by omega
        have hok : meanOk l = true := by rw [meanOk, HR.out, rowsB_of HA.out]; rfl
        go_wp2_with (go_at_call 120; refine (spec_mean _ _ _ _ h hok).mono ?_; rintro e w1 ⟨v1, rfl, o1, g1⟩)
        go_ret
        exact ⟨_, rfl, o1, g1⟩

theorem rangeI_set {f g : Nat → Int} {n j : Nat} {y : Int} (h1 : g j = y) (h2 : ∀ i, i < n → i ≠ j → g i = f i) : (rangeI f n).set j y = rangeI g n := by
  apply List.ext_getElem (by simp [rangeI_len])
  intro i a b
  rw [rangeI_len] at b
  rw [List.getElem_set]
  split
  · rename_i e; subst e; simp [rangeI, h1]
  · rename_i e; simp [rangeI]; exact (h2 i b (fun h => e h.symm)).symm
def addF (l : List (List Int)) (k j c : Nat) : Int := if c < j then colS l c (k + 1) else colS l c k
def divF (l : List (List Int)) (j c : Nat) : Int := if c < j then meanF l c else colS l c l.length
theorem addF_set {l : List (List Int)} {k j : Nat} {r : List Int} {x : Int} (hr : l[k]? = some r) (hx : r[j]? = some x) (hj : j < 4) : (rangeI (addF l k j) 4).set j (addF l k j j + x) = rangeI (addF l k (j + 1)) 4 := by
  refine rangeI_set ?_ fun i _ hne => ?_
  · simp [addF, colS, sumTo, rowI_of hr, gI_of hx]
  · unfold addF
    by_cases h : i < j
    · rw [if_pos h, if_pos (by omega)]
    · rw [if_neg h, if_neg (by omega)]
theorem divF_set {l : List (List Int)} {j : Nat} (hj : j < 4) : (rangeI (divF l j) 4).set j (divF l j j / l.length) = rangeI (divF l (j + 1)) 4 := by
  refine rangeI_set ?_ fun i _ hne => ?_
  · simp [divF, meanF]
  · unfold divF
    by_cases h : i < j
    · rw [if_pos h, if_pos (by omega)]
    · rw [if_neg h, if_neg (by omega)]
theorem colS_bd_to {l : List (List Int)} {k : Nat} (h : ∀ j r, j < k → l[j]? = some r → vecB r 4 = true) (c : Nat) : -(100 * k) ≤ colS l c k ∧ colS l c k ≤ 100 * k :=
  sumTo_bd (f := fun i => gI (rowI l i) c) fun i hi => by
    cases e : l[i]? with
    | none => show -100 ≤ gI (rowI l i) c ∧ gI (rowI l i) c ≤ 100; rw [rowI, e]; simp [gI]
    | some r => show -100 ≤ gI (rowI l i) c ∧ gI (rowI l i) c ≤ 100; rw [rowI_of e]; exact gI_bd (h i r hi e) c

set_option maxHeartbeats 3200000 in
theorem impl_MeanOf (A : Option Addr) (c : Nat) (l : List (List Int)) (w : World) (h : RR w w.heap.size A l) :
    Calls Try.prog 76 #[.slice A l.length c] w fun e w' => ∃ v, e = .returned v ∧ OwnI w' w.heap.size w'.heap.size v (meanV l) ∧ Grow w w' := by
  have hl := h.len
  by_cases h1 : 1 ≤ l.length
  · by_cases h16 : l.length ≤ 16
    · have hin : inB (l.length : Int) 1 16 = true := inB_yes (by omega) (by omega)
      have HI := Lib.hid hin
      clear hin
      go_enter Try.func76, Try.ntmps76
      go_wp2_with (at_make; refine wpList_zeros rfl _ _ rfl 4 rfl rfl (by omega) ?_; intro w1 o1 g1)
      have b1 : Below w.heap.size w w1 := g1
      go_loopw [20] (fun i wr => ∃ k : Nat, k ≤ l.length ∧ i = .int .i64 k ∧ (∀ j r, j < k → l[j]? = some r → vecB r 4 = true) ∧ OwnI wr w.heap.size w1.heap.size (.slice (some ⟨w.heap.size, 0, none⟩) 4 4) (rangeI (fun c => colS l c k) 4) ∧ Below w.heap.size w wr ∧ w1.heap.size ≤ wr.heap.size) (fun i _ => l.length - (intOf i).toNat)
      case atStart => exact ⟨0, Nat.zero_le _, rfl, fun j r hj => absurd hj (by omega), o1, b1, Nat.le_refl _⟩
      case round =>
        obtain ⟨k, hk, rfl, hall, ho, hb, hz⟩ := hrel
        have HA := Lib.hid hall
        clear hall
        by_cases hlt : k < l.length
        · have hW := h.keep hb
          obtain ⟨ad, Ak, ck, r, rfl, _, hc, _, _, hri, hkr⟩ := hW.at_ hlt
          have hri' := hri.more hb.size
          cases hv : vecB r 4
          · have hno : meanV l = [] := meanV_no (rowsB_bad hkr.out hv)
            have HN := Lib.hid hno
            clear hno
            go_wp2_with (go_at_call 84; refine (impl_isVector _ r _ _ _ hri').mono ?_; rintro e w' ⟨rfl, rfl⟩)
            go_ret
            exact ⟨_, rfl, by rw [HN.out]; exact OwnI.nil_, hb⟩
          · have HV := Lib.hid hv
            have hr4 : 4 ≤ r.length := Nat.le_of_eq (vecB_four hv).symm
            have hr5 : r.length ≤ 4 := Nat.le_of_eq (vecB_four hv)
            obtain ⟨wo, rfl⟩ : ∃ wo : World, wo = wr := ⟨_, rfl⟩
            go_wp2_with (go_at_call 84; refine (impl_isVector _ r _ _ _ hri').mono ?_; rintro e w' ⟨rfl, rfl⟩)
            clear hv hc
            have e0 : rangeI (fun c => colS l c k) 4 = rangeI (addF l k 0) 4 := rangeI_congr fun i _ => by simp [addF]
            rw [e0] at ho
            clear e0
            have hk16 : k ≤ 16 := by omega
            go_loopw [29] (fun i wi => ∃ j : Nat, j ≤ r.length ∧ i = .int .i64 j ∧ OwnI wi w.heap.size w1.heap.size (.slice (some ⟨w.heap.size, 0, none⟩) 4 4) (rangeI (addF l k j) 4) ∧ Below w.heap.size wo wi ∧ w1.heap.size ≤ wi.heap.size) (fun i _ => r.length - (intOf i).toNat)
            case atStart => exact ⟨0, Nat.zero_le _, rfl, ho, Below.refl _ _, hz⟩
            case round =>
              obtain ⟨j, hj, rfl, hoi, hbi, hzi⟩ := hrel
              by_cases hjl : j < r.length
              · obtain ⟨bd, x, rfl, _, hcx, _, _, hkx⟩ := (hri.below hbi).at_ hjl
                obtain ⟨x1, x2⟩ := vecB_at HV.out hkx.out
                have hj4 : j < 4 := by omega
                have hab : addF l k j j = colS l j k := by simp [addF]
                have hbd := colS_bd_to HA.out j
                rw [← hab] at hbd
                obtain ⟨a1, a2⟩ : -1600 ≤ addF l k j j ∧ addF l k j j ≤ 1600 := by omega
                have hcell := hoi.cellAt (rangeI_len _ _).symm (rangeI_at (addF l k j) hj4)
                have hfz := hoi.frozenAt j (rangeI_len _ _).symm
                have hst := hoi.set_ (j := j) (x := addF l k j j + x) (rangeI_len _ _).symm (by omega)
                rw [addF_set hkr.out hkx.out hj4] at hst
                have hbs : Below w.heap.size wo (wr.setCell ⟨w.heap.size, j, none⟩ (.int .i64 (addF l k j j + x))) := hbi.setCell (Nat.le_refl _) _
                have hzs : w1.heap.size ≤ (wr.setCell ⟨w.heap.size, j, none⟩ (.int .i64 (addF l k j j + x))).heap.size := by simpa [World.setCell] using hzi
                clear hab hbd hoi hbi hzi
                go_wp2
                go_roundw
                case rel => exact ⟨j + 1, by omega, by go_num, hst, hbs, hzs⟩
                case measure => simp [intOf]; omega
              · have hj4 : j = 4 := by omega
                have e4 : rangeI (addF l k j) 4 = rangeI (fun c => colS l c (k + 1)) 4 := rangeI_congr fun i hi => by rw [addF, if_pos (by omega)]
                rw [e4] at hoi
                clear e4 hj4
                go_wp2
                go_roundw
                case rel =>
                  refine ⟨k + 1, by omega, by go_num, fun j r' hj hr' => ?_, hoi, hb.trans hbi, hzi⟩
                  rcases Nat.lt_succ_iff_lt_or_eq.1 hj with hj | rfl
                  · exact HA.out j r' hj hr'
                  · rw [hkr.out] at hr'; injection hr' with hr'; rw [← hr']; exact HV.out
                case measure => simp [intOf]; omega
        · obtain rfl : k = l.length := by omega
          have hok : meanOk l = true := by rw [meanOk, HI.out, rowsB_of HA.out]; rfl
          have HO := Lib.hid hok
          have e0 : rangeI (fun c => colS l c l.length) 4 = rangeI (divF l 0) 4 := rangeI_congr fun i _ => by simp [divF]
          rw [e0] at ho
          clear e0 hok
          have hbd : ∀ c, -1600 ≤ colS l c l.length ∧ colS l c l.length ≤ 1600 := fun c => by have := colS_bd_to HA.out c; omega
          have HBD := Lib.hid hbd
          clear hbd
          obtain ⟨wo, rfl⟩ : ∃ wo : World, wo = wr := ⟨_, rfl⟩
          go_wp2_with fail
          go_loopw [45] (fun i wi => ∃ j : Nat, j ≤ 4 ∧ i = .int .i64 j ∧ OwnI wi w.heap.size w1.heap.size (.slice (some ⟨w.heap.size, 0, none⟩) 4 4) (rangeI (divF l j) 4) ∧ Below w.heap.size w wi ∧ w1.heap.size ≤ wi.heap.size) (fun i _ => 4 - (intOf i).toNat)
          case atStart => exact ⟨0, Nat.zero_le _, rfl, ho, hb, hz⟩
          case round =>
            obtain ⟨j, hj, rfl, hoi, hbi, hzi⟩ := hrel
            by_cases hj4 : j < 4
            · have hab : divF l j j = colS l j l.length := by simp [divF]
              have hbd := HBD.out j
              rw [← hab] at hbd
              obtain ⟨a1, a2⟩ := hbd
              have hcell := hoi.cellAt (rangeI_len _ _).symm (rangeI_at (divF l j) hj4)
              have hfz := hoi.frozenAt j (rangeI_len _ _).symm
              have q := div_between (s := divF l j j) (n := l.length) (lo := -1600) (hi := 1600) (by omega) (by omega) (by omega)
              have hst := hoi.set_ (j := j) (x := divF l j j / l.length) (rangeI_len _ _).symm (by omega)
              rw [divF_set hj4] at hst
              have hbs : Below w.heap.size w (wr.setCell ⟨w.heap.size, j, none⟩ (.int .i64 (divF l j j / (l.length : Int)))) := hbi.setCell (Nat.le_refl _) _
              have hzs : w1.heap.size ≤ (wr.setCell ⟨w.heap.size, j, none⟩ (.int .i64 (divF l j j / (l.length : Int)))).heap.size := by simpa [World.setCell] using hzi
              clear hab hoi hbi hzi q
              go_wp2_with (go_at_call 121; refine (impl_floorDiv _ _ _ (by omega) (by omega) (by omega) (by omega)).mono ?_; rintro e w' ⟨rfl, rfl⟩)
              go_roundw
              case rel => exact ⟨j + 1, by omega, by go_num, hst, hbs, hzs⟩
              case measure => simp [intOf]; omega
            · have e4 : rangeI (divF l j) 4 = meanV l := by
                rw [meanV_of HO.out]
                exact rangeI_congr fun i hi => by rw [divF, if_pos (by omega)]
              rw [e4] at hoi
              clear e4
              go_wp2
              go_ret
              exact ⟨_, rfl, hoi.lower (Nat.le_refl _) hzi, hbi⟩
    · have hno : meanV l = [] := meanV_no (by rw [meanOk, inB_no (.inr (by omega))]; rfl)
      rw [hno]
      go_enter Try.func76, Try.ntmps76
      go_wp2_with fail
      go_ret
      exact ⟨_, rfl, OwnI.nil_, Grow.refl _⟩
  · have hno : meanV l = [] := meanV_no (by rw [meanOk, inB_no (.inl (by omega))]; rfl)
    rw [hno]
    go_enter Try.func76, Try.ntmps76
    go_wp2_with fail
    go_ret
    exact ⟨_, rfl, OwnI.nil_, Grow.refl _⟩
end Go.Proofs.Ytbbiffaggnllnaa
