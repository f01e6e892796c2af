/- Plain functions on lists of integers that the walks and the laws speak of. No program in sight. -/
namespace Go.Proofs.Ytebiaodjodlloaa
set_option linter.unusedVariables false

def inB (n lo hi : Int) : Bool := decide (lo ≤ n) && decide (n ≤ hi)
theorem inB_yes {n lo hi : Int} (h1 : lo ≤ n) (h2 : n ≤ hi) : inB n lo hi = true := by simp [inB, h1, h2]
theorem inB_no {n lo hi : Int} (h : n < lo ∨ hi < n) : inB n lo hi = false := by simp only [inB, Bool.and_eq_false_iff, decide_eq_false_iff_not]; omega
theorem inB_iff {n lo hi : Int} : inB n lo hi = true ↔ lo ≤ n ∧ n ≤ hi := by simp [inB]
def okc (x : Int) : Bool := decide (-100 ≤ x) && decide (x ≤ 100)
def eqB (xs ys : List Int) : Bool := decide (xs = ys)
def vecB (xs : List Int) (n : Int) : Bool := xs.all okc && decide ((xs.length : Int) = n)
theorem okc_of {x : Int} (h1 : -100 ≤ x) (h2 : x ≤ 100) : okc x = true := by simp [okc, h1, h2]
theorem take_step {xs : List Int} {k : Nat} {x : Int} (hx : xs[k]? = some x) : xs.take (k + 1) = xs.take k ++ [x] := by
  rw [List.take_add_one, hx]; rfl
theorem all_step {xs : List Int} {k : Nat} {x : Int} (hx : xs[k]? = some x) (h : (xs.take k).all okc = true) (h1 : -100 ≤ x) (h2 : x ≤ 100) : (xs.take (k + 1)).all okc = true := by
  rw [take_step hx, List.all_append, h]; simp [okc_of h1 h2]
theorem vecB_bad {xs : List Int} {n : Int} {k : Nat} {x : Int} (hx : xs[k]? = some x) (h : x < -100 ∨ 100 < x) : vecB xs n = false := by
  have : xs.all okc = false := by
    rw [List.all_eq_false]
    refine ⟨x, List.mem_of_getElem? hx, ?_⟩
    simp only [okc, Bool.and_eq_true, decide_eq_true_eq]
    omega
  simp [vecB, this]
theorem vecB_end {xs : List Int} {n : Int} (h : (xs.take xs.length).all okc = true) : vecB xs n = ((xs.length : Int) == n) := by
  rw [List.take_length] at h
  rw [vecB, h, Bool.true_and]
  rfl

theorem all_inB_bad {xs : List Int} {lo hi : Int} {k : Nat} {x : Int} (hx : xs[k]? = some x) (h : inB x lo hi = false) : xs.all (fun x => inB x lo hi) = false := by
  rw [List.all_eq_false]
  exact ⟨x, List.mem_of_getElem? hx, by simp [h]⟩
theorem all_inB_step {xs : List Int} {lo hi : Int} {k : Nat} {x : Int} (hx : xs[k]? = some x) (h : (xs.take k).all (fun x => inB x lo hi) = true) (h1 : inB x lo hi = true) : (xs.take (k + 1)).all (fun x => inB x lo hi) = true := by
  rw [take_step hx, List.all_append, h]; simp [h1]
def allB (xs : List Int) (lo hi : Int) : Bool := xs.all (fun x => inB x lo hi)
theorem vecB_eq (xs : List Int) : vecB xs 4 = (((xs.length : Int) == 4) && allB xs (-100) 100) := by
  unfold vecB allB; rw [Bool.and_comm]; rfl
theorem vecB_len {xs : List Int} (h : xs.length = 4) : vecB xs 4 = allB xs (-100) 100 := by rw [vecB_eq, h]; rfl
theorem vecB_short {xs : List Int} (h : xs.length ≠ 4) : vecB xs 4 = false := by
  rw [vecB_eq]; have : ((xs.length : Int) == 4) = false := by rw [beq_eq_false_iff_ne]; omega
  rw [this]; rfl
theorem vecB_four {xs : List Int} (h : vecB xs 4 = true) : xs.length = 4 := by
  apply Decidable.byContradiction; intro hn; rw [vecB_short hn] at h; cases h
theorem vecB_at {xs : List Int} (h : vecB xs 4 = true) {k : Nat} {x : Int} (hx : xs[k]? = some x) : -100 ≤ x ∧ x ≤ 100 := by
  simp only [vecB, Bool.and_eq_true, List.all_eq_true] at h
  have := h.1 x (List.mem_of_getElem? hx)
  simpa [okc] using this
theorem vecB_mem {xs : List Int} (h : vecB xs 4 = true) {x : Int} (hx : x ∈ xs) : -100 ≤ x ∧ x ≤ 100 := by
  obtain ⟨k, hk⟩ := List.getElem?_of_mem hx; exact vecB_at h hk

/-! Sums, greatest values, distances, by index. -/
def gI (xs : List Int) (k : Nat) : Int := xs[k]?.getD 0
theorem gI_of {xs : List Int} {k : Nat} {x : Int} (h : xs[k]? = some x) : gI xs k = x := by rw [gI, h]; rfl
def sumTo (f : Nat → Int) : Nat → Int
  | 0 => 0
  | k + 1 => sumTo f k + f k
def mostTo (f : Nat → Int) : Nat → Int
  | 0 => 0
  | k + 1 => if mostTo f k < f k then f k else mostTo f k
theorem sumTo_bd {f : Nat → Int} {c : Int} {k : Nat} (h : ∀ i, i < k → -c ≤ f i ∧ f i ≤ c) : -(c * k) ≤ sumTo f k ∧ sumTo f k ≤ c * k := by
  induction k with
  | zero => simp [sumTo]
  | succ k ih =>
    have h1 := ih (fun i hi => h i (by omega))
    have h2 := h k (by omega)
    have e : c * ((k + 1 : Nat) : Int) = c * k + c := by rw [Int.natCast_add, Int.mul_add]; simp
    rw [sumTo, e]; omega
theorem sumTo_congr {f g : Nat → Int} {k : Nat} (h : ∀ i, i < k → f i = g i) : sumTo f k = sumTo g k := by
  induction k with
  | zero => rfl
  | succ k ih => rw [sumTo, sumTo, ih (fun i hi => h i (by omega)), h k (by omega)]
theorem mostTo_congr {f g : Nat → Int} {k : Nat} (h : ∀ i, i < k → f i = g i) : mostTo f k = mostTo g k := by
  induction k with
  | zero => rfl
  | succ k ih => rw [mostTo, mostTo, ih (fun i hi => h i (by omega)), h k (by omega)]
def dotL (a b : List Int) (k : Nat) : Int := sumTo (fun i => gI a i * gI b i) k
def dotV (a b : List Int) : Int := if vecB a 4 && vecB b 4 then dotL a b 4 else 0
def gmax (a b : Int) : Int := if a < b then b else a
theorem gmax_eq (a b : Int) : gmax a b = max a b := by unfold gmax; split <;> omega
def ad (x y : Int) : Int := if x - y < y - x then y - x else x - y
theorem ad_eq (x y : Int) : ad x y = gmax (x - y) (-(x - y)) := by unfold ad gmax; split <;> split <;> omega
theorem ad_comm (x y : Int) : ad x y = ad y x := by unfold ad; split <;> split <;> omega
theorem ad_bd {x y : Int} (h1 : -100 ≤ x) (h2 : x ≤ 100) (h3 : -100 ≤ y) (h4 : y ≤ 100) : 0 ≤ ad x y ∧ ad x y ≤ 200 := by unfold ad; split <;> omega
def dI (a b : List Int) (i : Nat) : Int := ad (gI a i) (gI b i)
def one (d : Int) : Int := if 0 < d then 1 else 0
def distL (kind : Int) (a b : List Int) (k : Nat) : Int :=
  if kind = 1 then sumTo (dI a b) k else if kind = 2 then mostTo (dI a b) k else if kind = 3 then sumTo (fun i => dI a b i * dI a b i) k else sumTo (fun i => one (dI a b i)) k
theorem prod_bd {x y : Int} (h1 : -100 ≤ x) (h2 : x ≤ 100) (h3 : -100 ≤ y) (h4 : y ≤ 100) : -10000 ≤ x * y ∧ x * y ≤ 10000 := by
  have a1 : 0 ≤ (x + 100) * (y + 100) := Int.mul_nonneg (by omega) (by omega)
  have a2 : 0 ≤ (100 - x) * (100 - y) := Int.mul_nonneg (by omega) (by omega)
  have a3 : 0 ≤ (x + 100) * (100 - y) := Int.mul_nonneg (by omega) (by omega)
  have a4 : 0 ≤ (100 - x) * (y + 100) := Int.mul_nonneg (by omega) (by omega)
  simp only [Int.add_mul, Int.mul_add, Int.sub_mul, Int.mul_sub] at a1 a2 a3 a4
  omega
theorem sq_bd {d : Int} (h1 : 0 ≤ d) (h2 : d ≤ 200) : 0 ≤ d * d ∧ d * d ≤ 40000 := by
  have a1 : 0 ≤ d * d := Int.mul_nonneg h1 h1
  have a2 : 0 ≤ (200 - d) * (200 + d) := Int.mul_nonneg (by omega) (by omega)
  have e : (200 - d) * (200 + d) = 40000 - d * d := by
    rw [Int.sub_mul, Int.mul_add, Int.mul_add, Int.mul_comm d 200]; omega
  omega
/-- The floor of a quotient, as both texts reckon it. -/
theorem fdiv_neg {a b : Int} (hb : 0 < b) (h : a.tmod b < 0) : a.tdiv b - 1 = a / b := by
  have h1 := Int.tmod_add_mul_tdiv a b
  have h2 := Int.emod_add_mul_ediv a b
  have h3 := Int.emod_nonneg a (Int.ne_of_gt hb)
  have h4 := Int.emod_lt_of_pos a hb
  have h5 : -b < a.tmod b := Int.lt_tmod_of_pos a hb
  have h6 : b * (a.tdiv b - a / b - 1) = a % b - (a.tmod b + b) := by
    rw [Int.mul_sub, Int.mul_sub, Int.mul_one]; omega
  have h7 : -b < b * (a.tdiv b - a / b - 1) := by omega
  have h8 : b * (a.tdiv b - a / b - 1) < b := by omega
  have h9 : a.tdiv b - a / b - 1 = 0 := by
    have k1 : -1 < a.tdiv b - a / b - 1 := by
      apply Int.lt_of_mul_lt_mul_left (a := b) _ (Int.le_of_lt hb); omega
    have k2 : a.tdiv b - a / b - 1 < 1 := by
      apply Int.lt_of_mul_lt_mul_left (a := b) _ (Int.le_of_lt hb); omega
    omega
  omega
theorem fdiv_pos {a b : Int} (hb : 0 < b) (h : ¬ a.tmod b < 0) : a.tdiv b = a / b := by
  have h1 := Int.tmod_add_mul_tdiv a b
  have h2 := Int.emod_add_mul_ediv a b
  have h3 := Int.emod_nonneg a (Int.ne_of_gt hb)
  have h4 := Int.emod_lt_of_pos a hb
  have h5 : a.tmod b < b := Int.tmod_lt_of_pos a hb
  have h6 : b * (a.tdiv b - a / b) = a % b - a.tmod b := by
    rw [Int.mul_sub]; omega
  have k1 : -1 < a.tdiv b - a / b := by
    apply Int.lt_of_mul_lt_mul_left (a := b) _ (Int.le_of_lt hb); omega
  have k2 : a.tdiv b - a / b < 1 := by
    apply Int.lt_of_mul_lt_mul_left (a := b) _ (Int.le_of_lt hb); omega
  omega
theorem tdiv_bd {a : Int} (b : Int) {c : Nat} (h1 : -(c : Int) ≤ a) (h2 : a ≤ c) : -(c : Int) ≤ a.tdiv b ∧ a.tdiv b ≤ c := by
  have h : (a.tdiv b).natAbs ≤ a.natAbs := by rw [Int.natAbs_tdiv]; exact Nat.div_le_self _ _
  omega
def rangeI (f : Nat → Int) (k : Nat) : List Int := (List.range k).map f
theorem rangeI_len (f : Nat → Int) (k : Nat) : (rangeI f k).length = k := by simp [rangeI]
theorem rangeI_succ (f : Nat → Int) (k : Nat) : rangeI f (k + 1) = rangeI f k ++ [f k] := by simp [rangeI, List.range_succ]
theorem rangeI_at (f : Nat → Int) {n k : Nat} (h : k < n) : (rangeI f n)[k]? = some (f k) := by simp [rangeI, h]
def kindB (kind : Int) : Bool := decide (1 ≤ kind) && decide (kind ≤ 4)
def distV (kind : Int) (a b : List Int) : Int := if kindB kind && vecB a 4 && vecB b 4 then distL kind a b 4 else -1
def moveF (a b : List Int) (p : Int) (i : Nat) : Int := gI a i + (gI b i - gI a i) * p / 1000
def moveV (a b : List Int) (p : Int) : List Int := if vecB a 4 && vecB b 4 && inB p 0 1000 then rangeI (moveF a b p) 4 else []
theorem mul_part_bd {d p : Int} (h1 : -200 ≤ d) (h2 : d ≤ 200) (h3 : 0 ≤ p) (h4 : p ≤ 1000) : -200000 ≤ d * p ∧ d * p ≤ 200000 := by
  have a1 : 0 ≤ (d + 200) * p := Int.mul_nonneg (by omega) h3
  have a2 : 0 ≤ (200 - d) * p := Int.mul_nonneg (by omega) h3
  rw [Int.add_mul] at a1
  rw [Int.sub_mul] at a2
  omega
theorem div1000_bd {x : Int} (h1 : -200000 ≤ x) (h2 : x ≤ 200000) : -200 ≤ x / 1000 ∧ x / 1000 ≤ 200 := by omega
theorem moveF_of {a b : List Int} {p x y : Int} {i : Nat} (hx : a[i]? = some x) (hy : b[i]? = some y) : moveF a b p i = x + (y - x) * p / 1000 := by rw [moveF, gI_of hx, gI_of hy]
theorem moveV_bd {a b : List Int} {p : Int} : ∀ x ∈ moveV a b p, -300 ≤ x ∧ x ≤ 300 := by
  intro x hx
  unfold moveV at hx
  split at hx
  · rename_i h
    simp only [Bool.and_eq_true] at h
    obtain ⟨⟨ha, hb⟩, hp⟩ := h
    simp only [rangeI, List.mem_map, List.mem_range] at hx
    obtain ⟨i, hi, rfl⟩ := hx
    have la := vecB_four ha
    have lb := vecB_four hb
    have b1 := vecB_at ha (List.getElem?_eq_getElem (show i < a.length by omega))
    have b2 := vecB_at hb (List.getElem?_eq_getElem (show i < b.length by omega))
    rw [moveF_of (List.getElem?_eq_getElem (show i < a.length by omega)) (List.getElem?_eq_getElem (show i < b.length by omega))]
    have m := mul_part_bd (d := b[i] - a[i]) (by omega) (by omega) (inB_iff.1 hp).1 (inB_iff.1 hp).2
    have q := div1000_bd m.1 m.2
    omega
  · cases hx
theorem moveV_len {a b : List Int} {p : Int} : (moveV a b p).length ≤ 4 := by
  unfold moveV; split
  · rw [rangeI_len]; omega
  · simp
end Go.Proofs.Ytebiaodjodlloaa
