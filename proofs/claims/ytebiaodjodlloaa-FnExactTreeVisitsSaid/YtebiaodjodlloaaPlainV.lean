/- Plain laws on vectors: products, distances, ways, means. No program in sight. -/
import Derived.Test.YtebiaodjodlloaaPlain
namespace Go.Proofs.Ytebiaodjodlloaa
set_option linter.unusedVariables false

theorem four {xs : List Int} (h : xs.length = 4) : ∃ p q r s, xs = [p, q, r, s] := by
  match xs, h with
  | [p, q, r, s], _ => exact ⟨p, q, r, s, rfl⟩
theorem gI_bd {xs : List Int} (h : vecB xs 4 = true) (i : Nat) : -100 ≤ gI xs i ∧ gI xs i ≤ 100 := by
  unfold gI
  cases hx : xs[i]? with
  | none => exact ⟨by decide, by decide⟩
  | some x => exact vecB_at h hx
theorem ad_nonneg (x y : Int) : 0 ≤ ad x y := by unfold ad; split <;> omega
theorem ad_zero {x y : Int} : ad x y = 0 ↔ x = y := by unfold ad; split <;> omega
theorem ad_self (x : Int) : ad x x = 0 := ad_zero.2 rfl
theorem ad_tri (x y z : Int) : ad x y ≤ ad x z + ad z y := by unfold ad; split <;> split <;> split <;> omega
theorem ad_shift (x y t : Int) : ad (x + t) (y + t) = ad x y := by unfold ad; split <;> split <;> omega
theorem one_bd (d : Int) : 0 ≤ one d ∧ one d ≤ 1 := by unfold one; split <;> omega
theorem one_le {d : Int} (h : 0 ≤ d) : one d ≤ d := by unfold one; split <;> omega
theorem one_zero {d : Int} (h : 0 ≤ d) : one d = 0 ↔ d = 0 := by unfold one; split <;> omega
theorem one_tri {x y z : Int} (h : x ≤ y + z) (h2 : 0 ≤ y) (h3 : 0 ≤ z) : one x ≤ one y + one z := by
  unfold one; split <;> split <;> split <;> omega
theorem le_sq {d : Int} (h : 0 ≤ d) : d ≤ d * d := by
  rcases Int.lt_or_le d 1 with h1 | h1
  · have : d = 0 := by omega
    subst this; simp
  · have : d * 1 ≤ d * d := Int.mul_le_mul_of_nonneg_left h1 h
    omega
theorem sq_zero {d : Int} : d * d = 0 ↔ d = 0 := by simp [Int.mul_eq_zero]

/-! Sums and greatest values. -/
theorem sumTo_le {f g : Nat → Int} {k : Nat} (h : ∀ i, i < k → f i ≤ g i) : sumTo f k ≤ sumTo g k := by
  induction k with
  | zero => exact Int.le_refl _
  | succ k ih => have := ih (fun i hi => h i (by omega)); have := h k (by omega); rw [sumTo, sumTo]; omega
theorem sumTo_add (f g : Nat → Int) (k : Nat) : sumTo (fun i => f i + g i) k = sumTo f k + sumTo g k := by
  induction k with
  | zero => rfl
  | succ k ih => rw [sumTo, sumTo, sumTo, ih]; omega
theorem sumTo_neg (f : Nat → Int) (k : Nat) : sumTo (fun i => -f i) k = -sumTo f k := by
  induction k with
  | zero => rfl
  | succ k ih => rw [sumTo, sumTo, ih]; omega
theorem sumTo_const (c : Int) (k : Nat) : sumTo (fun _ => c) k = c * k := by
  induction k with
  | zero => simp [sumTo]
  | succ k ih => rw [sumTo, ih, Int.natCast_add, Int.mul_add]; simp
theorem sumTo_nonneg {f : Nat → Int} {k : Nat} (h : ∀ i, i < k → 0 ≤ f i) : 0 ≤ sumTo f k := by
  induction k with
  | zero => exact Int.le_refl _
  | succ k ih => have := ih (fun i hi => h i (by omega)); have := h k (by omega); rw [sumTo]; omega
theorem sumTo_zero {f : Nat → Int} {k : Nat} (h : ∀ i, i < k → 0 ≤ f i) : sumTo f k = 0 ↔ ∀ i, i < k → f i = 0 := by
  induction k with
  | zero => simp [sumTo]
  | succ k ih =>
    have h1 := sumTo_nonneg (k := k) (fun i hi => h i (by omega))
    have h2 := h k (by omega)
    have ih' := ih (fun i hi => h i (by omega))
    rw [sumTo]
    constructor
    · intro e i hi
      rcases Nat.lt_succ_iff_lt_or_eq.1 hi with hlt | rfl
      · exact ih'.1 (by omega) i hlt
      · omega
    · intro e
      have := ih'.2 (fun i hi => e i (by omega))
      have := e k (by omega)
      omega
theorem sumTo_single {f : Nat → Int} {n k : Nat} (hk : k < n) (h : ∀ i, i < n → i ≠ k → f i = 0) : sumTo f n = f k := by
  induction n with
  | zero => omega
  | succ n ih =>
    rw [sumTo]
    by_cases e : k = n
    · subst e
      have : sumTo f k = sumTo (fun _ => 0) k := sumTo_congr fun i hi => h i (by omega) (by omega)
      rw [this, sumTo_const]; omega
    · rw [ih (by omega) (fun i hi he => h i (by omega) he), h n (by omega) (by omega)]; omega
theorem sumTo_head (f : Nat → Int) (n : Nat) : sumTo f (n + 1) = f 0 + sumTo (fun i => f (i + 1)) n := by
  induction n with
  | zero => simp [sumTo]
  | succ n ih => rw [sumTo, ih, sumTo]; omega
theorem sumTo_back (f : Nat → Int) (n : Nat) : sumTo (fun i => f (n - 1 - i)) n = sumTo f n := by
  induction n generalizing f with
  | zero => rfl
  | succ n ih =>
    rw [sumTo, sumTo_head f n, ← ih (fun i => f (i + 1))]
    have e : sumTo (fun i => f (n + 1 - 1 - i)) n = sumTo (fun i => f (n - 1 - i + 1)) n := sumTo_congr fun i hi => by
      rw [show n + 1 - 1 - i = n - 1 - i + 1 by omega]
    rw [e, show n + 1 - 1 - n = 0 by omega]; omega
theorem mostTo_step (f : Nat → Int) (k : Nat) : mostTo f k ≤ mostTo f (k + 1) ∧ f k ≤ mostTo f (k + 1) ∧ (mostTo f (k + 1) = mostTo f k ∨ mostTo f (k + 1) = f k) := by
  rw [mostTo]; split <;> omega
theorem mostTo_nonneg (f : Nat → Int) (k : Nat) : 0 ≤ mostTo f k := by
  induction k with
  | zero => exact Int.le_refl _
  | succ k ih => have := mostTo_step f k; omega
theorem mostTo_ge {f : Nat → Int} {k i : Nat} (h : i < k) : f i ≤ mostTo f k := by
  induction k with
  | zero => omega
  | succ k ih =>
    have := mostTo_step f k
    rcases Nat.lt_succ_iff_lt_or_eq.1 h with hlt | rfl
    · have := ih hlt; omega
    · omega
theorem mostTo_le {f : Nat → Int} {k : Nat} {c : Int} (hc : 0 ≤ c) (h : ∀ i, i < k → f i ≤ c) : mostTo f k ≤ c := by
  induction k with
  | zero => exact hc
  | succ k ih =>
    have := mostTo_step f k
    have := ih (fun i hi => h i (by omega))
    have := h k (by omega)
    omega
theorem mostTo_le_sum {f : Nat → Int} {k : Nat} (h : ∀ i, i < k → 0 ≤ f i) : mostTo f k ≤ sumTo f k := by
  induction k with
  | zero => exact Int.le_refl _
  | succ k ih =>
    have := mostTo_step f k
    have := ih (fun i hi => h i (by omega))
    have := h k (by omega)
    have := sumTo_nonneg (k := k) (fun i hi => h i (by omega))
    rw [sumTo]; omega
theorem sum_le_mostTo {f : Nat → Int} {k : Nat} : sumTo f k ≤ mostTo f k * k := by
  rw [← sumTo_const]
  exact sumTo_le fun i hi => mostTo_ge hi
theorem mostTo_zero {f : Nat → Int} {k : Nat} (h : ∀ i, i < k → 0 ≤ f i) : mostTo f k = 0 ↔ ∀ i, i < k → f i = 0 := by
  constructor
  · intro e i hi; have := mostTo_ge (f := f) hi; have := h i hi; omega
  · intro e
    have h1 := mostTo_le (f := f) (k := k) (c := 0) (Int.le_refl _) (fun i hi => by rw [e i hi]; exact Int.le_refl _)
    have h2 := mostTo_nonneg f k
    omega
theorem mostTo_single {f : Nat → Int} {n k : Nat} (hk : k < n) (h0 : 0 ≤ f k) (h : ∀ i, i < n → i ≠ k → f i = 0) : mostTo f n = f k := by
  have h1 : mostTo f n ≤ f k := mostTo_le h0 fun i hi => by
    by_cases e : i = k
    · rw [e]; exact Int.le_refl _
    · rw [h i hi e]; exact h0
  have h2 := mostTo_ge (f := f) hk
  omega

/-! Distances. -/
theorem dI_nonneg (a b : List Int) (i : Nat) : 0 ≤ dI a b i := ad_nonneg _ _
theorem dI_comm (a b : List Int) : dI a b = dI b a := funext fun i => ad_comm _ _
theorem distL_comm (kind : Int) (a b : List Int) (k : Nat) : distL kind a b k = distL kind b a k := by unfold distL; rw [dI_comm]
theorem distL_nonneg (kind : Int) (a b : List Int) (k : Nat) : 0 ≤ distL kind a b k := by
  unfold distL
  split
  · exact sumTo_nonneg fun i _ => dI_nonneg a b i
  split
  · exact mostTo_nonneg _ _
  split
  · exact sumTo_nonneg fun i _ => Int.mul_nonneg (dI_nonneg a b i) (dI_nonneg a b i)
  · exact sumTo_nonneg fun i _ => (one_bd _).1
theorem distL_zero_iff (kind : Int) (a b : List Int) (k : Nat) : distL kind a b k = 0 ↔ ∀ i, i < k → gI a i = gI b i := by
  unfold distL
  split
  · rw [sumTo_zero fun i _ => dI_nonneg a b i]; exact forall_congr' fun i => forall_congr' fun _ => ad_zero
  split
  · rw [mostTo_zero fun i _ => dI_nonneg a b i]; exact forall_congr' fun i => forall_congr' fun _ => ad_zero
  split
  · rw [sumTo_zero fun i _ => Int.mul_nonneg (dI_nonneg a b i) (dI_nonneg a b i)]
    exact forall_congr' fun i => forall_congr' fun _ => sq_zero.trans ad_zero
  · rw [sumTo_zero fun i _ => (one_bd _).1]
    exact forall_congr' fun i => forall_congr' fun _ => (one_zero (dI_nonneg a b i)).trans ad_zero
theorem distL_self (kind : Int) (a : List Int) (k : Nat) : distL kind a a k = 0 := (distL_zero_iff _ _ _ _).2 fun _ _ => rfl
theorem eq_of_gI {a b : List Int} (h : a.length = b.length) (hg : ∀ i, i < a.length → gI a i = gI b i) : a = b := by
  apply List.ext_getElem h
  intro i h1 h2
  have := hg i h1
  simpa [gI, List.getElem?_eq_getElem h1, List.getElem?_eq_getElem h2] using this
theorem dI_bd {a b : List Int} (ha : vecB a 4 = true) (hb : vecB b 4 = true) (i : Nat) : 0 ≤ dI a b i ∧ dI a b i ≤ 200 := by
  obtain ⟨h1, h2⟩ := gI_bd ha i
  obtain ⟨h3, h4⟩ := gI_bd hb i
  exact ad_bd h1 h2 h3 h4
theorem distL_bd {a b : List Int} (kind : Int) (ha : vecB a 4 = true) (hb : vecB b 4 = true) : 0 ≤ distL kind a b 4 ∧ distL kind a b 4 ≤ 160000 := by
  refine ⟨distL_nonneg _ _ _ _, ?_⟩
  unfold distL
  split
  · have := (sumTo_bd (f := dI a b) (c := 200) (k := 4) (fun i _ => by have := dI_bd ha hb i; omega)).2; omega
  split
  · have := mostTo_le (f := dI a b) (k := 4) (c := 200) (by omega) (fun i _ => (dI_bd ha hb i).2); omega
  split
  · have := (sumTo_bd (f := fun i => dI a b i * dI a b i) (c := 40000) (k := 4) (fun i _ => by have h := dI_bd ha hb i; have := sq_bd h.1 h.2; omega)).2; omega
  · have := (sumTo_bd (f := fun i => one (dI a b i)) (c := 1) (k := 4) (fun i _ => by have := one_bd (dI a b i); omega)).2; omega
theorem distV_of {kind : Int} {a b : List Int} (hk : kindB kind = true) (ha : vecB a 4 = true) (hb : vecB b 4 = true) : distV kind a b = distL kind a b 4 := by simp [distV, hk, ha, hb]
theorem distV_valid {kind : Int} {a b : List Int} (h : ¬ distV kind a b < 0) : kindB kind = true ∧ vecB a 4 = true ∧ vecB b 4 = true := by
  unfold distV at h
  split at h
  · rename_i hh
    simp only [Bool.and_eq_true] at hh
    exact ⟨hh.1.1, hh.1.2, hh.2⟩
  · exact absurd (by decide) h
theorem distV_bd (kind : Int) (a b : List Int) : -1 ≤ distV kind a b ∧ distV kind a b ≤ 160000 := by
  unfold distV
  split
  · rename_i hh
    simp only [Bool.and_eq_true] at hh
    have := distL_bd kind hh.1.2 hh.2
    omega
  · omega
theorem distV_comm (kind : Int) (a b : List Int) : distV kind a b = distV kind b a := by
  unfold distV
  rw [distL_comm, Bool.and_assoc, Bool.and_comm (vecB a 4), ← Bool.and_assoc]
theorem distL_tri {kind : Int} (h3 : kind ≠ 3) (a b c : List Int) (k : Nat) : distL kind a b k ≤ distL kind a c k + distL kind c b k := by
  unfold distL
  split
  · rw [← sumTo_add]; exact sumTo_le fun i _ => ad_tri _ _ _
  split
  · have h1 := mostTo_nonneg (dI a c) k
    have h2 := mostTo_nonneg (dI c b) k
    refine mostTo_le (by omega) fun i hi => ?_
    have h3 := mostTo_ge (f := dI a c) hi
    have h4 := mostTo_ge (f := dI c b) hi
    have := ad_tri (gI a i) (gI b i) (gI c i)
    unfold dI at *
    omega
  · first | rw [if_neg h3] | skip
    rw [← sumTo_add]
    exact sumTo_le fun i _ => one_tri (ad_tri _ _ _) (dI_nonneg _ _ _) (dI_nonneg _ _ _)
theorem dist_kinds (a b : List Int) : distL 2 a b 4 ≤ distL 1 a b 4 ∧ distL 4 a b 4 ≤ distL 1 a b 4 ∧ distL 1 a b 4 ≤ distL 3 a b 4 ∧ distL 1 a b 4 ≤ 4 * distL 2 a b 4 ∧ distL 4 a b 4 ≤ 4 := by
  have e1 : distL 1 a b 4 = sumTo (dI a b) 4 := rfl
  have e2 : distL 2 a b 4 = mostTo (dI a b) 4 := rfl
  have e3 : distL 3 a b 4 = sumTo (fun i => dI a b i * dI a b i) 4 := rfl
  have e4 : distL 4 a b 4 = sumTo (fun i => one (dI a b i)) 4 := rfl
  rw [e1, e2, e3, e4]
  refine ⟨mostTo_le_sum fun i _ => dI_nonneg a b i, sumTo_le fun i _ => one_le (dI_nonneg a b i), sumTo_le fun i _ => le_sq (dI_nonneg a b i), ?_, ?_⟩
  · have := sum_le_mostTo (f := dI a b) (k := 4); omega
  · have := (sumTo_bd (f := fun i => one (dI a b i)) (c := 1) (k := 4) (fun i _ => by have := one_bd (dI a b i); omega)).2; omega
/-- Two vectors that differ at place k alone. -/
theorem dist_one {a c : List Int} {k : Nat} (hk : k < 4) (h : ∀ i, i < 4 → i ≠ k → gI a i = gI c i) :
    distL 1 a c 4 = distL 2 a c 4 ∧ distL 1 a c 4 * distL 1 a c 4 = distL 3 a c 4 ∧ distL 4 a c 4 = if 1 < distL 1 a c 4 then 1 else distL 1 a c 4 := by
  have z : ∀ i, i < 4 → i ≠ k → dI a c i = 0 := fun i hi he => ad_zero.2 (h i hi he)
  have e1 : distL 1 a c 4 = dI a c k := sumTo_single hk z
  have e2 : distL 2 a c 4 = dI a c k := mostTo_single hk (dI_nonneg _ _ _) z
  have e3 : distL 3 a c 4 = dI a c k * dI a c k := sumTo_single (f := fun i => dI a c i * dI a c i) hk fun i hi he => by rw [z i hi he]; rfl
  have e4 : distL 4 a c 4 = one (dI a c k) := sumTo_single (f := fun i => one (dI a c i)) hk fun i hi he => by rw [z i hi he]; rfl
  have := dI_nonneg a c k
  refine ⟨by rw [e1, e2], by rw [e1, e3], ?_⟩
  rw [e1, e4]
  unfold one
  split <;> split <;> omega

/-! Products. -/
theorem dot4 (a b : List Int) : dotL a b 4 = gI a 0 * gI b 0 + gI a 1 * gI b 1 + gI a 2 * gI b 2 + gI a 3 * gI b 3 := by
  simp [dotL, sumTo]
theorem dotL_comm (a b : List Int) (k : Nat) : dotL a b k = dotL b a k := sumTo_congr fun i _ => Int.mul_comm _ _
theorem dotV_comm (a b : List Int) : dotV a b = dotV b a := by unfold dotV; rw [dotL_comm, Bool.and_comm]
theorem dotL_bd {a b : List Int} (ha : vecB a 4 = true) (hb : vecB b 4 = true) : -40000 ≤ dotL a b 4 ∧ dotL a b 4 ≤ 40000 := by
  have := sumTo_bd (f := fun i => gI a i * gI b i) (c := 10000) (k := 4) (fun i _ => prod_bd (gI_bd ha i).1 (gI_bd ha i).2 (gI_bd hb i).1 (gI_bd hb i).2)
  unfold dotL
  omega
theorem dotV_of {a b : List Int} (ha : vecB a 4 = true) (hb : vecB b 4 = true) : dotV a b = dotL a b 4 := by simp [dotV, ha, hb]
theorem sq_ad (x y : Int) : ad x y * ad x y = x * x + y * y - 2 * (x * y) := by
  unfold ad; split <;> grind
theorem dist_sq (a b : List Int) : distL 3 a b 4 = dotL a a 4 + dotL b b 4 - 2 * dotL a b 4 := by
  have e3 : distL 3 a b 4 = sumTo (fun i => dI a b i * dI a b i) 4 := rfl
  rw [e3, dot4, dot4, dot4]
  simp only [sumTo, dI, sq_ad]
  omega
theorem dot_self_nonneg (a : List Int) : 0 ≤ dotL a a 4 := sumTo_nonneg fun i _ => by
  rcases Int.le_total 0 (gI a i) with h | h
  · exact Int.mul_nonneg h h
  · exact Int.mul_nonneg_of_nonpos_of_nonpos h h
theorem sq_nonneg (x : Int) : 0 ≤ x * x := by
  rcases Int.le_total 0 x with h | h
  · exact Int.mul_nonneg h h
  · exact Int.mul_nonneg_of_nonpos_of_nonpos h h
theorem cauchy4 (a b c d x y z t : Int) : (a * x + b * y + c * z + d * t) * (a * x + b * y + c * z + d * t) ≤ (a * a + b * b + c * c + d * d) * (x * x + y * y + z * z + t * t) := by
  have e : (a * a + b * b + c * c + d * d) * (x * x + y * y + z * z + t * t) - (a * x + b * y + c * z + d * t) * (a * x + b * y + c * z + d * t) =
      (a * y - b * x) * (a * y - b * x) + (a * z - c * x) * (a * z - c * x) + (a * t - d * x) * (a * t - d * x) + (b * z - c * y) * (b * z - c * y) + (b * t - d * y) * (b * t - d * y) + (c * t - d * z) * (c * t - d * z) := by grind
  have h1 := sq_nonneg (a * y - b * x)
  have h2 := sq_nonneg (a * z - c * x)
  have h3 := sq_nonneg (a * t - d * x)
  have h4 := sq_nonneg (b * z - c * y)
  have h5 := sq_nonneg (b * t - d * y)
  have h6 := sq_nonneg (c * t - d * z)
  omega
theorem dot_cauchy (a b : List Int) : dotL a b 4 * dotL a b 4 ≤ dotL a a 4 * dotL b b 4 := by
  rw [dot4, dot4, dot4]; exact cauchy4 _ _ _ _ _ _ _ _

/-! Lists given by their places. -/
theorem gI_map (f : Int → Int) (xs : List Int) {i : Nat} (h : i < xs.length) : gI (xs.map f) i = f (gI xs i) := by
  simp [gI, List.getElem?_eq_getElem h]
theorem gI_rangeI (f : Nat → Int) {n i : Nat} (h : i < n) : gI (rangeI f n) i = f i := gI_of (rangeI_at f h)
theorem vecB_of {xs : List Int} (hl : xs.length = 4) (h : ∀ i, i < 4 → -100 ≤ gI xs i ∧ gI xs i ≤ 100) : vecB xs 4 = true := by
  rw [vecB_len hl, allB, List.all_eq_true]
  intro x hx
  obtain ⟨i, hi⟩ := List.getElem?_of_mem hx
  have hlt : i < 4 := by have := (List.getElem?_eq_some_iff.1 hi).1; omega
  have := h i hlt
  rw [gI_of hi] at this
  exact inB_yes this.1 this.2
theorem vecB_neg (xs : List Int) (n : Int) : vecB (xs.map fun x => -x) n = vecB xs n := by
  unfold vecB
  congr 1
  · rw [List.all_map]
    congr 1
    funext x
    simp only [Function.comp, okc]
    rw [Bool.and_comm]
    congr 1 <;> rw [decide_eq_decide] <;> omega
  · simp
theorem vecB_zero : vecB [0, 0, 0, 0] 4 = true := by decide
theorem dot_zero (a : List Int) : dotL a [0, 0, 0, 0] 4 = 0 := by rw [dot4]; simp [gI]
theorem dot_neg (a b : List Int) (h : b.length = 4) : dotL a (b.map fun x => -x) 4 = -dotL a b 4 := by
  obtain ⟨p, q, r, s, rfl⟩ := four h
  rw [dot4, dot4]; simp [gI]; grind

/-! Ways. -/
theorem moveF_between {a b : List Int} {p : Int} (h0 : 0 ≤ p) (h1 : p ≤ 1000) (i : Nat) :
    (gI a i ≤ gI b i → gI a i ≤ moveF a b p i ∧ moveF a b p i ≤ gI b i) ∧ (gI b i ≤ gI a i → gI b i ≤ moveF a b p i ∧ moveF a b p i ≤ gI a i) := by
  unfold moveF
  refine ⟨fun h => ?_, fun h => ?_⟩
  · have m1 : 0 ≤ (gI b i - gI a i) * p := Int.mul_nonneg (by omega) h0
    have m2 : (gI b i - gI a i) * p ≤ (gI b i - gI a i) * 1000 := Int.mul_le_mul_of_nonneg_left h1 (by omega)
    omega
  · have m1 : 0 ≤ (gI a i - gI b i) * p := Int.mul_nonneg (by omega) h0
    have m2 : (gI a i - gI b i) * p ≤ (gI a i - gI b i) * 1000 := Int.mul_le_mul_of_nonneg_left h1 (by omega)
    have e : (gI b i - gI a i) * p = -((gI a i - gI b i) * p) := by grind
    omega
theorem moveF_zero (a b : List Int) (i : Nat) : moveF a b 0 i = gI a i := by unfold moveF; simp
theorem moveF_all (a b : List Int) (i : Nat) : moveF a b 1000 i = gI b i := by unfold moveF; omega
theorem moveF_same (a : List Int) (p : Int) (i : Nat) : moveF a a p i = gI a i := by unfold moveF; simp
theorem moveV_of {a b : List Int} {p : Int} (ha : vecB a 4 = true) (hb : vecB b 4 = true) (h0 : 0 ≤ p) (h1 : p ≤ 1000) : moveV a b p = rangeI (moveF a b p) 4 := by
  rw [moveV, if_pos]; rw [ha, hb, inB_yes h0 h1]; rfl
theorem moveV_some {a b : List Int} {p : Int} (h : ¬ (moveV a b p).length = 0) : vecB a 4 = true ∧ vecB b 4 = true ∧ 0 ≤ p ∧ p ≤ 1000 := by
  unfold moveV at h
  split at h
  · rename_i hh
    simp only [Bool.and_eq_true] at hh
    exact ⟨hh.1.1, hh.1.2, inB_iff.1 hh.2⟩
  · exact absurd rfl h
theorem rangeI_gI {a : List Int} (h : a.length = 4) : rangeI (gI a) 4 = a := by
  apply eq_of_gI (by rw [rangeI_len, h])
  intro i hi
  rw [rangeI_len] at hi
  exact gI_rangeI _ hi
theorem rangeI_congr {f g : Nat → Int} {n : Nat} (h : ∀ i, i < n → f i = g i) : rangeI f n = rangeI g n := by
  unfold rangeI; exact List.map_congr_left fun i hi => h i (List.mem_range.1 hi)
theorem moveV_zero {a b : List Int} (ha : vecB a 4 = true) (hb : vecB b 4 = true) : moveV a b 0 = a := by
  rw [moveV_of ha hb (by omega) (by omega), rangeI_congr fun i _ => moveF_zero a b i, rangeI_gI (vecB_four ha)]
theorem moveV_all {a b : List Int} (ha : vecB a 4 = true) (hb : vecB b 4 = true) : moveV a b 1000 = b := by
  rw [moveV_of ha hb (by omega) (by omega), rangeI_congr fun i _ => moveF_all a b i, rangeI_gI (vecB_four hb)]
theorem moveV_same {a : List Int} {p : Int} (ha : vecB a 4 = true) (h0 : 0 ≤ p) (h1 : p ≤ 1000) : moveV a a p = a := by
  rw [moveV_of ha ha h0 h1, rangeI_congr fun i _ => moveF_same a p i, rangeI_gI (vecB_four ha)]
theorem moveV_vec {a b : List Int} {p : Int} (ha : vecB a 4 = true) (hb : vecB b 4 = true) (h0 : 0 ≤ p) (h1 : p ≤ 1000) : vecB (moveV a b p) 4 = true := by
  rw [moveV_of ha hb h0 h1]
  refine vecB_of (rangeI_len _ _) fun i hi => ?_
  rw [gI_rangeI _ hi]
  have h1 := gI_bd ha i
  have h2 := gI_bd hb i
  have h3 := moveF_between (a := a) (b := b) (p := p) (by assumption) (by assumption) i
  rcases Int.le_total (gI a i) (gI b i) with h | h
  · have := h3.1 h; omega
  · have := h3.2 h; omega
theorem moveF_next {a b : List Int} {p : Int} (h0 : 0 ≤ p) (h1 : p + 1 ≤ 1000) (i : Nat) : ad (moveF a b (p + 1) i) (gI b i) ≤ ad (moveF a b p i) (gI b i) := by
  have b1 := moveF_between (a := a) (b := b) (p := p) h0 (by omega) i
  have b2 := moveF_between (a := a) (b := b) (p := p + 1) (by omega) h1 i
  rcases Int.le_total (gI a i) (gI b i) with h | h
  · have c1 := b1.1 h
    have c2 := b2.1 h
    have c3 : moveF a b p i ≤ moveF a b (p + 1) i := by
      unfold moveF
      have e : (gI b i - gI a i) * (p + 1) = (gI b i - gI a i) * p + (gI b i - gI a i) := by grind
      rw [e]; omega
    unfold ad; split <;> split <;> omega
  · have c1 := b1.2 h
    have c2 := b2.2 h
    have c3 : moveF a b (p + 1) i ≤ moveF a b p i := by
      unfold moveF
      have e : (gI b i - gI a i) * (p + 1) = (gI b i - gI a i) * p + (gI b i - gI a i) := by grind
      rw [e]; omega
    unfold ad; split <;> split <;> omega
theorem move_nearer {a b : List Int} {p : Int} (ha : vecB a 4 = true) (hb : vecB b 4 = true) (h0 : 0 ≤ p) (h1 : p + 1 ≤ 1000) :
    distL 2 (moveV a b (p + 1)) b 4 ≤ distL 2 (moveV a b p) b 4 := by
  rw [moveV_of ha hb h0 (by omega), moveV_of ha hb (by omega) h1]
  have e : ∀ x y : List Int, distL 2 x y 4 = mostTo (dI x y) 4 := fun _ _ => rfl
  rw [e, e]
  refine mostTo_le (mostTo_nonneg _ _) fun i hi => ?_
  have g := mostTo_ge (f := dI (rangeI (moveF a b p) 4) b) hi
  unfold dI at g ⊢
  rw [gI_rangeI _ hi] at g ⊢
  exact Int.le_trans (moveF_next h0 h1 i) g
end Go.Proofs.Ytebiaodjodlloaa
