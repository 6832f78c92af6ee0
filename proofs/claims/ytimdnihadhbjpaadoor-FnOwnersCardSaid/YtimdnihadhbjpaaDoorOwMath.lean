/- Plain: long numbers, sums of shares (chapter 22). -/
import Derived.Test.YtimdnihadhbjpaaDoorSlice
set_option linter.unusedSimpArgs false
set_option linter.unusedVariables false
namespace Go.Proofs.YtimdnihadhbjpaaDoor
open Go.RowKit Go.Sort Go.Salt
/-- The long numbers' value, the low parts first. -/
def lv : List Int → Int
  | [] => 0
  | x :: xs => x + 1000000 * lv xs
def limbs (l : List Int) : Prop := ∀ x ∈ l, 0 ≤ x ∧ x < 1000000
def pw (k : Nat) : Int := (1000000 : Int) ^ k
theorem pw_succ (k : Nat) : pw (k + 1) = pw k * 1000000 := Int.pow_succ ..
theorem pw_pos (k : Nat) : 0 < pw k := Int.pow_pos (by decide)
theorem pw_mono {i j : Nat} (h : i ≤ j) : pw i ≤ pw j := by
  induction j with
  | zero => obtain rfl : i = 0 := by omega
            exact Int.le_refl _
  | succ j ih =>
    by_cases e : i = j + 1
    · rw [e]; exact Int.le_refl _
    · have := ih (by omega); have := pw_pos j; rw [pw_succ]; omega
theorem lv_append : ∀ (a b : List Int), lv (a ++ b) = lv a + pw a.length * lv b
  | [], b => by simp [lv, pw]
  | x :: a, b => by
    rw [List.cons_append, lv, lv, lv_append a b, List.length_cons, pw_succ, Int.mul_add, Int.mul_comm (pw a.length) 1000000, Int.mul_assoc]; omega
theorem lv_snoc (a : List Int) (x : Int) : lv (a ++ [x]) = lv a + pw a.length * x := by rw [lv_append]; simp [lv]
theorem lv_zero : ∀ (n : Nat), lv (List.replicate n 0) = 0
  | 0 => rfl
  | n + 1 => by rw [List.replicate_succ, lv, lv_zero n]; rfl
theorem lv_lt : ∀ {l : List Int}, limbs l → 0 ≤ lv l ∧ lv l < pw l.length
  | [], _ => by simp [lv, pw]
  | x :: l, h => by
    have h1 := lv_lt (l := l) (fun y hy => h y (List.mem_cons_of_mem _ hy))
    have h2 := h x (List.mem_cons_self ..)
    rw [lv, List.length_cons, pw_succ]
    omega
/-- The limb at a place, 0 behind the end. -/
def lg (l : List Int) (i : Nat) : Int := (l[i]?).getD 0
theorem lg_bd {l : List Int} (h : limbs l) (i : Nat) : 0 ≤ lg l i ∧ lg l i < 1000000 := by
  unfold lg
  cases hq : l[i]? with
  | none => simp
  | some x => exact h x (List.mem_of_getElem? hq)
theorem lv_take (l : List Int) (i : Nat) : lv (l.take (i + 1)) = lv (l.take i) + pw i * lg l i := by
  unfold lg
  rcases Nat.lt_or_ge i l.length with h | h
  · rw [List.take_succ_eq_append_getElem h, lv_snoc, List.getElem?_eq_getElem h, List.length_take, Nat.min_eq_left (by omega)]; rfl
  · rw [List.take_of_length_le (by omega), List.take_of_length_le h, List.getElem?_eq_none h]; simp
/-- Comparing from the top: where two long numbers differ first from above. -/
def tl (l : List Int) (i : Nat) : Int := lv (l.drop i)
theorem tl_step (l : List Int) (i : Nat) : tl l i = lg l i + 1000000 * tl l (i + 1) := by
  unfold tl lg
  rcases Nat.lt_or_ge i l.length with h | h
  · rw [List.drop_eq_getElem_cons h, lv, List.getElem?_eq_getElem h]; rfl
  · rw [List.drop_of_length_le h, List.drop_of_length_le (by omega), List.getElem?_eq_none h]; simp [lv]
theorem limbs_drop {l : List Int} (h : limbs l) (i : Nat) : limbs (l.drop i) := fun x hx => h x (List.mem_of_mem_drop hx)
theorem lv_split (l : List Int) (i : Nat) : lv l = lv (l.take i) + pw (min i l.length) * tl l i := by
  unfold tl
  have := lv_append (l.take i) (l.drop i)
  rw [List.take_append_drop, List.length_take] at this
  exact this
theorem limbs_take {l : List Int} (h : limbs l) (i : Nat) : limbs (l.take i) := fun x hx => h x (List.mem_of_mem_take hx)
theorem lv_cut (l : List Int) (i : Nat) : lv l = lv (l.take i) + pw i * tl l i := by
  rcases Nat.le_total i l.length with h | h
  · have := lv_split l i; rwa [Nat.min_eq_left h] at this
  · rw [List.take_of_length_le h]; unfold tl; rw [List.drop_of_length_le h]; simp [lv]
theorem lv_take_lt {l : List Int} (h : limbs l) (i : Nat) : 0 ≤ lv (l.take i) ∧ lv (l.take i) < pw i := by
  have h1 := lv_lt (limbs_take h i)
  refine ⟨h1.1, Int.lt_of_lt_of_le h1.2 ?_⟩
  rw [List.length_take]
  exact pw_mono (Nat.min_le_left ..)
/-- If the tops agree above i and the limbs at i differ, the order is theirs. -/
theorem lv_cmp {a b : List Int} (ha : limbs a) (hb : limbs b) {i : Nat} (ht : tl a (i + 1) = tl b (i + 1)) (h : lg a i < lg b i) : lv a < lv b := by
  have a1 := lv_cut a i; have b1 := lv_cut b i
  have a2 := lv_take_lt ha i; have b2 := lv_take_lt hb i
  rw [tl_step] at a1 b1
  rw [a1, b1, ht]
  have hp := pw_pos i
  have : pw i * (lg a i + 1000000 * tl b (i + 1)) + pw i ≤ pw i * (lg b i + 1000000 * tl b (i + 1)) := by
    have h3 : pw i * (lg a i + 1000000 * tl b (i + 1)) + pw i = pw i * (lg a i + 1000000 * tl b (i + 1) + 1) := by rw [Int.mul_add (pw i) _ 1, Int.mul_one]
    rw [h3]
    exact Int.mul_le_mul_of_nonneg_left (by omega) (by omega)
  omega
theorem tl_zero (l : List Int) : tl l 0 = lv l := by simp [tl]
theorem tl_end {l : List Int} {i : Nat} (h : l.length ≤ i) : tl l i = 0 := by unfold tl; rw [List.drop_of_length_le h]; rfl
/-- 1, 0 or -1. -/
def sgn (n : Int) : Int := if n < 0 then -1 else if 0 < n then 1 else 0

/-! Shares: over the numerators and denominators of a list. -/
section
variable (p : Nat → Bool) (nu de : Nat → Int)
def dP : Nat → Int
  | 0 => 1
  | k + 1 => dP k * de k
def sP : Nat → Int
  | 0 => 0
  | k + 1 => sP k * de k + (if p k = true then nu k * dP de k else 0)
/-- The product of the denominators from m on, j of them. -/
def rP (m : Nat) : Nat → Int
  | 0 => 1
  | j + 1 => rP m j * de (m + j)
/-- The product of the first k denominators but the i-th. -/
def bP (i : Nat) : Nat → Int
  | 0 => 1
  | k + 1 => if k = i then bP i k else bP i k * de k
/-- The sum of the first k parts; n owners. -/
def fP (n : Nat) : Nat → Int
  | 0 => 0
  | k + 1 => fP n k + (if p k = true then nu k * bP de k n else 0)
end
section
variable {p : Nat → Bool} {nu de : Nat → Int}
theorem bP_le (i k : Nat) (h : k ≤ i) : bP de i k = dP de k := by
  induction k with
  | zero => rfl
  | succ k ih => rw [bP, dP, if_neg (by omega), ih (by omega)]
theorem bP_gt (i j : Nat) : bP de i (i + 1 + j) = dP de i * rP de (i + 1) j := by
  induction j with
  | zero => rw [Nat.add_zero, bP, if_pos rfl, bP_le i i (Nat.le_refl _), rP, Int.mul_one]
  | succ j ih => rw [show i + 1 + (j + 1) = (i + 1 + j) + 1 by omega, bP, if_neg (by omega), ih, rP, Int.mul_assoc]
theorem rP_head (m j : Nat) : rP de m (j + 1) = de m * rP de (m + 1) j := by
  induction j with
  | zero => simp [rP]
  | succ j ih => rw [rP, ih, rP, Int.mul_assoc, show m + (j + 1) = m + 1 + j by omega]
theorem fP_eq (n k : Nat) (h : k ≤ n) : fP p nu de n k = sP p nu de k * rP de k (n - k) := by
  induction k with
  | zero => simp [fP, sP]
  | succ k ih =>
    rw [fP, ih (by omega), sP, show n - k = (n - (k + 1)) + 1 by omega, rP_head, Int.add_mul, Int.mul_assoc]
    congr 1
    split
    · have := bP_gt (de := de) k (n - (k + 1))
      rw [show k + 1 + (n - (k + 1)) = n by omega] at this
      rw [this, Int.mul_assoc]
    · simp
theorem fP_all (n : Nat) : fP p nu de n n = sP p nu de n := by rw [fP_eq n n (Nat.le_refl _), Nat.sub_self, rP, Int.mul_one]
/-- The sum with all behind k: what stands behind. -/
def tP (p : Nat → Bool) (nu de : Nat → Int) (k : Nat) : Nat → Int
  | 0 => 0
  | j + 1 => tP p nu de k j * de (k + j) + (if p (k + j) = true then nu (k + j) * rP de k j else 0)
theorem dP_split (k j : Nat) : dP de (k + j) = dP de k * rP de k j := by
  induction j with
  | zero => simp [rP]
  | succ j ih => rw [← Nat.add_assoc, dP, ih, rP, Int.mul_assoc]
theorem sP_split (k j : Nat) : sP p nu de (k + j) = sP p nu de k * rP de k j + dP de k * tP p nu de k j := by
  induction j with
  | zero => simp [rP, tP]
  | succ j ih =>
    rw [← Nat.add_assoc, sP, ih, rP, tP, dP_split]
    split
    · simp only [Int.add_mul, Int.mul_add, Int.mul_assoc, Int.mul_comm, Int.mul_left_comm]; omega
    · simp only [Int.add_mul, Int.mul_add, Int.mul_assoc, Int.mul_comm, Int.mul_left_comm]; omega
theorem dP_bd {c : Int} (hc : 1 ≤ c) (h : ∀ i, 1 ≤ de i ∧ de i ≤ c) (k : Nat) : 1 ≤ dP de k ∧ dP de k ≤ c ^ k := by
  induction k with
  | zero => simp [dP]
  | succ k ih =>
    have := h k
    rw [dP, Int.pow_succ]
    refine ⟨?_, Int.mul_le_mul ih.2 this.2 (by omega) (by omega)⟩
    have : 1 * 1 ≤ dP de k * de k := Int.mul_le_mul ih.1 this.1 (by omega) (by omega)
    omega
theorem rP_bd {c : Int} (hc : 1 ≤ c) (h : ∀ i, 1 ≤ de i ∧ de i ≤ c) (m j : Nat) : 1 ≤ rP de m j ∧ rP de m j ≤ c ^ j := by
  induction j with
  | zero => simp [rP]
  | succ k ih =>
    have := h (m + k)
    rw [rP, Int.pow_succ]
    refine ⟨?_, Int.mul_le_mul ih.2 this.2 (by omega) (by omega)⟩
    have : 1 * 1 ≤ rP de m k * de (m + k) := Int.mul_le_mul ih.1 this.1 (by omega) (by omega)
    omega
theorem rP_one (hd : ∀ i, 1 ≤ de i) (m j : Nat) : 1 ≤ rP de m j := by
  induction j with
  | zero => simp [rP]
  | succ k ih => rw [rP]; have := Int.mul_le_mul ih (hd (m + k)) (by omega) (by omega); omega
theorem dP_one (hd : ∀ i, 1 ≤ de i) (j : Nat) : 1 ≤ dP de j := by
  induction j with
  | zero => simp [dP]
  | succ k ih => rw [dP]; have := Int.mul_le_mul ih (hd k) (by omega) (by omega); omega
theorem tP_pos (hd : ∀ i, 1 ≤ de i) (hn : ∀ i, 1 ≤ nu i) (k j : Nat) : 0 ≤ tP p nu de k j := by
  induction j with
  | zero => simp [tP]
  | succ j ih =>
    rw [tP]
    have h1 : 0 ≤ tP p nu de k j * de (k + j) := Int.mul_nonneg ih (by have := hd (k + j); omega)
    split
    · have h2 : 0 ≤ rP de k j := by have := rP_one hd k j; omega
      have := Int.mul_nonneg (show 0 ≤ nu (k + j) by have := hn (k + j); omega) h2
      omega
    · omega
theorem sP_pos (hd : ∀ i, 1 ≤ de i) (hn : ∀ i, 1 ≤ nu i) (k : Nat) : 0 ≤ sP p nu de k := by
  have := tP_pos (p := p) hd hn 0 k
  have e := sP_split (p := p) (nu := nu) (de := de) 0 k
  simp only [sP, Int.zero_mul, Int.zero_add, dP, Int.one_mul, Nat.zero_add] at e
  omega
/-- A partial sum above 1: the whole sum is not 1. -/
theorem sum_over (hd : ∀ i, 1 ≤ de i) (hn : ∀ i, 1 ≤ nu i) {a b : Int} {k n : Nat} (hk : k ≤ n) (he : a * dP de k = b * sP p nu de k) (hb : 0 < b) (hab : b < a) : sP p nu de n ≠ dP de n := by
  intro h
  obtain ⟨j, rfl⟩ : ∃ j, n = k + j := ⟨n - k, by omega⟩
  rw [sP_split, dP_split] at h
  have h1 := tP_pos (p := p) hd hn k j
  have d1 := dP_one hd
  have r1 := rP_one hd k
  have hS : dP de k < sP p nu de k := by
    apply Int.lt_of_not_ge
    intro hle
    have h2 : b * sP p nu de k ≤ b * dP de k := Int.mul_le_mul_of_nonneg_left hle (by omega)
    have h3 : (b + 1) * dP de k ≤ a * dP de k := Int.mul_le_mul_of_nonneg_right (by omega) (by have := d1 k; omega)
    have := d1 k
    rw [Int.add_mul] at h3
    omega
  have h4 : (dP de k + 1) * rP de k j ≤ sP p nu de k * rP de k j := Int.mul_le_mul_of_nonneg_right (by omega) (by have := r1 j; omega)
  have h5 : 0 ≤ dP de k * tP p nu de k j := Int.mul_nonneg (by have := d1 k; omega) h1
  have := r1 j
  rw [Int.add_mul] at h4
  omega
theorem dvd_gcd1 {b a c : Int} (h : b ∣ a * c) (hg : Int.gcd b a = 1) : b ∣ c := by
  rw [← Int.natAbs_dvd_natAbs] at h ⊢
  rw [Int.natAbs_mul] at h
  exact Nat.Coprime.dvd_of_dvd_mul_left hg h
theorem thou : ∀ {k m : Nat}, k ≤ m → (1000 : Int) ^ k ≤ 1000 ^ m := fun {k m} h => by
  induction m with
  | zero => obtain rfl : k = 0 := by omega
            exact Int.le_refl _
  | succ j ih =>
    by_cases e : k = j + 1
    · rw [e]; exact Int.le_refl _
    · have := ih (by omega)
      have hp : (0 : Int) < 1000 ^ j := Int.pow_pos (by decide)
      rw [Int.pow_succ]; omega
/-- A partial sum in lowest terms with a denominator above 10^12: the whole sum is not 1. -/
theorem sum_far (h : ∀ i, 1 ≤ de i ∧ de i ≤ 1000) {a b : Int} {k n : Nat} (hk : k ≤ n) (hn : n ≤ 8) (he : a * dP de k = b * sP p nu de k) (hb : 1000000000000 < b) (hg : Int.gcd a b = 1) : sP p nu de n ≠ dP de n := by
  intro hc
  obtain ⟨j, rfl⟩ : ∃ j, n = k + j := ⟨n - k, by omega⟩
  rw [sP_split, dP_split] at hc
  have hd := dP_bd (c := 1000) (by decide) h k
  have hr := rP_bd (c := 1000) (by decide) h k j
  -- b * (D R) = b (S R + D T) = a D R + b D T
  have h1 : dP de k * (b * rP de k j) = dP de k * (a * rP de k j + b * tP p nu de k j) := by
    have : b * (dP de k * rP de k j) = b * (sP p nu de k * rP de k j + dP de k * tP p nu de k j) := by rw [hc]
    rw [Int.mul_add, ← Int.mul_assoc b (sP p nu de k), ← he] at this
    rw [Int.mul_add]
    simp only [Int.mul_assoc, Int.mul_comm, Int.mul_left_comm] at this ⊢
    omega
  have h2 : b * rP de k j = a * rP de k j + b * tP p nu de k j := Int.eq_of_mul_eq_mul_left (by omega) h1
  have h3 : b ∣ a * rP de k j := ⟨rP de k j - tP p nu de k j, by rw [Int.mul_sub]; omega⟩
  have h4 : b ∣ rP de k j := (dvd_gcd1 h3 (by rw [Int.gcd_comm]; exact hg))
  have h5 : b ≤ rP de k j := Int.le_of_dvd (by omega) h4
  have h6 : b ∣ dP de k := dvd_gcd1 (show b ∣ a * dP de k from ⟨_, he⟩) (by rw [Int.gcd_comm]; exact hg)
  have h7 : b ≤ dP de k := Int.le_of_dvd (by omega) h6
  have hkj : k ≤ 4 ∨ j ≤ 3 := by omega
  rcases hkj with hh | hh
  · have := thou hh
    have e : (1000 : Int) ^ 4 = 1000000000000 := by decide
    omega
  · have := thou hh
    have e : (1000 : Int) ^ 3 = 1000000000 := by decide
    omega
/-- The end: in lowest terms the sum is 1 just where both are 1. -/
theorem sum_one {a b S D : Int} (hb : 0 < b) (hD : 0 < D) (he : a * D = b * S) (hg : Int.gcd a b = 1) : (a = 1 ∧ b = 1) ↔ S = D := by
  constructor
  · rintro ⟨rfl, rfl⟩; omega
  · rintro rfl
    have hab : a = b := Int.eq_of_mul_eq_mul_right (by omega) he
    subst hab
    rw [Int.gcd_self] at hg
    omega
end

/-! Digits with a carry: f tells what is added at each place. -/
def cC (f : Nat → Int) : Nat → Int
  | 0 => 0
  | k + 1 => (cC f k + f k) / 1000000
def cY (f : Nat → Int) : Nat → List Int
  | 0 => []
  | k + 1 => cY f k ++ [(cC f k + f k) % 1000000]
def sm (f : Nat → Int) : Nat → Int
  | 0 => 0
  | k + 1 => sm f k + pw k * f k
theorem cY_len (f : Nat → Int) : ∀ k, (cY f k).length = k
  | 0 => rfl
  | k + 1 => by rw [cY, List.length_append, cY_len f k]; rfl
theorem cY_limbs (f : Nat → Int) : ∀ k, limbs (cY f k)
  | 0 => fun x hx => by simp [cY] at hx
  | k + 1 => fun x hx => by
    rw [cY, List.mem_append] at hx
    rcases hx with h | h
    · exact cY_limbs f k x h
    · simp at h; omega
theorem cY_lv (f : Nat → Int) : ∀ k, lv (cY f k) + pw k * cC f k = sm f k
  | 0 => by simp [cY, cC, sm, lv, pw]
  | k + 1 => by
    have h := cY_lv f k
    rw [cY, lv_snoc, cY_len, sm, cC, pw_succ, ← h]
    have e : cC f k + f k = (cC f k + f k) % 1000000 + 1000000 * ((cC f k + f k) / 1000000) := by omega
    have e2 : pw k * (cC f k + f k) = pw k * ((cC f k + f k) % 1000000) + pw k * 1000000 * ((cC f k + f k) / 1000000) := by
      rw [Int.mul_assoc, ← Int.mul_add, ← e]
    rw [Int.mul_add] at e2
    omega
theorem cC_bd {f : Nat → Int} (hf : ∀ j, 0 ≤ f j ∧ f j ≤ 999999000) : ∀ k, 0 ≤ cC f k ∧ cC f k ≤ 1000
  | 0 => by simp [cC]
  | k + 1 => by have := cC_bd hf k; have := hf k; rw [cC]; omega
theorem sm_times (l : List Int) (m : Int) : ∀ k, sm (fun j => lg l j * m) k = m * lv (l.take k)
  | 0 => by simp [sm, lv]
  | k + 1 => by
    rw [sm, sm_times l m k, lv_take, Int.mul_add]
    congr 1
    rw [← Int.mul_assoc, Int.mul_comm]
theorem sm_plus (a b : List Int) : ∀ k, sm (fun j => lg a j + lg b j) k = lv (a.take k) + lv (b.take k)
  | 0 => by simp [sm, lv]
  | k + 1 => by
    rw [sm, sm_plus a b k, lv_take, lv_take, Int.mul_add]; omega
theorem lg_out {l : List Int} {k : Nat} (h : l.length ≤ k) : lg l k = 0 := by unfold lg; rw [List.getElem?_eq_none h]; rfl
theorem lg_in {l : List Int} {k : Nat} (h : k < l.length) : lg l k = el l k := by unfold lg; rw [el_get? h]; rfl
theorem times_bd {l : List Int} {m : Int} (hl : limbs l) (h0 : 0 ≤ m) (h1 : m ≤ 1000) (j : Nat) : 0 ≤ lg l j * m ∧ lg l j * m ≤ 999999000 := by
  have h := lg_bd hl j
  refine ⟨Int.mul_nonneg h.1 h0, ?_⟩
  have := Int.mul_le_mul (show lg l j ≤ 999999 by omega) h1 h0 (by omega)
  omega
theorem plus_bd {a b : List Int} (ha : limbs a) (hb : limbs b) (j : Nat) : 0 ≤ lg a j + lg b j ∧ lg a j + lg b j ≤ 999999000 := by
  have h := lg_bd ha j
  have h' := lg_bd hb j
  omega
/-- Behind the last place nothing is carried. -/
theorem cC_end {f : Nat → Int} (hf : ∀ j, 0 ≤ f j ∧ f j ≤ 999999000) {k : Nat} (hk : f k = 0) : cC f (k + 1) = 0 := by
  have := cC_bd hf k
  rw [cC, hk]; omega
theorem times_lv {l : List Int} {m : Int} (hl : limbs l) (h0 : 0 ≤ m) (h1 : m ≤ 1000) : lv (cY (fun j => lg l j * m) (l.length + 1)) = m * lv l := by
  have h := cY_lv (fun j => lg l j * m) (l.length + 1)
  rw [cC_end (times_bd hl h0 h1) (by simp [lg_out]), sm_times, List.take_of_length_le (by omega)] at h
  omega
theorem plus_lv {a b : List Int} (ha : limbs a) (hb : limbs b) {n : Nat} (h1 : a.length ≤ n) (h2 : b.length ≤ n) : lv (cY (fun j => lg a j + lg b j) (n + 1)) = lv a + lv b := by
  have h := cY_lv (fun j => lg a j + lg b j) (n + 1)
  rw [cC_end (plus_bd ha hb) (by simp [lg_out h1, lg_out h2]), sm_plus, List.take_of_length_le (by omega), List.take_of_length_le (by omega)] at h
  omega
end Go.Proofs.YtimdnihadhbjpaaDoor
