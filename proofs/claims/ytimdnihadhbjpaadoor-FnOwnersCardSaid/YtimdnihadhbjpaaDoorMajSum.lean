/- A majority: the sums of some shares in lowest terms stay small (chapter 22); plain. -/
import Derived.Test.YtimdnihadhbjpaaDoorMajMath
import Derived.Test.YtimdnihadhbjpaaDoorFloor
set_option linter.unusedSimpArgs false
set_option linter.unusedVariables false
namespace Go.Proofs.YtimdnihadhbjpaaDoor
open Go.RowKit Go.Sort Go.Salt
section
variable (q : Nat → Bool) (nu de : Nat → Int)
def cP : Nat → Int
  | 0 => 1
  | k + 1 => if q k = true then cP k * de k else cP k
def nP : Nat → Int
  | 0 => 0
  | k + 1 => if q k = true then nP k * de k + nu k * cP q de k else nP k
def qc : Nat → Nat
  | 0 => 0
  | k + 1 => qc k + (if q k = true then 1 else 0)
end
section
variable {p q : Nat → Bool} {nu de : Nat → Int}
theorem sc_np : ∀ k, sP q nu de k * cP q de k = nP q nu de k * dP de k
  | 0 => by simp [sP, cP, nP, dP]
  | k + 1 => by
    have ih := sc_np k
    rw [sP, cP, nP, dP]
    by_cases h : q k = true
    · rw [if_pos h, if_pos h, if_pos h]; grind
    · rw [if_neg h, if_neg h, if_neg h]; grind
theorem cP_bd (h : ∀ i, 1 ≤ de i ∧ de i ≤ 1000) : ∀ k, 1 ≤ cP q de k ∧ cP q de k ≤ 1000 ^ qc q k
  | 0 => by simp [cP, qc]
  | k + 1 => by
    have ih := cP_bd h k
    have hk := h k
    rw [cP, qc]
    by_cases hq : q k = true
    · rw [if_pos hq, if_pos hq, Int.pow_succ]
      refine ⟨?_, Int.mul_le_mul ih.2 hk.2 (by omega) (by omega)⟩
      have : 1 * 1 ≤ cP q de k * de k := Int.mul_le_mul ih.1 hk.1 (by omega) (by omega)
      omega
    · rw [if_neg hq, if_neg hq]; exact ih
theorem qc_not : ∀ k, qc q k + qc (fun j => !q j) k = k
  | 0 => rfl
  | k + 1 => by
    have ih := qc_not k
    rw [qc, qc]
    cases q k <;> simp <;> omega
theorem sP_not : ∀ k, sP q nu de k + sP (fun j => !q j) nu de k = sP allP nu de k
  | 0 => rfl
  | k + 1 => by
    have ih := sP_not k
    rw [sP, sP, sP, ← ih]
    cases q k <;> simp [allP] <;> grind
theorem sP_same {k : Nat} (h : ∀ j, j < k → p j = q j) : sP p nu de k = sP q nu de k := by
  induction k with
  | zero => rfl
  | succ k ih => rw [sP, sP, ih fun j hj => h j (by omega), h k (by omega)]
theorem tP_none {k : Nat} : ∀ {m : Nat}, (∀ j, j < m → q (k + j) = false) → tP q nu de k m = 0
  | 0, _ => rfl
  | m + 1, h => by rw [tP, tP_none fun j hj => h j (by omega), h m (by omega)]; simp
theorem div_far {a b C N D S : Int} (hD : 0 < D) (he : a * D = b * S) (hs : S * C = N * D) (hg : Int.gcd b a = 1) : b ∣ C := by
  refine dvd_gcd1 (a := a) ⟨N, ?_⟩ hg
  have : D * (a * C) = D * (b * N) := by
    have e1 : D * (a * C) = (a * D) * C := by grind
    have e2 : D * (b * N) = b * (N * D) := by grind
    rw [e1, e2, he, ← hs]; grind
  exact Int.eq_of_mul_eq_mul_left (by omega) this
theorem gcd_sub {a b : Int} (hg : Int.gcd a b = 1) : Int.gcd b (b - a) = 1 := by
  have h1 : (Int.gcd b (b - a) : Int) ∣ b := Int.gcd_dvd_left ..
  have h2 : (Int.gcd b (b - a) : Int) ∣ b - a := Int.gcd_dvd_right ..
  have h3 : (Int.gcd b (b - a) : Int) ∣ a := by have := Int.dvd_sub h1 h2; rwa [show b - (b - a) = a by omega] at this
  have h4 : Int.gcd b (b - a) ∣ Int.gcd a b := Int.dvd_gcd h3 h1
  rw [hg] at h4
  exact Nat.dvd_one.1 h4
theorem sub_far {n : Nat} {a b : Int} (h : ∀ i, 1 ≤ de i ∧ de i ≤ 1000) (hn : n ≤ 8) (hone : sP allP nu de n = dP de n) (he : a * dP de n = b * sP q nu de n) (hg : Int.gcd a b = 1) : b ≤ 1000000000000 := by
  have hD := dP_one (fun i => (h i).1) n
  have h1 : b ∣ cP q de n := div_far (by omega) he (sc_np n) (by rw [Int.gcd_comm]; exact hg)
  have hS := sP_not (q := q) (nu := nu) (de := de) n
  have h2 : b ∣ cP (fun j => !q j) de n := by
    refine div_far (a := b - a) (D := dP de n) (S := sP (fun j => !q j) nu de n) (by omega) ?_ (sc_np n) (gcd_sub hg)
    rw [show sP (fun j => !q j) nu de n = dP de n - sP q nu de n by omega, Int.mul_sub, Int.sub_mul, he]
  have b1 := cP_bd (q := q) h n
  have b2 := cP_bd (q := fun j => !q j) h n
  have hc := qc_not (q := q) n
  have l1 := Int.le_of_dvd (by omega) h1
  have l2 := Int.le_of_dvd (by omega) h2
  have e : (1000 : Int) ^ 4 = 1000000000000 := by decide
  rcases (by omega : qc q n ≤ 4 ∨ qc (fun j => !q j) n ≤ 4) with hh | hh
  · have := thou hh; omega
  · have := thou hh; omega
/-- The sum of the chosen ones among the first i, in lowest terms. -/
theorem part_bd {i n : Nat} {a b : Int} (h : ∀ i, 1 ≤ de i ∧ de i ≤ 1000) (hnu : ∀ i, 1 ≤ nu i) (hn : n ≤ 8) (hi : i ≤ n) (hone : sP allP nu de n = dP de n) (he : a * dP de i = b * sP p nu de i) (hb : 0 < b) (hg : Int.gcd a b = 1) : b ≤ 1000000000000 ∧ a ≤ b := by
  obtain ⟨m, rfl⟩ : ∃ m, n = i + m := ⟨n - i, by omega⟩
  obtain ⟨q, hq⟩ : ∃ q : Nat → Bool, q = fun j => decide (j < i) && p j := ⟨_, rfl⟩
  have e1 : sP q nu de i = sP p nu de i := sP_same fun j hj => by rw [hq]; simp [hj]
  have e2 : tP q nu de i m = 0 := tP_none fun j _ => by rw [hq]; simp [show ¬ i + j < i by omega]
  have e3 : sP q nu de (i + m) = sP p nu de i * rP de i m := by rw [sP_split, e1, e2]; simp
  have he2 : a * dP de (i + m) = b * sP q nu de (i + m) := by rw [dP_split, e3, ← Int.mul_assoc, he, Int.mul_assoc]
  refine ⟨sub_far h hn hone he2 hg, ?_⟩
  have hS := sP_not (q := q) (nu := nu) (de := de) (i + m)
  have hp := sP_pos (p := fun j => !q j) (fun i => (h i).1) hnu (i + m)
  have hD := dP_one (fun i => (h i).1) (i + m)
  rcases Int.lt_or_le b a with hlt | hle
  · have h1 : b * sP q nu de (i + m) ≤ b * dP de (i + m) := Int.mul_le_mul_of_nonneg_left (by omega) (by omega)
    have h2 : (b + 1) * dP de (i + m) ≤ a * dP de (i + m) := Int.mul_le_mul_of_nonneg_right (by omega) (by omega)
    rw [Int.add_mul] at h2
    omega
  · exact hle
theorem half_iff {n : Nat} {a b : Int} (h : ∀ i, 1 ≤ de i) (he : a * dP de n = b * sP p nu de n) (hb : 0 < b) : b < 2 * a ↔ dP de n < 2 * sP p nu de n := by
  have hD := dP_one h n
  have e : (2 * a) * dP de n = b * (2 * sP p nu de n) := by rw [Int.mul_assoc, he]; grind
  constructor
  · intro hlt
    have h2 : (b + 1) * dP de n ≤ (2 * a) * dP de n := Int.mul_le_mul_of_nonneg_right (by omega) (by omega)
    rw [e, Int.add_mul] at h2
    rcases Int.lt_or_le (dP de n) (2 * sP p nu de n) with h | h
    · exact h
    · have := Int.mul_le_mul_of_nonneg_left h (show 0 ≤ b by omega); omega
  · intro hlt
    have h2 : b * (dP de n + 1) ≤ b * (2 * sP p nu de n) := Int.mul_le_mul_of_nonneg_left (by omega) (by omega)
    rw [← e, Int.mul_add] at h2
    rcases Int.lt_or_le b (2 * a) with h | h
    · exact h
    · have := Int.mul_le_mul_of_nonneg_right h (show 0 ≤ dP de n by omega); omega
end
/-- Whether some owners have more than one half together. -/
def mjO (xs : List Ow) (ids : List Nat) : Bool := decide (dP (deO xs) xs.length < 2 * sP (fun j => ids.contains j) (nuO xs) (deO xs) xs.length)
theorem sP_none {nu de : Nat → Int} : ∀ n, sP (fun j => ([] : List Nat).contains j) nu de n = 0
  | 0 => rfl
  | n + 1 => by rw [sP, sP_none n]; simp
theorem mjO_nil {xs : List Ow} (h : OwBd xs) : mjO xs [] = false := by
  unfold mjO
  rw [sP_none]
  have := dP_one (fun i => (h i).2.1) xs.length (de := deO xs)
  rw [decide_eq_false (by omega)]
/-- What both answer. -/
def mjR (xs : List Ow) : List Nat := if arB xs = true then dfM (mjO xs) 0 xs.length [] [] else []
def mjL (xs : List Ow) : List Int := (mjR xs).map fun (j : Nat) => (j : Int)
end Go.Proofs.YtimdnihadhbjpaaDoor
