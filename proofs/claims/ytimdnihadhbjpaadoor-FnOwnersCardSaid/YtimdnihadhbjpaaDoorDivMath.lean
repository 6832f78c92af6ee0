/- Dividing a crop: who gets the tons that are left (chapter 22); plain numbers. -/
import Derived.Test.YtimdnihadhbjpaaDoorOwMath
set_option linter.unusedSimpArgs false
set_option linter.unusedVariables false
namespace Go.Proofs.YtimdnihadhbjpaaDoor
open Go.RowKit Go.Sort Go.Salt
/-! Dividing a crop c by shares nu/de. -/
section
variable (nu de : Nat → Int) (c : Int)
def flD (i : Nat) : Int := c * nu i / de i
def rsD (i : Nat) : Int := c * nu i % de i
def ltD : Nat → Int
  | 0 => c
  | k + 1 => ltD k - flD nu de c k
end
section
variable {nu de : Nat → Int} {c : Int}
def allT (_ : Nat) : Bool := true
theorem ltD_sum (k : Nat) : c * sP allT nu de k = (c - ltD nu de c k) * dP de k + sP allT (rsD nu de c) de k := by
  induction k with
  | zero => simp [sP, ltD]
  | succ k ih =>
    simp only [sP, dP, ltD, allT, if_true] at ih ⊢
    have h : de k * flD nu de c k + rsD nu de c k = c * nu k := Int.mul_ediv_add_emod _ _
    generalize flD nu de c k = q at h ⊢
    generalize rsD nu de c k = r at h ⊢
    grind
theorem dP_pos1 (hd : ∀ i, 1 ≤ de i) (k : Nat) : 1 ≤ dP de k := by
  induction k with
  | zero => simp [dP]
  | succ k ih => rw [dP]; have := Int.mul_le_mul ih (hd k) (by omega) (by omega); omega
theorem sP_rest {r : Nat → Int} (hd : ∀ i, 1 ≤ de i) (hr : ∀ i, 0 ≤ r i ∧ r i < de i) (k : Nat) : 0 ≤ sP allT r de k ∧ sP allT r de k ≤ (k : Int) * dP de k ∧ (0 < k → sP allT r de k < (k : Int) * dP de k) := by
  induction k with
  | zero => simp [sP]
  | succ k ih =>
    have hD := dP_pos1 hd k
    have hk := hd k
    have hrk := hr k
    simp only [sP, dP, allT, if_true]
    generalize sP allT r de k = S at *
    generalize dP de k = D at *
    generalize de k = d at *
    generalize r k = x at *
    have h1 : 0 ≤ S * d := Int.mul_nonneg ih.1 (by omega)
    have h2 : 0 ≤ x * D := Int.mul_nonneg hrk.1 (by omega)
    have h3 : S * d ≤ (k * D) * d := Int.mul_le_mul_of_nonneg_right ih.2.1 (by omega)
    have h4 : x * D ≤ (d - 1) * D := Int.mul_le_mul_of_nonneg_right (by omega) (by omega)
    have e : ((k + 1 : Nat) : Int) * (D * d) = (k * D) * d + D * d := by push_cast; grind
    have e2 : (d - 1) * D = D * d - D := by grind
    omega
theorem rsD_bd (hd : ∀ i, 1 ≤ de i) (i : Nat) : 0 ≤ rsD nu de c i ∧ rsD nu de c i < de i := by
  have := hd i
  exact ⟨Int.emod_nonneg _ (by omega), Int.emod_lt_of_pos _ (by omega)⟩
/-- How many tons are left: fewer than owners. -/
theorem ltD_bd (hd : ∀ i, 1 ≤ de i) {n : Nat} (hn : 0 < n) (h1 : sP allT nu de n = dP de n) : 0 ≤ ltD nu de c n ∧ ltD nu de c n < n := by
  have e := ltD_sum (nu := nu) (de := de) (c := c) n
  obtain ⟨a, _, b⟩ := sP_rest hd (rsD_bd (nu := nu) (c := c) hd) n
  have b := b hn
  have hD := dP_pos1 hd n
  rw [h1] at e
  generalize sP allT (rsD nu de c) de n = S at *
  generalize dP de n = D at *
  generalize ltD nu de c n = l at *
  have e' : l * D = S := by grind
  constructor
  · rcases Int.lt_or_le l 0 with h | h
    · have : l * D < 0 := Int.mul_neg_of_neg_of_pos h (by omega)
      omega
    · exact h
  · rcases Int.lt_or_le l n with h | h
    · exact h
    · have := Int.mul_le_mul_of_nonneg_right h (show (0:Int) ≤ D by omega)
      omega
end
/-! Who gets the tons that are left. -/
section
variable (rs de : Nat → Int) (G : Nat → Bool)
def bSp : Nat → Int
  | 0 => -1
  | i + 1 => if G i = false ∧ (bSp i < 0 ∨ rs (bSp i).toNat * de i < rs i * de (bSp i).toNat) then i else bSp i
def rGm (i : Nat) : Int := if G i = true then -1 else rs i
def bIm : Nat → Nat
  | 0 => 0
  | i + 1 => if rGm rs G (bIm i) * de i < rGm rs G i * de (bIm i) then i else bIm i
def cntG : Nat → Nat
  | 0 => 0
  | k + 1 => cntG k + (if G k = true then 1 else 0)
end
section
variable {rs de : Nat → Int} {G : Nat → Bool}
theorem best_both (hd : ∀ i, 1 ≤ de i) (hr : ∀ i, 0 ≤ rs i) : ∀ i,
    (0 ≤ bSp rs de G i → bSp rs de G i = bIm rs de G i ∧ G (bIm rs de G i) = false ∧ bIm rs de G i < i) ∧
    (bSp rs de G i < 0 → bSp rs de G i = -1 ∧ (∀ j, j < i → G j = true) ∧ (0 < i → G (bIm rs de G i) = true ∧ bIm rs de G i < i))
  | 0 => by simp [bSp]
  | i + 1 => by
    obtain ⟨h1, h2⟩ := best_both hd hr i
    have hdi := hd i
    have hri := hr i
    have e0 : bIm rs de G 0 = 0 := rfl
    have e1 : i = 0 → bIm rs de G i = 0 := fun h => by rw [h]; rfl
    rw [bSp, bIm]
    generalize bSp rs de G i = x at *
    generalize bIm rs de G i = y at *
    rcases Int.lt_or_le x 0 with hx | hx
    · obtain ⟨rfl, h3, h4⟩ := h2 hx
      cases hg : G i
      · rw [if_pos ⟨rfl, .inl (by omega)⟩]
        rcases Nat.eq_zero_or_pos i with hi | hi
        · subst hi
          obtain rfl := e1 rfl
          simp [hg]
        · obtain ⟨h5, h6⟩ := h4 hi
          have hdy := hd y
          have : rGm rs G y * de i < rGm rs G i * de y := by
            have a1 : rGm rs G y = -1 := if_pos h5
            have a2 : rGm rs G i = rs i := if_neg (by rw [hg]; decide)
            have a3 := Int.mul_nonneg hri (show 0 ≤ de y by omega)
            rw [a1, a2]; omega
          rw [if_pos this]
          refine ⟨fun _ => ⟨rfl, hg, by omega⟩, fun h => by omega⟩
      · rw [if_neg (by simp)]
        refine ⟨fun h => by omega, fun _ => ⟨rfl, fun j hj => ?_, fun _ => ?_⟩⟩
        · by_cases hji : j = i
          · rw [hji]; exact hg
          · exact h3 j (by omega)
        · split
          · exact ⟨hg, by omega⟩
          · rcases Nat.eq_zero_or_pos i with hi | hi
            · subst hi; obtain rfl := e1 rfl; exact ⟨hg, by omega⟩
            · have := h4 hi; exact ⟨this.1, by omega⟩
    · obtain ⟨rfl, h3, h4⟩ := h1 hx
      have hdy := hd y
      have hry := hr y
      have a1 : rGm rs G y = rs y := if_neg (by rw [h3]; decide)
      rw [a1]
      cases hg : G i
      · have a2 : rGm rs G i = rs i := if_neg (by rw [hg]; decide)
        rw [a2]
        by_cases hc : rs y * de i < rs i * de y
        · rw [if_pos ⟨rfl, .inr (by simpa using hc)⟩, if_pos hc]
          exact ⟨fun _ => ⟨rfl, hg, by omega⟩, fun h => by omega⟩
        · rw [if_neg (by rintro ⟨_, h | h⟩; omega; exact hc (by simpa using h)), if_neg hc]
          exact ⟨fun _ => ⟨rfl, h3, by omega⟩, fun h => by omega⟩
      · have a2 : rGm rs G i = -1 := if_pos hg
        have a3 := Int.mul_nonneg hry (show 0 ≤ de i by omega)
        rw [a2, if_neg (by simp), if_neg (by omega)]
        exact ⟨fun _ => ⟨rfl, h3, by omega⟩, fun h => by omega⟩
theorem cntG_all : ∀ {n : Nat}, (∀ j, j < n → G j = true) → cntG G n = n
  | 0, _ => rfl
  | n + 1, h => by rw [cntG, cntG_all (fun j hj => h j (by omega)), if_pos (h n (by omega))]
theorem cntG_le : ∀ n : Nat, cntG G n ≤ n
  | 0 => Nat.le_refl _
  | n + 1 => by rw [cntG]; have := cntG_le n; split <;> omega
def updG (G : Nat → Bool) (b : Nat) (i : Nat) : Bool := if i = b then true else G i
theorem cntG_upd {b : Nat} (hb : G b = false) : ∀ n : Nat, cntG (updG G b) n = cntG G n + (if b < n then 1 else 0)
  | 0 => by simp [cntG]
  | n + 1 => by
    rw [cntG, cntG, cntG_upd hb n]
    by_cases h : n = b
    · subst h; simp [updG, hb]
    · have e1 : (if b < n then 1 else 0 : Nat) = if b < n + 1 then 1 else 0 := by
        by_cases hl : b < n
        · rw [if_pos hl, if_pos (by omega)]
        · rw [if_neg hl, if_neg (by omega)]
      rw [updG, if_neg h, e1]; omega
/-- If not all are chosen, both find the same. -/
theorem best_one (hd : ∀ i, 1 ≤ de i) (hr : ∀ i, 0 ≤ rs i) {n : Nat} (h : cntG G n < n) : bSp rs de G n = bIm rs de G n ∧ G (bIm rs de G n) = false ∧ bIm rs de G n < n := by
  obtain ⟨h1, h2⟩ := best_both (G := G) hd hr n
  rcases Int.lt_or_le (bSp rs de G n) 0 with hx | hx
  · have := cntG_all (h2 hx).2.1
    omega
  · exact h1 hx
end
/-- Who has been chosen after t rounds. -/
def gRd (rs de : Nat → Int) (n : Nat) : Nat → Nat → Bool
  | 0 => fun _ => false
  | t + 1 => updG (gRd rs de n t) (bIm rs de (gRd rs de n t) n)
theorem gRd_cnt {rs de : Nat → Int} (hd : ∀ i, 1 ≤ de i) (hr : ∀ i, 0 ≤ rs i) {n : Nat} : ∀ {t : Nat}, t ≤ n → cntG (gRd rs de n t) n = t
  | 0, _ => by
    have : ∀ k, cntG (gRd rs de n 0) k = 0 := fun k => by
      induction k with
      | zero => rfl
      | succ k ih => rw [cntG, ih]; simp [gRd]
    exact this n
  | t + 1, h => by
    have ih := gRd_cnt hd hr (n := n) (t := t) (by omega)
    obtain ⟨_, h2, h3⟩ := best_one (G := gRd rs de n t) hd hr (n := n) (by omega)
    rw [gRd, cntG_upd h2, ih, if_pos h3]
theorem gRd_one {rs de : Nat → Int} (hd : ∀ i, 1 ≤ de i) (hr : ∀ i, 0 ≤ rs i) {n t : Nat} (h : t < n) :
    bSp rs de (gRd rs de n t) n = bIm rs de (gRd rs de n t) n ∧ gRd rs de n t (bIm rs de (gRd rs de n t) n) = false ∧ bIm rs de (gRd rs de n t) n < n :=
  best_one hd hr (by rw [gRd_cnt hd hr (by omega)]; omega)
end Go.Proofs.YtimdnihadhbjpaaDoor
