/- A pass over a list of basins, in plain Lean: from the last basin to the first (chapter 8). -/
import Derived.Test.YtocaodoagiokjaaPass
set_option linter.unusedSimpArgs false
set_option linter.unusedVariables false
namespace Go.Proofs.Ytocaodoagiokjaa
open Go.RowKit Go.Sort Go.Salt
/-- What is taken from basin i. -/
def pA (xs : List Bsn) (n : Int) (i : Nat) : Int := ptA (el xs i).a (el xs i).s (mn n ((el xs i).a + (el xs i).s))
def pS (xs : List Bsn) (n : Int) (i : Nat) : Int := ptS (el xs i).a (el xs i).s (mn n ((el xs i).a + (el xs i).s))
/-- Basin i when all from j on have been passed. -/
def psAt (xs : List Bsn) (n : Int) (j i : Nat) : Bsn :=
  ⟨(el xs i).r, (el xs i).a - (if j ≤ i then pA xs n i else 0) + (if j + 1 ≤ i then pA xs n (i - 1) else 0), (el xs i).s - (if j ≤ i then pS xs n i else 0) + (if j + 1 ≤ i then pS xs n (i - 1) else 0)⟩
def psL (xs : List Bsn) (n : Int) (j : Nat) : List Bsn := (List.range xs.length).map (psAt xs n j)
theorem psL_len (xs : List Bsn) (n : Int) (j : Nat) : (psL xs n j).length = xs.length := by simp [psL]
theorem el_psL {xs : List Bsn} {n : Int} {j i : Nat} (h : i < xs.length) : el (psL xs n j) i = psAt xs n j i := by
  rw [el_get (by rw [psL_len]; exact h)]; simp [psL]
theorem bsn_ext {xs ys : List Bsn} (h : xs.length = ys.length) (h2 : ∀ i, i < xs.length → el xs i = el ys i) : xs = ys := by
  apply List.ext_getElem h
  intro i h3 h4
  rw [← el_get h3, ← el_get h4]
  exact h2 i h3
theorem psAt_lo {xs : List Bsn} {n : Int} {j i : Nat} (h : i < j) : psAt xs n j i = el xs i := by
  unfold psAt
  rw [if_neg (by omega), if_neg (by omega), if_neg (by omega), if_neg (by omega)]
  cases h : el xs i
  simp
theorem psL_top (xs : List Bsn) (n : Int) : psL xs n xs.length = xs :=
  bsn_ext (psL_len _ _ _) fun i hi => by
    rw [psL_len] at hi
    rw [el_psL hi, psAt_lo hi]
theorem psL_last {xs : List Bsn} {n : Int} {j : Nat} (hj : j + 1 = xs.length) : psL xs n j = (psL xs n (j + 1)).set j ⟨(el xs j).r, (el xs j).a - pA xs n j, (el xs j).s - pS xs n j⟩ :=
  bsn_ext (by simp [psL_len]) fun i hi => by
    rw [psL_len] at hi
    rw [el_set (by rw [psL_len]; omega), el_psL hi]
    by_cases e : i = j
    · subst e
      rw [if_pos rfl]
      simp [psAt, show ¬ (i + 1 ≤ i) by omega]
    · rw [if_neg e, el_psL hi, psAt_lo (by omega), psAt_lo (by omega)]
theorem psL_step {xs : List Bsn} {n : Int} {j : Nat} (hj : j + 1 < xs.length) : psL xs n j = ((psL xs n (j + 1)).set j ⟨(el xs j).r, (el xs j).a - pA xs n j, (el xs j).s - pS xs n j⟩).set (j + 1) ⟨(el xs (j + 1)).r, (el xs (j + 1)).a - pA xs n (j + 1) + pA xs n j, (el xs (j + 1)).s - pS xs n (j + 1) + pS xs n j⟩ :=
  bsn_ext (by simp [psL_len]) fun i hi => by
    rw [psL_len] at hi
    rw [el_set (by rw [List.length_set, psL_len]; omega), el_psL hi]
    by_cases e1 : i = j + 1
    · subst e1
      rw [if_pos rfl]
      simp [psAt]
    · rw [if_neg e1, el_set (by rw [psL_len]; omega)]
      by_cases e : i = j
      · subst e
        rw [if_pos rfl]
        simp [psAt, show ¬ (i + 1 ≤ i) by omega]
      · rw [if_neg e, el_psL hi]
        unfold psAt
        by_cases hl : i < j
        · rw [if_neg (by omega), if_neg (by omega), if_neg (by omega), if_neg (by omega), if_neg (by omega), if_neg (by omega), if_neg (by omega), if_neg (by omega)]
        · rw [if_pos (by omega), if_pos (by omega), if_pos (by omega), if_pos (by omega), if_pos (by omega), if_pos (by omega), if_pos (by omega), if_pos (by omega)]
theorem mn_bd {n a s : Int} (h : 1 ≤ n) (h1 : 0 ≤ a) (h2 : 0 ≤ s) : 0 ≤ mn n (a + s) ∧ mn n (a + s) ≤ a + s := by
  have := mn_or n (a + s); omega
theorem p_bd {xs : List Bsn} {n : Int} {i : Nat} (h : bsnOK (el xs i).r (el xs i).a (el xs i).s = true) (hn : 1 ≤ n) : 0 ≤ pS xs n i ∧ pS xs n i ≤ 2000000 ∧ -2000000 ≤ pA xs n i ∧ pA xs n i ≤ 2000000 := by
  have h1 := bsnOK_bd h
  have h2 := mn_bd hn h1.2.1.1 h1.2.2.1
  exact pt_bd h1.2.1.1 h1.2.1.2 h1.2.2.1 h1.2.2.2 h2.1 h2.2
end Go.Proofs.Ytocaodoagiokjaa
