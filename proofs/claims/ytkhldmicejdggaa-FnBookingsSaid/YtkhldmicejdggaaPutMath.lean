/- Where a booking is put (chapter 20): plain law. -/
import Derived.Test.YtkhldmicejdggaaInsAny
set_option linter.unusedSimpArgs false
set_option linter.unusedVariables false
namespace Go.Proofs.Ytkhldmicejdggaa
open Go.RowKit Go.Sort Go.Salt
def aft (xs : List Bk) (x : Bk) (i : Nat) : Bool := bkAft (el xs i).d (el xs i).k x.d x.k
theorem aft_step {a b c d x y : Int} (h1 : bkAft a b x y = true) (h2 : bkAft a b c d = false) : bkAft c d x y = true := by
  simp only [bkAft, Bool.or_eq_true, Bool.and_eq_true, Bool.or_eq_false_iff, Bool.and_eq_false_iff, decide_eq_true_eq, decide_eq_false_iff_not, beq_iff_eq, beq_eq_false_iff_ne] at *
  omega
theorem aft_mono {xs : List Bk} {x : Bk} (h : bksOK xs = true) : ∀ (j i : Nat), i ≤ j → j < xs.length → aft xs x i = true → aft xs x j = true
  | 0, i, hi, _, ha => by obtain rfl : i = 0 := by omega
                          exact ha
  | j + 1, i, hi, hj, ha => by
    by_cases e : i = j + 1
    · rw [← e]; exact ha
    · have ih := aft_mono h j i (by omega) (by omega) ha
      have h2 := (bksOK_bd h).2 (j + 1) hj
      simp only [bkAt, Bool.and_eq_true, Bool.or_eq_true, decide_eq_true_eq, Bool.not_eq_true'] at h2
      rcases h2.2 with h3 | h3
      · omega
      · exact aft_step ih h3
def pbK (xs : List Bk) (x : Bk) : Nat := ((List.range xs.length).find? (aft xs x)).getD xs.length
theorem pbK_of {xs : List Bk} {x : Bk} {k : Nat} (hk : k ≤ xs.length) (h1 : ∀ i, i < k → aft xs x i = false) (h2 : k < xs.length → aft xs x k = true) : pbK xs x = k := by
  unfold pbK
  by_cases e : k < xs.length
  · have : (List.range xs.length).find? (aft xs x) = some k := by
      rw [List.find?_range_eq_some]
      exact ⟨h2 e, List.mem_range.2 e, fun j hj => by simp [h1 j hj]⟩
    rw [this]; rfl
  · have : (List.range xs.length).find? (aft xs x) = none := by
      rw [List.find?_eq_none]
      intro i hi
      have := List.mem_range.1 hi
      simp [h1 i (by omega)]
    rw [this]
    show xs.length = k
    omega
theorem pbK_back {xs : List Bk} {x : Bk} {k : Nat} (h : bksOK xs = true) (hk : k ≤ xs.length) (h1 : ∀ i, k ≤ i → i < xs.length → aft xs x i = true) (h2 : 0 < k → aft xs x (k - 1) = false) : pbK xs x = k := by
  refine pbK_of hk (fun i hi => ?_) (fun e => h1 k (Nat.le_refl _) e)
  cases ha : aft xs x i with
  | false => rfl
  | true =>
    have := aft_mono h (k - 1) i (by omega) (by omega) ha
    rw [h2 (by omega)] at this
    cases this
theorem pbK_le (xs : List Bk) (x : Bk) : pbK xs x ≤ xs.length := by
  unfold pbK
  cases hq : (List.range xs.length).find? (aft xs x) with
  | none => exact Nat.le_refl _
  | some i =>
    have := List.mem_range.1 (List.mem_of_find?_eq_some hq)
    simpa using Nat.le_of_lt this
theorem el_putL {xs : List Bk} {k : Nat} {x : Bk} (hk : k ≤ xs.length) : el (putL xs k x) k = x := by
  have h1 : k < (putL xs k x).length := by rw [putL_len hk]; omega
  rw [el_get h1]
  have h2 : (putL xs k x)[k]? = some x := by
    unfold putL
    rw [List.getElem?_append_right (by simp; omega)]
    simp [Nat.min_eq_left hk]
  rw [List.getElem?_eq_getElem h1] at h2
  exact Option.some.inj h2
/-- Can it be put; what comes out. -/
def pbB (xs : List Bk) (x : Bk) : Bool := bksOK xs && bksOK (putL xs (pbK xs x) x)
def pbL (xs : List Bk) (x : Bk) : List Bk := if pbB xs x = true then putL xs (pbK xs x) x else []
theorem pbL_len (xs : List Bk) (x : Bk) : (pbL xs x).length ≤ 20 := by
  unfold pbL
  split
  · rename_i h
    simp only [pbB, Bool.and_eq_true] at h
    exact (bksOK_bd h.2).1
  · simp
theorem pbB_bad {xs : List Bk} {x : Bk} (h : bkOK x.d x.k x.q = false) : pbB xs x = false := by
  have hle := pbK_le xs x
  have h1 : bksOK (putL xs (pbK xs x) x) = false := by
    refine bksOK_no (i := pbK xs x) (by rw [putL_len hle]; omega) ?_
    simp only [bkAt, el_putL hle, h, Bool.false_and]
  simp [pbB, h1]
end Go.Proofs.Ytkhldmicejdggaa
