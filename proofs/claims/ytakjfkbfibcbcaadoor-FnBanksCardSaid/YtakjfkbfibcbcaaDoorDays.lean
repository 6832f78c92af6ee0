/- Contracts: the next day, the days to mend, the fewest workers (chapter 23). -/
import Derived.Test.YtakjfkbfibcbcaaDoorNext
import Derived.Test.YtakjfkbfibcbcaaDoorMend
set_option linter.unusedSimpArgs false
set_option linter.unusedVariables false
namespace Go.Proofs.YtakjfkbfibcbcaaDoor
open Go.RowKit Go.Sort Go.Salt
attribute [local go_sem] cell_rg
attribute [local go_sem ↓] run_max_mx run_min_mn
def ndB (xs : List Brk) (W : Int) : Bool := brksOK xs && inB W 0 40
def ndR (xs : List Brk) (W : Int) : List Brk := if ndB xs W = true then ndL xs W else []
theorem ndR_len (xs : List Brk) (W : Int) : (ndR xs W).length ≤ xs.length := by
  unfold ndR; split
  · rw [ndL_len]; exact Nat.le_refl _
  · simp
theorem ok6_of {xs : List Brk} (hv : ∀ i, i < xs.length → brkAt xs i = true) : ∀ i, i < xs.length → Ok6 (el xs i) := fun i hi => by
  have := brkAt_bd (hv i hi); unfold Ok6; omega
def dayN (xs : List Brk) (W : Int) : Nat → List Brk
  | 0 => xs
  | k + 1 => ndL (dayN xs W k) W
def dayZ (xs : List Brk) (W : Int) (k : Nat) : Bool := (needO (dayN xs W k) (dayN xs W k).length).length == 0
def days (xs : List Brk) (W : Int) : Nat := ((List.range 201).find? (dayZ xs W)).getD 201
theorem days_hit {xs : List Brk} {W : Int} {k : Nat} (hk : k < 201) (h : ∀ j, j < k → dayZ xs W j = false) (hz : dayZ xs W k = true) : days xs W = k := by
  unfold days
  rw [show (List.range 201).find? (dayZ xs W) = some k from ?_]
  · rfl
  · rw [List.find?_range_eq_some]
    exact ⟨hz, List.mem_range.2 hk, fun j hj => by simp [h j hj]⟩
theorem days_none {xs : List Brk} {W : Int} (h : ∀ j, j < 201 → dayZ xs W j = false) : days xs W = 201 := by
  unfold days
  rw [show (List.range 201).find? (dayZ xs W) = none from ?_]
  · rfl
  · rw [List.find?_eq_none]; intro j hj; simp [h j (List.mem_range.1 hj)]
theorem days_le (xs : List Brk) (W : Int) : days xs W ≤ 201 := by
  unfold days
  cases hq : (List.range 201).find? (dayZ xs W) with
  | none => simp
  | some j => have := List.mem_range.1 (List.mem_of_find?_eq_some hq); simp; omega
def daysI (xs : List Brk) (W : Int) : Int := if days xs W = 201 then -1 else days xs W
end Go.Proofs.YtakjfkbfibcbcaaDoor
