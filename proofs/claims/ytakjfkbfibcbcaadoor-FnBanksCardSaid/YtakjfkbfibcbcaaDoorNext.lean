/- Contracts: the breaks at the end of a day (chapter 23). -/
import Derived.Test.YtakjfkbfibcbcaaDoorWork
import Derived.Test.YtakjfkbfibcbcaaDoorTell
import Derived.Deep.Cut
set_option linter.unusedSimpArgs false
set_option linter.unusedVariables false
namespace Go.Proofs.YtakjfkbfibcbcaaDoor
open Go.RowKit Go.Sort Go.Salt
attribute [local go_sem] cell_rg
attribute [local go_sem ↓] run_max_mx run_min_mn
theorem mn_comm (a b : Int) : mn a b = mn b a := by have h1 := mn_or a b; have h2 := mn_or b a; omega
def nd1 (x : Brk) (n : Int) : Brk := if 0 < n then { x with d := mn (x.d + 4 * n) x.m } else if x.d < x.m then { x with m := mn (x.m + x.g) 60 } else x
theorem nd1_ok {x : Brk} {n : Int} (h : Ok6 x) : Ok6 (nd1 x n) := by
  unfold Ok6 at h
  have h1 := mn_or (x.d + 4 * n) x.m
  have h2 := mn_or (x.m + x.g) 60
  unfold nd1
  split
  · unfold Ok6; simp only; omega
  · split
    · unfold Ok6; simp only; omega
    · unfold Ok6; omega
def ndTo (xs : List Brk) (W : Int) (k : Nat) : List Brk := (List.range xs.length).map fun i => if i < k then nd1 (el xs i) (el (wkL xs W) i) else el xs i
def ndL (xs : List Brk) (W : Int) : List Brk := (List.range xs.length).map fun i => nd1 (el xs i) (el (wkL xs W) i)
theorem ndTo_len (xs : List Brk) (W : Int) (k : Nat) : (ndTo xs W k).length = xs.length := by simp [ndTo]
theorem ndL_len (xs : List Brk) (W : Int) : (ndL xs W).length = xs.length := by simp [ndL]
theorem ndTo_zero (xs : List Brk) (W : Int) : ndTo xs W 0 = xs := by
  apply List.ext_getElem
  · simp [ndTo]
  · intro i h1 h2; simp [ndTo, el_get h2]
theorem ndTo_all (xs : List Brk) (W : Int) : ndTo xs W xs.length = ndL xs W := by
  unfold ndTo ndL
  apply List.map_congr_left
  intro i hi
  rw [if_pos (List.mem_range.1 hi)]
theorem ndTo_el {xs : List Brk} {W : Int} {k : Nat} (h : k < xs.length) : el (ndTo xs W k) k = el xs k := by
  rw [el_get (by rw [ndTo_len]; exact h)]; simp [ndTo]
theorem ndTo_succ {xs : List Brk} {W : Int} {k : Nat} (h : k < xs.length) : ndTo xs W (k + 1) = (ndTo xs W k).set k (nd1 (el xs k) (el (wkL xs W) k)) := by
  apply List.ext_getElem
  · simp [ndTo]
  · intro i h1 h2
    rw [List.getElem_set]
    simp only [ndTo, List.getElem_map, List.getElem_range]
    by_cases hi : k = i
    · subst hi; simp
    · rw [if_neg hi]
      by_cases hk : i < k
      · rw [if_pos hk, if_pos (by omega)]
      · rw [if_neg hk, if_neg (by omega)]
theorem ndL_el {xs : List Brk} {W : Int} {k : Nat} (h : k < xs.length) : el (ndL xs W) k = nd1 (el xs k) (el (wkL xs W) k) := by
  rw [el_get (by rw [ndL_len]; exact h)]; simp [ndL]
theorem ndL_ok {xs : List Brk} {W : Int} (h : ∀ i, i < xs.length → Ok6 (el xs i)) : ∀ i, i < (ndL xs W).length → Ok6 (el (ndL xs W) i) := fun i hi => by
  rw [ndL_len] at hi
  rw [ndL_el hi]; exact nd1_ok (h i hi)
theorem take_ndL {xs : List Brk} {W : Int} {k : Nat} (h : k < xs.length) : (ndL xs W).take (k + 1) = (ndL xs W).take k ++ [nd1 (el xs k) (el (wkL xs W) k)] := by
  rw [take_el (by rw [ndL_len]; exact h), ndL_el h]
theorem flat_set {α : Type} [Inhabited α] {enc : α → List Value} {k : Nat} (hk : ∀ x, (enc x).length = k) : ∀ (ys : List α) (i j : Nat) (u : Value) (y : α), i < ys.length → j < k → enc y = (enc (el ys i)).set j u → (ys.flatMap enc).set (i * k + j) u = (ys.set i y).flatMap enc
  | [], i, _, _, _, h, _, _ => by simp at h
  | x :: ys, 0, j, u, y, _, hj, he => by
    have e0 : el (x :: ys) 0 = x := rfl
    rw [e0] at he
    simp only [List.flatMap_cons, Nat.zero_mul, Nat.zero_add, List.set_cons_zero]
    rw [List.set_append_left _ _ (by rw [hk]; exact hj), he]
  | x :: ys, i + 1, j, u, y, h, hj, he => by
    have e0 : el (x :: ys) (i + 1) = el ys i := by simp [el]
    rw [e0] at he
    simp only [List.flatMap_cons, List.set_cons_succ]
    rw [List.set_append_right _ _ (by rw [hk, Nat.add_mul]; omega), hk, show (i + 1) * k + j - k = i * k + j by rw [Nat.add_mul]; omega, flat_set hk ys i j u y (by simpa using h) hj he]
theorem brk_row {w : World} {g : Nat} {E : TypeId} {ys : List Brk} (h : Row w g E (ys.flatMap Brk.enc)) {i : Nat} (hi : i < ys.length) :
    w.cell? ⟨g, i * 6, none⟩ = some (.int .i64 (el ys i).i) ∧ w.cell? ⟨g, i * 6 + 1, none⟩ = some (.int .i64 (el ys i).p) ∧ w.cell? ⟨g, i * 6 + 2, none⟩ = some (.int .i64 (el ys i).m) ∧ w.cell? ⟨g, i * 6 + 3, none⟩ = some (.int .i64 (el ys i).g) ∧ w.cell? ⟨g, i * 6 + 4, none⟩ = some (.int .i64 (el ys i).t) ∧ w.cell? ⟨g, i * 6 + 5, none⟩ = some (.int .i64 (el ys i).d) := by
  obtain ⟨b, o, e, _, c0, c1, c2, c3, c4, c5⟩ := brk_cells (h.rd Brk.enc_len h.lt) hi
  simp only [Option.some.injEq, Addr.mk.injEq, and_true] at e
  obtain ⟨rfl, rfl⟩ := e
  simp only [Nat.zero_add] at c0 c1 c2 c3 c4 c5
  exact ⟨c0, c1, c2, c3, c4, c5⟩
end Go.Proofs.YtakjfkbfibcbcaaDoor
