/- The order of need, plainly: insertion from behind, as the library's sort moves it and as the reference puts it. No conditions. -/
import Derived.Test.YtakjfkbfibcbcaaDoorBreak
set_option linter.unusedSimpArgs false
set_option linter.unusedVariables false
namespace Go.Proofs.YtakjfkbfibcbcaaDoor
open Go.RowKit Go.Sort Go.Salt
/-- -1, 0 or 1. -/
def cmpI (a b : Int) : Int := if a < b then -1 else if b < a then 1 else 0
theorem cmpI_bd (a b : Int) : -1 ≤ cmpI a b ∧ cmpI a b ≤ 1 := by unfold cmpI; split <;> (try split) <;> omega
theorem cmpI_or (a b : Int) : (cmpI a b = -1 ∧ a < b) ∨ (cmpI a b = 1 ∧ b < a) ∨ (cmpI a b = 0 ∧ a = b) := by unfold cmpI; split <;> (try split) <;> omega
def cmpN (xs : List Brk) (a b : Nat) : Int := if cmpI (el xs b).g (el xs a).g ≠ 0 then cmpI (el xs b).g (el xs a).g else cmpI (el xs a).t (el xs b).t
theorem cmpN_bd (xs : List Brk) (a b : Nat) : -1 ≤ cmpN xs a b ∧ cmpN xs a b ≤ 1 := by
  unfold cmpN; split
  · exact cmpI_bd _ _
  · exact cmpI_bd _ _
/-- Break x stands ahead of break p. -/
def ahead (xs : List Brk) (x p : Nat) : Bool := decide ((el xs p).g < (el xs x).g) || (decide ((el xs p).g = (el xs x).g) && decide ((el xs x).t < (el xs p).t))
theorem ahead_cmp (xs : List Brk) (x p : Nat) : ahead xs x p = decide (cmpN xs x p < 0) := by
  have hc : cmpN xs x p < 0 ↔ ((el xs p).g < (el xs x).g ∨ (el xs p).g = (el xs x).g ∧ (el xs x).t < (el xs p).t) := by
    unfold cmpN
    rcases cmpI_or (el xs p).g (el xs x).g with ⟨e, h⟩ | ⟨e, h⟩ | ⟨e, h⟩ <;> rcases cmpI_or (el xs x).t (el xs p).t with ⟨e', h'⟩ | ⟨e', h'⟩ | ⟨e', h'⟩ <;> simp [e, e'] <;> omega
  rw [Bool.eq_iff_iff]
  simp [ahead, hc]
instance : Inhabited Nat := ⟨0⟩
section
variable (less : Nat → Nat → Bool)
def swp (l : List Nat) (j : Nat) : List Nat := (l.set (j + 1) (el l j)).set j (el l (j + 1))
def insAt : List Nat → Nat → List Nat
  | l, 0 => l
  | l, j + 1 => if less (el l (j + 1)) (el l j) = true then insAt (swp l j) j else l
def insTo (l : List Nat) : Nat → List Nat
  | 0 => l
  | i + 1 => insAt less (insTo l i) i
/-- Where x goes, among the first k. -/
def posDown (l : List Nat) (x : Nat) : Nat → Nat
  | 0 => 0
  | k + 1 => if less x (el l k) = true then posDown l x k else k + 1
def insPut (l : List Nat) (x : Nat) : List Nat := l.take (posDown less l x l.length) ++ x :: l.drop (posDown less l x l.length)
def ordL : List Nat → List Nat := fun l => l.foldl (insPut less) []
theorem posDown_le (l : List Nat) (x : Nat) : ∀ k, posDown less l x k ≤ k
  | 0 => Nat.le_refl _
  | k + 1 => by
    rw [posDown]; split
    · have := posDown_le l x k; omega
    · omega
theorem posDown_app (A : List Nat) (y x : Nat) : ∀ k, k ≤ A.length → posDown less (A ++ [y]) x k = posDown less A x k
  | 0, _ => rfl
  | k + 1, h => by
    rw [posDown, posDown, posDown_app A y x k (by omega)]
    have : el (A ++ [y]) k = el A k := by simp [el, List.getElem?_append_left (show k < A.length by omega)]
    rw [this]
theorem swp_len (l : List Nat) (j : Nat) : (swp l j).length = l.length := by simp [swp]
theorem insAt_len : ∀ (j : Nat) (l : List Nat), (insAt less l j).length = l.length
  | 0, _ => rfl
  | j + 1, l => by
    rw [insAt]; split
    · rw [insAt_len j, swp_len]
    · rfl
theorem insTo_len (l : List Nat) : ∀ i, (insTo less l i).length = l.length
  | 0 => rfl
  | i + 1 => by rw [insTo, insAt_len, insTo_len l i]
theorem swp_app (A : List Nat) (y x : Nat) (R : List Nat) : swp (A ++ y :: x :: R) A.length = A ++ x :: y :: R := by
  have e1 : el (A ++ y :: x :: R) A.length = y := by simp [el]
  have e2 : el (A ++ y :: x :: R) (A.length + 1) = x := by simp [el]
  unfold swp
  rw [e1, e2, List.set_append_right _ _ (by omega), show A.length + 1 - A.length = 1 by omega, List.set_append_right _ _ (by omega), Nat.sub_self]
  rfl
theorem insAt_app : ∀ (n : Nat) (A : List Nat) (x : Nat) (R : List Nat), A.length = n → insAt less (A ++ x :: R) n = A.take (posDown less A x n) ++ x :: (A.drop (posDown less A x n) ++ R) := by
  intro n
  induction n with
  | zero =>
    intro A x R h
    rw [List.eq_nil_of_length_eq_zero h]
    simp [insAt, posDown]
  | succ n ih =>
    intro A x R h
    obtain ⟨A', y, rfl⟩ : ∃ A' y, A = A' ++ [y] := ⟨A.dropLast, A.getLast (by intro hc; rw [hc] at h; simp at h), (List.dropLast_concat_getLast _).symm⟩
    have hl : A'.length = n := by simpa using h
    subst hl
    have e0 : (A' ++ [y]) ++ x :: R = A' ++ y :: x :: R := by simp
    have e1 : el (A' ++ y :: x :: R) A'.length = y := by simp [el]
    have e2 : el (A' ++ y :: x :: R) (A'.length + 1) = x := by simp [el]
    have e3 : el (A' ++ [y]) A'.length = y := by simp [el]
    rw [e0, insAt, e1, e2, posDown, e3]
    split
    · rw [swp_app, ih A' x (y :: R) rfl, posDown_app _ _ _ _ _ (Nat.le_refl _)]
      have hp := posDown_le less A' x A'.length
      rw [List.take_append_of_le_length hp, List.drop_append_of_le_length hp]
      simp
    · rw [List.take_of_length_le (by simp), List.drop_of_length_le (by simp)]; simp
theorem ordL_snoc (l : List Nat) (x : Nat) : ordL less (l ++ [x]) = insPut less (ordL less l) x := by simp [ordL, List.foldl_append]
theorem insPut_len (l : List Nat) (x : Nat) : (insPut less l x).length = l.length + 1 := by
  have := posDown_le less l x l.length
  simp [insPut]; omega
theorem ordL_len (l : List Nat) : (ordL less l).length = l.length := by
  unfold ordL
  have : ∀ (l acc : List Nat), (l.foldl (insPut less) acc).length = acc.length + l.length := by
    intro l
    induction l with
    | nil => intro acc; simp
    | cons x l ih => intro acc; rw [List.foldl_cons, ih, insPut_len]; simp; omega
  simpa using this l []
theorem insTo_ord (l : List Nat) : ∀ m, m ≤ l.length → insTo less l m = ordL less (l.take m) ++ l.drop m
  | 0, _ => by simp [insTo, ordL]
  | m + 1, h => by
    rw [insTo, insTo_ord l m (by omega), List.drop_eq_getElem_cons (by omega)]
    have hl : (ordL less (l.take m)).length = m := by rw [ordL_len]; simp; omega
    rw [insAt_app less m _ _ _ hl, List.take_succ_eq_append_getElem (by omega), ordL_snoc, insPut, hl]
    simp
theorem insTo_all (l : List Nat) : insTo less l l.length = ordL less l := by rw [insTo_ord less l _ (Nat.le_refl _)]; simp
theorem ordL_mem (l : List Nat) (P : Nat → Prop) (h : ∀ x ∈ l, P x) : ∀ x ∈ ordL less l, P x := by
  unfold ordL
  have : ∀ (l acc : List Nat), (∀ x ∈ l, P x) → (∀ x ∈ acc, P x) → ∀ x ∈ l.foldl (insPut less) acc, P x := by
    intro l
    induction l with
    | nil => intro acc _ ha; exact ha
    | cons y l ih =>
      intro acc hl ha
      refine ih _ (fun x hx => hl x (by simp [hx])) (fun x hx => ?_)
      rw [insPut] at hx
      rcases List.mem_append.1 hx with hx | hx
      · exact ha x (List.mem_of_mem_take hx)
      · rcases List.mem_cons.1 hx with rfl | hx
        · exact hl x (by simp)
        · exact ha x (List.mem_of_mem_drop hx)
  exact this l [] h (by simp)
end
/-- The indices, below k, of breaks that are not done. -/
def needL (xs : List Brk) (k : Nat) : List Nat := (List.range k).filter fun i => decide ((el xs i).d < (el xs i).m)
theorem needL_yes {xs : List Brk} {k : Nat} (h : (el xs k).d < (el xs k).m) : needL xs (k + 1) = needL xs k ++ [k] := by simp [needL, List.range_succ, h]
theorem needL_no {xs : List Brk} {k : Nat} (h : ¬ (el xs k).d < (el xs k).m) : needL xs (k + 1) = needL xs k := by simp [needL, List.range_succ, h]
theorem needL_len (xs : List Brk) (k : Nat) : (needL xs k).length ≤ k := by
  have := List.length_filter_le (fun i => decide ((el xs i).d < (el xs i).m)) (List.range k)
  simpa [needL] using this
theorem needL_lt {xs : List Brk} {k : Nat} : ∀ i ∈ needL xs k, i < k := fun i hi => List.mem_range.1 (List.mem_filter.1 hi).1
def needO (xs : List Brk) (k : Nat) : List Nat := ordL (ahead xs) (needL xs k)
theorem needO_yes {xs : List Brk} {k : Nat} (h : (el xs k).d < (el xs k).m) : needO xs (k + 1) = insPut (ahead xs) (needO xs k) k := by rw [needO, needL_yes h, ordL_snoc]; rfl
theorem needO_no {xs : List Brk} {k : Nat} (h : ¬ (el xs k).d < (el xs k).m) : needO xs (k + 1) = needO xs k := by rw [needO, needL_no h]; rfl
theorem needO_len (xs : List Brk) (k : Nat) : (needO xs k).length ≤ k := by rw [needO, ordL_len]; exact needL_len xs k
theorem needO_lt {xs : List Brk} {k : Nat} : ∀ i ∈ needO xs k, i < k := ordL_mem _ _ _ needL_lt
end Go.Proofs.YtakjfkbfibcbcaaDoor
