/- Heirs: both ways to divide a share make the same list (chapter 22); plain. -/
import Derived.Test.YtimdnihadhbjpaaDoorSellS
set_option linter.unusedSimpArgs false
set_option linter.unusedVariables false
namespace Go.Proofs.YtimdnihadhbjpaaDoor
open Go.RowKit Go.Sort Go.Salt
def posO (xs : List Ow) : Prop := ∀ j, 0 < (el xs j).n ∧ 0 < (el xs j).d
theorem rN_pos {n m : Int} (hn : 0 < n) (hm : 0 < m) : 0 < rN n m ∧ 0 < rD n m := by
  obtain ⟨g, hg, e1, _, hb⟩ := r_eq (n := n) hm
  refine ⟨?_, hb⟩
  rcases Int.lt_or_le 0 (rN n m) with h | h
  · exact h
  · have := Int.mul_nonneg (show 0 ≤ g by omega) (show 0 ≤ -rN n m by omega)
    rw [Int.mul_neg] at this; omega
theorem posO.del {xs : List Ow} (h : posO xs) {i : Nat} (hi : i < xs.length) : posO (delL xs i) := fun j => by
  rw [el_del hi]; split <;> exact h _
theorem posO.gets {xs : List Ow} (h : posO xs) (t : ByteArray) {n d : Int} (hn : 0 < n) (hd : 0 < d) : posO (getsL xs t n d) := fun k => by
  rcases owAtN_or xs t xs.length with ⟨_, hno⟩ | ⟨j, hj, _, j1, j2⟩
  · rw [getsL_no hno, el_snoc]; split
    · exact rN_pos hn hd
    · exact h k
  · rw [getsL_at hj j1 j2, el_put hj]; split
    · have h1 := Int.mul_pos (h j).1 hd
      have h2 := Int.mul_pos hn (h j).2
      exact rN_pos (by omega) (Int.mul_pos (h j).2 hd)
    · exact h k
/-- The program's list behind k heirs. -/
def hG (n d : Int) (xs : List Ow) (hs : List ByteArray) : Nat → List Ow
  | 0 => xs
  | k + 1 => getsL (hG n d xs hs k) (el hs k) n d
/-- The reference's. -/
def hV (n d : Int) (xs : List Ow) (hs : List ByteArray) : Nat → List Ow
  | 0 => xs
  | k + 1 => giveL (hV n d xs hs k) (el hs k) n d
theorem hG_pos {n d : Int} {xs : List Ow} {hs : List ByteArray} (h : posO xs) (hn : 0 < n) (hd : 0 < d) : ∀ k, posO (hG n d xs hs k)
  | 0 => h
  | k + 1 => (hG_pos h hn hd k).gets _ hn hd
theorem hV_eq {n d : Int} {xs : List Ow} {hs : List ByteArray} (h : posO xs) (hn : 0 < n) (hd : 0 < d) : ∀ k, hV (rN n d) (rD n d) xs hs k = hG n d xs hs k
  | 0 => rfl
  | k + 1 => by rw [hV, hV_eq h hn hd k, hG, give_gets (hG_pos h hn hd k) hn hd]
theorem hG_len (n d : Int) (xs : List Ow) (hs : List ByteArray) : ∀ k, xs.length ≤ (hG n d xs hs k).length ∧ (hG n d xs hs k).length ≤ xs.length + k
  | 0 => by simp [hG]
  | k + 1 => by have := hG_len n d xs hs k; have := getsL_len (hG n d xs hs k) (el hs k) n d; rw [hG]; omega
theorem hG_sz {B : Nat} {n d : Int} {xs : List Ow} {hs : List ByteArray} (h : OwSz B xs) (hh : ∀ k, (el hs k).size ≤ B) : ∀ k, OwSz B (hG n d xs hs k)
  | 0 => h
  | k + 1 => (hG_sz h hh k).gets (hh k) n d
theorem hG_bd {n d : Int} {xs : List Ow} {hs : List ByteArray} (h : OwBd xs) : ∀ k j, (∃ m, m < k ∧ (el (hG n d xs hs k) j).s = el hs m) ∨ ((1 ≤ (el (hG n d xs hs k) j).n ∧ (el (hG n d xs hs k) j).n ≤ 1000) ∧ 1 ≤ (el (hG n d xs hs k) j).d ∧ (el (hG n d xs hs k) j).d ≤ 1000)
  | 0, j => .inr (h j)
  | k + 1, j => by
    have ih : (∃ m, m < k + 1 ∧ (el (hG n d xs hs k) j).s = el hs m) ∨ ((1 ≤ (el (hG n d xs hs k) j).n ∧ (el (hG n d xs hs k) j).n ≤ 1000) ∧ 1 ≤ (el (hG n d xs hs k) j).d ∧ (el (hG n d xs hs k) j).d ≤ 1000) := by
      rcases hG_bd h k j with ⟨m, hm, e⟩ | e
      · exact .inl ⟨m, by omega, e⟩
      · exact .inr e
    rw [hG]
    rcases owAtN_or (hG n d xs hs k) (el hs k) (hG n d xs hs k).length with ⟨_, hno⟩ | ⟨i, hi, _, j1, j2⟩
    · rw [getsL_no hno, el_snoc]; split
      · exact .inl ⟨k, by omega, rfl⟩
      · exact ih
    · rw [getsL_at hi j1 j2, el_put hi]; split
      · exact .inl ⟨k, by omega, by first | exact j1 | exact rfl⟩
      · exact ih
/-- The first k heirs are others than the owner and than each other. -/
def noD (hs : List ByteArray) (name : ByteArray) : Nat → Bool
  | 0 => true
  | k + 1 => noD hs name k && (decide (el hs k ≠ name) && decide (∀ j, j < k → el hs j ≠ el hs k))
theorem noD_succ {hs : List ByteArray} {name : ByteArray} {k : Nat} : noD hs name (k + 1) = true ↔ noD hs name k = true ∧ el hs k ≠ name ∧ ∀ j, j < k → el hs j ≠ el hs k := by
  rw [noD, Bool.and_eq_true, Bool.and_eq_true, decide_eq_true_iff, decide_eq_true_iff]
theorem noD_at {hs : List ByteArray} {name : ByteArray} : ∀ {n : Nat}, noD hs name n = true → ∀ k, k < n → el hs k ≠ name ∧ ∀ j, j < k → el hs j ≠ el hs k
  | 0, _, k, hk => by omega
  | n + 1, h, k, hk => by
    have h1 := noD_succ.1 h
    by_cases e : k = n
    · subst e; exact h1.2
    · exact noD_at h1.1 k (by omega)
theorem noD_le {hs : List ByteArray} {name : ByteArray} {k : Nat} (h : noD hs name k = false) : ∀ {n : Nat}, k ≤ n → noD hs name n = false
  | 0, hk => by obtain rfl : k = 0 := by omega
                exact h
  | n + 1, hk => by
    by_cases e : k = n + 1
    · subst e; exact h
    · rw [noD, noD_le h (by omega), Bool.false_and]
theorem noD_name {hs : List ByteArray} {name : ByteArray} {k n : Nat} (hk : k < n) (h : el hs k = name) : noD hs name n = false := by
  refine noD_le (k := k + 1) ?_ (by omega)
  rw [noD, decide_eq_false (show ¬ el hs k ≠ name from fun x => x h)]; simp
theorem noD_dup {hs : List ByteArray} {name : ByteArray} {j k n : Nat} (hk : k < n) (hj : j < k) (h : el hs j = el hs k) : noD hs name n = false := by
  refine noD_le (k := k + 1) ?_ (by omega)
  rw [noD, decide_eq_false (show ¬ ∀ j, j < k → el hs j ≠ el hs k from fun x => x j hj h)]; simp
theorem noD_mk {hs : List ByteArray} {name : ByteArray} : ∀ {n : Nat}, (∀ k, k < n → el hs k ≠ name ∧ ∀ j, j < k → el hs j ≠ el hs k) → noD hs name n = true
  | 0, _ => rfl
  | n + 1, h => noD_succ.2 ⟨noD_mk fun k hk => h k (by omega), h n (by omega)⟩
def hrI (xs : List Ow) (name : ByteArray) : Nat := (owAtN xs name xs.length).toNat
def hrC (xs : List Ow) (name : ByteArray) (hs : List ByteArray) : Bool := arB xs && (decide (0 ≤ owAtN xs name xs.length) && (inB hs.length 1 5 && noD hs name hs.length))
def hrR (xs : List Ow) (name : ByteArray) (hs : List ByteArray) : List Ow := hG (el xs (hrI xs name)).n ((el xs (hrI xs name)).d * (hs.length : Int)) (delL xs (hrI xs name)) hs hs.length
def hrB (xs : List Ow) (name : ByteArray) (hs : List ByteArray) : Bool := hrC xs name hs && arB (hrR xs name hs)
def hrL (xs : List Ow) (name : ByteArray) (hs : List ByteArray) : List Ow := if hrB xs name hs = true then hrR xs name hs else []
theorem hrL_len (xs : List Ow) (name : ByteArray) (hs : List ByteArray) : (hrL xs name hs).length ≤ 8 := by
  unfold hrL; split
  · rename_i h
    unfold hrB at h; rw [Bool.and_eq_true] at h
    exact (arOK_len h.2).2
  · simp
theorem hr_no {w w' : World} {xs : List Ow} {name : ByteArray} {hs : List ByteArray} {e : Ending} (hB : hrB xs name hs = false) (h : MadeAt w 54 [] 0 (fun v => .returned (.tuple #[v, .bool false])) e w') :
    MadeAt w 54 ((hrL xs name hs).flatMap Ow.enc) (hrL xs name hs).length (fun v => .returned (.tuple #[v, .bool (hrB xs name hs)])) e w' :=
  MadeAt.cast h (by simp [hrL, hB]) (by simp [hrL, hB]) (by rw [hB]) rfl
theorem hr_yes {w w' : World} {xs ys : List Ow} {name : ByteArray} {hs : List ByteArray} {e : Ending} (hy : hrR xs name hs = ys) (hB : hrB xs name hs = true) (h : MadeAt w 54 (ys.flatMap Ow.enc) ys.length (fun v => .returned (.tuple #[v, .bool true])) e w') :
    MadeAt w 54 ((hrL xs name hs).flatMap Ow.enc) (hrL xs name hs).length (fun v => .returned (.tuple #[v, .bool (hrB xs name hs)])) e w' :=
  MadeAt.cast h (by simp [hrL, hB, hy]) (by simp [hrL, hB, hy]) (by rw [hB]) rfl
end Go.Proofs.YtimdnihadhbjpaaDoor
