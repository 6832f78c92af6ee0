/- The fewest owners with a majority: two ways to find them (chapter 22); plain. -/
import Derived.Test.YtimdnihadhbjpaaDoorOwMath
set_option linter.unusedSimpArgs false
set_option linter.unusedVariables false
namespace Go.Proofs.YtimdnihadhbjpaaDoor
open Go.RowKit Go.Sort Go.Salt
/-! The fewest owners with a majority: the reference goes through all choices, the program searches. -/
section
variable (mj : List Nat → Bool)
/-- The better one of the best choice so far and another one. -/
def updM (out ids : List Nat) : List Nat := if mj ids = true ∧ (out = [] ∨ ids.length < out.length) then ids else out
/-- Over all choices that begin with c and go on with some of the r numbers from k. -/
def fS : Nat → Nat → List Nat → List Nat → List Nat
  | _, 0, c, b => updM mj b c
  | k, r + 1, c, b => fS (k + 1) r c (fS (k + 1) r (c ++ [k]) b)
/-- The program's loop. -/
def lpM : Nat → Nat → List Nat → List Nat → List Nat
  | _, 0, _, b => b
  | k, r + 1, c, b => lpM (k + 1) r c (if b ≠ [] ∧ b.length ≤ (c ++ [k]).length then b else if mj (c ++ [k]) = true then c ++ [k] else lpM (k + 1) r (c ++ [k]) b)
/-- The program's search. -/
def dfM (k r : Nat) (c b : List Nat) : List Nat := if b ≠ [] ∧ b.length ≤ c.length then b else if mj c = true then c else lpM mj k r c b
/-- Over f (t-1), .., f 0. -/
def fmM (f : Nat → List Nat) : Nat → List Nat → List Nat
  | 0, b => b
  | t + 1, b => fmM f t (updM mj b (f t))
end
section
variable {mj : List Nat → Bool}
theorem lpM_succ (k r : Nat) (c b : List Nat) : lpM mj k (r + 1) c b = lpM mj (k + 1) r c (dfM mj (k + 1) r (c ++ [k]) b) := rfl
theorem fS_no {b : List Nat} (hb : b ≠ []) : ∀ (r k : Nat) (c : List Nat), b.length ≤ c.length → fS mj k r c b = b
  | 0, k, c, h => by rw [fS, updM, if_neg]; rintro ⟨_, e | e⟩; exact hb e; omega
  | r + 1, k, c, h => by rw [fS, fS_no hb r (k + 1) (c ++ [k]) (by simp; omega), fS_no hb r (k + 1) c h]
theorem fS_far {m : Nat} : ∀ (r k : Nat) (c b : List Nat), m < c.length → (b = [] ∨ m < b.length) → (fS mj k r c b = [] ∨ m < (fS mj k r c b).length)
  | 0, k, c, b, h, hb => by rw [fS, updM]; split; exact .inr h; exact hb
  | r + 1, k, c, b, h, hb => by rw [fS]; exact fS_far r (k + 1) c _ h (fS_far r (k + 1) (c ++ [k]) b (by simp; omega) hb)
theorem fS_yes {c : List Nat} (hc : mj c = true) : ∀ (r k : Nat) (b : List Nat), (b = [] ∨ c.length < b.length) → fS mj k r c b = c
  | 0, k, b, h => by rw [fS, updM, if_pos ⟨hc, h⟩]
  | r + 1, k, b, h => by rw [fS]; exact fS_yes hc r (k + 1) _ (fS_far r (k + 1) (c ++ [k]) b (by simp) h)
theorem lp_fS : ∀ (r k : Nat) (c b : List Nat), (mj c = false → lpM mj k r c b = fS mj k r c b) ∧ dfM mj k r c b = fS mj k r c b
  | 0, k, c, b => by
    have h1 : mj c = false → lpM mj k 0 c b = fS mj k 0 c b := fun h => by rw [lpM, fS, updM, if_neg (by rw [h]; simp)]
    refine ⟨h1, ?_⟩
    unfold dfM
    split
    · rename_i h; exact (fS_no h.1 0 k c h.2).symm
    · rename_i h
      split
      · rename_i h2; exact (fS_yes h2 0 k b (by by_cases e : b = []; exact .inl e; exact .inr (Nat.lt_of_not_le fun x => h ⟨e, x⟩))).symm
      · rename_i h2; exact h1 (by simpa using h2)
  | r + 1, k, c, b => by
    have h1 : mj c = false → lpM mj k (r + 1) c b = fS mj k (r + 1) c b := fun h => by
      rw [lpM_succ, fS, (lp_fS r (k + 1) (c ++ [k]) b).2, (lp_fS r (k + 1) c _).1 h]
    refine ⟨h1, ?_⟩
    unfold dfM
    split
    · rename_i h; exact (fS_no h.1 (r + 1) k c h.2).symm
    · rename_i h
      split
      · rename_i h2; exact (fS_yes h2 (r + 1) k b (by by_cases e : b = []; exact .inl e; exact .inr (Nat.lt_of_not_le fun x => h ⟨e, x⟩))).symm
      · rename_i h2; exact h1 (by simpa using h2)
theorem fmM_add (f : Nat → List Nat) (s : Nat) : ∀ (t : Nat) (b : List Nat), fmM mj f (s + t) b = fmM mj f s (fmM mj (fun m => f (s + m)) t b)
  | 0, b => rfl
  | t + 1, b => by rw [← Nat.add_assoc, fmM, fmM_add f s t, fmM]
theorem fmM_eq {f g : Nat → List Nat} : ∀ {t : Nat} {b : List Nat}, (∀ m, m < t → f m = g m) → fmM mj f t b = fmM mj g t b
  | 0, b, _ => rfl
  | t + 1, b, h => by rw [fmM, fmM, h t (by omega), fmM_eq (fun m hm => h m (by omega))]
end
/-- The numbers from k on whose bits are set in m, the highest bit first. -/
def idsM : Nat → Nat → Nat → List Nat
  | _, 0, _ => []
  | k, r + 1, m => if 2 ^ r ≤ m then k :: idsM (k + 1) r (m - 2 ^ r) else idsM (k + 1) r m
theorem fm_fS {mj : List Nat → Bool} : ∀ (r k : Nat) (c b : List Nat), fmM mj (fun m => c ++ idsM k r m) (2 ^ r) b = fS mj k r c b
  | 0, k, c, b => by simp [fmM, idsM, fS]
  | r + 1, k, c, b => by
    rw [show 2 ^ (r + 1) = 2 ^ r + 2 ^ r by omega, fmM_add, fS, ← fm_fS r (k + 1) c, ← fm_fS r (k + 1) (c ++ [k])]
    have e1 : ∀ m, m < 2 ^ r → (fun m => c ++ idsM k (r + 1) m) m = (fun m => c ++ idsM (k + 1) r m) m := fun m hm => by
      simp only [idsM]; rw [if_neg (by omega)]
    have e2 : ∀ m, m < 2 ^ r → (fun m => (fun m => c ++ idsM k (r + 1) m) (2 ^ r + m)) m = (fun m => (c ++ [k]) ++ idsM (k + 1) r m) m := fun m hm => by
      simp only [idsM]; rw [if_pos (by omega), show 2 ^ r + m - 2 ^ r = m by omega]; simp
    rw [fmM_eq e1, fmM_eq e2]
/-- The reference's result is the program's. -/
theorem maj_eq {mj : List Nat → Bool} (n : Nat) : fmM mj (idsM 0 n) (2 ^ n) [] = dfM mj 0 n [] [] := by
  rw [(lp_fS n 0 [] []).2, ← fm_fS]; simp
/-- The search's best choice is one of numbers below k + r, growing. -/
def incM (n : Nat) (c : List Nat) : Prop := ∀ j ∈ c, j < n
theorem idsM_lt : ∀ (r k m : Nat), m < 2 ^ r → ∀ j ∈ idsM k r m, k ≤ j ∧ j < k + r
  | 0, k, m, _, j, hj => by simp [idsM] at hj
  | r + 1, k, m, hm, j, hj => by
    rw [idsM] at hj
    split at hj
    · rcases List.mem_cons.1 hj with rfl | h
      · omega
      · have := idsM_lt r (k + 1) _ (by rw [show 2 ^ (r + 1) = 2 ^ r + 2 ^ r by omega] at hm; omega) j h; omega
    · have := idsM_lt r (k + 1) m (by omega) j hj; omega
theorem idsM_len : ∀ (r k m : Nat), (idsM k r m).length ≤ r
  | 0, k, m => by simp [idsM]
  | r + 1, k, m => by
    rw [idsM]; split
    · have := idsM_len r (k + 1) (m - 2 ^ r); simp; omega
    · have := idsM_len r (k + 1) m; omega
/-- One step of the reference's inner loop: the bit of i in m. -/
theorem idsM_step {i r m : Nat} (hm : m < 2 ^ (r + 1)) : idsM i (r + 1) m = (if m / 2 ^ r % 2 = 1 then [i] else []) ++ idsM (i + 1) r (m % 2 ^ r) := by
  have hp : 0 < 2 ^ r := Nat.pow_pos (by omega)
  rw [Nat.pow_succ] at hm
  rw [idsM]
  by_cases h : 2 ^ r ≤ m
  · have h1 : m / 2 ^ r = 1 := Nat.div_eq_of_lt_le (by omega) (by omega)
    have h2 : m % 2 ^ r = m - 2 ^ r := by rw [Nat.mod_eq_sub_mod h, Nat.mod_eq_of_lt (by omega)]
    rw [if_pos h, h1, h2]; rfl
  · rw [if_neg h, Nat.div_eq_of_lt (by omega), Nat.mod_eq_of_lt (show m < 2 ^ r by omega), if_neg (by decide)]; rfl
end Go.Proofs.YtimdnihadhbjpaaDoor
