/- Shares given and sold: the lists and the fractions (chapter 22); plain. -/
import Derived.Test.YtimdnihadhbjpaaDoorAre
set_option linter.unusedSimpArgs false
set_option linter.unusedVariables false
namespace Go.Proofs.YtimdnihadhbjpaaDoor
open Go.RowKit Go.Sort Go.Salt
theorem owAtN_or (xs : List Ow) (s : ByteArray) : ∀ k : Nat, (owAtN xs s k = -1 ∧ ∀ j, j < k → (el xs j).s ≠ s) ∨ ∃ j, j < k ∧ owAtN xs s k = j ∧ (el xs j).s = s ∧ ∀ i, i < j → (el xs i).s ≠ s
  | 0 => .inl ⟨rfl, fun j hj => by omega⟩
  | k + 1 => by
    rcases owAtN_or xs s k with ⟨h1, h2⟩ | ⟨j, h1, h2, h3, h4⟩
    · by_cases h : (el xs k).s = s
      · exact .inr ⟨k, by omega, owAtN_first h h2 (by omega), h, h2⟩
      · refine .inl ?_
        have h3 : ∀ j, j < k + 1 → (el xs j).s ≠ s := fun j hj => by
          by_cases e : j = k
          · rw [e]; exact h
          · exact h2 j (by omega)
        exact ⟨owAtN_none h3, h3⟩
    · exact .inr ⟨j, by omega, owAtN_first h3 h4 (by omega), h3, h4⟩
def delL {α : Type} (xs : List α) (i : Nat) : List α := xs.take i ++ xs.drop (i + 1)
theorem el_put {α : Type} [Inhabited α] {xs : List α} {i k : Nat} {u : α} (h : i < xs.length) : el (xs.set i u) k = if k = i then u else el xs k := by
  simp only [el, List.getD_eq_getElem?_getD, List.getElem?_set]
  by_cases e : i = k
  · subst e; simp [h]
  · rw [if_neg e, if_neg (by omega)]
theorem el_del {α : Type} [Inhabited α] {xs : List α} {i k : Nat} (h : i < xs.length) : el (delL xs i) k = if k < i then el xs k else el xs (k + 1) := by
  unfold delL el
  simp only [List.getD_eq_getElem?_getD]
  by_cases e : k < i
  · rw [List.getElem?_append_left (by simp; omega), List.getElem?_take, if_pos e, if_pos e]
  · rw [List.getElem?_append_right (by simp; omega), List.getElem?_drop, if_neg e]
    rw [List.length_take, show i + 1 + (k - min i xs.length) = k + 1 by omega]
theorem el_snoc {α : Type} [Inhabited α] {xs : List α} {k : Nat} {u : α} : el (xs ++ [u]) k = if k = xs.length then u else el xs k := by
  unfold el
  simp only [List.getD_eq_getElem?_getD]
  by_cases e : k < xs.length
  · rw [List.getElem?_append_left e, if_neg (by omega)]
  · rw [List.getElem?_append_right (by omega)]
    by_cases e2 : k = xs.length
    · subst e2; simp
    · rw [if_neg e2, List.getElem?_eq_none (by simp; omega), List.getElem?_eq_none (by omega)]
theorem del_len {α : Type} {xs : List α} {i : Nat} (h : i < xs.length) : (delL xs i).length = xs.length - 1 := by
  unfold delL; simp; omega
theorem el_ext {α : Type} [Inhabited α] {xs ys : List α} (hl : xs.length = ys.length) (h : ∀ k, k < xs.length → el xs k = el ys k) : xs = ys := by
  refine List.ext_getElem hl fun i h1 h2 => ?_
  have := h i h1
  rwa [el_get h1, el_get h2] at this
theorem del_snoc {α : Type} [Inhabited α] {xs : List α} {i : Nat} {u : α} (h : i < xs.length) : delL (xs ++ [u]) i = delL xs i ++ [u] := by
  refine el_ext (by rw [del_len (by simp; omega), List.length_append, List.length_append, del_len h]; simp; omega) fun k hk => ?_
  rw [del_len (by simp; omega)] at hk
  simp only [List.length_append, List.length_cons, List.length_nil] at hk
  rw [el_del (by simp; omega), el_snoc, el_snoc, el_snoc, del_len h, el_del h]
  repeat' split
  all_goals first | rfl | omega
theorem del_set_lt {α : Type} [Inhabited α] {xs : List α} {i j : Nat} {u : α} (h : i < xs.length) (hj : j < i) : (delL xs i).set j u = delL (xs.set j u) i := by
  have hl := del_len h
  have hl2 : (delL (xs.set j u) i).length = xs.length - 1 := by rw [del_len (by simpa using h), List.length_set]
  refine el_ext (by rw [List.length_set, hl, hl2]) fun k hk => ?_
  rw [el_put (by omega), el_del h, el_del (by simpa using h), el_put (by omega), el_put (by omega)]
  repeat' split
  all_goals first | rfl | omega
theorem del_set_gt {α : Type} [Inhabited α] {xs : List α} {i j : Nat} {u : α} (h : i < j) (hj : j < xs.length) : (delL xs i).set (j - 1) u = delL (xs.set j u) i := by
  have hl := del_len (show i < xs.length by omega)
  have hl2 : (delL (xs.set j u) i).length = xs.length - 1 := by rw [del_len (by rw [List.length_set]; omega), List.length_set]
  refine el_ext (by rw [List.length_set, hl, hl2]) fun k hk => ?_
  rw [el_put (by omega), el_del (by omega), el_del (by rw [List.length_set]; omega), el_put (by omega), el_put (by omega)]
  repeat' split
  all_goals first | rfl | omega
theorem snoc_set {α : Type} [Inhabited α] {xs : List α} {i : Nat} {u v : α} (h : i < xs.length) : (xs ++ [u]).set i v = xs.set i v ++ [u] := List.set_append_left _ _ h
/-! Fractions in lowest terms. -/
def rN (n m : Int) : Int := n / (Int.gcd n m : Int)
def rD (n m : Int) : Int := m / (Int.gcd n m : Int)
theorem r_scale {g n m : Int} (hg : 0 < g) : rN (g * n) (g * m) = rN n m ∧ rD (g * n) (g * m) = rD n m := by
  unfold rN rD
  rw [Int.gcd_mul_left, Int.natCast_mul, Int.natAbs_of_nonneg (by omega)]
  exact ⟨Int.mul_ediv_mul_of_pos _ _ hg, Int.mul_ediv_mul_of_pos _ _ hg⟩
theorem r_eq {n m : Int} (hm : 0 < m) : ∃ g : Int, 0 < g ∧ n = g * rN n m ∧ m = g * rD n m ∧ 0 < rD n m := by
  have h0 : 0 < Int.gcd n m := Int.gcd_pos_of_ne_zero_right _ (by omega)
  have e1 : (Int.gcd n m : Int) * (n / (Int.gcd n m : Int)) = n := Int.mul_ediv_cancel' (Int.gcd_dvd_left n m)
  have e2 : (Int.gcd n m : Int) * (m / (Int.gcd n m : Int)) = m := Int.mul_ediv_cancel' (Int.gcd_dvd_right n m)
  refine ⟨(Int.gcd n m : Int), by omega, e1.symm, e2.symm, ?_⟩
  unfold rD
  exact Int.ediv_pos_of_pos_of_dvd hm (by omega) (Int.gcd_dvd_right n m)
/-- The reference's list in which somebody has a share more. -/
def giveL (xs : List Ow) (t : ByteArray) (n d : Int) : List Ow :=
  if owAtN xs t xs.length < 0 then xs ++ [⟨t, n, d⟩] else
  if (el xs (owAtN xs t xs.length).toNat).n * d + n * (el xs (owAtN xs t xs.length).toNat).d = 0 then delL xs (owAtN xs t xs.length).toNat else
  xs.set (owAtN xs t xs.length).toNat ⟨t, rN ((el xs (owAtN xs t xs.length).toNat).n * d + n * (el xs (owAtN xs t xs.length).toNat).d) ((el xs (owAtN xs t xs.length).toNat).d * d), rD ((el xs (owAtN xs t xs.length).toNat).n * d + n * (el xs (owAtN xs t xs.length).toNat).d) ((el xs (owAtN xs t xs.length).toNat).d * d)⟩
/-- The program's. -/
def getsL (xs : List Ow) (t : ByteArray) (n d : Int) : List Ow :=
  if owAtN xs t xs.length < 0 then xs ++ [⟨t, rN n d, rD n d⟩] else
  xs.set (owAtN xs t xs.length).toNat ⟨(el xs (owAtN xs t xs.length).toNat).s, rN ((el xs (owAtN xs t xs.length).toNat).n * d + n * (el xs (owAtN xs t xs.length).toNat).d) ((el xs (owAtN xs t xs.length).toNat).d * d), rD ((el xs (owAtN xs t xs.length).toNat).n * d + n * (el xs (owAtN xs t xs.length).toNat).d) ((el xs (owAtN xs t xs.length).toNat).d * d)⟩
theorem giveL_no {xs : List Ow} {t : ByteArray} {n d : Int} (h : ∀ j, j < xs.length → (el xs j).s ≠ t) : giveL xs t n d = xs ++ [⟨t, n, d⟩] := by
  unfold giveL; rw [owAtN_none h, if_pos (by omega)]
theorem giveL_at {xs : List Ow} {t : ByteArray} {n d : Int} {j : Nat} (hj : j < xs.length) (h1 : (el xs j).s = t) (h2 : ∀ i, i < j → (el xs i).s ≠ t) :
    giveL xs t n d = if (el xs j).n * d + n * (el xs j).d = 0 then delL xs j else xs.set j ⟨t, rN ((el xs j).n * d + n * (el xs j).d) ((el xs j).d * d), rD ((el xs j).n * d + n * (el xs j).d) ((el xs j).d * d)⟩ := by
  unfold giveL; rw [owAtN_first h1 h2 hj, if_neg (by omega), Int.toNat_natCast]
theorem getsL_no {xs : List Ow} {t : ByteArray} {n d : Int} (h : ∀ j, j < xs.length → (el xs j).s ≠ t) : getsL xs t n d = xs ++ [⟨t, rN n d, rD n d⟩] := by
  unfold getsL; rw [owAtN_none h, if_pos (by omega)]
theorem getsL_at {xs : List Ow} {t : ByteArray} {n d : Int} {j : Nat} (hj : j < xs.length) (h1 : (el xs j).s = t) (h2 : ∀ i, i < j → (el xs i).s ≠ t) :
    getsL xs t n d = xs.set j ⟨t, rN ((el xs j).n * d + n * (el xs j).d) ((el xs j).d * d), rD ((el xs j).n * d + n * (el xs j).d) ((el xs j).d * d)⟩ := by
  unfold getsL; rw [owAtN_first h1 h2 hj, if_neg (by omega), Int.toNat_natCast, h1]
/-- What is left of a share. -/
def sellN (x : Ow) (num den : Int) : Int := x.n * den - num * x.d
def sellL (xs : List Ow) (i : Nat) (t : ByteArray) (num den : Int) : List Ow :=
  if sellN (el xs i) num den = 0 then delL (getsL xs t num den) i else
  (getsL xs t num den).set i ⟨(el (getsL xs t num den) i).s, rN (sellN (el xs i) num den) ((el xs i).d * den), rD (sellN (el xs i) num den) ((el xs i).d * den)⟩
theorem sum_scale {g a b n d : Int} (hg : 0 < g) : rN (n * (g * b) + g * a * d) (d * (g * b)) = rN (n * b + a * d) (d * b) ∧ rD (n * (g * b) + g * a * d) (d * (g * b)) = rD (n * b + a * d) (d * b) := by
  have e1 : n * (g * b) + g * a * d = g * (n * b + a * d) := by grind
  have e2 : d * (g * b) = g * (d * b) := by grind
  rw [e1, e2]; exact r_scale hg
/-- Selling: both make the same list. -/
theorem sell_eq {xs : List Ow} {f t : ByteArray} {num den : Int} {i : Nat} (hi : i < xs.length) (h1 : (el xs i).s = f) (h2 : ∀ j, j < i → (el xs j).s ≠ f) (hft : f ≠ t)
    (hp : ∀ j, 0 < (el xs j).n ∧ 0 < (el xs j).d) (hn : 0 < num) (hd : 0 < den) (hl : 0 ≤ sellN (el xs i) num den) :
    giveL (giveL xs f (-(rN num den)) (rD num den)) t (rN num den) (rD num den) = sellL xs i t num den := by
  obtain ⟨g, hg, e1, e2, hb⟩ := r_eq (n := num) hd
  rw [giveL_at hi h1 h2]
  unfold sellL
  generalize hA : rN num den = a at *
  generalize hB : rD num den = b at *
  have ha : 0 < a := by
    rcases Int.lt_or_le 0 a with h | h
    · exact h
    · have := Int.mul_nonneg (show 0 ≤ g by omega) (show 0 ≤ -a by omega)
      rw [Int.mul_neg] at this; omega
  have hN : sellN (el xs i) num den = g * ((el xs i).n * b + -a * (el xs i).d) := by
    unfold sellN; rw [e1, e2]; grind
  have hz : sellN (el xs i) num den = 0 ↔ (el xs i).n * b + -a * (el xs i).d = 0 := by
    rw [hN, Int.mul_eq_zero]; omega
  have hr : ∀ x : Ow, rN (x.n * den + num * x.d) (x.d * den) = rN (x.n * b + a * x.d) (x.d * b) ∧ rD (x.n * den + num * x.d) (x.d * den) = rD (x.n * b + a * x.d) (x.d * b) := fun x => by
    rw [e1, e2]; exact sum_scale hg
  have hL : rN (sellN (el xs i) num den) ((el xs i).d * den) = rN ((el xs i).n * b + -a * (el xs i).d) ((el xs i).d * b) ∧ rD (sellN (el xs i) num den) ((el xs i).d * den) = rD ((el xs i).n * b + -a * (el xs i).d) ((el xs i).d * b) := by
    rw [hN, e2, show (el xs i).d * (g * b) = g * ((el xs i).d * b) by grind]; exact r_scale hg
  have hpos : ∀ j, 0 < (el xs j).n * b + a * (el xs j).d := fun j => by
    have := Int.mul_pos (hp j).1 hb
    have := Int.mul_pos ha (hp j).2
    omega
  rw [hL.1, hL.2]
  simp only [hz]
  rcases owAtN_or xs t xs.length with ⟨_, hno⟩ | ⟨j, hj, _, j1, j2⟩
  · -- a new owner
    rw [getsL_no hno, hA, hB]
    by_cases h0 : (el xs i).n * b + -a * (el xs i).d = 0
    · rw [if_pos h0, if_pos h0, del_snoc hi, giveL_no]
      intro k hk
      rw [del_len hi] at hk
      rw [el_del hi]; split
      · exact hno _ (by omega)
      · exact hno _ (by omega)
    · rw [if_neg h0, if_neg h0, snoc_set hi, giveL_no, el_snoc, if_neg (show ¬ i = xs.length by omega), h1]
      intro k hk
      rw [List.length_set] at hk
      rw [el_put hi]; split
      · exact hft
      · exact hno _ (by omega)
  · have hij : j ≠ i := fun e => hft (by rw [← h1, ← e, j1])
    rw [getsL_at hj j1 j2]
    by_cases h0 : (el xs i).n * b + -a * (el xs i).d = 0
    · rw [if_pos h0, if_pos h0]
      by_cases hlt : j < i
      · rw [giveL_at (j := j) (by rw [del_len hi]; omega) (by rw [el_del hi, if_pos hlt]; exact j1) (fun k hk => by rw [el_del hi, if_pos (by omega)]; exact j2 k hk)]
        rw [el_del hi, if_pos hlt, if_neg (by have := hpos j; omega), del_set_lt hi hlt, (hr _).1, (hr _).2]
      · rw [giveL_at (j := j - 1) (by rw [del_len hi]; omega) (by rw [el_del hi, if_neg (by omega), Nat.sub_add_cancel (by omega)]; exact j1) (fun k hk => by
          rw [el_del hi]; split
          · exact j2 k (by omega)
          · exact j2 _ (by omega))]
        rw [el_del hi, if_neg (show ¬ j - 1 < i by omega), Nat.sub_add_cancel (show 1 ≤ j by omega), if_neg (by have := hpos j; omega), del_set_gt (by omega) hj, (hr _).1, (hr _).2]
    · rw [if_neg h0, if_neg h0]
      rw [giveL_at (j := j) (by rw [List.length_set]; exact hj) (by rw [el_put hi, if_neg hij]; exact j1) (fun k hk => by
        rw [el_put hi]; split
        · exact hft
        · exact j2 k hk)]
      rw [el_put hi, if_neg hij, if_neg (by have := hpos j; omega), (hr _).1, (hr _).2, el_put hj, if_neg (by omega), h1, List.set_comm _ _ (by omega)]
/-- Selling more than there is: the reference's list bears a negative share. -/
theorem sell_neg {xs : List Ow} {f t : ByteArray} {num den : Int} {i : Nat} (hi : i < xs.length) (h1 : (el xs i).s = f) (h2 : ∀ j, j < i → (el xs j).s ≠ f) (hft : f ≠ t)
    (hp : ∀ j, 0 < (el xs j).n ∧ 0 < (el xs j).d) (hn : 0 < num) (hd : 0 < den) (hl : sellN (el xs i) num den < 0) :
    i < (giveL (giveL xs f (-(rN num den)) (rD num den)) t (rN num den) (rD num den)).length ∧ (el (giveL (giveL xs f (-(rN num den)) (rD num den)) t (rN num den) (rD num den)) i).n < 0 := by
  obtain ⟨g, hg, e1, e2, hb⟩ := r_eq (n := num) hd
  rw [giveL_at hi h1 h2]
  generalize hA : rN num den = a at *
  generalize hB : rD num den = b at *
  have ha : 0 < a := by
    rcases Int.lt_or_le 0 a with h | h
    · exact h
    · have := Int.mul_nonneg (show 0 ≤ g by omega) (show 0 ≤ -a by omega)
      rw [Int.mul_neg] at this; omega
  have hN : sellN (el xs i) num den = g * ((el xs i).n * b + -a * (el xs i).d) := by
    unfold sellN; rw [e1, e2]; grind
  have hlt : (el xs i).n * b + -a * (el xs i).d < 0 := by
    rcases Int.lt_or_le ((el xs i).n * b + -a * (el xs i).d) 0 with h | h
    · exact h
    · have := Int.mul_nonneg (show 0 ≤ g by omega) h; omega
  have hneg : rN ((el xs i).n * b + -a * (el xs i).d) ((el xs i).d * b) < 0 := by
    obtain ⟨q, hq, e3, _⟩ := r_eq (n := (el xs i).n * b + -a * (el xs i).d) (m := (el xs i).d * b) (Int.mul_pos (hp i).2 hb)
    rcases Int.lt_or_le (rN ((el xs i).n * b + -a * (el xs i).d) ((el xs i).d * b)) 0 with h | h
    · exact h
    · have := Int.mul_nonneg (show 0 ≤ q by omega) h; omega
  have hpos : ∀ j, 0 < (el xs j).n * b + a * (el xs j).d := fun j => by
    have := Int.mul_pos (hp j).1 hb
    have := Int.mul_pos ha (hp j).2
    omega
  rw [if_neg (by omega)]
  generalize rN ((el xs i).n * b + -a * (el xs i).d) ((el xs i).d * b) = u at *
  generalize rD ((el xs i).n * b + -a * (el xs i).d) ((el xs i).d * b) = v at *
  rcases owAtN_or xs t xs.length with ⟨_, hno⟩ | ⟨j, hj, _, j1, j2⟩
  · rw [giveL_no (fun k hk => by
      rw [List.length_set] at hk
      rw [el_put hi]; split
      · exact hft
      · exact hno _ (by omega))]
    refine ⟨by simp; omega, ?_⟩
    rw [el_snoc, List.length_set, if_neg (by omega), el_put hi, if_pos rfl]
    exact hneg
  · have hij : j ≠ i := fun e => hft (by rw [← h1, ← e, j1])
    rw [giveL_at (j := j) (by rw [List.length_set]; exact hj) (by rw [el_put hi, if_neg hij]; exact j1) (fun k hk => by
        rw [el_put hi]; split
        · exact hft
        · exact j2 k hk)]
    rw [el_put hi, if_neg hij, if_neg (by have := hpos j; omega)]
    refine ⟨by simpa using hi, ?_⟩
    rw [el_put (by simpa using hj), if_neg (by omega), el_put hi, if_pos rfl]
    exact hneg
/-- What both give, when all shares are positive. -/
theorem give_gets {xs : List Ow} {t : ByteArray} {num den : Int} (hp : ∀ j, 0 < (el xs j).n ∧ 0 < (el xs j).d) (hn : 0 < num) (hd : 0 < den) :
    giveL xs t (rN num den) (rD num den) = getsL xs t num den := by
  obtain ⟨g, hg, e1, e2, hb⟩ := r_eq (n := num) hd
  rcases owAtN_or xs t xs.length with ⟨_, hno⟩ | ⟨j, hj, _, j1, j2⟩
  · rw [getsL_no hno, giveL_no hno]
  · rw [getsL_at hj j1 j2, giveL_at hj j1 j2]
    generalize hA : rN num den = a at *
    generalize hB : rD num den = b at *
    have ha : 0 < a := by
      rcases Int.lt_or_le 0 a with h | h
      · exact h
      · have := Int.mul_nonneg (show 0 ≤ g by omega) (show 0 ≤ -a by omega)
        rw [Int.mul_neg] at this; omega
    have h1 := Int.mul_pos (hp j).1 hb
    have h2 := Int.mul_pos ha (hp j).2
    rw [if_neg (by omega), e1, e2, (sum_scale hg).1, (sum_scale hg).2]
end Go.Proofs.YtimdnihadhbjpaaDoor
