/- Brines: the plain law: reading a brine's text back, parts and shares that mix to the whole (chapter 2). No program. -/
import Derived.Test.YtocaodoagiokjaaDoorMix
import Derived.Test.YtocaodoagiokjaaDoorBrText
import Derived.Lib.IndexMore
import Derived.Lib.CutLaws
import Derived.Lib.Strings
set_option linter.unusedSimpArgs false
set_option linter.unusedVariables false
namespace Go.Proofs.YtocaodoagiokjaaDoor
open Go.RowKit Go.Sort Go.Salt
/-- The digits of a number. -/
def dgL (z : Int) : List UInt8 := Lib.decDigits z.toNat
def dgB (b : UInt8) : Bool := decide (48 ≤ b.toNat) && decide (b.toNat ≤ 57)
theorem dgB_of {n : Nat} (h : n < 10) : dgB (UInt8.ofNat (48 + n)) = true ∧ (UInt8.ofNat (48 + n)).toNat = 48 + n := by
  have e : (UInt8.ofNat (48 + n)).toNat = 48 + n := by rw [UInt8.toNat_ofNat']; omega
  exact ⟨by unfold dgB; rw [e, decide_eq_true (by omega), decide_eq_true (by omega)]; rfl, e⟩
theorem dec_all : ∀ (m u : Nat), u < m → ∀ b ∈ Lib.decDigits u, dgB b = true
  | 0, u, h, _, _ => absurd h (by omega)
  | m + 1, u, h, b, hb => by
    by_cases hu : u < 10
    · rw [Lib.decDigits_one hu, List.mem_singleton] at hb
      subst hb; exact (dgB_of hu).1
    · rw [Lib.decDigits, dif_neg hu, List.mem_append, List.mem_singleton] at hb
      rcases hb with hb | rfl
      · exact dec_all m (u / 10) (by omega) b hb
      · exact (dgB_of (by omega)).1
theorem dgL_all (z : Int) : ∀ b ∈ dgL z, dgB b = true := dec_all (z.toNat + 1) z.toNat (by omega)
/-- The number of a list of digits. -/
def vL (l : List UInt8) : Int := l.foldl (fun n b => n * 10 + ((b.toNat : Int) - 48)) 0
theorem vL_snoc (l : List UInt8) (b : UInt8) : vL (l ++ [b]) = vL l * 10 + ((b.toNat : Int) - 48) := by simp [vL, List.foldl_append]
theorem vL_dec : ∀ (m u : Nat), u < m → vL (Lib.decDigits u) = u
  | 0, u, h => absurd h (by omega)
  | m + 1, u, h => by
    by_cases hu : u < 10
    · rw [Lib.decDigits_one hu]
      simp only [vL, List.foldl_cons, List.foldl_nil, (dgB_of hu).2]; omega
    · rw [Lib.decDigits, dif_neg hu, vL_snoc, vL_dec m (u / 10) (by omega), (dgB_of (n := u % 10) (by omega)).2]; omega
theorem vL_dgL {z : Int} (h : 0 ≤ z) : vL (dgL z) = z := by
  have := vL_dec (z.toNat + 1) z.toNat (by omega)
  unfold dgL; rw [this]; omega
theorem vL_bd : ∀ (k : Nat) (l : List UInt8), l.length = k → (∀ b ∈ l, dgB b = true) → 0 ≤ vL l ∧ vL l < (10 ^ k : Nat)
  | 0, l, hl, _ => by obtain rfl := List.eq_nil_of_length_eq_zero hl; simp [vL]
  | k + 1, l, hl, h => by
    obtain ⟨l', b, rfl⟩ : ∃ l' b, l = l' ++ [b] := ⟨l.dropLast, l.getLast (by intro e; rw [e] at hl; simp at hl), (List.dropLast_concat_getLast _).symm⟩
    have hl' : l'.length = k := by simpa using hl
    obtain ⟨h1, h2⟩ := vL_bd k l' hl' fun x hx => h x (List.mem_append_left _ hx)
    have hb := h b (List.mem_append_right _ (List.mem_singleton.2 rfl))
    simp only [dgB, Bool.and_eq_true, decide_eq_true_eq] at hb
    rw [vL_snoc, Nat.pow_succ]
    omega
/-- The number of the first k bytes. -/
def vT (s : ByteArray) (k : Nat) : Int := vL (s.data.toList.take k)
theorem vT_zero (s : ByteArray) : vT s 0 = 0 := rfl
theorem bt_get {s : ByteArray} {k : Nat} (h : k < s.size) : s.data.toList[k]? = some s[k] := by
  rw [List.getElem?_eq_getElem (by simpa using h)]; rfl
theorem vT_succ {s : ByteArray} {k : Nat} (h : k < s.size) : vT s (k + 1) = vT s k * 10 + ((s[k].toNat : Int) - 48) := by
  unfold vT
  rw [List.take_add_one, bt_get h]
  exact vL_snoc _ _
theorem vT_bd {s : ByteArray} {k : Nat} (hk : k ≤ s.size) (h7 : k ≤ 7) (h : ∀ j, (hj : j < s.size) → j < k → dgB s[j] = true) : 0 ≤ vT s k ∧ vT s k < 10000000 := by
  have h1 := vL_bd k (s.data.toList.take k) (by simp; omega) fun b hb => by
    obtain ⟨j, hj, e⟩ := List.mem_iff_getElem.1 hb
    have hjk : j < k := by have := hj; simp at this; omega
    have hjs : j < s.size := by omega
    have := h j hjs hjk
    rw [List.getElem_take] at e
    rw [← e]; exact this
  have h2 : 10 ^ k ≤ 10 ^ 7 := Nat.pow_le_pow_right (by omega) h7
  have h3 : (10 : Nat) ^ 7 = 10000000 := by decide
  unfold vT
  omega
/-- What a text of at most seven digits reads as; -1 for others. -/
def rdI (s : ByteArray) : Int := if 1 ≤ s.size ∧ s.size ≤ 7 ∧ s.data.toList.all dgB = true then vL s.data.toList else -1
theorem rdI_bad {s : ByteArray} {k : Nat} (h : k < s.size) (hb : dgB s[k] = false) : rdI s = -1 := by
  unfold rdI
  rw [if_neg]
  rintro ⟨_, _, h3⟩
  have := List.all_eq_true.1 h3 _ (List.mem_of_getElem? (bt_get h))
  rw [hb] at this; cases this
theorem rdI_long {s : ByteArray} (h : 7 < s.size) : rdI s = -1 := by unfold rdI; rw [if_neg (by omega)]
theorem rdI_empty {s : ByteArray} (h : s.size = 0) : rdI s = -1 := by unfold rdI; rw [if_neg (by omega)]
theorem rdI_good {s : ByteArray} (h1 : 1 ≤ s.size) (h7 : s.size ≤ 7) (h : ∀ j, (hj : j < s.size) → j < s.size → dgB s[j] = true) : rdI s = vT s s.size := by
  unfold rdI vT
  rw [if_pos]
  · rw [List.take_of_length_le (by simp)]
  · refine ⟨h1, h7, List.all_eq_true.2 fun b hb => ?_⟩
    obtain ⟨j, hj, e⟩ := List.mem_iff_getElem.1 hb
    have hjs : j < s.size := by simpa using hj
    rw [← e]; exact h j hjs hjs
theorem rdI_bd (s : ByteArray) : -1 ≤ rdI s ∧ rdI s ≤ 9999999 := by
  unfold rdI
  split
  · rename_i h
    obtain ⟨h1, h7, h2⟩ := h
    have := vL_bd s.size s.data.toList (by simp) (List.all_eq_true.1 h2)
    have h2 : 10 ^ s.size ≤ 10 ^ 7 := Nat.pow_le_pow_right (by omega) h7
    have h3 : (10 : Nat) ^ 7 = 10000000 := by decide
    omega
  · omega
theorem numS_list (z : Int) : (numS z).data.toList = dgL z := rfl
theorem numS_len {z : Int} (_h0 : 0 ≤ z) (h1 : z ≤ 1000000) : 1 ≤ (numS z).size ∧ (numS z).size ≤ 7 := by
  have h := digits_le 6 z.toNat (by omega)
  have h2 : 1 ≤ (Lib.decDigits z.toNat).length := by rw [Lib.decDigits_length]; exact Lib.nDigits_pos _
  show 1 ≤ (Lib.decDigits z.toNat).toArray.size ∧ (Lib.decDigits z.toNat).toArray.size ≤ 7
  simpa using ⟨h2, h⟩
theorem rdI_num {z : Int} (h0 : 0 ≤ z) (h1 : z ≤ 1000000) : rdI (numS z) = z := by
  obtain ⟨h2, h3⟩ := numS_len h0 h1
  unfold rdI
  rw [if_pos ⟨h2, h3, List.all_eq_true.2 (dgL_all z)⟩, numS_list, vL_dgL h0]
/-! ### cut -/
theorem index_at : ∀ (l r : List UInt8), (∀ b ∈ l, b ≠ 32) → Lib.index (l ++ 32 :: 115 :: r) [32, 115] = l.length
  | [], r, _ => by simp [Lib.index, List.isPrefixOf]
  | b :: l, r, h => by
    have hb : b ≠ 32 := h b (List.mem_cons_self ..)
    have ih := index_at l r fun x hx => h x (List.mem_cons_of_mem _ hx)
    rw [List.cons_append, Lib.index, ih]
    have : ([32, 115] : List UInt8).isPrefixOf (b :: (l ++ 32 :: 115 :: r)) = false := by
      simp only [List.isPrefixOf]
      rw [show ((32 : UInt8) == b) = false by simpa using fun e => hb e.symm]; rfl
    rw [this]
    simp only [Bool.false_eq_true, if_false]
    rw [if_neg (by simp)]
    simp
theorem brS_list (a s : Int) : (brS a s).data.toList = (119 :: dgL a) ++ 32 :: 115 :: dgL s := by
  unfold brS
  simp [ByteArray.data_append, numS_list]
theorem no32 {b : UInt8} (h : dgB b = true) : b ≠ 32 := by
  rintro rfl
  exact absurd h (by decide)
theorem head_no32 (a : Int) : ∀ b ∈ (119 : UInt8) :: dgL a, b ≠ 32 := by
  intro b hb
  rcases List.mem_cons.1 hb with rfl | hb
  · decide
  · exact no32 (dgL_all a b hb)
theorem cut_brS (a s : Int) : Lib.cut (brS a s).data.toList [32, 115] = (119 :: dgL a, dgL s, true) := by
  have h := index_at (119 :: dgL a) (dgL s) (head_no32 a)
  rw [brS_list]
  unfold Lib.cut
  rw [h, if_pos (by omega)]
  have e : (((119 :: dgL a).length : Nat) : Int).toNat = (119 :: dgL a).length := by omega
  rw [e, List.take_left, ← List.drop_drop, List.drop_left]
  rfl
theorem pre_brS (a : Int) : Lib.trimPrefix (119 :: dgL a) [119] = dgL a := by
  simp [Lib.trimPrefix, Lib.hasPrefix]
/-! ### split -/
/-- Where the part that holds byte k begins; the parts that end ahead of byte k. -/
def spF (s : ByteArray) : Nat → Nat
  | 0 => 0
  | k + 1 => if s.data.toList[k]? = some 32 then k + 1 else spF s k
def spO (s : ByteArray) : Nat → List ByteArray
  | 0 => []
  | k + 1 => if s.data.toList[k]? = some 32 then spO s k ++ [s.extract (spF s k) k] else spO s k
def spL (s : ByteArray) : List ByteArray := spO s s.size ++ [s.extract (spF s s.size) s.size]
theorem spF_le (s : ByteArray) : ∀ k, spF s k ≤ k
  | 0 => Nat.le_refl _
  | k + 1 => by
    have := spF_le s k
    unfold spF; split <;> omega
theorem spO_len (s : ByteArray) : ∀ k, (spO s k).length ≤ k
  | 0 => Nat.le_refl _
  | k + 1 => by
    have := spO_len s k
    unfold spO; split <;> simp <;> omega
theorem spF_yes {s : ByteArray} {k : Nat} (h : k < s.size) (hb : s[k] = 32) : spF s (k + 1) = k + 1 ∧ spO s (k + 1) = spO s k ++ [s.extract (spF s k) k] := by
  have e : s.data.toList[k]? = some 32 := by rw [bt_get h, hb]
  simp only [spF, spO, if_pos e, and_self]
theorem spF_no {s : ByteArray} {k : Nat} (h : k < s.size) (hb : s[k] ≠ 32) : spF s (k + 1) = spF s k ∧ spO s (k + 1) = spO s k := by
  have e : ¬ s.data.toList[k]? = some 32 := by rw [bt_get h]; simpa using hb
  simp only [spF, spO, if_neg e, and_self]
theorem ext_sz (s : ByteArray) (i j : Nat) : (s.extract i j).size ≤ s.size := by rw [ByteArray.size_extract]; omega
theorem spO_sz (s : ByteArray) : ∀ k, ∀ x ∈ spO s k, x.size ≤ s.size
  | 0, x, h => by simp [spO] at h
  | k + 1, x, h => by
    unfold spO at h
    split at h
    · rcases List.mem_append.1 h with h | h
      · exact spO_sz s k x h
      · rw [List.mem_singleton.1 h]; exact ext_sz _ _ _
    · exact spO_sz s k x h
theorem spL_sz (s : ByteArray) : ∀ x ∈ spL s, x.size ≤ s.size := fun x h => by
  rcases List.mem_append.1 h with h | h
  · exact spO_sz s _ x h
  · rw [List.mem_singleton.1 h]; exact ext_sz _ _ _
theorem spL_len (s : ByteArray) : (spL s).length ≤ s.size + 1 := by
  have := spO_len s s.size
  unfold spL; simp; omega
theorem sp_run {s : ByteArray} {i : Nat} : ∀ j, (∀ k, i ≤ k → k < i + j → s.data.toList[k]? ≠ some 32) → spF s (i + j) = spF s i ∧ spO s (i + j) = spO s i
  | 0, _ => ⟨rfl, rfl⟩
  | j + 1, h => by
    obtain ⟨h1, h2⟩ := sp_run (s := s) (i := i) j fun k hk hk2 => h k hk (by omega)
    have e : ¬ s.data.toList[i + j]? = some 32 := h (i + j) (by omega) (by omega)
    rw [← Nat.add_assoc]
    constructor
    · rw [spF, if_neg e, h1]
    · rw [spO, if_neg e, h2]
theorem ext_ba {s : ByteArray} {i j : Nat} {l : List UInt8} (h : (s.data.toList.drop i).take (j - i) = l) : s.extract i j = ⟨l.toArray⟩ := by
  rw [Lib.extract_eq, h]
theorem spL_brS (a s : Int) : spL (brS a s) = [⟨(119 :: dgL a).toArray⟩, ⟨(115 :: dgL s).toArray⟩] := by
  obtain ⟨n, hn⟩ : ∃ n, (119 :: dgL a).length = n := ⟨_, rfl⟩
  obtain ⟨x, hx⟩ : ∃ x, brS a s = x := ⟨_, rfl⟩
  have hl := brS_list a s
  have hz : x.size = n + 2 + (dgL s).length := by
    rw [← hx]
    have : (brS a s).data.toList.length = n + 2 + (dgL s).length := by rw [hl, List.length_append, hn]; simp; omega
    simpa using this
  rw [hx] at hl ⊢
  obtain ⟨q, hq⟩ : ∃ q, (119 :: dgL a) = q := ⟨_, rfl⟩
  have h32 := head_no32 a
  rw [hq] at hl hn h32 ⊢
  have hlt : ∀ k, k < n → x.data.toList[k]? ≠ some 32 := fun k hk => by
    rw [hl, List.getElem?_append_left (by omega)]
    intro e
    exact h32 32 (List.mem_of_getElem? e) rfl
  have hat : x.data.toList[n]? = some 32 := by rw [hl, List.getElem?_append_right (by omega), hn, Nat.sub_self]; rfl
  have hgt : ∀ k, n + 1 ≤ k → k < n + 1 + (1 + (dgL s).length) → x.data.toList[k]? ≠ some 32 := fun k hk hk2 => by
    rw [hl, List.getElem?_append_right (by omega), hn]
    obtain ⟨j, hj⟩ : ∃ j, k - n = j + 1 := ⟨k - n - 1, by omega⟩
    rw [hj, List.getElem?_cons_succ]
    intro e
    rcases List.mem_cons.1 (List.mem_of_getElem? e) with e | e
    · exact absurd e (by decide)
    · exact no32 (dgL_all s _ e) rfl
  have r0 := sp_run (s := x) (i := 0) n fun k _ hk => hlt k (by omega)
  rw [Nat.zero_add] at r0
  have r1 : spF x (n + 1) = n + 1 ∧ spO x (n + 1) = [x.extract 0 n] := by
    constructor
    · rw [spF, if_pos hat]
    · rw [spO, if_pos hat, r0.1, r0.2]; rfl
  have r2 := sp_run (s := x) (i := n + 1) (1 + (dgL s).length) hgt
  rw [show n + 1 + (1 + (dgL s).length) = x.size by omega, r1.1, r1.2] at r2
  unfold spL
  rw [r2.1, r2.2]
  have e1 : x.extract 0 n = ⟨q.toArray⟩ := ext_ba (by rw [hl, List.drop_zero, Nat.sub_zero, ← hn, List.take_left])
  have e2 : x.extract (n + 1) x.size = ⟨(115 :: dgL s).toArray⟩ := ext_ba (by
    rw [hl, ← List.drop_drop, ← hn, List.drop_left, List.drop_succ_cons, List.drop_zero, hz, List.take_of_length_le (by simp; omega)])
  rw [e1, e2]; rfl
theorem tail_num (b : UInt8) (z : Int) {n : Nat} (hn : n = ((⟨(b :: dgL z).toArray⟩ : ByteArray)).size) : ((⟨(b :: dgL z).toArray⟩ : ByteArray)).extract 1 n = numS z := by
  subst hn
  rw [ext_ba (l := dgL z)]
  · rfl
  · show (List.drop 1 (b :: dgL z)).take _ = _
    rw [List.drop_succ_cons, List.drop_zero, List.take_of_length_le]
    show _ ≤ (b :: dgL z).toArray.size - 1
    simp
/-! ### parts -/
/-- The salt in a part of n kilograms. -/
def pS (W S n : Int) : Int := if n = 0 then 0 else S * n / (W + S)
theorem mul_bd {x y a b : Int} (h0 : 0 ≤ x) (h1 : x ≤ a) (h2 : 0 ≤ y) (h3 : y ≤ b) : 0 ≤ x * y ∧ x * y ≤ a * b :=
  ⟨Int.mul_nonneg h0 h2, Int.mul_le_mul h1 h3 h2 (by omega)⟩
theorem pS_bd {W S n : Int} (hW : 0 ≤ W) (hS : 0 ≤ S) (h0 : 0 ≤ n) (h1 : n ≤ W + S) : 0 ≤ pS W S n ∧ pS W S n ≤ S ∧ pS W S n ≤ n ∧ n - pS W S n ≤ W := by
  unfold pS
  split
  · omega
  · have hM : 0 < W + S := by omega
    have e1 : S * n ≤ S * (W + S) := Int.mul_le_mul_of_nonneg_left h1 hS
    have e2 : S * n ≤ n * (W + S) := by rw [Int.mul_comm]; exact Int.mul_le_mul_of_nonneg_left (by omega) h0
    have e3 : (n - W) * (W + S) ≤ S * n := by
      have : W * n ≤ W * (W + S) := Int.mul_le_mul_of_nonneg_left h1 hW
      have q : (n - W) * (W + S) = n * W + n * S - W * (W + S) := by rw [Int.sub_mul, Int.mul_add]
      have q2 : n * W = W * n := Int.mul_comm _ _
      have q3 : n * S = S * n := Int.mul_comm _ _
      omega
    have d0 : 0 ≤ S * n / (W + S) := Int.ediv_nonneg (Int.mul_nonneg hS h0) (by omega)
    have d1 : S * n / (W + S) ≤ S := Int.ediv_le_of_le_mul hM e1
    have d2 : S * n / (W + S) ≤ n := Int.ediv_le_of_le_mul hM e2
    have d3 : n - W ≤ S * n / (W + S) := (Int.le_ediv_iff_mul_le hM).2 e3
    omega
/-! ### shares -/
/-- The share of part k. -/
def shI (n p k : Int) : Int := if k < n % p then n / p + 1 else n / p
/-- The brines of a split. -/
def shL (W S : Int) (p : Nat) : List Brn := (List.range p).map fun (k : Nat) => ⟨shI W p k, shI S p k⟩
theorem shL_len (W S : Int) (p : Nat) : (shL W S p).length = p := by simp [shL]
theorem shL_el {W S : Int} {p k : Nat} (h : k < p) : el (shL W S p) k = ⟨shI W p k, shI S p k⟩ := by
  rw [el_get (by rw [shL_len]; exact h)]; simp [shL]
theorem shI_bd {n : Int} {p : Nat} (k : Nat) (h0 : 0 ≤ n) (hp : 0 < p) : 0 ≤ shI n p k ∧ shI n p k ≤ n := by
  have hp' : (0 : Int) < p := by omega
  have e := Int.mul_ediv_add_emod n p
  have r0 := Int.emod_nonneg n (show (p : Int) ≠ 0 by omega)
  have q0 : 0 ≤ n / (p : Int) := Int.ediv_nonneg h0 (by omega)
  have q1 : n / (p : Int) ≤ p * (n / (p : Int)) := by
    have := Int.mul_le_mul_of_nonneg_right (show (1 : Int) ≤ p by omega) q0
    omega
  unfold shI
  split <;> omega
theorem sh_sumA {W S : Int} {p : Nat} (hp : 0 < p) : ∀ k, k ≤ p → smA (shL W S p) k = k * (W / p) + (if (k : Int) ≤ W % p then (k : Int) else W % p)
  | 0, _ => by
    have r0 := Int.emod_nonneg W (show (p : Int) ≠ 0 by omega)
    rw [if_pos (by omega)]; simp [smA]
  | k + 1, h => by
    have ih := sh_sumA (W := W) (S := S) hp k (by omega)
    rw [smA, ih, shL_el (by omega)]
    have e : ((k + 1 : Nat) : Int) * (W / p) = k * (W / p) + W / p := by rw [Int.natCast_add, Int.add_mul]; simp
    rw [e]
    unfold shI
    simp only
    repeat' split
    all_goals omega
theorem sh_sumS {W S : Int} {p : Nat} (hp : 0 < p) : ∀ k, k ≤ p → smS (shL W S p) k = k * (S / p) + (if (k : Int) ≤ S % p then (k : Int) else S % p)
  | 0, _ => by
    have r0 := Int.emod_nonneg S (show (p : Int) ≠ 0 by omega)
    rw [if_pos (by omega)]; simp [smS]
  | k + 1, h => by
    have ih := sh_sumS (W := W) (S := S) hp k (by omega)
    rw [smS, ih, shL_el (by omega)]
    have e : ((k + 1 : Nat) : Int) * (S / p) = k * (S / p) + S / p := by rw [Int.natCast_add, Int.add_mul]; simp
    rw [e]
    unfold shI
    simp only
    repeat' split
    all_goals omega
theorem sh_all {n : Int} {p : Nat} (hp : 0 < p) : (p : Int) * (n / p) + (if (p : Int) ≤ n % p then (p : Int) else n % p) = n := by
  have e := Int.mul_ediv_add_emod n p
  have r1 := Int.emod_lt_of_pos n (show (0 : Int) < p by omega)
  rw [if_neg (by omega)]; omega
/-- What was split mixes to the whole. -/
theorem mix_split {W S : Int} {p : Nat} (hW0 : 0 ≤ W) (hW : W ≤ 1000000) (hS0 : 0 ≤ S) (hS : S ≤ 1000000) (hp : 0 < p) (hp2 : p ≤ 20) : mixB (shL W S p) = true ∧ mixA (shL W S p) = W ∧ mixS (shL W S p) = S := by
  have hl := shL_len W S p
  have hA : smA (shL W S p) p = W := by rw [sh_sumA hp p (Nat.le_refl _), sh_all hp]
  have hS' : smS (shL W S p) p = S := by rw [sh_sumS hp p (Nat.le_refl _), sh_all hp]
  have hB : mixB (shL W S p) = true := by
    rw [mixB_end (by omega) (fun i hi => by
      rw [hl] at hi
      have h1 := shI_bd (n := W) i hW0 hp
      have h2 := shI_bd (n := S) i hS0 hp
      have h3 : inB (shI W p i) 0 1000000 = true := inB_iff.2 ⟨h1.1, by omega⟩
      have h4 : inB (shI S p i) 0 1000000 = true := inB_iff.2 ⟨h2.1, by omega⟩
      unfold brnAt
      rw [shL_el hi]
      show (inB (shI W p i) 0 1000000 && inB (shI S p i) 0 1000000) = true
      rw [h3, h4]; rfl), hl, hA, hS', inB_iff.2 (by omega), inB_iff.2 (by omega)]; rfl
  exact ⟨hB, by rw [mixA, if_pos hB, hl, hA], by rw [mixS, if_pos hB, hl, hS']⟩
/-- A part and what is left mix to the whole. -/
theorem mix_parts {W S n : Int} (hW0 : 0 ≤ W) (hW : W ≤ 1000000) (hS0 : 0 ≤ S) (hS : S ≤ 1000000) (h0 : 0 ≤ n) (h1 : n ≤ W + S) :
    mixB [⟨n - pS W S n, pS W S n⟩, ⟨W - (n - pS W S n), S - pS W S n⟩] = true ∧ mixA [⟨n - pS W S n, pS W S n⟩, ⟨W - (n - pS W S n), S - pS W S n⟩] = W ∧ mixS [⟨n - pS W S n, pS W S n⟩, ⟨W - (n - pS W S n), S - pS W S n⟩] = S := by
  obtain ⟨b0, b1, b2, b3⟩ := pS_bd hW0 hS0 h0 h1
  generalize pS W S n = q at *
  have hA : smA [⟨n - q, q⟩, ⟨W - (n - q), S - q⟩] 2 = W := by show 0 + (n - q) + (W - (n - q)) = W; omega
  have hS' : smS [⟨n - q, q⟩, ⟨W - (n - q), S - q⟩] 2 = S := by show 0 + q + (S - q) = S; omega
  have hB : mixB [⟨n - q, q⟩, ⟨W - (n - q), S - q⟩] = true := by
    rw [mixB_end (by simp) (fun i hi => by
      have hi2 : i < 2 := by simpa using hi
      match i, hi2 with
      | 0, _ => show (inB (n - q) 0 1000000 && inB q 0 1000000) = true; rw [inB_iff.2 (by omega), inB_iff.2 (by omega)]; rfl
      | 1, _ => show (inB (W - (n - q)) 0 1000000 && inB (S - q) 0 1000000) = true; rw [inB_iff.2 (by omega), inB_iff.2 (by omega)]; rfl)]
    show (inB (smA [⟨n - q, q⟩, ⟨W - (n - q), S - q⟩] 2) 0 1000000 && inB (smS [⟨n - q, q⟩, ⟨W - (n - q), S - q⟩] 2) 0 1000000) = true
    rw [hA, hS', inB_iff.2 (by omega), inB_iff.2 (by omega)]; rfl
  exact ⟨hB, by rw [mixA, if_pos hB]; exact hA, by rw [mixS, if_pos hB]; exact hS'⟩
end Go.Proofs.YtocaodoagiokjaaDoor
