/- Divided crops: the sums (chapter 22); plain. -/
import Derived.Test.YtimdnihadhbjpaaDoorLawDivideCrop
import Derived.Test.YtimdnihadhbjpaaDoorLawExactParts
import Derived.Test.YtimdnihadhbjpaaDoorLawShareOf
import Derived.Test.YtimdnihadhbjpaaDoorLawLeftTons
set_option linter.unusedSimpArgs false
set_option linter.unusedVariables false
namespace Go.Proofs.YtimdnihadhbjpaaDoor
open Go.RowKit Go.Sort Go.Salt
def sumI (zs : List Int) : Nat → Int
  | 0 => 0
  | k + 1 => sumI zs k + el zs k
theorem dcL_el {xs : List Ow} {crop : Int} {k : Nat} (h : k < xs.length) : el (dcL xs crop) k = flN xs crop k + b2i (gN xs crop (lfN xs crop xs.length).toNat k) := by
  rw [el_get (by rw [dcL_len]; exact h)]
  simp [dcL, dcF]
theorem b2i_or (b : Bool) : b2i b = 0 ∨ b2i b = 1 := by cases b <;> simp [b2i]
theorem dcL_sum {xs : List Ow} {crop : Int} : ∀ {k : Nat}, k ≤ xs.length → sumI (dcL xs crop) k = crop - lfN xs crop k + (cntG (gN xs crop (lfN xs crop xs.length).toNat) k : Nat)
  | 0, _ => by simp [sumI, lfN, ltD, cntG]
  | k + 1, h => by
    have ih := dcL_sum (xs := xs) (crop := crop) (k := k) (by omega)
    rw [sumI, ih, dcL_el (by omega)]
    have e1 : lfN xs crop (k + 1) = lfN xs crop k - flN xs crop k := rfl
    rw [e1, cntG]
    cases gN xs crop (lfN xs crop xs.length).toNat k <;> simp [b2i] <;> omega
theorem cnt_all {xs : List Ow} (h : arB xs = true) (crop : Int) : (cntG (gN xs crop (lfN xs crop xs.length).toNat) xs.length : Int) = lfN xs crop xs.length := by
  have h1 := lf_left h crop
  have hb := arOK_bd h
  have := gRd_cnt (rs := rsN xs crop) (de := deO xs) (fun i => (hb i).2.1) (rs_pos hb crop) (n := xs.length) (t := (lfN xs crop xs.length).toNat) (by omega)
  unfold gN
  rw [this]; omega
theorem dcL_all {xs : List Ow} (h : arB xs = true) (crop : Int) : sumI (dcL xs crop) xs.length = crop := by
  rw [dcL_sum (Nat.le_refl _), cnt_all h]; omega
theorem fl_bd {xs : List Ow} (h : OwBd xs) {crop : Int} (hc : 0 ≤ crop ∧ crop ≤ 1000000) (k : Nat) : 0 ≤ flN xs crop k ∧ flN xs crop k ≤ 1000000000 := by
  have hk := h k
  have h1 : crop * (el xs k).n ≤ 1000000 * 1000 := Int.mul_le_mul hc.2 hk.1.2 (by omega) (by omega)
  have h0 : 0 ≤ crop * (el xs k).n := Int.mul_nonneg hc.1 (by omega)
  show 0 ≤ crop * (el xs k).n / (el xs k).d ∧ crop * (el xs k).n / (el xs k).d ≤ 1000000000
  refine ⟨Int.ediv_nonneg h0 (by omega), ?_⟩
  have := Int.ediv_le_self (b := (el xs k).d) (a := crop * (el xs k).n) h0
  omega
/-- Each owner's own share is found by the name. -/
theorem sh_own {xs : List Ow} (h : arB xs = true) {k : Nat} (hk : k < xs.length) : shB xs (el xs k).s = true ∧ shN xs (el xs k).s = (el xs k).n ∧ shD xs (el xs k).s = (el xs k).d := by
  have hg : gdB xs xs.length = true := by
    unfold arB at h; simp only [Bool.and_eq_true] at h; exact h.2.1
  have h1 : owAtN xs (el xs k).s xs.length = k := owAtN_first rfl (fun i hi => (owAtN_neg (gdB_el hg k hk).2).2 i hi) hk
  have hB : shB xs (el xs k).s = true := by unfold shB; rw [h, h1, decide_eq_true (show (0 : Int) ≤ (k : Nat) by omega)]; rfl
  refine ⟨hB, ?_, ?_⟩
  · unfold shN; rw [if_pos hB, h1]; rfl
  · unfold shD; rw [if_pos hB, h1]; rfl
theorem ep_dvd {xs : List Ow} (h : OwBd xs) {i : Nat} : ∀ {k : Nat}, i < k → (el xs i).d.toNat ∣ epN xs k
  | 0, hi => by omega
  | k + 1, hi => by
    have hd := (h k).2.1
    rw [epN]
    by_cases e : i = k
    · subst e
      have hg := Nat.gcd_dvd_left (epN xs i) (el xs i).d.toNat
      have hg2 := Nat.gcd_dvd_right (epN xs i) (el xs i).d.toNat
      obtain ⟨G, hG⟩ : ∃ G, Nat.gcd (epN xs i) (el xs i).d.toNat = G := ⟨_, rfl⟩
      rw [hG] at hg hg2 ⊢
      obtain ⟨q, hq⟩ := hg
      exact ⟨q, by rw [hq, Nat.mul_right_comm, Nat.mul_div_cancel' hg2]⟩
    · exact Nat.dvd_trans (ep_dvd h (by omega)) (Nat.dvd_mul_right _ _)
theorem sP_zero {r de : Nat → Int} : ∀ {k : Nat}, (∀ i, i < k → r i = 0) → sP allT r de k = 0
  | 0, _ => rfl
  | k + 1, h => by rw [sP, sP_zero fun i hi => h i (by omega), h k (by omega)]; simp
theorem ep_left {xs : List Ow} (h : epB xs = true) : ltnB xs (epV xs) = true ∧ ltnV xs (epV xs) = 0 := by
  have hv : epV xs = (epN xs xs.length : Int) := by unfold epV; rw [if_pos h]
  unfold epB at h
  rw [Bool.and_eq_true, decide_eq_true_iff] at h
  have hb := arOK_bd h.1
  have hB : ltnB xs (epV xs) = true := by unfold ltnB; rw [h.1, inB_iff.2 (by rw [hv]; omega)]; rfl
  refine ⟨hB, ?_⟩
  unfold ltnV
  rw [if_pos hB]
  have hs := ltD_sum (nu := nuO xs) (de := deO xs) (c := epV xs) xs.length
  have hone : sP allT (nuO xs) (deO xs) xs.length = dP (deO xs) xs.length := arOK_sum h.1
  have hz : sP allT (rsD (nuO xs) (deO xs) (epV xs)) (deO xs) xs.length = 0 := sP_zero fun i hi => by
    have hd := ep_dvd hb hi
    have hdi := (hb i).2.1
    show epV xs * (el xs i).n % (el xs i).d = 0
    rw [hv]
    refine Int.emod_eq_zero_of_dvd (Int.dvd_trans ?_ (Int.dvd_mul_right _ _))
    obtain ⟨q, hq⟩ := hd
    exact ⟨(q : Int), by rw [hq, Int.natCast_mul, Int.toNat_of_nonneg (by omega)]⟩
  rw [hone, hz, Int.add_zero] at hs
  have hD := dP_pos1 (fun i => (hb i).2.1) xs.length (de := deO xs)
  have := Int.eq_of_mul_eq_mul_right (show dP (deO xs) xs.length ≠ 0 by omega) hs
  show ltD (nuO xs) (deO xs) (epV xs) xs.length = 0
  omega
end Go.Proofs.YtimdnihadhbjpaaDoor
