/- The text of a number: spec.l1Num. No conditions. -/
import Derived.Test.YtocaodoagiokjaaDoorLeaf
import Derived.Lib.ItoaNum
import Derived.Lib.Hide
set_option linter.unusedSimpArgs false
set_option linter.unusedVariables false
namespace Go.Proofs.YtocaodoagiokjaaDoor
open Go.RowKit Go.Sort Go.Salt
attribute [local go_sem] cell_rg
/-- The text of a number that is not negative. -/
def numS (z : Int) : ByteArray := ⟨(Lib.decDigits z.toNat).toArray⟩
theorem digit_at : ∀ n, n < 10 → (⟨#[48, 49, 50, 51, 52, 53, 54, 55, 56, 57]⟩ : ByteArray).extract n (n + 1) = ⟨#[UInt8.ofNat (48 + n)]⟩ := by decide
theorem num_small {z : Int} (h0 : 0 ≤ z) (h1 : z < 10) : (⟨#[48, 49, 50, 51, 52, 53, 54, 55, 56, 57]⟩ : ByteArray).extract z.toNat (z + 1).toNat = numS z := by
  rw [show (z + 1).toNat = z.toNat + 1 by omega, digit_at z.toNat (by omega), numS, Lib.decDigits_one (by omega)]
theorem num_more {z : Int} (h0 : 0 ≤ z) (h1 : ¬ z < 10) : numS (z / 10) ++ (⟨#[48, 49, 50, 51, 52, 53, 54, 55, 56, 57]⟩ : ByteArray).extract (z % 10).toNat (z % 10 + 1).toNat = numS z := by
  rw [num_small (by omega) (by omega)]
  unfold numS
  rw [Lib.decDigits_one (i := (z % 10).toNat) (by omega)]
  conv => rhs; rw [Lib.decDigits]
  rw [dif_neg (by omega)]
  have e1 : (z / 10).toNat = z.toNat / 10 := by omega
  have e2 : (z % 10).toNat = z.toNat % 10 := by omega
  rw [e1, e2]
  apply ByteArray.ext
  simp
theorem digits_le : ∀ (k u : Nat), u < 10 ^ (k + 1) → (Lib.decDigits u).length ≤ k + 1
  | 0, u, h => by rw [Lib.decDigits_one (by omega)]; exact Nat.le_refl _
  | k + 1, u, h => by
    by_cases hu : u < 10
    · rw [Lib.decDigits_one hu]; simp
    · rw [Lib.decDigits, dif_neg hu, List.length_append]
      have := digits_le k (u / 10) (by rw [Nat.pow_succ] at h; omega)
      simp; omega
theorem numS_size {z : Int} (h2 : z ≤ 9223372036854775807) : (numS z).size ≤ 19 := by
  have h := digits_le 18 z.toNat (by omega)
  show (Lib.decDigits z.toNat).toArray.size ≤ 19
  simpa using h
theorem ret_str {a b : ByteArray} (h : a = b) : Ending.returned (.string a) = .returned (.string b) := by rw [h]
set_option maxHeartbeats 4000000 in
theorem l1Num_to : ∀ (m : Nat) (z : Int) (w : World), 0 ≤ z → z < m → z ≤ 9223372036854775807 → Calls Tryd.prog 52 #[.int .i64 z] w fun e w' => e = .returned (.string (numS z)) ∧ Below w.heap.size w w'
  | 0, z, w, h0, h1, _ => by omega
  | m + 1, z, w, h0, h1, h2 => by
    have hneg : ¬ z < 0 := by omega
    by_cases ht : z < 10
    · have H := Lib.hid (num_small h0 ht)
      go_enter Tryd.func52, Tryd.ntmps52
      go_wp2_with fail
      go_ret
      exact ⟨ret_str H.out, (by repeat' (first | (with_reducible exact Below.refl _ _) | (with_reducible refine Below.alloc ?_ ?_ _) | (with_reducible refine Below.setCell ?_ ?_ _) | (with_reducible refine Below.drew ?_) | (with_reducible refine Below.trans ?_ (Below.mono (by with_reducible assumption) ?_)) | omega | (simp; done) | (simp; omega)))⟩
    · have ih := fun W => l1Num_to m (z / 10) W (by omega) (by omega) (by omega)
      have IH := Lib.hid ih
      have H := Lib.hid (num_more h0 ht)
      have hsz := numS_size (z := z / 10) (by omega)
      clear ih
      go_enter Tryd.func52, Tryd.ntmps52
      go_wp2_with fail
      refine wp_region_quiet_below (by kernel_rfl) (by kernel_rfl) ?_
      repeat (go_big_quiet_step ((go_at_call 52; exact Calls.regrown_of (IH.out _))))
      (refine wpQuiet_nil ?_; intro w1 hwq; have hb1 := of_cls hwq; clear hwq)
      (have hs1 := hb1.size; (try simp at hs1); obtain ⟨hc1, hf1, hn1⟩ := bcell hb1; (try have hz1_w_0 : w.heap.size < w1.heap.size := by omega); (try have hz1_w_1 : w.heap.size + 1 < w1.heap.size := by omega); (try have hz1_w_2 : w.heap.size + 2 < w1.heap.size := by omega); (try have hz1_w_2b : w.heap.size + 1 + 1 < w1.heap.size := by omega))
      go_wp2_with fail
      go_ret
      exact ⟨ret_str H.out, (by repeat' (first | (with_reducible exact Below.refl _ _) | (with_reducible refine Below.alloc ?_ ?_ _) | (with_reducible refine Below.setCell ?_ ?_ _) | (with_reducible refine Below.drew ?_) | (with_reducible refine Below.trans ?_ (Below.mono (by with_reducible assumption) ?_)) | omega | (simp; done) | (simp; omega)))⟩
theorem l1Num_any (z : Int) (w : World) (h0 : 0 ≤ z) (h2 : z ≤ 9223372036854775807) : Calls Tryd.prog 52 #[.int .i64 z] w fun e w' => e = .returned (.string (numS z)) ∧ Below w.heap.size w w' := l1Num_to (z.toNat + 1) z w h0 (by omega) h2
end Go.Proofs.YtocaodoagiokjaaDoor
