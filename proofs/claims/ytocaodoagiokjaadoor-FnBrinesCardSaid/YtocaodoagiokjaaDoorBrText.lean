/- The text of a brine (chapter 2). -/
import Derived.Test.YtocaodoagiokjaaDoorNumTab
set_option linter.unusedSimpArgs false
set_option linter.unusedVariables false
namespace Go.Proofs.YtocaodoagiokjaaDoor
open Go.RowKit Go.Sort Go.Salt
attribute [local go_sem] cell_rg
def brS (a s : Int) : ByteArray := ((⟨#[119]⟩ : ByteArray) ++ numS a ++ ⟨#[32, 115]⟩ ++ numS s)
theorem brS_size {a s : Int} (h1 : a ≤ 9223372036854775807) (h2 : s ≤ 9223372036854775807) : (brS a s).size ≤ 41 := by
  have z1 := numS_size h1
  have z2 := numS_size h2
  have e1 : (⟨#[119]⟩ : ByteArray).size = 1 := rfl
  have e2 : (⟨#[32, 115]⟩ : ByteArray).size = 2 := rfl
  unfold brS
  simp only [ByteArray.size_append, e1, e2]
  omega
set_option maxHeartbeats 4000000 in
theorem l2Text_any (a s : Int) (w : World) (ha0 : 0 ≤ a) (ha1 : a ≤ 1000000) (hs0 : 0 ≤ s) (hs1 : s ≤ 1000000) :
    Calls Tryd.prog 28 #[.agg #[.int .i64 a, .int .i64 s]] w fun e w' => e = .returned (.string (brS a s)) ∧ Below w.heap.size w w' := by
  have z1 := numS_size (z := a) (by omega)
  have z2 := numS_size (z := s) (by omega)
  go_enter Tryd.func28, Tryd.ntmps28
  go_wp2_with fail
  refine wp_region_quiet_below (by kernel_rfl) (by kernel_rfl) ?_
  repeat (go_big_quiet_step ((first | (go_at_call 52; exact Calls.regrown_of (l1Num_any _ _ (by omega) (by omega))))))
  (refine wpQuiet_nil ?_; intro w1 hwq; have hb1 := of_cls hwq; clear hwq)
  (have hs1 := hb1.size; (try simp at hs1); obtain ⟨hc1, hf1, hn1⟩ := bcell hb1; (try have hz1_w_0 : w.heap.size < w1.heap.size := by omega); (try have hz1_w_1 : w.heap.size + 1 < w1.heap.size := by omega); (try have hz1_w_2 : w.heap.size + 2 < w1.heap.size := by omega); (try have hz1_w_2b : w.heap.size + 1 + 1 < w1.heap.size := by omega))
  go_wp2_with fail
  go_ret
  exact ⟨rfl, (by repeat' (first | (with_reducible exact Below.refl _ _) | (with_reducible refine Below.alloc ?_ ?_ _) | (with_reducible refine Below.setCell ?_ ?_ _) | (with_reducible refine Below.drew ?_) | (with_reducible refine Below.trans ?_ (Below.mono (by with_reducible assumption) ?_)) | omega | (simp; done) | (simp; omega)))⟩
set_option maxHeartbeats 4000000 in
theorem iBrineText_yes (a s : Int) (w : World) (ht : Hid (Tab w)) (hOK : (inB a 0 1000000 && inB s 0 1000000) = true) :
    Calls Tryd.prog 6 #[.agg #[.int .i64 a, .int .i64 s]] w fun e w' => e = .returned (.tuple #[.string (brS a s), .bool true]) ∧ Below w.heap.size w w' := by
  have hp := hOK
  simp only [Bool.and_eq_true, inB_iff] at hp
  obtain ⟨⟨ha0, ha1⟩, hs0, hs1⟩ := hp
  have z1 := numS_size (z := a) (by omega)
  have z2 := numS_size (z := s) (by omega)
  have hc := fun W => isBrine_any a s W
  rw [hOK] at hc
  have HC := Lib.hid hc
  clear hc hOK
  go_enter Tryd.func6, Tryd.ntmps6
  go_wp2_with fail
  (go_at_call 9; refine (HC.out _).mono ?_; rintro e w1 ⟨rfl, hb1⟩)
  (have hs1 := hb1.size; (try simp at hs1); obtain ⟨hc1, hf1, hn1⟩ := bcell hb1; (try have hz1_w_0 : w.heap.size < w1.heap.size := by omega); (try have hz1_w_1 : w.heap.size + 1 < w1.heap.size := by omega); (try have hz1_w_2 : w.heap.size + 2 < w1.heap.size := by omega); (try have hz1_w_2b : w.heap.size + 1 + 1 < w1.heap.size := by omega))
  have HT : Hid (Tab w1) := Lib.hid (ht.out.to (by repeat' (first | (with_reducible exact Below.refl _ _) | (with_reducible refine Below.alloc ?_ ?_ _) | (with_reducible refine Below.setCell ?_ ?_ _) | (with_reducible refine Below.drew ?_) | (with_reducible refine Below.trans ?_ (Below.mono (by with_reducible assumption) ?_)) | omega | (simp; done) | (simp; omega))))
  go_wp2_with fail
  refine wp_region_quiet_below (by kernel_rfl) (by kernel_rfl) ?_
  repeat (go_big_quiet_step ((first | (go_at_call 23; exact Calls.regrown_of (decimal_any _ _ (HT.out.to (below_regrown _ _ _)) (by omega) (by omega))))))
  (refine wpQuiet_nil ?_; intro w2 hwq; have hb2 := of_cls hwq; clear hwq)
  (have hs2 := hb2.size; (try simp at hs2); obtain ⟨hc2, hf2, hn2⟩ := bcell hb2; (try have hz2_w_0 : w.heap.size < w2.heap.size := by omega); (try have hz2_w_1 : w.heap.size + 1 < w2.heap.size := by omega); (try have hz2_w_2 : w.heap.size + 2 < w2.heap.size := by omega); (try have hz2_w_2b : w.heap.size + 1 + 1 < w2.heap.size := by omega); (try have hz2_w1_0 : w1.heap.size < w2.heap.size := by omega); (try have hz2_w1_1 : w1.heap.size + 1 < w2.heap.size := by omega); (try have hz2_w1_2 : w1.heap.size + 2 < w2.heap.size := by omega); (try have hz2_w1_2b : w1.heap.size + 1 + 1 < w2.heap.size := by omega))
  go_wp2_with fail
  go_ret2
  exact ⟨rfl, (by repeat' (first | (with_reducible exact Below.refl _ _) | (with_reducible refine Below.alloc ?_ ?_ _) | (with_reducible refine Below.setCell ?_ ?_ _) | (with_reducible refine Below.drew ?_) | (with_reducible refine Below.trans ?_ (Below.mono (by with_reducible assumption) ?_)) | omega | (simp; done) | (simp; omega)))⟩
set_option maxHeartbeats 4000000 in
theorem iBrineText_no (a s : Int) (w : World) (hOK : (inB a 0 1000000 && inB s 0 1000000) = false) :
    Calls Tryd.prog 6 #[.agg #[.int .i64 a, .int .i64 s]] w fun e w' => e = .returned (.tuple #[.string ⟨#[]⟩, .bool false]) ∧ Below w.heap.size w w' := by
  have hc := fun W => isBrine_any a s W
  rw [hOK] at hc
  have HC := Lib.hid hc
  clear hc hOK
  go_enter Tryd.func6, Tryd.ntmps6
  go_wp2_with fail
  (go_at_call 9; refine (HC.out _).mono ?_; rintro e w1 ⟨rfl, hb1⟩)
  (have hs1 := hb1.size; (try simp at hs1); obtain ⟨hc1, hf1, hn1⟩ := bcell hb1; (try have hz1_w_0 : w.heap.size < w1.heap.size := by omega); (try have hz1_w_1 : w.heap.size + 1 < w1.heap.size := by omega); (try have hz1_w_2 : w.heap.size + 2 < w1.heap.size := by omega); (try have hz1_w_2b : w.heap.size + 1 + 1 < w1.heap.size := by omega))
  go_wp2_with fail
  go_ret2
  exact ⟨rfl, (by repeat' (first | (with_reducible exact Below.refl _ _) | (with_reducible refine Below.alloc ?_ ?_ _) | (with_reducible refine Below.setCell ?_ ?_ _) | (with_reducible refine Below.drew ?_) | (with_reducible refine Below.trans ?_ (Below.mono (by with_reducible assumption) ?_)) | omega | (simp; done) | (simp; omega)))⟩
end Go.Proofs.YtocaodoagiokjaaDoor
