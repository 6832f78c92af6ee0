/- Contracts of a pass: a part is taken, what is left (chapters 2, 8). -/
import Derived.Test.YtocaodoagiokjaaSerFill
set_option linter.unusedSimpArgs false
set_option linter.unusedVariables false
namespace Go.Proofs.Ytocaodoagiokjaa
open Go.RowKit Go.Sort Go.Salt
attribute [local go_sem] cell_rg
attribute [local go_sem ↓] run_max_mx run_min_mn
/-- How much salt is in a part of m kilograms. -/
def ptS (a s m : Int) : Int := if m = 0 then 0 else s * m / (a + s)
def ptA (a s m : Int) : Int := if m = 0 then 0 else m - s * m / (a + s)
theorem pt_bd {a s m : Int} (h1 : 0 ≤ a) (h2 : a ≤ 1000000) (h3 : 0 ≤ s) (h4 : s ≤ 1000000) (h5 : 0 ≤ m) (h6 : m ≤ a + s) : 0 ≤ ptS a s m ∧ ptS a s m ≤ 2000000 ∧ -2000000 ≤ ptA a s m ∧ ptA a s m ≤ 2000000 := by
  unfold ptS ptA
  split
  · omega
  · have h7 : 0 ≤ s * m := Int.mul_nonneg h3 h5
    have h8 : 0 ≤ s * m / (a + s) := Int.ediv_nonneg h7 (by omega)
    have h9 : s * m / (a + s) ≤ m := by
      apply Int.ediv_le_of_le_mul (by omega)
      rw [Int.mul_comm s m]
      exact Int.mul_le_mul_of_nonneg_left (by omega) h5
    omega
set_option maxHeartbeats 400000 in
theorem minus_any (a s a' s' : Int) (w : World) (_h1 : -1000000000000000 ≤ a) (_h2 : a ≤ 1000000000000000) (_h3 : -1000000000000000 ≤ s) (_h4 : s ≤ 1000000000000000) (_h5 : -1000000000000000 ≤ a') (_h6 : a' ≤ 1000000000000000) (_h7 : -1000000000000000 ≤ s') (_h8 : s' ≤ 1000000000000000) :
    Calls Try.prog 65 #[.agg #[.int .i64 a, .int .i64 s], .agg #[.int .i64 a', .int .i64 s']] w fun e w' => e = .returned (.agg #[.int .i64 (a - a'), .int .i64 (s - s')]) ∧ Below w.heap.size w w' := by
  go_enter Try.func65, Try.ntmps65
  go_wp2
  go_returns
  exact ⟨rfl, (by repeat' (first | (with_reducible exact Below.refl _ _) | (with_reducible refine Below.alloc ?_ ?_ _) | (with_reducible refine Below.setCell ?_ ?_ _) | (with_reducible refine Below.drew ?_) | (with_reducible refine Below.trans ?_ (Below.mono (by with_reducible assumption) ?_)) | omega | (simp; done) | (simp; omega)))⟩
set_option maxHeartbeats 400000 in
theorem l2Left_any (a s a' s' : Int) (w : World) (_h1 : -1000000000000000 ≤ a) (_h2 : a ≤ 1000000000000000) (_h3 : -1000000000000000 ≤ s) (_h4 : s ≤ 1000000000000000) (_h5 : -1000000000000000 ≤ a') (_h6 : a' ≤ 1000000000000000) (_h7 : -1000000000000000 ≤ s') (_h8 : s' ≤ 1000000000000000) :
    Calls Try.prog 62 #[.agg #[.int .i64 a, .int .i64 s], .agg #[.int .i64 a', .int .i64 s']] w fun e w' => e = .returned (.agg #[.int .i64 (a - a'), .int .i64 (s - s')]) ∧ Below w.heap.size w w' := by
  go_enter Try.func62, Try.ntmps62
  go_wp2
  go_returns
  exact ⟨rfl, (by repeat' (first | (with_reducible exact Below.refl _ _) | (with_reducible refine Below.alloc ?_ ?_ _) | (with_reducible refine Below.setCell ?_ ?_ _) | (with_reducible refine Below.drew ?_) | (with_reducible refine Below.trans ?_ (Below.mono (by with_reducible assumption) ?_)) | omega | (simp; done) | (simp; omega)))⟩
set_option maxHeartbeats 4000000 in
theorem part_any (a s m : Int) (w : World) (h1 : 0 ≤ a) (h2 : a ≤ 1000000) (h3 : 0 ≤ s) (h4 : s ≤ 1000000) (h5 : 0 ≤ m) (h6 : m ≤ a + s) :
    Calls Try.prog 64 #[.agg #[.int .i64 a, .int .i64 s], .int .i64 m] w fun e w' => e = .returned (.agg #[.int .i64 (ptA a s m), .int .i64 (ptS a s m)]) ∧ Below w.heap.size w w' := by
  cases hm : (m == 0)
  · have hm' : ¬ m = 0 := by simpa using hm
    have hA := Lib.hid (show ptA a s m = m - s * m / (a + s) by rw [ptA, if_neg hm'])
    have hS := Lib.hid (show ptS a s m = s * m / (a + s) by rw [ptS, if_neg hm'])
    have h7 : 0 ≤ s * m := Int.mul_nonneg h3 h5
    have h8 : s * m ≤ 2000000000000 := by
      have := Int.mul_le_mul h4 (show m ≤ 2000000 by omega) h5 (by omega)
      omega
    have hq : 0 ≤ s * m / (a + s) := Int.ediv_nonneg h7 (by omega)
    have hq2 : s * m / (a + s) ≤ m := by
      apply Int.ediv_le_of_le_mul (by omega)
      rw [Int.mul_comm s m]
      exact Int.mul_le_mul_of_nonneg_left (by omega) h5
    have hd : (s * m).tdiv (a + s) = s * m / (a + s) := Int.tdiv_eq_ediv_of_nonneg h7
    have hne : ¬ (a + s = 0) := by omega
    generalize hqq : s * m / (a + s) = q at *
    clear hqq
    go_enter Try.func64, Try.ntmps64
    go_wp2_with fail
    refine wp_region_quiet_below (by kernel_rfl) (by kernel_rfl) ?_
    repeat (go_big_quiet_step ((go_at_call 49; exact Calls.regrown_of (mass_any _ _ _ (by omega) (by omega) (by omega) (by omega)))))
    (refine wpQuiet_nil ?_; intro w1 hwq; have hb1 := of_cls hwq; clear hwq)
    (have hs1 := hb1.size; (try simp at hs1); obtain ⟨hc1, hf1, hn1⟩ := bcell hb1; (try have hz1_w_0 : w.heap.size < w1.heap.size := by omega); (try have hz1_w_1 : w.heap.size + 1 < w1.heap.size := by omega); (try have hz1_w_2 : w.heap.size + 2 < w1.heap.size := by omega); (try have hz1_w_2b : w.heap.size + 1 + 1 < w1.heap.size := by omega))
    go_wp2_with fail
    ((try simp only [Exit.inBlock, Exit.then]); refine bodyPost_ret (by simp [results, Try.results64, go_sem, *]; try rfl) rfl ?_)
    exact ⟨by rw [hA.out, hS.out], (by repeat' (first | (with_reducible exact Below.refl _ _) | (with_reducible refine Below.alloc ?_ ?_ _) | (with_reducible refine Below.setCell ?_ ?_ _) | (with_reducible refine Below.drew ?_) | (with_reducible refine Below.trans ?_ (Below.mono (by with_reducible assumption) ?_)) | omega | (simp; done) | (simp; omega)))⟩
  · have hm' : m = 0 := by simpa using hm
    have hA := Lib.hid (show ptA a s m = 0 by rw [ptA, if_pos hm'])
    have hS := Lib.hid (show ptS a s m = 0 by rw [ptS, if_pos hm'])
    clear hm'
    go_enter Try.func64, Try.ntmps64
    go_wp2_with fail
    ((try simp only [Exit.inBlock, Exit.then]); refine bodyPost_ret (by simp [results, Try.results64, go_sem, *]; try rfl) rfl ?_)
    exact ⟨by rw [hA.out, hS.out], (by repeat' (first | (with_reducible exact Below.refl _ _) | (with_reducible refine Below.alloc ?_ ?_ _) | (with_reducible refine Below.setCell ?_ ?_ _) | (with_reducible refine Below.drew ?_) | (with_reducible refine Below.trans ?_ (Below.mono (by with_reducible assumption) ?_)) | omega | (simp; done) | (simp; omega)))⟩
set_option maxHeartbeats 4000000 in
theorem l2Part_any (a s m : Int) (w : World) (h1 : 0 ≤ a) (h2 : a ≤ 1000000) (h3 : 0 ≤ s) (h4 : s ≤ 1000000) (h5 : 0 ≤ m) (h6 : m ≤ a + s) :
    Calls Try.prog 60 #[.agg #[.int .i64 a, .int .i64 s], .int .i64 m] w fun e w' => e = .returned (.agg #[.int .i64 (ptA a s m), .int .i64 (ptS a s m)]) ∧ Below w.heap.size w w' := by
  cases hm : (m == 0)
  · have hm' : ¬ m = 0 := by simpa using hm
    have hA := Lib.hid (show ptA a s m = m - s * m / (a + s) by rw [ptA, if_neg hm'])
    have hS := Lib.hid (show ptS a s m = s * m / (a + s) by rw [ptS, if_neg hm'])
    have h7 : 0 ≤ s * m := Int.mul_nonneg h3 h5
    have h8 : s * m ≤ 2000000000000 := by
      have := Int.mul_le_mul h4 (show m ≤ 2000000 by omega) h5 (by omega)
      omega
    have hq : 0 ≤ s * m / (a + s) := Int.ediv_nonneg h7 (by omega)
    have hq2 : s * m / (a + s) ≤ m := by
      apply Int.ediv_le_of_le_mul (by omega)
      rw [Int.mul_comm s m]
      exact Int.mul_le_mul_of_nonneg_left (by omega) h5
    have hd : (s * m).tdiv (a + s) = s * m / (a + s) := Int.tdiv_eq_ediv_of_nonneg h7
    have hne : ¬ (a + s = 0) := by omega
    generalize hqq : s * m / (a + s) = q at *
    clear hqq
    go_enter Try.func60, Try.ntmps60
    go_wp2_with fail
    refine wp_region_quiet_below (by kernel_rfl) (by kernel_rfl) ?_
    repeat (go_big_quiet_step ((go_at_call 45; exact Calls.regrown_of (l2Mass_any _ _ _ (by omega) (by omega) (by omega) (by omega)))))
    (refine wpQuiet_nil ?_; intro w1 hwq; have hb1 := of_cls hwq; clear hwq)
    (have hs1 := hb1.size; (try simp at hs1); obtain ⟨hc1, hf1, hn1⟩ := bcell hb1; (try have hz1_w_0 : w.heap.size < w1.heap.size := by omega); (try have hz1_w_1 : w.heap.size + 1 < w1.heap.size := by omega); (try have hz1_w_2 : w.heap.size + 2 < w1.heap.size := by omega); (try have hz1_w_2b : w.heap.size + 1 + 1 < w1.heap.size := by omega))
    go_wp2_with fail
    ((try simp only [Exit.inBlock, Exit.then]); refine bodyPost_ret (by simp [results, Try.results60, go_sem, *]; try rfl) rfl ?_)
    exact ⟨by rw [hA.out, hS.out], (by repeat' (first | (with_reducible exact Below.refl _ _) | (with_reducible refine Below.alloc ?_ ?_ _) | (with_reducible refine Below.setCell ?_ ?_ _) | (with_reducible refine Below.drew ?_) | (with_reducible refine Below.trans ?_ (Below.mono (by with_reducible assumption) ?_)) | omega | (simp; done) | (simp; omega)))⟩
  · have hm' : m = 0 := by simpa using hm
    have hA := Lib.hid (show ptA a s m = 0 by rw [ptA, if_pos hm'])
    have hS := Lib.hid (show ptS a s m = 0 by rw [ptS, if_pos hm'])
    clear hm'
    go_enter Try.func60, Try.ntmps60
    go_wp2_with fail
    ((try simp only [Exit.inBlock, Exit.then]); refine bodyPost_ret (by simp [results, Try.results60, go_sem, *]; try rfl) rfl ?_)
    exact ⟨by rw [hA.out, hS.out], (by repeat' (first | (with_reducible exact Below.refl _ _) | (with_reducible refine Below.alloc ?_ ?_ _) | (with_reducible refine Below.setCell ?_ ?_ _) | (with_reducible refine Below.drew ?_) | (with_reducible refine Below.trans ?_ (Below.mono (by with_reducible assumption) ?_)) | omega | (simp; done) | (simp; omega)))⟩
end Go.Proofs.Ytocaodoagiokjaa
