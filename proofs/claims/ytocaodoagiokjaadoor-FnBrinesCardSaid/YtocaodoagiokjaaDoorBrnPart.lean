/- Parts of brines: taking a part, dividing a brine, the text (chapter 2). -/
import Derived.Test.YtocaodoagiokjaaDoorBrnMath
import Derived.OwnWalk
import Derived.Test.YtocaodoagiokjaaDoorLawKit
set_option linter.unusedSimpArgs false
set_option linter.unusedVariables false
namespace Go.Proofs.YtocaodoagiokjaaDoor
open Go.RowKit Go.Sort Go.Salt
attribute [local go_sem] cell_rg
attribute [local go_sem ↓] run_max_mx run_min_mn
theorem run_field_brine (a s : Int) (w : World) : (Instr.field 25 (.agg #[.int .i64 a, .int .i64 s]) 0).run Tryd.prog w = .ok (.int .i64 a) w := by
  have h3 : Tryd.prog.underlying 3 = some (.int .i64) := by kernel_rfl
  simp only [Instr.field, Sem.run_bind, run_underlying Tryd.underlying25, Result.andThen_ok]
  simp [asAgg, part, run_isAgg_plain h3 rfl]
attribute [local go_sem] run_field_brine
/-- Whether a part of m kilograms can be taken. -/
def tkB (a s m : Int) : Bool := (inB a 0 1000000 && inB s 0 1000000) && inB m 0 (a + s)
set_option maxHeartbeats 400000 in
theorem minus_any (a s a' s' : Int) (w : World) (_h1 : -1000000000000000 ≤ a) (_h2 : a ≤ 1000000000000000) (_h3 : -1000000000000000 ≤ s) (_h4 : s ≤ 1000000000000000) (_h5 : -1000000000000000 ≤ a') (_h6 : a' ≤ 1000000000000000) (_h7 : -1000000000000000 ≤ s') (_h8 : s' ≤ 1000000000000000) :
    Calls Tryd.prog 39 #[.agg #[.int .i64 a, .int .i64 s], .agg #[.int .i64 a', .int .i64 s']] w fun e w' => e = .returned (.agg #[.int .i64 (a - a'), .int .i64 (s - s')]) ∧ Below w.heap.size w w' := by
  go_enter Tryd.func39, Tryd.ntmps39
  go_wp2
  go_returns
  exact ⟨rfl, (by repeat' (first | (with_reducible exact Below.refl _ _) | (with_reducible refine Below.alloc ?_ ?_ _) | (with_reducible refine Below.setCell ?_ ?_ _) | (with_reducible refine Below.drew ?_) | (with_reducible refine Below.trans ?_ (Below.mono (by with_reducible assumption) ?_)) | omega | (simp; done) | (simp; omega)))⟩
set_option maxHeartbeats 400000 in
theorem l2Left_any (a s a' s' : Int) (w : World) (_h1 : -1000000000000000 ≤ a) (_h2 : a ≤ 1000000000000000) (_h3 : -1000000000000000 ≤ s) (_h4 : s ≤ 1000000000000000) (_h5 : -1000000000000000 ≤ a') (_h6 : a' ≤ 1000000000000000) (_h7 : -1000000000000000 ≤ s') (_h8 : s' ≤ 1000000000000000) :
    Calls Tryd.prog 42 #[.agg #[.int .i64 a, .int .i64 s], .agg #[.int .i64 a', .int .i64 s']] w fun e w' => e = .returned (.agg #[.int .i64 (a - a'), .int .i64 (s - s')]) ∧ Below w.heap.size w w' := by
  go_enter Tryd.func42, Tryd.ntmps42
  go_wp2
  go_returns
  exact ⟨rfl, (by repeat' (first | (with_reducible exact Below.refl _ _) | (with_reducible refine Below.alloc ?_ ?_ _) | (with_reducible refine Below.setCell ?_ ?_ _) | (with_reducible refine Below.drew ?_) | (with_reducible refine Below.trans ?_ (Below.mono (by with_reducible assumption) ?_)) | omega | (simp; done) | (simp; omega)))⟩
set_option maxHeartbeats 4000000 in
theorem part_any (a s m : Int) (w : World) (h1 : 0 ≤ a) (h2 : a ≤ 1000000) (h3 : 0 ≤ s) (h4 : s ≤ 1000000) (h5 : 0 ≤ m) (h6 : m ≤ a + s) :
    Calls Tryd.prog 38 #[.agg #[.int .i64 a, .int .i64 s], .int .i64 m] w fun e w' => e = .returned (.agg #[.int .i64 (m - pS a s m), .int .i64 (pS a s m)]) ∧ Below w.heap.size w w' := by
  cases hm : (m == 0)
  · have hm' : ¬ m = 0 := by simpa using hm
    have hS := Lib.hid (show pS a s m = s * m / (a + s) by rw [pS, if_neg hm'])
    have h7 : 0 ≤ s * m := Int.mul_nonneg h3 h5
    have h8 : s * m ≤ 2000000000000 := by
      have := Int.mul_le_mul h4 (show m ≤ 2000000 by omega) h5 (by omega)
      omega
    have hq : 0 ≤ s * m / (a + s) := Int.ediv_nonneg h7 (by omega)
    have hq2 : s * m / (a + s) ≤ m := by
      apply Int.ediv_le_of_le_mul (by omega)
      rw [Int.mul_comm s m]
      exact Int.mul_le_mul_of_nonneg_left (by omega) h5
    have hd : (s * m).tdiv (a + s) = s * m / (a + s) := Int.tdiv_eq_ediv_of_nonneg h7
    have hne : ¬ (a + s = 0) := by omega
    generalize hqq : s * m / (a + s) = q at *
    clear hqq
    go_enter Tryd.func38, Tryd.ntmps38
    go_wp2_with fail
    refine wp_region_quiet_below (by kernel_rfl) (by kernel_rfl) ?_
    repeat (go_big_quiet_step ((go_at_call 37; exact Calls.regrown_of (mass_any _ _ _ (by omega) (by omega) (by omega) (by omega)))))
    (refine wpQuiet_nil ?_; intro w1 hwq; have hb1 := of_cls hwq; clear hwq)
    (have hs1 := hb1.size; (try simp at hs1); obtain ⟨hc1, hf1, hn1⟩ := bcell hb1; (try have hz1_w_0 : w.heap.size < w1.heap.size := by omega); (try have hz1_w_1 : w.heap.size + 1 < w1.heap.size := by omega); (try have hz1_w_2 : w.heap.size + 2 < w1.heap.size := by omega); (try have hz1_w_2b : w.heap.size + 1 + 1 < w1.heap.size := by omega))
    go_wp2_with fail
    ((try simp only [Exit.inBlock, Exit.then]); refine bodyPost_ret (by simp [results, Tryd.results38, go_sem, *]; try rfl) rfl ?_)
    exact ⟨by rw [hS.out], (by repeat' (first | (with_reducible exact Below.refl _ _) | (with_reducible refine Below.alloc ?_ ?_ _) | (with_reducible refine Below.setCell ?_ ?_ _) | (with_reducible refine Below.drew ?_) | (with_reducible refine Below.trans ?_ (Below.mono (by with_reducible assumption) ?_)) | omega | (simp; done) | (simp; omega)))⟩
  · have hm' : m = 0 := by simpa using hm
    have hS := Lib.hid (show pS a s m = 0 by rw [pS, if_pos hm'])
    have hZ := Lib.hid hm'
    clear hm'
    go_enter Tryd.func38, Tryd.ntmps38
    go_wp2_with fail
    ((try simp only [Exit.inBlock, Exit.then]); refine bodyPost_ret (by simp [results, Tryd.results38, go_sem, *]; try rfl) rfl ?_)
    exact ⟨by rw [hS.out, hZ.out]; rfl, (by repeat' (first | (with_reducible exact Below.refl _ _) | (with_reducible refine Below.alloc ?_ ?_ _) | (with_reducible refine Below.setCell ?_ ?_ _) | (with_reducible refine Below.drew ?_) | (with_reducible refine Below.trans ?_ (Below.mono (by with_reducible assumption) ?_)) | omega | (simp; done) | (simp; omega)))⟩
set_option maxHeartbeats 4000000 in
theorem l2Part_any (a s m : Int) (w : World) (h1 : 0 ≤ a) (h2 : a ≤ 1000000) (h3 : 0 ≤ s) (h4 : s ≤ 1000000) (h5 : 0 ≤ m) (h6 : m ≤ a + s) :
    Calls Tryd.prog 41 #[.agg #[.int .i64 a, .int .i64 s], .int .i64 m] w fun e w' => e = .returned (.agg #[.int .i64 (m - pS a s m), .int .i64 (pS a s m)]) ∧ Below w.heap.size w w' := by
  cases hm : (m == 0)
  · have hm' : ¬ m = 0 := by simpa using hm
    have hS := Lib.hid (show pS a s m = s * m / (a + s) by rw [pS, if_neg hm'])
    have h7 : 0 ≤ s * m := Int.mul_nonneg h3 h5
    have h8 : s * m ≤ 2000000000000 := by
      have := Int.mul_le_mul h4 (show m ≤ 2000000 by omega) h5 (by omega)
      omega
    have hq : 0 ≤ s * m / (a + s) := Int.ediv_nonneg h7 (by omega)
    have hq2 : s * m / (a + s) ≤ m := by
      apply Int.ediv_le_of_le_mul (by omega)
      rw [Int.mul_comm s m]
      exact Int.mul_le_mul_of_nonneg_left (by omega) h5
    have hd : (s * m).tdiv (a + s) = s * m / (a + s) := Int.tdiv_eq_ediv_of_nonneg h7
    have hne : ¬ (a + s = 0) := by omega
    generalize hqq : s * m / (a + s) = q at *
    clear hqq
    go_enter Tryd.func41, Tryd.ntmps41
    go_wp2_with fail
    refine wp_region_quiet_below (by kernel_rfl) (by kernel_rfl) ?_
    repeat (go_big_quiet_step ((go_at_call 35; exact Calls.regrown_of (l2Mass_any _ _ _ (by omega) (by omega) (by omega) (by omega)))))
    (refine wpQuiet_nil ?_; intro w1 hwq; have hb1 := of_cls hwq; clear hwq)
    (have hs1 := hb1.size; (try simp at hs1); obtain ⟨hc1, hf1, hn1⟩ := bcell hb1; (try have hz1_w_0 : w.heap.size < w1.heap.size := by omega); (try have hz1_w_1 : w.heap.size + 1 < w1.heap.size := by omega); (try have hz1_w_2 : w.heap.size + 2 < w1.heap.size := by omega); (try have hz1_w_2b : w.heap.size + 1 + 1 < w1.heap.size := by omega))
    go_wp2_with fail
    ((try simp only [Exit.inBlock, Exit.then]); refine bodyPost_ret (by simp [results, Tryd.results41, go_sem, *]; try rfl) rfl ?_)
    exact ⟨by rw [hS.out], (by repeat' (first | (with_reducible exact Below.refl _ _) | (with_reducible refine Below.alloc ?_ ?_ _) | (with_reducible refine Below.setCell ?_ ?_ _) | (with_reducible refine Below.drew ?_) | (with_reducible refine Below.trans ?_ (Below.mono (by with_reducible assumption) ?_)) | omega | (simp; done) | (simp; omega)))⟩
  · have hm' : m = 0 := by simpa using hm
    have hS := Lib.hid (show pS a s m = 0 by rw [pS, if_pos hm'])
    have hZ := Lib.hid hm'
    clear hm'
    go_enter Tryd.func41, Tryd.ntmps41
    go_wp2_with fail
    ((try simp only [Exit.inBlock, Exit.then]); refine bodyPost_ret (by simp [results, Tryd.results41, go_sem, *]; try rfl) rfl ?_)
    exact ⟨by rw [hS.out, hZ.out]; rfl, (by repeat' (first | (with_reducible exact Below.refl _ _) | (with_reducible refine Below.alloc ?_ ?_ _) | (with_reducible refine Below.setCell ?_ ?_ _) | (with_reducible refine Below.drew ?_) | (with_reducible refine Below.trans ?_ (Below.mono (by with_reducible assumption) ?_)) | omega | (simp; done) | (simp; omega)))⟩
set_option maxHeartbeats 4000000 in
theorem iTake_no (a s m : Int) (w : World) (hB : tkB a s m = false) :
    Calls Tryd.prog 13 #[.agg #[.int .i64 a, .int .i64 s], .int .i64 m] w fun e w' => e = .returned (.tuple #[.agg #[.int .i64 0, .int .i64 0], .agg #[.int .i64 0, .int .i64 0], .bool false]) ∧ Below w.heap.size w w' := by
  cases hOK : (inB a 0 1000000 && inB s 0 1000000)
  · have HC := Lib.hid (fun W => (isBrine_any a s W))
    rw [hOK] at HC
    clear hB hOK
    go_enter Tryd.func13, Tryd.ntmps13
    go_wp2_with fail
    (go_at_call 9; refine (HC.out _).mono ?_; rintro e w1 ⟨rfl, hb1⟩)
    (have hs1 := hb1.size; (try simp at hs1); obtain ⟨hc1, hf1, hn1⟩ := bcell hb1; (try have hz1_w_0 : w.heap.size < w1.heap.size := by omega); (try have hz1_w_1 : w.heap.size + 1 < w1.heap.size := by omega); (try have hz1_w_2 : w.heap.size + 2 < w1.heap.size := by omega); (try have hz1_w_2b : w.heap.size + 1 + 1 < w1.heap.size := by omega))
    go_wp2_with fail
    ((try simp only [Exit.inBlock, Exit.then]); refine bodyPost_ret (by simp [results, Tryd.results13, go_sem, *]; try rfl) rfl ?_)
    exact ⟨rfl, (by repeat' (first | (with_reducible exact Below.refl _ _) | (with_reducible refine Below.alloc ?_ ?_ _) | (with_reducible refine Below.setCell ?_ ?_ _) | (with_reducible refine Below.drew ?_) | (with_reducible refine Below.trans ?_ (Below.mono (by with_reducible assumption) ?_)) | omega | (simp; done) | (simp; omega)))⟩
  · have hp := hOK
    simp only [Bool.and_eq_true, inB_iff] at hp
    obtain ⟨⟨ha0, ha1⟩, hs0, hs1⟩ := hp
    have hm : inB m 0 (a + s) = false := by rw [tkB, hOK] at hB; exact hB
    have HC := Lib.hid (fun W => (isBrine_any a s W))
    have HW := Lib.hid (fun W => (within_any m 0 (a + s) W))
    rw [hOK] at HC
    rw [hm] at HW
    clear hB hOK hm
    go_enter Tryd.func13, Tryd.ntmps13
    go_wp2_with fail
    (go_at_call 9; refine (HC.out _).mono ?_; rintro e w1 ⟨rfl, hb1⟩)
    (have hs1 := hb1.size; (try simp at hs1); obtain ⟨hc1, hf1, hn1⟩ := bcell hb1; (try have hz1_w_0 : w.heap.size < w1.heap.size := by omega); (try have hz1_w_1 : w.heap.size + 1 < w1.heap.size := by omega); (try have hz1_w_2 : w.heap.size + 2 < w1.heap.size := by omega); (try have hz1_w_2b : w.heap.size + 1 + 1 < w1.heap.size := by omega))
    go_wp2_with fail
    (go_at_call 37; refine (mass_any _ _ _ (by omega) (by omega) (by omega) (by omega)).mono ?_; rintro e w2 ⟨rfl, hb2⟩)
    (have hs2 := hb2.size; (try simp at hs2); obtain ⟨hc2, hf2, hn2⟩ := bcell hb2; (try have hz2_w_0 : w.heap.size < w2.heap.size := by omega); (try have hz2_w_1 : w.heap.size + 1 < w2.heap.size := by omega); (try have hz2_w_2 : w.heap.size + 2 < w2.heap.size := by omega); (try have hz2_w_2b : w.heap.size + 1 + 1 < w2.heap.size := by omega); (try have hz2_w1_0 : w1.heap.size < w2.heap.size := by omega); (try have hz2_w1_1 : w1.heap.size + 1 < w2.heap.size := by omega); (try have hz2_w1_2 : w1.heap.size + 2 < w2.heap.size := by omega); (try have hz2_w1_2b : w1.heap.size + 1 + 1 < w2.heap.size := by omega))
    go_wp2_with (first | (go_at_call 29; refine (HW.out _).mono ?_; rintro e wX ⟨rfl, rfl⟩))
    ((try simp only [Exit.inBlock, Exit.then]); refine bodyPost_ret (by simp [results, Tryd.results13, go_sem, *]; try rfl) rfl ?_)
    exact ⟨rfl, (by repeat' (first | (with_reducible exact Below.refl _ _) | (with_reducible refine Below.alloc ?_ ?_ _) | (with_reducible refine Below.setCell ?_ ?_ _) | (with_reducible refine Below.drew ?_) | (with_reducible refine Below.trans ?_ (Below.mono (by with_reducible assumption) ?_)) | omega | (simp; done) | (simp; omega)))⟩
set_option maxRecDepth 100000 in
set_option maxHeartbeats 8000000 in
theorem iTake_yes (a s m : Int) (w : World) (hB : tkB a s m = true) :
    Calls Tryd.prog 13 #[.agg #[.int .i64 a, .int .i64 s], .int .i64 m] w fun e w' => e = .returned (.tuple #[.agg #[.int .i64 (m - pS a s m), .int .i64 (pS a s m)], .agg #[.int .i64 (a - (m - pS a s m)), .int .i64 (s - pS a s m)], .bool true]) ∧ Below w.heap.size w w' := by
  have hp := hB
  simp only [tkB, Bool.and_eq_true, inB_iff] at hp
  obtain ⟨⟨⟨ha0, ha1⟩, hs0, hs1⟩, hm0, hm1⟩ := hp
  have hOK : (inB a 0 1000000 && inB s 0 1000000) = true := by rw [inB_iff.2 ⟨ha0, ha1⟩, inB_iff.2 ⟨hs0, hs1⟩]; rfl
  have hM : inB m 0 (a + s) = true := inB_iff.2 ⟨hm0, hm1⟩
  have hq := pS_bd ha0 hs0 hm0 hm1
  have HC := Lib.hid (fun W => (isBrine_any a s W))
  have HW := Lib.hid (fun W => (within_any m 0 (a + s) W))
  rw [hOK] at HC
  rw [hM] at HW
  have HP := Lib.hid (fun W => part_any a s m W ha0 ha1 hs0 hs1 hm0 hm1)
  obtain ⟨q, hqq⟩ : ∃ q, pS a s m = q := ⟨_, rfl⟩
  rw [hqq] at HP hq ⊢
  clear hB hOK hM hqq
  go_enter Tryd.func13, Tryd.ntmps13
  go_upto_region 1 with (fail)
  refine cut_world (fun X => Row X w.heap.size 25 [.int .i64 a, .int .i64 s] ∧ Row X (w.heap.size + 1) 25 [.int .i64 0, .int .i64 0] ∧ Row X (w.heap.size + 1 + 1) 25 [.int .i64 0, .int .i64 0] ∧ Below w.heap.size w X) ⟨((Row.new _ _ _).alloc _).alloc _, (row_new_at' _ _ _ _ (by simp)).alloc _, row_new_at' _ _ _ _ (by simp), (by repeat' (first | (with_reducible exact Below.refl _ _) | (with_reducible refine Below.alloc ?_ ?_ _) | (with_reducible refine Below.setCell ?_ ?_ _) | (with_reducible refine Below.drew ?_) | (with_reducible refine Below.trans ?_ (Below.mono (by with_reducible assumption) ?_)) | omega | (simp; done) | (simp; omega)))⟩ ?_
  rintro X0 ⟨r0, r1, r2, hb⟩
  have H0 := Lib.hid r0
  have H1 := Lib.hid r1
  have H2 := Lib.hid r2
  have hs := hb.size
  clear r0 r1 r2
  obtain ⟨c00, c01, f0⟩ := H0.out.two
  have l0 := H0.out.lt
  obtain ⟨c10, c11, f1⟩ := H1.out.two
  have l1 := H1.out.lt
  obtain ⟨c20, c21, f2⟩ := H2.out.two
  have l2 := H2.out.lt
  go_wp2_with fail
  refine (HC.out _).mono ?_
  rintro e w1 ⟨rfl, hb1⟩
  clear c00 c01 f0 l0 c10 c11 f1 l1 c20 c21 f2 l2
  replace H0 := Lib.hid (H0.out.to hb1)
  replace H1 := Lib.hid (H1.out.to hb1)
  replace H2 := Lib.hid (H2.out.to hb1)
  replace hb := hb.trans (hb1.mono hs)
  replace hs := hb.size
  clear hb1
  obtain ⟨c00, c01, f0⟩ := H0.out.two
  have l0 := H0.out.lt
  obtain ⟨c10, c11, f1⟩ := H1.out.two
  have l1 := H1.out.lt
  obtain ⟨c20, c21, f2⟩ := H2.out.two
  have l2 := H2.out.lt
  go_wp2_with fail
  refine (mass_any _ _ _ (by omega) (by omega) (by omega) (by omega)).mono ?_
  rintro e w2 ⟨rfl, hb2⟩
  clear c00 c01 f0 l0 c10 c11 f1 l1 c20 c21 f2 l2
  replace H0 := Lib.hid (H0.out.to hb2)
  replace H1 := Lib.hid (H1.out.to hb2)
  replace H2 := Lib.hid (H2.out.to hb2)
  replace hb := hb.trans (hb2.mono hs)
  replace hs := hb.size
  clear hb2
  obtain ⟨c00, c01, f0⟩ := H0.out.two
  have l0 := H0.out.lt
  obtain ⟨c10, c11, f1⟩ := H1.out.two
  have l1 := H1.out.lt
  obtain ⟨c20, c21, f2⟩ := H2.out.two
  have l2 := H2.out.lt
  go_wp2_with fail
  refine (HW.out _).mono ?_
  rintro e wX ⟨rfl, rfl⟩
  go_wp2_with fail
  refine (HP.out _).mono ?_
  rintro e w3 ⟨rfl, hb3⟩
  clear c00 c01 f0 l0 c10 c11 f1 l1 c20 c21 f2 l2
  replace H0 := Lib.hid (H0.out.to hb3)
  replace H1 := Lib.hid (H1.out.to hb3)
  replace H2 := Lib.hid (H2.out.to hb3)
  replace hb := hb.trans (hb3.mono hs)
  replace hs := hb.size
  clear hb3
  obtain ⟨c00, c01, f0⟩ := H0.out.two
  have l0 := H0.out.lt
  obtain ⟨c10, c11, f1⟩ := H1.out.two
  have l1 := H1.out.lt
  obtain ⟨c20, c21, f2⟩ := H2.out.two
  have l2 := H2.out.lt
  go_upto_region 4 with (fail)
  refine cut_world (fun X => Row X w.heap.size 25 [.int .i64 a, .int .i64 s] ∧ Row X (w.heap.size + 1) 25 [.int .i64 0, .int .i64 0] ∧ Row X (w.heap.size + 1 + 1) 25 [.int .i64 0, .int .i64 0] ∧ Row X w3.heap.size 25 [.int .i64 (m - q), .int .i64 q] ∧ Below w.heap.size w X) ⟨H0.out.to (by repeat' (first | (with_reducible exact Below.refl _ _) | (with_reducible refine Below.alloc ?_ ?_ _) | (with_reducible refine Below.setCell ?_ ?_ _) | (with_reducible refine Below.drew ?_) | (with_reducible refine Below.trans ?_ (Below.mono (by with_reducible assumption) ?_)) | omega | (simp; done) | (simp; omega))), H1.out.to (by repeat' (first | (with_reducible exact Below.refl _ _) | (with_reducible refine Below.alloc ?_ ?_ _) | (with_reducible refine Below.setCell ?_ ?_ _) | (with_reducible refine Below.drew ?_) | (with_reducible refine Below.trans ?_ (Below.mono (by with_reducible assumption) ?_)) | omega | (simp; done) | (simp; omega))), H2.out.to (by repeat' (first | (with_reducible exact Below.refl _ _) | (with_reducible refine Below.alloc ?_ ?_ _) | (with_reducible refine Below.setCell ?_ ?_ _) | (with_reducible refine Below.drew ?_) | (with_reducible refine Below.trans ?_ (Below.mono (by with_reducible assumption) ?_)) | omega | (simp; done) | (simp; omega))), Row.new _ _ _, (by repeat' (first | (with_reducible exact Below.refl _ _) | (with_reducible refine Below.alloc ?_ ?_ _) | (with_reducible refine Below.setCell ?_ ?_ _) | (with_reducible refine Below.drew ?_) | (with_reducible refine Below.trans ?_ (Below.mono (by with_reducible assumption) ?_)) | omega | (simp; done) | (simp; omega)))⟩ ?_
  clear c00 c01 f0 l0 c10 c11 f1 l1 c20 c21 f2 l2
  clear H0 H1 H2 hb
  rintro Y ⟨r0, r1, r2, r3, hb⟩
  obtain ⟨B3, hB3⟩ : ∃ B, w3.heap.size = B := ⟨_, rfl⟩
  rw [hB3] at r3 ⊢
  have H0 := Lib.hid r0
  have H1 := Lib.hid r1
  have H2 := Lib.hid r2
  have H3 := Lib.hid r3
  clear hB3 hs r0 r1 r2 r3
  have hs := hb.size
  obtain ⟨c00, c01, f0⟩ := H0.out.two
  have l0 := H0.out.lt
  obtain ⟨c10, c11, f1⟩ := H1.out.two
  have l1 := H1.out.lt
  obtain ⟨c20, c21, f2⟩ := H2.out.two
  have l2 := H2.out.lt
  obtain ⟨c30, c31, f3⟩ := H3.out.two
  have l3 := H3.out.lt
  refine wp_region_below_tail 4 (by kernel_rfl) (by kernel_rfl) ?_
  simp only [List.take_succ_cons, List.take_zero, List.drop_succ_cons, List.drop_zero]
  repeat (go_big_quiet_step ((go_at_call 39; exact Calls.regrown_of (minus_any _ _ _ _ _ (by omega) (by omega) (by omega) (by omega) (by omega) (by omega) (by omega) (by omega)))))
  refine wpQuiet_nil ?_
  intro wq hwq
  have hbq := of_cls hwq
  clear hwq
  clear c00 c01 f0 l0 c10 c11 f1 l1 c20 c21 f2 l2 c30 c31 f3 l3
  replace H0 := Lib.hid (H0.out.to hbq)
  replace H1 := Lib.hid (H1.out.to hbq)
  replace H2 := Lib.hid (H2.out.to hbq)
  replace H3 := Lib.hid (H3.out.to hbq)
  replace hb := hb.trans (hbq.mono hs)
  replace hs := hb.size
  clear hbq
  obtain ⟨c00, c01, f0⟩ := H0.out.two
  have l0 := H0.out.lt
  obtain ⟨c10, c11, f1⟩ := H1.out.two
  have l1 := H1.out.lt
  obtain ⟨c20, c21, f2⟩ := H2.out.two
  have l2 := H2.out.lt
  go_wp2_with fail
  ((try simp only [Exit.inBlock, Exit.then]); refine bodyPost_ret (by simp [results, Tryd.results13, go_sem, *]; try rfl) rfl ?_)
  exact ⟨rfl, (by repeat' (first | (with_reducible exact Below.refl _ _) | (with_reducible refine Below.alloc ?_ ?_ _) | (with_reducible refine Below.setCell ?_ ?_ _) | (with_reducible refine Below.drew ?_) | (with_reducible refine Below.trans ?_ (Below.mono (by with_reducible assumption) ?_)) | omega | (simp; done) | (simp; omega)))⟩
set_option maxRecDepth 100000 in
set_option maxHeartbeats 8000000 in
theorem sTake_no (a s m : Int) (w : World) (hB : tkB a s m = false) :
    Calls Tryd.prog 14 #[.agg #[.int .i64 a, .int .i64 s], .int .i64 m] w fun e w' => e = .returned (.tuple #[.agg #[.int .i64 0, .int .i64 0], .agg #[.int .i64 0, .int .i64 0], .bool false]) ∧ Below w.heap.size w w' := by
  cases hOK : (inB a 0 1000000 && inB s 0 1000000)
  · have HC := Lib.hid (fun W => (l2Brine_any a s W))
    rw [hOK] at HC
    clear hB hOK
    go_enter Tryd.func14, Tryd.ntmps14
    go_upto_region 1 with (fail)
    refine cut_world (fun X => Row X w.heap.size 25 [.int .i64 a, .int .i64 s] ∧ Row X (w.heap.size + 1) 25 [.int .i64 0, .int .i64 0] ∧ Row X (w.heap.size + 1 + 1) 25 [.int .i64 0, .int .i64 0] ∧ Below w.heap.size w X) ⟨((Row.new _ _ _).alloc _).alloc _, (row_new_at' _ _ _ _ (by simp)).alloc _, row_new_at' _ _ _ _ (by simp), (by repeat' (first | (with_reducible exact Below.refl _ _) | (with_reducible refine Below.alloc ?_ ?_ _) | (with_reducible refine Below.setCell ?_ ?_ _) | (with_reducible refine Below.drew ?_) | (with_reducible refine Below.trans ?_ (Below.mono (by with_reducible assumption) ?_)) | omega | (simp; done) | (simp; omega)))⟩ ?_
    rintro X0 ⟨r0, r1, r2, hb⟩
    have H0 := Lib.hid r0
    have H1 := Lib.hid r1
    have H2 := Lib.hid r2
    have hs := hb.size
    clear r0 r1 r2
    obtain ⟨c00, c01, f0⟩ := H0.out.two
    have l0 := H0.out.lt
    obtain ⟨c10, c11, f1⟩ := H1.out.two
    have l1 := H1.out.lt
    obtain ⟨c20, c21, f2⟩ := H2.out.two
    have l2 := H2.out.lt
    go_wp2_with fail
    refine wp_region_quiet_below (by kernel_rfl) (by kernel_rfl) ?_
    repeat (go_big_quiet_step ((go_at_call 27; exact Calls.regrown_of (HC.out _))))
    refine wpQuiet_nil ?_
    intro w1 hwq
    have hb1 := of_cls hwq
    clear hwq
    clear c00 c01 f0 l0 c10 c11 f1 l1 c20 c21 f2 l2
    replace H0 := Lib.hid (H0.out.to hb1)
    replace H1 := Lib.hid (H1.out.to hb1)
    replace H2 := Lib.hid (H2.out.to hb1)
    replace hb := hb.trans (hb1.mono hs)
    replace hs := hb.size
    clear hb1
    obtain ⟨c00, c01, f0⟩ := H0.out.two
    have l0 := H0.out.lt
    obtain ⟨c10, c11, f1⟩ := H1.out.two
    have l1 := H1.out.lt
    obtain ⟨c20, c21, f2⟩ := H2.out.two
    have l2 := H2.out.lt
    go_wp2_with fail
    ((try simp only [Exit.inBlock, Exit.then]); refine bodyPost_ret (by simp [results, Tryd.results14, go_sem, *]; try rfl) rfl ?_)
    exact ⟨rfl, (by repeat' (first | (with_reducible exact Below.refl _ _) | (with_reducible refine Below.alloc ?_ ?_ _) | (with_reducible refine Below.setCell ?_ ?_ _) | (with_reducible refine Below.drew ?_) | (with_reducible refine Below.trans ?_ (Below.mono (by with_reducible assumption) ?_)) | omega | (simp; done) | (simp; omega)))⟩
  · have hp := hOK
    simp only [Bool.and_eq_true, inB_iff] at hp
    obtain ⟨⟨ha0, ha1⟩, hs0, hs1⟩ := hp
    have hm : inB m 0 (a + s) = false := by rw [tkB, hOK] at hB; exact hB
    have HC := Lib.hid (fun W => (l2Brine_any a s W))
    have HW := Lib.hid (fun W => (l1In_any m 0 (a + s) W))
    rw [hOK] at HC
    rw [hm] at HW
    clear hB hOK hm
    go_enter Tryd.func14, Tryd.ntmps14
    go_upto_region 1 with (fail)
    refine cut_world (fun X => Row X w.heap.size 25 [.int .i64 a, .int .i64 s] ∧ Row X (w.heap.size + 1) 25 [.int .i64 0, .int .i64 0] ∧ Row X (w.heap.size + 1 + 1) 25 [.int .i64 0, .int .i64 0] ∧ Below w.heap.size w X) ⟨((Row.new _ _ _).alloc _).alloc _, (row_new_at' _ _ _ _ (by simp)).alloc _, row_new_at' _ _ _ _ (by simp), (by repeat' (first | (with_reducible exact Below.refl _ _) | (with_reducible refine Below.alloc ?_ ?_ _) | (with_reducible refine Below.setCell ?_ ?_ _) | (with_reducible refine Below.drew ?_) | (with_reducible refine Below.trans ?_ (Below.mono (by with_reducible assumption) ?_)) | omega | (simp; done) | (simp; omega)))⟩ ?_
    rintro X0 ⟨r0, r1, r2, hb⟩
    have H0 := Lib.hid r0
    have H1 := Lib.hid r1
    have H2 := Lib.hid r2
    have hs := hb.size
    clear r0 r1 r2
    obtain ⟨c00, c01, f0⟩ := H0.out.two
    have l0 := H0.out.lt
    obtain ⟨c10, c11, f1⟩ := H1.out.two
    have l1 := H1.out.lt
    obtain ⟨c20, c21, f2⟩ := H2.out.two
    have l2 := H2.out.lt
    go_wp2_with fail
    refine wp_region_quiet_below (by kernel_rfl) (by kernel_rfl) ?_
    repeat (go_big_quiet_step (first | (go_at_call 27; exact Calls.regrown_of (HC.out _)) | (go_at_call 35; exact Calls.regrown_of (l2Mass_any _ _ _ (by omega) (by omega) (by omega) (by omega))) | (go_at_call 40; exact Calls.regrown_of (same_below (HW.out _)))))
    refine wpQuiet_nil ?_
    intro w1 hwq
    have hb1 := of_cls hwq
    clear hwq
    clear c00 c01 f0 l0 c10 c11 f1 l1 c20 c21 f2 l2
    replace H0 := Lib.hid (H0.out.to hb1)
    replace H1 := Lib.hid (H1.out.to hb1)
    replace H2 := Lib.hid (H2.out.to hb1)
    replace hb := hb.trans (hb1.mono hs)
    replace hs := hb.size
    clear hb1
    obtain ⟨c00, c01, f0⟩ := H0.out.two
    have l0 := H0.out.lt
    obtain ⟨c10, c11, f1⟩ := H1.out.two
    have l1 := H1.out.lt
    obtain ⟨c20, c21, f2⟩ := H2.out.two
    have l2 := H2.out.lt
    go_wp2_with fail
    ((try simp only [Exit.inBlock, Exit.then]); refine bodyPost_ret (by simp [results, Tryd.results14, go_sem, *]; try rfl) rfl ?_)
    exact ⟨rfl, (by repeat' (first | (with_reducible exact Below.refl _ _) | (with_reducible refine Below.alloc ?_ ?_ _) | (with_reducible refine Below.setCell ?_ ?_ _) | (with_reducible refine Below.drew ?_) | (with_reducible refine Below.trans ?_ (Below.mono (by with_reducible assumption) ?_)) | omega | (simp; done) | (simp; omega)))⟩
set_option maxRecDepth 100000 in
set_option maxHeartbeats 8000000 in
theorem sTake_yes (a s m : Int) (w : World) (hB : tkB a s m = true) :
    Calls Tryd.prog 14 #[.agg #[.int .i64 a, .int .i64 s], .int .i64 m] w fun e w' => e = .returned (.tuple #[.agg #[.int .i64 (m - pS a s m), .int .i64 (pS a s m)], .agg #[.int .i64 (a - (m - pS a s m)), .int .i64 (s - pS a s m)], .bool true]) ∧ Below w.heap.size w w' := by
  have hp := hB
  simp only [tkB, Bool.and_eq_true, inB_iff] at hp
  obtain ⟨⟨⟨ha0, ha1⟩, hs0, hs1⟩, hm0, hm1⟩ := hp
  have hOK : (inB a 0 1000000 && inB s 0 1000000) = true := by rw [inB_iff.2 ⟨ha0, ha1⟩, inB_iff.2 ⟨hs0, hs1⟩]; rfl
  have hM : inB m 0 (a + s) = true := inB_iff.2 ⟨hm0, hm1⟩
  have hq := pS_bd ha0 hs0 hm0 hm1
  have HC := Lib.hid (fun W => (l2Brine_any a s W))
  have HW := Lib.hid (fun W => (l1In_any m 0 (a + s) W))
  rw [hOK] at HC
  rw [hM] at HW
  have HP := Lib.hid (fun W => l2Part_any a s m W ha0 ha1 hs0 hs1 hm0 hm1)
  obtain ⟨q, hqq⟩ : ∃ q, pS a s m = q := ⟨_, rfl⟩
  rw [hqq] at HP hq ⊢
  have hle : ¬ a < m - q := by omega
  clear hB hOK hM hqq
  go_enter Tryd.func14, Tryd.ntmps14
  go_upto_region 1 with (fail)
  refine cut_world (fun X => Row X w.heap.size 25 [.int .i64 a, .int .i64 s] ∧ Row X (w.heap.size + 1) 25 [.int .i64 0, .int .i64 0] ∧ Row X (w.heap.size + 1 + 1) 25 [.int .i64 0, .int .i64 0] ∧ Below w.heap.size w X) ⟨((Row.new _ _ _).alloc _).alloc _, (row_new_at' _ _ _ _ (by simp)).alloc _, row_new_at' _ _ _ _ (by simp), (by repeat' (first | (with_reducible exact Below.refl _ _) | (with_reducible refine Below.alloc ?_ ?_ _) | (with_reducible refine Below.setCell ?_ ?_ _) | (with_reducible refine Below.drew ?_) | (with_reducible refine Below.trans ?_ (Below.mono (by with_reducible assumption) ?_)) | omega | (simp; done) | (simp; omega)))⟩ ?_
  rintro X0 ⟨r0, r1, r2, hb⟩
  have H0 := Lib.hid r0
  have H1 := Lib.hid r1
  have H2 := Lib.hid r2
  have hs := hb.size
  clear r0 r1 r2
  obtain ⟨c00, c01, f0⟩ := H0.out.two
  have l0 := H0.out.lt
  obtain ⟨c10, c11, f1⟩ := H1.out.two
  have l1 := H1.out.lt
  obtain ⟨c20, c21, f2⟩ := H2.out.two
  have l2 := H2.out.lt
  go_wp2_with fail
  refine wp_region_quiet_below (by kernel_rfl) (by kernel_rfl) ?_
  repeat (go_big_quiet_step (first | (go_at_call 27; exact Calls.regrown_of (HC.out _)) | (go_at_call 35; exact Calls.regrown_of (l2Mass_any _ _ _ (by omega) (by omega) (by omega) (by omega))) | (go_at_call 40; exact Calls.regrown_of (same_below (HW.out _))) | (go_at_call 41; exact Calls.regrown_of (HP.out _))))
  refine wpQuiet_nil ?_
  intro w1 hwq
  have hb1 := of_cls hwq
  clear hwq
  clear c00 c01 f0 l0 c10 c11 f1 l1 c20 c21 f2 l2
  replace H0 := Lib.hid (H0.out.to hb1)
  replace H1 := Lib.hid (H1.out.to hb1)
  replace H2 := Lib.hid (H2.out.to hb1)
  replace hb := hb.trans (hb1.mono hs)
  replace hs := hb.size
  clear hb1
  obtain ⟨c00, c01, f0⟩ := H0.out.two
  have l0 := H0.out.lt
  obtain ⟨c10, c11, f1⟩ := H1.out.two
  have l1 := H1.out.lt
  obtain ⟨c20, c21, f2⟩ := H2.out.two
  have l2 := H2.out.lt
  go_wp2_with fail
  refine (HP.out _).mono ?_
  rintro e w3 ⟨rfl, hb3⟩
  clear c00 c01 f0 l0 c10 c11 f1 l1 c20 c21 f2 l2
  replace H0 := Lib.hid (H0.out.to hb3)
  replace H1 := Lib.hid (H1.out.to hb3)
  replace H2 := Lib.hid (H2.out.to hb3)
  replace hb := hb.trans (hb3.mono hs)
  replace hs := hb.size
  clear hb3
  obtain ⟨c00, c01, f0⟩ := H0.out.two
  have l0 := H0.out.lt
  obtain ⟨c10, c11, f1⟩ := H1.out.two
  have l1 := H1.out.lt
  obtain ⟨c20, c21, f2⟩ := H2.out.two
  have l2 := H2.out.lt
  go_upto_region 4 with (fail)
  refine cut_world (fun X => Row X w.heap.size 25 [.int .i64 a, .int .i64 s] ∧ Row X (w.heap.size + 1) 25 [.int .i64 0, .int .i64 0] ∧ Row X (w.heap.size + 1 + 1) 25 [.int .i64 0, .int .i64 0] ∧ Row X w3.heap.size 25 [.int .i64 (m - q), .int .i64 q] ∧ Below w.heap.size w X) ⟨H0.out.to (by repeat' (first | (with_reducible exact Below.refl _ _) | (with_reducible refine Below.alloc ?_ ?_ _) | (with_reducible refine Below.setCell ?_ ?_ _) | (with_reducible refine Below.drew ?_) | (with_reducible refine Below.trans ?_ (Below.mono (by with_reducible assumption) ?_)) | omega | (simp; done) | (simp; omega))), H1.out.to (by repeat' (first | (with_reducible exact Below.refl _ _) | (with_reducible refine Below.alloc ?_ ?_ _) | (with_reducible refine Below.setCell ?_ ?_ _) | (with_reducible refine Below.drew ?_) | (with_reducible refine Below.trans ?_ (Below.mono (by with_reducible assumption) ?_)) | omega | (simp; done) | (simp; omega))), H2.out.to (by repeat' (first | (with_reducible exact Below.refl _ _) | (with_reducible refine Below.alloc ?_ ?_ _) | (with_reducible refine Below.setCell ?_ ?_ _) | (with_reducible refine Below.drew ?_) | (with_reducible refine Below.trans ?_ (Below.mono (by with_reducible assumption) ?_)) | omega | (simp; done) | (simp; omega))), Row.new _ _ _, (by repeat' (first | (with_reducible exact Below.refl _ _) | (with_reducible refine Below.alloc ?_ ?_ _) | (with_reducible refine Below.setCell ?_ ?_ _) | (with_reducible refine Below.drew ?_) | (with_reducible refine Below.trans ?_ (Below.mono (by with_reducible assumption) ?_)) | omega | (simp; done) | (simp; omega)))⟩ ?_
  clear c00 c01 f0 l0 c10 c11 f1 l1 c20 c21 f2 l2
  clear H0 H1 H2 hb
  rintro Y ⟨r0, r1, r2, r3, hb⟩
  obtain ⟨B3, hB3⟩ : ∃ B, w3.heap.size = B := ⟨_, rfl⟩
  rw [hB3] at r3 ⊢
  have H0 := Lib.hid r0
  have H1 := Lib.hid r1
  have H2 := Lib.hid r2
  have H3 := Lib.hid r3
  clear hB3 hs r0 r1 r2 r3
  have hs := hb.size
  obtain ⟨c00, c01, f0⟩ := H0.out.two
  have l0 := H0.out.lt
  obtain ⟨c10, c11, f1⟩ := H1.out.two
  have l1 := H1.out.lt
  obtain ⟨c20, c21, f2⟩ := H2.out.two
  have l2 := H2.out.lt
  obtain ⟨c30, c31, f3⟩ := H3.out.two
  have l3 := H3.out.lt
  refine wp_region_below_tail 4 (by kernel_rfl) (by kernel_rfl) ?_
  simp only [List.take_succ_cons, List.take_zero, List.drop_succ_cons, List.drop_zero]
  repeat (go_big_quiet_step ((go_at_call 42; exact Calls.regrown_of (l2Left_any _ _ _ _ _ (by omega) (by omega) (by omega) (by omega) (by omega) (by omega) (by omega) (by omega)))))
  refine wpQuiet_nil ?_
  intro wq hwq
  have hbq := of_cls hwq
  clear hwq
  clear c00 c01 f0 l0 c10 c11 f1 l1 c20 c21 f2 l2 c30 c31 f3 l3
  replace H0 := Lib.hid (H0.out.to hbq)
  replace H1 := Lib.hid (H1.out.to hbq)
  replace H2 := Lib.hid (H2.out.to hbq)
  replace H3 := Lib.hid (H3.out.to hbq)
  replace hb := hb.trans (hbq.mono hs)
  replace hs := hb.size
  clear hbq
  obtain ⟨c00, c01, f0⟩ := H0.out.two
  have l0 := H0.out.lt
  obtain ⟨c10, c11, f1⟩ := H1.out.two
  have l1 := H1.out.lt
  obtain ⟨c20, c21, f2⟩ := H2.out.two
  have l2 := H2.out.lt
  go_wp2_with fail
  ((try simp only [Exit.inBlock, Exit.then]); refine bodyPost_ret (by simp [results, Tryd.results14, go_sem, *]; try rfl) rfl ?_)
  exact ⟨rfl, (by repeat' (first | (with_reducible exact Below.refl _ _) | (with_reducible refine Below.alloc ?_ ?_ _) | (with_reducible refine Below.setCell ?_ ?_ _) | (with_reducible refine Below.drew ?_) | (with_reducible refine Below.trans ?_ (Below.mono (by with_reducible assumption) ?_)) | omega | (simp; done) | (simp; omega)))⟩
end Go.Proofs.YtocaodoagiokjaaDoor
