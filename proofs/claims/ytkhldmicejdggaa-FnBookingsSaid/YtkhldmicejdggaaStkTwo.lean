/- Contracts of Unexplained, LowestStock, FirstShort, StartNeeded, AreSound (chapter 20), of the program and of the reference. -/
import Derived.Test.YtkhldmicejdggaaStkMore
set_option linter.unusedSimpArgs false
set_option linter.unusedVariables false
namespace Go.Proofs.Ytkhldmicejdggaa
open Go.RowKit Go.Sort Go.Salt
attribute [local go_sem] cell_rg
attribute [local go_sem ↓] run_max_mx run_min_mn
set_option maxHeartbeats 4000000 in
theorem iUnexplained_any (A : Option Addr) (c : Nat) (xs : List Bk) (s d n : Int) (w : World) (h : Rd w w.heap.size A 3 Bk.enc xs) (hx : xs.length ≤ 1048576) :
    Calls Try.prog 19 #[.slice A xs.length c, .int .i64 s, .int .i64 d, .int .i64 n] w fun e w' => e = .returned (.tuple #[.int .i64 (unxV xs s d n), .bool (unxB xs s d n)]) ∧ Below w.heap.size w w' := by
  cases hG : stoB xs s d
  · have hq : unxB xs s d n = false := by unfold unxB; unfold stoB at hG; rw [hG]; rfl
    go_enter Try.func19, Try.ntmps19
    go_wp2_with fail
    (go_at_call 16; refine (iStockOn_any _ _ _ _ _ _ h hx).mono ?_; rintro e w1 ⟨rfl, hb1⟩)
    (have hs1 := hb1.size; (try simp at hs1); obtain ⟨hc1, hf1, hn1⟩ := bcell hb1; (try have hz1_w_0 : w.heap.size < w1.heap.size := by omega); (try have hz1_w_1 : w.heap.size + 1 < w1.heap.size := by omega); (try have hz1_w_2 : w.heap.size + 2 < w1.heap.size := by omega); (try have hz1_w_2b : w.heap.size + 1 + 1 < w1.heap.size := by omega))
    go_wp2_with fail
    go_ret2
    exact ⟨ret_ib (by simp [unxV, hq]) hq.symm, (by repeat' (first | (with_reducible exact Below.refl _ _) | (with_reducible refine Below.alloc ?_ ?_ _) | (with_reducible refine Below.setCell ?_ ?_ _) | (with_reducible refine Below.drew ?_) | (with_reducible refine Below.trans ?_ (Below.mono (by with_reducible assumption) ?_)) | omega | (simp; done) | (simp; omega)))⟩
  · have hV : stoV xs s d = stk xs s d := by rw [stoV, if_pos hG]
    have hG' := hG
    unfold stoB at hG'
    rw [Bool.and_eq_true, Bool.and_eq_true] at hG'
    obtain ⟨⟨hG0, hG1⟩, hG2⟩ := hG'
    have hbd := bksOK_bd hG0
    have hst := inB_iff.1 hG1
    have hsb := stk_bd (s := s) (day := d) hbd.2 hbd.1
    rw [← hV] at hsb
    have HV := Lib.hid hV
    clear hbd hV hG0 hG1 hG2
    cases hN : inB n 0 1000000000
    · have hq : unxB xs s d n = false := by simp [unxB, hN]
      go_enter Try.func19, Try.ntmps19
      go_wp2_with (first | (go_at_call 56; refine (within_any _ _ _ _).mono ?_; rintro e wX ⟨rfl, rfl⟩))
      (go_at_call 16; refine (iStockOn_any _ _ _ _ _ _ h hx).mono ?_; rintro e w1 ⟨rfl, hb1⟩)
      (have hs1 := hb1.size; (try simp at hs1); obtain ⟨hc1, hf1, hn1⟩ := bcell hb1; (try have hz1_w_0 : w.heap.size < w1.heap.size := by omega); (try have hz1_w_1 : w.heap.size + 1 < w1.heap.size := by omega); (try have hz1_w_2 : w.heap.size + 2 < w1.heap.size := by omega); (try have hz1_w_2b : w.heap.size + 1 + 1 < w1.heap.size := by omega))
      go_wp2_with (first | (go_at_call 56; refine (within_any _ _ _ _).mono ?_; rintro e wX ⟨rfl, rfl⟩))
      go_ret2
      exact ⟨ret_ib (by simp [unxV, hq]) hq.symm, (by repeat' (first | (with_reducible exact Below.refl _ _) | (with_reducible refine Below.alloc ?_ ?_ _) | (with_reducible refine Below.setCell ?_ ?_ _) | (with_reducible refine Below.drew ?_) | (with_reducible refine Below.trans ?_ (Below.mono (by with_reducible assumption) ?_)) | omega | (simp; done) | (simp; omega)))⟩
    · have hnb := inB_iff.1 hN
      have Hq := Lib.hid (show unxB xs s d n = true by unfold unxB; unfold stoB at hG; rw [hG, hN]; rfl)
      go_enter Try.func19, Try.ntmps19
      go_wp2_with (first | (go_at_call 56; refine (within_any _ _ _ _).mono ?_; rintro e wX ⟨rfl, rfl⟩))
      (go_at_call 16; refine (iStockOn_any _ _ _ _ _ _ h hx).mono ?_; rintro e w1 ⟨rfl, hb1⟩)
      (have hs1 := hb1.size; (try simp at hs1); obtain ⟨hc1, hf1, hn1⟩ := bcell hb1; (try have hz1_w_0 : w.heap.size < w1.heap.size := by omega); (try have hz1_w_1 : w.heap.size + 1 < w1.heap.size := by omega); (try have hz1_w_2 : w.heap.size + 2 < w1.heap.size := by omega); (try have hz1_w_2b : w.heap.size + 1 + 1 < w1.heap.size := by omega))
      go_wp2_with (first | (go_at_call 56; refine (within_any _ _ _ _).mono ?_; rintro e wX ⟨rfl, rfl⟩))
      go_ret2
      exact ⟨ret_ib (by rw [unxV, if_pos Hq.out, HV.out]) Hq.out.symm, (by repeat' (first | (with_reducible exact Below.refl _ _) | (with_reducible refine Below.alloc ?_ ?_ _) | (with_reducible refine Below.setCell ?_ ?_ _) | (with_reducible refine Below.drew ?_) | (with_reducible refine Below.trans ?_ (Below.mono (by with_reducible assumption) ?_)) | omega | (simp; done) | (simp; omega)))⟩
set_option maxHeartbeats 4000000 in
theorem sUnexplained_any (A : Option Addr) (c : Nat) (xs : List Bk) (s d n : Int) (w : World) (h : Rd w w.heap.size A 3 Bk.enc xs) (hx : xs.length ≤ 1048576) :
    Calls Try.prog 18 #[.slice A xs.length c, .int .i64 s, .int .i64 d, .int .i64 n] w fun e w' => e = .returned (.tuple #[.int .i64 (unxV xs s d n), .bool (unxB xs s d n)]) ∧ Below w.heap.size w w' := by
  cases hG : soB xs s
  · have hq : unxB xs s d n = false := by unfold unxB; unfold soB at hG; rw [hG]; rfl
    go_enter Try.func18, Try.ntmps18
    go_wp2_with fail
    (go_at_call 48; refine (l20Start_any _ _ _ _ _ h hx).mono ?_; rintro e w1 ⟨rfl, hb1⟩)
    (have hs1 := hb1.size; (try simp at hs1); obtain ⟨hc1, hf1, hn1⟩ := bcell hb1; (try have hz1_w_0 : w.heap.size < w1.heap.size := by omega); (try have hz1_w_1 : w.heap.size + 1 < w1.heap.size := by omega); (try have hz1_w_2 : w.heap.size + 2 < w1.heap.size := by omega); (try have hz1_w_2b : w.heap.size + 1 + 1 < w1.heap.size := by omega))
    go_wp2_with fail
    go_ret2
    exact ⟨ret_ib (by simp [unxV, hq]) hq.symm, (by repeat' (first | (with_reducible exact Below.refl _ _) | (with_reducible refine Below.alloc ?_ ?_ _) | (with_reducible refine Below.setCell ?_ ?_ _) | (with_reducible refine Below.drew ?_) | (with_reducible refine Below.trans ?_ (Below.mono (by with_reducible assumption) ?_)) | omega | (simp; done) | (simp; omega)))⟩
  · have hG' := hG
    unfold soB at hG'
    rw [Bool.and_eq_true] at hG'
    obtain ⟨hG0, hG1⟩ := hG'
    have hbd := bksOK_bd hG0; have hv := Lib.hid hbd.2; have hn := hbd.1; have hst := inB_iff.1 hG1; clear hbd
    have hsb := stk_bd (s := s) (day := d) hv.out hn
    clear hG0 hG1
    cases hD : inB d 0 4000
    · have hq : unxB xs s d n = false := by simp [unxB, hD]
      go_enter Try.func18, Try.ntmps18
      go_wp2_with (first | (go_at_call 49; refine (l2Day_any _ _).mono ?_; rintro e wX ⟨rfl, rfl⟩))
      (go_at_call 48; refine (l20Start_any _ _ _ _ _ h hx).mono ?_; rintro e w1 ⟨rfl, hb1⟩)
      (have hs1 := hb1.size; (try simp at hs1); obtain ⟨hc1, hf1, hn1⟩ := bcell hb1; (try have hz1_w_0 : w.heap.size < w1.heap.size := by omega); (try have hz1_w_1 : w.heap.size + 1 < w1.heap.size := by omega); (try have hz1_w_2 : w.heap.size + 2 < w1.heap.size := by omega); (try have hz1_w_2b : w.heap.size + 1 + 1 < w1.heap.size := by omega))
      go_wp2_with (first | (go_at_call 49; refine (l2Day_any _ _).mono ?_; rintro e wX ⟨rfl, rfl⟩))
      go_ret2
      exact ⟨ret_ib (by simp [unxV, hq]) hq.symm, (by repeat' (first | (with_reducible exact Below.refl _ _) | (with_reducible refine Below.alloc ?_ ?_ _) | (with_reducible refine Below.setCell ?_ ?_ _) | (with_reducible refine Below.drew ?_) | (with_reducible refine Below.trans ?_ (Below.mono (by with_reducible assumption) ?_)) | omega | (simp; done) | (simp; omega)))⟩
    · cases hN : inB n 0 1000000000
      · have hq : unxB xs s d n = false := by simp [unxB, hN]
        go_enter Try.func18, Try.ntmps18
        go_wp2_with (first | (go_at_call 49; refine (l2Day_any _ _).mono ?_; rintro e wX ⟨rfl, rfl⟩) | (go_at_call 55; refine (l1In_any _ _ _ _).mono ?_; rintro e wX ⟨rfl, rfl⟩))
        (go_at_call 48; refine (l20Start_any _ _ _ _ _ h hx).mono ?_; rintro e w1 ⟨rfl, hb1⟩)
        (have hs1 := hb1.size; (try simp at hs1); obtain ⟨hc1, hf1, hn1⟩ := bcell hb1; (try have hz1_w_0 : w.heap.size < w1.heap.size := by omega); (try have hz1_w_1 : w.heap.size + 1 < w1.heap.size := by omega); (try have hz1_w_2 : w.heap.size + 2 < w1.heap.size := by omega); (try have hz1_w_2b : w.heap.size + 1 + 1 < w1.heap.size := by omega))
        go_wp2_with (first | (go_at_call 49; refine (l2Day_any _ _).mono ?_; rintro e wX ⟨rfl, rfl⟩) | (go_at_call 55; refine (l1In_any _ _ _ _).mono ?_; rintro e wX ⟨rfl, rfl⟩))
        go_ret2
        exact ⟨ret_ib (by simp [unxV, hq]) hq.symm, (by repeat' (first | (with_reducible exact Below.refl _ _) | (with_reducible refine Below.alloc ?_ ?_ _) | (with_reducible refine Below.setCell ?_ ?_ _) | (with_reducible refine Below.drew ?_) | (with_reducible refine Below.trans ?_ (Below.mono (by with_reducible assumption) ?_)) | omega | (simp; done) | (simp; omega)))⟩
      · have hnb := inB_iff.1 hN
        have Hq := Lib.hid (show unxB xs s d n = true by unfold unxB; unfold soB at hG; rw [hG, hD, hN]; rfl)
        go_enter Try.func18, Try.ntmps18
        go_wp2_with (first | (go_at_call 49; refine (l2Day_any _ _).mono ?_; rintro e wX ⟨rfl, rfl⟩) | (go_at_call 55; refine (l1In_any _ _ _ _).mono ?_; rintro e wX ⟨rfl, rfl⟩))
        (go_at_call 48; refine (l20Start_any _ _ _ _ _ h hx).mono ?_; rintro e w1 ⟨rfl, hb1⟩)
        (have hs1 := hb1.size; (try simp at hs1); obtain ⟨hc1, hf1, hn1⟩ := bcell hb1; (try have hz1_w_0 : w.heap.size < w1.heap.size := by omega); (try have hz1_w_1 : w.heap.size + 1 < w1.heap.size := by omega); (try have hz1_w_2 : w.heap.size + 2 < w1.heap.size := by omega); (try have hz1_w_2b : w.heap.size + 1 + 1 < w1.heap.size := by omega))
        go_wp2_with (first | (go_at_call 49; refine (l2Day_any _ _).mono ?_; rintro e wX ⟨rfl, rfl⟩) | (go_at_call 55; refine (l1In_any _ _ _ _).mono ?_; rintro e wX ⟨rfl, rfl⟩) | (go_at_call 50; refine (l20Stock_any _ _ _ _ _ _ (h.to hb1) hv hn (by omega) (by omega)).mono ?_; rintro e wX ⟨rfl, rfl⟩))
        go_ret2
        exact ⟨ret_ib (by rw [unxV, if_pos Hq.out]) Hq.out.symm, (by repeat' (first | (with_reducible exact Below.refl _ _) | (with_reducible refine Below.alloc ?_ ?_ _) | (with_reducible refine Below.setCell ?_ ?_ _) | (with_reducible refine Below.drew ?_) | (with_reducible refine Below.trans ?_ (Below.mono (by with_reducible assumption) ?_)) | omega | (simp; done) | (simp; omega)))⟩
set_option maxHeartbeats 4000000 in
theorem iLowestStock_any (A : Option Addr) (c : Nat) (xs : List Bk) (s : Int) (w : World) (h : Rd w w.heap.size A 3 Bk.enc xs) (hx : xs.length ≤ 1048576) :
    Calls Try.prog 21 #[.slice A xs.length c, .int .i64 s] w fun e w' => e = .returned (.tuple #[.int .i64 (losD xs s), .int .i64 (losV xs s), .bool (losB xs s)]) ∧ Below w.heap.size w w' := by
  cases hG0 : bksOK xs
  · have hq : losB xs s = false := by simp [losB, hG0]
    go_enter Try.func21, Try.ntmps21
    go_wp2_with fail
    (go_at_call 37; refine (areBookings_any _ _ _ _ h hx).mono ?_; rintro e w1 ⟨rfl, hb1⟩)
    (have hs1 := hb1.size; (try simp at hs1); obtain ⟨hc1, hf1, hn1⟩ := bcell hb1; (try have hz1_w_0 : w.heap.size < w1.heap.size := by omega); (try have hz1_w_1 : w.heap.size + 1 < w1.heap.size := by omega); (try have hz1_w_2 : w.heap.size + 2 < w1.heap.size := by omega); (try have hz1_w_2b : w.heap.size + 1 + 1 < w1.heap.size := by omega))
    go_wp2_with fail
    go_ret3
    exact ⟨ret_iib (by simp [losD, hG0]) (by simp [losV, hG0]) hq.symm, (by repeat' (first | (with_reducible exact Below.refl _ _) | (with_reducible refine Below.alloc ?_ ?_ _) | (with_reducible refine Below.setCell ?_ ?_ _) | (with_reducible refine Below.drew ?_) | (with_reducible refine Below.trans ?_ (Below.mono (by with_reducible assumption) ?_)) | omega | (simp; done) | (simp; omega)))⟩
  · cases hG1 : inB s 0 1000000
    · have hq : losB xs s = false := by simp [losB, hG1]
      go_enter Try.func21, Try.ntmps21
      go_wp2_with (first | (go_at_call 51; refine (isStart_any _ _).mono ?_; rintro e wX ⟨rfl, rfl⟩))
      (go_at_call 37; refine (areBookings_any _ _ _ _ h hx).mono ?_; rintro e w1 ⟨rfl, hb1⟩)
      (have hs1 := hb1.size; (try simp at hs1); obtain ⟨hc1, hf1, hn1⟩ := bcell hb1; (try have hz1_w_0 : w.heap.size < w1.heap.size := by omega); (try have hz1_w_1 : w.heap.size + 1 < w1.heap.size := by omega); (try have hz1_w_2 : w.heap.size + 2 < w1.heap.size := by omega); (try have hz1_w_2b : w.heap.size + 1 + 1 < w1.heap.size := by omega))
      go_wp2_with (first | (go_at_call 51; refine (isStart_any _ _).mono ?_; rintro e wX ⟨rfl, rfl⟩))
      go_ret3
      exact ⟨ret_iib (by simp [losD, hG1]) (by simp [losV, hG1]) hq.symm, (by repeat' (first | (with_reducible exact Below.refl _ _) | (with_reducible refine Below.alloc ?_ ?_ _) | (with_reducible refine Below.setCell ?_ ?_ _) | (with_reducible refine Below.drew ?_) | (with_reducible refine Below.trans ?_ (Below.mono (by with_reducible assumption) ?_)) | omega | (simp; done) | (simp; omega)))⟩
    · have hbd := bksOK_bd hG0; have hv := Lib.hid hbd.2; have hn := hbd.1; have hst := inB_iff.1 hG1; clear hbd
      have Hq := Lib.hid (show (bksOK xs && inB s 0 1000000) = true by simp [hG0, hG1])
      go_enter Try.func21, Try.ntmps21
      go_wp2_with (first | (go_at_call 51; refine (isStart_any _ _).mono ?_; rintro e wX ⟨rfl, rfl⟩))
      (go_at_call 37; refine (areBookings_any _ _ _ _ h hx).mono ?_; rintro e w1 ⟨rfl, hb1⟩)
      (have hs1 := hb1.size; (try simp at hs1); obtain ⟨hc1, hf1, hn1⟩ := bcell hb1; (try have hz1_w_0 : w.heap.size < w1.heap.size := by omega); (try have hz1_w_1 : w.heap.size + 1 < w1.heap.size := by omega); (try have hz1_w_2 : w.heap.size + 2 < w1.heap.size := by omega); (try have hz1_w_2b : w.heap.size + 1 + 1 < w1.heap.size := by omega))
      go_wp2_with (first | (go_at_call 51; refine (isStart_any _ _).mono ?_; rintro e wX ⟨rfl, rfl⟩))
      (go_at_call 57; refine (lowest_any _ _ _ _ _ (h.to hb1) hv hn (by omega) (by omega)).mono ?_; rintro e w2 ⟨rfl, hb2⟩)
      (have hs2 := hb2.size; (try simp at hs2); obtain ⟨hc2, hf2, hn2⟩ := bcell hb2; (try have hz2_w_0 : w.heap.size < w2.heap.size := by omega); (try have hz2_w_1 : w.heap.size + 1 < w2.heap.size := by omega); (try have hz2_w_2 : w.heap.size + 2 < w2.heap.size := by omega); (try have hz2_w_2b : w.heap.size + 1 + 1 < w2.heap.size := by omega); (try have hz2_w1_0 : w1.heap.size < w2.heap.size := by omega); (try have hz2_w1_1 : w1.heap.size + 1 < w2.heap.size := by omega); (try have hz2_w1_2 : w1.heap.size + 2 < w2.heap.size := by omega); (try have hz2_w1_2b : w1.heap.size + 1 + 1 < w2.heap.size := by omega))
      go_wp2_with (first | (go_at_call 51; refine (isStart_any _ _).mono ?_; rintro e wX ⟨rfl, rfl⟩))
      go_ret3
      exact ⟨ret_iib (by rw [losD, if_pos Hq.out]) (by rw [losV, if_pos Hq.out]) (by rw [losB, Hq.out, Bool.true_and]), (by repeat' (first | (with_reducible exact Below.refl _ _) | (with_reducible refine Below.alloc ?_ ?_ _) | (with_reducible refine Below.setCell ?_ ?_ _) | (with_reducible refine Below.drew ?_) | (with_reducible refine Below.trans ?_ (Below.mono (by with_reducible assumption) ?_)) | omega | (simp; done) | (simp; omega)))⟩
set_option maxHeartbeats 4000000 in
theorem sLowestStock_any (A : Option Addr) (c : Nat) (xs : List Bk) (s : Int) (w : World) (h : Rd w w.heap.size A 3 Bk.enc xs) (hx : xs.length ≤ 1048576) :
    Calls Try.prog 20 #[.slice A xs.length c, .int .i64 s] w fun e w' => e = .returned (.tuple #[.int .i64 (losD xs s), .int .i64 (losV xs s), .bool (losB xs s)]) ∧ Below w.heap.size w w' := by
  cases hG : soB xs s
  · have hq : losB xs s = false := by unfold losB; unfold soB at hG; rw [hG]; rfl
    have Hq2 := Lib.hid (show ¬ ((bksOK xs && inB s 0 1000000) = true) by unfold soB at hG; rw [hG]; simp)
    go_enter Try.func20, Try.ntmps20
    go_wp2_with fail
    (go_at_call 48; refine (l20Start_any _ _ _ _ _ h hx).mono ?_; rintro e w1 ⟨rfl, hb1⟩)
    (have hs1 := hb1.size; (try simp at hs1); obtain ⟨hc1, hf1, hn1⟩ := bcell hb1; (try have hz1_w_0 : w.heap.size < w1.heap.size := by omega); (try have hz1_w_1 : w.heap.size + 1 < w1.heap.size := by omega); (try have hz1_w_2 : w.heap.size + 2 < w1.heap.size := by omega); (try have hz1_w_2b : w.heap.size + 1 + 1 < w1.heap.size := by omega))
    go_wp2_with fail
    go_ret3
    exact ⟨ret_iib (by rw [losD, if_neg Hq2.out]) (by rw [losV, if_neg Hq2.out]) hq.symm, (by repeat' (first | (with_reducible exact Below.refl _ _) | (with_reducible refine Below.alloc ?_ ?_ _) | (with_reducible refine Below.setCell ?_ ?_ _) | (with_reducible refine Below.drew ?_) | (with_reducible refine Below.trans ?_ (Below.mono (by with_reducible assumption) ?_)) | omega | (simp; done) | (simp; omega)))⟩
  · have hG' := hG
    unfold soB at hG'
    have Hq := Lib.hid hG'
    rw [Bool.and_eq_true] at hG'
    obtain ⟨hG0, hG1⟩ := hG'
    have hbd := bksOK_bd hG0; have hv := Lib.hid hbd.2; have hn := hbd.1; have hst := inB_iff.1 hG1; clear hbd
    clear hG0 hG1
    by_cases h0 : xs.length = 0
    · have hz : ((xs.length : Int) == 0) = true := by simpa using h0
      have HL := Lib.hid (show loD xs s xs.length = (0, 0) by rw [h0]; rfl)
      have H0 := Lib.hid h0
      clear h0
      go_enter Try.func20, Try.ntmps20
      go_wp2_with fail
      (go_at_call 48; refine (l20Start_any _ _ _ _ _ h hx).mono ?_; rintro e w1 ⟨rfl, hb1⟩)
      (have hs1 := hb1.size; (try simp at hs1); obtain ⟨hc1, hf1, hn1⟩ := bcell hb1; (try have hz1_w_0 : w.heap.size < w1.heap.size := by omega); (try have hz1_w_1 : w.heap.size + 1 < w1.heap.size := by omega); (try have hz1_w_2 : w.heap.size + 2 < w1.heap.size := by omega); (try have hz1_w_2b : w.heap.size + 1 + 1 < w1.heap.size := by omega))
      go_wp2_with fail
      go_ret3
      exact ⟨ret_iib (by rw [losD, if_pos Hq.out, HL.out]) (by rw [losV, if_pos Hq.out, HL.out]) (by rw [losB, Hq.out, H0.out]; rfl), (by repeat' (first | (with_reducible exact Below.refl _ _) | (with_reducible refine Below.alloc ?_ ?_ _) | (with_reducible refine Below.setCell ?_ ?_ _) | (with_reducible refine Below.drew ?_) | (with_reducible refine Below.trans ?_ (Below.mono (by with_reducible assumption) ?_)) | omega | (simp; done) | (simp; omega)))⟩
    · have hz : ((xs.length : Int) == 0) = false := by simpa using h0
      have hpos : 0 < xs.length := by omega
      go_enter Try.func20, Try.ntmps20
      go_wp2_with fail
      (go_at_call 48; refine (l20Start_any _ _ _ _ _ h hx).mono ?_; rintro e w1 ⟨rfl, hb1⟩)
      (have hs1 := hb1.size; (try simp at hs1); obtain ⟨hc1, hf1, hn1⟩ := bcell hb1; (try have hz1_w_0 : w.heap.size < w1.heap.size := by omega); (try have hz1_w_1 : w.heap.size + 1 < w1.heap.size := by omega); (try have hz1_w_2 : w.heap.size + 2 < w1.heap.size := by omega); (try have hz1_w_2b : w.heap.size + 1 + 1 < w1.heap.size := by omega))
      go_wp2_with fail
      have h1 := h.to hb1
      clear h
      obtain ⟨b, o, hA, hB, -⟩ := bk_cells h1 hpos
      subst hA
      have hb1b : b < w1.heap.size := hB
      go_loopw [7, 8] (fun j i wr => ∃ k bi : Nat, k ≤ xs.length ∧ 1 ≤ k ∧ i = .int .i64 k ∧ j = .int .i64 bi ∧ bi < k ∧ Hid (loD xs s k = ((el xs bi).d, sti xs s bi)) ∧ Below w1.heap.size w1 wr) (fun _ i _ => xs.length - (intOf i).toNat)
      case atStart => exact ⟨1, 0, by omega, by omega, rfl, rfl, by omega, by rw [Hid, loD_take (.inl rfl)], Below.refl _ _⟩
      case round =>
        obtain ⟨k, bi, hk, hk1, rfl, rfl, hbi, HL, hbr⟩ := hrel
        have hr := h1.to hbr
        have hs := hbr.size
        have hB1 : b < wr.heap.size := by omega
        by_cases hlt : k < xs.length
        · obtain ⟨b', o', eA, -, c0, -, -⟩ := bk_cells hr hlt
          obtain ⟨rfl, rfl⟩ : b = b' ∧ o = o' := by simpa using eA
          clear eA
          obtain ⟨b', o', eA, -, d0, -, -⟩ := bk_cells hr (show bi < xs.length by omega)
          obtain ⟨rfl, rfl⟩ : b = b' ∧ o = o' := by simpa using eA
          clear eA
          have hI : (k : Int) < xs.length := by omega
          have hI0 : (0 : Int) ≤ k := by omega
          have hJ : (bi : Int) < xs.length := by omega
          have hJ0 : (0 : Int) ≤ bi := by omega
          have hl2 := HL.out
          by_cases hm : sti xs s k < sti xs s bi
          · have Hl := Lib.hid (@loD_take xs s k (.inr (by rw [hl2]; exact hm)))
            clear hl2
            unfold sti at hm
            go_wp2_with fail
            refine wp_region_quiet_below (by kernel_rfl) (by kernel_rfl) ?_
            repeat (go_big_quiet_step ((first | (go_at_call 50; exact Calls.regrown_of (same_below (l20Stock_any _ _ _ _ _ _ (hr.to (below_regrown _ _ _)) hv hn (by omega) (by omega)))))))
            (refine wpQuiet_nil ?_; intro w1 hwq; have hb1 := of_cls hwq; clear hwq)
            (have hs1 := hb1.size; (try simp at hs1); obtain ⟨hc1, hf1, hn1⟩ := bcell hb1; (try have hz1_wr_0 : wr.heap.size < w1.heap.size := by omega); (try have hz1_wr_1 : wr.heap.size + 1 < w1.heap.size := by omega); (try have hz1_wr_2 : wr.heap.size + 2 < w1.heap.size := by omega); (try have hB1 : b < w1.heap.size := by omega); (try have hB2 : b' < w1.heap.size := by omega); (try have hz1_wr_2b : wr.heap.size + 1 + 1 < w1.heap.size := by omega); (try have hz1_w_0 : w.heap.size < w1.heap.size := by omega); (try have hz1_w_1 : w.heap.size + 1 < w1.heap.size := by omega); (try have hz1_w_2 : w.heap.size + 2 < w1.heap.size := by omega); (try have hz1_w_2b : w.heap.size + 1 + 1 < w1.heap.size := by omega))
            go_wp2_with fail
            go_roundw
            case rel => exact ⟨k + 1, k, by omega, by omega, by go_num, rfl, by omega, Hl.out, (by repeat' (first | (with_reducible exact Below.refl _ _) | (with_reducible refine Below.alloc ?_ ?_ _) | (with_reducible refine Below.setCell ?_ ?_ _) | (with_reducible refine Below.drew ?_) | (with_reducible refine Below.trans ?_ (Below.mono (by with_reducible assumption) ?_)) | omega | (simp; done) | (simp; omega)))⟩
            case measure => simp [intOf]; omega
          · have Hl := Lib.hid (@loD_leave xs s k (by rw [hl2]; simp only []; omega))
            clear hl2
            unfold sti at hm
            go_wp2_with fail
            refine wp_region_quiet_below (by kernel_rfl) (by kernel_rfl) ?_
            repeat (go_big_quiet_step ((first | (go_at_call 50; exact Calls.regrown_of (same_below (l20Stock_any _ _ _ _ _ _ (hr.to (below_regrown _ _ _)) hv hn (by omega) (by omega)))))))
            (refine wpQuiet_nil ?_; intro w1 hwq; have hb1 := of_cls hwq; clear hwq)
            (have hs1 := hb1.size; (try simp at hs1); obtain ⟨hc1, hf1, hn1⟩ := bcell hb1; (try have hz1_wr_0 : wr.heap.size < w1.heap.size := by omega); (try have hz1_wr_1 : wr.heap.size + 1 < w1.heap.size := by omega); (try have hz1_wr_2 : wr.heap.size + 2 < w1.heap.size := by omega); (try have hB1 : b < w1.heap.size := by omega); (try have hB2 : b' < w1.heap.size := by omega); (try have hz1_wr_2b : wr.heap.size + 1 + 1 < w1.heap.size := by omega); (try have hz1_w_0 : w.heap.size < w1.heap.size := by omega); (try have hz1_w_1 : w.heap.size + 1 < w1.heap.size := by omega); (try have hz1_w_2 : w.heap.size + 2 < w1.heap.size := by omega); (try have hz1_w_2b : w.heap.size + 1 + 1 < w1.heap.size := by omega))
            go_wp2_with fail
            go_roundw
            case rel => exact ⟨k + 1, bi, by omega, by omega, by go_num, rfl, by omega, Hl.out.trans HL.out, (by repeat' (first | (with_reducible exact Below.refl _ _) | (with_reducible refine Below.alloc ?_ ?_ _) | (with_reducible refine Below.setCell ?_ ?_ _) | (with_reducible refine Below.drew ?_) | (with_reducible refine Below.trans ?_ (Below.mono (by with_reducible assumption) ?_)) | omega | (simp; done) | (simp; omega)))⟩
            case measure => simp [intOf]; omega
        · obtain rfl : k = xs.length := by omega
          obtain ⟨b', o', eA, -, d0, -, -⟩ := bk_cells hr hbi
          obtain ⟨rfl, rfl⟩ : b = b' ∧ o = o' := by simpa using eA
          clear eA
          have hJ : (bi : Int) < xs.length := by omega
          have hJ0 : (0 : Int) ≤ bi := by omega
          go_wp2_with fail
          refine wp_region_quiet_below (by kernel_rfl) (by kernel_rfl) ?_
          repeat (go_big_quiet_step ((first | (go_at_call 50; exact Calls.regrown_of (same_below (l20Stock_any _ _ _ _ _ _ (hr.to (below_regrown _ _ _)) hv hn (by omega) (by omega)))))))
          (refine wpQuiet_nil ?_; intro w1 hwq; have hb1 := of_cls hwq; clear hwq)
          (have hs1 := hb1.size; (try simp at hs1); obtain ⟨hc1, hf1, hn1⟩ := bcell hb1; (try have hz1_wr_0 : wr.heap.size < w1.heap.size := by omega); (try have hz1_wr_1 : wr.heap.size + 1 < w1.heap.size := by omega); (try have hz1_wr_2 : wr.heap.size + 2 < w1.heap.size := by omega); (try have hB1 : b < w1.heap.size := by omega); (try have hB2 : b' < w1.heap.size := by omega); (try have hz1_wr_2b : wr.heap.size + 1 + 1 < w1.heap.size := by omega); (try have hz1_w_0 : w.heap.size < w1.heap.size := by omega); (try have hz1_w_1 : w.heap.size + 1 < w1.heap.size := by omega); (try have hz1_w_2 : w.heap.size + 2 < w1.heap.size := by omega); (try have hz1_w_2b : w.heap.size + 1 + 1 < w1.heap.size := by omega))
          go_wp2_with fail
          go_ret3
          exact ⟨ret_iib (by rw [losD, if_pos Hq.out, HL.out]) (by rw [losV, if_pos Hq.out, HL.out]; rfl) (by rw [losB, Hq.out]; simp; omega), (by repeat' (first | (with_reducible exact Below.refl _ _) | (with_reducible refine Below.alloc ?_ ?_ _) | (with_reducible refine Below.setCell ?_ ?_ _) | (with_reducible refine Below.drew ?_) | (with_reducible refine Below.trans ?_ (Below.mono (by with_reducible assumption) ?_)) | omega | (simp; done) | (simp; omega)))⟩
set_option maxHeartbeats 4000000 in
theorem l20Short_any (A : Option Addr) (c : Nat) (xs : List Bk) (s : Int) (w : World) (h : Rd w w.heap.size A 3 Bk.enc xs) (hv : Hid (∀ i, i < xs.length → bkAt xs i = true)) (hn : xs.length ≤ 20) (hs1 : -1000000000 ≤ s) (hs2 : s ≤ 1000000000) :
    Calls Try.prog 58 #[.slice A xs.length c, .int .i64 s] w fun e w' => e = .returned (.int .i64 (shD xs s)) ∧ Below w.heap.size w w' := by
  go_enter Try.func58, Try.ntmps58
  go_wp2
  go_loopw [5] (fun i wr => ∃ k : Nat, k ≤ xs.length ∧ i = .int .i64 k ∧ Hid (okTo xs s k) ∧ Below w.heap.size w wr) (fun i _ => xs.length - (intOf i).toNat)
  case atStart => exact ⟨0, Nat.zero_le _, rfl, fun i hi => by omega, Below.refl _ _⟩
  case round =>
    obtain ⟨k, hk, rfl, HO, hb⟩ := hrel
    have hr := h.to hb
    by_cases hlt : k < xs.length
    · obtain ⟨b, o, eA, hB, c0, -, -⟩ := bk_cells hr hlt
      subst eA
      have hB1 : b < wr.heap.size := hB
      have hI : (k : Int) < xs.length := by omega
      have hI0 : (0 : Int) ≤ k := by omega
      by_cases hm : sti xs s k < 0
      · have Hf := Lib.hid (fsF_some HO.out hm hlt)
        unfold sti at hm
        go_wp2_with (first | (go_at_call 50; refine (l20Stock_any _ _ _ _ _ _ hr hv hn hs1 hs2).mono ?_; rintro e wX ⟨rfl, rfl⟩))
        go_ret
        exact ⟨ret_int (by rw [shD, Hf.out]), (by repeat' (first | (with_reducible exact Below.refl _ _) | (with_reducible refine Below.alloc ?_ ?_ _) | (with_reducible refine Below.setCell ?_ ?_ _) | (with_reducible refine Below.drew ?_) | (with_reducible refine Below.trans ?_ (Below.mono (by with_reducible assumption) ?_)) | omega | (simp; done) | (simp; omega)))⟩
      · have Hok := Lib.hid (show okTo xs s (k + 1) from fun i hi => by
          by_cases hik : i = k
          · subst hik; omega
          · exact HO.out i (by omega))
        unfold sti at hm
        go_wp2_with (first | (go_at_call 50; refine (l20Stock_any _ _ _ _ _ _ hr hv hn hs1 hs2).mono ?_; rintro e wX ⟨rfl, rfl⟩) | (go_at_call 50; refine (l20Stock_any _ _ _ _ _ _ hr hv hn hs1 hs2).mono ?_; rintro e wX ⟨rfl, rfl⟩))
        go_roundw
        case rel => exact ⟨k + 1, by omega, by go_num, Hok, (by repeat' (first | (with_reducible exact Below.refl _ _) | (with_reducible refine Below.alloc ?_ ?_ _) | (with_reducible refine Below.setCell ?_ ?_ _) | (with_reducible refine Below.drew ?_) | (with_reducible refine Below.trans ?_ (Below.mono (by with_reducible assumption) ?_)) | omega | (simp; done) | (simp; omega)))⟩
        case measure => simp [intOf]; omega
    · obtain rfl : k = xs.length := by omega
      have Hf := Lib.hid (fsF_of_ok HO.out)
      go_wp2
      go_ret
      exact ⟨ret_int (by rw [shD, Hf.out]), hb⟩
theorem fsF_lt {xs : List Bk} {s : Int} {i : Nat} : ∀ {n : Nat}, fsF xs s n = some i → i < n ∧ sti xs s i < 0
  | 0, h => by simp [fsF] at h
  | n + 1, h => by
    rw [fsF] at h
    cases h1 : fsF xs s n with
    | some j =>
      rw [h1] at h
      simp at h
      subst h
      have := fsF_lt h1
      exact ⟨by omega, this.2⟩
    | none =>
      rw [h1] at h
      by_cases h2 : sti xs s n < 0
      · simp [h2] at h
        subst h
        exact ⟨by omega, h2⟩
      · simp [h2] at h
theorem shD_no {xs : List Bk} {s : Int} (h : shB xs s = false) : shD xs s = -1 ∧ shV xs s = 0 := by
  unfold shB at h
  unfold shD shV
  cases h1 : fsF xs s xs.length with
  | none => simp
  | some i => rw [h1] at h; simp at h
theorem shD_yes {xs : List Bk} {s : Int} (hv : ∀ i, i < xs.length → bkAt xs i = true) (h : shB xs s = true) : 0 ≤ shD xs s ∧ shV xs s = -stk xs s (shD xs s) := by
  unfold shB at h
  unfold shD shV
  cases h1 : fsF xs s xs.length with
  | none => rw [h1] at h; simp at h
  | some i =>
    have h2 := bkAt_bd (hv i (fsF_lt h1).1)
    exact ⟨h2.1, rfl⟩
theorem lo_short {xs : List Bk} {s : Int} (h : 0 ≤ s) : decide (0 ≤ (loD xs s xs.length).2) = !shB xs s := by
  rw [Bool.eq_iff_iff]
  simp only [decide_eq_true_eq, Bool.not_eq_true', shB]
  by_cases h0 : xs.length = 0
  · rw [h0]; simp [loD, fsF]
  · have hm := loD_min (xs := xs) (s := s) xs.length (by omega)
    constructor
    · intro h1
      rw [fsF_of_ok (fun i hi => by have := hm.2 i hi; omega)]
      rfl
    · intro h1
      have h2 : fsF xs s xs.length = none := by
        cases h3 : fsF xs s xs.length with
        | none => rfl
        | some i => rw [h3] at h1; simp at h1
      obtain ⟨i, hi, -, h4⟩ := hm.1
      rw [h4]
      exact fsF_none h2 i hi
set_option maxHeartbeats 4000000 in
theorem sFirstShort_any (A : Option Addr) (c : Nat) (xs : List Bk) (s : Int) (w : World) (h : Rd w w.heap.size A 3 Bk.enc xs) (hx : xs.length ≤ 1048576) :
    Calls Try.prog 22 #[.slice A xs.length c, .int .i64 s] w fun e w' => e = .returned (.tuple #[.int .i64 (fshD xs s), .int .i64 (fshV xs s), .bool (fshB xs s)]) ∧ Below w.heap.size w w' := by
  cases hG : soB xs s
  · have hq : fshB xs s = false := by unfold fshB; unfold soB at hG; rw [hG]; rfl
    go_enter Try.func22, Try.ntmps22
    go_wp2_with fail
    (go_at_call 48; refine (l20Start_any _ _ _ _ _ h hx).mono ?_; rintro e w1 ⟨rfl, hb1⟩)
    (have hs1 := hb1.size; (try simp at hs1); obtain ⟨hc1, hf1, hn1⟩ := bcell hb1; (try have hz1_w_0 : w.heap.size < w1.heap.size := by omega); (try have hz1_w_1 : w.heap.size + 1 < w1.heap.size := by omega); (try have hz1_w_2 : w.heap.size + 2 < w1.heap.size := by omega); (try have hz1_w_2b : w.heap.size + 1 + 1 < w1.heap.size := by omega))
    go_wp2_with fail
    go_ret3
    exact ⟨ret_iib (by simp [fshD, hq]) (by simp [fshV, hq]) hq.symm, (by repeat' (first | (with_reducible exact Below.refl _ _) | (with_reducible refine Below.alloc ?_ ?_ _) | (with_reducible refine Below.setCell ?_ ?_ _) | (with_reducible refine Below.drew ?_) | (with_reducible refine Below.trans ?_ (Below.mono (by with_reducible assumption) ?_)) | omega | (simp; done) | (simp; omega)))⟩
  · have hG' := hG
    unfold soB at hG'
    have Hq := Lib.hid hG'
    rw [Bool.and_eq_true] at hG'
    obtain ⟨hG0, hG1⟩ := hG'
    have hbd := bksOK_bd hG0; have hv := Lib.hid hbd.2; have hn := hbd.1; have hst := inB_iff.1 hG1; clear hbd
    clear hG0 hG1
    cases hS : shB xs s
    · have hq : fshB xs s = false := by simp [fshB, hS]
      have hD := (shD_no hS).1
      have hD' : shD xs s < 0 := by omega
      clear hD
      go_enter Try.func22, Try.ntmps22
      go_wp2_with fail
      (go_at_call 48; refine (l20Start_any _ _ _ _ _ h hx).mono ?_; rintro e w1 ⟨rfl, hb1⟩)
      (have hs1 := hb1.size; (try simp at hs1); obtain ⟨hc1, hf1, hn1⟩ := bcell hb1; (try have hz1_w_0 : w.heap.size < w1.heap.size := by omega); (try have hz1_w_1 : w.heap.size + 1 < w1.heap.size := by omega); (try have hz1_w_2 : w.heap.size + 2 < w1.heap.size := by omega); (try have hz1_w_2b : w.heap.size + 1 + 1 < w1.heap.size := by omega))
      go_wp2_with fail
      (go_at_call 58; refine (l20Short_any _ _ _ _ _ (h.to (by repeat' (first | (with_reducible exact Below.refl _ _) | (with_reducible refine Below.alloc ?_ ?_ _) | (with_reducible refine Below.setCell ?_ ?_ _) | (with_reducible refine Below.drew ?_) | (with_reducible refine Below.trans ?_ (Below.mono (by with_reducible assumption) ?_)) | omega | (simp; done) | (simp; omega)))) hv hn (by omega) (by omega)).mono ?_; rintro e w2 ⟨rfl, hb2⟩)
      (have hs2 := hb2.size; (try simp at hs2); obtain ⟨hc2, hf2, hn2⟩ := bcell hb2; (try have hz2_w_0 : w.heap.size < w2.heap.size := by omega); (try have hz2_w_1 : w.heap.size + 1 < w2.heap.size := by omega); (try have hz2_w_2 : w.heap.size + 2 < w2.heap.size := by omega); (try have hz2_w_2b : w.heap.size + 1 + 1 < w2.heap.size := by omega); (try have hz2_w1_0 : w1.heap.size < w2.heap.size := by omega); (try have hz2_w1_1 : w1.heap.size + 1 < w2.heap.size := by omega); (try have hz2_w1_2 : w1.heap.size + 2 < w2.heap.size := by omega); (try have hz2_w1_2b : w1.heap.size + 1 + 1 < w2.heap.size := by omega))
      go_wp2_with fail
      go_ret3
      exact ⟨ret_iib (by simp [fshD, hq]) (by simp [fshV, hq]) hq.symm, (by repeat' (first | (with_reducible exact Below.refl _ _) | (with_reducible refine Below.alloc ?_ ?_ _) | (with_reducible refine Below.setCell ?_ ?_ _) | (with_reducible refine Below.drew ?_) | (with_reducible refine Below.trans ?_ (Below.mono (by with_reducible assumption) ?_)) | omega | (simp; done) | (simp; omega)))⟩
    · have Hq2 := Lib.hid (show fshB xs s = true by rw [fshB, Hq.out, hS]; rfl)
      have hY := shD_yes hv.out hS
      have hD' : 0 ≤ shD xs s := hY.1
      have HV := Lib.hid hY.2
      have hsb := stk_bd (s := s) (day := shD xs s) hv.out hn
      clear hY
      go_enter Try.func22, Try.ntmps22
      go_wp2_with fail
      (go_at_call 48; refine (l20Start_any _ _ _ _ _ h hx).mono ?_; rintro e w1 ⟨rfl, hb1⟩)
      (have hs1 := hb1.size; (try simp at hs1); obtain ⟨hc1, hf1, hn1⟩ := bcell hb1; (try have hz1_w_0 : w.heap.size < w1.heap.size := by omega); (try have hz1_w_1 : w.heap.size + 1 < w1.heap.size := by omega); (try have hz1_w_2 : w.heap.size + 2 < w1.heap.size := by omega); (try have hz1_w_2b : w.heap.size + 1 + 1 < w1.heap.size := by omega))
      go_wp2_with fail
      (go_at_call 58; refine (l20Short_any _ _ _ _ _ (h.to (by repeat' (first | (with_reducible exact Below.refl _ _) | (with_reducible refine Below.alloc ?_ ?_ _) | (with_reducible refine Below.setCell ?_ ?_ _) | (with_reducible refine Below.drew ?_) | (with_reducible refine Below.trans ?_ (Below.mono (by with_reducible assumption) ?_)) | omega | (simp; done) | (simp; omega)))) hv hn (by omega) (by omega)).mono ?_; rintro e w2 ⟨rfl, hb2⟩)
      (have hs2 := hb2.size; (try simp at hs2); obtain ⟨hc2, hf2, hn2⟩ := bcell hb2; (try have hz2_w_0 : w.heap.size < w2.heap.size := by omega); (try have hz2_w_1 : w.heap.size + 1 < w2.heap.size := by omega); (try have hz2_w_2 : w.heap.size + 2 < w2.heap.size := by omega); (try have hz2_w_2b : w.heap.size + 1 + 1 < w2.heap.size := by omega); (try have hz2_w1_0 : w1.heap.size < w2.heap.size := by omega); (try have hz2_w1_1 : w1.heap.size + 1 < w2.heap.size := by omega); (try have hz2_w1_2 : w1.heap.size + 2 < w2.heap.size := by omega); (try have hz2_w1_2b : w1.heap.size + 1 + 1 < w2.heap.size := by omega))
      go_wp2_with (first | (go_at_call 50; refine (l20Stock_any _ _ _ _ _ _ (h.to (by repeat' (first | (with_reducible exact Below.refl _ _) | (with_reducible refine Below.alloc ?_ ?_ _) | (with_reducible refine Below.setCell ?_ ?_ _) | (with_reducible refine Below.drew ?_) | (with_reducible refine Below.trans ?_ (Below.mono (by with_reducible assumption) ?_)) | omega | (simp; done) | (simp; omega)))) hv hn (by omega) (by omega)).mono ?_; rintro e wX ⟨rfl, rfl⟩))
      go_ret3
      exact ⟨ret_iib (by rw [fshD, if_pos Hq2.out]) (by rw [fshV, if_pos Hq2.out, HV.out]) Hq2.out.symm, (by repeat' (first | (with_reducible exact Below.refl _ _) | (with_reducible refine Below.alloc ?_ ?_ _) | (with_reducible refine Below.setCell ?_ ?_ _) | (with_reducible refine Below.drew ?_) | (with_reducible refine Below.trans ?_ (Below.mono (by with_reducible assumption) ?_)) | omega | (simp; done) | (simp; omega)))⟩
set_option maxHeartbeats 4000000 in
theorem iFirstShort_any (A : Option Addr) (c : Nat) (xs : List Bk) (s : Int) (w : World) (h : Rd w w.heap.size A 3 Bk.enc xs) (hx : xs.length ≤ 1048576) :
    Calls Try.prog 23 #[.slice A xs.length c, .int .i64 s] w fun e w' => e = .returned (.tuple #[.int .i64 (fshD xs s), .int .i64 (fshV xs s), .bool (fshB xs s)]) ∧ Below w.heap.size w w' := by
  cases hG0 : bksOK xs
  · have hq : fshB xs s = false := by simp [fshB, hG0]
    go_enter Try.func23, Try.ntmps23
    go_wp2_with fail
    (go_at_call 37; refine (areBookings_any _ _ _ _ h hx).mono ?_; rintro e w1 ⟨rfl, hb1⟩)
    (have hs1 := hb1.size; (try simp at hs1); obtain ⟨hc1, hf1, hn1⟩ := bcell hb1; (try have hz1_w_0 : w.heap.size < w1.heap.size := by omega); (try have hz1_w_1 : w.heap.size + 1 < w1.heap.size := by omega); (try have hz1_w_2 : w.heap.size + 2 < w1.heap.size := by omega); (try have hz1_w_2b : w.heap.size + 1 + 1 < w1.heap.size := by omega))
    go_wp2_with fail
    go_ret3
    exact ⟨ret_iib (by simp [fshD, hq]) (by simp [fshV, hq]) hq.symm, (by repeat' (first | (with_reducible exact Below.refl _ _) | (with_reducible refine Below.alloc ?_ ?_ _) | (with_reducible refine Below.setCell ?_ ?_ _) | (with_reducible refine Below.drew ?_) | (with_reducible refine Below.trans ?_ (Below.mono (by with_reducible assumption) ?_)) | omega | (simp; done) | (simp; omega)))⟩
  · cases hG1 : inB s 0 1000000
    · have hq : fshB xs s = false := by simp [fshB, hG1]
      go_enter Try.func23, Try.ntmps23
      go_wp2_with (first | (go_at_call 51; refine (isStart_any _ _).mono ?_; rintro e wX ⟨rfl, rfl⟩))
      (go_at_call 37; refine (areBookings_any _ _ _ _ h hx).mono ?_; rintro e w1 ⟨rfl, hb1⟩)
      (have hs1 := hb1.size; (try simp at hs1); obtain ⟨hc1, hf1, hn1⟩ := bcell hb1; (try have hz1_w_0 : w.heap.size < w1.heap.size := by omega); (try have hz1_w_1 : w.heap.size + 1 < w1.heap.size := by omega); (try have hz1_w_2 : w.heap.size + 2 < w1.heap.size := by omega); (try have hz1_w_2b : w.heap.size + 1 + 1 < w1.heap.size := by omega))
      go_wp2_with (first | (go_at_call 51; refine (isStart_any _ _).mono ?_; rintro e wX ⟨rfl, rfl⟩))
      go_ret3
      exact ⟨ret_iib (by simp [fshD, hq]) (by simp [fshV, hq]) hq.symm, (by repeat' (first | (with_reducible exact Below.refl _ _) | (with_reducible refine Below.alloc ?_ ?_ _) | (with_reducible refine Below.setCell ?_ ?_ _) | (with_reducible refine Below.drew ?_) | (with_reducible refine Below.trans ?_ (Below.mono (by with_reducible assumption) ?_)) | omega | (simp; done) | (simp; omega)))⟩
    · have hbd := bksOK_bd hG0; have hv := Lib.hid hbd.2; have hn := hbd.1; have hst := inB_iff.1 hG1; clear hbd
      have Hq := Lib.hid (show (bksOK xs && inB s 0 1000000) = true by simp [hG0, hG1])
      go_enter Try.func23, Try.ntmps23
      go_wp2_with (first | (go_at_call 51; refine (isStart_any _ _).mono ?_; rintro e wX ⟨rfl, rfl⟩))
      (go_at_call 37; refine (areBookings_any _ _ _ _ h hx).mono ?_; rintro e w1 ⟨rfl, hb1⟩)
      (have hs1 := hb1.size; (try simp at hs1); obtain ⟨hc1, hf1, hn1⟩ := bcell hb1; (try have hz1_w_0 : w.heap.size < w1.heap.size := by omega); (try have hz1_w_1 : w.heap.size + 1 < w1.heap.size := by omega); (try have hz1_w_2 : w.heap.size + 2 < w1.heap.size := by omega); (try have hz1_w_2b : w.heap.size + 1 + 1 < w1.heap.size := by omega))
      go_wp2_with (first | (go_at_call 51; refine (isStart_any _ _).mono ?_; rintro e wX ⟨rfl, rfl⟩))
      clear hG0 hG1
      go_loopw [20] (fun i wr => ∃ k : Nat, k ≤ xs.length ∧ i = .int .i64 k ∧ Hid (okTo xs s k) ∧ Below w1.heap.size w1 wr) (fun i _ => xs.length - (intOf i).toNat)
      case atStart => exact ⟨0, Nat.zero_le _, rfl, fun i hi => by omega, Below.refl _ _⟩
      case round =>
        obtain ⟨k, hk, rfl, HO, hb⟩ := hrel
        have hr := (h.to hb1).to hb
        have hs := hb.size
        by_cases hlt : k < xs.length
        · obtain ⟨b, o, eA, hB, c0, c1, c2⟩ := bk_cells hr hlt
          subst eA
          have hB1 : b < wr.heap.size := hB
          have hI : (k : Int) < xs.length := by omega
          have hI0 : (0 : Int) ≤ k := by omega
          have hsb := stk_bd (s := s) (day := (el xs k).d) hv.out hn
          have Hr := Lib.hid hr
          clear hr h
          by_cases hm : sti xs s k < 0
          · have Hf := Lib.hid (fsF_some HO.out hm hlt)
            unfold sti at hm
            go_wp2_with (first | (go_at_call 51; refine (isStart_any _ _).mono ?_; rintro e wX ⟨rfl, rfl⟩))
            (go_at_call 53; refine (stockOn_any _ _ _ _ _ _ (Hr.out.to (by repeat' (first | (with_reducible exact Below.refl _ _) | (with_reducible refine Below.alloc ?_ ?_ _) | (with_reducible refine Below.setCell ?_ ?_ _) | (with_reducible refine Below.drew ?_) | (with_reducible refine Below.trans ?_ (Below.mono (by with_reducible assumption) ?_)) | omega | (simp; done) | (simp; omega)))) hv hn (by omega) (by omega)).mono ?_; rintro e w1 ⟨rfl, hb1⟩)
            (have hs1 := hb1.size; (try simp at hs1); obtain ⟨hc1, hf1, hn1⟩ := bcell hb1; (try have hz1_wr_0 : wr.heap.size < w1.heap.size := by omega); (try have hz1_wr_1 : wr.heap.size + 1 < w1.heap.size := by omega); (try have hz1_wr_2 : wr.heap.size + 2 < w1.heap.size := by omega); (try have hB1 : b < w1.heap.size := by omega); (try have hB2 : b' < w1.heap.size := by omega); (try have hz1_wr_2b : wr.heap.size + 1 + 1 < w1.heap.size := by omega); (try have hz1_w_0 : w.heap.size < w1.heap.size := by omega); (try have hz1_w_1 : w.heap.size + 1 < w1.heap.size := by omega); (try have hz1_w_2 : w.heap.size + 2 < w1.heap.size := by omega); (try have hz1_w_2b : w.heap.size + 1 + 1 < w1.heap.size := by omega))
            go_wp2_with (first | (go_at_call 51; refine (isStart_any _ _).mono ?_; rintro e wX ⟨rfl, rfl⟩))
            go_ret3
            have Hs : shB xs s = true := by rw [shB, Hf.out]; rfl
            have Hb : fshB xs s = true := by rw [fshB, Hq.out, Hs]; rfl
            exact ⟨ret_iib (by rw [fshD, if_pos Hb, shD, Hf.out]) (by rw [fshV, if_pos Hb, shV, Hf.out]; rfl) Hb.symm, (by repeat' (first | (with_reducible exact Below.refl _ _) | (with_reducible refine Below.alloc ?_ ?_ _) | (with_reducible refine Below.setCell ?_ ?_ _) | (with_reducible refine Below.drew ?_) | (with_reducible refine Below.trans ?_ (Below.mono (by with_reducible assumption) ?_)) | omega | (simp; done) | (simp; omega)))⟩
          · have Hok := Lib.hid (show okTo xs s (k + 1) from fun i hi => by
              by_cases hik : i = k
              · subst hik; omega
              · exact HO.out i (by omega))
            unfold sti at hm
            go_wp2_with (first | (go_at_call 51; refine (isStart_any _ _).mono ?_; rintro e wX ⟨rfl, rfl⟩))
            (go_at_call 53; refine (stockOn_any _ _ _ _ _ _ (Hr.out.to (by repeat' (first | (with_reducible exact Below.refl _ _) | (with_reducible refine Below.alloc ?_ ?_ _) | (with_reducible refine Below.setCell ?_ ?_ _) | (with_reducible refine Below.drew ?_) | (with_reducible refine Below.trans ?_ (Below.mono (by with_reducible assumption) ?_)) | omega | (simp; done) | (simp; omega)))) hv hn (by omega) (by omega)).mono ?_; rintro e w1 ⟨rfl, hb1⟩)
            (have hs1 := hb1.size; (try simp at hs1); obtain ⟨hc1, hf1, hn1⟩ := bcell hb1; (try have hz1_wr_0 : wr.heap.size < w1.heap.size := by omega); (try have hz1_wr_1 : wr.heap.size + 1 < w1.heap.size := by omega); (try have hz1_wr_2 : wr.heap.size + 2 < w1.heap.size := by omega); (try have hB1 : b < w1.heap.size := by omega); (try have hB2 : b' < w1.heap.size := by omega); (try have hz1_wr_2b : wr.heap.size + 1 + 1 < w1.heap.size := by omega); (try have hz1_w_0 : w.heap.size < w1.heap.size := by omega); (try have hz1_w_1 : w.heap.size + 1 < w1.heap.size := by omega); (try have hz1_w_2 : w.heap.size + 2 < w1.heap.size := by omega); (try have hz1_w_2b : w.heap.size + 1 + 1 < w1.heap.size := by omega))
            go_wp2_with (first | (go_at_call 51; refine (isStart_any _ _).mono ?_; rintro e wX ⟨rfl, rfl⟩))
            go_roundw
            case rel => exact ⟨k + 1, by omega, by go_num, Hok, (by repeat' (first | (with_reducible exact Below.refl _ _) | (with_reducible refine Below.alloc ?_ ?_ _) | (with_reducible refine Below.setCell ?_ ?_ _) | (with_reducible refine Below.drew ?_) | (with_reducible refine Below.trans ?_ (Below.mono (by with_reducible assumption) ?_)) | omega | (simp; done) | (simp; omega)))⟩
            case measure => simp [intOf]; omega
        · obtain rfl : k = xs.length := by omega
          have Hf := Lib.hid (fsF_of_ok HO.out)
          go_wp2
          go_ret3
          have Hs : shB xs s = false := by rw [shB, Hf.out]; rfl
          have Hb : fshB xs s = false := by rw [fshB, Hs, Bool.and_false]
          exact ⟨ret_iib (by simp [fshD, Hb]) (by simp [fshV, Hb]) Hb.symm, (by repeat' (first | (with_reducible exact Below.refl _ _) | (with_reducible refine Below.alloc ?_ ?_ _) | (with_reducible refine Below.setCell ?_ ?_ _) | (with_reducible refine Below.drew ?_) | (with_reducible refine Below.trans ?_ (Below.mono (by with_reducible assumption) ?_)) | omega | (simp; done) | (simp; omega)))⟩
set_option maxHeartbeats 4000000 in
theorem iAreSound_any (A : Option Addr) (c : Nat) (xs : List Bk) (s : Int) (w : World) (h : Rd w w.heap.size A 3 Bk.enc xs) (hx : xs.length ≤ 1048576) :
    Calls Try.prog 27 #[.slice A xs.length c, .int .i64 s] w fun e w' => e = .returned (.tuple #[.bool (souV xs s), .bool (soB xs s)]) ∧ Below w.heap.size w w' := by
  cases hG0 : bksOK xs
  · have hq : soB xs s = false := by simp [soB, hG0]
    go_enter Try.func27, Try.ntmps27
    go_wp2_with fail
    (go_at_call 37; refine (areBookings_any _ _ _ _ h hx).mono ?_; rintro e w1 ⟨rfl, hb1⟩)
    (have hs1 := hb1.size; (try simp at hs1); obtain ⟨hc1, hf1, hn1⟩ := bcell hb1; (try have hz1_w_0 : w.heap.size < w1.heap.size := by omega); (try have hz1_w_1 : w.heap.size + 1 < w1.heap.size := by omega); (try have hz1_w_2 : w.heap.size + 2 < w1.heap.size := by omega); (try have hz1_w_2b : w.heap.size + 1 + 1 < w1.heap.size := by omega))
    go_wp2_with fail
    go_ret2
    exact ⟨ret_bb (by simp [souV, hG0]) hq.symm, (by repeat' (first | (with_reducible exact Below.refl _ _) | (with_reducible refine Below.alloc ?_ ?_ _) | (with_reducible refine Below.setCell ?_ ?_ _) | (with_reducible refine Below.drew ?_) | (with_reducible refine Below.trans ?_ (Below.mono (by with_reducible assumption) ?_)) | omega | (simp; done) | (simp; omega)))⟩
  · cases hG1 : inB s 0 1000000
    · have hq : soB xs s = false := by simp [soB, hG1]
      go_enter Try.func27, Try.ntmps27
      go_wp2_with (first | (go_at_call 51; refine (isStart_any _ _).mono ?_; rintro e wX ⟨rfl, rfl⟩))
      (go_at_call 37; refine (areBookings_any _ _ _ _ h hx).mono ?_; rintro e w1 ⟨rfl, hb1⟩)
      (have hs1 := hb1.size; (try simp at hs1); obtain ⟨hc1, hf1, hn1⟩ := bcell hb1; (try have hz1_w_0 : w.heap.size < w1.heap.size := by omega); (try have hz1_w_1 : w.heap.size + 1 < w1.heap.size := by omega); (try have hz1_w_2 : w.heap.size + 2 < w1.heap.size := by omega); (try have hz1_w_2b : w.heap.size + 1 + 1 < w1.heap.size := by omega))
      go_wp2_with (first | (go_at_call 51; refine (isStart_any _ _).mono ?_; rintro e wX ⟨rfl, rfl⟩))
      go_ret2
      exact ⟨ret_bb (by simp [souV, hG1]) hq.symm, (by repeat' (first | (with_reducible exact Below.refl _ _) | (with_reducible refine Below.alloc ?_ ?_ _) | (with_reducible refine Below.setCell ?_ ?_ _) | (with_reducible refine Below.drew ?_) | (with_reducible refine Below.trans ?_ (Below.mono (by with_reducible assumption) ?_)) | omega | (simp; done) | (simp; omega)))⟩
    · have hbd := bksOK_bd hG0; have hv := Lib.hid hbd.2; have hn := hbd.1; have hst := inB_iff.1 hG1; clear hbd
      have Hq := Lib.hid (show (bksOK xs && inB s 0 1000000) = true by simp [hG0, hG1])
      have Hl := Lib.hid (lo_short (xs := xs) hst.1)
      go_enter Try.func27, Try.ntmps27
      go_wp2_with (first | (go_at_call 51; refine (isStart_any _ _).mono ?_; rintro e wX ⟨rfl, rfl⟩))
      (go_at_call 37; refine (areBookings_any _ _ _ _ h hx).mono ?_; rintro e w1 ⟨rfl, hb1⟩)
      (have hs1 := hb1.size; (try simp at hs1); obtain ⟨hc1, hf1, hn1⟩ := bcell hb1; (try have hz1_w_0 : w.heap.size < w1.heap.size := by omega); (try have hz1_w_1 : w.heap.size + 1 < w1.heap.size := by omega); (try have hz1_w_2 : w.heap.size + 2 < w1.heap.size := by omega); (try have hz1_w_2b : w.heap.size + 1 + 1 < w1.heap.size := by omega))
      go_wp2_with (first | (go_at_call 51; refine (isStart_any _ _).mono ?_; rintro e wX ⟨rfl, rfl⟩))
      (go_at_call 57; refine (lowest_any _ _ _ _ _ (h.to hb1) hv hn (by omega) (by omega)).mono ?_; rintro e w2 ⟨rfl, hb2⟩)
      (have hs2 := hb2.size; (try simp at hs2); obtain ⟨hc2, hf2, hn2⟩ := bcell hb2; (try have hz2_w_0 : w.heap.size < w2.heap.size := by omega); (try have hz2_w_1 : w.heap.size + 1 < w2.heap.size := by omega); (try have hz2_w_2 : w.heap.size + 2 < w2.heap.size := by omega); (try have hz2_w_2b : w.heap.size + 1 + 1 < w2.heap.size := by omega); (try have hz2_w1_0 : w1.heap.size < w2.heap.size := by omega); (try have hz2_w1_1 : w1.heap.size + 1 < w2.heap.size := by omega); (try have hz2_w1_2 : w1.heap.size + 2 < w2.heap.size := by omega); (try have hz2_w1_2b : w1.heap.size + 1 + 1 < w2.heap.size := by omega))
      go_wp2_with (first | (go_at_call 51; refine (isStart_any _ _).mono ?_; rintro e wX ⟨rfl, rfl⟩))
      go_ret2
      exact ⟨ret_bb (by rw [souV, Hq.out, Bool.true_and]; exact Hl.out) (by rw [soB, Hq.out]), (by repeat' (first | (with_reducible exact Below.refl _ _) | (with_reducible refine Below.alloc ?_ ?_ _) | (with_reducible refine Below.setCell ?_ ?_ _) | (with_reducible refine Below.drew ?_) | (with_reducible refine Below.trans ?_ (Below.mono (by with_reducible assumption) ?_)) | omega | (simp; done) | (simp; omega)))⟩
set_option maxHeartbeats 4000000 in
theorem sAreSound_any (A : Option Addr) (c : Nat) (xs : List Bk) (s : Int) (w : World) (h : Rd w w.heap.size A 3 Bk.enc xs) (hx : xs.length ≤ 1048576) :
    Calls Try.prog 26 #[.slice A xs.length c, .int .i64 s] w fun e w' => e = .returned (.tuple #[.bool (souV xs s), .bool (soB xs s)]) ∧ Below w.heap.size w w' := by
  cases hG : soB xs s
  · have hq : souV xs s = false := by unfold souV; unfold soB at hG; rw [hG]; rfl
    go_enter Try.func26, Try.ntmps26
    go_wp2_with fail
    (go_at_call 48; refine (l20Start_any _ _ _ _ _ h hx).mono ?_; rintro e w1 ⟨rfl, hb1⟩)
    (have hs1 := hb1.size; (try simp at hs1); obtain ⟨hc1, hf1, hn1⟩ := bcell hb1; (try have hz1_w_0 : w.heap.size < w1.heap.size := by omega); (try have hz1_w_1 : w.heap.size + 1 < w1.heap.size := by omega); (try have hz1_w_2 : w.heap.size + 2 < w1.heap.size := by omega); (try have hz1_w_2b : w.heap.size + 1 + 1 < w1.heap.size := by omega))
    go_wp2_with fail
    go_ret2
    exact ⟨ret_bb hq.symm rfl, (by repeat' (first | (with_reducible exact Below.refl _ _) | (with_reducible refine Below.alloc ?_ ?_ _) | (with_reducible refine Below.setCell ?_ ?_ _) | (with_reducible refine Below.drew ?_) | (with_reducible refine Below.trans ?_ (Below.mono (by with_reducible assumption) ?_)) | omega | (simp; done) | (simp; omega)))⟩
  · have hG' := hG
    unfold soB at hG'
    have Hq := Lib.hid hG'
    rw [Bool.and_eq_true] at hG'
    obtain ⟨hG0, hG1⟩ := hG'
    have hbd := bksOK_bd hG0; have hv := Lib.hid hbd.2; have hn := hbd.1; have hst := inB_iff.1 hG1; clear hbd
    clear hG0 hG1
    have Hd := Lib.hid (show decide (shD xs s < 0) = !shB xs s by
      cases hS : shB xs s
      · have := (shD_no hS).1; simp; omega
      · have := (shD_yes hv.out hS).1; simp; omega)
    go_enter Try.func26, Try.ntmps26
    go_wp2_with fail
    (go_at_call 48; refine (l20Start_any _ _ _ _ _ h hx).mono ?_; rintro e w1 ⟨rfl, hb1⟩)
    (have hs1 := hb1.size; (try simp at hs1); obtain ⟨hc1, hf1, hn1⟩ := bcell hb1; (try have hz1_w_0 : w.heap.size < w1.heap.size := by omega); (try have hz1_w_1 : w.heap.size + 1 < w1.heap.size := by omega); (try have hz1_w_2 : w.heap.size + 2 < w1.heap.size := by omega); (try have hz1_w_2b : w.heap.size + 1 + 1 < w1.heap.size := by omega))
    go_wp2_with fail
    (go_at_call 58; refine (l20Short_any _ _ _ _ _ (h.to (by repeat' (first | (with_reducible exact Below.refl _ _) | (with_reducible refine Below.alloc ?_ ?_ _) | (with_reducible refine Below.setCell ?_ ?_ _) | (with_reducible refine Below.drew ?_) | (with_reducible refine Below.trans ?_ (Below.mono (by with_reducible assumption) ?_)) | omega | (simp; done) | (simp; omega)))) hv hn (by omega) (by omega)).mono ?_; rintro e w2 ⟨rfl, hb2⟩)
    (have hs2 := hb2.size; (try simp at hs2); obtain ⟨hc2, hf2, hn2⟩ := bcell hb2; (try have hz2_w_0 : w.heap.size < w2.heap.size := by omega); (try have hz2_w_1 : w.heap.size + 1 < w2.heap.size := by omega); (try have hz2_w_2 : w.heap.size + 2 < w2.heap.size := by omega); (try have hz2_w_2b : w.heap.size + 1 + 1 < w2.heap.size := by omega); (try have hz2_w1_0 : w1.heap.size < w2.heap.size := by omega); (try have hz2_w1_1 : w1.heap.size + 1 < w2.heap.size := by omega); (try have hz2_w1_2 : w1.heap.size + 2 < w2.heap.size := by omega); (try have hz2_w1_2b : w1.heap.size + 1 + 1 < w2.heap.size := by omega))
    go_wp2_with fail
    go_ret2
    exact ⟨ret_bb (by rw [souV, Hq.out, Bool.true_and]; exact Hd.out) rfl, (by repeat' (first | (with_reducible exact Below.refl _ _) | (with_reducible refine Below.alloc ?_ ?_ _) | (with_reducible refine Below.setCell ?_ ?_ _) | (with_reducible refine Below.drew ?_) | (with_reducible refine Below.trans ?_ (Below.mono (by with_reducible assumption) ?_)) | omega | (simp; done) | (simp; omega)))⟩
set_option maxHeartbeats 4000000 in
theorem iStartNeeded_any (A : Option Addr) (c : Nat) (xs : List Bk) (w : World) (h : Rd w w.heap.size A 3 Bk.enc xs) (hx : xs.length ≤ 1048576) :
    Calls Try.prog 25 #[.slice A xs.length c] w fun e w' => e = .returned (.tuple #[.int .i64 (stnV xs), .bool (bksOK xs)]) ∧ Below w.heap.size w w' := by
  cases hG0 : bksOK xs
  · go_enter Try.func25, Try.ntmps25
    go_wp2_with fail
    (go_at_call 37; refine (areBookings_any _ _ _ _ h hx).mono ?_; rintro e w1 ⟨rfl, hb1⟩)
    (have hs1 := hb1.size; (try simp at hs1); obtain ⟨hc1, hf1, hn1⟩ := bcell hb1; (try have hz1_w_0 : w.heap.size < w1.heap.size := by omega); (try have hz1_w_1 : w.heap.size + 1 < w1.heap.size := by omega); (try have hz1_w_2 : w.heap.size + 2 < w1.heap.size := by omega); (try have hz1_w_2b : w.heap.size + 1 + 1 < w1.heap.size := by omega))
    go_wp2_with fail
    go_ret2
    exact ⟨ret_ib (by simp [stnV, hG0]) rfl, (by repeat' (first | (with_reducible exact Below.refl _ _) | (with_reducible refine Below.alloc ?_ ?_ _) | (with_reducible refine Below.setCell ?_ ?_ _) | (with_reducible refine Below.drew ?_) | (with_reducible refine Below.trans ?_ (Below.mono (by with_reducible assumption) ?_)) | omega | (simp; done) | (simp; omega)))⟩
  · have hbd := bksOK_bd hG0
    have hv := Lib.hid hbd.2
    have hn := hbd.1
    clear hbd
    have hl : -2000000 ≤ (loD xs 0 xs.length).2 ∧ (loD xs 0 xs.length).2 ≤ 2000000 := by
      by_cases h0 : xs.length = 0
      · rw [h0]; simp [loD]
      · obtain ⟨i, hi, -, h4⟩ := (loD_min (xs := xs) (s := 0) xs.length (by omega)).1
        have := stk_bd (s := 0) (day := (el xs i).d) hv.out hn
        rw [h4]; unfold sti; omega
    have Hq := Lib.hid hG0
    go_enter Try.func25, Try.ntmps25
    go_wp2_with fail
    (go_at_call 37; refine (areBookings_any _ _ _ _ h hx).mono ?_; rintro e w1 ⟨rfl, hb1⟩)
    (have hs1 := hb1.size; (try simp at hs1); obtain ⟨hc1, hf1, hn1⟩ := bcell hb1; (try have hz1_w_0 : w.heap.size < w1.heap.size := by omega); (try have hz1_w_1 : w.heap.size + 1 < w1.heap.size := by omega); (try have hz1_w_2 : w.heap.size + 2 < w1.heap.size := by omega); (try have hz1_w_2b : w.heap.size + 1 + 1 < w1.heap.size := by omega))
    go_wp2_with fail
    (go_at_call 57; refine (lowest_any _ _ _ _ _ (h.to hb1) hv hn (by omega) (by omega)).mono ?_; rintro e w2 ⟨rfl, hb2⟩)
    (have hs2 := hb2.size; (try simp at hs2); obtain ⟨hc2, hf2, hn2⟩ := bcell hb2; (try have hz2_w_0 : w.heap.size < w2.heap.size := by omega); (try have hz2_w_1 : w.heap.size + 1 < w2.heap.size := by omega); (try have hz2_w_2 : w.heap.size + 2 < w2.heap.size := by omega); (try have hz2_w_2b : w.heap.size + 1 + 1 < w2.heap.size := by omega); (try have hz2_w1_0 : w1.heap.size < w2.heap.size := by omega); (try have hz2_w1_1 : w1.heap.size + 1 < w2.heap.size := by omega); (try have hz2_w1_2 : w1.heap.size + 2 < w2.heap.size := by omega); (try have hz2_w1_2b : w1.heap.size + 1 + 1 < w2.heap.size := by omega))
    go_wp2_with fail
    go_ret2
    exact ⟨ret_ib (by rw [stnV, if_pos Hq.out]) rfl, (by repeat' (first | (with_reducible exact Below.refl _ _) | (with_reducible refine Below.alloc ?_ ?_ _) | (with_reducible refine Below.setCell ?_ ?_ _) | (with_reducible refine Below.drew ?_) | (with_reducible refine Below.trans ?_ (Below.mono (by with_reducible assumption) ?_)) | omega | (simp; done) | (simp; omega)))⟩
set_option maxHeartbeats 4000000 in
theorem sStartNeeded_any (A : Option Addr) (c : Nat) (xs : List Bk) (w : World) (h : Rd w w.heap.size A 3 Bk.enc xs) (hx : xs.length ≤ 1048576) :
    Calls Try.prog 24 #[.slice A xs.length c] w fun e w' => e = .returned (.tuple #[.int .i64 (stnV xs), .bool (bksOK xs)]) ∧ Below w.heap.size w w' := by
  cases hG0 : bksOK xs
  · go_enter Try.func24, Try.ntmps24
    go_wp2_with fail
    (go_at_call 59; refine (l20Good_any _ _ _ _ h hx).mono ?_; rintro e w1 ⟨rfl, hb1⟩)
    (have hs1 := hb1.size; (try simp at hs1); obtain ⟨hc1, hf1, hn1⟩ := bcell hb1; (try have hz1_w_0 : w.heap.size < w1.heap.size := by omega); (try have hz1_w_1 : w.heap.size + 1 < w1.heap.size := by omega); (try have hz1_w_2 : w.heap.size + 2 < w1.heap.size := by omega); (try have hz1_w_2b : w.heap.size + 1 + 1 < w1.heap.size := by omega))
    go_wp2_with fail
    go_ret2
    exact ⟨ret_ib (by simp [stnV, hG0]) rfl, (by repeat' (first | (with_reducible exact Below.refl _ _) | (with_reducible refine Below.alloc ?_ ?_ _) | (with_reducible refine Below.setCell ?_ ?_ _) | (with_reducible refine Below.drew ?_) | (with_reducible refine Below.trans ?_ (Below.mono (by with_reducible assumption) ?_)) | omega | (simp; done) | (simp; omega)))⟩
  · have hbd := bksOK_bd hG0
    have hv := Lib.hid hbd.2
    have hn := hbd.1
    clear hbd
    have Hq := Lib.hid hG0
    go_enter Try.func24, Try.ntmps24
    go_wp2_with fail
    (go_at_call 59; refine (l20Good_any _ _ _ _ h hx).mono ?_; rintro e w1 ⟨rfl, hb1⟩)
    (have hs1 := hb1.size; (try simp at hs1); obtain ⟨hc1, hf1, hn1⟩ := bcell hb1; (try have hz1_w_0 : w.heap.size < w1.heap.size := by omega); (try have hz1_w_1 : w.heap.size + 1 < w1.heap.size := by omega); (try have hz1_w_2 : w.heap.size + 2 < w1.heap.size := by omega); (try have hz1_w_2b : w.heap.size + 1 + 1 < w1.heap.size := by omega))
    go_wp2_with fail
    clear hG0
    go_loopw [4, 5] (fun x i wr => ∃ k : Nat, k ≤ xs.length ∧ i = .int .i64 k ∧ x = .int .i64 (nd xs k) ∧ Below w1.heap.size w1 wr) (fun _ i _ => xs.length - (intOf i).toNat)
    case atStart => exact ⟨0, Nat.zero_le _, rfl, rfl, Below.refl _ _⟩
    case round =>
      obtain ⟨k, hk, rfl, rfl, hb⟩ := hrel
      have hr := (h.to hb1).to hb
      have hs := hb.size
      by_cases hlt : k < xs.length
      · obtain ⟨b, o, eA, hB, c0, c1, c2⟩ := bk_cells hr hlt
        subst eA
        have hB1 : b < wr.heap.size := hB
        have hI : (k : Int) < xs.length := by omega
        have hI0 : (0 : Int) ≤ k := by omega
        have hsb := stk_bd (s := 0) (day := (el xs k).d) hv.out hn
        clear h
        go_wp2_with (first | (go_at_call 50; refine (l20Stock_any _ _ _ _ _ _ hr hv hn (by omega) (by omega)).mono ?_; rintro e wX ⟨rfl, rfl⟩) | (go_at_call 60; refine (l1Most_any _ _ _).mono ?_; rintro e wX ⟨rfl, rfl⟩))
        go_roundw
        case rel => exact ⟨k + 1, by omega, by go_num, by rw [nd]; rfl, (by repeat' (first | (with_reducible exact Below.refl _ _) | (with_reducible refine Below.alloc ?_ ?_ _) | (with_reducible refine Below.setCell ?_ ?_ _) | (with_reducible refine Below.drew ?_) | (with_reducible refine Below.trans ?_ (Below.mono (by with_reducible assumption) ?_)) | omega | (simp; done) | (simp; omega)))⟩
        case measure => simp [intOf]; omega
      · obtain rfl : k = xs.length := by omega
        go_wp2
        go_ret2
        exact ⟨ret_ib (by rw [stnV, if_pos Hq.out, nd_lo]) (by first | exact Hq.out.symm | rfl), (by repeat' (first | (with_reducible exact Below.refl _ _) | (with_reducible refine Below.alloc ?_ ?_ _) | (with_reducible refine Below.setCell ?_ ?_ _) | (with_reducible refine Below.drew ?_) | (with_reducible refine Below.trans ?_ (Below.mono (by with_reducible assumption) ?_)) | omega | (simp; done) | (simp; omega)))⟩
end Go.Proofs.Ytkhldmicejdggaa
