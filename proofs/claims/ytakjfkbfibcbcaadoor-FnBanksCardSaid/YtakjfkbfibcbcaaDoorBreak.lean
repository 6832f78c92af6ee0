/- Contracts of breaks and nests: which are valid (chapters 23, 24). -/
import Derived.Test.YtakjfkbfibcbcaaDoorBreakList
set_option linter.unusedSimpArgs false
set_option linter.unusedVariables false
namespace Go.Proofs.YtakjfkbfibcbcaaDoor
open Go.RowKit Go.Sort Go.Salt
attribute [local go_sem] cell_rg
attribute [local go_sem ↓] run_max_mx run_min_mn
def brkOK (i p m g t d : Int) : Bool := inB i 1 999 && inB p 1 99 && inB m 1 60 && inB g 1 3 && inB t 0 4000 && inB d 0 m
def brkAt (xs : List Brk) (i : Nat) : Bool := brkOK (el xs i).i (el xs i).p (el xs i).m (el xs i).g (el xs i).t (el xs i).d && (decide (i = 0) || decide ((el xs (i - 1)).i < (el xs i).i))
def brksOK (xs : List Brk) : Bool := (List.range xs.length).all (brkAt xs) && decide (xs.length ≤ 10)
theorem brksOK_no {xs : List Brk} {i : Nat} (h : i < xs.length) (h2 : brkAt xs i = false) : brksOK xs = false := by
  simp only [brksOK, Bool.and_eq_false_iff]
  left
  rw [List.all_eq_false]
  exact ⟨i, List.mem_range.2 h, by simp [h2]⟩
theorem brksOK_all {xs : List Brk} (h : ∀ i, i < xs.length → brkAt xs i = true) : brksOK xs = decide (xs.length ≤ 10) := by
  simp only [brksOK]
  rw [List.all_eq_true.2 (fun i hi => h i (List.mem_range.1 hi)), Bool.true_and]
theorem brksOK_bd {xs : List Brk} (h : brksOK xs = true) : xs.length ≤ 10 ∧ ∀ i, i < xs.length → brkAt xs i = true := by
  simp only [brksOK, Bool.and_eq_true, decide_eq_true_eq] at h
  exact ⟨h.2, fun i hi => List.all_eq_true.1 h.1 i (List.mem_range.2 hi)⟩
theorem brkOK_bd {i p m g t d : Int} (h : brkOK i p m g t d = true) : (1 ≤ i ∧ i ≤ 999) ∧ (1 ≤ p ∧ p ≤ 99) ∧ (1 ≤ m ∧ m ≤ 60) ∧ (1 ≤ g ∧ g ≤ 3) ∧ (0 ≤ t ∧ t ≤ 4000) ∧ (0 ≤ d ∧ d ≤ m) := by
  simp only [brkOK, Bool.and_eq_true] at h
  simp only [inB_iff] at h
  omega
set_option maxHeartbeats 400000 in
theorem isId_any (n : Int) (w : World) :
    Calls Tryd.prog 37 #[.int .i64 n] w fun e w' => e = .returned (.bool (inB n 1 99)) ∧ w = w' := by
  go_enter Tryd.func37, Tryd.ntmps37
  go_wp2_with (go_at_call 43; refine (within_any _ _ _ _).mono ?_; rintro e w1 ⟨rfl, rfl⟩)
  go_ret
  exact ⟨rfl, rfl⟩
set_option maxHeartbeats 400000 in
theorem isDay_any (n : Int) (w : World) :
    Calls Tryd.prog 44 #[.int .i64 n] w fun e w' => e = .returned (.bool (inB n 0 4000)) ∧ w = w' := by
  go_enter Tryd.func44, Tryd.ntmps44
  go_wp2_with (go_at_call 43; refine (within_any _ _ _ _).mono ?_; rintro e w1 ⟨rfl, rfl⟩)
  go_ret
  exact ⟨rfl, rfl⟩
set_option maxHeartbeats 400000 in
theorem l2Day_any (n : Int) (w : World) :
    Calls Tryd.prog 46 #[.int .i64 n] w fun e w' => e = .returned (.bool (inB n 0 4000)) ∧ w = w' := by
  go_enter Tryd.func46, Tryd.ntmps46
  go_wp2_with (go_at_call 45; refine (l1In_any _ _ _ _).mono ?_; rintro e w1 ⟨rfl, rfl⟩)
  go_ret
  exact ⟨rfl, rfl⟩
set_option maxHeartbeats 400000 in
theorem l23Pond_any (n : Int) (w : World) :
    Calls Tryd.prog 41 #[.int .i64 n] w fun e w' => e = .returned (.bool (inB n 1 99)) ∧ w = w' := by
  go_enter Tryd.func41, Tryd.ntmps41
  go_wp2_with (go_at_call 45; refine (l1In_any _ _ _ _).mono ?_; rintro e w1 ⟨rfl, rfl⟩)
  go_ret
  exact ⟨rfl, rfl⟩
set_option maxHeartbeats 4000000 in
theorem isBreak_any (i p m g t d : Int) (w : World) :
    Calls Tryd.prog 24 #[.agg #[.int .i64 i, .int .i64 p, .int .i64 m, .int .i64 g, .int .i64 t, .int .i64 d]] w fun e w' => e = .returned (.bool (brkOK i p m g t d)) ∧ Below w.heap.size w w' := by
  cases h0 : inB i 1 999
  · skip
    go_enter Tryd.func24, Tryd.ntmps24
    go_wp2_with (first | (go_at_call 43; refine (within_any _ _ _ _).mono ?_; rintro e wX ⟨rfl, rfl⟩) | (go_at_call 37; refine (isId_any _ _).mono ?_; rintro e wX ⟨rfl, rfl⟩) | (go_at_call 44; refine (isDay_any _ _).mono ?_; rintro e wX ⟨rfl, rfl⟩))
    go_ret
    exact ⟨ret_bool (by simp [brkOK, h0]), (by repeat' (first | (with_reducible exact Below.refl _ _) | (with_reducible refine Below.alloc ?_ ?_ _) | (with_reducible refine Below.setCell ?_ ?_ _) | (with_reducible refine Below.drew ?_) | (with_reducible refine Below.trans ?_ (Below.mono (by with_reducible assumption) ?_)) | omega | (simp; done) | (simp; omega)))⟩
  · skip
    cases h1 : inB p 1 99
    · skip
      go_enter Tryd.func24, Tryd.ntmps24
      go_wp2_with (first | (go_at_call 43; refine (within_any _ _ _ _).mono ?_; rintro e wX ⟨rfl, rfl⟩) | (go_at_call 37; refine (isId_any _ _).mono ?_; rintro e wX ⟨rfl, rfl⟩) | (go_at_call 44; refine (isDay_any _ _).mono ?_; rintro e wX ⟨rfl, rfl⟩))
      go_ret
      exact ⟨ret_bool (by simp [brkOK, h1]), (by repeat' (first | (with_reducible exact Below.refl _ _) | (with_reducible refine Below.alloc ?_ ?_ _) | (with_reducible refine Below.setCell ?_ ?_ _) | (with_reducible refine Below.drew ?_) | (with_reducible refine Below.trans ?_ (Below.mono (by with_reducible assumption) ?_)) | omega | (simp; done) | (simp; omega)))⟩
    · skip
      cases h2 : inB m 1 60
      · skip
        go_enter Tryd.func24, Tryd.ntmps24
        go_wp2_with (first | (go_at_call 43; refine (within_any _ _ _ _).mono ?_; rintro e wX ⟨rfl, rfl⟩) | (go_at_call 37; refine (isId_any _ _).mono ?_; rintro e wX ⟨rfl, rfl⟩) | (go_at_call 44; refine (isDay_any _ _).mono ?_; rintro e wX ⟨rfl, rfl⟩))
        go_ret
        exact ⟨ret_bool (by simp [brkOK, h2]), (by repeat' (first | (with_reducible exact Below.refl _ _) | (with_reducible refine Below.alloc ?_ ?_ _) | (with_reducible refine Below.setCell ?_ ?_ _) | (with_reducible refine Below.drew ?_) | (with_reducible refine Below.trans ?_ (Below.mono (by with_reducible assumption) ?_)) | omega | (simp; done) | (simp; omega)))⟩
      · skip
        cases h3 : inB g 1 3
        · skip
          go_enter Tryd.func24, Tryd.ntmps24
          go_wp2_with (first | (go_at_call 43; refine (within_any _ _ _ _).mono ?_; rintro e wX ⟨rfl, rfl⟩) | (go_at_call 37; refine (isId_any _ _).mono ?_; rintro e wX ⟨rfl, rfl⟩) | (go_at_call 44; refine (isDay_any _ _).mono ?_; rintro e wX ⟨rfl, rfl⟩))
          go_ret
          exact ⟨ret_bool (by simp [brkOK, h3]), (by repeat' (first | (with_reducible exact Below.refl _ _) | (with_reducible refine Below.alloc ?_ ?_ _) | (with_reducible refine Below.setCell ?_ ?_ _) | (with_reducible refine Below.drew ?_) | (with_reducible refine Below.trans ?_ (Below.mono (by with_reducible assumption) ?_)) | omega | (simp; done) | (simp; omega)))⟩
        · skip
          cases h4 : inB t 0 4000
          · skip
            go_enter Tryd.func24, Tryd.ntmps24
            go_wp2_with (first | (go_at_call 43; refine (within_any _ _ _ _).mono ?_; rintro e wX ⟨rfl, rfl⟩) | (go_at_call 37; refine (isId_any _ _).mono ?_; rintro e wX ⟨rfl, rfl⟩) | (go_at_call 44; refine (isDay_any _ _).mono ?_; rintro e wX ⟨rfl, rfl⟩))
            go_ret
            exact ⟨ret_bool (by simp [brkOK, h4]), (by repeat' (first | (with_reducible exact Below.refl _ _) | (with_reducible refine Below.alloc ?_ ?_ _) | (with_reducible refine Below.setCell ?_ ?_ _) | (with_reducible refine Below.drew ?_) | (with_reducible refine Below.trans ?_ (Below.mono (by with_reducible assumption) ?_)) | omega | (simp; done) | (simp; omega)))⟩
          · skip
            go_enter Tryd.func24, Tryd.ntmps24
            go_wp2_with (first | (go_at_call 43; refine (within_any _ _ _ _).mono ?_; rintro e wX ⟨rfl, rfl⟩) | (go_at_call 37; refine (isId_any _ _).mono ?_; rintro e wX ⟨rfl, rfl⟩) | (go_at_call 44; refine (isDay_any _ _).mono ?_; rintro e wX ⟨rfl, rfl⟩))
            go_ret
            exact ⟨ret_bool (by simp [brkOK, *]), (by repeat' (first | (with_reducible exact Below.refl _ _) | (with_reducible refine Below.alloc ?_ ?_ _) | (with_reducible refine Below.setCell ?_ ?_ _) | (with_reducible refine Below.drew ?_) | (with_reducible refine Below.trans ?_ (Below.mono (by with_reducible assumption) ?_)) | omega | (simp; done) | (simp; omega)))⟩
set_option maxHeartbeats 4000000 in
theorem l23One_any (i p m g t d : Int) (w : World) :
    Calls Tryd.prog 25 #[.agg #[.int .i64 i, .int .i64 p, .int .i64 m, .int .i64 g, .int .i64 t, .int .i64 d]] w fun e w' => e = .returned (.bool (brkOK i p m g t d)) ∧ Below w.heap.size w w' := by
  cases h0 : inB i 1 999
  · skip
    go_enter Tryd.func25, Tryd.ntmps25
    go_wp2_with (first | (go_at_call 45; refine (l1In_any _ _ _ _).mono ?_; rintro e wX ⟨rfl, rfl⟩) | (go_at_call 41; refine (l23Pond_any _ _).mono ?_; rintro e wX ⟨rfl, rfl⟩) | (go_at_call 46; refine (l2Day_any _ _).mono ?_; rintro e wX ⟨rfl, rfl⟩))
    go_ret
    exact ⟨ret_bool (by simp [brkOK, h0]), (by repeat' (first | (with_reducible exact Below.refl _ _) | (with_reducible refine Below.alloc ?_ ?_ _) | (with_reducible refine Below.setCell ?_ ?_ _) | (with_reducible refine Below.drew ?_) | (with_reducible refine Below.trans ?_ (Below.mono (by with_reducible assumption) ?_)) | omega | (simp; done) | (simp; omega)))⟩
  · skip
    cases h1 : inB p 1 99
    · skip
      go_enter Tryd.func25, Tryd.ntmps25
      go_wp2_with (first | (go_at_call 45; refine (l1In_any _ _ _ _).mono ?_; rintro e wX ⟨rfl, rfl⟩) | (go_at_call 41; refine (l23Pond_any _ _).mono ?_; rintro e wX ⟨rfl, rfl⟩) | (go_at_call 46; refine (l2Day_any _ _).mono ?_; rintro e wX ⟨rfl, rfl⟩))
      go_ret
      exact ⟨ret_bool (by simp [brkOK, h1]), (by repeat' (first | (with_reducible exact Below.refl _ _) | (with_reducible refine Below.alloc ?_ ?_ _) | (with_reducible refine Below.setCell ?_ ?_ _) | (with_reducible refine Below.drew ?_) | (with_reducible refine Below.trans ?_ (Below.mono (by with_reducible assumption) ?_)) | omega | (simp; done) | (simp; omega)))⟩
    · skip
      cases h2 : inB m 1 60
      · skip
        go_enter Tryd.func25, Tryd.ntmps25
        go_wp2_with (first | (go_at_call 45; refine (l1In_any _ _ _ _).mono ?_; rintro e wX ⟨rfl, rfl⟩) | (go_at_call 41; refine (l23Pond_any _ _).mono ?_; rintro e wX ⟨rfl, rfl⟩) | (go_at_call 46; refine (l2Day_any _ _).mono ?_; rintro e wX ⟨rfl, rfl⟩))
        go_ret
        exact ⟨ret_bool (by simp [brkOK, h2]), (by repeat' (first | (with_reducible exact Below.refl _ _) | (with_reducible refine Below.alloc ?_ ?_ _) | (with_reducible refine Below.setCell ?_ ?_ _) | (with_reducible refine Below.drew ?_) | (with_reducible refine Below.trans ?_ (Below.mono (by with_reducible assumption) ?_)) | omega | (simp; done) | (simp; omega)))⟩
      · skip
        cases h3 : inB g 1 3
        · skip
          go_enter Tryd.func25, Tryd.ntmps25
          go_wp2_with (first | (go_at_call 45; refine (l1In_any _ _ _ _).mono ?_; rintro e wX ⟨rfl, rfl⟩) | (go_at_call 41; refine (l23Pond_any _ _).mono ?_; rintro e wX ⟨rfl, rfl⟩) | (go_at_call 46; refine (l2Day_any _ _).mono ?_; rintro e wX ⟨rfl, rfl⟩))
          go_ret
          exact ⟨ret_bool (by simp [brkOK, h3]), (by repeat' (first | (with_reducible exact Below.refl _ _) | (with_reducible refine Below.alloc ?_ ?_ _) | (with_reducible refine Below.setCell ?_ ?_ _) | (with_reducible refine Below.drew ?_) | (with_reducible refine Below.trans ?_ (Below.mono (by with_reducible assumption) ?_)) | omega | (simp; done) | (simp; omega)))⟩
        · skip
          cases h4 : inB t 0 4000
          · skip
            go_enter Tryd.func25, Tryd.ntmps25
            go_wp2_with (first | (go_at_call 45; refine (l1In_any _ _ _ _).mono ?_; rintro e wX ⟨rfl, rfl⟩) | (go_at_call 41; refine (l23Pond_any _ _).mono ?_; rintro e wX ⟨rfl, rfl⟩) | (go_at_call 46; refine (l2Day_any _ _).mono ?_; rintro e wX ⟨rfl, rfl⟩))
            go_ret
            exact ⟨ret_bool (by simp [brkOK, h4]), (by repeat' (first | (with_reducible exact Below.refl _ _) | (with_reducible refine Below.alloc ?_ ?_ _) | (with_reducible refine Below.setCell ?_ ?_ _) | (with_reducible refine Below.drew ?_) | (with_reducible refine Below.trans ?_ (Below.mono (by with_reducible assumption) ?_)) | omega | (simp; done) | (simp; omega)))⟩
          · skip
            go_enter Tryd.func25, Tryd.ntmps25
            go_wp2_with (first | (go_at_call 45; refine (l1In_any _ _ _ _).mono ?_; rintro e wX ⟨rfl, rfl⟩) | (go_at_call 41; refine (l23Pond_any _ _).mono ?_; rintro e wX ⟨rfl, rfl⟩) | (go_at_call 46; refine (l2Day_any _ _).mono ?_; rintro e wX ⟨rfl, rfl⟩))
            go_ret
            exact ⟨ret_bool (by simp [brkOK, *]), (by repeat' (first | (with_reducible exact Below.refl _ _) | (with_reducible refine Below.alloc ?_ ?_ _) | (with_reducible refine Below.setCell ?_ ?_ _) | (with_reducible refine Below.drew ?_) | (with_reducible refine Below.trans ?_ (Below.mono (by with_reducible assumption) ?_)) | omega | (simp; done) | (simp; omega)))⟩
set_option maxHeartbeats 4000000 in
theorem areBreaks_any (A : Option Addr) (c : Nat) (xs : List Brk) (w : World) (h : Rd w w.heap.size A 6 Brk.enc xs) (hx : xs.length ≤ 1048576) :
    Calls Tryd.prog 32 #[.slice A xs.length c] w fun e w' => e = .returned (.bool (brksOK xs)) ∧ Below w.heap.size w w' := by
  go_enter Tryd.func32, Tryd.ntmps32
  go_wp2
  go_loopw [7] (fun i wr => ∃ k : Nat, k ≤ xs.length ∧ i = .int .i64 k ∧ Below w.heap.size w wr ∧ Hid (∀ i, i < k → brkAt xs i = true)) (fun i _ => xs.length - (intOf i).toNat)
  case atStart => exact ⟨0, Nat.zero_le _, rfl, Below.refl _ _, fun i hi => by omega⟩
  case round =>
    obtain ⟨k, hk, rfl, hb, Hall⟩ := hrel
    by_cases hlt : k < xs.length
    · obtain ⟨b, o, rfl, hB, c0, c1, c2, c3, c4, c5⟩ := brk_cells (h.below hb) hlt
      have hs := hb.size
      have hB1 : b < wr.heap.size := by omega
      have hI : (k : Int) < xs.length := by omega
      have hI0 : (0 : Int) ≤ k := by omega
      cases hOK : brkOK (el xs k).i (el xs k).p (el xs k).m (el xs k).g (el xs k).t (el xs k).d
      · have Hno := Lib.hid (brksOK_no hlt (by simp [brkAt, hOK]))
        go_wp2_with fail
        refine wp_region_quiet_below (by kernel_rfl) (by kernel_rfl) ?_
        repeat (go_big_quiet_step ((go_at_call 24; exact Calls.regrown_of (isBreak_any _ _ _ _ _ _ _))))
        (refine wpQuiet_nil ?_; intro w1 hwq; have hb1 := of_cls hwq; clear hwq)
        (have hs1 := hb1.size; (try simp at hs1); obtain ⟨hc1, hf1, hn1⟩ := bcell hb1; (try have hz1_wr_0 : wr.heap.size < w1.heap.size := by omega); (try have hz1_wr_1 : wr.heap.size + 1 < w1.heap.size := by omega); (try have hz1_wr_2 : wr.heap.size + 2 < w1.heap.size := by omega); (try have hB1 : b < w1.heap.size := by omega); (try have hB2 : b' < w1.heap.size := by omega); (try have hz1_wr_2b : wr.heap.size + 1 + 1 < w1.heap.size := by omega); (try have hz1_w_0 : w.heap.size < w1.heap.size := by omega); (try have hz1_w_1 : w.heap.size + 1 < w1.heap.size := by omega); (try have hz1_w_2 : w.heap.size + 2 < w1.heap.size := by omega); (try have hz1_w_2b : w.heap.size + 1 + 1 < w1.heap.size := by omega))
        go_wp2_with fail
        go_ret
        exact ⟨ret_bool Hno.out.symm, (by repeat' (first | (with_reducible exact Below.refl _ _) | (with_reducible refine Below.alloc ?_ ?_ _) | (with_reducible refine Below.setCell ?_ ?_ _) | (with_reducible refine Below.drew ?_) | (with_reducible refine Below.trans ?_ (Below.mono (by with_reducible assumption) ?_)) | omega | (simp; done) | (simp; omega)))⟩
      · by_cases h0 : k = 0
        · have Hat := Lib.hid (show brkAt xs k = true by simp only [brkAt, hOK, Bool.true_and]; simp [h0])
          have hd0 : decide (0 < k) = false := by simp [h0]
          have H0 := Lib.hid h0
          clear h0
          go_wp2_with fail
          refine wp_region_quiet_below (by kernel_rfl) (by kernel_rfl) ?_
          repeat (go_big_quiet_step ((go_at_call 24; exact Calls.regrown_of (isBreak_any _ _ _ _ _ _ _))))
          (refine wpQuiet_nil ?_; intro w1 hwq; have hb1 := of_cls hwq; clear hwq)
          (have hs1 := hb1.size; (try simp at hs1); obtain ⟨hc1, hf1, hn1⟩ := bcell hb1; (try have hz1_wr_0 : wr.heap.size < w1.heap.size := by omega); (try have hz1_wr_1 : wr.heap.size + 1 < w1.heap.size := by omega); (try have hz1_wr_2 : wr.heap.size + 2 < w1.heap.size := by omega); (try have hB1 : b < w1.heap.size := by omega); (try have hB2 : b' < w1.heap.size := by omega); (try have hz1_wr_2b : wr.heap.size + 1 + 1 < w1.heap.size := by omega); (try have hz1_w_0 : w.heap.size < w1.heap.size := by omega); (try have hz1_w_1 : w.heap.size + 1 < w1.heap.size := by omega); (try have hz1_w_2 : w.heap.size + 2 < w1.heap.size := by omega); (try have hz1_w_2b : w.heap.size + 1 + 1 < w1.heap.size := by omega))
          go_wp2_with fail
          go_roundw
          case rel => exact ⟨k + 1, by omega, by go_num, (by repeat' (first | (with_reducible exact Below.refl _ _) | (with_reducible refine Below.alloc ?_ ?_ _) | (with_reducible refine Below.setCell ?_ ?_ _) | (with_reducible refine Below.drew ?_) | (with_reducible refine Below.trans ?_ (Below.mono (by with_reducible assumption) ?_)) | omega | (simp; done) | (simp; omega))), fun i hi => by
                              have hk0 := H0.out
                              obtain rfl : i = k := by omega
                              exact Hat.out⟩
          case measure => simp [intOf]; omega
        · obtain ⟨b', o', eA, hB', d0, d1, d2, d3, d4, d5⟩ := brk_cells (h.below hb) (show k - 1 < xs.length by omega)
          obtain ⟨rfl, rfl⟩ : b = b' ∧ o = o' := by simpa using eA
          clear eA
          have hI1 : (0 : Int) ≤ (k : Int) - 1 := by omega
          have hI2 : (k : Int) - 1 < xs.length := by omega
          have hI3 : 0 < k := by omega
          have hd0 : decide (0 < k) = true := by simpa using hI3
          by_cases hA : (el xs k).i ≤ (el xs (k - 1)).i
          · have Hno := Lib.hid (brksOK_no hlt (by simp only [brkAt, hOK, Bool.true_and]; simp [h0]; omega))
            go_wp2_with fail
            refine wp_region_quiet_below (by kernel_rfl) (by kernel_rfl) ?_
            repeat (go_big_quiet_step ((go_at_call 24; exact Calls.regrown_of (isBreak_any _ _ _ _ _ _ _))))
            (refine wpQuiet_nil ?_; intro w1 hwq; have hb1 := of_cls hwq; clear hwq)
            (have hs1 := hb1.size; (try simp at hs1); obtain ⟨hc1, hf1, hn1⟩ := bcell hb1; (try have hz1_wr_0 : wr.heap.size < w1.heap.size := by omega); (try have hz1_wr_1 : wr.heap.size + 1 < w1.heap.size := by omega); (try have hz1_wr_2 : wr.heap.size + 2 < w1.heap.size := by omega); (try have hB1 : b < w1.heap.size := by omega); (try have hB2 : b' < w1.heap.size := by omega); (try have hz1_wr_2b : wr.heap.size + 1 + 1 < w1.heap.size := by omega); (try have hz1_w_0 : w.heap.size < w1.heap.size := by omega); (try have hz1_w_1 : w.heap.size + 1 < w1.heap.size := by omega); (try have hz1_w_2 : w.heap.size + 2 < w1.heap.size := by omega); (try have hz1_w_2b : w.heap.size + 1 + 1 < w1.heap.size := by omega))
            go_wp2_with fail
            go_ret
            exact ⟨ret_bool Hno.out.symm, (by repeat' (first | (with_reducible exact Below.refl _ _) | (with_reducible refine Below.alloc ?_ ?_ _) | (with_reducible refine Below.setCell ?_ ?_ _) | (with_reducible refine Below.drew ?_) | (with_reducible refine Below.trans ?_ (Below.mono (by with_reducible assumption) ?_)) | omega | (simp; done) | (simp; omega)))⟩
          · have Hat := Lib.hid (show brkAt xs k = true by simp only [brkAt, hOK, Bool.true_and]; simp; right; omega)
            go_wp2_with fail
            refine wp_region_quiet_below (by kernel_rfl) (by kernel_rfl) ?_
            repeat (go_big_quiet_step ((go_at_call 24; exact Calls.regrown_of (isBreak_any _ _ _ _ _ _ _))))
            (refine wpQuiet_nil ?_; intro w1 hwq; have hb1 := of_cls hwq; clear hwq)
            (have hs1 := hb1.size; (try simp at hs1); obtain ⟨hc1, hf1, hn1⟩ := bcell hb1; (try have hz1_wr_0 : wr.heap.size < w1.heap.size := by omega); (try have hz1_wr_1 : wr.heap.size + 1 < w1.heap.size := by omega); (try have hz1_wr_2 : wr.heap.size + 2 < w1.heap.size := by omega); (try have hB1 : b < w1.heap.size := by omega); (try have hB2 : b' < w1.heap.size := by omega); (try have hz1_wr_2b : wr.heap.size + 1 + 1 < w1.heap.size := by omega); (try have hz1_w_0 : w.heap.size < w1.heap.size := by omega); (try have hz1_w_1 : w.heap.size + 1 < w1.heap.size := by omega); (try have hz1_w_2 : w.heap.size + 2 < w1.heap.size := by omega); (try have hz1_w_2b : w.heap.size + 1 + 1 < w1.heap.size := by omega))
            go_wp2_with fail
            go_roundw
            case rel => exact ⟨k + 1, by omega, by go_num, (by repeat' (first | (with_reducible exact Below.refl _ _) | (with_reducible refine Below.alloc ?_ ?_ _) | (with_reducible refine Below.setCell ?_ ?_ _) | (with_reducible refine Below.drew ?_) | (with_reducible refine Below.trans ?_ (Below.mono (by with_reducible assumption) ?_)) | omega | (simp; done) | (simp; omega))), fun i hi => by
                              by_cases hik : i < k
                              · exact Hall.out i hik
                              · obtain rfl : i = k := by omega
                                exact Hat.out⟩
            case measure => simp [intOf]; omega
    · obtain rfl : k = xs.length := by omega
      have Hf := Lib.hid (brksOK_all Hall.out)
      go_wp2
      go_ret
      exact ⟨ret_bool (by rw [Hf.out]; first | rfl | (simp; done) | (rw [Bool.eq_iff_iff]; simp; omega)), hb⟩
set_option maxHeartbeats 4000000 in
theorem l23Good_any (A : Option Addr) (c : Nat) (xs : List Brk) (w : World) (h : Rd w w.heap.size A 6 Brk.enc xs) (hx : xs.length ≤ 1048576) :
    Calls Tryd.prog 36 #[.slice A xs.length c] w fun e w' => e = .returned (.bool (brksOK xs)) ∧ Below w.heap.size w w' := by
  go_enter Tryd.func36, Tryd.ntmps36
  go_wp2
  go_loopw [3] (fun i wr => ∃ k : Nat, k ≤ xs.length ∧ i = .int .i64 k ∧ Below w.heap.size w wr ∧ Hid (∀ i, i < k → brkAt xs i = true)) (fun i _ => xs.length - (intOf i).toNat)
  case atStart => exact ⟨0, Nat.zero_le _, rfl, Below.refl _ _, fun i hi => by omega⟩
  case round =>
    obtain ⟨k, hk, rfl, hb, Hall⟩ := hrel
    by_cases hlt : k < xs.length
    · obtain ⟨b, o, rfl, hB, c0, c1, c2, c3, c4, c5⟩ := brk_cells (h.below hb) hlt
      have hs := hb.size
      have hB1 : b < wr.heap.size := by omega
      have hI : (k : Int) < xs.length := by omega
      have hI0 : (0 : Int) ≤ k := by omega
      cases hOK : brkOK (el xs k).i (el xs k).p (el xs k).m (el xs k).g (el xs k).t (el xs k).d
      · have Hno := Lib.hid (brksOK_no hlt (by simp [brkAt, hOK]))
        go_wp2_with fail
        refine wp_region_quiet_below (by kernel_rfl) (by kernel_rfl) ?_
        repeat (go_big_quiet_step ((go_at_call 25; exact Calls.regrown_of (l23One_any _ _ _ _ _ _ _))))
        (refine wpQuiet_nil ?_; intro w1 hwq; have hb1 := of_cls hwq; clear hwq)
        (have hs1 := hb1.size; (try simp at hs1); obtain ⟨hc1, hf1, hn1⟩ := bcell hb1; (try have hz1_wr_0 : wr.heap.size < w1.heap.size := by omega); (try have hz1_wr_1 : wr.heap.size + 1 < w1.heap.size := by omega); (try have hz1_wr_2 : wr.heap.size + 2 < w1.heap.size := by omega); (try have hB1 : b < w1.heap.size := by omega); (try have hB2 : b' < w1.heap.size := by omega); (try have hz1_wr_2b : wr.heap.size + 1 + 1 < w1.heap.size := by omega); (try have hz1_w_0 : w.heap.size < w1.heap.size := by omega); (try have hz1_w_1 : w.heap.size + 1 < w1.heap.size := by omega); (try have hz1_w_2 : w.heap.size + 2 < w1.heap.size := by omega); (try have hz1_w_2b : w.heap.size + 1 + 1 < w1.heap.size := by omega))
        go_wp2_with fail
        go_ret
        exact ⟨ret_bool Hno.out.symm, (by repeat' (first | (with_reducible exact Below.refl _ _) | (with_reducible refine Below.alloc ?_ ?_ _) | (with_reducible refine Below.setCell ?_ ?_ _) | (with_reducible refine Below.drew ?_) | (with_reducible refine Below.trans ?_ (Below.mono (by with_reducible assumption) ?_)) | omega | (simp; done) | (simp; omega)))⟩
      · by_cases h0 : k = 0
        · have Hat := Lib.hid (show brkAt xs k = true by simp only [brkAt, hOK, Bool.true_and]; simp [h0])
          have hd0 : decide (0 < k) = false := by simp [h0]
          have H0 := Lib.hid h0
          clear h0
          go_wp2_with fail
          refine wp_region_quiet_below (by kernel_rfl) (by kernel_rfl) ?_
          repeat (go_big_quiet_step ((go_at_call 25; exact Calls.regrown_of (l23One_any _ _ _ _ _ _ _))))
          (refine wpQuiet_nil ?_; intro w1 hwq; have hb1 := of_cls hwq; clear hwq)
          (have hs1 := hb1.size; (try simp at hs1); obtain ⟨hc1, hf1, hn1⟩ := bcell hb1; (try have hz1_wr_0 : wr.heap.size < w1.heap.size := by omega); (try have hz1_wr_1 : wr.heap.size + 1 < w1.heap.size := by omega); (try have hz1_wr_2 : wr.heap.size + 2 < w1.heap.size := by omega); (try have hB1 : b < w1.heap.size := by omega); (try have hB2 : b' < w1.heap.size := by omega); (try have hz1_wr_2b : wr.heap.size + 1 + 1 < w1.heap.size := by omega); (try have hz1_w_0 : w.heap.size < w1.heap.size := by omega); (try have hz1_w_1 : w.heap.size + 1 < w1.heap.size := by omega); (try have hz1_w_2 : w.heap.size + 2 < w1.heap.size := by omega); (try have hz1_w_2b : w.heap.size + 1 + 1 < w1.heap.size := by omega))
          go_wp2_with fail
          go_roundw
          case rel => exact ⟨k + 1, by omega, by go_num, (by repeat' (first | (with_reducible exact Below.refl _ _) | (with_reducible refine Below.alloc ?_ ?_ _) | (with_reducible refine Below.setCell ?_ ?_ _) | (with_reducible refine Below.drew ?_) | (with_reducible refine Below.trans ?_ (Below.mono (by with_reducible assumption) ?_)) | omega | (simp; done) | (simp; omega))), fun i hi => by
                              have hk0 := H0.out
                              obtain rfl : i = k := by omega
                              exact Hat.out⟩
          case measure => simp [intOf]; omega
        · obtain ⟨b', o', eA, hB', d0, d1, d2, d3, d4, d5⟩ := brk_cells (h.below hb) (show k - 1 < xs.length by omega)
          obtain ⟨rfl, rfl⟩ : b = b' ∧ o = o' := by simpa using eA
          clear eA
          have hI1 : (0 : Int) ≤ (k : Int) - 1 := by omega
          have hI2 : (k : Int) - 1 < xs.length := by omega
          have hI3 : 0 < k := by omega
          have hd0 : decide (0 < k) = true := by simpa using hI3
          by_cases hA : (el xs k).i ≤ (el xs (k - 1)).i
          · have Hno := Lib.hid (brksOK_no hlt (by simp only [brkAt, hOK, Bool.true_and]; simp [h0]; omega))
            go_wp2_with fail
            refine wp_region_quiet_below (by kernel_rfl) (by kernel_rfl) ?_
            repeat (go_big_quiet_step ((go_at_call 25; exact Calls.regrown_of (l23One_any _ _ _ _ _ _ _))))
            (refine wpQuiet_nil ?_; intro w1 hwq; have hb1 := of_cls hwq; clear hwq)
            (have hs1 := hb1.size; (try simp at hs1); obtain ⟨hc1, hf1, hn1⟩ := bcell hb1; (try have hz1_wr_0 : wr.heap.size < w1.heap.size := by omega); (try have hz1_wr_1 : wr.heap.size + 1 < w1.heap.size := by omega); (try have hz1_wr_2 : wr.heap.size + 2 < w1.heap.size := by omega); (try have hB1 : b < w1.heap.size := by omega); (try have hB2 : b' < w1.heap.size := by omega); (try have hz1_wr_2b : wr.heap.size + 1 + 1 < w1.heap.size := by omega); (try have hz1_w_0 : w.heap.size < w1.heap.size := by omega); (try have hz1_w_1 : w.heap.size + 1 < w1.heap.size := by omega); (try have hz1_w_2 : w.heap.size + 2 < w1.heap.size := by omega); (try have hz1_w_2b : w.heap.size + 1 + 1 < w1.heap.size := by omega))
            go_wp2_with fail
            go_ret
            exact ⟨ret_bool Hno.out.symm, (by repeat' (first | (with_reducible exact Below.refl _ _) | (with_reducible refine Below.alloc ?_ ?_ _) | (with_reducible refine Below.setCell ?_ ?_ _) | (with_reducible refine Below.drew ?_) | (with_reducible refine Below.trans ?_ (Below.mono (by with_reducible assumption) ?_)) | omega | (simp; done) | (simp; omega)))⟩
          · have Hat := Lib.hid (show brkAt xs k = true by simp only [brkAt, hOK, Bool.true_and]; simp; right; omega)
            go_wp2_with fail
            refine wp_region_quiet_below (by kernel_rfl) (by kernel_rfl) ?_
            repeat (go_big_quiet_step ((go_at_call 25; exact Calls.regrown_of (l23One_any _ _ _ _ _ _ _))))
            (refine wpQuiet_nil ?_; intro w1 hwq; have hb1 := of_cls hwq; clear hwq)
            (have hs1 := hb1.size; (try simp at hs1); obtain ⟨hc1, hf1, hn1⟩ := bcell hb1; (try have hz1_wr_0 : wr.heap.size < w1.heap.size := by omega); (try have hz1_wr_1 : wr.heap.size + 1 < w1.heap.size := by omega); (try have hz1_wr_2 : wr.heap.size + 2 < w1.heap.size := by omega); (try have hB1 : b < w1.heap.size := by omega); (try have hB2 : b' < w1.heap.size := by omega); (try have hz1_wr_2b : wr.heap.size + 1 + 1 < w1.heap.size := by omega); (try have hz1_w_0 : w.heap.size < w1.heap.size := by omega); (try have hz1_w_1 : w.heap.size + 1 < w1.heap.size := by omega); (try have hz1_w_2 : w.heap.size + 2 < w1.heap.size := by omega); (try have hz1_w_2b : w.heap.size + 1 + 1 < w1.heap.size := by omega))
            go_wp2_with fail
            go_roundw
            case rel => exact ⟨k + 1, by omega, by go_num, (by repeat' (first | (with_reducible exact Below.refl _ _) | (with_reducible refine Below.alloc ?_ ?_ _) | (with_reducible refine Below.setCell ?_ ?_ _) | (with_reducible refine Below.drew ?_) | (with_reducible refine Below.trans ?_ (Below.mono (by with_reducible assumption) ?_)) | omega | (simp; done) | (simp; omega))), fun i hi => by
                              by_cases hik : i < k
                              · exact Hall.out i hik
                              · obtain rfl : i = k := by omega
                                exact Hat.out⟩
            case measure => simp [intOf]; omega
    · obtain rfl : k = xs.length := by omega
      have Hf := Lib.hid (brksOK_all Hall.out)
      go_wp2
      go_ret
      exact ⟨ret_bool (by rw [Hf.out]; first | rfl | (simp; done) | (rw [Bool.eq_iff_iff]; simp; omega)), hb⟩
end Go.Proofs.YtakjfkbfibcbcaaDoor
