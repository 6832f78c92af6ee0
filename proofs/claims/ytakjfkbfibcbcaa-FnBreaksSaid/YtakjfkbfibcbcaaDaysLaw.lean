/- Contracts and laws: the days to mend, the fewest workers (chapter 23). -/
import Derived.Test.YtakjfkbfibcbcaaDays
import Derived.Test.YtakjfkbfibcbcaaBreakOwn
set_option linter.unusedSimpArgs false
set_option linter.unusedVariables false
namespace Go.Proofs.Ytakjfkbfibcbcaa
open Go.RowKit Go.Sort Go.Salt
attribute [local go_sem] cell_rg
attribute [local go_sem ↓] run_max_mx run_min_mn
def dmB (xs : List Brk) (W : Int) : Bool := ndB xs W && decide (days xs W ≠ 201)
def dm (xs : List Brk) (W : Int) : Int := if dmB xs W = true then days xs W else 0
set_option maxRecDepth 100000 in
set_option maxHeartbeats 4000000 in
theorem sDaysToMend_any (A : Option Addr) (c : Nat) (xs : List Brk) (W : Int) (w : World) (h : Rd w w.heap.size A 6 Brk.enc xs) (hx : xs.length ≤ 1048576) :
    Calls Try.prog 45 #[.slice A xs.length c, .int .i64 W] w fun e w' => e = .returned (.tuple #[.int .i64 (dm xs W), .bool (dmB xs W)]) ∧ Below w.heap.size w w' := by
  cases hG0 : brksOK xs
  · have hq : dmB xs W = false := by simp [dmB, ndB, hG0]
    go_enter Try.func45, Try.ntmps45
    go_wp2_with fail
    (go_at_call 68; refine (l23Good_any _ _ _ _ h hx).mono ?_; rintro e w1 ⟨rfl, hb1⟩)
    (have hs1 := hb1.size; (try simp at hs1); obtain ⟨hc1, hf1, hn1⟩ := bcell hb1; (try have hz1_w_0 : w.heap.size < w1.heap.size := by omega); (try have hz1_w_1 : w.heap.size + 1 < w1.heap.size := by omega); (try have hz1_w_2 : w.heap.size + 2 < w1.heap.size := by omega); (try have hz1_w_2b : w.heap.size + 1 + 1 < w1.heap.size := by omega))
    go_wp2_with fail
    go_ret2
    exact ⟨ret_ib' (by simp [dm, hq]) hq.symm, (by repeat' (first | (with_reducible exact Below.refl _ _) | (with_reducible refine Below.alloc ?_ ?_ _) | (with_reducible refine Below.setCell ?_ ?_ _) | (with_reducible refine Below.drew ?_) | (with_reducible refine Below.trans ?_ (Below.mono (by with_reducible assumption) ?_)) | omega | (simp; done) | (simp; omega)))⟩
  · cases hG1 : inB W 0 40
    · have hq : dmB xs W = false := by simp [dmB, ndB, hG0, hG1]
      go_enter Try.func45, Try.ntmps45
      go_wp2_with (first | (go_at_call 78; refine (l23Some_any _ _).mono ?_; rintro e wX ⟨rfl, rfl⟩))
      (go_at_call 68; refine (l23Good_any _ _ _ _ h hx).mono ?_; rintro e w1 ⟨rfl, hb1⟩)
      (have hs1 := hb1.size; (try simp at hs1); obtain ⟨hc1, hf1, hn1⟩ := bcell hb1; (try have hz1_w_0 : w.heap.size < w1.heap.size := by omega); (try have hz1_w_1 : w.heap.size + 1 < w1.heap.size := by omega); (try have hz1_w_2 : w.heap.size + 2 < w1.heap.size := by omega); (try have hz1_w_2b : w.heap.size + 1 + 1 < w1.heap.size := by omega))
      go_wp2_with (first | (go_at_call 78; refine (l23Some_any _ _).mono ?_; rintro e wX ⟨rfl, rfl⟩))
      go_ret2
      exact ⟨ret_ib' (by simp [dm, hq]) hq.symm, (by repeat' (first | (with_reducible exact Below.refl _ _) | (with_reducible refine Below.alloc ?_ ?_ _) | (with_reducible refine Below.setCell ?_ ?_ _) | (with_reducible refine Below.drew ?_) | (with_reducible refine Below.trans ?_ (Below.mono (by with_reducible assumption) ?_)) | omega | (simp; done) | (simp; omega)))⟩
    · have hbd := brksOK_bd hG0
      have hv := Lib.hid (ok6_of hbd.2)
      have hn := hbd.1
      have hW := inB_iff.1 hG1
      have hle := days_le xs W
      clear hbd
      go_enter Try.func45, Try.ntmps45
      go_wp2_with (first | (go_at_call 78; refine (l23Some_any _ _).mono ?_; rintro e wX ⟨rfl, rfl⟩))
      (go_at_call 68; refine (l23Good_any _ _ _ _ h hx).mono ?_; rintro e w1 ⟨rfl, hb1⟩)
      (have hs1 := hb1.size; (try simp at hs1); obtain ⟨hc1, hf1, hn1⟩ := bcell hb1; (try have hz1_w_0 : w.heap.size < w1.heap.size := by omega); (try have hz1_w_1 : w.heap.size + 1 < w1.heap.size := by omega); (try have hz1_w_2 : w.heap.size + 2 < w1.heap.size := by omega); (try have hz1_w_2b : w.heap.size + 1 + 1 < w1.heap.size := by omega))
      go_wp2_with (first | (go_at_call 78; refine (l23Some_any _ _).mono ?_; rintro e wX ⟨rfl, rfl⟩))
      refine (sDays_any A c xs W w1 (h.to hb1) (by omega) hv hW.1 hW.2).mono ?_
      rintro e w2 ⟨rfl, hb2⟩
      have hs2 := hb2.size
      by_cases hd : days xs W = 201
      · have hq : dmB xs W = false := by simp [dmB, ndB, hG0, hG1, hd]
        rw [hd]
        go_wp2_with fail
        go_ret2
        exact ⟨ret_ib' (by simp [dm, hq]) hq.symm, (by repeat' (first | (with_reducible exact Below.refl _ _) | (with_reducible refine Below.alloc ?_ ?_ _) | (with_reducible refine Below.setCell ?_ ?_ _) | (with_reducible refine Below.drew ?_) | (with_reducible refine Below.trans ?_ (Below.mono (by with_reducible assumption) ?_)) | omega | (simp; done) | (simp; omega)))⟩
      · have hq : dmB xs W = true := by simp [dmB, ndB, hG0, hG1, hd]
        have hd2 : (days xs W : Int) ≤ 200 := by omega
        go_wp2_with fail
        go_ret2
        exact ⟨ret_ib' (by rw [dm, if_pos hq]) hq.symm, (by repeat' (first | (with_reducible exact Below.refl _ _) | (with_reducible refine Below.alloc ?_ ?_ _) | (with_reducible refine Below.setCell ?_ ?_ _) | (with_reducible refine Below.drew ?_) | (with_reducible refine Below.trans ?_ (Below.mono (by with_reducible assumption) ?_)) | omega | (simp; done) | (simp; omega)))⟩
set_option maxRecDepth 100000 in
set_option maxHeartbeats 4000000 in
theorem iDaysToMend_any (A : Option Addr) (c : Nat) (xs : List Brk) (W : Int) (w : World) (h : Rd w w.heap.size A 6 Brk.enc xs) (hx : xs.length ≤ 1048576) :
    Calls Try.prog 46 #[.slice A xs.length c, .int .i64 W] w fun e w' => e = .returned (.tuple #[.int .i64 (dm xs W), .bool (dmB xs W)]) ∧ Below w.heap.size w w' := by
  cases hG0 : brksOK xs
  · have hq : dmB xs W = false := by simp [dmB, ndB, hG0]
    go_enter Try.func46, Try.ntmps46
    go_wp2_with fail
    (go_at_call 25; refine (areBreaks_any _ _ _ _ h hx).mono ?_; rintro e w1 ⟨rfl, hb1⟩)
    (have hs1 := hb1.size; (try simp at hs1); obtain ⟨hc1, hf1, hn1⟩ := bcell hb1; (try have hz1_w_0 : w.heap.size < w1.heap.size := by omega); (try have hz1_w_1 : w.heap.size + 1 < w1.heap.size := by omega); (try have hz1_w_2 : w.heap.size + 2 < w1.heap.size := by omega); (try have hz1_w_2b : w.heap.size + 1 + 1 < w1.heap.size := by omega))
    go_wp2_with fail
    go_ret2
    exact ⟨ret_ib' (by simp [dm, hq]) hq.symm, (by repeat' (first | (with_reducible exact Below.refl _ _) | (with_reducible refine Below.alloc ?_ ?_ _) | (with_reducible refine Below.setCell ?_ ?_ _) | (with_reducible refine Below.drew ?_) | (with_reducible refine Below.trans ?_ (Below.mono (by with_reducible assumption) ?_)) | omega | (simp; done) | (simp; omega)))⟩
  · cases hG1 : inB W 0 40
    · have hq : dmB xs W = false := by simp [dmB, ndB, hG0, hG1]
      go_enter Try.func46, Try.ntmps46
      go_wp2_with (first | (go_at_call 80; refine (isWorkerCount_any _ _).mono ?_; rintro e wX ⟨rfl, rfl⟩))
      (go_at_call 25; refine (areBreaks_any _ _ _ _ h hx).mono ?_; rintro e w1 ⟨rfl, hb1⟩)
      (have hs1 := hb1.size; (try simp at hs1); obtain ⟨hc1, hf1, hn1⟩ := bcell hb1; (try have hz1_w_0 : w.heap.size < w1.heap.size := by omega); (try have hz1_w_1 : w.heap.size + 1 < w1.heap.size := by omega); (try have hz1_w_2 : w.heap.size + 2 < w1.heap.size := by omega); (try have hz1_w_2b : w.heap.size + 1 + 1 < w1.heap.size := by omega))
      go_wp2_with (first | (go_at_call 80; refine (isWorkerCount_any _ _).mono ?_; rintro e wX ⟨rfl, rfl⟩))
      go_ret2
      exact ⟨ret_ib' (by simp [dm, hq]) hq.symm, (by repeat' (first | (with_reducible exact Below.refl _ _) | (with_reducible refine Below.alloc ?_ ?_ _) | (with_reducible refine Below.setCell ?_ ?_ _) | (with_reducible refine Below.drew ?_) | (with_reducible refine Below.trans ?_ (Below.mono (by with_reducible assumption) ?_)) | omega | (simp; done) | (simp; omega)))⟩
    · have hbd := brksOK_bd hG0
      have hv := Lib.hid (ok6_of hbd.2)
      have hn := hbd.1
      have hW := inB_iff.1 hG1
      have hle := days_le xs W
      clear hbd
      go_enter Try.func46, Try.ntmps46
      go_wp2_with (first | (go_at_call 80; refine (isWorkerCount_any _ _).mono ?_; rintro e wX ⟨rfl, rfl⟩))
      (go_at_call 25; refine (areBreaks_any _ _ _ _ h hx).mono ?_; rintro e w1 ⟨rfl, hb1⟩)
      (have hs1 := hb1.size; (try simp at hs1); obtain ⟨hc1, hf1, hn1⟩ := bcell hb1; (try have hz1_w_0 : w.heap.size < w1.heap.size := by omega); (try have hz1_w_1 : w.heap.size + 1 < w1.heap.size := by omega); (try have hz1_w_2 : w.heap.size + 2 < w1.heap.size := by omega); (try have hz1_w_2b : w.heap.size + 1 + 1 < w1.heap.size := by omega))
      go_wp2_with (first | (go_at_call 80; refine (isWorkerCount_any _ _).mono ?_; rintro e wX ⟨rfl, rfl⟩))
      refine (iDays_any A c xs W w1 (h.to hb1) (by omega) hv hW.1 hW.2).mono ?_
      rintro e w2 ⟨rfl, hb2⟩
      have hs2 := hb2.size
      by_cases hd : days xs W = 201
      · have hq : dmB xs W = false := by simp [dmB, ndB, hG0, hG1, hd]
        have he : daysI xs W = -1 := by rw [daysI, if_pos hd]
        rw [he]
        go_wp2_with fail
        go_ret2
        exact ⟨ret_ib' (by rw [dm, hq]; first | rfl | (simp [mx]; done)) hq.symm, (by repeat' (first | (with_reducible exact Below.refl _ _) | (with_reducible refine Below.alloc ?_ ?_ _) | (with_reducible refine Below.setCell ?_ ?_ _) | (with_reducible refine Below.drew ?_) | (with_reducible refine Below.trans ?_ (Below.mono (by with_reducible assumption) ?_)) | omega | (simp; done) | (simp; omega)))⟩
      · have hq : dmB xs W = true := by simp [dmB, ndB, hG0, hG1, hd]
        have he : daysI xs W = days xs W := by rw [daysI, if_neg hd]
        have hd0 : (0 : Int) ≤ (days xs W : Int) := by omega
        rw [he]
        go_wp2_with fail
        go_ret2
        exact ⟨ret_ib' (by rw [dm, if_pos hq]; have := mx_or (days xs W : Int) 0; omega) hq.symm, (by repeat' (first | (with_reducible exact Below.refl _ _) | (with_reducible refine Below.alloc ?_ ?_ _) | (with_reducible refine Below.setCell ?_ ?_ _) | (with_reducible refine Below.drew ?_) | (with_reducible refine Below.trans ?_ (Below.mono (by with_reducible assumption) ?_)) | omega | (simp; done) | (simp; omega)))⟩
set_option maxHeartbeats 4000000 in
theorem FnExactDaysToMend_law (A : Option Addr) (c : Nat) (xs : List Brk) (p : Int) (w : World) (h : Rd w w.heap.size A 6 Brk.enc xs) (hm : xs.length ≤ 9223372036854775807) :
    Calls Try.prog 11 #[.slice A xs.length c, .int .i64 p] w fun e w' => e = .returned (.bool true) ∧ Below w.heap.size w w' := by
  by_cases hx : xs.length ≤ 1048576
  · go_enter Try.func11, Try.ntmps11
    go_wp2_with (first | (go_at_call 22; refine (szBreakS_le _ _ _ _ hx).mono ?_; rintro e wX ⟨rfl, rfl⟩))
    (go_at_call 24; refine (toBreakS_any _ _ _ _ h hx).mono ?_; rintro e w1 ⟨g1, cap1, rfl, hg1, row1, hb1⟩)
    (have hs1 := hb1.size; (try simp at hs1); obtain ⟨hc1, hf1, hn1⟩ := bcell hb1; (try have hz1_w_0 : w.heap.size < w1.heap.size := by omega); (try have hz1_w_1 : w.heap.size + 1 < w1.heap.size := by omega); (try have hz1_w_2 : w.heap.size + 2 < w1.heap.size := by omega); (try have hz1_w_2b : w.heap.size + 1 + 1 < w1.heap.size := by omega))
    go_wp2_with (first | (go_at_call 22; refine (szBreakS_le _ _ _ _ hx).mono ?_; rintro e wX ⟨rfl, rfl⟩))
    (go_at_call 45; refine (sDaysToMend_any _ _ _ _ _ (row1.rdTo Brk.enc_len (by repeat' (first | (with_reducible exact Below.refl _ _) | (with_reducible refine Below.alloc ?_ ?_ _) | (with_reducible refine Below.setCell ?_ ?_ _) | (with_reducible refine Below.drew ?_) | (with_reducible refine Below.trans ?_ (Below.mono (by with_reducible assumption) ?_)) | omega | (simp; done) | (simp; omega)))) hx).mono ?_; rintro e w2 ⟨rfl, hb2⟩)
    (have hs2 := hb2.size; (try simp at hs2); obtain ⟨hc2, hf2, hn2⟩ := bcell hb2; (try have hz2_w_0 : w.heap.size < w2.heap.size := by omega); (try have hz2_w_1 : w.heap.size + 1 < w2.heap.size := by omega); (try have hz2_w_2 : w.heap.size + 2 < w2.heap.size := by omega); (try have hz2_w_2b : w.heap.size + 1 + 1 < w2.heap.size := by omega); (try have hz2_w1_0 : w1.heap.size < w2.heap.size := by omega); (try have hz2_w1_1 : w1.heap.size + 1 < w2.heap.size := by omega); (try have hz2_w1_2 : w1.heap.size + 2 < w2.heap.size := by omega); (try have hz2_w1_2b : w1.heap.size + 1 + 1 < w2.heap.size := by omega))
    go_wp2_with (first | (go_at_call 22; refine (szBreakS_le _ _ _ _ hx).mono ?_; rintro e wX ⟨rfl, rfl⟩))
    (go_at_call 24; refine (toBreakS_any _ _ _ _ (h.to (by repeat' (first | (with_reducible exact Below.refl _ _) | (with_reducible refine Below.alloc ?_ ?_ _) | (with_reducible refine Below.setCell ?_ ?_ _) | (with_reducible refine Below.drew ?_) | (with_reducible refine Below.trans ?_ (Below.mono (by with_reducible assumption) ?_)) | omega | (simp; done) | (simp; omega)))) hx).mono ?_; rintro e w3 ⟨g3, cap3, rfl, hg3, row3, hb3⟩)
    (have hs3 := hb3.size; (try simp at hs3); obtain ⟨hc3, hf3, hn3⟩ := bcell hb3; (try have hz3_w_0 : w.heap.size < w3.heap.size := by omega); (try have hz3_w_1 : w.heap.size + 1 < w3.heap.size := by omega); (try have hz3_w_2 : w.heap.size + 2 < w3.heap.size := by omega); (try have hz3_w_2b : w.heap.size + 1 + 1 < w3.heap.size := by omega); (try have hz3_w1_0 : w1.heap.size < w3.heap.size := by omega); (try have hz3_w1_1 : w1.heap.size + 1 < w3.heap.size := by omega); (try have hz3_w1_2 : w1.heap.size + 2 < w3.heap.size := by omega); (try have hz3_w1_2b : w1.heap.size + 1 + 1 < w3.heap.size := by omega); (try have hz3_w2_0 : w2.heap.size < w3.heap.size := by omega); (try have hz3_w2_1 : w2.heap.size + 1 < w3.heap.size := by omega); (try have hz3_w2_2 : w2.heap.size + 2 < w3.heap.size := by omega); (try have hz3_w2_2b : w2.heap.size + 1 + 1 < w3.heap.size := by omega))
    go_wp2_with (first | (go_at_call 22; refine (szBreakS_le _ _ _ _ hx).mono ?_; rintro e wX ⟨rfl, rfl⟩))
    (go_at_call 46; refine (iDaysToMend_any _ _ _ _ _ (row3.rdTo Brk.enc_len (by repeat' (first | (with_reducible exact Below.refl _ _) | (with_reducible refine Below.alloc ?_ ?_ _) | (with_reducible refine Below.setCell ?_ ?_ _) | (with_reducible refine Below.drew ?_) | (with_reducible refine Below.trans ?_ (Below.mono (by with_reducible assumption) ?_)) | omega | (simp; done) | (simp; omega)))) hx).mono ?_; rintro e w4 ⟨rfl, hb4⟩)
    (have hs4 := hb4.size; (try simp at hs4); obtain ⟨hc4, hf4, hn4⟩ := bcell hb4; (try have hz4_w_0 : w.heap.size < w4.heap.size := by omega); (try have hz4_w_1 : w.heap.size + 1 < w4.heap.size := by omega); (try have hz4_w_2 : w.heap.size + 2 < w4.heap.size := by omega); (try have hz4_w_2b : w.heap.size + 1 + 1 < w4.heap.size := by omega); (try have hz4_w1_0 : w1.heap.size < w4.heap.size := by omega); (try have hz4_w1_1 : w1.heap.size + 1 < w4.heap.size := by omega); (try have hz4_w1_2 : w1.heap.size + 2 < w4.heap.size := by omega); (try have hz4_w1_2b : w1.heap.size + 1 + 1 < w4.heap.size := by omega); (try have hz4_w2_0 : w2.heap.size < w4.heap.size := by omega); (try have hz4_w2_1 : w2.heap.size + 1 < w4.heap.size := by omega); (try have hz4_w2_2 : w2.heap.size + 2 < w4.heap.size := by omega); (try have hz4_w2_2b : w2.heap.size + 1 + 1 < w4.heap.size := by omega); (try have hz4_w3_0 : w3.heap.size < w4.heap.size := by omega); (try have hz4_w3_1 : w3.heap.size + 1 < w4.heap.size := by omega); (try have hz4_w3_2 : w3.heap.size + 2 < w4.heap.size := by omega); (try have hz4_w3_2b : w3.heap.size + 1 + 1 < w4.heap.size := by omega))
    go_wp2_with (first | (go_at_call 22; refine (szBreakS_le _ _ _ _ hx).mono ?_; rintro e wX ⟨rfl, rfl⟩))
    (go_at_call 24; refine (toBreakS_any _ _ _ _ (h.to (by repeat' (first | (with_reducible exact Below.refl _ _) | (with_reducible refine Below.alloc ?_ ?_ _) | (with_reducible refine Below.setCell ?_ ?_ _) | (with_reducible refine Below.drew ?_) | (with_reducible refine Below.trans ?_ (Below.mono (by with_reducible assumption) ?_)) | omega | (simp; done) | (simp; omega)))) hx).mono ?_; rintro e w5 ⟨g5, cap5, rfl, hg5, row5, hb5⟩)
    (have hs5 := hb5.size; (try simp at hs5); obtain ⟨hc5, hf5, hn5⟩ := bcell hb5; (try have hz5_w_0 : w.heap.size < w5.heap.size := by omega); (try have hz5_w_1 : w.heap.size + 1 < w5.heap.size := by omega); (try have hz5_w_2 : w.heap.size + 2 < w5.heap.size := by omega); (try have hz5_w_2b : w.heap.size + 1 + 1 < w5.heap.size := by omega); (try have hz5_w1_0 : w1.heap.size < w5.heap.size := by omega); (try have hz5_w1_1 : w1.heap.size + 1 < w5.heap.size := by omega); (try have hz5_w1_2 : w1.heap.size + 2 < w5.heap.size := by omega); (try have hz5_w1_2b : w1.heap.size + 1 + 1 < w5.heap.size := by omega); (try have hz5_w2_0 : w2.heap.size < w5.heap.size := by omega); (try have hz5_w2_1 : w2.heap.size + 1 < w5.heap.size := by omega); (try have hz5_w2_2 : w2.heap.size + 2 < w5.heap.size := by omega); (try have hz5_w2_2b : w2.heap.size + 1 + 1 < w5.heap.size := by omega); (try have hz5_w3_0 : w3.heap.size < w5.heap.size := by omega); (try have hz5_w3_1 : w3.heap.size + 1 < w5.heap.size := by omega); (try have hz5_w3_2 : w3.heap.size + 2 < w5.heap.size := by omega); (try have hz5_w3_2b : w3.heap.size + 1 + 1 < w5.heap.size := by omega); (try have hz5_w4_0 : w4.heap.size < w5.heap.size := by omega); (try have hz5_w4_1 : w4.heap.size + 1 < w5.heap.size := by omega); (try have hz5_w4_2 : w4.heap.size + 2 < w5.heap.size := by omega); (try have hz5_w4_2b : w4.heap.size + 1 + 1 < w5.heap.size := by omega))
    go_wp2_with (first | (go_at_call 22; refine (szBreakS_le _ _ _ _ hx).mono ?_; rintro e wX ⟨rfl, rfl⟩))
    (go_at_call 26; refine (eqBreakS_same _ _ _ _ _ _ (row3.rdTo Brk.enc_len (by repeat' (first | (with_reducible exact Below.refl _ _) | (with_reducible refine Below.alloc ?_ ?_ _) | (with_reducible refine Below.setCell ?_ ?_ _) | (with_reducible refine Below.drew ?_) | (with_reducible refine Below.trans ?_ (Below.mono (by with_reducible assumption) ?_)) | omega | (simp; done) | (simp; omega)))) (row5.rdTo Brk.enc_len (by repeat' (first | (with_reducible exact Below.refl _ _) | (with_reducible refine Below.alloc ?_ ?_ _) | (with_reducible refine Below.setCell ?_ ?_ _) | (with_reducible refine Below.drew ?_) | (with_reducible refine Below.trans ?_ (Below.mono (by with_reducible assumption) ?_)) | omega | (simp; done) | (simp; omega)))) hx).mono ?_; rintro e w6 ⟨rfl, hb6⟩)
    (have hs6 := hb6.size; (try simp at hs6); obtain ⟨hc6, hf6, hn6⟩ := bcell hb6; (try have hz6_w_0 : w.heap.size < w6.heap.size := by omega); (try have hz6_w_1 : w.heap.size + 1 < w6.heap.size := by omega); (try have hz6_w_2 : w.heap.size + 2 < w6.heap.size := by omega); (try have hz6_w_2b : w.heap.size + 1 + 1 < w6.heap.size := by omega); (try have hz6_w1_0 : w1.heap.size < w6.heap.size := by omega); (try have hz6_w1_1 : w1.heap.size + 1 < w6.heap.size := by omega); (try have hz6_w1_2 : w1.heap.size + 2 < w6.heap.size := by omega); (try have hz6_w1_2b : w1.heap.size + 1 + 1 < w6.heap.size := by omega); (try have hz6_w2_0 : w2.heap.size < w6.heap.size := by omega); (try have hz6_w2_1 : w2.heap.size + 1 < w6.heap.size := by omega); (try have hz6_w2_2 : w2.heap.size + 2 < w6.heap.size := by omega); (try have hz6_w2_2b : w2.heap.size + 1 + 1 < w6.heap.size := by omega); (try have hz6_w3_0 : w3.heap.size < w6.heap.size := by omega); (try have hz6_w3_1 : w3.heap.size + 1 < w6.heap.size := by omega); (try have hz6_w3_2 : w3.heap.size + 2 < w6.heap.size := by omega); (try have hz6_w3_2b : w3.heap.size + 1 + 1 < w6.heap.size := by omega); (try have hz6_w4_0 : w4.heap.size < w6.heap.size := by omega); (try have hz6_w4_1 : w4.heap.size + 1 < w6.heap.size := by omega); (try have hz6_w4_2 : w4.heap.size + 2 < w6.heap.size := by omega); (try have hz6_w4_2b : w4.heap.size + 1 + 1 < w6.heap.size := by omega); (try have hz6_w5_0 : w5.heap.size < w6.heap.size := by omega); (try have hz6_w5_1 : w5.heap.size + 1 < w6.heap.size := by omega); (try have hz6_w5_2 : w5.heap.size + 2 < w6.heap.size := by omega); (try have hz6_w5_2b : w5.heap.size + 1 + 1 < w6.heap.size := by omega))
    go_wp2_with (first | (go_at_call 22; refine (szBreakS_le _ _ _ _ hx).mono ?_; rintro e wX ⟨rfl, rfl⟩))
    go_ret
    exact ⟨rfl, (by repeat' (first | (with_reducible exact Below.refl _ _) | (with_reducible refine Below.alloc ?_ ?_ _) | (with_reducible refine Below.setCell ?_ ?_ _) | (with_reducible refine Below.drew ?_) | (with_reducible refine Below.trans ?_ (Below.mono (by with_reducible assumption) ?_)) | omega | (simp; done) | (simp; omega)))⟩
  · have hx' : 1048576 < xs.length := by omega
    go_enter Try.func11, Try.ntmps11
    go_wp2_with (first | (go_at_call 22; refine (szBreakS_gt _ _ _ _ hm hx').mono ?_; rintro e wX ⟨rfl, rfl⟩))
    go_ret
    exact ⟨rfl, (by repeat' (first | (with_reducible exact Below.refl _ _) | (with_reducible refine Below.alloc ?_ ?_ _) | (with_reducible refine Below.setCell ?_ ?_ _) | (with_reducible refine Below.drew ?_) | (with_reducible refine Below.trans ?_ (Below.mono (by with_reducible assumption) ?_)) | omega | (simp; done) | (simp; omega)))⟩
def fwB (xs : List Brk) (D : Int) : Bool := brksOK xs && inB D 0 200
def fwO (xs : List Brk) (D : Int) : Option Nat := (List.range 41).find? fun k => decide ((days xs (k : Int) : Int) ≤ D)
def fwR (xs : List Brk) (D : Int) : Int := if fwB xs D = true then ((fwO xs D).getD 0 : Nat) else 0
def fwS (xs : List Brk) (D : Int) : Bool := fwB xs D && (fwO xs D).isSome
theorem fw_hit {xs : List Brk} {D : Int} {k : Nat} (hB : fwB xs D = true) (hk : k < 41) (h : ∀ j : Nat, j < k → D < (days xs (j : Int) : Int)) (hz : (days xs (k : Int) : Int) ≤ D) : fwR xs D = k ∧ fwS xs D = true := by
  have hf : fwO xs D = some k := by
    unfold fwO
    rw [List.find?_range_eq_some]
    exact ⟨by simpa using hz, List.mem_range.2 hk, fun j hj => by simp [h j hj]⟩
  exact ⟨by simp [fwR, hB, hf], by simp [fwS, hB, hf]⟩
theorem fw_none {xs : List Brk} {D : Int} (h : ∀ j : Nat, j < 41 → D < (days xs (j : Int) : Int)) : fwR xs D = 0 ∧ fwS xs D = false := by
  have hf : fwO xs D = none := by
    unfold fwO
    rw [List.find?_eq_none]; intro j hj; simp [h j (List.mem_range.1 hj)]
  exact ⟨by simp [fwR, hf], by simp [fwS, hf]⟩
theorem fw_bad {xs : List Brk} {D : Int} (hB : fwB xs D = false) : fwR xs D = 0 ∧ fwS xs D = false := ⟨by simp [fwR, hB], by simp [fwS, hB]⟩
theorem daysI_in {xs : List Brk} {W D : Int} (h1 : D ≤ 200) : inB (daysI xs W) 0 D = decide ((days xs W : Int) ≤ D) := by
  have := days_le xs W
  rw [Bool.eq_iff_iff, inB_iff, decide_eq_true_iff]
  unfold daysI; split <;> omega
set_option maxRecDepth 100000 in
set_option maxHeartbeats 4000000 in
theorem sFewest_any (A : Option Addr) (c : Nat) (xs : List Brk) (D : Int) (w : World) (h : Rd w w.heap.size A 6 Brk.enc xs) (hx : xs.length ≤ 1048576) :
    Calls Try.prog 47 #[.slice A xs.length c, .int .i64 D] w fun e w' => e = .returned (.tuple #[.int .i64 (fwR xs D), .bool (fwS xs D)]) ∧ Below w.heap.size w w' := by
  cases hG0 : brksOK xs
  · have hq := fw_bad (xs := xs) (D := D) (by simp [fwB, hG0])
    go_enter Try.func47, Try.ntmps47
    go_wp2_with fail
    (go_at_call 68; refine (l23Good_any _ _ _ _ h hx).mono ?_; rintro e w1 ⟨rfl, hb1⟩)
    (have hs1 := hb1.size; (try simp at hs1); obtain ⟨hc1, hf1, hn1⟩ := bcell hb1; (try have hz1_w_0 : w.heap.size < w1.heap.size := by omega); (try have hz1_w_1 : w.heap.size + 1 < w1.heap.size := by omega); (try have hz1_w_2 : w.heap.size + 2 < w1.heap.size := by omega); (try have hz1_w_2b : w.heap.size + 1 + 1 < w1.heap.size := by omega))
    go_wp2_with fail
    go_ret2
    exact ⟨ret_ib' hq.1.symm hq.2.symm, (by repeat' (first | (with_reducible exact Below.refl _ _) | (with_reducible refine Below.alloc ?_ ?_ _) | (with_reducible refine Below.setCell ?_ ?_ _) | (with_reducible refine Below.drew ?_) | (with_reducible refine Below.trans ?_ (Below.mono (by with_reducible assumption) ?_)) | omega | (simp; done) | (simp; omega)))⟩
  · cases hG1 : inB D 0 200
    · have hq := fw_bad (xs := xs) (D := D) (by simp [fwB, hG0, hG1])
      go_enter Try.func47, Try.ntmps47
      go_wp2_with (first | (go_at_call 82; refine (l1In_any _ _ _ _).mono ?_; rintro e wX ⟨rfl, rfl⟩))
      (go_at_call 68; refine (l23Good_any _ _ _ _ h hx).mono ?_; rintro e w1 ⟨rfl, hb1⟩)
      (have hs1 := hb1.size; (try simp at hs1); obtain ⟨hc1, hf1, hn1⟩ := bcell hb1; (try have hz1_w_0 : w.heap.size < w1.heap.size := by omega); (try have hz1_w_1 : w.heap.size + 1 < w1.heap.size := by omega); (try have hz1_w_2 : w.heap.size + 2 < w1.heap.size := by omega); (try have hz1_w_2b : w.heap.size + 1 + 1 < w1.heap.size := by omega))
      go_wp2_with (first | (go_at_call 82; refine (l1In_any _ _ _ _).mono ?_; rintro e wX ⟨rfl, rfl⟩))
      go_ret2
      exact ⟨ret_ib' hq.1.symm hq.2.symm, (by repeat' (first | (with_reducible exact Below.refl _ _) | (with_reducible refine Below.alloc ?_ ?_ _) | (with_reducible refine Below.setCell ?_ ?_ _) | (with_reducible refine Below.drew ?_) | (with_reducible refine Below.trans ?_ (Below.mono (by with_reducible assumption) ?_)) | omega | (simp; done) | (simp; omega)))⟩
    · have hbd := brksOK_bd hG0
      have hv := Lib.hid (ok6_of hbd.2)
      have hn := hbd.1
      have hB := Lib.hid (show fwB xs D = true by simp [fwB, hG0, hG1])
      have hD := inB_iff.1 hG1
      clear hbd
      go_enter Try.func47, Try.ntmps47
      go_wp2_with (first | (go_at_call 82; refine (l1In_any _ _ _ _).mono ?_; rintro e wX ⟨rfl, rfl⟩))
      (go_at_call 68; refine (l23Good_any _ _ _ _ h hx).mono ?_; rintro e w1 ⟨rfl, hb1⟩)
      (have hs1 := hb1.size; (try simp at hs1); obtain ⟨hc1, hf1, hn1⟩ := bcell hb1; (try have hz1_w_0 : w.heap.size < w1.heap.size := by omega); (try have hz1_w_1 : w.heap.size + 1 < w1.heap.size := by omega); (try have hz1_w_2 : w.heap.size + 2 < w1.heap.size := by omega); (try have hz1_w_2b : w.heap.size + 1 + 1 < w1.heap.size := by omega))
      go_wp2_with (first | (go_at_call 82; refine (l1In_any _ _ _ _).mono ?_; rintro e wX ⟨rfl, rfl⟩))
      go_loopw [6] (fun i wr => ∃ k : Nat, k ≤ 41 ∧ i = .int .i64 k ∧ Hid (∀ j : Nat, j < k → D < (days xs (j : Int) : Int)) ∧ Below w.heap.size w wr) (fun i _ => 41 - (intOf i).toNat)
      case atStart => exact ⟨0, by omega, rfl, fun j hj => by omega, hb1⟩
      case round =>
        obtain ⟨k, hk, rfl, hzz, hb⟩ := hrel
        have hs := hb.size
        by_cases hlt : k < 41
        · have hI : (k : Int) ≤ 40 := by omega
          have hI0 : (0 : Int) ≤ k := by omega
          have hle := days_le xs (k : Int)
          go_wp2_with fail
          refine (sDays_any A c xs (k : Int) wr (h.to hb) (by omega) hv hI0 hI).mono ?_
          rintro e w2 ⟨rfl, hb2⟩
          have hs2 := hb2.size
          obtain ⟨d, hd⟩ : ∃ d, days xs (k : Int) = d := ⟨_, rfl⟩
          rw [hd] at hle ⊢
          replace hd := Lib.hid hd
          by_cases hz : (d : Int) ≤ D
          · go_wp2_with fail
            go_ret2
            have hq := fw_hit hB.out hlt hzz.out (by rw [hd.out]; exact hz)
            exact ⟨ret_ib' hq.1.symm hq.2.symm, (by repeat' (first | (with_reducible exact Below.refl _ _) | (with_reducible refine Below.alloc ?_ ?_ _) | (with_reducible refine Below.setCell ?_ ?_ _) | (with_reducible refine Below.drew ?_) | (with_reducible refine Below.trans ?_ (Below.mono (by with_reducible assumption) ?_)) | omega | (simp; done) | (simp; omega)))⟩
          · go_wp2_with fail
            go_roundw
            case rel => exact ⟨k + 1, by omega, by go_num, fun j hj => by
              rcases Nat.lt_or_ge j k with hjk | hjk
              · exact hzz.out j hjk
              · obtain rfl : j = k := by omega
                rw [hd.out]; omega, (by repeat' (first | (with_reducible exact Below.refl _ _) | (with_reducible refine Below.alloc ?_ ?_ _) | (with_reducible refine Below.setCell ?_ ?_ _) | (with_reducible refine Below.drew ?_) | (with_reducible refine Below.trans ?_ (Below.mono (by with_reducible assumption) ?_)) | omega | (simp; done) | (simp; omega)))⟩
            case measure => simp [intOf]; omega
        · obtain rfl : k = 41 := by omega
          go_wp2_with fail
          go_ret2
          have hq := fw_none hzz.out
          exact ⟨ret_ib' hq.1.symm hq.2.symm, hb⟩
set_option maxRecDepth 100000 in
set_option maxHeartbeats 4000000 in
theorem iFewest_any (A : Option Addr) (c : Nat) (xs : List Brk) (D : Int) (w : World) (h : Rd w w.heap.size A 6 Brk.enc xs) (hx : xs.length ≤ 1048576) :
    Calls Try.prog 48 #[.slice A xs.length c, .int .i64 D] w fun e w' => e = .returned (.tuple #[.int .i64 (fwR xs D), .bool (fwS xs D)]) ∧ Below w.heap.size w w' := by
  cases hG0 : brksOK xs
  · have hq := fw_bad (xs := xs) (D := D) (by simp [fwB, hG0])
    go_enter Try.func48, Try.ntmps48
    go_wp2_with fail
    (go_at_call 25; refine (areBreaks_any _ _ _ _ h hx).mono ?_; rintro e w1 ⟨rfl, hb1⟩)
    (have hs1 := hb1.size; (try simp at hs1); obtain ⟨hc1, hf1, hn1⟩ := bcell hb1; (try have hz1_w_0 : w.heap.size < w1.heap.size := by omega); (try have hz1_w_1 : w.heap.size + 1 < w1.heap.size := by omega); (try have hz1_w_2 : w.heap.size + 2 < w1.heap.size := by omega); (try have hz1_w_2b : w.heap.size + 1 + 1 < w1.heap.size := by omega))
    go_wp2_with fail
    go_ret2
    exact ⟨ret_ib' hq.1.symm hq.2.symm, (by repeat' (first | (with_reducible exact Below.refl _ _) | (with_reducible refine Below.alloc ?_ ?_ _) | (with_reducible refine Below.setCell ?_ ?_ _) | (with_reducible refine Below.drew ?_) | (with_reducible refine Below.trans ?_ (Below.mono (by with_reducible assumption) ?_)) | omega | (simp; done) | (simp; omega)))⟩
  · cases hG1 : inB D 0 200
    · have hq := fw_bad (xs := xs) (D := D) (by simp [fwB, hG0, hG1])
      go_enter Try.func48, Try.ntmps48
      go_wp2_with (first | (go_at_call 63; refine (within_any _ _ _ _).mono ?_; rintro e wX ⟨rfl, rfl⟩))
      (go_at_call 25; refine (areBreaks_any _ _ _ _ h hx).mono ?_; rintro e w1 ⟨rfl, hb1⟩)
      (have hs1 := hb1.size; (try simp at hs1); obtain ⟨hc1, hf1, hn1⟩ := bcell hb1; (try have hz1_w_0 : w.heap.size < w1.heap.size := by omega); (try have hz1_w_1 : w.heap.size + 1 < w1.heap.size := by omega); (try have hz1_w_2 : w.heap.size + 2 < w1.heap.size := by omega); (try have hz1_w_2b : w.heap.size + 1 + 1 < w1.heap.size := by omega))
      go_wp2_with (first | (go_at_call 63; refine (within_any _ _ _ _).mono ?_; rintro e wX ⟨rfl, rfl⟩))
      go_ret2
      exact ⟨ret_ib' hq.1.symm hq.2.symm, (by repeat' (first | (with_reducible exact Below.refl _ _) | (with_reducible refine Below.alloc ?_ ?_ _) | (with_reducible refine Below.setCell ?_ ?_ _) | (with_reducible refine Below.drew ?_) | (with_reducible refine Below.trans ?_ (Below.mono (by with_reducible assumption) ?_)) | omega | (simp; done) | (simp; omega)))⟩
    · have hbd := brksOK_bd hG0
      have hv := Lib.hid (ok6_of hbd.2)
      have hn := hbd.1
      have hB := Lib.hid (show fwB xs D = true by simp [fwB, hG0, hG1])
      have hD := inB_iff.1 hG1
      clear hbd
      go_enter Try.func48, Try.ntmps48
      go_wp2_with (first | (go_at_call 63; refine (within_any _ _ _ _).mono ?_; rintro e wX ⟨rfl, rfl⟩))
      (go_at_call 25; refine (areBreaks_any _ _ _ _ h hx).mono ?_; rintro e w1 ⟨rfl, hb1⟩)
      (have hs1 := hb1.size; (try simp at hs1); obtain ⟨hc1, hf1, hn1⟩ := bcell hb1; (try have hz1_w_0 : w.heap.size < w1.heap.size := by omega); (try have hz1_w_1 : w.heap.size + 1 < w1.heap.size := by omega); (try have hz1_w_2 : w.heap.size + 2 < w1.heap.size := by omega); (try have hz1_w_2b : w.heap.size + 1 + 1 < w1.heap.size := by omega))
      go_wp2_with (first | (go_at_call 63; refine (within_any _ _ _ _).mono ?_; rintro e wX ⟨rfl, rfl⟩))
      go_loopw [16] (fun i wr => ∃ k : Nat, k ≤ 41 ∧ i = .int .i64 k ∧ Hid (∀ j : Nat, j < k → D < (days xs (j : Int) : Int)) ∧ Below w.heap.size w wr) (fun i _ => 41 - (intOf i).toNat)
      case atStart => exact ⟨0, by omega, rfl, fun j hj => by omega, hb1⟩
      case round =>
        obtain ⟨k, hk, rfl, hzz, hb⟩ := hrel
        have hs := hb.size
        by_cases hlt : k < 41
        · have hI : (k : Int) ≤ 40 := by omega
          have hI0 : (0 : Int) ≤ k := by omega
          have hI1 : (k : Int) < 41 := by omega
          have hin := daysI_in (xs := xs) (W := (k : Int)) hD.2
          go_wp2_with fail
          refine (iDays_any A c xs (k : Int) wr (h.to hb) (by omega) hv hI0 hI).mono ?_
          rintro e w2 ⟨rfl, hb2⟩
          have hs2 := hb2.size
          go_wp2_with fail
          refine (within_any _ _ _ _).mono ?_
          rintro e w3 ⟨rfl, rfl⟩
          rw [hin]
          by_cases hz : (days xs (k : Int) : Int) ≤ D
          · rw [decide_eq_true hz]
            go_wp2_with fail
            go_ret2
            have hq := fw_hit hB.out hlt hzz.out hz
            exact ⟨ret_ib' hq.1.symm hq.2.symm, (by repeat' (first | (with_reducible exact Below.refl _ _) | (with_reducible refine Below.alloc ?_ ?_ _) | (with_reducible refine Below.setCell ?_ ?_ _) | (with_reducible refine Below.drew ?_) | (with_reducible refine Below.trans ?_ (Below.mono (by with_reducible assumption) ?_)) | omega | (simp; done) | (simp; omega)))⟩
          · rw [decide_eq_false hz]
            go_wp2_with fail
            go_roundw
            case rel => exact ⟨k + 1, by omega, by go_num, fun j hj => by
              rcases Nat.lt_or_ge j k with hjk | hjk
              · exact hzz.out j hjk
              · obtain rfl : j = k := by omega
                omega, (by repeat' (first | (with_reducible exact Below.refl _ _) | (with_reducible refine Below.alloc ?_ ?_ _) | (with_reducible refine Below.setCell ?_ ?_ _) | (with_reducible refine Below.drew ?_) | (with_reducible refine Below.trans ?_ (Below.mono (by with_reducible assumption) ?_)) | omega | (simp; done) | (simp; omega)))⟩
            case measure => simp [intOf]; omega
        · obtain rfl : k = 41 := by omega
          go_wp2_with fail
          go_ret2
          have hq := fw_none hzz.out
          exact ⟨ret_ib' hq.1.symm hq.2.symm, hb⟩
set_option maxHeartbeats 4000000 in
theorem FnExactFewestWorkers_law (A : Option Addr) (c : Nat) (xs : List Brk) (p : Int) (w : World) (h : Rd w w.heap.size A 6 Brk.enc xs) (hm : xs.length ≤ 9223372036854775807) :
    Calls Try.prog 12 #[.slice A xs.length c, .int .i64 p] w fun e w' => e = .returned (.bool true) ∧ Below w.heap.size w w' := by
  by_cases hx : xs.length ≤ 1048576
  · go_enter Try.func12, Try.ntmps12
    go_wp2_with (first | (go_at_call 22; refine (szBreakS_le _ _ _ _ hx).mono ?_; rintro e wX ⟨rfl, rfl⟩))
    (go_at_call 24; refine (toBreakS_any _ _ _ _ h hx).mono ?_; rintro e w1 ⟨g1, cap1, rfl, hg1, row1, hb1⟩)
    (have hs1 := hb1.size; (try simp at hs1); obtain ⟨hc1, hf1, hn1⟩ := bcell hb1; (try have hz1_w_0 : w.heap.size < w1.heap.size := by omega); (try have hz1_w_1 : w.heap.size + 1 < w1.heap.size := by omega); (try have hz1_w_2 : w.heap.size + 2 < w1.heap.size := by omega); (try have hz1_w_2b : w.heap.size + 1 + 1 < w1.heap.size := by omega))
    go_wp2_with (first | (go_at_call 22; refine (szBreakS_le _ _ _ _ hx).mono ?_; rintro e wX ⟨rfl, rfl⟩))
    (go_at_call 47; refine (sFewest_any _ _ _ _ _ (row1.rdTo Brk.enc_len (by repeat' (first | (with_reducible exact Below.refl _ _) | (with_reducible refine Below.alloc ?_ ?_ _) | (with_reducible refine Below.setCell ?_ ?_ _) | (with_reducible refine Below.drew ?_) | (with_reducible refine Below.trans ?_ (Below.mono (by with_reducible assumption) ?_)) | omega | (simp; done) | (simp; omega)))) hx).mono ?_; rintro e w2 ⟨rfl, hb2⟩)
    (have hs2 := hb2.size; (try simp at hs2); obtain ⟨hc2, hf2, hn2⟩ := bcell hb2; (try have hz2_w_0 : w.heap.size < w2.heap.size := by omega); (try have hz2_w_1 : w.heap.size + 1 < w2.heap.size := by omega); (try have hz2_w_2 : w.heap.size + 2 < w2.heap.size := by omega); (try have hz2_w_2b : w.heap.size + 1 + 1 < w2.heap.size := by omega); (try have hz2_w1_0 : w1.heap.size < w2.heap.size := by omega); (try have hz2_w1_1 : w1.heap.size + 1 < w2.heap.size := by omega); (try have hz2_w1_2 : w1.heap.size + 2 < w2.heap.size := by omega); (try have hz2_w1_2b : w1.heap.size + 1 + 1 < w2.heap.size := by omega))
    go_wp2_with (first | (go_at_call 22; refine (szBreakS_le _ _ _ _ hx).mono ?_; rintro e wX ⟨rfl, rfl⟩))
    (go_at_call 24; refine (toBreakS_any _ _ _ _ (h.to (by repeat' (first | (with_reducible exact Below.refl _ _) | (with_reducible refine Below.alloc ?_ ?_ _) | (with_reducible refine Below.setCell ?_ ?_ _) | (with_reducible refine Below.drew ?_) | (with_reducible refine Below.trans ?_ (Below.mono (by with_reducible assumption) ?_)) | omega | (simp; done) | (simp; omega)))) hx).mono ?_; rintro e w3 ⟨g3, cap3, rfl, hg3, row3, hb3⟩)
    (have hs3 := hb3.size; (try simp at hs3); obtain ⟨hc3, hf3, hn3⟩ := bcell hb3; (try have hz3_w_0 : w.heap.size < w3.heap.size := by omega); (try have hz3_w_1 : w.heap.size + 1 < w3.heap.size := by omega); (try have hz3_w_2 : w.heap.size + 2 < w3.heap.size := by omega); (try have hz3_w_2b : w.heap.size + 1 + 1 < w3.heap.size := by omega); (try have hz3_w1_0 : w1.heap.size < w3.heap.size := by omega); (try have hz3_w1_1 : w1.heap.size + 1 < w3.heap.size := by omega); (try have hz3_w1_2 : w1.heap.size + 2 < w3.heap.size := by omega); (try have hz3_w1_2b : w1.heap.size + 1 + 1 < w3.heap.size := by omega); (try have hz3_w2_0 : w2.heap.size < w3.heap.size := by omega); (try have hz3_w2_1 : w2.heap.size + 1 < w3.heap.size := by omega); (try have hz3_w2_2 : w2.heap.size + 2 < w3.heap.size := by omega); (try have hz3_w2_2b : w2.heap.size + 1 + 1 < w3.heap.size := by omega))
    go_wp2_with (first | (go_at_call 22; refine (szBreakS_le _ _ _ _ hx).mono ?_; rintro e wX ⟨rfl, rfl⟩))
    (go_at_call 48; refine (iFewest_any _ _ _ _ _ (row3.rdTo Brk.enc_len (by repeat' (first | (with_reducible exact Below.refl _ _) | (with_reducible refine Below.alloc ?_ ?_ _) | (with_reducible refine Below.setCell ?_ ?_ _) | (with_reducible refine Below.drew ?_) | (with_reducible refine Below.trans ?_ (Below.mono (by with_reducible assumption) ?_)) | omega | (simp; done) | (simp; omega)))) hx).mono ?_; rintro e w4 ⟨rfl, hb4⟩)
    (have hs4 := hb4.size; (try simp at hs4); obtain ⟨hc4, hf4, hn4⟩ := bcell hb4; (try have hz4_w_0 : w.heap.size < w4.heap.size := by omega); (try have hz4_w_1 : w.heap.size + 1 < w4.heap.size := by omega); (try have hz4_w_2 : w.heap.size + 2 < w4.heap.size := by omega); (try have hz4_w_2b : w.heap.size + 1 + 1 < w4.heap.size := by omega); (try have hz4_w1_0 : w1.heap.size < w4.heap.size := by omega); (try have hz4_w1_1 : w1.heap.size + 1 < w4.heap.size := by omega); (try have hz4_w1_2 : w1.heap.size + 2 < w4.heap.size := by omega); (try have hz4_w1_2b : w1.heap.size + 1 + 1 < w4.heap.size := by omega); (try have hz4_w2_0 : w2.heap.size < w4.heap.size := by omega); (try have hz4_w2_1 : w2.heap.size + 1 < w4.heap.size := by omega); (try have hz4_w2_2 : w2.heap.size + 2 < w4.heap.size := by omega); (try have hz4_w2_2b : w2.heap.size + 1 + 1 < w4.heap.size := by omega); (try have hz4_w3_0 : w3.heap.size < w4.heap.size := by omega); (try have hz4_w3_1 : w3.heap.size + 1 < w4.heap.size := by omega); (try have hz4_w3_2 : w3.heap.size + 2 < w4.heap.size := by omega); (try have hz4_w3_2b : w3.heap.size + 1 + 1 < w4.heap.size := by omega))
    go_wp2_with (first | (go_at_call 22; refine (szBreakS_le _ _ _ _ hx).mono ?_; rintro e wX ⟨rfl, rfl⟩))
    (go_at_call 24; refine (toBreakS_any _ _ _ _ (h.to (by repeat' (first | (with_reducible exact Below.refl _ _) | (with_reducible refine Below.alloc ?_ ?_ _) | (with_reducible refine Below.setCell ?_ ?_ _) | (with_reducible refine Below.drew ?_) | (with_reducible refine Below.trans ?_ (Below.mono (by with_reducible assumption) ?_)) | omega | (simp; done) | (simp; omega)))) hx).mono ?_; rintro e w5 ⟨g5, cap5, rfl, hg5, row5, hb5⟩)
    (have hs5 := hb5.size; (try simp at hs5); obtain ⟨hc5, hf5, hn5⟩ := bcell hb5; (try have hz5_w_0 : w.heap.size < w5.heap.size := by omega); (try have hz5_w_1 : w.heap.size + 1 < w5.heap.size := by omega); (try have hz5_w_2 : w.heap.size + 2 < w5.heap.size := by omega); (try have hz5_w_2b : w.heap.size + 1 + 1 < w5.heap.size := by omega); (try have hz5_w1_0 : w1.heap.size < w5.heap.size := by omega); (try have hz5_w1_1 : w1.heap.size + 1 < w5.heap.size := by omega); (try have hz5_w1_2 : w1.heap.size + 2 < w5.heap.size := by omega); (try have hz5_w1_2b : w1.heap.size + 1 + 1 < w5.heap.size := by omega); (try have hz5_w2_0 : w2.heap.size < w5.heap.size := by omega); (try have hz5_w2_1 : w2.heap.size + 1 < w5.heap.size := by omega); (try have hz5_w2_2 : w2.heap.size + 2 < w5.heap.size := by omega); (try have hz5_w2_2b : w2.heap.size + 1 + 1 < w5.heap.size := by omega); (try have hz5_w3_0 : w3.heap.size < w5.heap.size := by omega); (try have hz5_w3_1 : w3.heap.size + 1 < w5.heap.size := by omega); (try have hz5_w3_2 : w3.heap.size + 2 < w5.heap.size := by omega); (try have hz5_w3_2b : w3.heap.size + 1 + 1 < w5.heap.size := by omega); (try have hz5_w4_0 : w4.heap.size < w5.heap.size := by omega); (try have hz5_w4_1 : w4.heap.size + 1 < w5.heap.size := by omega); (try have hz5_w4_2 : w4.heap.size + 2 < w5.heap.size := by omega); (try have hz5_w4_2b : w4.heap.size + 1 + 1 < w5.heap.size := by omega))
    go_wp2_with (first | (go_at_call 22; refine (szBreakS_le _ _ _ _ hx).mono ?_; rintro e wX ⟨rfl, rfl⟩))
    (go_at_call 26; refine (eqBreakS_same _ _ _ _ _ _ (row3.rdTo Brk.enc_len (by repeat' (first | (with_reducible exact Below.refl _ _) | (with_reducible refine Below.alloc ?_ ?_ _) | (with_reducible refine Below.setCell ?_ ?_ _) | (with_reducible refine Below.drew ?_) | (with_reducible refine Below.trans ?_ (Below.mono (by with_reducible assumption) ?_)) | omega | (simp; done) | (simp; omega)))) (row5.rdTo Brk.enc_len (by repeat' (first | (with_reducible exact Below.refl _ _) | (with_reducible refine Below.alloc ?_ ?_ _) | (with_reducible refine Below.setCell ?_ ?_ _) | (with_reducible refine Below.drew ?_) | (with_reducible refine Below.trans ?_ (Below.mono (by with_reducible assumption) ?_)) | omega | (simp; done) | (simp; omega)))) hx).mono ?_; rintro e w6 ⟨rfl, hb6⟩)
    (have hs6 := hb6.size; (try simp at hs6); obtain ⟨hc6, hf6, hn6⟩ := bcell hb6; (try have hz6_w_0 : w.heap.size < w6.heap.size := by omega); (try have hz6_w_1 : w.heap.size + 1 < w6.heap.size := by omega); (try have hz6_w_2 : w.heap.size + 2 < w6.heap.size := by omega); (try have hz6_w_2b : w.heap.size + 1 + 1 < w6.heap.size := by omega); (try have hz6_w1_0 : w1.heap.size < w6.heap.size := by omega); (try have hz6_w1_1 : w1.heap.size + 1 < w6.heap.size := by omega); (try have hz6_w1_2 : w1.heap.size + 2 < w6.heap.size := by omega); (try have hz6_w1_2b : w1.heap.size + 1 + 1 < w6.heap.size := by omega); (try have hz6_w2_0 : w2.heap.size < w6.heap.size := by omega); (try have hz6_w2_1 : w2.heap.size + 1 < w6.heap.size := by omega); (try have hz6_w2_2 : w2.heap.size + 2 < w6.heap.size := by omega); (try have hz6_w2_2b : w2.heap.size + 1 + 1 < w6.heap.size := by omega); (try have hz6_w3_0 : w3.heap.size < w6.heap.size := by omega); (try have hz6_w3_1 : w3.heap.size + 1 < w6.heap.size := by omega); (try have hz6_w3_2 : w3.heap.size + 2 < w6.heap.size := by omega); (try have hz6_w3_2b : w3.heap.size + 1 + 1 < w6.heap.size := by omega); (try have hz6_w4_0 : w4.heap.size < w6.heap.size := by omega); (try have hz6_w4_1 : w4.heap.size + 1 < w6.heap.size := by omega); (try have hz6_w4_2 : w4.heap.size + 2 < w6.heap.size := by omega); (try have hz6_w4_2b : w4.heap.size + 1 + 1 < w6.heap.size := by omega); (try have hz6_w5_0 : w5.heap.size < w6.heap.size := by omega); (try have hz6_w5_1 : w5.heap.size + 1 < w6.heap.size := by omega); (try have hz6_w5_2 : w5.heap.size + 2 < w6.heap.size := by omega); (try have hz6_w5_2b : w5.heap.size + 1 + 1 < w6.heap.size := by omega))
    go_wp2_with (first | (go_at_call 22; refine (szBreakS_le _ _ _ _ hx).mono ?_; rintro e wX ⟨rfl, rfl⟩))
    go_ret
    exact ⟨rfl, (by repeat' (first | (with_reducible exact Below.refl _ _) | (with_reducible refine Below.alloc ?_ ?_ _) | (with_reducible refine Below.setCell ?_ ?_ _) | (with_reducible refine Below.drew ?_) | (with_reducible refine Below.trans ?_ (Below.mono (by with_reducible assumption) ?_)) | omega | (simp; done) | (simp; omega)))⟩
  · have hx' : 1048576 < xs.length := by omega
    go_enter Try.func12, Try.ntmps12
    go_wp2_with (first | (go_at_call 22; refine (szBreakS_gt _ _ _ _ hm hx').mono ?_; rintro e wX ⟨rfl, rfl⟩))
    go_ret
    exact ⟨rfl, (by repeat' (first | (with_reducible exact Below.refl _ _) | (with_reducible refine Below.alloc ?_ ?_ _) | (with_reducible refine Below.setCell ?_ ?_ _) | (with_reducible refine Below.drew ?_) | (with_reducible refine Below.trans ?_ (Below.mono (by with_reducible assumption) ?_)) | omega | (simp; done) | (simp; omega)))⟩
end Go.Proofs.Ytakjfkbfibcbcaa
