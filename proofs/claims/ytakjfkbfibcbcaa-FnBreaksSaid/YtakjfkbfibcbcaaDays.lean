/- Contracts: the next day, the days to mend, the fewest workers (chapter 23). -/
import Derived.Test.YtakjfkbfibcbcaaNext
import Derived.Test.YtakjfkbfibcbcaaMend
set_option linter.unusedSimpArgs false
set_option linter.unusedVariables false
namespace Go.Proofs.Ytakjfkbfibcbcaa
open Go.RowKit Go.Sort Go.Salt
attribute [local go_sem] cell_rg
attribute [local go_sem ↓] run_max_mx run_min_mn
def ndB (xs : List Brk) (W : Int) : Bool := brksOK xs && inB W 0 40
def ndR (xs : List Brk) (W : Int) : List Brk := if ndB xs W = true then ndL xs W else []
theorem ndR_len (xs : List Brk) (W : Int) : (ndR xs W).length ≤ xs.length := by
  unfold ndR; split
  · rw [ndL_len]; exact Nat.le_refl _
  · simp
theorem ok6_of {xs : List Brk} (hv : ∀ i, i < xs.length → brkAt xs i = true) : ∀ i, i < xs.length → Ok6 (el xs i) := fun i hi => by
  have := brkAt_bd (hv i hi); unfold Ok6; omega
set_option maxRecDepth 100000 in
set_option maxHeartbeats 4000000 in
theorem sNextDay_any (A : Option Addr) (c : Nat) (xs : List Brk) (W : Int) (w : World) (h : Rd w w.heap.size A 6 Brk.enc xs) (hx : xs.length ≤ 1048576) :
    Calls Try.prog 49 #[.slice A xs.length c, .int .i64 W] w fun e w' => MadeAt w 25 ((ndR xs W).flatMap Brk.enc) (ndR xs W).length (fun v => .returned (.tuple #[v, .bool (ndB xs W)])) e w' := by
  cases hG0 : brksOK xs
  · have hq : ndB xs W = false := by simp [ndB, hG0]
    go_enter Try.func49, Try.ntmps49
    go_wp2_with fail
    (go_at_call 68; refine (l23Good_any _ _ _ _ h hx).mono ?_; rintro e w1 ⟨rfl, hb1⟩)
    (have hs1 := hb1.size; (try simp at hs1); obtain ⟨hc1, hf1, hn1⟩ := bcell hb1; (try have hz1_w_0 : w.heap.size < w1.heap.size := by omega); (try have hz1_w_1 : w.heap.size + 1 < w1.heap.size := by omega); (try have hz1_w_2 : w.heap.size + 2 < w1.heap.size := by omega); (try have hz1_w_2b : w.heap.size + 1 + 1 < w1.heap.size := by omega))
    go_wp2_with fail
    go_ret2
    exact MadeAt.cast (MadeAt.empty (g := w1.heap.size) (fun v => .returned (.tuple #[v, .bool false])) (by omega) (heap_alloc_new w1 _) (by repeat' (first | (with_reducible exact Below.refl _ _) | (with_reducible refine Below.alloc ?_ ?_ _) | (with_reducible refine Below.setCell ?_ ?_ _) | (with_reducible refine Below.drew ?_) | (with_reducible refine Below.trans ?_ (Below.mono (by with_reducible assumption) ?_)) | omega | (simp; done) | (simp; omega)))) (by simp [ndR, hq]) (by simp [ndR, hq]) (by rw [hq]) rfl
  · cases hG1 : inB W 0 40
    · have hq : ndB xs W = false := by simp [ndB, hG0, hG1]
      go_enter Try.func49, Try.ntmps49
      go_wp2_with (first | (go_at_call 78; refine (l23Some_any _ _).mono ?_; rintro e wX ⟨rfl, rfl⟩))
      (go_at_call 68; refine (l23Good_any _ _ _ _ h hx).mono ?_; rintro e w1 ⟨rfl, hb1⟩)
      (have hs1 := hb1.size; (try simp at hs1); obtain ⟨hc1, hf1, hn1⟩ := bcell hb1; (try have hz1_w_0 : w.heap.size < w1.heap.size := by omega); (try have hz1_w_1 : w.heap.size + 1 < w1.heap.size := by omega); (try have hz1_w_2 : w.heap.size + 2 < w1.heap.size := by omega); (try have hz1_w_2b : w.heap.size + 1 + 1 < w1.heap.size := by omega))
      go_wp2_with (first | (go_at_call 78; refine (l23Some_any _ _).mono ?_; rintro e wX ⟨rfl, rfl⟩))
      go_ret2
      exact MadeAt.cast (MadeAt.empty (g := w1.heap.size) (fun v => .returned (.tuple #[v, .bool false])) (by omega) (heap_alloc_new w1 _) (by repeat' (first | (with_reducible exact Below.refl _ _) | (with_reducible refine Below.alloc ?_ ?_ _) | (with_reducible refine Below.setCell ?_ ?_ _) | (with_reducible refine Below.drew ?_) | (with_reducible refine Below.trans ?_ (Below.mono (by with_reducible assumption) ?_)) | omega | (simp; done) | (simp; omega)))) (by simp [ndR, hq]) (by simp [ndR, hq]) (by rw [hq]) rfl
    · have hq : ndB xs W = true := by simp [ndB, hG0, hG1]
      have hbd := brksOK_bd hG0
      have hv := Lib.hid (ok6_of hbd.2)
      have hn := hbd.1
      have hW := inB_iff.1 hG1
      clear hbd
      go_enter Try.func49, Try.ntmps49
      go_wp2_with (first | (go_at_call 78; refine (l23Some_any _ _).mono ?_; rintro e wX ⟨rfl, rfl⟩))
      (go_at_call 68; refine (l23Good_any _ _ _ _ h hx).mono ?_; rintro e w1 ⟨rfl, hb1⟩)
      (have hs1 := hb1.size; (try simp at hs1); obtain ⟨hc1, hf1, hn1⟩ := bcell hb1; (try have hz1_w_0 : w.heap.size < w1.heap.size := by omega); (try have hz1_w_1 : w.heap.size + 1 < w1.heap.size := by omega); (try have hz1_w_2 : w.heap.size + 2 < w1.heap.size := by omega); (try have hz1_w_2b : w.heap.size + 1 + 1 < w1.heap.size := by omega))
      go_wp2_with (first | (go_at_call 78; refine (l23Some_any _ _).mono ?_; rintro e wX ⟨rfl, rfl⟩))
      refine (sNext_any A c xs W w1 (h.to hb1) (by omega) hv hW.1 hW.2).mono ?_
      rintro e w2 ⟨A2, c2, rfl, own2, hb2⟩
      have hs2 := hb2.size
      go_wp2_with fail
      go_ret2
      exact MadeAt.cast (show MadeAt w 25 ((ndL xs W).flatMap Brk.enc) xs.length (fun v => .returned (.tuple #[v, .bool true])) _ _ from ⟨A2, c2, rfl, own2.mono (by omega), (by repeat' (first | (with_reducible exact Below.refl _ _) | (with_reducible refine Below.alloc ?_ ?_ _) | (with_reducible refine Below.setCell ?_ ?_ _) | (with_reducible refine Below.drew ?_) | (with_reducible refine Below.trans ?_ (Below.mono (by with_reducible assumption) ?_)) | omega | (simp; done) | (simp; omega)))⟩) (by rw [ndR, if_pos hq]) (by rw [ndR, if_pos hq, ndL_len]) (by rw [hq]) rfl
set_option maxRecDepth 100000 in
set_option maxHeartbeats 4000000 in
theorem iNextDay_any (ad : Addr) (c : Nat) (xs : List Brk) (W : Int) (w : World) (h : Rd w w.heap.size (some ad) 6 Brk.enc xs) (hx : xs.length ≤ 1048576) :
    Calls Try.prog 50 #[.slice (some ad) xs.length c, .int .i64 W] w fun e w' => MadeAt w 25 ((ndR xs W).flatMap Brk.enc) (ndR xs W).length (fun v => .returned (.tuple #[v, .bool (ndB xs W)])) e w' := by
  cases hG0 : brksOK xs
  · have hq : ndB xs W = false := by simp [ndB, hG0]
    go_enter Try.func50, Try.ntmps50
    go_wp2_with fail
    (go_at_call 25; refine (areBreaks_any _ _ _ _ h hx).mono ?_; rintro e w1 ⟨rfl, hb1⟩)
    (have hs1 := hb1.size; (try simp at hs1); obtain ⟨hc1, hf1, hn1⟩ := bcell hb1; (try have hz1_w_0 : w.heap.size < w1.heap.size := by omega); (try have hz1_w_1 : w.heap.size + 1 < w1.heap.size := by omega); (try have hz1_w_2 : w.heap.size + 2 < w1.heap.size := by omega); (try have hz1_w_2b : w.heap.size + 1 + 1 < w1.heap.size := by omega))
    go_wp2_with fail
    go_ret2
    exact MadeAt.cast (MadeAt.nil (fun v => .returned (.tuple #[v, .bool false])) (by repeat' (first | (with_reducible exact Below.refl _ _) | (with_reducible refine Below.alloc ?_ ?_ _) | (with_reducible refine Below.setCell ?_ ?_ _) | (with_reducible refine Below.drew ?_) | (with_reducible refine Below.trans ?_ (Below.mono (by with_reducible assumption) ?_)) | omega | (simp; done) | (simp; omega)))) (by simp [ndR, hq]) (by simp [ndR, hq]) (by rw [hq]) rfl
  · cases hG1 : inB W 0 40
    · have hq : ndB xs W = false := by simp [ndB, hG0, hG1]
      go_enter Try.func50, Try.ntmps50
      go_wp2_with (first | (go_at_call 80; refine (isWorkerCount_any _ _).mono ?_; rintro e wX ⟨rfl, rfl⟩))
      (go_at_call 25; refine (areBreaks_any _ _ _ _ h hx).mono ?_; rintro e w1 ⟨rfl, hb1⟩)
      (have hs1 := hb1.size; (try simp at hs1); obtain ⟨hc1, hf1, hn1⟩ := bcell hb1; (try have hz1_w_0 : w.heap.size < w1.heap.size := by omega); (try have hz1_w_1 : w.heap.size + 1 < w1.heap.size := by omega); (try have hz1_w_2 : w.heap.size + 2 < w1.heap.size := by omega); (try have hz1_w_2b : w.heap.size + 1 + 1 < w1.heap.size := by omega))
      go_wp2_with (first | (go_at_call 80; refine (isWorkerCount_any _ _).mono ?_; rintro e wX ⟨rfl, rfl⟩))
      go_ret2
      exact MadeAt.cast (MadeAt.nil (fun v => .returned (.tuple #[v, .bool false])) (by repeat' (first | (with_reducible exact Below.refl _ _) | (with_reducible refine Below.alloc ?_ ?_ _) | (with_reducible refine Below.setCell ?_ ?_ _) | (with_reducible refine Below.drew ?_) | (with_reducible refine Below.trans ?_ (Below.mono (by with_reducible assumption) ?_)) | omega | (simp; done) | (simp; omega)))) (by simp [ndR, hq]) (by simp [ndR, hq]) (by rw [hq]) rfl
    · have hq : ndB xs W = true := by simp [ndB, hG0, hG1]
      have hbd := brksOK_bd hG0
      have hv := Lib.hid (ok6_of hbd.2)
      have hn := hbd.1
      have hW := inB_iff.1 hG1
      clear hbd
      go_enter Try.func50, Try.ntmps50
      go_wp2_with (first | (go_at_call 80; refine (isWorkerCount_any _ _).mono ?_; rintro e wX ⟨rfl, rfl⟩))
      (go_at_call 25; refine (areBreaks_any _ _ _ _ h hx).mono ?_; rintro e w1 ⟨rfl, hb1⟩)
      (have hs1 := hb1.size; (try simp at hs1); obtain ⟨hc1, hf1, hn1⟩ := bcell hb1; (try have hz1_w_0 : w.heap.size < w1.heap.size := by omega); (try have hz1_w_1 : w.heap.size + 1 < w1.heap.size := by omega); (try have hz1_w_2 : w.heap.size + 2 < w1.heap.size := by omega); (try have hz1_w_2b : w.heap.size + 1 + 1 < w1.heap.size := by omega))
      go_wp2_with (first | (go_at_call 80; refine (isWorkerCount_any _ _).mono ?_; rintro e wX ⟨rfl, rfl⟩))
      refine (iNext_any ad c xs W w1 (h.to hb1) (by omega) hv hW.1 hW.2).mono ?_
      rintro e w2 ⟨A2, c2, rfl, own2, hb2⟩
      have hs2 := hb2.size
      go_wp2_with fail
      go_ret2
      exact MadeAt.cast (show MadeAt w 25 ((ndL xs W).flatMap Brk.enc) xs.length (fun v => .returned (.tuple #[v, .bool true])) _ _ from ⟨A2, c2, rfl, own2.mono (by omega), (by repeat' (first | (with_reducible exact Below.refl _ _) | (with_reducible refine Below.alloc ?_ ?_ _) | (with_reducible refine Below.setCell ?_ ?_ _) | (with_reducible refine Below.drew ?_) | (with_reducible refine Below.trans ?_ (Below.mono (by with_reducible assumption) ?_)) | omega | (simp; done) | (simp; omega)))⟩) (by rw [ndR, if_pos hq]) (by rw [ndR, if_pos hq, ndL_len]) (by rw [hq]) rfl
def dayN (xs : List Brk) (W : Int) : Nat → List Brk
  | 0 => xs
  | k + 1 => ndL (dayN xs W k) W
def dayZ (xs : List Brk) (W : Int) (k : Nat) : Bool := (needO (dayN xs W k) (dayN xs W k).length).length == 0
def days (xs : List Brk) (W : Int) : Nat := ((List.range 201).find? (dayZ xs W)).getD 201
theorem days_hit {xs : List Brk} {W : Int} {k : Nat} (hk : k < 201) (h : ∀ j, j < k → dayZ xs W j = false) (hz : dayZ xs W k = true) : days xs W = k := by
  unfold days
  rw [show (List.range 201).find? (dayZ xs W) = some k from ?_]
  · rfl
  · rw [List.find?_range_eq_some]
    exact ⟨hz, List.mem_range.2 hk, fun j hj => by simp [h j hj]⟩
theorem days_none {xs : List Brk} {W : Int} (h : ∀ j, j < 201 → dayZ xs W j = false) : days xs W = 201 := by
  unfold days
  rw [show (List.range 201).find? (dayZ xs W) = none from ?_]
  · rfl
  · rw [List.find?_eq_none]; intro j hj; simp [h j (List.mem_range.1 hj)]
theorem days_le (xs : List Brk) (W : Int) : days xs W ≤ 201 := by
  unfold days
  cases hq : (List.range 201).find? (dayZ xs W) with
  | none => simp
  | some j => have := List.mem_range.1 (List.mem_of_find?_eq_some hq); simp; omega
def daysI (xs : List Brk) (W : Int) : Int := if days xs W = 201 then -1 else days xs W
set_option maxRecDepth 100000 in
set_option maxHeartbeats 4000000 in
theorem iDays_any (A : Option Addr) (c : Nat) (xs : List Brk) (W : Int) (w : World) (h : Rd w w.heap.size A 6 Brk.enc xs) (hx : xs.length ≤ 19) (hv : Hid (∀ i, i < xs.length → Ok6 (el xs i))) (h0 : 0 ≤ W) (h1 : W ≤ 40) :
    Calls Try.prog 81 #[.slice A xs.length c, .int .i64 W] w fun e w' => e = .returned (.int .i64 (daysI xs W)) ∧ Below w.heap.size w w' := by
  go_enter Try.func81, Try.ntmps81
  go_wp2_with fail
  go_loopw [0, 6] (fun v i wr => ∃ (k : Nat) (A' : Option Addr) (c' : Nat) (ys : List Brk), k ≤ 201 ∧ i = .int .i64 k ∧ v = .slice A' ys.length c' ∧ Hid (ys = dayN xs W k) ∧ ys.length ≤ 19 ∧ Hid (Rd wr wr.heap.size A' 6 Brk.enc ys) ∧ Hid (∀ i, i < ys.length → Ok6 (el ys i)) ∧ Hid (∀ j, j < k → dayZ xs W j = false) ∧ Below w.heap.size w wr) (fun _ i _ => 201 - (intOf i).toNat)
  case atStart => exact ⟨0, A, c, xs, by omega, rfl, rfl, rfl, hx, h, hv, fun j hj => by omega, Below.refl _ _⟩
  case round =>
    clear h hx hv
    obtain ⟨k, A', c', ys, hk, rfl, rfl, hy, hx, h, hv, hzz, hb⟩ := hrel
    have hs := hb.size
    by_cases hlt : k < 201
    · have hI : (k : Int) < 201 := by omega
      have hI0 : (0 : Int) ≤ k := by omega
      go_wp2_with fail
      refine (iNeed_any A' c' ys wr h.out hx).mono ?_
      rintro e w1 ⟨A1, c1, rfl, own1, hb1⟩
      have hs1 := hb1.size
      have hnl := needO_len ys ys.length
      obtain ⟨m, hm⟩ : ∃ m, (needO ys ys.length).length = m := ⟨_, rfl⟩
      rw [hm] at hnl ⊢
      replace hm := Lib.hid hm
      by_cases hz : m = 0
      · subst hz
        go_wp2_with fail
        go_ret
        have hd := days_hit hlt hzz.out (by simp only [dayZ, ← hy.out, hm.out]; rfl)
        exact ⟨ret_int (by rw [daysI, hd, if_neg (by omega)]), (by repeat' (first | (with_reducible exact Below.refl _ _) | (with_reducible refine Below.alloc ?_ ?_ _) | (with_reducible refine Below.setCell ?_ ?_ _) | (with_reducible refine Below.drew ?_) | (with_reducible refine Below.trans ?_ (Below.mono (by with_reducible assumption) ?_)) | omega | (simp; done) | (simp; omega)))⟩
      · have hz0 : (0 : Int) < m := by omega
        have hz1 : ¬ ((m : Int) = 0) := by omega
        go_wp2_with fail
        obtain ⟨b, o, rfl, _⟩ := h.out (by omega)
        refine (iNext_any ⟨b, o, none⟩ c' ys W w1 (h.out.to hb1) hx hv h0 h1).mono ?_
        rintro e w2 ⟨A2, c2, rfl, own2, hb2⟩
        have hs2 := hb2.size
        go_wp2_with fail
        go_roundw
        case rel => exact ⟨k + 1, A2, c2, ndL ys W, by omega, by go_num, by rw [ndL_len], by rw [dayN, ← hy.out]; rfl, by rw [ndL_len]; exact hx, OwnAt.rd (by rw [ndL_len]; exact own2) Brk.enc_len, ndL_ok hv.out, fun j hj => by
          rcases Nat.lt_or_ge j k with hjk | hjk
          · exact hzz.out j hjk
          · obtain rfl : j = k := by omega
            simp only [dayZ, ← hy.out, hm.out]; simpa using hz, (by repeat' (first | (with_reducible exact Below.refl _ _) | (with_reducible refine Below.alloc ?_ ?_ _) | (with_reducible refine Below.setCell ?_ ?_ _) | (with_reducible refine Below.drew ?_) | (with_reducible refine Below.trans ?_ (Below.mono (by with_reducible assumption) ?_)) | omega | (simp; done) | (simp; omega)))⟩
        case measure => simp [intOf]; omega
    · obtain rfl : k = 201 := by omega
      go_wp2_with fail
      go_ret
      exact ⟨ret_int (by rw [daysI, days_none hzz.out]; rfl), hb⟩
set_option maxRecDepth 100000 in
set_option maxHeartbeats 4000000 in
theorem sDays_any (A : Option Addr) (c : Nat) (xs : List Brk) (W : Int) (w : World) (h : Rd w w.heap.size A 6 Brk.enc xs) (hx : xs.length ≤ 19) (hv : Hid (∀ i, i < xs.length → Ok6 (el xs i))) (h0 : 0 ≤ W) (h1 : W ≤ 40) :
    Calls Try.prog 79 #[.slice A xs.length c, .int .i64 W] w fun e w' => e = .returned (.int .i64 (days xs W : Int)) ∧ Below w.heap.size w w' := by
  go_enter Try.func79, Try.ntmps79
  go_wp2_with fail
  go_loopw [5, 6] (fun v i wr => ∃ (k : Nat) (A' : Option Addr) (c' : Nat) (ys : List Brk), k ≤ 201 ∧ i = .int .i64 k ∧ v = .slice A' ys.length c' ∧ Hid (ys = dayN xs W k) ∧ ys.length ≤ 19 ∧ Hid (Rd wr wr.heap.size A' 6 Brk.enc ys) ∧ Hid (∀ i, i < ys.length → Ok6 (el ys i)) ∧ Hid (∀ j, j < k → dayZ xs W j = false) ∧ Below w.heap.size w wr) (fun _ i _ => 201 - (intOf i).toNat)
  case atStart => exact ⟨0, A, c, xs, by omega, rfl, rfl, rfl, hx, h, hv, fun j hj => by omega, Below.refl _ _⟩
  case round =>
    clear h hx hv
    obtain ⟨k, A', c', ys, hk, rfl, rfl, hy, hx, h, hv, hzz, hb⟩ := hrel
    have hs := hb.size
    by_cases hlt : k < 201
    · have hI : (k : Int) ≤ 200 := by omega
      have hI0 : (0 : Int) ≤ k := by omega
      go_wp2_with fail
      refine (sOrder_any A' c' ys wr h.out hx (fun i hi => by have := hv.out i hi; unfold Ok6 at this; omega)).mono ?_
      rintro e w1 ⟨A1, c1, rfl, own1, hb1⟩
      have hs1 := hb1.size
      have hnl := needO_len ys ys.length
      obtain ⟨m, hm⟩ : ∃ m, (needO ys ys.length).length = m := ⟨_, rfl⟩
      rw [hm] at hnl ⊢
      replace hm := Lib.hid hm
      by_cases hz : m = 0
      · subst hz
        go_wp2_with fail
        go_ret
        have hd := days_hit hlt hzz.out (by simp only [dayZ, ← hy.out, hm.out]; rfl)
        exact ⟨ret_int (by rw [hd]), (by repeat' (first | (with_reducible exact Below.refl _ _) | (with_reducible refine Below.alloc ?_ ?_ _) | (with_reducible refine Below.setCell ?_ ?_ _) | (with_reducible refine Below.drew ?_) | (with_reducible refine Below.trans ?_ (Below.mono (by with_reducible assumption) ?_)) | omega | (simp; done) | (simp; omega)))⟩
      · have hz0 : (0 : Int) < m := by omega
        have hz1 : ¬ ((m : Int) = 0) := by omega
        go_wp2_with fail
        refine (sNext_any A' c' ys W w1 (h.out.to hb1) hx hv h0 h1).mono ?_
        rintro e w2 ⟨A2, c2, rfl, own2, hb2⟩
        have hs2 := hb2.size
        go_wp2_with fail
        go_roundw
        case rel => exact ⟨k + 1, A2, c2, ndL ys W, by omega, by go_num, by rw [ndL_len], by rw [dayN, ← hy.out]; rfl, by rw [ndL_len]; exact hx, OwnAt.rd (by rw [ndL_len]; exact own2) Brk.enc_len, ndL_ok hv.out, fun j hj => by
          rcases Nat.lt_or_ge j k with hjk | hjk
          · exact hzz.out j hjk
          · obtain rfl : j = k := by omega
            simp only [dayZ, ← hy.out, hm.out]; simpa using hz, (by repeat' (first | (with_reducible exact Below.refl _ _) | (with_reducible refine Below.alloc ?_ ?_ _) | (with_reducible refine Below.setCell ?_ ?_ _) | (with_reducible refine Below.drew ?_) | (with_reducible refine Below.trans ?_ (Below.mono (by with_reducible assumption) ?_)) | omega | (simp; done) | (simp; omega)))⟩
        case measure => simp [intOf]; omega
    · obtain rfl : k = 201 := by omega
      go_wp2_with fail
      go_ret
      exact ⟨ret_int (by rw [days_none hzz.out]; rfl), hb⟩
end Go.Proofs.Ytakjfkbfibcbcaa
