/- Contracts of SumOfKind (chapter 20), of the program and of the reference; sums of all kinds. -/
import Derived.Test.YtkhldmicejdggaaStkTwo
import Derived.Test.YtkhldmicejdggaaPutMath
set_option linter.unusedSimpArgs false
set_option linter.unusedVariables false
namespace Go.Proofs.Ytkhldmicejdggaa
open Go.RowKit Go.Sort Go.Salt
attribute [local go_sem] cell_rg
def skq (d k q kind a b : Int) : Int := if k = kind ∧ inB d a b = true then q else 0
def sokTo (xs : List Bk) (kind a b : Int) : Nat → Int
  | 0 => 0
  | n + 1 => sokTo xs kind a b n + skq (el xs n).d (el xs n).k (el xs n).q kind a b
theorem skq_yes {d k q kind a b : Int} (h1 : k = kind) (h2 : inB d a b = true) : skq d k q kind a b = q := if_pos ⟨h1, h2⟩
theorem skq_no {d k q kind a b : Int} (h : ¬ (k = kind ∧ inB d a b = true)) : skq d k q kind a b = 0 := if_neg h
theorem sokTo_bd {xs : List Bk} {kind a b : Int} (hv : ∀ i, i < xs.length → bkAt xs i = true) : ∀ n, n ≤ xs.length → 0 ≤ sokTo xs kind a b n ∧ sokTo xs kind a b n ≤ 100000 * n
  | 0, _ => by simp [sokTo]
  | n + 1, h => by
    have ih := sokTo_bd (kind := kind) (a := a) (b := b) hv n (by omega)
    have hq := bkAt_bd (hv n (by omega))
    have : 0 ≤ skq (el xs n).d (el xs n).k (el xs n).q kind a b ∧ skq (el xs n).d (el xs n).k (el xs n).q kind a b ≤ 100000 := by
      unfold skq; split <;> omega
    rw [sokTo]; omega
def sokB (xs : List Bk) (kind a b : Int) : Bool := bksOK xs && inB kind 1 4 && inB a 0 4000 && inB b 0 4000
def sokV (xs : List Bk) (kind a b : Int) : Int := if sokB xs kind a b then sokTo xs kind a b xs.length else 0
theorem sok_all {xs : List Bk} (hv : ∀ i, i < xs.length → bkAt xs i = true) : ∀ n, n ≤ xs.length → stkTo xs 0 4000 n = sokTo xs 1 0 4000 n - sokTo xs 2 0 4000 n - sokTo xs 3 0 4000 n - sokTo xs 4 0 4000 n
  | 0, _ => by simp [stkTo, sokTo]
  | n + 1, h => by
    have ih := sok_all hv n (by omega)
    have hq := bkAt_bd (hv n (by omega))
    have hin : inB (el xs n).d 0 4000 = true := inB_iff.2 ⟨hq.1, hq.2.1⟩
    have hk : (el xs n).k = 1 ∨ (el xs n).k = 2 ∨ (el xs n).k = 3 ∨ (el xs n).k = 4 := by omega
    simp only [stkTo, sokTo, skq, chg, hin, and_true, if_pos hq.2.1]
    rcases hk with e | e | e | e <;> simp only [e] <;> simp <;> omega
set_option maxHeartbeats 4000000 in
theorem iSumOfKind_any (A : Option Addr) (c : Nat) (xs : List Bk) (kind a b : Int) (w : World) (h : Rd w w.heap.size A 3 Bk.enc xs) (hx : xs.length ≤ 1048576) :
    Calls Try.prog 43 #[.slice A xs.length c, .int .i64 kind, .int .i64 a, .int .i64 b] w fun e w' => e = .returned (.tuple #[.int .i64 (sokV xs kind a b), .bool (sokB xs kind a b)]) ∧ Below w.heap.size w w' := by
  cases hG0 : bksOK xs
  · have hq : sokB xs kind a b = false := by simp [sokB, hG0]
    go_enter Try.func43, Try.ntmps43
    go_wp2_with fail
    (go_at_call 37; refine (areBookings_any _ _ _ _ h hx).mono ?_; rintro e w1 ⟨rfl, hb1⟩)
    (have hs1 := hb1.size; (try simp at hs1); obtain ⟨hc1, hf1, hn1⟩ := bcell hb1; (try have hz1_w_0 : w.heap.size < w1.heap.size := by omega); (try have hz1_w_1 : w.heap.size + 1 < w1.heap.size := by omega); (try have hz1_w_2 : w.heap.size + 2 < w1.heap.size := by omega); (try have hz1_w_2b : w.heap.size + 1 + 1 < w1.heap.size := by omega))
    go_wp2_with fail
    go_ret2
    exact ⟨ret_ib (by simp [sokV, hq]) hq.symm, (by repeat' (first | (with_reducible exact Below.refl _ _) | (with_reducible refine Below.alloc ?_ ?_ _) | (with_reducible refine Below.setCell ?_ ?_ _) | (with_reducible refine Below.drew ?_) | (with_reducible refine Below.trans ?_ (Below.mono (by with_reducible assumption) ?_)) | omega | (simp; done) | (simp; omega)))⟩
  · cases hG1 : inB kind 1 4
    · have hq : sokB xs kind a b = false := by simp [sokB, hG1]
      go_enter Try.func43, Try.ntmps43
      go_wp2_with (first | (go_at_call 73; refine (isBookKind_any _ _).mono ?_; rintro e wX ⟨rfl, rfl⟩))
      (go_at_call 37; refine (areBookings_any _ _ _ _ h hx).mono ?_; rintro e w1 ⟨rfl, hb1⟩)
      (have hs1 := hb1.size; (try simp at hs1); obtain ⟨hc1, hf1, hn1⟩ := bcell hb1; (try have hz1_w_0 : w.heap.size < w1.heap.size := by omega); (try have hz1_w_1 : w.heap.size + 1 < w1.heap.size := by omega); (try have hz1_w_2 : w.heap.size + 2 < w1.heap.size := by omega); (try have hz1_w_2b : w.heap.size + 1 + 1 < w1.heap.size := by omega))
      go_wp2_with (first | (go_at_call 73; refine (isBookKind_any _ _).mono ?_; rintro e wX ⟨rfl, rfl⟩))
      go_ret2
      exact ⟨ret_ib (by simp [sokV, hq]) hq.symm, (by repeat' (first | (with_reducible exact Below.refl _ _) | (with_reducible refine Below.alloc ?_ ?_ _) | (with_reducible refine Below.setCell ?_ ?_ _) | (with_reducible refine Below.drew ?_) | (with_reducible refine Below.trans ?_ (Below.mono (by with_reducible assumption) ?_)) | omega | (simp; done) | (simp; omega)))⟩
    · cases hG2 : inB a 0 4000
      · have hq : sokB xs kind a b = false := by simp [sokB, hG2]
        go_enter Try.func43, Try.ntmps43
        go_wp2_with (first | (go_at_call 73; refine (isBookKind_any _ _).mono ?_; rintro e wX ⟨rfl, rfl⟩) | (go_at_call 52; refine (isDay_any _ _).mono ?_; rintro e wX ⟨rfl, rfl⟩))
        (go_at_call 37; refine (areBookings_any _ _ _ _ h hx).mono ?_; rintro e w1 ⟨rfl, hb1⟩)
        (have hs1 := hb1.size; (try simp at hs1); obtain ⟨hc1, hf1, hn1⟩ := bcell hb1; (try have hz1_w_0 : w.heap.size < w1.heap.size := by omega); (try have hz1_w_1 : w.heap.size + 1 < w1.heap.size := by omega); (try have hz1_w_2 : w.heap.size + 2 < w1.heap.size := by omega); (try have hz1_w_2b : w.heap.size + 1 + 1 < w1.heap.size := by omega))
        go_wp2_with (first | (go_at_call 73; refine (isBookKind_any _ _).mono ?_; rintro e wX ⟨rfl, rfl⟩) | (go_at_call 52; refine (isDay_any _ _).mono ?_; rintro e wX ⟨rfl, rfl⟩))
        go_ret2
        exact ⟨ret_ib (by simp [sokV, hq]) hq.symm, (by repeat' (first | (with_reducible exact Below.refl _ _) | (with_reducible refine Below.alloc ?_ ?_ _) | (with_reducible refine Below.setCell ?_ ?_ _) | (with_reducible refine Below.drew ?_) | (with_reducible refine Below.trans ?_ (Below.mono (by with_reducible assumption) ?_)) | omega | (simp; done) | (simp; omega)))⟩
      · cases hG3 : inB b 0 4000
        · have hq : sokB xs kind a b = false := by simp [sokB, hG3]
          go_enter Try.func43, Try.ntmps43
          go_wp2_with (first | (go_at_call 73; refine (isBookKind_any _ _).mono ?_; rintro e wX ⟨rfl, rfl⟩) | (go_at_call 52; refine (isDay_any _ _).mono ?_; rintro e wX ⟨rfl, rfl⟩))
          (go_at_call 37; refine (areBookings_any _ _ _ _ h hx).mono ?_; rintro e w1 ⟨rfl, hb1⟩)
          (have hs1 := hb1.size; (try simp at hs1); obtain ⟨hc1, hf1, hn1⟩ := bcell hb1; (try have hz1_w_0 : w.heap.size < w1.heap.size := by omega); (try have hz1_w_1 : w.heap.size + 1 < w1.heap.size := by omega); (try have hz1_w_2 : w.heap.size + 2 < w1.heap.size := by omega); (try have hz1_w_2b : w.heap.size + 1 + 1 < w1.heap.size := by omega))
          go_wp2_with (first | (go_at_call 73; refine (isBookKind_any _ _).mono ?_; rintro e wX ⟨rfl, rfl⟩) | (go_at_call 52; refine (isDay_any _ _).mono ?_; rintro e wX ⟨rfl, rfl⟩))
          go_ret2
          exact ⟨ret_ib (by simp [sokV, hq]) hq.symm, (by repeat' (first | (with_reducible exact Below.refl _ _) | (with_reducible refine Below.alloc ?_ ?_ _) | (with_reducible refine Below.setCell ?_ ?_ _) | (with_reducible refine Below.drew ?_) | (with_reducible refine Below.trans ?_ (Below.mono (by with_reducible assumption) ?_)) | omega | (simp; done) | (simp; omega)))⟩
        · have Hq := Lib.hid (show sokB xs kind a b = true by simp [sokB, hG0, hG1, hG2, hG3])
          have hbd := bksOK_bd hG0
          have hv := Lib.hid hbd.2
          have hn := hbd.1
          clear hbd
          go_enter Try.func43, Try.ntmps43
          go_wp2_with (first | (go_at_call 73; refine (isBookKind_any _ _).mono ?_; rintro e wX ⟨rfl, rfl⟩) | (go_at_call 52; refine (isDay_any _ _).mono ?_; rintro e wX ⟨rfl, rfl⟩))
          (go_at_call 37; refine (areBookings_any _ _ _ _ h hx).mono ?_; rintro e w1 ⟨rfl, hb1⟩)
          (have hs1 := hb1.size; (try simp at hs1); obtain ⟨hc1, hf1, hn1⟩ := bcell hb1; (try have hz1_w_0 : w.heap.size < w1.heap.size := by omega); (try have hz1_w_1 : w.heap.size + 1 < w1.heap.size := by omega); (try have hz1_w_2 : w.heap.size + 2 < w1.heap.size := by omega); (try have hz1_w_2b : w.heap.size + 1 + 1 < w1.heap.size := by omega))
          go_wp2_with (first | (go_at_call 73; refine (isBookKind_any _ _).mono ?_; rintro e wX ⟨rfl, rfl⟩) | (go_at_call 52; refine (isDay_any _ _).mono ?_; rintro e wX ⟨rfl, rfl⟩))
          have hb0 : Below w.heap.size w w1 := (by repeat' (first | (with_reducible exact Below.refl _ _) | (with_reducible refine Below.alloc ?_ ?_ _) | (with_reducible refine Below.setCell ?_ ?_ _) | (with_reducible refine Below.drew ?_) | (with_reducible refine Below.trans ?_ (Below.mono (by with_reducible assumption) ?_)) | omega | (simp; done) | (simp; omega)))
          go_loopw [10, 33] (fun x i wr => ∃ k : Nat, k ≤ xs.length ∧ i = .int .i64 k ∧ x = .int .i64 (sokTo xs kind a b k) ∧ Below w.heap.size w wr) (fun _ i _ => xs.length - (intOf i).toNat)
          case atStart => exact ⟨0, Nat.zero_le _, rfl, rfl, hb0⟩
          case round =>
            clear hb0 hb1 hc1 hf1 hn1 hs1
            obtain ⟨k, hk, rfl, rfl, hb⟩ := hrel
            by_cases hlt : k < xs.length
            · obtain ⟨b', o, rfl, hB, c0, c1, c2⟩ := bk_cells (h.below hb) hlt
              have hs := hb.size
              have hB1 : b' < wr.heap.size := by omega
              have hI : (k : Int) < xs.length := by omega
              have hI0 : (0 : Int) ≤ k := by omega
              have hq := bkAt_bd (hv.out k hlt)
              have hbd := sokTo_bd (kind := kind) (a := a) (b := b) hv.out k (by omega)
              cases hk1 : ((el xs k).k == kind)
              · have Hc := Lib.hid (show skq (el xs k).d (el xs k).k (el xs k).q kind a b = 0 from skq_no (fun h => by simp [h.1] at hk1))
                go_wp2_with (first | (go_at_call 73; refine (isBookKind_any _ _).mono ?_; rintro e wX ⟨rfl, rfl⟩) | (go_at_call 52; refine (isDay_any _ _).mono ?_; rintro e wX ⟨rfl, rfl⟩))
                go_roundw
                case rel => exact ⟨k + 1, by omega, by go_num, by rw [sokTo, Hc.out, Int.add_zero], (by repeat' (first | (with_reducible exact Below.refl _ _) | (with_reducible refine Below.alloc ?_ ?_ _) | (with_reducible refine Below.setCell ?_ ?_ _) | (with_reducible refine Below.drew ?_) | (with_reducible refine Below.trans ?_ (Below.mono (by with_reducible assumption) ?_)) | omega | (simp; done) | (simp; omega)))⟩
                case measure => simp [intOf]; omega
              · cases hin : inB (el xs k).d a b
                · have Hc := Lib.hid (show skq (el xs k).d (el xs k).k (el xs k).q kind a b = 0 from skq_no (fun h => by simp [hin] at h))
                  go_wp2_with (first | (go_at_call 73; refine (isBookKind_any _ _).mono ?_; rintro e wX ⟨rfl, rfl⟩) | (go_at_call 52; refine (isDay_any _ _).mono ?_; rintro e wX ⟨rfl, rfl⟩) | (go_at_call 56; refine (within_any _ _ _ _).mono ?_; rintro e wX ⟨rfl, rfl⟩))
                  go_roundw
                  case rel => exact ⟨k + 1, by omega, by go_num, by rw [sokTo, Hc.out, Int.add_zero], (by repeat' (first | (with_reducible exact Below.refl _ _) | (with_reducible refine Below.alloc ?_ ?_ _) | (with_reducible refine Below.setCell ?_ ?_ _) | (with_reducible refine Below.drew ?_) | (with_reducible refine Below.trans ?_ (Below.mono (by with_reducible assumption) ?_)) | omega | (simp; done) | (simp; omega)))⟩
                  case measure => simp [intOf]; omega
                · have Hc := Lib.hid (show skq (el xs k).d (el xs k).k (el xs k).q kind a b = (el xs k).q from skq_yes (by simpa using hk1) hin)
                  go_wp2_with (first | (go_at_call 73; refine (isBookKind_any _ _).mono ?_; rintro e wX ⟨rfl, rfl⟩) | (go_at_call 52; refine (isDay_any _ _).mono ?_; rintro e wX ⟨rfl, rfl⟩) | (go_at_call 56; refine (within_any _ _ _ _).mono ?_; rintro e wX ⟨rfl, rfl⟩) | (go_at_call 56; refine (within_any _ _ _ _).mono ?_; rintro e wX ⟨rfl, rfl⟩))
                  go_roundw
                  case rel => exact ⟨k + 1, by omega, by go_num, by rw [sokTo, Hc.out], (by repeat' (first | (with_reducible exact Below.refl _ _) | (with_reducible refine Below.alloc ?_ ?_ _) | (with_reducible refine Below.setCell ?_ ?_ _) | (with_reducible refine Below.drew ?_) | (with_reducible refine Below.trans ?_ (Below.mono (by with_reducible assumption) ?_)) | omega | (simp; done) | (simp; omega)))⟩
                  case measure => simp [intOf]; omega
            · obtain rfl : k = xs.length := by omega
              have hI : ¬ ((xs.length : Nat) : Int) < xs.length := by omega
              go_wp2
              go_ret2
              exact ⟨ret_ib (by rw [sokV, if_pos Hq.out]) Hq.out.symm, hb⟩
set_option maxHeartbeats 4000000 in
theorem sSumOfKind_any (A : Option Addr) (c : Nat) (xs : List Bk) (kind a b : Int) (w : World) (h : Rd w w.heap.size A 3 Bk.enc xs) (hx : xs.length ≤ 1048576) :
    Calls Try.prog 47 #[.slice A xs.length c, .int .i64 kind, .int .i64 a, .int .i64 b] w fun e w' => e = .returned (.tuple #[.int .i64 (sokV xs kind a b), .bool (sokB xs kind a b)]) ∧ Below w.heap.size w w' := by
  cases hG0 : bksOK xs
  · have hq : sokB xs kind a b = false := by simp [sokB, hG0]
    go_enter Try.func47, Try.ntmps47
    go_wp2_with fail
    (go_at_call 59; refine (l20Good_any _ _ _ _ h hx).mono ?_; rintro e w1 ⟨rfl, hb1⟩)
    (have hs1 := hb1.size; (try simp at hs1); obtain ⟨hc1, hf1, hn1⟩ := bcell hb1; (try have hz1_w_0 : w.heap.size < w1.heap.size := by omega); (try have hz1_w_1 : w.heap.size + 1 < w1.heap.size := by omega); (try have hz1_w_2 : w.heap.size + 2 < w1.heap.size := by omega); (try have hz1_w_2b : w.heap.size + 1 + 1 < w1.heap.size := by omega))
    go_wp2_with fail
    go_ret2
    exact ⟨ret_ib (by simp [sokV, hq]) hq.symm, (by repeat' (first | (with_reducible exact Below.refl _ _) | (with_reducible refine Below.alloc ?_ ?_ _) | (with_reducible refine Below.setCell ?_ ?_ _) | (with_reducible refine Below.drew ?_) | (with_reducible refine Below.trans ?_ (Below.mono (by with_reducible assumption) ?_)) | omega | (simp; done) | (simp; omega)))⟩
  · cases hG1 : inB kind 1 4
    · have hq : sokB xs kind a b = false := by simp [sokB, hG1]
      go_enter Try.func47, Try.ntmps47
      go_wp2_with (first | (go_at_call 55; refine (l1In_any _ _ _ _).mono ?_; rintro e wX ⟨rfl, rfl⟩))
      (go_at_call 59; refine (l20Good_any _ _ _ _ h hx).mono ?_; rintro e w1 ⟨rfl, hb1⟩)
      (have hs1 := hb1.size; (try simp at hs1); obtain ⟨hc1, hf1, hn1⟩ := bcell hb1; (try have hz1_w_0 : w.heap.size < w1.heap.size := by omega); (try have hz1_w_1 : w.heap.size + 1 < w1.heap.size := by omega); (try have hz1_w_2 : w.heap.size + 2 < w1.heap.size := by omega); (try have hz1_w_2b : w.heap.size + 1 + 1 < w1.heap.size := by omega))
      go_wp2_with (first | (go_at_call 55; refine (l1In_any _ _ _ _).mono ?_; rintro e wX ⟨rfl, rfl⟩))
      go_ret2
      exact ⟨ret_ib (by simp [sokV, hq]) hq.symm, (by repeat' (first | (with_reducible exact Below.refl _ _) | (with_reducible refine Below.alloc ?_ ?_ _) | (with_reducible refine Below.setCell ?_ ?_ _) | (with_reducible refine Below.drew ?_) | (with_reducible refine Below.trans ?_ (Below.mono (by with_reducible assumption) ?_)) | omega | (simp; done) | (simp; omega)))⟩
    · cases hG2 : inB a 0 4000
      · have hq : sokB xs kind a b = false := by simp [sokB, hG2]
        go_enter Try.func47, Try.ntmps47
        go_wp2_with (first | (go_at_call 55; refine (l1In_any _ _ _ _).mono ?_; rintro e wX ⟨rfl, rfl⟩) | (go_at_call 49; refine (l2Day_any _ _).mono ?_; rintro e wX ⟨rfl, rfl⟩))
        (go_at_call 59; refine (l20Good_any _ _ _ _ h hx).mono ?_; rintro e w1 ⟨rfl, hb1⟩)
        (have hs1 := hb1.size; (try simp at hs1); obtain ⟨hc1, hf1, hn1⟩ := bcell hb1; (try have hz1_w_0 : w.heap.size < w1.heap.size := by omega); (try have hz1_w_1 : w.heap.size + 1 < w1.heap.size := by omega); (try have hz1_w_2 : w.heap.size + 2 < w1.heap.size := by omega); (try have hz1_w_2b : w.heap.size + 1 + 1 < w1.heap.size := by omega))
        go_wp2_with (first | (go_at_call 55; refine (l1In_any _ _ _ _).mono ?_; rintro e wX ⟨rfl, rfl⟩) | (go_at_call 49; refine (l2Day_any _ _).mono ?_; rintro e wX ⟨rfl, rfl⟩))
        go_ret2
        exact ⟨ret_ib (by simp [sokV, hq]) hq.symm, (by repeat' (first | (with_reducible exact Below.refl _ _) | (with_reducible refine Below.alloc ?_ ?_ _) | (with_reducible refine Below.setCell ?_ ?_ _) | (with_reducible refine Below.drew ?_) | (with_reducible refine Below.trans ?_ (Below.mono (by with_reducible assumption) ?_)) | omega | (simp; done) | (simp; omega)))⟩
      · cases hG3 : inB b 0 4000
        · have hq : sokB xs kind a b = false := by simp [sokB, hG3]
          go_enter Try.func47, Try.ntmps47
          go_wp2_with (first | (go_at_call 55; refine (l1In_any _ _ _ _).mono ?_; rintro e wX ⟨rfl, rfl⟩) | (go_at_call 49; refine (l2Day_any _ _).mono ?_; rintro e wX ⟨rfl, rfl⟩))
          (go_at_call 59; refine (l20Good_any _ _ _ _ h hx).mono ?_; rintro e w1 ⟨rfl, hb1⟩)
          (have hs1 := hb1.size; (try simp at hs1); obtain ⟨hc1, hf1, hn1⟩ := bcell hb1; (try have hz1_w_0 : w.heap.size < w1.heap.size := by omega); (try have hz1_w_1 : w.heap.size + 1 < w1.heap.size := by omega); (try have hz1_w_2 : w.heap.size + 2 < w1.heap.size := by omega); (try have hz1_w_2b : w.heap.size + 1 + 1 < w1.heap.size := by omega))
          go_wp2_with (first | (go_at_call 55; refine (l1In_any _ _ _ _).mono ?_; rintro e wX ⟨rfl, rfl⟩) | (go_at_call 49; refine (l2Day_any _ _).mono ?_; rintro e wX ⟨rfl, rfl⟩))
          go_ret2
          exact ⟨ret_ib (by simp [sokV, hq]) hq.symm, (by repeat' (first | (with_reducible exact Below.refl _ _) | (with_reducible refine Below.alloc ?_ ?_ _) | (with_reducible refine Below.setCell ?_ ?_ _) | (with_reducible refine Below.drew ?_) | (with_reducible refine Below.trans ?_ (Below.mono (by with_reducible assumption) ?_)) | omega | (simp; done) | (simp; omega)))⟩
        · have Hq := Lib.hid (show sokB xs kind a b = true by simp [sokB, hG0, hG1, hG2, hG3])
          have hbd := bksOK_bd hG0
          have hv := Lib.hid hbd.2
          have hn := hbd.1
          clear hbd
          go_enter Try.func47, Try.ntmps47
          go_wp2_with (first | (go_at_call 55; refine (l1In_any _ _ _ _).mono ?_; rintro e wX ⟨rfl, rfl⟩) | (go_at_call 49; refine (l2Day_any _ _).mono ?_; rintro e wX ⟨rfl, rfl⟩))
          (go_at_call 59; refine (l20Good_any _ _ _ _ h hx).mono ?_; rintro e w1 ⟨rfl, hb1⟩)
          (have hs1 := hb1.size; (try simp at hs1); obtain ⟨hc1, hf1, hn1⟩ := bcell hb1; (try have hz1_w_0 : w.heap.size < w1.heap.size := by omega); (try have hz1_w_1 : w.heap.size + 1 < w1.heap.size := by omega); (try have hz1_w_2 : w.heap.size + 2 < w1.heap.size := by omega); (try have hz1_w_2b : w.heap.size + 1 + 1 < w1.heap.size := by omega))
          go_wp2_with (first | (go_at_call 55; refine (l1In_any _ _ _ _).mono ?_; rintro e wX ⟨rfl, rfl⟩) | (go_at_call 49; refine (l2Day_any _ _).mono ?_; rintro e wX ⟨rfl, rfl⟩))
          have hb0 : Below w.heap.size w w1 := (by repeat' (first | (with_reducible exact Below.refl _ _) | (with_reducible refine Below.alloc ?_ ?_ _) | (with_reducible refine Below.setCell ?_ ?_ _) | (with_reducible refine Below.drew ?_) | (with_reducible refine Below.trans ?_ (Below.mono (by with_reducible assumption) ?_)) | omega | (simp; done) | (simp; omega)))
          go_loopw [10, 11] (fun x i wr => ∃ k : Nat, k ≤ xs.length ∧ i = .int .i64 k ∧ x = .int .i64 (sokTo xs kind a b k) ∧ Below w.heap.size w wr) (fun _ i _ => xs.length - (intOf i).toNat)
          case atStart => exact ⟨0, Nat.zero_le _, rfl, rfl, hb0⟩
          case round =>
            clear hb0 hb1 hc1 hf1 hn1 hs1
            obtain ⟨k, hk, rfl, rfl, hb⟩ := hrel
            by_cases hlt : k < xs.length
            · obtain ⟨b', o, rfl, hB, c0, c1, c2⟩ := bk_cells (h.below hb) hlt
              have hs := hb.size
              have hB1 : b' < wr.heap.size := by omega
              have hI : (k : Int) < xs.length := by omega
              have hI0 : (0 : Int) ≤ k := by omega
              have hq := bkAt_bd (hv.out k hlt)
              have hbd := sokTo_bd (kind := kind) (a := a) (b := b) hv.out k (by omega)
              cases hk1 : ((el xs k).k == kind)
              · have Hc := Lib.hid (show skq (el xs k).d (el xs k).k (el xs k).q kind a b = 0 from skq_no (fun h => by simp [h.1] at hk1))
                go_wp2_with (first | (go_at_call 55; refine (l1In_any _ _ _ _).mono ?_; rintro e wX ⟨rfl, rfl⟩) | (go_at_call 49; refine (l2Day_any _ _).mono ?_; rintro e wX ⟨rfl, rfl⟩))
                go_roundw
                case rel => exact ⟨k + 1, by omega, by go_num, by rw [sokTo, Hc.out, Int.add_zero], (by repeat' (first | (with_reducible exact Below.refl _ _) | (with_reducible refine Below.alloc ?_ ?_ _) | (with_reducible refine Below.setCell ?_ ?_ _) | (with_reducible refine Below.drew ?_) | (with_reducible refine Below.trans ?_ (Below.mono (by with_reducible assumption) ?_)) | omega | (simp; done) | (simp; omega)))⟩
                case measure => simp [intOf]; omega
              · cases hin : inB (el xs k).d a b
                · have Hc := Lib.hid (show skq (el xs k).d (el xs k).k (el xs k).q kind a b = 0 from skq_no (fun h => by simp [hin] at h))
                  go_wp2_with (first | (go_at_call 55; refine (l1In_any _ _ _ _).mono ?_; rintro e wX ⟨rfl, rfl⟩) | (go_at_call 49; refine (l2Day_any _ _).mono ?_; rintro e wX ⟨rfl, rfl⟩) | (go_at_call 55; refine (l1In_any _ _ _ _).mono ?_; rintro e wX ⟨rfl, rfl⟩))
                  go_roundw
                  case rel => exact ⟨k + 1, by omega, by go_num, by rw [sokTo, Hc.out, Int.add_zero], (by repeat' (first | (with_reducible exact Below.refl _ _) | (with_reducible refine Below.alloc ?_ ?_ _) | (with_reducible refine Below.setCell ?_ ?_ _) | (with_reducible refine Below.drew ?_) | (with_reducible refine Below.trans ?_ (Below.mono (by with_reducible assumption) ?_)) | omega | (simp; done) | (simp; omega)))⟩
                  case measure => simp [intOf]; omega
                · have Hc := Lib.hid (show skq (el xs k).d (el xs k).k (el xs k).q kind a b = (el xs k).q from skq_yes (by simpa using hk1) hin)
                  go_wp2_with (first | (go_at_call 55; refine (l1In_any _ _ _ _).mono ?_; rintro e wX ⟨rfl, rfl⟩) | (go_at_call 49; refine (l2Day_any _ _).mono ?_; rintro e wX ⟨rfl, rfl⟩) | (go_at_call 55; refine (l1In_any _ _ _ _).mono ?_; rintro e wX ⟨rfl, rfl⟩) | (go_at_call 55; refine (l1In_any _ _ _ _).mono ?_; rintro e wX ⟨rfl, rfl⟩))
                  go_roundw
                  case rel => exact ⟨k + 1, by omega, by go_num, by rw [sokTo, Hc.out], (by repeat' (first | (with_reducible exact Below.refl _ _) | (with_reducible refine Below.alloc ?_ ?_ _) | (with_reducible refine Below.setCell ?_ ?_ _) | (with_reducible refine Below.drew ?_) | (with_reducible refine Below.trans ?_ (Below.mono (by with_reducible assumption) ?_)) | omega | (simp; done) | (simp; omega)))⟩
                  case measure => simp [intOf]; omega
            · obtain rfl : k = xs.length := by omega
              have hI : ¬ ((xs.length : Nat) : Int) < xs.length := by omega
              go_wp2
              go_ret2
              exact ⟨ret_ib (by rw [sokV, if_pos Hq.out]) Hq.out.symm, hb⟩
end Go.Proofs.Ytkhldmicejdggaa
