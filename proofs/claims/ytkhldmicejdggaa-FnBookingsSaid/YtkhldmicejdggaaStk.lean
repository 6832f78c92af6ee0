/- Contracts of the stock (chapter 20). -/
import Derived.Test.YtkhldmicejdggaaBk
set_option linter.unusedSimpArgs false
set_option linter.unusedVariables false
namespace Go.Proofs.Ytkhldmicejdggaa
open Go.RowKit Go.Sort Go.Salt
attribute [local go_sem] cell_rg
attribute [local go_sem ↓] run_max_mx run_min_mn
/-- By how much a booking changes the stock at the end of a day; the stock after k bookings. -/
def chg (d k q day : Int) : Int := if d ≤ day then (if k = 1 then q else -q) else 0
def stkTo (xs : List Bk) (s day : Int) : Nat → Int
  | 0 => s
  | k + 1 => stkTo xs s day k + chg (el xs k).d (el xs k).k (el xs k).q day
def stk (xs : List Bk) (s day : Int) : Int := stkTo xs s day xs.length
theorem chg_bd {d k q day : Int} (h : 1 ≤ q) (h2 : q ≤ 100000) : -100000 ≤ chg d k q day ∧ chg d k q day ≤ 100000 := by
  unfold chg; split
  · split <;> omega
  · omega
theorem stkTo_bd {xs : List Bk} {s day : Int} (hv : ∀ i, i < xs.length → bkAt xs i = true) : ∀ k, k ≤ xs.length → s - 100000 * k ≤ stkTo xs s day k ∧ stkTo xs s day k ≤ s + 100000 * k
  | 0, _ => by simp [stkTo]
  | k + 1, h => by
    have h1 := stkTo_bd (s := s) (day := day) hv k (by omega)
    have h2 := bkAt_bd (hv k (by omega))
    have h3 := @chg_bd (el xs k).d (el xs k).k (el xs k).q day h2.2.2.2.2.1 h2.2.2.2.2.2
    unfold stkTo; omega
theorem stk_bd {xs : List Bk} {s day : Int} (hv : ∀ i, i < xs.length → bkAt xs i = true) (hn : xs.length ≤ 20) : s - 2000000 ≤ stk xs s day ∧ stk xs s day ≤ s + 2000000 := by
  have := stkTo_bd (s := s) (day := day) hv xs.length (Nat.le_refl _)
  unfold stk; omega
set_option maxHeartbeats 400000 in
theorem change_any (d k q : Int) (w : World) (_h1 : 1 ≤ q) (_h2 : q ≤ 100000) :
    Calls Try.prog 76 #[.agg #[.int .i64 d, .int .i64 k, .int .i64 q]] w fun e w' => e = .returned (.int .i64 (if k = 1 then q else -q)) ∧ Below w.heap.size w w' := by
  cases h : (k == 1)
  · have h' : ¬ k = 1 := by simpa using h
    rw [if_neg h']
    clear h'
    go_enter Try.func76, Try.ntmps76
    go_wp2
    go_ret
    exact ⟨rfl, (by repeat' (first | (with_reducible exact Below.refl _ _) | (with_reducible refine Below.alloc ?_ ?_ _) | (with_reducible refine Below.setCell ?_ ?_ _) | (with_reducible refine Below.drew ?_) | (with_reducible refine Below.trans ?_ (Below.mono (by with_reducible assumption) ?_)) | omega | (simp; done) | (simp; omega)))⟩
  · have h' : k = 1 := by simpa using h
    rw [if_pos h']
    clear h'
    go_enter Try.func76, Try.ntmps76
    go_wp2
    go_ret
    exact ⟨rfl, (by repeat' (first | (with_reducible exact Below.refl _ _) | (with_reducible refine Below.alloc ?_ ?_ _) | (with_reducible refine Below.setCell ?_ ?_ _) | (with_reducible refine Below.drew ?_) | (with_reducible refine Below.trans ?_ (Below.mono (by with_reducible assumption) ?_)) | omega | (simp; done) | (simp; omega)))⟩
set_option maxHeartbeats 4000000 in
theorem stockOn_any (A : Option Addr) (c : Nat) (xs : List Bk) (s day : Int) (w : World) (h : Rd w w.heap.size A 3 Bk.enc xs) (hv : Hid (∀ i, i < xs.length → bkAt xs i = true)) (hn : xs.length ≤ 20) (hs1 : -1000000000 ≤ s) (hs2 : s ≤ 1000000000) :
    Calls Try.prog 53 #[.slice A xs.length c, .int .i64 s, .int .i64 day] w fun e w' => e = .returned (.int .i64 (stk xs s day)) ∧ Below w.heap.size w w' := by
  go_enter Try.func53, Try.ntmps53
  go_wp2
  go_loopw [1, 11] (fun x i wr => ∃ k : Nat, k ≤ xs.length ∧ i = .int .i64 k ∧ x = .int .i64 (stkTo xs s day k) ∧ Below w.heap.size w wr) (fun _ i _ => xs.length - (intOf i).toNat)
  case atStart => exact ⟨0, Nat.zero_le _, rfl, rfl, Below.refl _ _⟩
  case round =>
    obtain ⟨k, hk, rfl, rfl, hb⟩ := hrel
    by_cases hlt : k < xs.length
    · obtain ⟨b, o, rfl, hB, c0, c1, c2⟩ := bk_cells (h.below hb) hlt
      have hs := hb.size
      have hB1 : b < wr.heap.size := by omega
      have hI : (k : Int) < xs.length := by omega
      have hI0 : (0 : Int) ≤ k := by omega
      have hq := bkAt_bd (hv.out k hlt)
      have hbd := stkTo_bd (s := s) (day := day) hv.out k (by omega)
      by_cases hd : (el xs k).d ≤ day
      · have hc : chg (el xs k).d (el xs k).k (el xs k).q day = if (el xs k).k = 1 then (el xs k).q else -(el xs k).q := by rw [chg, if_pos hd]
        have hcb := @chg_bd (el xs k).d (el xs k).k (el xs k).q day hq.2.2.2.2.1 hq.2.2.2.2.2
        rw [hc] at hcb
        have Hc := Lib.hid hc
        clear hc
        go_wp2_with fail
        (go_at_call 76; refine (change_any _ _ _ _ (by omega) (by omega)).mono ?_; rintro e w1 ⟨rfl, hb1⟩)
        (have hs1 := hb1.size; (try simp at hs1); obtain ⟨hc1, hf1, hn1⟩ := bcell hb1; (try have hz1_wr_0 : wr.heap.size < w1.heap.size := by omega); (try have hz1_wr_1 : wr.heap.size + 1 < w1.heap.size := by omega); (try have hz1_wr_2 : wr.heap.size + 2 < w1.heap.size := by omega); (try have hB1 : b < w1.heap.size := by omega); (try have hB2 : b' < w1.heap.size := by omega); (try have hz1_wr_2b : wr.heap.size + 1 + 1 < w1.heap.size := by omega); (try have hz1_w_0 : w.heap.size < w1.heap.size := by omega); (try have hz1_w_1 : w.heap.size + 1 < w1.heap.size := by omega); (try have hz1_w_2 : w.heap.size + 2 < w1.heap.size := by omega); (try have hz1_w_2b : w.heap.size + 1 + 1 < w1.heap.size := by omega))
        go_wp2_with fail
        go_roundw
        case rel => exact ⟨k + 1, by omega, by go_num, by rw [stkTo, Hc.out], (by repeat' (first | (with_reducible exact Below.refl _ _) | (with_reducible refine Below.alloc ?_ ?_ _) | (with_reducible refine Below.setCell ?_ ?_ _) | (with_reducible refine Below.drew ?_) | (with_reducible refine Below.trans ?_ (Below.mono (by with_reducible assumption) ?_)) | omega | (simp; done) | (simp; omega)))⟩
        case measure => simp [intOf]; omega
      · have Hc := Lib.hid (show chg (el xs k).d (el xs k).k (el xs k).q day = 0 by rw [chg, if_neg hd])
        go_wp2_with fail
        go_roundw
        case rel => exact ⟨k + 1, by omega, by go_num, by rw [stkTo, Hc.out, Int.add_zero], (by repeat' (first | (with_reducible exact Below.refl _ _) | (with_reducible refine Below.alloc ?_ ?_ _) | (with_reducible refine Below.setCell ?_ ?_ _) | (with_reducible refine Below.drew ?_) | (with_reducible refine Below.trans ?_ (Below.mono (by with_reducible assumption) ?_)) | omega | (simp; done) | (simp; omega)))⟩
        case measure => simp [intOf]; omega
    · obtain rfl : k = xs.length := by omega
      go_wp2
      go_ret
      exact ⟨rfl, hb⟩
set_option maxHeartbeats 4000000 in
theorem l20Stock_any (A : Option Addr) (c : Nat) (xs : List Bk) (s day : Int) (w : World) (h : Rd w w.heap.size A 3 Bk.enc xs) (hv : Hid (∀ i, i < xs.length → bkAt xs i = true)) (hn : xs.length ≤ 20) (hs1 : -1000000000 ≤ s) (hs2 : s ≤ 1000000000) :
    Calls Try.prog 50 #[.slice A xs.length c, .int .i64 s, .int .i64 day] w fun e w' => e = .returned (.int .i64 (stk xs s day)) ∧ w = w' := by
  go_enter Try.func50, Try.ntmps50
  go_wp2
  go_loopw [1, 7] (fun x i wr => ∃ k : Nat, k ≤ xs.length ∧ i = .int .i64 k ∧ x = .int .i64 (stkTo xs s day k) ∧ w = wr) (fun _ i _ => xs.length - (intOf i).toNat)
  case atStart => exact ⟨0, Nat.zero_le _, rfl, rfl, rfl⟩
  case round =>
    obtain ⟨k, hk, rfl, rfl, rfl⟩ := hrel
    by_cases hlt : k < xs.length
    · obtain ⟨b, o, rfl, hB, c0, c1, c2⟩ := bk_cells h hlt
      have hI : (k : Int) < xs.length := by omega
      have hI0 : (0 : Int) ≤ k := by omega
      have hq := bkAt_bd (hv.out k hlt)
      have hbd := stkTo_bd (s := s) (day := day) hv.out k (by omega)
      by_cases hd : (el xs k).d ≤ day
      · cases hk1 : ((el xs k).k == 1)
        · have Hc := Lib.hid (show chg (el xs k).d (el xs k).k (el xs k).q day = -(el xs k).q by rw [chg, if_pos hd, if_neg (by simpa using hk1)])
          go_wp2_with fail
          go_roundw
          case rel => exact ⟨k + 1, by omega, by go_num, by rw [stkTo, Hc.out]; go_num, by first | rfl | trivial⟩
          case measure => simp [intOf]; omega
        · have Hc := Lib.hid (show chg (el xs k).d (el xs k).k (el xs k).q day = (el xs k).q by rw [chg, if_pos hd, if_pos (by simpa using hk1)])
          go_wp2_with fail
          go_roundw
          case rel => exact ⟨k + 1, by omega, by go_num, by rw [stkTo, Hc.out], by first | rfl | trivial⟩
          case measure => simp [intOf]; omega
      · have Hc := Lib.hid (show chg (el xs k).d (el xs k).k (el xs k).q day = 0 by rw [chg, if_neg hd])
        go_wp2_with fail
        go_roundw
        case rel => exact ⟨k + 1, by omega, by go_num, by rw [stkTo, Hc.out, Int.add_zero], by first | rfl | trivial⟩
        case measure => simp [intOf]; omega
    · obtain rfl : k = xs.length := by omega
      go_wp2
      go_ret
      exact ⟨rfl, rfl⟩
end Go.Proofs.Ytkhldmicejdggaa
