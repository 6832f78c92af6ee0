/- Contracts over breaks: the meters left, what is cleared (chapter 23). -/
import Derived.Test.YtakjfkbfibcbcaaDoorBreak
import Derived.Deep.AppendLies
import Derived.Deep.RegionHeldLaw
set_option linter.unusedSimpArgs false
set_option linter.unusedVariables false
namespace Go.Proofs.YtakjfkbfibcbcaaDoor
open Go.RowKit Go.Sort Go.Salt
attribute [local go_sem] cell_rg
attribute [local go_sem ↓] run_max_mx run_min_mn
def mlTo (xs : List Brk) (p : Int) : Nat → Int
  | 0 => 0
  | k + 1 => mlTo xs p k + (if (el xs k).p = p then (el xs k).m - (el xs k).d else 0)
def mlB (xs : List Brk) (p : Int) : Bool := brksOK xs && inB p 1 99
def ml (xs : List Brk) (p : Int) : Int := if mlB xs p = true then mlTo xs p xs.length else 0
theorem brkAt_bd {xs : List Brk} {i : Nat} (h : brkAt xs i = true) : (1 ≤ (el xs i).i ∧ (el xs i).i ≤ 999) ∧ (1 ≤ (el xs i).p ∧ (el xs i).p ≤ 99) ∧ (1 ≤ (el xs i).m ∧ (el xs i).m ≤ 60) ∧ (1 ≤ (el xs i).g ∧ (el xs i).g ≤ 3) ∧ (0 ≤ (el xs i).t ∧ (el xs i).t ≤ 4000) ∧ (0 ≤ (el xs i).d ∧ (el xs i).d ≤ (el xs i).m) := by
  simp only [brkAt, Bool.and_eq_true] at h
  exact brkOK_bd h.1
theorem mlTo_bd {xs : List Brk} {p : Int} (hv : ∀ i, i < xs.length → brkAt xs i = true) : ∀ k, k ≤ xs.length → 0 ≤ mlTo xs p k ∧ mlTo xs p k ≤ 60 * k
  | 0, _ => by simp [mlTo]
  | k + 1, h => by
    have h1 := mlTo_bd (p := p) hv k (by omega)
    have h2 := brkAt_bd (hv k (by omega))
    unfold mlTo; split <;> omega
theorem ret_ib' {x y : Int} {b c : Bool} (h : x = y) (h2 : b = c) : Ending.returned (.tuple #[.int .i64 x, .bool b]) = .returned (.tuple #[.int .i64 y, .bool c]) := by rw [h, h2]
set_option maxHeartbeats 4000000 in
theorem sMetersLeft_any (A : Option Addr) (c : Nat) (xs : List Brk) (p : Int) (w : World) (h : Rd w w.heap.size A 6 Brk.enc xs) (hx : xs.length ≤ 1048576) :
    Calls Tryd.prog 22 #[.slice A xs.length c, .int .i64 p] w fun e w' => e = .returned (.tuple #[.int .i64 (ml xs p), .bool (mlB xs p)]) ∧ Below w.heap.size w w' := by
  cases hG0 : brksOK xs
  · have hq : mlB xs p = false := by simp [mlB, hG0]
    go_enter Tryd.func22, Tryd.ntmps22
    go_wp2_with fail
    (go_at_call 36; refine (l23Good_any _ _ _ _ h hx).mono ?_; rintro e w1 ⟨rfl, hb1⟩)
    (have hs1 := hb1.size; (try simp at hs1); obtain ⟨hc1, hf1, hn1⟩ := bcell hb1; (try have hz1_w_0 : w.heap.size < w1.heap.size := by omega); (try have hz1_w_1 : w.heap.size + 1 < w1.heap.size := by omega); (try have hz1_w_2 : w.heap.size + 2 < w1.heap.size := by omega); (try have hz1_w_2b : w.heap.size + 1 + 1 < w1.heap.size := by omega))
    go_wp2_with fail
    go_ret2
    exact ⟨ret_ib' (by simp [ml, hq]) hq.symm, (by repeat' (first | (with_reducible exact Below.refl _ _) | (with_reducible refine Below.alloc ?_ ?_ _) | (with_reducible refine Below.setCell ?_ ?_ _) | (with_reducible refine Below.drew ?_) | (with_reducible refine Below.trans ?_ (Below.mono (by with_reducible assumption) ?_)) | omega | (simp; done) | (simp; omega)))⟩
  · cases hG1 : inB p 1 99
    · have hq : mlB xs p = false := by simp [mlB, hG1]
      go_enter Tryd.func22, Tryd.ntmps22
      go_wp2_with (first | (go_at_call 41; refine (l23Pond_any _ _).mono ?_; rintro e wX ⟨rfl, rfl⟩))
      (go_at_call 36; refine (l23Good_any _ _ _ _ h hx).mono ?_; rintro e w1 ⟨rfl, hb1⟩)
      (have hs1 := hb1.size; (try simp at hs1); obtain ⟨hc1, hf1, hn1⟩ := bcell hb1; (try have hz1_w_0 : w.heap.size < w1.heap.size := by omega); (try have hz1_w_1 : w.heap.size + 1 < w1.heap.size := by omega); (try have hz1_w_2 : w.heap.size + 2 < w1.heap.size := by omega); (try have hz1_w_2b : w.heap.size + 1 + 1 < w1.heap.size := by omega))
      go_wp2_with (first | (go_at_call 41; refine (l23Pond_any _ _).mono ?_; rintro e wX ⟨rfl, rfl⟩))
      go_ret2
      exact ⟨ret_ib' (by simp [ml, hq]) hq.symm, (by repeat' (first | (with_reducible exact Below.refl _ _) | (with_reducible refine Below.alloc ?_ ?_ _) | (with_reducible refine Below.setCell ?_ ?_ _) | (with_reducible refine Below.drew ?_) | (with_reducible refine Below.trans ?_ (Below.mono (by with_reducible assumption) ?_)) | omega | (simp; done) | (simp; omega)))⟩
    · have hbd := brksOK_bd hG0
      have hv := Lib.hid hbd.2
      have hn := hbd.1
      clear hbd
      have Hq := Lib.hid (show mlB xs p = true by simp [mlB, hG0, hG1])
      go_enter Tryd.func22, Tryd.ntmps22
      go_wp2_with (first | (go_at_call 41; refine (l23Pond_any _ _).mono ?_; rintro e wX ⟨rfl, rfl⟩))
      (go_at_call 36; refine (l23Good_any _ _ _ _ h hx).mono ?_; rintro e w1 ⟨rfl, hb1⟩)
      (have hs1 := hb1.size; (try simp at hs1); obtain ⟨hc1, hf1, hn1⟩ := bcell hb1; (try have hz1_w_0 : w.heap.size < w1.heap.size := by omega); (try have hz1_w_1 : w.heap.size + 1 < w1.heap.size := by omega); (try have hz1_w_2 : w.heap.size + 2 < w1.heap.size := by omega); (try have hz1_w_2b : w.heap.size + 1 + 1 < w1.heap.size := by omega))
      go_wp2_with (first | (go_at_call 41; refine (l23Pond_any _ _).mono ?_; rintro e wX ⟨rfl, rfl⟩))
      have h1 := h.to hb1
      go_loopw [6, 7] (fun x i wr => ∃ k : Nat, k ≤ xs.length ∧ i = .int .i64 k ∧ x = .int .i64 (mlTo xs p k) ∧ Below w1.heap.size w1 wr) (fun _ i _ => xs.length - (intOf i).toNat)
      case atStart => exact ⟨0, Nat.zero_le _, rfl, rfl, Below.refl _ _⟩
      case round =>
        obtain ⟨k, hk, rfl, rfl, hb⟩ := hrel
        by_cases hlt : k < xs.length
        · obtain ⟨b, o, rfl, hB, c0, c1, c2, c3, c4, c5⟩ := brk_cells (h1.below hb) hlt
          have hs := hb.size
          have hB1 : b < wr.heap.size := by omega
          have hI : (k : Int) < xs.length := by omega
          have hI0 : (0 : Int) ≤ k := by omega
          have hq := brkAt_bd (hv.out k hlt)
          have hbd := mlTo_bd (p := p) hv.out k (by omega)
          cases hd : ((el xs k).p == p)
          · have Hc := Lib.hid (show mlTo xs p (k + 1) = mlTo xs p k by rw [mlTo, if_neg (by simpa using hd), Int.add_zero])
            go_wp2_with (first | (go_at_call 41; refine (l23Pond_any _ _).mono ?_; rintro e wX ⟨rfl, rfl⟩))
            go_roundw
            case rel => exact ⟨k + 1, by omega, by go_num, by rw [Hc.out], (by repeat' (first | (with_reducible exact Below.refl _ _) | (with_reducible refine Below.alloc ?_ ?_ _) | (with_reducible refine Below.setCell ?_ ?_ _) | (with_reducible refine Below.drew ?_) | (with_reducible refine Below.trans ?_ (Below.mono (by with_reducible assumption) ?_)) | omega | (simp; done) | (simp; omega)))⟩
            case measure => simp [intOf]; omega
          · have Hc := Lib.hid (show mlTo xs p (k + 1) = mlTo xs p k + (el xs k).m - (el xs k).d by rw [mlTo, if_pos (by simpa using hd)]; omega)
            go_wp2_with (first | (go_at_call 41; refine (l23Pond_any _ _).mono ?_; rintro e wX ⟨rfl, rfl⟩))
            refine wp_region_quiet_below (by kernel_rfl) (by kernel_rfl) ?_
            repeat (go_big_quiet_step (fail))
            (refine wpQuiet_nil ?_; intro w1 hwq; have hb1 := of_cls hwq; clear hwq)
            (have hs1 := hb1.size; (try simp at hs1); obtain ⟨hc1, hf1, hn1⟩ := bcell hb1; (try have hz1_wr_0 : wr.heap.size < w1.heap.size := by omega); (try have hz1_wr_1 : wr.heap.size + 1 < w1.heap.size := by omega); (try have hz1_wr_2 : wr.heap.size + 2 < w1.heap.size := by omega); (try have hB1 : b < w1.heap.size := by omega); (try have hB2 : b' < w1.heap.size := by omega); (try have hz1_wr_2b : wr.heap.size + 1 + 1 < w1.heap.size := by omega); (try have hz1_w_0 : w.heap.size < w1.heap.size := by omega); (try have hz1_w_1 : w.heap.size + 1 < w1.heap.size := by omega); (try have hz1_w_2 : w.heap.size + 2 < w1.heap.size := by omega); (try have hz1_w_2b : w.heap.size + 1 + 1 < w1.heap.size := by omega))
            go_wp2_with (first | (go_at_call 41; refine (l23Pond_any _ _).mono ?_; rintro e wX ⟨rfl, rfl⟩))
            go_roundw
            case rel => exact ⟨k + 1, by omega, by go_num, by rw [Hc.out], (by repeat' (first | (with_reducible exact Below.refl _ _) | (with_reducible refine Below.alloc ?_ ?_ _) | (with_reducible refine Below.setCell ?_ ?_ _) | (with_reducible refine Below.drew ?_) | (with_reducible refine Below.trans ?_ (Below.mono (by with_reducible assumption) ?_)) | omega | (simp; done) | (simp; omega)))⟩
            case measure => simp [intOf]; omega
        · obtain rfl : k = xs.length := by omega
          have hs := hb.size
          go_wp2
          go_ret2
          exact ⟨ret_ib' (by rw [ml, if_pos Hq.out]) Hq.out.symm, (by repeat' (first | (with_reducible exact Below.refl _ _) | (with_reducible refine Below.alloc ?_ ?_ _) | (with_reducible refine Below.setCell ?_ ?_ _) | (with_reducible refine Below.drew ?_) | (with_reducible refine Below.trans ?_ (Below.mono (by with_reducible assumption) ?_)) | omega | (simp; done) | (simp; omega)))⟩
set_option maxHeartbeats 4000000 in
theorem iMetersLeft_any (A : Option Addr) (c : Nat) (xs : List Brk) (p : Int) (w : World) (h : Rd w w.heap.size A 6 Brk.enc xs) (hx : xs.length ≤ 1048576) :
    Calls Tryd.prog 13 #[.slice A xs.length c, .int .i64 p] w fun e w' => e = .returned (.tuple #[.int .i64 (ml xs p), .bool (mlB xs p)]) ∧ Below w.heap.size w w' := by
  cases hG0 : brksOK xs
  · have hq : mlB xs p = false := by simp [mlB, hG0]
    go_enter Tryd.func13, Tryd.ntmps13
    go_wp2_with fail
    (go_at_call 32; refine (areBreaks_any _ _ _ _ h hx).mono ?_; rintro e w1 ⟨rfl, hb1⟩)
    (have hs1 := hb1.size; (try simp at hs1); obtain ⟨hc1, hf1, hn1⟩ := bcell hb1; (try have hz1_w_0 : w.heap.size < w1.heap.size := by omega); (try have hz1_w_1 : w.heap.size + 1 < w1.heap.size := by omega); (try have hz1_w_2 : w.heap.size + 2 < w1.heap.size := by omega); (try have hz1_w_2b : w.heap.size + 1 + 1 < w1.heap.size := by omega))
    go_wp2_with fail
    go_ret2
    exact ⟨ret_ib' (by simp [ml, hq]) hq.symm, (by repeat' (first | (with_reducible exact Below.refl _ _) | (with_reducible refine Below.alloc ?_ ?_ _) | (with_reducible refine Below.setCell ?_ ?_ _) | (with_reducible refine Below.drew ?_) | (with_reducible refine Below.trans ?_ (Below.mono (by with_reducible assumption) ?_)) | omega | (simp; done) | (simp; omega)))⟩
  · cases hG1 : inB p 1 99
    · have hq : mlB xs p = false := by simp [mlB, hG1]
      go_enter Tryd.func13, Tryd.ntmps13
      go_wp2_with (first | (go_at_call 37; refine (isId_any _ _).mono ?_; rintro e wX ⟨rfl, rfl⟩))
      (go_at_call 32; refine (areBreaks_any _ _ _ _ h hx).mono ?_; rintro e w1 ⟨rfl, hb1⟩)
      (have hs1 := hb1.size; (try simp at hs1); obtain ⟨hc1, hf1, hn1⟩ := bcell hb1; (try have hz1_w_0 : w.heap.size < w1.heap.size := by omega); (try have hz1_w_1 : w.heap.size + 1 < w1.heap.size := by omega); (try have hz1_w_2 : w.heap.size + 2 < w1.heap.size := by omega); (try have hz1_w_2b : w.heap.size + 1 + 1 < w1.heap.size := by omega))
      go_wp2_with (first | (go_at_call 37; refine (isId_any _ _).mono ?_; rintro e wX ⟨rfl, rfl⟩))
      go_ret2
      exact ⟨ret_ib' (by simp [ml, hq]) hq.symm, (by repeat' (first | (with_reducible exact Below.refl _ _) | (with_reducible refine Below.alloc ?_ ?_ _) | (with_reducible refine Below.setCell ?_ ?_ _) | (with_reducible refine Below.drew ?_) | (with_reducible refine Below.trans ?_ (Below.mono (by with_reducible assumption) ?_)) | omega | (simp; done) | (simp; omega)))⟩
    · have hbd := brksOK_bd hG0
      have hv := Lib.hid hbd.2
      have hn := hbd.1
      clear hbd
      have Hq := Lib.hid (show mlB xs p = true by simp [mlB, hG0, hG1])
      go_enter Tryd.func13, Tryd.ntmps13
      go_wp2_with (first | (go_at_call 37; refine (isId_any _ _).mono ?_; rintro e wX ⟨rfl, rfl⟩))
      (go_at_call 32; refine (areBreaks_any _ _ _ _ h hx).mono ?_; rintro e w1 ⟨rfl, hb1⟩)
      (have hs1 := hb1.size; (try simp at hs1); obtain ⟨hc1, hf1, hn1⟩ := bcell hb1; (try have hz1_w_0 : w.heap.size < w1.heap.size := by omega); (try have hz1_w_1 : w.heap.size + 1 < w1.heap.size := by omega); (try have hz1_w_2 : w.heap.size + 2 < w1.heap.size := by omega); (try have hz1_w_2b : w.heap.size + 1 + 1 < w1.heap.size := by omega))
      go_wp2_with (first | (go_at_call 37; refine (isId_any _ _).mono ?_; rintro e wX ⟨rfl, rfl⟩))
      have h1 := h.to hb1
      go_loopw [6, 19] (fun x i wr => ∃ k : Nat, k ≤ xs.length ∧ i = .int .i64 k ∧ x = .int .i64 (mlTo xs p k) ∧ Below w1.heap.size w1 wr) (fun _ i _ => xs.length - (intOf i).toNat)
      case atStart => exact ⟨0, Nat.zero_le _, rfl, rfl, Below.refl _ _⟩
      case round =>
        obtain ⟨k, hk, rfl, rfl, hb⟩ := hrel
        by_cases hlt : k < xs.length
        · obtain ⟨b, o, rfl, hB, c0, c1, c2, c3, c4, c5⟩ := brk_cells (h1.below hb) hlt
          have hs := hb.size
          have hB1 : b < wr.heap.size := by omega
          have hI : (k : Int) < xs.length := by omega
          have hI0 : (0 : Int) ≤ k := by omega
          have hq := brkAt_bd (hv.out k hlt)
          have hbd := mlTo_bd (p := p) hv.out k (by omega)
          cases hd : ((el xs k).p == p)
          · have Hc := Lib.hid (show mlTo xs p (k + 1) = mlTo xs p k by rw [mlTo, if_neg (by simpa using hd), Int.add_zero])
            go_wp2_with (first | (go_at_call 37; refine (isId_any _ _).mono ?_; rintro e wX ⟨rfl, rfl⟩))
            go_roundw
            case rel => exact ⟨k + 1, by omega, by go_num, by rw [Hc.out], (by repeat' (first | (with_reducible exact Below.refl _ _) | (with_reducible refine Below.alloc ?_ ?_ _) | (with_reducible refine Below.setCell ?_ ?_ _) | (with_reducible refine Below.drew ?_) | (with_reducible refine Below.trans ?_ (Below.mono (by with_reducible assumption) ?_)) | omega | (simp; done) | (simp; omega)))⟩
            case measure => simp [intOf]; omega
          · have Hc := Lib.hid (show mlTo xs p (k + 1) = mlTo xs p k + ((el xs k).m - (el xs k).d) by rw [mlTo, if_pos (by simpa using hd)])
            go_wp2_with (first | (go_at_call 37; refine (isId_any _ _).mono ?_; rintro e wX ⟨rfl, rfl⟩))
            go_roundw
            case rel => exact ⟨k + 1, by omega, by go_num, by rw [Hc.out], (by repeat' (first | (with_reducible exact Below.refl _ _) | (with_reducible refine Below.alloc ?_ ?_ _) | (with_reducible refine Below.setCell ?_ ?_ _) | (with_reducible refine Below.drew ?_) | (with_reducible refine Below.trans ?_ (Below.mono (by with_reducible assumption) ?_)) | omega | (simp; done) | (simp; omega)))⟩
            case measure => simp [intOf]; omega
        · obtain rfl : k = xs.length := by omega
          have hs := hb.size
          go_wp2
          go_ret2
          exact ⟨ret_ib' (by rw [ml, if_pos Hq.out]) Hq.out.symm, (by repeat' (first | (with_reducible exact Below.refl _ _) | (with_reducible refine Below.alloc ?_ ?_ _) | (with_reducible refine Below.setCell ?_ ?_ _) | (with_reducible refine Below.drew ?_) | (with_reducible refine Below.trans ?_ (Below.mono (by with_reducible assumption) ?_)) | omega | (simp; done) | (simp; omega)))⟩
/-- The breaks that are not done among the first k, and the meters of those that are. -/
def cdL (xs : List Brk) (k : Nat) : List Brk := (xs.take k).filter fun b => !(b.d == b.m)
def cdTo (xs : List Brk) : Nat → Int
  | 0 => 0
  | k + 1 => cdTo xs k + (if ((el xs k).d == (el xs k).m) = true then (el xs k).m else 0)
def cdR (xs : List Brk) : List Brk := if brksOK xs = true then cdL xs xs.length else []
def cdS (xs : List Brk) : Int := if brksOK xs = true then cdTo xs xs.length else 0
theorem cdTo_bd {xs : List Brk} (hv : ∀ i, i < xs.length → brkAt xs i = true) : ∀ k, k ≤ xs.length → 0 ≤ cdTo xs k ∧ cdTo xs k ≤ 60 * k
  | 0, _ => by simp [cdTo]
  | k + 1, h => by
    have h1 := cdTo_bd hv k (by omega)
    have h2 := brkAt_bd (hv k (by omega))
    unfold cdTo; split <;> omega
theorem cdL_len (xs : List Brk) (k : Nat) : (cdL xs k).length ≤ k := by
  have := List.length_filter_le (fun b : Brk => !(b.d == b.m)) (xs.take k)
  have h2 : (xs.take k).length ≤ k := by rw [List.length_take]; omega
  unfold cdL; omega
theorem cdL_drop {xs : List Brk} {k : Nat} (hlt : k < xs.length) (h : ((el xs k).d == (el xs k).m) = true) : cdL xs (k + 1) = cdL xs k := by
  simp [cdL, take_el hlt, List.filter_append, h]
theorem cdL_keep {xs : List Brk} {k : Nat} (hlt : k < xs.length) (h : ((el xs k).d == (el xs k).m) = false) : cdL xs (k + 1) = cdL xs k ++ [el xs k] := by
  simp [cdL, take_el hlt, List.filter_append, h]
theorem cdR_len (xs : List Brk) : (cdR xs).length ≤ xs.length := by
  unfold cdR; split
  · exact cdL_len xs _
  · simp
theorem ret_l2 {v v' : Value} {x y : Int} {b c : Bool} (h0 : v = v') (h : x = y) (h2 : b = c) : Ending.returned (.tuple #[v, .int .i64 x, .bool b]) = .returned (.tuple #[v', .int .i64 y, .bool c]) := by rw [h0, h, h2]
set_option maxHeartbeats 4000000 in
theorem sClearDone_any (A : Option Addr) (c : Nat) (xs : List Brk) (w : World) (h : Rd w w.heap.size A 6 Brk.enc xs) (hx : xs.length ≤ 1048576) :
    Calls Tryd.prog 18 #[.slice A xs.length c] w fun e w' => MadeAt w 26 ((cdR xs).flatMap Brk.enc) (cdR xs).length (fun v => .returned (.tuple #[v, .int .i64 (cdS xs), .bool (brksOK xs)])) e w' := by
  cases hG0 : brksOK xs
  · go_enter Tryd.func18, Tryd.ntmps18
    go_wp2_with fail
    (go_at_call 36; refine (l23Good_any _ _ _ _ (h.to (by repeat' (first | (with_reducible exact Below.refl _ _) | (with_reducible refine Below.alloc ?_ ?_ _) | (with_reducible refine Below.setCell ?_ ?_ _) | (with_reducible refine Below.drew ?_) | (with_reducible refine Below.trans ?_ (Below.mono (by with_reducible assumption) ?_)) | omega | (simp; done) | (simp; omega)))) hx).mono ?_; rintro e w1 ⟨rfl, hb1⟩)
    (have hs1 := hb1.size; (try simp at hs1); obtain ⟨hc1, hf1, hn1⟩ := bcell hb1; (try have hz1_w_0 : w.heap.size < w1.heap.size := by omega); (try have hz1_w_1 : w.heap.size + 1 < w1.heap.size := by omega); (try have hz1_w_2 : w.heap.size + 2 < w1.heap.size := by omega); (try have hz1_w_2b : w.heap.size + 1 + 1 < w1.heap.size := by omega))
    go_wp2_with fail
    go_ret3
    exact MadeAt.cast (MadeAt.empty (g := w.heap.size) (fun v => .returned (.tuple #[v, .int .i64 (cdS xs), .bool false])) (Nat.le_refl _) ((hb1.block _ (by simp)).trans (heap_alloc_new w _)) (by repeat' (first | (with_reducible exact Below.refl _ _) | (with_reducible refine Below.alloc ?_ ?_ _) | (with_reducible refine Below.setCell ?_ ?_ _) | (with_reducible refine Below.drew ?_) | (with_reducible refine Below.trans ?_ (Below.mono (by with_reducible assumption) ?_)) | omega | (simp; done) | (simp; omega)))) (by simp [cdR, hG0]) (by simp [cdR, hG0]) rfl (by simp [cdS, hG0])
  · have hbd := brksOK_bd hG0
    have hv := Lib.hid hbd.2
    have hn := hbd.1
    clear hbd
    have Hq := Lib.hid hG0
    obtain ⟨i0, hi, hz0, hz1, hz2⟩ := info_parts brk_info
    have hinfo := Lib.hid (And.intro hi (And.intro hz0 (And.intro hz1 hz2)))
    clear hi hz0 hz1 hz2
    go_enter Tryd.func18, Tryd.ntmps18
    go_wp2_with fail
    (go_at_call 36; refine (l23Good_any _ _ _ _ (h.to (by repeat' (first | (with_reducible exact Below.refl _ _) | (with_reducible refine Below.alloc ?_ ?_ _) | (with_reducible refine Below.setCell ?_ ?_ _) | (with_reducible refine Below.drew ?_) | (with_reducible refine Below.trans ?_ (Below.mono (by with_reducible assumption) ?_)) | omega | (simp; done) | (simp; omega)))) hx).mono ?_; rintro e w1 ⟨rfl, hb1⟩)
    (have hs1 := hb1.size; (try simp at hs1); obtain ⟨hc1, hf1, hn1⟩ := bcell hb1; (try have hz1_w_0 : w.heap.size < w1.heap.size := by omega); (try have hz1_w_1 : w.heap.size + 1 < w1.heap.size := by omega); (try have hz1_w_2 : w.heap.size + 2 < w1.heap.size := by omega); (try have hz1_w_2b : w.heap.size + 1 + 1 < w1.heap.size := by omega))
    go_wp2_with fail
    have hown := own_empty (W := w1) (base := w.heap.size) (E := 26) 6 (Nat.le_refl w.heap.size) ((hb1.block w.heap.size (by simp)).trans (heap_alloc_new w _))
    have hb0 : Below w.heap.size w w1 := (by repeat' (first | (with_reducible exact Below.refl _ _) | (with_reducible refine Below.alloc ?_ ?_ _) | (with_reducible refine Below.setCell ?_ ?_ _) | (with_reducible refine Below.drew ?_) | (with_reducible refine Below.trans ?_ (Below.mono (by with_reducible assumption) ?_)) | omega | (simp; done) | (simp; omega)))
    go_loopw [5, 6, 7] (fun v x i wr => ∃ k : Nat, k ≤ xs.length ∧ i = .int .i64 k ∧ x = .int .i64 (cdTo xs k) ∧ Hid (wr.ownsRow w.heap.size 26 6 v (cdL xs k).length ((cdL xs k).flatMap Brk.enc)) ∧ Below w.heap.size w wr) (fun _ _ i _ => xs.length - (intOf i).toNat)
    case atStart => exact ⟨0, Nat.zero_le _, rfl, rfl, hown, hb0⟩
    case round =>
      obtain ⟨k, hk, rfl, rfl, hown, hb⟩ := hrel
      by_cases hlt : k < xs.length
      · obtain ⟨b, o, rfl, hB, c0, c1, c2, c3, c4, c5⟩ := brk_cells (h.below hb) hlt
        have hs := hb.size
        have hB1 : b < wr.heap.size := by omega
        have hI : (k : Int) < xs.length := by omega
        have hI0 : (0 : Int) ≤ k := by omega
        have hq := brkAt_bd (hv.out k hlt)
        have hbd := cdTo_bd hv.out k (by omega)
        have hll := cdL_len xs k
        cases hd : ((el xs k).d == (el xs k).m)
        · have Hc := Lib.hid (show cdTo xs (k + 1) = cdTo xs k by rw [cdTo, hd]; simp)
          have Hl := Lib.hid (cdL_keep hlt hd)
          go_wp2_with fail
          refine wp_region_quiet_below (by kernel_rfl) (by kernel_rfl) ?_
          repeat (go_big_quiet_step (fail))
          (refine wpQuiet_nil ?_; intro w1 hwq; have hb1 := of_cls hwq; clear hwq)
          (have hs1 := hb1.size; (try simp at hs1); obtain ⟨hc1, hf1, hn1⟩ := bcell hb1; (try have hz1_wr_0 : wr.heap.size < w1.heap.size := by omega); (try have hz1_wr_1 : wr.heap.size + 1 < w1.heap.size := by omega); (try have hz1_wr_2 : wr.heap.size + 2 < w1.heap.size := by omega); (try have hB1 : b < w1.heap.size := by omega); (try have hB2 : b' < w1.heap.size := by omega); (try have hz1_wr_2b : wr.heap.size + 1 + 1 < w1.heap.size := by omega); (try have hz1_w_0 : w.heap.size < w1.heap.size := by omega); (try have hz1_w_1 : w.heap.size + 1 < w1.heap.size := by omega); (try have hz1_w_2 : w.heap.size + 2 < w1.heap.size := by omega); (try have hz1_w_2b : w.heap.size + 1 + 1 < w1.heap.size := by omega))
          go_wp2_with (at_builtin; refine wpList_append_own _ rfl _ _ 31 rfl w.heap.size 26 i0 _ 6 48 Tryd.underlying31 hinfo.out.1 hinfo.out.2.1 hinfo.out.2.2.1 hinfo.out.2.2.2 rfl (by decide) _ _ _ rfl (own_to hown.out (by repeat' (first | (with_reducible exact Below.refl _ _) | (with_reducible refine Below.alloc ?_ ?_ _) | (with_reducible refine Below.setCell ?_ ?_ _) | (with_reducible refine Below.drew ?_) | (with_reducible refine Below.trans ?_ (Below.mono (by with_reducible assumption) ?_)) | omega | (simp; done) | (simp; omega)))) _ 1 1 [.int .i64 (el xs k).i, .int .i64 (el xs k).p, .int .i64 (el xs k).m, .int .i64 (el xs k).g, .int .i64 (el xs k).t, .int .i64 (el xs k).d] rfl rfl (World.news_of_block (cs := #[.int .i64 (el xs k).i, .int .i64 (el xs k).p, .int .i64 (el xs k).m, .int .i64 (el xs k).g, .int .i64 (el xs k).t, .int .i64 (el xs k).d]) (t := 26) (fr := (0, 0)) (heap_alloc_new _ _)) (by simp [Value.oneCell']) (by unfold maxLen; omega) (by omega) (by simp; omega) ?_)
          intro v2 w2 hown2 hgrow hnil
          have hb2 : Below w.heap.size w w2 := own_grew hown.out (show Below w.heap.size w (w1.alloc _) from (by repeat' (first | (with_reducible exact Below.refl _ _) | (with_reducible refine Below.alloc ?_ ?_ _) | (with_reducible refine Below.setCell ?_ ?_ _) | (with_reducible refine Below.drew ?_) | (with_reducible refine Below.trans ?_ (Below.mono (by with_reducible assumption) ?_)) | omega | (simp; done) | (simp; omega)))) (by simp; omega) hgrow
          have hs2 := hb2.size
          go_wp2_with fail
          go_roundw
          case rel => exact ⟨k + 1, by omega, by go_num, by rw [Hc.out], by rw [Hl.out, List.length_append, List.flatMap_append]; simpa [Hid, Brk.enc] using hown2, hb2⟩
          case measure => simp [intOf]; omega
        · have Hc := Lib.hid (show cdTo xs (k + 1) = cdTo xs k + (el xs k).m by rw [cdTo, hd]; simp)
          have Hl := Lib.hid (cdL_drop hlt hd)
          go_wp2_with fail
          refine wp_region_quiet_below (by kernel_rfl) (by kernel_rfl) ?_
          repeat (go_big_quiet_step (fail))
          (refine wpQuiet_nil ?_; intro w1 hwq; have hb1 := of_cls hwq; clear hwq)
          (have hs1 := hb1.size; (try simp at hs1); obtain ⟨hc1, hf1, hn1⟩ := bcell hb1; (try have hz1_wr_0 : wr.heap.size < w1.heap.size := by omega); (try have hz1_wr_1 : wr.heap.size + 1 < w1.heap.size := by omega); (try have hz1_wr_2 : wr.heap.size + 2 < w1.heap.size := by omega); (try have hB1 : b < w1.heap.size := by omega); (try have hB2 : b' < w1.heap.size := by omega); (try have hz1_wr_2b : wr.heap.size + 1 + 1 < w1.heap.size := by omega); (try have hz1_w_0 : w.heap.size < w1.heap.size := by omega); (try have hz1_w_1 : w.heap.size + 1 < w1.heap.size := by omega); (try have hz1_w_2 : w.heap.size + 2 < w1.heap.size := by omega); (try have hz1_w_2b : w.heap.size + 1 + 1 < w1.heap.size := by omega))
          go_wp2_with fail
          go_roundw
          case rel => exact ⟨k + 1, by omega, by go_num, by rw [Hc.out], by rw [Hl.out]; exact own_to hown.out (by repeat' (first | (with_reducible exact Below.refl _ _) | (with_reducible refine Below.alloc ?_ ?_ _) | (with_reducible refine Below.setCell ?_ ?_ _) | (with_reducible refine Below.drew ?_) | (with_reducible refine Below.trans ?_ (Below.mono (by with_reducible assumption) ?_)) | omega | (simp; done) | (simp; omega))), (by repeat' (first | (with_reducible exact Below.refl _ _) | (with_reducible refine Below.alloc ?_ ?_ _) | (with_reducible refine Below.setCell ?_ ?_ _) | (with_reducible refine Below.drew ?_) | (with_reducible refine Below.trans ?_ (Below.mono (by with_reducible assumption) ?_)) | omega | (simp; done) | (simp; omega)))⟩
          case measure => simp [intOf]; omega
      · obtain rfl : k = xs.length := by omega
        have hs := hb.size
        go_wp2
        go_ret3
        exact MadeAt.cast (MadeAt.of_own (fun v => .returned (.tuple #[v, .int .i64 (cdS xs), .bool true])) hown.out hb) (by rw [cdR, if_pos Hq.out]) (by rw [cdR, if_pos Hq.out]) rfl (by rw [cdS, if_pos Hq.out]; first | done | rfl)
set_option maxHeartbeats 4000000 in
theorem iClearDone_any (A : Option Addr) (c : Nat) (xs : List Brk) (w : World) (h : Rd w w.heap.size A 6 Brk.enc xs) (hx : xs.length ≤ 1048576) :
    Calls Tryd.prog 17 #[.slice A xs.length c] w fun e w' => MadeAt w 26 ((cdR xs).flatMap Brk.enc) (cdR xs).length (fun v => .returned (.tuple #[v, .int .i64 (cdS xs), .bool (brksOK xs)])) e w' := by
  cases hG0 : brksOK xs
  · go_enter Tryd.func17, Tryd.ntmps17
    go_wp2_with fail
    (go_at_call 32; refine (areBreaks_any _ _ _ _ h hx).mono ?_; rintro e w1 ⟨rfl, hb1⟩)
    (have hs1 := hb1.size; (try simp at hs1); obtain ⟨hc1, hf1, hn1⟩ := bcell hb1; (try have hz1_w_0 : w.heap.size < w1.heap.size := by omega); (try have hz1_w_1 : w.heap.size + 1 < w1.heap.size := by omega); (try have hz1_w_2 : w.heap.size + 2 < w1.heap.size := by omega); (try have hz1_w_2b : w.heap.size + 1 + 1 < w1.heap.size := by omega))
    go_wp2_with fail
    go_ret3
    exact MadeAt.cast (MadeAt.nil (fun v => .returned (.tuple #[v, .int .i64 (cdS xs), .bool false])) (by repeat' (first | (with_reducible exact Below.refl _ _) | (with_reducible refine Below.alloc ?_ ?_ _) | (with_reducible refine Below.setCell ?_ ?_ _) | (with_reducible refine Below.drew ?_) | (with_reducible refine Below.trans ?_ (Below.mono (by with_reducible assumption) ?_)) | omega | (simp; done) | (simp; omega)))) (by simp [cdR, hG0]) (by simp [cdR, hG0]) rfl (by simp [cdS, hG0])
  · have hbd := brksOK_bd hG0
    have hv := Lib.hid hbd.2
    have hn := hbd.1
    clear hbd
    have Hq := Lib.hid hG0
    obtain ⟨i0, hi, hz0, hz1, hz2⟩ := info_parts brk_info
    have hinfo := Lib.hid (And.intro hi (And.intro hz0 (And.intro hz1 hz2)))
    clear hi hz0 hz1 hz2
    go_enter Tryd.func17, Tryd.ntmps17
    go_wp2_with fail
    (go_at_call 32; refine (areBreaks_any _ _ _ _ h hx).mono ?_; rintro e w1 ⟨rfl, hb1⟩)
    (have hs1 := hb1.size; (try simp at hs1); obtain ⟨hc1, hf1, hn1⟩ := bcell hb1; (try have hz1_w_0 : w.heap.size < w1.heap.size := by omega); (try have hz1_w_1 : w.heap.size + 1 < w1.heap.size := by omega); (try have hz1_w_2 : w.heap.size + 2 < w1.heap.size := by omega); (try have hz1_w_2b : w.heap.size + 1 + 1 < w1.heap.size := by omega))
    go_wp2_with fail
    have hown := World.ownsRow_nil w1 w.heap.size 26 6
    have hb0 : Below w.heap.size w w1 := (by repeat' (first | (with_reducible exact Below.refl _ _) | (with_reducible refine Below.alloc ?_ ?_ _) | (with_reducible refine Below.setCell ?_ ?_ _) | (with_reducible refine Below.drew ?_) | (with_reducible refine Below.trans ?_ (Below.mono (by with_reducible assumption) ?_)) | omega | (simp; done) | (simp; omega)))
    go_loopw [5, 6, 14] (fun v x i wr => ∃ k : Nat, k ≤ xs.length ∧ i = .int .i64 k ∧ x = .int .i64 (cdTo xs k) ∧ Hid (wr.ownsRow w.heap.size 26 6 v (cdL xs k).length ((cdL xs k).flatMap Brk.enc)) ∧ Below w.heap.size w wr) (fun _ _ i _ => xs.length - (intOf i).toNat)
    case atStart => exact ⟨0, Nat.zero_le _, rfl, rfl, hown, hb0⟩
    case round =>
      obtain ⟨k, hk, rfl, rfl, hown, hb⟩ := hrel
      by_cases hlt : k < xs.length
      · obtain ⟨b, o, rfl, hB, c0, c1, c2, c3, c4, c5⟩ := brk_cells (h.below hb) hlt
        have hs := hb.size
        have hB1 : b < wr.heap.size := by omega
        have hI : (k : Int) < xs.length := by omega
        have hI0 : (0 : Int) ≤ k := by omega
        have hq := brkAt_bd (hv.out k hlt)
        have hbd := cdTo_bd hv.out k (by omega)
        have hll := cdL_len xs k
        cases hd : ((el xs k).d == (el xs k).m)
        · have Hc := Lib.hid (show cdTo xs (k + 1) = cdTo xs k by rw [cdTo, hd]; simp)
          have Hl := Lib.hid (cdL_keep hlt hd)
          go_wp2_with (at_builtin; refine wpList_append_own _ rfl _ _ 31 rfl w.heap.size 26 _ _ 6 48 Tryd.underlying31 hinfo.out.1 hinfo.out.2.1 hinfo.out.2.2.1 hinfo.out.2.2.2 rfl (by decide) _ _ _ rfl (own_to hown.out (by repeat' (first | (with_reducible exact Below.refl _ _) | (with_reducible refine Below.alloc ?_ ?_ _) | (with_reducible refine Below.setCell ?_ ?_ _) | (with_reducible refine Below.drew ?_) | (with_reducible refine Below.trans ?_ (Below.mono (by with_reducible assumption) ?_)) | omega | (simp; done) | (simp; omega)))) _ 1 1 [.int .i64 (el xs k).i, .int .i64 (el xs k).p, .int .i64 (el xs k).m, .int .i64 (el xs k).g, .int .i64 (el xs k).t, .int .i64 (el xs k).d] rfl rfl (news_top (cs := #[.int .i64 (el xs k).i, .int .i64 (el xs k).p, .int .i64 (el xs k).m, .int .i64 (el xs k).g, .int .i64 (el xs k).t, .int .i64 (el xs k).d]) (t := 26) (by simp)) (by simp [Value.oneCell']) (by unfold maxLen; omega) (by omega) (by simp; omega) ?_)
          intro v2 w2 hown2 hgrow hnil
          have hb2 : Below w.heap.size w w2 := own_grew hown.out (by repeat' (first | (with_reducible exact Below.refl _ _) | (with_reducible refine Below.alloc ?_ ?_ _) | (with_reducible refine Below.setCell ?_ ?_ _) | (with_reducible refine Below.drew ?_) | (with_reducible refine Below.trans ?_ (Below.mono (by with_reducible assumption) ?_)) | omega | (simp; done) | (simp; omega))) (by simp; omega) hgrow
          have hs2 := hb2.size
          go_wp2_with fail
          go_roundw
          case rel => exact ⟨k + 1, by omega, by go_num, by rw [Hc.out], by rw [Hl.out, List.length_append, List.flatMap_append]; simpa [Hid, Brk.enc] using hown2, hb2⟩
          case measure => simp [intOf]; omega
        · have Hc := Lib.hid (show cdTo xs (k + 1) = cdTo xs k + (el xs k).m by rw [cdTo, hd]; simp)
          have Hl := Lib.hid (cdL_drop hlt hd)
          go_wp2_with fail
          go_roundw
          case rel => exact ⟨k + 1, by omega, by go_num, by rw [Hc.out], by rw [Hl.out]; exact own_to hown.out (by repeat' (first | (with_reducible exact Below.refl _ _) | (with_reducible refine Below.alloc ?_ ?_ _) | (with_reducible refine Below.setCell ?_ ?_ _) | (with_reducible refine Below.drew ?_) | (with_reducible refine Below.trans ?_ (Below.mono (by with_reducible assumption) ?_)) | omega | (simp; done) | (simp; omega))), (by repeat' (first | (with_reducible exact Below.refl _ _) | (with_reducible refine Below.alloc ?_ ?_ _) | (with_reducible refine Below.setCell ?_ ?_ _) | (with_reducible refine Below.drew ?_) | (with_reducible refine Below.trans ?_ (Below.mono (by with_reducible assumption) ?_)) | omega | (simp; done) | (simp; omega)))⟩
          case measure => simp [intOf]; omega
      · obtain rfl : k = xs.length := by omega
        have hs := hb.size
        go_wp2
        go_ret3
        exact MadeAt.cast (MadeAt.of_own (fun v => .returned (.tuple #[v, .int .i64 (cdS xs), .bool true])) hown.out hb) (by rw [cdR, if_pos Hq.out]) (by rw [cdR, if_pos Hq.out]) rfl (by rw [cdS, if_pos Hq.out]; first | done | rfl)
end Go.Proofs.YtakjfkbfibcbcaaDoor
