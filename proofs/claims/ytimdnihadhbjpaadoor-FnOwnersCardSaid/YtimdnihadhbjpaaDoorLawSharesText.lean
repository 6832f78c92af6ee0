/- Law: SharesText (chapter 22). -/
import Derived.Test.YtimdnihadhbjpaaDoorFloor
import Derived.Test.YtimdnihadhbjpaaDoorNumTab
set_option linter.unusedSimpArgs false
set_option linter.unusedVariables false
namespace Go.Proofs.YtimdnihadhbjpaaDoor
open Go.RowKit Go.Sort Go.Salt
attribute [local go_sem] cell_rg
def shT (xs : List Ow) (k : Nat) : ByteArray := if (el xs k).d = 1 then ⟨#[32, 97, 108, 108]⟩ else ⟨#[32]⟩ ++ numS (el xs k).n ++ ⟨#[47]⟩ ++ numS (el xs k).d
def shS (xs : List Ow) : Nat → ByteArray
  | 0 => ⟨#[]⟩
  | k + 1 => (if 0 < k then shS xs k ++ ⟨#[44, 32]⟩ else shS xs k) ++ (el xs k).s ++ shT xs k
def shV (xs : List Ow) : ByteArray := if arB xs = true then shS xs xs.length else ⟨#[]⟩
theorem shT_one {xs : List Ow} {k : Nat} (h : (el xs k).d = 1) : shT xs k = ⟨#[32, 97, 108, 108]⟩ := by unfold shT; rw [if_pos h]
theorem shT_more {xs : List Ow} {k : Nat} (h : ¬ (el xs k).d = 1) : shT xs k = ⟨#[32]⟩ ++ numS (el xs k).n ++ ⟨#[47]⟩ ++ numS (el xs k).d := by unfold shT; rw [if_neg h]
theorem shS_else {xs : List Ow} {k : Nat} (h : ¬ 0 < k) : shS xs (k + 1) = shS xs k ++ (el xs k).s ++ shT xs k := by rw [shS, if_neg h]
theorem shS_more {xs : List Ow} {k : Nat} (h : 0 < k) : shS xs (k + 1) = shS xs k ++ ⟨#[44, 32]⟩ ++ (el xs k).s ++ shT xs k := by rw [shS, if_pos h]
theorem arOK_ok {xs : List Ow} (h : arB xs = true) : ∀ k, k < xs.length → owOK (el xs k) = true := fun k hk => by
  unfold arB at h
  rw [Bool.and_eq_true, Bool.and_eq_true] at h
  exact (gdB_el h.2.1 k hk).1
theorem owOK_size {x : Ow} (h : owOK x = true) : x.s.size ≤ 10 := by
  unfold owOK wdB at h
  simp only [Bool.and_eq_true, inB_iff] at h
  omega
/-- Who has all: where the denominator is 1, the numerator is it too. -/
theorem arOK_all {xs : List Ow} (h : arB xs = true) {k : Nat} (hk : k < xs.length) : (el xs k).d = 1 ↔ (el xs k).n = (el xs k).d := by
  have hbd := arOK_bd h
  have hok := arOK_ok h k hk
  have hsum : sP allP (nuO xs) (deO xs) xs.length = dP (deO xs) xs.length := by
    unfold arB at h
    rw [Bool.and_eq_true, Bool.and_eq_true, decide_eq_true_eq] at h
    exact h.2.2
  constructor
  · intro hd
    rcases Int.lt_or_le 1 (el xs k).n with hn | hn
    · exfalso
      have hD := dP_pos1 (de := deO xs) (fun i => (hbd i).2.1) k
      have hS := sP_pos (p := allP) (nu := nuO xs) (de := deO xs) (fun i => (hbd i).2.1) (fun i => (hbd i).1.1) k
      have e1 : sP allP (nuO xs) (deO xs) (k + 1) = sP allP (nuO xs) (deO xs) k * 1 + (el xs k).n * dP (deO xs) k := by
        rw [sP, show deO xs k = 1 from hd]; rfl
      have e2 : dP (deO xs) (k + 1) = dP (deO xs) k * 1 := by rw [dP, show deO xs k = 1 from hd]
      have h3 : 2 * dP (deO xs) k ≤ (el xs k).n * dP (deO xs) k := Int.mul_le_mul_of_nonneg_right (by omega) (by omega)
      exact sum_over (p := allP) (nu := nuO xs) (de := deO xs) (fun i => (hbd i).2.1) (fun i => (hbd i).1.1) (a := sP allP (nuO xs) (deO xs) (k + 1)) (b := dP (deO xs) (k + 1)) (k := k + 1) (n := xs.length) hk (Int.mul_comm _ _) (by omega) (by omega) hsum
    · have := (hbd k).1.1; omega
  · intro hn
    unfold owOK at hok
    simp only [Bool.and_eq_true, decide_eq_true_eq] at hok
    have hg := hok.2.2
    rw [hn, Nat.gcd_self] at hg
    have := (hbd k).2.1
    omega
set_option maxRecDepth 10000 in
set_option maxHeartbeats 8000000 in
theorem sSharesText_any (A : Option Addr) (c : Nat) (xs : List Ow) (w : World) (h : Rd w w.heap.size A 3 Ow.enc xs) (hx : xs.length ≤ 1048576) (hz : OwSz 1048576 xs) :
    Calls Tryd.prog 51 #[.slice A xs.length c] w fun e w' => e = .returned (.tuple #[.string (shV xs), .bool (arB xs)]) ∧ Below w.heap.size w w' := by
  have HX := Lib.hid h
  have HZ := Lib.hid hz
  clear h hz
  cases hg : arB xs
  · have Hg := Lib.hid hg
    rw [shV, hg]
    clear hg
    simp only [Bool.false_eq_true, if_false]
    go_enter Tryd.func51, Tryd.ntmps51
    go_wp2_with fail
    refine (l22Good_any A c xs _ (HX.out.to (by repeat' (first | (with_reducible exact Below.refl _ _) | (with_reducible refine Below.alloc ?_ ?_ _) | (with_reducible refine Below.setCell ?_ ?_ _) | (with_reducible refine Below.drew ?_) | (with_reducible refine Below.trans ?_ (Below.mono (by with_reducible assumption) ?_)) | omega | (simp; done) | (simp; omega)))) hx HZ.out).mono ?_
    rintro e w1 ⟨rfl, hb1⟩
    have hs1 := hb1.size
    rw [Hg.out]
    go_wp2
    go_ret2
    exact ⟨rfl, (by repeat' (first | (with_reducible exact Below.refl _ _) | (with_reducible refine Below.alloc ?_ ?_ _) | (with_reducible refine Below.setCell ?_ ?_ _) | (with_reducible refine Below.drew ?_) | (with_reducible refine Below.trans ?_ (Below.mono (by with_reducible assumption) ?_)) | omega | (simp; done) | (simp; omega)))⟩
  · have Hg := Lib.hid hg
    have HBD := Lib.hid (arOK_bd hg)
    have HOK := Lib.hid (arOK_ok hg)
    have HALL := Lib.hid (fun k hk => arOK_all hg (k := k) hk)
    have hl := arOK_len hg
    rw [shV, hg]
    clear hg
    simp only [if_true]
    go_enter Tryd.func51, Tryd.ntmps51
    go_wp2_with fail
    refine (l22Good_any A c xs _ (HX.out.to (by repeat' (first | (with_reducible exact Below.refl _ _) | (with_reducible refine Below.alloc ?_ ?_ _) | (with_reducible refine Below.setCell ?_ ?_ _) | (with_reducible refine Below.drew ?_) | (with_reducible refine Below.trans ?_ (Below.mono (by with_reducible assumption) ?_)) | omega | (simp; done) | (simp; omega)))) hx HZ.out).mono ?_
    rintro e w1 ⟨rfl, hb1⟩
    have hs1 := hb1.size
    rw [Hg.out]
    have HX1 := Lib.hid (HX.out.to hb1)
    go_wp2_with fail
    go_loopw [4, 5] (fun t i wr => ∃ (k : Nat) (s : ByteArray), k ≤ xs.length ∧ t = .string s ∧ s.size ≤ 60 * k ∧ i = .int .i64 k ∧ Hid (shS xs k = s) ∧ Below w1.heap.size w1 wr) (fun _ i _ => xs.length - (intOf i).toNat)
    case atStart => exact ⟨0, _, by omega, rfl, by decide, rfl, Lib.hid rfl, (by repeat' (first | (with_reducible exact Below.refl _ _) | (with_reducible refine Below.alloc ?_ ?_ _) | (with_reducible refine Below.setCell ?_ ?_ _) | (with_reducible refine Below.drew ?_) | (with_reducible refine Below.trans ?_ (Below.mono (by with_reducible assumption) ?_)) | omega | (simp; done) | (simp; omega)))⟩
    case round =>
      obtain ⟨k, s, hk, rfl, hz, rfl, He, hb⟩ := hrel
      have hs := hb.size
      by_cases hlt : k < xs.length
      · obtain ⟨b, o, rfl, hB', c0, c1, c2⟩ := ow_cells (HX1.out.below hb) hlt
        have hB1 : b < wr.heap.size := by omega
        have hI : (k : Int) < xs.length := by omega
        have hI0 : (0 : Int) ≤ k := by omega
        have u1 := HBD.out k
        have z0 := owOK_size (HOK.out k hlt)
        have z1 := numS_size (z := (el xs k).n) (by omega)
        have z2 := numS_size (z := (el xs k).d) (by omega)
        have q1 : (⟨#[44, 32]⟩ : ByteArray).size = 2 := rfl
        have q2 : (⟨#[32, 97, 108, 108]⟩ : ByteArray).size = 4 := rfl
        have q3 : (⟨#[32]⟩ : ByteArray).size = 1 := rfl
        have q4 : (⟨#[47]⟩ : ByteArray).size = 1 := rfl
        have hal := HALL.out k hlt
        by_cases hk0 : 0 < k
        · have hki : (0 : Int) < k := by omega
          by_cases hd1 : (el xs k).d = 1
          · clear hal
            go_wp2_with fail
            go_roundw
            case rel => exact ⟨k + 1, _, by omega, rfl, (by simp only [ByteArray.size_append]; omega), by go_num, Lib.hid (by rw [shS_more hk0, shT_one hd1, He.out]; try simp only [ByteArray.append_assoc]), (by repeat' (first | (with_reducible exact Below.refl _ _) | (with_reducible refine Below.alloc ?_ ?_ _) | (with_reducible refine Below.setCell ?_ ?_ _) | (with_reducible refine Below.drew ?_) | (with_reducible refine Below.trans ?_ (Below.mono (by with_reducible assumption) ?_)) | omega | (simp; done) | (simp; omega)))⟩
            case measure => simp [intOf] <;> omega
          · clear hal
            go_wp2_with fail
            refine wp_region_quiet_below (by kernel_rfl) (by kernel_rfl) ?_
            repeat (go_big_quiet_step ((first | (go_at_call 92; exact Calls.regrown_of (l1Num_any _ _ (by omega) (by omega))))))
            (refine wpQuiet_nil ?_; intro w1 hwq; have hb1 := of_cls hwq; clear hwq)
            (have hs1 := hb1.size; (try simp at hs1); obtain ⟨hc1, hf1, hn1⟩ := bcell hb1; (try have hz1_w_0 : w.heap.size < w1.heap.size := by omega); (try have hz1_w_1 : w.heap.size + 1 < w1.heap.size := by omega); (try have hz1_w_2 : w.heap.size + 2 < w1.heap.size := by omega); (try have hz1_w_2b : w.heap.size + 1 + 1 < w1.heap.size := by omega))
            go_wp2_with fail
            go_roundw
            case rel => exact ⟨k + 1, _, by omega, rfl, (by simp only [ByteArray.size_append]; omega), by go_num, Lib.hid (by rw [shS_more hk0, shT_more hd1, He.out]; try simp only [ByteArray.append_assoc]), (by repeat' (first | (with_reducible exact Below.refl _ _) | (with_reducible refine Below.alloc ?_ ?_ _) | (with_reducible refine Below.setCell ?_ ?_ _) | (with_reducible refine Below.drew ?_) | (with_reducible refine Below.trans ?_ (Below.mono (by with_reducible assumption) ?_)) | omega | (simp; done) | (simp; omega)))⟩
            case measure => simp [intOf] <;> omega
        · have hki : ¬ (0 : Int) < k := by omega
          by_cases hd1 : (el xs k).d = 1
          · clear hal
            go_wp2_with fail
            go_roundw
            case rel => exact ⟨k + 1, _, by omega, rfl, (by simp only [ByteArray.size_append]; omega), by go_num, Lib.hid (by rw [shS_else hk0, shT_one hd1, He.out]; try simp only [ByteArray.append_assoc]), (by repeat' (first | (with_reducible exact Below.refl _ _) | (with_reducible refine Below.alloc ?_ ?_ _) | (with_reducible refine Below.setCell ?_ ?_ _) | (with_reducible refine Below.drew ?_) | (with_reducible refine Below.trans ?_ (Below.mono (by with_reducible assumption) ?_)) | omega | (simp; done) | (simp; omega)))⟩
            case measure => simp [intOf] <;> omega
          · clear hal
            go_wp2_with fail
            refine wp_region_quiet_below (by kernel_rfl) (by kernel_rfl) ?_
            repeat (go_big_quiet_step ((first | (go_at_call 92; exact Calls.regrown_of (l1Num_any _ _ (by omega) (by omega))))))
            (refine wpQuiet_nil ?_; intro w2 hwq; have hb2 := of_cls hwq; clear hwq)
            (have hs2 := hb2.size; (try simp at hs2); obtain ⟨hc2, hf2, hn2⟩ := bcell hb2; (try have hz2_w_0 : w.heap.size < w2.heap.size := by omega); (try have hz2_w_1 : w.heap.size + 1 < w2.heap.size := by omega); (try have hz2_w_2 : w.heap.size + 2 < w2.heap.size := by omega); (try have hz2_w_2b : w.heap.size + 1 + 1 < w2.heap.size := by omega); (try have hz2_w1_0 : w1.heap.size < w2.heap.size := by omega); (try have hz2_w1_1 : w1.heap.size + 1 < w2.heap.size := by omega); (try have hz2_w1_2 : w1.heap.size + 2 < w2.heap.size := by omega); (try have hz2_w1_2b : w1.heap.size + 1 + 1 < w2.heap.size := by omega))
            go_wp2_with fail
            go_roundw
            case rel => exact ⟨k + 1, _, by omega, rfl, (by simp only [ByteArray.size_append]; omega), by go_num, Lib.hid (by rw [shS_else hk0, shT_more hd1, He.out]; try simp only [ByteArray.append_assoc]), (by repeat' (first | (with_reducible exact Below.refl _ _) | (with_reducible refine Below.alloc ?_ ?_ _) | (with_reducible refine Below.setCell ?_ ?_ _) | (with_reducible refine Below.drew ?_) | (with_reducible refine Below.trans ?_ (Below.mono (by with_reducible assumption) ?_)) | omega | (simp; done) | (simp; omega)))⟩
            case measure => simp [intOf] <;> omega
      · obtain rfl : k = xs.length := by omega
        have hI : ¬ ((xs.length : Nat) : Int) < xs.length := by omega
        obtain rfl := He.out
        go_wp2
        go_ret2
        exact ⟨rfl, hb1.trans (Below.mono (hb.trans (Below.mono (show Below wr.heap.size wr _ from (by repeat' (first | (with_reducible exact Below.refl _ _) | (with_reducible refine Below.alloc ?_ ?_ _) | (with_reducible refine Below.setCell ?_ ?_ _) | (with_reducible refine Below.drew ?_) | (with_reducible refine Below.trans ?_ (Below.mono (by with_reducible assumption) ?_)) | omega | (simp; done) | (simp; omega)))) hs)) hs1)⟩
set_option maxRecDepth 10000 in
set_option maxHeartbeats 8000000 in
theorem iSharesText_any (A : Option Addr) (c : Nat) (xs : List Ow) (w : World) (h : Rd w w.heap.size A 3 Ow.enc xs) (hx : xs.length ≤ 1048576) (hc : xs.length ≤ c) (ht : Hid (Tab w)) (hz : OwSz 1048576 xs) :
    Calls Tryd.prog 52 #[.slice A xs.length c] w fun e w' => e = .returned (.tuple #[.string (shV xs), .bool (arB xs)]) ∧ Below w.heap.size w w' := by
  have HX := Lib.hid h
  have HZ := Lib.hid hz
  clear h hz
  cases hg : arB xs
  · have Hg := Lib.hid hg
    rw [shV, hg]
    clear hg
    simp only [Bool.false_eq_true, if_false]
    go_enter Tryd.func52, Tryd.ntmps52
    go_wp2_with fail
    refine (iAreOwners_any A c xs _ (HX.out.to (by repeat' (first | (with_reducible exact Below.refl _ _) | (with_reducible refine Below.alloc ?_ ?_ _) | (with_reducible refine Below.setCell ?_ ?_ _) | (with_reducible refine Below.drew ?_) | (with_reducible refine Below.trans ?_ (Below.mono (by with_reducible assumption) ?_)) | omega | (simp; done) | (simp; omega)))) hx hc HZ.out).mono ?_
    rintro e w1 ⟨rfl, hb1⟩
    have hs1 := hb1.size
    rw [Hg.out]
    go_wp2
    go_ret2
    exact ⟨rfl, (by repeat' (first | (with_reducible exact Below.refl _ _) | (with_reducible refine Below.alloc ?_ ?_ _) | (with_reducible refine Below.setCell ?_ ?_ _) | (with_reducible refine Below.drew ?_) | (with_reducible refine Below.trans ?_ (Below.mono (by with_reducible assumption) ?_)) | omega | (simp; done) | (simp; omega)))⟩
  · have Hg := Lib.hid hg
    have HBD := Lib.hid (arOK_bd hg)
    have HOK := Lib.hid (arOK_ok hg)
    have HALL := Lib.hid (fun k hk => arOK_all hg (k := k) hk)
    have hl := arOK_len hg
    rw [shV, hg]
    clear hg
    simp only [if_true]
    have HT1 := ht
    go_enter Tryd.func52, Tryd.ntmps52
    go_wp2_with fail
    refine (iAreOwners_any A c xs _ (HX.out.to (by repeat' (first | (with_reducible exact Below.refl _ _) | (with_reducible refine Below.alloc ?_ ?_ _) | (with_reducible refine Below.setCell ?_ ?_ _) | (with_reducible refine Below.drew ?_) | (with_reducible refine Below.trans ?_ (Below.mono (by with_reducible assumption) ?_)) | omega | (simp; done) | (simp; omega)))) hx hc HZ.out).mono ?_
    rintro e w1 ⟨rfl, hb1⟩
    have hs1 := hb1.size
    rw [Hg.out]
    have HX1 := Lib.hid (HX.out.to hb1)
    go_wp2_with fail
    go_loopw [4, 12] (fun t i wr => ∃ (k : Nat) (s : ByteArray), k ≤ xs.length ∧ t = .string s ∧ s.size ≤ 60 * k ∧ i = .int .i64 k ∧ Hid (shS xs k = s) ∧ Below w1.heap.size w1 wr) (fun _ i _ => xs.length - (intOf i).toNat)
    case atStart => exact ⟨0, _, by omega, rfl, by decide, rfl, Lib.hid rfl, (by repeat' (first | (with_reducible exact Below.refl _ _) | (with_reducible refine Below.alloc ?_ ?_ _) | (with_reducible refine Below.setCell ?_ ?_ _) | (with_reducible refine Below.drew ?_) | (with_reducible refine Below.trans ?_ (Below.mono (by with_reducible assumption) ?_)) | omega | (simp; done) | (simp; omega)))⟩
    case round =>
      obtain ⟨k, s, hk, rfl, hz, rfl, He, hb⟩ := hrel
      have hs := hb.size
      by_cases hlt : k < xs.length
      · obtain ⟨b, o, rfl, hB', c0, c1, c2⟩ := ow_cells (HX1.out.below hb) hlt
        have hB1 : b < wr.heap.size := by omega
        have hI : (k : Int) < xs.length := by omega
        have hI0 : (0 : Int) ≤ k := by omega
        have u1 := HBD.out k
        have z0 := owOK_size (HOK.out k hlt)
        have z1 := numS_size (z := (el xs k).n) (by omega)
        have z2 := numS_size (z := (el xs k).d) (by omega)
        have q1 : (⟨#[44, 32]⟩ : ByteArray).size = 2 := rfl
        have q2 : (⟨#[32, 97, 108, 108]⟩ : ByteArray).size = 4 := rfl
        have q3 : (⟨#[32]⟩ : ByteArray).size = 1 := rfl
        have q4 : (⟨#[47]⟩ : ByteArray).size = 1 := rfl
        have hal := HALL.out k hlt
        by_cases hk0 : 0 < k
        · have hki : (0 : Int) < k := by omega
          by_cases hd1 : (el xs k).d = 1
          · have hd2 := hal.1 hd1; clear hal
            have Hd1 := Lib.hid hd1
            have Hd2 := Lib.hid hd2
            clear hd1 hd2
            go_upto_region 7 with (fail)
            refine cut_world (fun W => Row W wr.heap.size 54 [.string (el xs k).s, .int .i64 (el xs k).n, .int .i64 (el xs k).d] ∧ Below wr.heap.size wr W) ⟨by first | exact Row.new _ _ _ | exact (Row.new _ _ _).to (by repeat' (first | (with_reducible exact Below.refl _ _) | (with_reducible refine Below.alloc ?_ ?_ _) | (with_reducible refine Below.setCell ?_ ?_ _) | (with_reducible refine Below.drew ?_) | (with_reducible refine Below.trans ?_ (Below.mono (by with_reducible assumption) ?_)) | omega | (simp; done) | (simp; omega))), (by repeat' (first | (with_reducible exact Below.refl _ _) | (with_reducible refine Below.alloc ?_ ?_ _) | (with_reducible refine Below.setCell ?_ ?_ _) | (with_reducible refine Below.drew ?_) | (with_reducible refine Below.trans ?_ (Below.mono (by with_reducible assumption) ?_)) | omega | (simp; done) | (simp; omega)))⟩ ?_
            clear c0 c1 c2
            rintro w2 ⟨hbx, hb2⟩
            obtain ⟨x0, x1, x2⟩ := row3o hbx
            have hbl := hbx.lt
            have hs2 := hb2.size
            clear hbx
            have hd1 := Hd1.out
            have hd2 := Hd2.out
            go_wp2_with fail
            go_roundw
            case rel => exact ⟨k + 1, _, by omega, rfl, (by simp only [ByteArray.size_append]; omega), by go_num, Lib.hid (by rw [shS_more hk0, shT_one hd1, He.out]; try simp only [ByteArray.append_assoc]), (by repeat' (first | (with_reducible exact Below.refl _ _) | (with_reducible refine Below.alloc ?_ ?_ _) | (with_reducible refine Below.setCell ?_ ?_ _) | (with_reducible refine Below.drew ?_) | (with_reducible refine Below.trans ?_ (Below.mono (by with_reducible assumption) ?_)) | omega | (simp; done) | (simp; omega)))⟩
            case measure => simp [intOf] <;> omega
          · have hd2 := mt hal.2 hd1; clear hal
            go_upto_region 7 with (fail)
            refine cut_world (fun W => Row W wr.heap.size 54 [.string (el xs k).s, .int .i64 (el xs k).n, .int .i64 (el xs k).d] ∧ Below wr.heap.size wr W) ⟨by first | exact Row.new _ _ _ | exact (Row.new _ _ _).to (by repeat' (first | (with_reducible exact Below.refl _ _) | (with_reducible refine Below.alloc ?_ ?_ _) | (with_reducible refine Below.setCell ?_ ?_ _) | (with_reducible refine Below.drew ?_) | (with_reducible refine Below.trans ?_ (Below.mono (by with_reducible assumption) ?_)) | omega | (simp; done) | (simp; omega))), (by repeat' (first | (with_reducible exact Below.refl _ _) | (with_reducible refine Below.alloc ?_ ?_ _) | (with_reducible refine Below.setCell ?_ ?_ _) | (with_reducible refine Below.drew ?_) | (with_reducible refine Below.trans ?_ (Below.mono (by with_reducible assumption) ?_)) | omega | (simp; done) | (simp; omega)))⟩ ?_
            clear c0 c1 c2
            rintro w2 ⟨hbx, hb2⟩
            obtain ⟨x0, x1, x2⟩ := row3o hbx
            have hbl := hbx.lt
            have hs2 := hb2.size
            clear hbx
            have HT : Hid (Tab w2) := Lib.hid (HT1.out.to (hb1.trans (Below.mono (hb.trans (Below.mono hb2 (by omega))) hs1)))
            go_wp2_with fail
            refine wp_region_quiet_below (by kernel_rfl) (by kernel_rfl) ?_
            repeat (go_big_quiet_step ((first | (go_at_call 93; exact Calls.regrown_of (decimal_any _ _ (HT.out.to (below_regrown _ _ _)) (by omega) (by omega))))))
            (refine wpQuiet_nil ?_; intro w1 hwq; have hb1 := of_cls hwq; clear hwq)
            (have hs1 := hb1.size; (try simp at hs1); obtain ⟨hc1, hf1, hn1⟩ := bcell hb1; (try have hz1_w_0 : w.heap.size < w1.heap.size := by omega); (try have hz1_w_1 : w.heap.size + 1 < w1.heap.size := by omega); (try have hz1_w_2 : w.heap.size + 2 < w1.heap.size := by omega); (try have hz1_w_2b : w.heap.size + 1 + 1 < w1.heap.size := by omega))
            go_wp2_with fail
            go_roundw
            case rel => exact ⟨k + 1, _, by omega, rfl, (by simp only [ByteArray.size_append]; omega), by go_num, Lib.hid (by rw [shS_more hk0, shT_more hd1, He.out]; try simp only [ByteArray.append_assoc]), (by repeat' (first | (with_reducible exact Below.refl _ _) | (with_reducible refine Below.alloc ?_ ?_ _) | (with_reducible refine Below.setCell ?_ ?_ _) | (with_reducible refine Below.drew ?_) | (with_reducible refine Below.trans ?_ (Below.mono (by with_reducible assumption) ?_)) | omega | (simp; done) | (simp; omega)))⟩
            case measure => simp [intOf] <;> omega
        · have hki : ¬ (0 : Int) < k := by omega
          by_cases hd1 : (el xs k).d = 1
          · have hd2 := hal.1 hd1; clear hal
            have Hd1 := Lib.hid hd1
            have Hd2 := Lib.hid hd2
            clear hd1 hd2
            go_upto_region 7 with (fail)
            refine cut_world (fun W => Row W wr.heap.size 54 [.string (el xs k).s, .int .i64 (el xs k).n, .int .i64 (el xs k).d] ∧ Below wr.heap.size wr W) ⟨by first | exact Row.new _ _ _ | exact (Row.new _ _ _).to (by repeat' (first | (with_reducible exact Below.refl _ _) | (with_reducible refine Below.alloc ?_ ?_ _) | (with_reducible refine Below.setCell ?_ ?_ _) | (with_reducible refine Below.drew ?_) | (with_reducible refine Below.trans ?_ (Below.mono (by with_reducible assumption) ?_)) | omega | (simp; done) | (simp; omega))), (by repeat' (first | (with_reducible exact Below.refl _ _) | (with_reducible refine Below.alloc ?_ ?_ _) | (with_reducible refine Below.setCell ?_ ?_ _) | (with_reducible refine Below.drew ?_) | (with_reducible refine Below.trans ?_ (Below.mono (by with_reducible assumption) ?_)) | omega | (simp; done) | (simp; omega)))⟩ ?_
            clear c0 c1 c2
            rintro w2 ⟨hbx, hb2⟩
            obtain ⟨x0, x1, x2⟩ := row3o hbx
            have hbl := hbx.lt
            have hs2 := hb2.size
            clear hbx
            have hd1 := Hd1.out
            have hd2 := Hd2.out
            go_wp2_with fail
            go_roundw
            case rel => exact ⟨k + 1, _, by omega, rfl, (by simp only [ByteArray.size_append]; omega), by go_num, Lib.hid (by rw [shS_else hk0, shT_one hd1, He.out]; try simp only [ByteArray.append_assoc]), (by repeat' (first | (with_reducible exact Below.refl _ _) | (with_reducible refine Below.alloc ?_ ?_ _) | (with_reducible refine Below.setCell ?_ ?_ _) | (with_reducible refine Below.drew ?_) | (with_reducible refine Below.trans ?_ (Below.mono (by with_reducible assumption) ?_)) | omega | (simp; done) | (simp; omega)))⟩
            case measure => simp [intOf] <;> omega
          · have hd2 := mt hal.2 hd1; clear hal
            go_upto_region 7 with (fail)
            refine cut_world (fun W => Row W wr.heap.size 54 [.string (el xs k).s, .int .i64 (el xs k).n, .int .i64 (el xs k).d] ∧ Below wr.heap.size wr W) ⟨by first | exact Row.new _ _ _ | exact (Row.new _ _ _).to (by repeat' (first | (with_reducible exact Below.refl _ _) | (with_reducible refine Below.alloc ?_ ?_ _) | (with_reducible refine Below.setCell ?_ ?_ _) | (with_reducible refine Below.drew ?_) | (with_reducible refine Below.trans ?_ (Below.mono (by with_reducible assumption) ?_)) | omega | (simp; done) | (simp; omega))), (by repeat' (first | (with_reducible exact Below.refl _ _) | (with_reducible refine Below.alloc ?_ ?_ _) | (with_reducible refine Below.setCell ?_ ?_ _) | (with_reducible refine Below.drew ?_) | (with_reducible refine Below.trans ?_ (Below.mono (by with_reducible assumption) ?_)) | omega | (simp; done) | (simp; omega)))⟩ ?_
            clear c0 c1 c2
            rintro w2 ⟨hbx, hb2⟩
            obtain ⟨x0, x1, x2⟩ := row3o hbx
            have hbl := hbx.lt
            have hs2 := hb2.size
            clear hbx
            have HT : Hid (Tab w2) := Lib.hid (HT1.out.to (hb1.trans (Below.mono (hb.trans (Below.mono hb2 (by omega))) hs1)))
            go_wp2_with fail
            refine wp_region_quiet_below (by kernel_rfl) (by kernel_rfl) ?_
            repeat (go_big_quiet_step ((first | (go_at_call 93; exact Calls.regrown_of (decimal_any _ _ (HT.out.to (below_regrown _ _ _)) (by omega) (by omega))))))
            (refine wpQuiet_nil ?_; intro w2 hwq; have hb2 := of_cls hwq; clear hwq)
            (have hs2 := hb2.size; (try simp at hs2); obtain ⟨hc2, hf2, hn2⟩ := bcell hb2; (try have hz2_w_0 : w.heap.size < w2.heap.size := by omega); (try have hz2_w_1 : w.heap.size + 1 < w2.heap.size := by omega); (try have hz2_w_2 : w.heap.size + 2 < w2.heap.size := by omega); (try have hz2_w_2b : w.heap.size + 1 + 1 < w2.heap.size := by omega); (try have hz2_w1_0 : w1.heap.size < w2.heap.size := by omega); (try have hz2_w1_1 : w1.heap.size + 1 < w2.heap.size := by omega); (try have hz2_w1_2 : w1.heap.size + 2 < w2.heap.size := by omega); (try have hz2_w1_2b : w1.heap.size + 1 + 1 < w2.heap.size := by omega))
            go_wp2_with fail
            go_roundw
            case rel => exact ⟨k + 1, _, by omega, rfl, (by simp only [ByteArray.size_append]; omega), by go_num, Lib.hid (by rw [shS_else hk0, shT_more hd1, He.out]; try simp only [ByteArray.append_assoc]), (by repeat' (first | (with_reducible exact Below.refl _ _) | (with_reducible refine Below.alloc ?_ ?_ _) | (with_reducible refine Below.setCell ?_ ?_ _) | (with_reducible refine Below.drew ?_) | (with_reducible refine Below.trans ?_ (Below.mono (by with_reducible assumption) ?_)) | omega | (simp; done) | (simp; omega)))⟩
            case measure => simp [intOf] <;> omega
      · obtain rfl : k = xs.length := by omega
        have hI : ¬ ((xs.length : Nat) : Int) < xs.length := by omega
        obtain rfl := He.out
        go_wp2
        go_ret2
        exact ⟨rfl, hb1.trans (Below.mono (hb.trans (Below.mono (show Below wr.heap.size wr _ from (by repeat' (first | (with_reducible exact Below.refl _ _) | (with_reducible refine Below.alloc ?_ ?_ _) | (with_reducible refine Below.setCell ?_ ?_ _) | (with_reducible refine Below.drew ?_) | (with_reducible refine Below.trans ?_ (Below.mono (by with_reducible assumption) ?_)) | omega | (simp; done) | (simp; omega)))) hs)) hs1)⟩
set_option maxRecDepth 10000 in
set_option maxHeartbeats 8000000 in
theorem FnExactSharesText_law (A : Option Addr) (c : Nat) (xs : List Ow)  (w : World) (h : Rd w w.heap.size A 3 Ow.enc xs) (hm : xs.length ≤ maxLen) (hz : OwSz maxLen xs) (ht : Hid (Tab w)) :
    Calls Tryd.prog 13 #[.slice A xs.length c] w fun e w' => e = .returned (.bool true) ∧ Below w.heap.size w w' := by
  have HZ := Lib.hid hz
  clear hz
  have hI := fun (A : Option Addr) (c : Nat) (w : World) (h : Rd w w.heap.size A 3 Ow.enc xs) (hx : xs.length ≤ 1048576) (hc : xs.length ≤ c) (ht : Hid (Tab w)) (hz : OwSz 1048576 xs) => iSharesText_any A c xs  w h hx hc ht hz
  have hS := fun (A : Option Addr) (c : Nat) (w : World) (h : Rd w w.heap.size A 3 Ow.enc xs) (hx : xs.length ≤ 1048576) (hz : OwSz 1048576 xs) => sSharesText_any A c xs  w h hx hz
  obtain ⟨r0, hr0⟩ : ∃ r, shV xs = r := ⟨_, rfl⟩
  obtain ⟨r1, hr1⟩ : ∃ r, arB xs = r := ⟨_, rfl⟩
  rw [hr0, hr1] at hI hS
  have HI := Lib.hid hI
  have HS := Lib.hid hS
  clear hI hS hr0 hr1
  go_enter Tryd.func13, Tryd.ntmps13
  go_wp2_with fail
  refine (szOwnerS_any A c xs _ (h.to (by repeat' (first | (with_reducible exact Below.refl _ _) | (with_reducible refine Below.alloc ?_ ?_ _) | (with_reducible refine Below.setCell ?_ ?_ _) | (with_reducible refine Below.drew ?_) | (with_reducible refine Below.trans ?_ (Below.mono (by with_reducible assumption) ?_)) | omega | (simp; done) | (simp; omega)))) hm HZ.out).mono ?_
  rintro e w1 ⟨⟨z, rfl, hzz⟩, hb1⟩
  have hs1 := hb1.size
  rcases hzz with rfl | ⟨hz0, hx, hsz⟩
  · go_wp2
    go_ret
    exact ⟨rfl, (by repeat' (first | (with_reducible exact Below.refl _ _) | (with_reducible refine Below.alloc ?_ ?_ _) | (with_reducible refine Below.setCell ?_ ?_ _) | (with_reducible refine Below.drew ?_) | (with_reducible refine Below.trans ?_ (Below.mono (by with_reducible assumption) ?_)) | omega | (simp; done) | (simp; omega)))⟩
  · have hz1 : ¬ z < 0 := by omega
    have HSZ := Lib.hid hsz
    clear hsz HZ
    go_wp2_with fail
    refine (toOwnerS_cap A c xs _ (h.to (by repeat' (first | (with_reducible exact Below.refl _ _) | (with_reducible refine Below.alloc ?_ ?_ _) | (with_reducible refine Below.setCell ?_ ?_ _) | (with_reducible refine Below.drew ?_) | (with_reducible refine Below.trans ?_ (Below.mono (by with_reducible assumption) ?_)) | omega | (simp; done) | (simp; omega)))) hx).mono ?_
    rintro e w2 ⟨g2, rfl, hg2, row2, hb2⟩
    have hs2 := hb2.size
    go_wp2_with fail
    refine (HS.out _ _ _ (row2.rdTo Ow.enc_len (by repeat' (first | (with_reducible exact Below.refl _ _) | (with_reducible refine Below.alloc ?_ ?_ _) | (with_reducible refine Below.setCell ?_ ?_ _) | (with_reducible refine Below.drew ?_) | (with_reducible refine Below.trans ?_ (Below.mono (by with_reducible assumption) ?_)) | omega | (simp; done) | (simp; omega)))) hx HSZ.out).mono ?_
    rintro e w3 ⟨rfl, hb3⟩
    have hs3 := hb3.size
    go_wp2_with fail
    refine (toOwnerS_cap A c xs _ (h.to (by repeat' (first | (with_reducible exact Below.refl _ _) | (with_reducible refine Below.alloc ?_ ?_ _) | (with_reducible refine Below.setCell ?_ ?_ _) | (with_reducible refine Below.drew ?_) | (with_reducible refine Below.trans ?_ (Below.mono (by with_reducible assumption) ?_)) | omega | (simp; done) | (simp; omega)))) hx).mono ?_
    rintro e w4 ⟨g4, rfl, hg4, row4, hb4⟩
    have hs4 := hb4.size
    go_wp2_with fail
    refine (HI.out _ _ _ (row4.rdTo Ow.enc_len (by repeat' (first | (with_reducible exact Below.refl _ _) | (with_reducible refine Below.alloc ?_ ?_ _) | (with_reducible refine Below.setCell ?_ ?_ _) | (with_reducible refine Below.drew ?_) | (with_reducible refine Below.trans ?_ (Below.mono (by with_reducible assumption) ?_)) | omega | (simp; done) | (simp; omega)))) hx (Nat.le_refl _) (Lib.hid (ht.out.to (by repeat' (first | (with_reducible exact Below.refl _ _) | (with_reducible refine Below.alloc ?_ ?_ _) | (with_reducible refine Below.setCell ?_ ?_ _) | (with_reducible refine Below.drew ?_) | (with_reducible refine Below.trans ?_ (Below.mono (by with_reducible assumption) ?_)) | omega | (simp; done) | (simp; omega))))) HSZ.out).mono ?_
    rintro e w5 ⟨rfl, hb5⟩
    have hs5 := hb5.size
    go_wp2_with fail
    refine (toOwnerS_cap A c xs _ (h.to (by repeat' (first | (with_reducible exact Below.refl _ _) | (with_reducible refine Below.alloc ?_ ?_ _) | (with_reducible refine Below.setCell ?_ ?_ _) | (with_reducible refine Below.drew ?_) | (with_reducible refine Below.trans ?_ (Below.mono (by with_reducible assumption) ?_)) | omega | (simp; done) | (simp; omega)))) hx).mono ?_
    rintro e w6 ⟨g6, rfl, hg6, row6, hb6⟩
    have hs6 := hb6.size
    go_wp2_with fail
    refine (eqOwnerS_same _ _ _ _ xs _ (row4.rdTo Ow.enc_len (by repeat' (first | (with_reducible exact Below.refl _ _) | (with_reducible refine Below.alloc ?_ ?_ _) | (with_reducible refine Below.setCell ?_ ?_ _) | (with_reducible refine Below.drew ?_) | (with_reducible refine Below.trans ?_ (Below.mono (by with_reducible assumption) ?_)) | omega | (simp; done) | (simp; omega)))) (row6.rdTo Ow.enc_len (by repeat' (first | (with_reducible exact Below.refl _ _) | (with_reducible refine Below.alloc ?_ ?_ _) | (with_reducible refine Below.setCell ?_ ?_ _) | (with_reducible refine Below.drew ?_) | (with_reducible refine Below.trans ?_ (Below.mono (by with_reducible assumption) ?_)) | omega | (simp; done) | (simp; omega)))) hx).mono ?_
    rintro e w7 ⟨rfl, hb7⟩
    have hs7 := hb7.size
    go_wp2
    go_ret
    exact ⟨rfl, (by repeat' (first | (with_reducible exact Below.refl _ _) | (with_reducible refine Below.alloc ?_ ?_ _) | (with_reducible refine Below.setCell ?_ ?_ _) | (with_reducible refine Below.drew ?_) | (with_reducible refine Below.trans ?_ (Below.mono (by with_reducible assumption) ?_)) | omega | (simp; done) | (simp; omega)))⟩
theorem tab_row {l : List (String × DataW Unit)} {W : World} (hL : laidMetH Tryd.prog l W) (hp : (l.all fun x => x.2.handleName?.isNone) = true) (hm : ("internal/strconv.uint64pow10", Lib.tabData .u64 Lib.pow10Tab) ∈ l) : Hid (Tab W) :=
  Lib.hid (Tab.of (tab_mem (g := 2) (t := 136) (e := 92) (n := 20) (by kernel_rfl) (by kernel_rfl) (by kernel_rfl) (by kernel_rfl) (by kernel_rfl) (by kernel_rfl) (MakeChecks.laidMetH_plain _ _ _ hp ▸ hL) hm))
end Go.Proofs.YtimdnihadhbjpaaDoor
