/- Law: LargestOwner (chapter 22). -/
import Derived.Test.YtimdnihadhbjpaaDoorAreS
set_option linter.unusedSimpArgs false
set_option linter.unusedVariables false
namespace Go.Proofs.YtimdnihadhbjpaaDoor
open Go.RowKit Go.Sort Go.Salt
attribute [local go_sem] cell_rg
def lgO (xs : List Ow) : Nat → Nat
  | 0 => 0
  | k + 1 => if (el xs (lgO xs k)).n * (el xs k).d < (el xs k).n * (el xs (lgO xs k)).d then k else lgO xs k
theorem lgO_zero (xs : List Ow) : lgO xs 0 = 0 := rfl
theorem lgO_one (xs : List Ow) : lgO xs 1 = 0 := by simp [lgO]
def lgS (xs : List Ow) : ByteArray := if arB xs = true then (el xs (lgO xs xs.length)).s else ⟨#[]⟩
theorem arB_bd {xs : List Ow} (h : arB xs = true) : OwBd xs := by
  unfold arB at h
  rw [Bool.and_eq_true, Bool.and_eq_true] at h
  exact gdB_bd h.2.1
theorem arB_len {xs : List Ow} (h : arB xs = true) : 1 ≤ xs.length ∧ xs.length ≤ 8 := by
  unfold arB at h
  rw [Bool.and_eq_true, inB_iff] at h
  omega
theorem mul_bd {a b : Int} (ha : 1 ≤ a ∧ a ≤ 1000) (hb : 1 ≤ b ∧ b ≤ 1000) : 1 ≤ a * b ∧ a * b ≤ 1000000 := by
  have h1 := Int.mul_le_mul ha.2 hb.2 (by omega) (by omega)
  have h2 := Int.mul_le_mul ha.1 hb.1 (by omega) (by omega)
  omega
set_option maxRecDepth 10000 in
set_option maxHeartbeats 8000000 in
theorem sLargestOwner_any (A : Option Addr) (c : Nat) (xs : List Ow) (w : World) (h : Rd w w.heap.size A 3 Ow.enc xs) (hx : xs.length ≤ 1048576) (hz : OwSz 1048576 xs) :
    Calls Tryd.prog 22 #[.slice A xs.length c] w fun e w' => e = .returned (.tuple #[.string (lgS xs), .bool (arB xs)]) ∧ Below w.heap.size w w' := by
  have HX := Lib.hid h
  have HZ := Lib.hid hz
  clear h hz
  cases hg : arB xs
  · have Hg := Lib.hid hg
    rw [lgS, hg]
    clear hg
    simp only [Bool.false_eq_true, if_false]
    go_enter Tryd.func22, Tryd.ntmps22
    go_wp2_with fail
    refine (l22Good_any A c xs _ (HX.out.to (by repeat' (first | (with_reducible exact Below.refl _ _) | (with_reducible refine Below.alloc ?_ ?_ _) | (with_reducible refine Below.setCell ?_ ?_ _) | (with_reducible refine Below.drew ?_) | (with_reducible refine Below.trans ?_ (Below.mono (by with_reducible assumption) ?_)) | omega | (simp; done) | (simp; omega)))) hx HZ.out).mono ?_
    rintro e w1 ⟨rfl, hb1⟩
    have hs1 := hb1.size
    rw [Hg.out]
    go_wp2
    go_ret2
    exact ⟨rfl, (by repeat' (first | (with_reducible exact Below.refl _ _) | (with_reducible refine Below.alloc ?_ ?_ _) | (with_reducible refine Below.setCell ?_ ?_ _) | (with_reducible refine Below.drew ?_) | (with_reducible refine Below.trans ?_ (Below.mono (by with_reducible assumption) ?_)) | omega | (simp; done) | (simp; omega)))⟩
  · have Hg := Lib.hid hg
    have HBD := Lib.hid (arB_bd hg)
    have hl := arB_len hg
    rw [lgS, hg]
    clear hg
    simp only [if_true]
    go_enter Tryd.func22, Tryd.ntmps22
    go_wp2_with fail
    refine (l22Good_any A c xs _ (HX.out.to (by repeat' (first | (with_reducible exact Below.refl _ _) | (with_reducible refine Below.alloc ?_ ?_ _) | (with_reducible refine Below.setCell ?_ ?_ _) | (with_reducible refine Below.drew ?_) | (with_reducible refine Below.trans ?_ (Below.mono (by with_reducible assumption) ?_)) | omega | (simp; done) | (simp; omega)))) hx HZ.out).mono ?_
    rintro e w1 ⟨rfl, hb1⟩
    have hs1 := hb1.size
    rw [Hg.out]
    have HX1 := Lib.hid (HX.out.to hb1)
    obtain ⟨b, o, rfl, hB, c0, c1, c2⟩ := ow_cells HX1.out (i := 0) (by omega)
    simp only [Nat.zero_mul, Nat.add_zero] at c0 c1 c2
    have hJ : (0 : Int) < xs.length := by omega
    go_wp2_with fail
    go_loopw [5] (fun i wr => ∃ k : Nat, 1 ≤ k ∧ k ≤ xs.length ∧ i = .int .i64 k ∧ Hid (Row wr w1.heap.size 54 (el xs (lgO xs k)).enc) ∧ Below w1.heap.size w1 wr) (fun i _ => xs.length - (intOf i).toNat)
    case atStart => exact ⟨1, Nat.le_refl _, by omega, rfl, Lib.hid (by rw [lgO_one]; first | exact Row.new _ _ _ | exact (Row.new _ _ _).to (by repeat' (first | (with_reducible exact Below.refl _ _) | (with_reducible refine Below.alloc ?_ ?_ _) | (with_reducible refine Below.setCell ?_ ?_ _) | (with_reducible refine Below.drew ?_) | (with_reducible refine Below.trans ?_ (Below.mono (by with_reducible assumption) ?_)) | omega | (simp; done) | (simp; omega)))), (by repeat' (first | (with_reducible exact Below.refl _ _) | (with_reducible refine Below.alloc ?_ ?_ _) | (with_reducible refine Below.setCell ?_ ?_ _) | (with_reducible refine Below.drew ?_) | (with_reducible refine Below.trans ?_ (Below.mono (by with_reducible assumption) ?_)) | omega | (simp; done) | (simp; omega)))⟩
    case round =>
      clear c0 c1 c2
      obtain ⟨k, hk0, hk, rfl, hr, hb⟩ := hrel
      have hs := hb.size
      obtain ⟨x0, x1, x2⟩ := row3o (show Row wr w1.heap.size 54 [.string (el xs (lgO xs k)).s, .int .i64 (el xs (lgO xs k)).n, .int .i64 (el xs (lgO xs k)).d] from hr.out)
      have hbl := hr.out.lt
      have hfz := hr.out.frozen
      by_cases hlt : k < xs.length
      · obtain ⟨b', o', hadr, hB', c0, c1, c2⟩ := ow_cells (HX1.out.below hb) hlt
        obtain ⟨rfl, rfl⟩ : b = b' ∧ o = o' := by simpa using hadr
        have hB1 : b < wr.heap.size := by omega
        have hI : (k : Int) < xs.length := by omega
        have hI0 : (0 : Int) ≤ k := by omega
        have u1 := HBD.out k
        have u2 := HBD.out (lgO xs k)
        have q1 := mul_bd u1.1 u2.2
        have q2 := mul_bd u2.1 u1.2
        have hst := Lib.hid (@lgO.eq_2 xs k)
        obtain ⟨m, hm⟩ : ∃ m, lgO xs k = m := ⟨_, rfl⟩
        rw [hm] at hst x0 x1 x2 q1 q2 hr
        obtain ⟨p1, hp1⟩ : ∃ p, (el xs k).n * (el xs m).d = p := ⟨_, rfl⟩
        obtain ⟨p2, hp2⟩ : ∃ p, (el xs m).n * (el xs k).d = p := ⟨_, rfl⟩
        rw [hp1] at q1
        rw [hp2] at q2
        have v1 : wrap64 ((el xs k).n * (el xs m).d) = p1 := by rw [hp1]; unfold wrap64; omega
        have v2 : wrap64 ((el xs m).n * (el xs k).d) = p2 := by rw [hp2]; unfold wrap64; omega
        by_cases hc : p2 < p1
        · have hnx := Lib.hid (show lgO xs (k + 1) = k by rw [hst.out, if_pos (by rw [hp1, hp2]; exact hc)])
          clear hp1 hp2 u1 u2 hst
          go_wp2_with fail
          go_wp2_with fail
          refine wp_region_quiet_below (by kernel_rfl) (by kernel_rfl) ?_
          repeat (go_big_quiet_step (fail))
          (refine wpQuiet_nil ?_; intro w1 hwq; have hb1 := of_cls hwq; clear hwq)
          (have hs1 := hb1.size; (try simp at hs1); obtain ⟨hc1, hf1, hn1⟩ := bcell hb1; (try have hz1_w_0 : w.heap.size < w1.heap.size := by omega); (try have hz1_w_1 : w.heap.size + 1 < w1.heap.size := by omega); (try have hz1_w_2 : w.heap.size + 2 < w1.heap.size := by omega); (try have hz1_w_2b : w.heap.size + 1 + 1 < w1.heap.size := by omega))
          have hrn := Lib.hid (hr.out.to (show Below wr.heap.size wr _ by assumption))
          go_wp2_with fail
          go_roundw
          case rel => exact ⟨k + 1, by omega, by omega, by go_num, Lib.hid (by rw [hnx.out]; exact ((hrn.out.set (j := 0) (.string (el xs k).s)).set (j := 1) (.int .i64 (el xs k).n)).set (j := 2) (.int .i64 (el xs k).d)), (by repeat' (first | (with_reducible exact Below.refl _ _) | (with_reducible refine Below.alloc ?_ ?_ _) | (with_reducible refine Below.setCell ?_ ?_ _) | (with_reducible refine Below.drew ?_) | (with_reducible refine Below.trans ?_ (Below.mono (by with_reducible assumption) ?_)) | omega | (simp; done) | (simp; omega)))⟩
          case measure => simp [intOf] <;> omega
        · have hnx := Lib.hid (show lgO xs (k + 1) = m by rw [hst.out, if_neg (by rw [hp1, hp2]; exact hc)])
          clear hp1 hp2 u1 u2 hst
          go_wp2_with fail
          go_wp2_with fail
          refine wp_region_quiet_below (by kernel_rfl) (by kernel_rfl) ?_
          repeat (go_big_quiet_step (fail))
          (refine wpQuiet_nil ?_; intro w2 hwq; have hb2 := of_cls hwq; clear hwq)
          (have hs2 := hb2.size; (try simp at hs2); obtain ⟨hc2, hf2, hn2⟩ := bcell hb2; (try have hz2_w_0 : w.heap.size < w2.heap.size := by omega); (try have hz2_w_1 : w.heap.size + 1 < w2.heap.size := by omega); (try have hz2_w_2 : w.heap.size + 2 < w2.heap.size := by omega); (try have hz2_w_2b : w.heap.size + 1 + 1 < w2.heap.size := by omega); (try have hz2_w1_0 : w1.heap.size < w2.heap.size := by omega); (try have hz2_w1_1 : w1.heap.size + 1 < w2.heap.size := by omega); (try have hz2_w1_2 : w1.heap.size + 2 < w2.heap.size := by omega); (try have hz2_w1_2b : w1.heap.size + 1 + 1 < w2.heap.size := by omega))
          go_wp2_with fail
          go_roundw
          case rel => exact ⟨k + 1, by omega, by omega, by go_num, Lib.hid (by rw [hnx.out]; exact hr.out.to (by repeat' (first | (with_reducible exact Below.refl _ _) | (with_reducible refine Below.alloc ?_ ?_ _) | (with_reducible refine Below.setCell ?_ ?_ _) | (with_reducible refine Below.drew ?_) | (with_reducible refine Below.trans ?_ (Below.mono (by with_reducible assumption) ?_)) | omega | (simp; done) | (simp; omega)))), (by repeat' (first | (with_reducible exact Below.refl _ _) | (with_reducible refine Below.alloc ?_ ?_ _) | (with_reducible refine Below.setCell ?_ ?_ _) | (with_reducible refine Below.drew ?_) | (with_reducible refine Below.trans ?_ (Below.mono (by with_reducible assumption) ?_)) | omega | (simp; done) | (simp; omega)))⟩
          case measure => simp [intOf] <;> omega
      · obtain rfl : k = xs.length := by omega
        have hI : ¬ ((xs.length : Nat) : Int) < xs.length := by omega
        go_wp2
        go_ret2
        exact ⟨rfl, hb1.trans (Below.mono (hb.trans (Below.mono (show Below wr.heap.size wr _ from (by repeat' (first | (with_reducible exact Below.refl _ _) | (with_reducible refine Below.alloc ?_ ?_ _) | (with_reducible refine Below.setCell ?_ ?_ _) | (with_reducible refine Below.drew ?_) | (with_reducible refine Below.trans ?_ (Below.mono (by with_reducible assumption) ?_)) | omega | (simp; done) | (simp; omega)))) hs)) hs1)⟩
set_option maxRecDepth 10000 in
set_option maxHeartbeats 8000000 in
theorem iLargestOwner_any (A : Option Addr) (c : Nat) (xs : List Ow) (w : World) (h : Rd w w.heap.size A 3 Ow.enc xs) (hx : xs.length ≤ 1048576) (hc : xs.length ≤ c) (hz : OwSz 1048576 xs) :
    Calls Tryd.prog 23 #[.slice A xs.length c] w fun e w' => e = .returned (.tuple #[.string (lgS xs), .bool (arB xs)]) ∧ Below w.heap.size w w' := by
  have HX := Lib.hid h
  have HZ := Lib.hid hz
  clear h hz
  cases hg : arB xs
  · have Hg := Lib.hid hg
    rw [lgS, hg]
    clear hg
    simp only [Bool.false_eq_true, if_false]
    go_enter Tryd.func23, Tryd.ntmps23
    go_wp2_with fail
    refine (iAreOwners_any A c xs _ (HX.out.to (by repeat' (first | (with_reducible exact Below.refl _ _) | (with_reducible refine Below.alloc ?_ ?_ _) | (with_reducible refine Below.setCell ?_ ?_ _) | (with_reducible refine Below.drew ?_) | (with_reducible refine Below.trans ?_ (Below.mono (by with_reducible assumption) ?_)) | omega | (simp; done) | (simp; omega)))) hx hc HZ.out).mono ?_
    rintro e w1 ⟨rfl, hb1⟩
    have hs1 := hb1.size
    rw [Hg.out]
    go_wp2
    go_ret2
    exact ⟨rfl, (by repeat' (first | (with_reducible exact Below.refl _ _) | (with_reducible refine Below.alloc ?_ ?_ _) | (with_reducible refine Below.setCell ?_ ?_ _) | (with_reducible refine Below.drew ?_) | (with_reducible refine Below.trans ?_ (Below.mono (by with_reducible assumption) ?_)) | omega | (simp; done) | (simp; omega)))⟩
  · have Hg := Lib.hid hg
    have HBD := Lib.hid (arB_bd hg)
    have hl := arB_len hg
    rw [lgS, hg]
    clear hg
    simp only [if_true]
    go_enter Tryd.func23, Tryd.ntmps23
    go_wp2_with fail
    refine (iAreOwners_any A c xs _ (HX.out.to (by repeat' (first | (with_reducible exact Below.refl _ _) | (with_reducible refine Below.alloc ?_ ?_ _) | (with_reducible refine Below.setCell ?_ ?_ _) | (with_reducible refine Below.drew ?_) | (with_reducible refine Below.trans ?_ (Below.mono (by with_reducible assumption) ?_)) | omega | (simp; done) | (simp; omega)))) hx hc HZ.out).mono ?_
    rintro e w1 ⟨rfl, hb1⟩
    have hs1 := hb1.size
    rw [Hg.out]
    have HX1 := Lib.hid (HX.out.to hb1)
    obtain ⟨b, o, rfl, hB, c0, c1, c2⟩ := ow_cells HX1.out (i := 0) (by omega)
    simp only [Nat.zero_mul, Nat.add_zero] at c0 c1 c2
    have hJ : (0 : Int) < xs.length := by omega
    go_wp2_with fail
    go_loopw [15] (fun i wr => ∃ k : Nat, 0 ≤ k ∧ k ≤ xs.length ∧ i = .int .i64 k ∧ Hid (Row wr w1.heap.size 54 (el xs (lgO xs k)).enc) ∧ Below w1.heap.size w1 wr) (fun i _ => xs.length - (intOf i).toNat)
    case atStart => exact ⟨0, Nat.le_refl _, by omega, rfl, Lib.hid (by rw [lgO_zero]; first | exact Row.new _ _ _ | exact (Row.new _ _ _).to (by repeat' (first | (with_reducible exact Below.refl _ _) | (with_reducible refine Below.alloc ?_ ?_ _) | (with_reducible refine Below.setCell ?_ ?_ _) | (with_reducible refine Below.drew ?_) | (with_reducible refine Below.trans ?_ (Below.mono (by with_reducible assumption) ?_)) | omega | (simp; done) | (simp; omega)))), (by repeat' (first | (with_reducible exact Below.refl _ _) | (with_reducible refine Below.alloc ?_ ?_ _) | (with_reducible refine Below.setCell ?_ ?_ _) | (with_reducible refine Below.drew ?_) | (with_reducible refine Below.trans ?_ (Below.mono (by with_reducible assumption) ?_)) | omega | (simp; done) | (simp; omega)))⟩
    case round =>
      clear c0 c1 c2
      obtain ⟨k, hk0, hk, rfl, hr, hb⟩ := hrel
      have hs := hb.size
      obtain ⟨x0, x1, x2⟩ := row3o (show Row wr w1.heap.size 54 [.string (el xs (lgO xs k)).s, .int .i64 (el xs (lgO xs k)).n, .int .i64 (el xs (lgO xs k)).d] from hr.out)
      have hbl := hr.out.lt
      have hfz := hr.out.frozen
      by_cases hlt : k < xs.length
      · obtain ⟨b', o', hadr, hB', c0, c1, c2⟩ := ow_cells (HX1.out.below hb) hlt
        obtain ⟨rfl, rfl⟩ : b = b' ∧ o = o' := by simpa using hadr
        have hB1 : b < wr.heap.size := by omega
        have hI : (k : Int) < xs.length := by omega
        have hI0 : (0 : Int) ≤ k := by omega
        have u1 := HBD.out k
        have u2 := HBD.out (lgO xs k)
        have q1 := mul_bd u1.1 u2.2
        have q2 := mul_bd u2.1 u1.2
        have hst := Lib.hid (@lgO.eq_2 xs k)
        obtain ⟨m, hm⟩ : ∃ m, lgO xs k = m := ⟨_, rfl⟩
        rw [hm] at hst x0 x1 x2 q1 q2 hr
        obtain ⟨p1, hp1⟩ : ∃ p, (el xs k).n * (el xs m).d = p := ⟨_, rfl⟩
        obtain ⟨p2, hp2⟩ : ∃ p, (el xs m).n * (el xs k).d = p := ⟨_, rfl⟩
        rw [hp1] at q1
        rw [hp2] at q2
        have v1 : wrap64 ((el xs k).n * (el xs m).d) = p1 := by rw [hp1]; unfold wrap64; omega
        have v2 : wrap64 ((el xs m).n * (el xs k).d) = p2 := by rw [hp2]; unfold wrap64; omega
        by_cases hc : p2 < p1
        · have hnx := Lib.hid (show lgO xs (k + 1) = k by rw [hst.out, if_pos (by rw [hp1, hp2]; exact hc)])
          clear hp1 hp2 u1 u2 hst
          go_wp2_with fail
          go_roundw
          case rel => exact ⟨k + 1, by omega, by omega, by go_num, Lib.hid (by rw [hnx.out]; exact (((hr.out.set (j := 0) (.string (el xs k).s)).set (j := 1) (.int .i64 (el xs k).n)).set (j := 2) (.int .i64 (el xs k).d)).to (by repeat' (first | (with_reducible exact Below.refl _ _) | (with_reducible refine Below.alloc ?_ ?_ _) | (with_reducible refine Below.setCell ?_ ?_ _) | (with_reducible refine Below.drew ?_) | (with_reducible refine Below.trans ?_ (Below.mono (by with_reducible assumption) ?_)) | omega | (simp; done) | (simp; omega)))), (by repeat' (first | (with_reducible exact Below.refl _ _) | (with_reducible refine Below.alloc ?_ ?_ _) | (with_reducible refine Below.setCell ?_ ?_ _) | (with_reducible refine Below.drew ?_) | (with_reducible refine Below.trans ?_ (Below.mono (by with_reducible assumption) ?_)) | omega | (simp; done) | (simp; omega)))⟩
          case measure => simp [intOf] <;> omega
        · have hnx := Lib.hid (show lgO xs (k + 1) = m by rw [hst.out, if_neg (by rw [hp1, hp2]; exact hc)])
          clear hp1 hp2 u1 u2 hst
          go_wp2_with fail
          go_roundw
          case rel => exact ⟨k + 1, by omega, by omega, by go_num, Lib.hid (by rw [hnx.out]; exact hr.out.to (by repeat' (first | (with_reducible exact Below.refl _ _) | (with_reducible refine Below.alloc ?_ ?_ _) | (with_reducible refine Below.setCell ?_ ?_ _) | (with_reducible refine Below.drew ?_) | (with_reducible refine Below.trans ?_ (Below.mono (by with_reducible assumption) ?_)) | omega | (simp; done) | (simp; omega)))), (by repeat' (first | (with_reducible exact Below.refl _ _) | (with_reducible refine Below.alloc ?_ ?_ _) | (with_reducible refine Below.setCell ?_ ?_ _) | (with_reducible refine Below.drew ?_) | (with_reducible refine Below.trans ?_ (Below.mono (by with_reducible assumption) ?_)) | omega | (simp; done) | (simp; omega)))⟩
          case measure => simp [intOf] <;> omega
      · obtain rfl : k = xs.length := by omega
        have hI : ¬ ((xs.length : Nat) : Int) < xs.length := by omega
        go_wp2
        go_ret2
        exact ⟨rfl, hb1.trans (Below.mono (hb.trans (Below.mono (show Below wr.heap.size wr _ from (by repeat' (first | (with_reducible exact Below.refl _ _) | (with_reducible refine Below.alloc ?_ ?_ _) | (with_reducible refine Below.setCell ?_ ?_ _) | (with_reducible refine Below.drew ?_) | (with_reducible refine Below.trans ?_ (Below.mono (by with_reducible assumption) ?_)) | omega | (simp; done) | (simp; omega)))) hs)) hs1)⟩
set_option maxRecDepth 10000 in
set_option maxHeartbeats 8000000 in
theorem FnExactLargestOwner_law (A : Option Addr) (c : Nat) (xs : List Ow)  (w : World) (h : Rd w w.heap.size A 3 Ow.enc xs) (hm : xs.length ≤ maxLen) (hz : OwSz maxLen xs) :
    Calls Tryd.prog 5 #[.slice A xs.length c] w fun e w' => e = .returned (.bool true) ∧ Below w.heap.size w w' := by
  have HZ := Lib.hid hz
  clear hz
  have hI := fun (A : Option Addr) (c : Nat) (w : World) (h : Rd w w.heap.size A 3 Ow.enc xs) (hx : xs.length ≤ 1048576) (hc : xs.length ≤ c) (hz : OwSz 1048576 xs) => iLargestOwner_any A c xs  w h hx hc hz
  have hS := fun (A : Option Addr) (c : Nat) (w : World) (h : Rd w w.heap.size A 3 Ow.enc xs) (hx : xs.length ≤ 1048576) (hz : OwSz 1048576 xs) => sLargestOwner_any A c xs  w h hx hz
  obtain ⟨r0, hr0⟩ : ∃ r, lgS xs = r := ⟨_, rfl⟩
  obtain ⟨r1, hr1⟩ : ∃ r, arB xs = r := ⟨_, rfl⟩
  rw [hr0, hr1] at hI hS
  have HI := Lib.hid hI
  have HS := Lib.hid hS
  clear hI hS hr0 hr1
  go_enter Tryd.func5, Tryd.ntmps5
  go_wp2_with fail
  refine (szOwnerS_any A c xs _ (h.to (by repeat' (first | (with_reducible exact Below.refl _ _) | (with_reducible refine Below.alloc ?_ ?_ _) | (with_reducible refine Below.setCell ?_ ?_ _) | (with_reducible refine Below.drew ?_) | (with_reducible refine Below.trans ?_ (Below.mono (by with_reducible assumption) ?_)) | omega | (simp; done) | (simp; omega)))) hm HZ.out).mono ?_
  rintro e w1 ⟨⟨z, rfl, hzz⟩, hb1⟩
  have hs1 := hb1.size
  rcases hzz with rfl | ⟨hz0, hx, hsz⟩
  · go_wp2
    go_ret
    exact ⟨rfl, (by repeat' (first | (with_reducible exact Below.refl _ _) | (with_reducible refine Below.alloc ?_ ?_ _) | (with_reducible refine Below.setCell ?_ ?_ _) | (with_reducible refine Below.drew ?_) | (with_reducible refine Below.trans ?_ (Below.mono (by with_reducible assumption) ?_)) | omega | (simp; done) | (simp; omega)))⟩
  · have hz1 : ¬ z < 0 := by omega
    have HSZ := Lib.hid hsz
    clear hsz HZ
    go_wp2_with fail
    refine (toOwnerS_cap A c xs _ (h.to (by repeat' (first | (with_reducible exact Below.refl _ _) | (with_reducible refine Below.alloc ?_ ?_ _) | (with_reducible refine Below.setCell ?_ ?_ _) | (with_reducible refine Below.drew ?_) | (with_reducible refine Below.trans ?_ (Below.mono (by with_reducible assumption) ?_)) | omega | (simp; done) | (simp; omega)))) hx).mono ?_
    rintro e w2 ⟨g2, rfl, hg2, row2, hb2⟩
    have hs2 := hb2.size
    go_wp2_with fail
    refine (HS.out _ _ _ (row2.rdTo Ow.enc_len (by repeat' (first | (with_reducible exact Below.refl _ _) | (with_reducible refine Below.alloc ?_ ?_ _) | (with_reducible refine Below.setCell ?_ ?_ _) | (with_reducible refine Below.drew ?_) | (with_reducible refine Below.trans ?_ (Below.mono (by with_reducible assumption) ?_)) | omega | (simp; done) | (simp; omega)))) hx HSZ.out).mono ?_
    rintro e w3 ⟨rfl, hb3⟩
    have hs3 := hb3.size
    go_wp2_with fail
    refine (toOwnerS_cap A c xs _ (h.to (by repeat' (first | (with_reducible exact Below.refl _ _) | (with_reducible refine Below.alloc ?_ ?_ _) | (with_reducible refine Below.setCell ?_ ?_ _) | (with_reducible refine Below.drew ?_) | (with_reducible refine Below.trans ?_ (Below.mono (by with_reducible assumption) ?_)) | omega | (simp; done) | (simp; omega)))) hx).mono ?_
    rintro e w4 ⟨g4, rfl, hg4, row4, hb4⟩
    have hs4 := hb4.size
    go_wp2_with fail
    refine (HI.out _ _ _ (row4.rdTo Ow.enc_len (by repeat' (first | (with_reducible exact Below.refl _ _) | (with_reducible refine Below.alloc ?_ ?_ _) | (with_reducible refine Below.setCell ?_ ?_ _) | (with_reducible refine Below.drew ?_) | (with_reducible refine Below.trans ?_ (Below.mono (by with_reducible assumption) ?_)) | omega | (simp; done) | (simp; omega)))) hx (Nat.le_refl _) HSZ.out).mono ?_
    rintro e w5 ⟨rfl, hb5⟩
    have hs5 := hb5.size
    go_wp2_with fail
    refine (toOwnerS_cap A c xs _ (h.to (by repeat' (first | (with_reducible exact Below.refl _ _) | (with_reducible refine Below.alloc ?_ ?_ _) | (with_reducible refine Below.setCell ?_ ?_ _) | (with_reducible refine Below.drew ?_) | (with_reducible refine Below.trans ?_ (Below.mono (by with_reducible assumption) ?_)) | omega | (simp; done) | (simp; omega)))) hx).mono ?_
    rintro e w6 ⟨g6, rfl, hg6, row6, hb6⟩
    have hs6 := hb6.size
    go_wp2_with fail
    refine (eqOwnerS_same _ _ _ _ xs _ (row4.rdTo Ow.enc_len (by repeat' (first | (with_reducible exact Below.refl _ _) | (with_reducible refine Below.alloc ?_ ?_ _) | (with_reducible refine Below.setCell ?_ ?_ _) | (with_reducible refine Below.drew ?_) | (with_reducible refine Below.trans ?_ (Below.mono (by with_reducible assumption) ?_)) | omega | (simp; done) | (simp; omega)))) (row6.rdTo Ow.enc_len (by repeat' (first | (with_reducible exact Below.refl _ _) | (with_reducible refine Below.alloc ?_ ?_ _) | (with_reducible refine Below.setCell ?_ ?_ _) | (with_reducible refine Below.drew ?_) | (with_reducible refine Below.trans ?_ (Below.mono (by with_reducible assumption) ?_)) | omega | (simp; done) | (simp; omega)))) hx).mono ?_
    rintro e w7 ⟨rfl, hb7⟩
    have hs7 := hb7.size
    go_wp2
    go_ret
    exact ⟨rfl, (by repeat' (first | (with_reducible exact Below.refl _ _) | (with_reducible refine Below.alloc ?_ ?_ _) | (with_reducible refine Below.setCell ?_ ?_ _) | (with_reducible refine Below.drew ?_) | (with_reducible refine Below.trans ?_ (Below.mono (by with_reducible assumption) ?_)) | omega | (simp; done) | (simp; omega)))⟩
end Go.Proofs.YtimdnihadhbjpaaDoor
