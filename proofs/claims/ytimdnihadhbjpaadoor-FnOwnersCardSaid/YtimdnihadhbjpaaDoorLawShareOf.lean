/- Law: ShareOf (chapter 22). -/
import Derived.Test.YtimdnihadhbjpaaDoorAreS
set_option linter.unusedSimpArgs false
set_option linter.unusedVariables false
namespace Go.Proofs.YtimdnihadhbjpaaDoor
open Go.RowKit Go.Sort Go.Salt
attribute [local go_sem] cell_rg
def shB (xs : List Ow) (t : ByteArray) : Bool := arB xs && decide (0 ≤ owAtN xs t xs.length)
def shN (xs : List Ow) (t : ByteArray) : Int := if shB xs t = true then (el xs (owAtN xs t xs.length).toNat).n else 0
def shD (xs : List Ow) (t : ByteArray) : Int := if shB xs t = true then (el xs (owAtN xs t xs.length).toNat).d else 0
set_option maxHeartbeats 4000000 in
theorem sShareOf_any (A : Option Addr) (c : Nat) (xs : List Ow) (t : ByteArray) (w : World) (h : Rd w w.heap.size A 3 Ow.enc xs) (hx : xs.length ≤ 1048576) (hz : OwSz 1048576 xs) :
    Calls Tryd.prog 20 #[.slice A xs.length c, .string t] w fun e w' => e = .returned (.tuple #[.int .i64 (shN xs t), .int .i64 (shD xs t), .bool (shB xs t)]) ∧ Below w.heap.size w w' := by
  have HX := Lib.hid h
  have HZ := Lib.hid hz
  clear h hz
  obtain ⟨a, ha⟩ : ∃ a, owAtN xs t xs.length = a := ⟨_, rfl⟩
  have hge := owAtN_ge (xs := xs) (s := t) (k := xs.length)
  rw [ha] at hge
  have Hat := Lib.hid ha
  cases hg : arB xs
  · have Hg := Lib.hid hg
    have hB : shB xs t = false := by unfold shB; rw [hg]; rfl
    rw [shN, shD, hB]
    clear hB ha hg
    simp only [Bool.false_eq_true, if_false]
    go_enter Tryd.func20, Tryd.ntmps20
    go_wp2_with fail
    refine (l22Find_any A c xs t _ (HX.out.to (by repeat' (first | (with_reducible exact Below.refl _ _) | (with_reducible refine Below.alloc ?_ ?_ _) | (with_reducible refine Below.setCell ?_ ?_ _) | (with_reducible refine Below.drew ?_) | (with_reducible refine Below.trans ?_ (Below.mono (by with_reducible assumption) ?_)) | omega | (simp; done) | (simp; omega)))) hx).mono ?_
    rintro e w1 ⟨rfl, hb1⟩
    have hs1 := hb1.size
    rw [Hat.out]
    go_wp2_with fail
    refine (l22Good_any A c xs _ (HX.out.to (by repeat' (first | (with_reducible exact Below.refl _ _) | (with_reducible refine Below.alloc ?_ ?_ _) | (with_reducible refine Below.setCell ?_ ?_ _) | (with_reducible refine Below.drew ?_) | (with_reducible refine Below.trans ?_ (Below.mono (by with_reducible assumption) ?_)) | omega | (simp; done) | (simp; omega)))) hx HZ.out).mono ?_
    rintro e w2 ⟨rfl, hb2⟩
    have hs2 := hb2.size
    rw [Hg.out]
    go_wp2
    go_ret3
    exact ⟨rfl, (by repeat' (first | (with_reducible exact Below.refl _ _) | (with_reducible refine Below.alloc ?_ ?_ _) | (with_reducible refine Below.setCell ?_ ?_ _) | (with_reducible refine Below.drew ?_) | (with_reducible refine Below.trans ?_ (Below.mono (by with_reducible assumption) ?_)) | omega | (simp; done) | (simp; omega)))⟩
  · have Hg := Lib.hid hg
    by_cases h0 : a < 0
    · have hB : shB xs t = false := by unfold shB; rw [ha, decide_eq_false (show ¬ 0 ≤ a by omega), Bool.and_false]
      rw [shN, shD, hB]
      clear hB ha hg
      simp only [Bool.false_eq_true, if_false]
      go_enter Tryd.func20, Tryd.ntmps20
      go_wp2_with fail
      refine (l22Find_any A c xs t _ (HX.out.to (by repeat' (first | (with_reducible exact Below.refl _ _) | (with_reducible refine Below.alloc ?_ ?_ _) | (with_reducible refine Below.setCell ?_ ?_ _) | (with_reducible refine Below.drew ?_) | (with_reducible refine Below.trans ?_ (Below.mono (by with_reducible assumption) ?_)) | omega | (simp; done) | (simp; omega)))) hx).mono ?_
      rintro e w1 ⟨rfl, hb1⟩
      have hs1 := hb1.size
      rw [Hat.out]
      go_wp2_with fail
      refine (l22Good_any A c xs _ (HX.out.to (by repeat' (first | (with_reducible exact Below.refl _ _) | (with_reducible refine Below.alloc ?_ ?_ _) | (with_reducible refine Below.setCell ?_ ?_ _) | (with_reducible refine Below.drew ?_) | (with_reducible refine Below.trans ?_ (Below.mono (by with_reducible assumption) ?_)) | omega | (simp; done) | (simp; omega)))) hx HZ.out).mono ?_
      rintro e w2 ⟨rfl, hb2⟩
      have hs2 := hb2.size
      rw [Hg.out]
      go_wp2
      go_ret3
      exact ⟨rfl, (by repeat' (first | (with_reducible exact Below.refl _ _) | (with_reducible refine Below.alloc ?_ ?_ _) | (with_reducible refine Below.setCell ?_ ?_ _) | (with_reducible refine Below.drew ?_) | (with_reducible refine Below.trans ?_ (Below.mono (by with_reducible assumption) ?_)) | omega | (simp; done) | (simp; omega)))⟩
    · have hB : shB xs t = true := by unfold shB; rw [ha, hg, decide_eq_true (show 0 ≤ a by omega)]; rfl
      rw [shN, shD, hB, ha]
      clear hB ha hg
      simp only [if_true]
      obtain ⟨k, rfl⟩ : ∃ k : Nat, a = k := ⟨a.toNat, by omega⟩
      have hlt : k < xs.length := by omega
      have hI : (k : Int) < xs.length := by omega
      have hI0 : (0 : Int) ≤ k := by omega
      simp only [Int.toNat_natCast]
      go_enter Tryd.func20, Tryd.ntmps20
      go_wp2_with fail
      refine (l22Find_any A c xs t _ (HX.out.to (by repeat' (first | (with_reducible exact Below.refl _ _) | (with_reducible refine Below.alloc ?_ ?_ _) | (with_reducible refine Below.setCell ?_ ?_ _) | (with_reducible refine Below.drew ?_) | (with_reducible refine Below.trans ?_ (Below.mono (by with_reducible assumption) ?_)) | omega | (simp; done) | (simp; omega)))) hx).mono ?_
      rintro e w1 ⟨rfl, hb1⟩
      have hs1 := hb1.size
      rw [Hat.out]
      go_wp2_with fail
      refine (l22Good_any A c xs _ (HX.out.to (by repeat' (first | (with_reducible exact Below.refl _ _) | (with_reducible refine Below.alloc ?_ ?_ _) | (with_reducible refine Below.setCell ?_ ?_ _) | (with_reducible refine Below.drew ?_) | (with_reducible refine Below.trans ?_ (Below.mono (by with_reducible assumption) ?_)) | omega | (simp; done) | (simp; omega)))) hx HZ.out).mono ?_
      rintro e w2 ⟨rfl, hb2⟩
      have hs2 := hb2.size
      rw [Hg.out]
      obtain ⟨b, o, rfl, hB, c0, c1, c2⟩ := ow_cells (HX.out.below (show Below w.heap.size w w2 from (by repeat' (first | (with_reducible exact Below.refl _ _) | (with_reducible refine Below.alloc ?_ ?_ _) | (with_reducible refine Below.setCell ?_ ?_ _) | (with_reducible refine Below.drew ?_) | (with_reducible refine Below.trans ?_ (Below.mono (by with_reducible assumption) ?_)) | omega | (simp; done) | (simp; omega))))) hlt
      have hB1 : b < w2.heap.size := by omega
      go_wp2_with fail
      go_wp2_with fail
      refine wp_region_quiet_below (by kernel_rfl) (by kernel_rfl) ?_
      repeat (go_big_quiet_step (fail))
      (refine wpQuiet_nil ?_; intro w1 hwq; have hb1 := of_cls hwq; clear hwq)
      (have hs1 := hb1.size; (try simp at hs1); obtain ⟨hc1, hf1, hn1⟩ := bcell hb1; (try have hz1_w_0 : w.heap.size < w1.heap.size := by omega); (try have hz1_w_1 : w.heap.size + 1 < w1.heap.size := by omega); (try have hz1_w_2 : w.heap.size + 2 < w1.heap.size := by omega); (try have hz1_w_2b : w.heap.size + 1 + 1 < w1.heap.size := by omega))
      go_wp2_with fail
      go_ret3
      exact ⟨rfl, (by repeat' (first | (with_reducible exact Below.refl _ _) | (with_reducible refine Below.alloc ?_ ?_ _) | (with_reducible refine Below.setCell ?_ ?_ _) | (with_reducible refine Below.drew ?_) | (with_reducible refine Below.trans ?_ (Below.mono (by with_reducible assumption) ?_)) | omega | (simp; done) | (simp; omega)))⟩
set_option maxHeartbeats 4000000 in
theorem iShareOf_any (A : Option Addr) (c : Nat) (xs : List Ow) (t : ByteArray) (w : World) (h : Rd w w.heap.size A 3 Ow.enc xs) (hx : xs.length ≤ 1048576) (hc : xs.length ≤ c) (hz : OwSz 1048576 xs) :
    Calls Tryd.prog 21 #[.slice A xs.length c, .string t] w fun e w' => e = .returned (.tuple #[.int .i64 (shN xs t), .int .i64 (shD xs t), .bool (shB xs t)]) ∧ Below w.heap.size w w' := by
  have HX := Lib.hid h
  have HZ := Lib.hid hz
  clear h hz
  obtain ⟨a, ha⟩ : ∃ a, owAtN xs t xs.length = a := ⟨_, rfl⟩
  have hge := owAtN_ge (xs := xs) (s := t) (k := xs.length)
  rw [ha] at hge
  have Hat := Lib.hid ha
  cases hg : arB xs
  · have Hg := Lib.hid hg
    have hB : shB xs t = false := by unfold shB; rw [hg]; rfl
    rw [shN, shD, hB]
    clear hB ha hg
    simp only [Bool.false_eq_true, if_false]
    go_enter Tryd.func21, Tryd.ntmps21
    go_wp2_with fail
    refine (ownerAt_any A c xs.length xs t _ (HX.out.to (by repeat' (first | (with_reducible exact Below.refl _ _) | (with_reducible refine Below.alloc ?_ ?_ _) | (with_reducible refine Below.setCell ?_ ?_ _) | (with_reducible refine Below.drew ?_) | (with_reducible refine Below.trans ?_ (Below.mono (by with_reducible assumption) ?_)) | omega | (simp; done) | (simp; omega)))) hx rfl).mono ?_
    rintro e w1 ⟨rfl, hb1⟩
    have hs1 := hb1.size
    rw [Hat.out]
    go_wp2_with fail
    refine (iAreOwners_any A c xs _ (HX.out.to (by repeat' (first | (with_reducible exact Below.refl _ _) | (with_reducible refine Below.alloc ?_ ?_ _) | (with_reducible refine Below.setCell ?_ ?_ _) | (with_reducible refine Below.drew ?_) | (with_reducible refine Below.trans ?_ (Below.mono (by with_reducible assumption) ?_)) | omega | (simp; done) | (simp; omega)))) hx hc HZ.out).mono ?_
    rintro e w2 ⟨rfl, hb2⟩
    have hs2 := hb2.size
    rw [Hg.out]
    go_wp2
    go_ret3
    exact ⟨rfl, (by repeat' (first | (with_reducible exact Below.refl _ _) | (with_reducible refine Below.alloc ?_ ?_ _) | (with_reducible refine Below.setCell ?_ ?_ _) | (with_reducible refine Below.drew ?_) | (with_reducible refine Below.trans ?_ (Below.mono (by with_reducible assumption) ?_)) | omega | (simp; done) | (simp; omega)))⟩
  · have Hg := Lib.hid hg
    by_cases h0 : a < 0
    · have hB : shB xs t = false := by unfold shB; rw [ha, decide_eq_false (show ¬ 0 ≤ a by omega), Bool.and_false]
      rw [shN, shD, hB]
      clear hB ha hg
      simp only [Bool.false_eq_true, if_false]
      go_enter Tryd.func21, Tryd.ntmps21
      go_wp2_with fail
      refine (ownerAt_any A c xs.length xs t _ (HX.out.to (by repeat' (first | (with_reducible exact Below.refl _ _) | (with_reducible refine Below.alloc ?_ ?_ _) | (with_reducible refine Below.setCell ?_ ?_ _) | (with_reducible refine Below.drew ?_) | (with_reducible refine Below.trans ?_ (Below.mono (by with_reducible assumption) ?_)) | omega | (simp; done) | (simp; omega)))) hx rfl).mono ?_
      rintro e w1 ⟨rfl, hb1⟩
      have hs1 := hb1.size
      rw [Hat.out]
      go_wp2_with fail
      refine (iAreOwners_any A c xs _ (HX.out.to (by repeat' (first | (with_reducible exact Below.refl _ _) | (with_reducible refine Below.alloc ?_ ?_ _) | (with_reducible refine Below.setCell ?_ ?_ _) | (with_reducible refine Below.drew ?_) | (with_reducible refine Below.trans ?_ (Below.mono (by with_reducible assumption) ?_)) | omega | (simp; done) | (simp; omega)))) hx hc HZ.out).mono ?_
      rintro e w2 ⟨rfl, hb2⟩
      have hs2 := hb2.size
      rw [Hg.out]
      go_wp2
      go_ret3
      exact ⟨rfl, (by repeat' (first | (with_reducible exact Below.refl _ _) | (with_reducible refine Below.alloc ?_ ?_ _) | (with_reducible refine Below.setCell ?_ ?_ _) | (with_reducible refine Below.drew ?_) | (with_reducible refine Below.trans ?_ (Below.mono (by with_reducible assumption) ?_)) | omega | (simp; done) | (simp; omega)))⟩
    · have hB : shB xs t = true := by unfold shB; rw [ha, hg, decide_eq_true (show 0 ≤ a by omega)]; rfl
      rw [shN, shD, hB, ha]
      clear hB ha hg
      simp only [if_true]
      obtain ⟨k, rfl⟩ : ∃ k : Nat, a = k := ⟨a.toNat, by omega⟩
      have hlt : k < xs.length := by omega
      have hI : (k : Int) < xs.length := by omega
      have hI0 : (0 : Int) ≤ k := by omega
      simp only [Int.toNat_natCast]
      go_enter Tryd.func21, Tryd.ntmps21
      go_wp2_with fail
      refine (ownerAt_any A c xs.length xs t _ (HX.out.to (by repeat' (first | (with_reducible exact Below.refl _ _) | (with_reducible refine Below.alloc ?_ ?_ _) | (with_reducible refine Below.setCell ?_ ?_ _) | (with_reducible refine Below.drew ?_) | (with_reducible refine Below.trans ?_ (Below.mono (by with_reducible assumption) ?_)) | omega | (simp; done) | (simp; omega)))) hx rfl).mono ?_
      rintro e w1 ⟨rfl, hb1⟩
      have hs1 := hb1.size
      rw [Hat.out]
      go_wp2_with fail
      refine (iAreOwners_any A c xs _ (HX.out.to (by repeat' (first | (with_reducible exact Below.refl _ _) | (with_reducible refine Below.alloc ?_ ?_ _) | (with_reducible refine Below.setCell ?_ ?_ _) | (with_reducible refine Below.drew ?_) | (with_reducible refine Below.trans ?_ (Below.mono (by with_reducible assumption) ?_)) | omega | (simp; done) | (simp; omega)))) hx hc HZ.out).mono ?_
      rintro e w2 ⟨rfl, hb2⟩
      have hs2 := hb2.size
      rw [Hg.out]
      obtain ⟨b, o, rfl, hB, c0, c1, c2⟩ := ow_cells (HX.out.below (show Below w.heap.size w w2 from (by repeat' (first | (with_reducible exact Below.refl _ _) | (with_reducible refine Below.alloc ?_ ?_ _) | (with_reducible refine Below.setCell ?_ ?_ _) | (with_reducible refine Below.drew ?_) | (with_reducible refine Below.trans ?_ (Below.mono (by with_reducible assumption) ?_)) | omega | (simp; done) | (simp; omega))))) hlt
      have hB1 : b < w2.heap.size := by omega
      go_wp2_with fail
      go_wp2_with fail
      refine wp_region_quiet_below (by kernel_rfl) (by kernel_rfl) ?_
      repeat (go_big_quiet_step (fail))
      (refine wpQuiet_nil ?_; intro w1 hwq; have hb1 := of_cls hwq; clear hwq)
      (have hs1 := hb1.size; (try simp at hs1); obtain ⟨hc1, hf1, hn1⟩ := bcell hb1; (try have hz1_w_0 : w.heap.size < w1.heap.size := by omega); (try have hz1_w_1 : w.heap.size + 1 < w1.heap.size := by omega); (try have hz1_w_2 : w.heap.size + 2 < w1.heap.size := by omega); (try have hz1_w_2b : w.heap.size + 1 + 1 < w1.heap.size := by omega))
      go_wp2_with fail
      go_ret3
      exact ⟨rfl, (by repeat' (first | (with_reducible exact Below.refl _ _) | (with_reducible refine Below.alloc ?_ ?_ _) | (with_reducible refine Below.setCell ?_ ?_ _) | (with_reducible refine Below.drew ?_) | (with_reducible refine Below.trans ?_ (Below.mono (by with_reducible assumption) ?_)) | omega | (simp; done) | (simp; omega)))⟩
set_option maxRecDepth 10000 in
set_option maxHeartbeats 8000000 in
theorem FnExactShareOf_law (A : Option Addr) (c : Nat) (xs : List Ow) (t : ByteArray) (w : World) (h : Rd w w.heap.size A 3 Ow.enc xs) (hm : xs.length ≤ maxLen) (hz : OwSz maxLen xs) (hs_t : t.size ≤ maxLen) :
    Calls Tryd.prog 4 #[.slice A xs.length c, .string t] w fun e w' => e = .returned (.bool true) ∧ Below w.heap.size w w' := by
  have HZ := Lib.hid hz
  clear hz
  have hsz_t : t.size ≤ 9223372036854775807 := hs_t
  by_cases hb_t : 1048576 < t.size
  · have hbi : (1048576 : Int) < t.size := by omega
    go_enter Tryd.func4, Tryd.ntmps4
    go_wp2
    go_ret
    exact ⟨rfl, (by repeat' (first | (with_reducible exact Below.refl _ _) | (with_reducible refine Below.alloc ?_ ?_ _) | (with_reducible refine Below.setCell ?_ ?_ _) | (with_reducible refine Below.drew ?_) | (with_reducible refine Below.trans ?_ (Below.mono (by with_reducible assumption) ?_)) | omega | (simp; done) | (simp; omega)))⟩
  have hbi_t : ¬ (1048576 : Int) < t.size := by omega
  have hI := fun (A : Option Addr) (c : Nat) (w : World) (h : Rd w w.heap.size A 3 Ow.enc xs) (hx : xs.length ≤ 1048576) (hc : xs.length ≤ c) (hz : OwSz 1048576 xs) => iShareOf_any A c xs t w h hx hc hz
  have hS := fun (A : Option Addr) (c : Nat) (w : World) (h : Rd w w.heap.size A 3 Ow.enc xs) (hx : xs.length ≤ 1048576) (hz : OwSz 1048576 xs) => sShareOf_any A c xs t w h hx hz
  obtain ⟨r0, hr0⟩ : ∃ r, shN xs t = r := ⟨_, rfl⟩
  obtain ⟨r1, hr1⟩ : ∃ r, shD xs t = r := ⟨_, rfl⟩
  obtain ⟨r2, hr2⟩ : ∃ r, shB xs t = r := ⟨_, rfl⟩
  rw [hr0, hr1, hr2] at hI hS
  have HI := Lib.hid hI
  have HS := Lib.hid hS
  clear hI hS hr0 hr1 hr2
  go_enter Tryd.func4, Tryd.ntmps4
  go_wp2_with fail
  refine (szOwnerS_any A c xs _ (h.to (by repeat' (first | (with_reducible exact Below.refl _ _) | (with_reducible refine Below.alloc ?_ ?_ _) | (with_reducible refine Below.setCell ?_ ?_ _) | (with_reducible refine Below.drew ?_) | (with_reducible refine Below.trans ?_ (Below.mono (by with_reducible assumption) ?_)) | omega | (simp; done) | (simp; omega)))) hm HZ.out).mono ?_
  rintro e w1 ⟨⟨z, rfl, hzz⟩, hb1⟩
  have hs1 := hb1.size
  rcases hzz with rfl | ⟨hz0, hx, hsz⟩
  · go_wp2
    go_ret
    exact ⟨rfl, (by repeat' (first | (with_reducible exact Below.refl _ _) | (with_reducible refine Below.alloc ?_ ?_ _) | (with_reducible refine Below.setCell ?_ ?_ _) | (with_reducible refine Below.drew ?_) | (with_reducible refine Below.trans ?_ (Below.mono (by with_reducible assumption) ?_)) | omega | (simp; done) | (simp; omega)))⟩
  · have hz1 : ¬ z < 0 := by omega
    have HSZ := Lib.hid hsz
    clear hsz HZ
    go_wp2_with fail
    refine (toOwnerS_cap A c xs _ (h.to (by repeat' (first | (with_reducible exact Below.refl _ _) | (with_reducible refine Below.alloc ?_ ?_ _) | (with_reducible refine Below.setCell ?_ ?_ _) | (with_reducible refine Below.drew ?_) | (with_reducible refine Below.trans ?_ (Below.mono (by with_reducible assumption) ?_)) | omega | (simp; done) | (simp; omega)))) hx).mono ?_
    rintro e w2 ⟨g2, rfl, hg2, row2, hb2⟩
    have hs2 := hb2.size
    go_wp2_with fail
    refine (HS.out _ _ _ (row2.rdTo Ow.enc_len (by repeat' (first | (with_reducible exact Below.refl _ _) | (with_reducible refine Below.alloc ?_ ?_ _) | (with_reducible refine Below.setCell ?_ ?_ _) | (with_reducible refine Below.drew ?_) | (with_reducible refine Below.trans ?_ (Below.mono (by with_reducible assumption) ?_)) | omega | (simp; done) | (simp; omega)))) hx HSZ.out).mono ?_
    rintro e w3 ⟨rfl, hb3⟩
    have hs3 := hb3.size
    go_wp2_with fail
    refine (toOwnerS_cap A c xs _ (h.to (by repeat' (first | (with_reducible exact Below.refl _ _) | (with_reducible refine Below.alloc ?_ ?_ _) | (with_reducible refine Below.setCell ?_ ?_ _) | (with_reducible refine Below.drew ?_) | (with_reducible refine Below.trans ?_ (Below.mono (by with_reducible assumption) ?_)) | omega | (simp; done) | (simp; omega)))) hx).mono ?_
    rintro e w4 ⟨g4, rfl, hg4, row4, hb4⟩
    have hs4 := hb4.size
    go_wp2_with fail
    refine (HI.out _ _ _ (row4.rdTo Ow.enc_len (by repeat' (first | (with_reducible exact Below.refl _ _) | (with_reducible refine Below.alloc ?_ ?_ _) | (with_reducible refine Below.setCell ?_ ?_ _) | (with_reducible refine Below.drew ?_) | (with_reducible refine Below.trans ?_ (Below.mono (by with_reducible assumption) ?_)) | omega | (simp; done) | (simp; omega)))) hx (Nat.le_refl _) HSZ.out).mono ?_
    rintro e w5 ⟨rfl, hb5⟩
    have hs5 := hb5.size
    go_wp2_with fail
    refine (toOwnerS_cap A c xs _ (h.to (by repeat' (first | (with_reducible exact Below.refl _ _) | (with_reducible refine Below.alloc ?_ ?_ _) | (with_reducible refine Below.setCell ?_ ?_ _) | (with_reducible refine Below.drew ?_) | (with_reducible refine Below.trans ?_ (Below.mono (by with_reducible assumption) ?_)) | omega | (simp; done) | (simp; omega)))) hx).mono ?_
    rintro e w6 ⟨g6, rfl, hg6, row6, hb6⟩
    have hs6 := hb6.size
    go_wp2_with fail
    refine (eqOwnerS_same _ _ _ _ xs _ (row4.rdTo Ow.enc_len (by repeat' (first | (with_reducible exact Below.refl _ _) | (with_reducible refine Below.alloc ?_ ?_ _) | (with_reducible refine Below.setCell ?_ ?_ _) | (with_reducible refine Below.drew ?_) | (with_reducible refine Below.trans ?_ (Below.mono (by with_reducible assumption) ?_)) | omega | (simp; done) | (simp; omega)))) (row6.rdTo Ow.enc_len (by repeat' (first | (with_reducible exact Below.refl _ _) | (with_reducible refine Below.alloc ?_ ?_ _) | (with_reducible refine Below.setCell ?_ ?_ _) | (with_reducible refine Below.drew ?_) | (with_reducible refine Below.trans ?_ (Below.mono (by with_reducible assumption) ?_)) | omega | (simp; done) | (simp; omega)))) hx).mono ?_
    rintro e w7 ⟨rfl, hb7⟩
    have hs7 := hb7.size
    go_wp2
    go_ret
    exact ⟨rfl, (by repeat' (first | (with_reducible exact Below.refl _ _) | (with_reducible refine Below.alloc ?_ ?_ _) | (with_reducible refine Below.setCell ?_ ?_ _) | (with_reducible refine Below.drew ?_) | (with_reducible refine Below.trans ?_ (Below.mono (by with_reducible assumption) ?_)) | omega | (simp; done) | (simp; omega)))⟩
end Go.Proofs.YtimdnihadhbjpaaDoor
