/- Law: LeftTons (chapter 22). -/
import Derived.Test.YtimdnihadhbjpaaDoorFloor
set_option linter.unusedSimpArgs false
set_option linter.unusedVariables false
namespace Go.Proofs.YtimdnihadhbjpaaDoor
open Go.RowKit Go.Sort Go.Salt
attribute [local go_sem] cell_rg
def ltnB (xs : List Ow) (crop : Int) : Bool := arB xs && inB crop 0 1000000
def ltnV (xs : List Ow) (crop : Int) : Int := if ltnB xs crop = true then lfN xs crop xs.length else 0
set_option maxHeartbeats 4000000 in
theorem sLeftTons_any (A : Option Addr) (c : Nat) (xs : List Ow) (crop : Int) (w : World) (h : Rd w w.heap.size A 3 Ow.enc xs) (hx : xs.length ≤ 1048576) (hz : OwSz 1048576 xs) :
    Calls Tryd.prog 26 #[.slice A xs.length c, .int .i64 crop] w fun e w' => e = .returned (.tuple #[.int .i64 (ltnV xs crop), .bool (ltnB xs crop)]) ∧ Below w.heap.size w w' := by
  have HX := Lib.hid h
  have HZ := Lib.hid hz
  clear h hz
  cases hg : arB xs
  · have Hg := Lib.hid hg
    rw [ltnV, ltnB, hg]
    clear hg
    simp only [Bool.false_and, Bool.false_eq_true, if_false]
    go_enter Tryd.func26, Tryd.ntmps26
    go_wp2_with fail
    refine (l22Good_any A c xs _ (HX.out.to (by repeat' (first | (with_reducible exact Below.refl _ _) | (with_reducible refine Below.alloc ?_ ?_ _) | (with_reducible refine Below.setCell ?_ ?_ _) | (with_reducible refine Below.drew ?_) | (with_reducible refine Below.trans ?_ (Below.mono (by with_reducible assumption) ?_)) | omega | (simp; done) | (simp; omega)))) hx HZ.out).mono ?_
    rintro e w1 ⟨rfl, hb1⟩
    have hs1 := hb1.size
    rw [Hg.out]
    go_wp2
    go_ret2
    exact ⟨rfl, (by repeat' (first | (with_reducible exact Below.refl _ _) | (with_reducible refine Below.alloc ?_ ?_ _) | (with_reducible refine Below.setCell ?_ ?_ _) | (with_reducible refine Below.drew ?_) | (with_reducible refine Below.trans ?_ (Below.mono (by with_reducible assumption) ?_)) | omega | (simp; done) | (simp; omega)))⟩
  · have Hg := Lib.hid hg
    have HBD := Lib.hid (arOK_bd hg)
    have hl := arOK_len hg
    cases hcb : inB crop 0 1000000
    · rw [ltnV, ltnB, hg, hcb]
      clear hg
      simp only [Bool.and_false, Bool.false_eq_true, if_false]
      go_enter Tryd.func26, Tryd.ntmps26
      go_wp2_with fail
      refine (l22Good_any A c xs _ (HX.out.to (by repeat' (first | (with_reducible exact Below.refl _ _) | (with_reducible refine Below.alloc ?_ ?_ _) | (with_reducible refine Below.setCell ?_ ?_ _) | (with_reducible refine Below.drew ?_) | (with_reducible refine Below.trans ?_ (Below.mono (by with_reducible assumption) ?_)) | omega | (simp; done) | (simp; omega)))) hx HZ.out).mono ?_
      rintro e w1 ⟨rfl, hb1⟩
      have hs1 := hb1.size
      rw [Hg.out]
      go_wp2_with fail
      (go_at_call 70; refine (l22Crop_any _ _).mono ?_; rintro e w1 ⟨rfl, rfl⟩)
      rw [hcb]
      go_wp2
      go_ret2
      exact ⟨rfl, (by repeat' (first | (with_reducible exact Below.refl _ _) | (with_reducible refine Below.alloc ?_ ?_ _) | (with_reducible refine Below.setCell ?_ ?_ _) | (with_reducible refine Below.drew ?_) | (with_reducible refine Below.trans ?_ (Below.mono (by with_reducible assumption) ?_)) | omega | (simp; done) | (simp; omega)))⟩
    · rw [ltnV, ltnB, hg, hcb]
      clear hg
      simp only [Bool.and_self, if_true]
      have hcr := inB_iff.1 hcb
      go_enter Tryd.func26, Tryd.ntmps26
      go_wp2_with fail
      refine (l22Good_any A c xs _ (HX.out.to (by repeat' (first | (with_reducible exact Below.refl _ _) | (with_reducible refine Below.alloc ?_ ?_ _) | (with_reducible refine Below.setCell ?_ ?_ _) | (with_reducible refine Below.drew ?_) | (with_reducible refine Below.trans ?_ (Below.mono (by with_reducible assumption) ?_)) | omega | (simp; done) | (simp; omega)))) hx HZ.out).mono ?_
      rintro e w1 ⟨rfl, hb1⟩
      have hs1 := hb1.size
      rw [Hg.out]
      go_wp2_with fail
      (go_at_call 70; refine (l22Crop_any _ _).mono ?_; rintro e w1 ⟨rfl, rfl⟩)
      rw [hcb]
      go_wp2_with fail
      refine (l22Floors_any A c xs crop _ (HX.out.to (by repeat' (first | (with_reducible exact Below.refl _ _) | (with_reducible refine Below.alloc ?_ ?_ _) | (with_reducible refine Below.setCell ?_ ?_ _) | (with_reducible refine Below.drew ?_) | (with_reducible refine Below.trans ?_ (Below.mono (by with_reducible assumption) ?_)) | omega | (simp; done) | (simp; omega)))) (by omega) HBD.out hcr).mono ?_
      rintro e w3 ⟨A3, c3, rfl, own3, hb3⟩
      have hs3 := hb3.size
      go_wp2
      go_ret2
      exact ⟨rfl, (by repeat' (first | (with_reducible exact Below.refl _ _) | (with_reducible refine Below.alloc ?_ ?_ _) | (with_reducible refine Below.setCell ?_ ?_ _) | (with_reducible refine Below.drew ?_) | (with_reducible refine Below.trans ?_ (Below.mono (by with_reducible assumption) ?_)) | omega | (simp; done) | (simp; omega)))⟩
set_option maxHeartbeats 4000000 in
theorem iLeftTons_any (A : Option Addr) (c : Nat) (xs : List Ow) (crop : Int) (w : World) (h : Rd w w.heap.size A 3 Ow.enc xs) (hx : xs.length ≤ 1048576) (hc : xs.length ≤ c) (hz : OwSz 1048576 xs) :
    Calls Tryd.prog 27 #[.slice A xs.length c, .int .i64 crop] w fun e w' => e = .returned (.tuple #[.int .i64 (ltnV xs crop), .bool (ltnB xs crop)]) ∧ Below w.heap.size w w' := by
  have HX := Lib.hid h
  have HZ := Lib.hid hz
  clear h hz
  cases hg : arB xs
  · have Hg := Lib.hid hg
    rw [ltnV, ltnB, hg]
    clear hg
    simp only [Bool.false_and, Bool.false_eq_true, if_false]
    go_enter Tryd.func27, Tryd.ntmps27
    go_wp2_with fail
    refine (iAreOwners_any A c xs _ (HX.out.to (by repeat' (first | (with_reducible exact Below.refl _ _) | (with_reducible refine Below.alloc ?_ ?_ _) | (with_reducible refine Below.setCell ?_ ?_ _) | (with_reducible refine Below.drew ?_) | (with_reducible refine Below.trans ?_ (Below.mono (by with_reducible assumption) ?_)) | omega | (simp; done) | (simp; omega)))) hx hc HZ.out).mono ?_
    rintro e w1 ⟨rfl, hb1⟩
    have hs1 := hb1.size
    rw [Hg.out]
    go_wp2
    go_ret2
    exact ⟨rfl, (by repeat' (first | (with_reducible exact Below.refl _ _) | (with_reducible refine Below.alloc ?_ ?_ _) | (with_reducible refine Below.setCell ?_ ?_ _) | (with_reducible refine Below.drew ?_) | (with_reducible refine Below.trans ?_ (Below.mono (by with_reducible assumption) ?_)) | omega | (simp; done) | (simp; omega)))⟩
  · have Hg := Lib.hid hg
    have HBD := Lib.hid (arOK_bd hg)
    have hl := arOK_len hg
    cases hcb : inB crop 0 1000000
    · rw [ltnV, ltnB, hg, hcb]
      clear hg
      simp only [Bool.and_false, Bool.false_eq_true, if_false]
      go_enter Tryd.func27, Tryd.ntmps27
      go_wp2_with fail
      refine (iAreOwners_any A c xs _ (HX.out.to (by repeat' (first | (with_reducible exact Below.refl _ _) | (with_reducible refine Below.alloc ?_ ?_ _) | (with_reducible refine Below.setCell ?_ ?_ _) | (with_reducible refine Below.drew ?_) | (with_reducible refine Below.trans ?_ (Below.mono (by with_reducible assumption) ?_)) | omega | (simp; done) | (simp; omega)))) hx hc HZ.out).mono ?_
      rintro e w1 ⟨rfl, hb1⟩
      have hs1 := hb1.size
      rw [Hg.out]
      go_wp2_with fail
      (go_at_call 72; refine (isCrop_any _ _).mono ?_; rintro e w1 ⟨rfl, rfl⟩)
      rw [hcb]
      go_wp2
      go_ret2
      exact ⟨rfl, (by repeat' (first | (with_reducible exact Below.refl _ _) | (with_reducible refine Below.alloc ?_ ?_ _) | (with_reducible refine Below.setCell ?_ ?_ _) | (with_reducible refine Below.drew ?_) | (with_reducible refine Below.trans ?_ (Below.mono (by with_reducible assumption) ?_)) | omega | (simp; done) | (simp; omega)))⟩
    · rw [ltnV, ltnB, hg, hcb]
      clear hg
      simp only [Bool.and_self, if_true]
      have hcr := inB_iff.1 hcb
      go_enter Tryd.func27, Tryd.ntmps27
      go_wp2_with fail
      refine (iAreOwners_any A c xs _ (HX.out.to (by repeat' (first | (with_reducible exact Below.refl _ _) | (with_reducible refine Below.alloc ?_ ?_ _) | (with_reducible refine Below.setCell ?_ ?_ _) | (with_reducible refine Below.drew ?_) | (with_reducible refine Below.trans ?_ (Below.mono (by with_reducible assumption) ?_)) | omega | (simp; done) | (simp; omega)))) hx hc HZ.out).mono ?_
      rintro e w1 ⟨rfl, hb1⟩
      have hs1 := hb1.size
      rw [Hg.out]
      go_wp2_with fail
      (go_at_call 72; refine (isCrop_any _ _).mono ?_; rintro e w1 ⟨rfl, rfl⟩)
      rw [hcb]
      go_wp2_with fail
      refine (leftTons_any A c xs crop _ (HX.out.to (by repeat' (first | (with_reducible exact Below.refl _ _) | (with_reducible refine Below.alloc ?_ ?_ _) | (with_reducible refine Below.setCell ?_ ?_ _) | (with_reducible refine Below.drew ?_) | (with_reducible refine Below.trans ?_ (Below.mono (by with_reducible assumption) ?_)) | omega | (simp; done) | (simp; omega)))) (by omega) HBD.out hcr).mono ?_
      rintro e w3 ⟨rfl, hb3⟩
      have hs3 := hb3.size
      go_wp2
      go_ret2
      exact ⟨rfl, (by repeat' (first | (with_reducible exact Below.refl _ _) | (with_reducible refine Below.alloc ?_ ?_ _) | (with_reducible refine Below.setCell ?_ ?_ _) | (with_reducible refine Below.drew ?_) | (with_reducible refine Below.trans ?_ (Below.mono (by with_reducible assumption) ?_)) | omega | (simp; done) | (simp; omega)))⟩
set_option maxRecDepth 10000 in
set_option maxHeartbeats 8000000 in
theorem FnExactLeftTons_law (A : Option Addr) (c : Nat) (xs : List Ow) (crop : Int) (w : World) (h : Rd w w.heap.size A 3 Ow.enc xs) (hm : xs.length ≤ maxLen) (hz : OwSz maxLen xs) :
    Calls Tryd.prog 7 #[.slice A xs.length c, .int .i64 crop] w fun e w' => e = .returned (.bool true) ∧ Below w.heap.size w w' := by
  have HZ := Lib.hid hz
  clear hz
  have hI := fun (A : Option Addr) (c : Nat) (w : World) (h : Rd w w.heap.size A 3 Ow.enc xs) (hx : xs.length ≤ 1048576) (hc : xs.length ≤ c) (hz : OwSz 1048576 xs) => iLeftTons_any A c xs crop w h hx hc hz
  have hS := fun (A : Option Addr) (c : Nat) (w : World) (h : Rd w w.heap.size A 3 Ow.enc xs) (hx : xs.length ≤ 1048576) (hz : OwSz 1048576 xs) => sLeftTons_any A c xs crop w h hx hz
  obtain ⟨r0, hr0⟩ : ∃ r, ltnV xs crop = r := ⟨_, rfl⟩
  obtain ⟨r1, hr1⟩ : ∃ r, ltnB xs crop = r := ⟨_, rfl⟩
  rw [hr0, hr1] at hI hS
  have HI := Lib.hid hI
  have HS := Lib.hid hS
  clear hI hS hr0 hr1
  go_enter Tryd.func7, Tryd.ntmps7
  go_wp2_with fail
  refine (szOwnerS_any A c xs _ (h.to (by repeat' (first | (with_reducible exact Below.refl _ _) | (with_reducible refine Below.alloc ?_ ?_ _) | (with_reducible refine Below.setCell ?_ ?_ _) | (with_reducible refine Below.drew ?_) | (with_reducible refine Below.trans ?_ (Below.mono (by with_reducible assumption) ?_)) | omega | (simp; done) | (simp; omega)))) hm HZ.out).mono ?_
  rintro e w1 ⟨⟨z, rfl, hzz⟩, hb1⟩
  have hs1 := hb1.size
  rcases hzz with rfl | ⟨hz0, hx, hsz⟩
  · go_wp2
    go_ret
    exact ⟨rfl, (by repeat' (first | (with_reducible exact Below.refl _ _) | (with_reducible refine Below.alloc ?_ ?_ _) | (with_reducible refine Below.setCell ?_ ?_ _) | (with_reducible refine Below.drew ?_) | (with_reducible refine Below.trans ?_ (Below.mono (by with_reducible assumption) ?_)) | omega | (simp; done) | (simp; omega)))⟩
  · have hz1 : ¬ z < 0 := by omega
    have HSZ := Lib.hid hsz
    clear hsz HZ
    go_wp2_with fail
    refine (toOwnerS_cap A c xs _ (h.to (by repeat' (first | (with_reducible exact Below.refl _ _) | (with_reducible refine Below.alloc ?_ ?_ _) | (with_reducible refine Below.setCell ?_ ?_ _) | (with_reducible refine Below.drew ?_) | (with_reducible refine Below.trans ?_ (Below.mono (by with_reducible assumption) ?_)) | omega | (simp; done) | (simp; omega)))) hx).mono ?_
    rintro e w2 ⟨g2, rfl, hg2, row2, hb2⟩
    have hs2 := hb2.size
    go_wp2_with fail
    refine (HS.out _ _ _ (row2.rdTo Ow.enc_len (by repeat' (first | (with_reducible exact Below.refl _ _) | (with_reducible refine Below.alloc ?_ ?_ _) | (with_reducible refine Below.setCell ?_ ?_ _) | (with_reducible refine Below.drew ?_) | (with_reducible refine Below.trans ?_ (Below.mono (by with_reducible assumption) ?_)) | omega | (simp; done) | (simp; omega)))) hx HSZ.out).mono ?_
    rintro e w3 ⟨rfl, hb3⟩
    have hs3 := hb3.size
    go_wp2_with fail
    refine (toOwnerS_cap A c xs _ (h.to (by repeat' (first | (with_reducible exact Below.refl _ _) | (with_reducible refine Below.alloc ?_ ?_ _) | (with_reducible refine Below.setCell ?_ ?_ _) | (with_reducible refine Below.drew ?_) | (with_reducible refine Below.trans ?_ (Below.mono (by with_reducible assumption) ?_)) | omega | (simp; done) | (simp; omega)))) hx).mono ?_
    rintro e w4 ⟨g4, rfl, hg4, row4, hb4⟩
    have hs4 := hb4.size
    go_wp2_with fail
    refine (HI.out _ _ _ (row4.rdTo Ow.enc_len (by repeat' (first | (with_reducible exact Below.refl _ _) | (with_reducible refine Below.alloc ?_ ?_ _) | (with_reducible refine Below.setCell ?_ ?_ _) | (with_reducible refine Below.drew ?_) | (with_reducible refine Below.trans ?_ (Below.mono (by with_reducible assumption) ?_)) | omega | (simp; done) | (simp; omega)))) hx (Nat.le_refl _) HSZ.out).mono ?_
    rintro e w5 ⟨rfl, hb5⟩
    have hs5 := hb5.size
    go_wp2_with fail
    refine (toOwnerS_cap A c xs _ (h.to (by repeat' (first | (with_reducible exact Below.refl _ _) | (with_reducible refine Below.alloc ?_ ?_ _) | (with_reducible refine Below.setCell ?_ ?_ _) | (with_reducible refine Below.drew ?_) | (with_reducible refine Below.trans ?_ (Below.mono (by with_reducible assumption) ?_)) | omega | (simp; done) | (simp; omega)))) hx).mono ?_
    rintro e w6 ⟨g6, rfl, hg6, row6, hb6⟩
    have hs6 := hb6.size
    go_wp2_with fail
    refine (eqOwnerS_same _ _ _ _ xs _ (row4.rdTo Ow.enc_len (by repeat' (first | (with_reducible exact Below.refl _ _) | (with_reducible refine Below.alloc ?_ ?_ _) | (with_reducible refine Below.setCell ?_ ?_ _) | (with_reducible refine Below.drew ?_) | (with_reducible refine Below.trans ?_ (Below.mono (by with_reducible assumption) ?_)) | omega | (simp; done) | (simp; omega)))) (row6.rdTo Ow.enc_len (by repeat' (first | (with_reducible exact Below.refl _ _) | (with_reducible refine Below.alloc ?_ ?_ _) | (with_reducible refine Below.setCell ?_ ?_ _) | (with_reducible refine Below.drew ?_) | (with_reducible refine Below.trans ?_ (Below.mono (by with_reducible assumption) ?_)) | omega | (simp; done) | (simp; omega)))) hx).mono ?_
    rintro e w7 ⟨rfl, hb7⟩
    have hs7 := hb7.size
    go_wp2
    go_ret
    exact ⟨rfl, (by repeat' (first | (with_reducible exact Below.refl _ _) | (with_reducible refine Below.alloc ?_ ?_ _) | (with_reducible refine Below.setCell ?_ ?_ _) | (with_reducible refine Below.drew ?_) | (with_reducible refine Below.trans ?_ (Below.mono (by with_reducible assumption) ?_)) | omega | (simp; done) | (simp; omega)))⟩
end Go.Proofs.YtimdnihadhbjpaaDoor
