/- Law: DivideCrop (chapter 22). -/
import Derived.Test.YtimdnihadhbjpaaDoorDivI
import Derived.Test.YtimdnihadhbjpaaDoorMarkO
set_option linter.unusedSimpArgs false
set_option linter.unusedVariables false
namespace Go.Proofs.YtimdnihadhbjpaaDoor
open Go.RowKit Go.Sort Go.Salt
attribute [local go_sem] cell_rg
theorem dcB_parts {xs : List Ow} {crop : Int} (h : dcB xs crop = true) : arB xs = true ∧ inB crop 0 1000000 = true := by
  unfold dcB at h; rwa [Bool.and_eq_true] at h
theorem sDivideCrop_any (A : Option Addr) (c : Nat) (xs : List Ow) (crop : Int) (w : World) (h : Rd w w.heap.size A 3 Ow.enc xs) (hx : xs.length ≤ 1048576) (hz : OwSz 1048576 xs) :
    Calls Tryd.prog 28 #[.slice A xs.length c, .int .i64 crop] w fun e w' => MadeAt w 3 ((dcR xs crop).flatMap ie) (dcR xs crop).length (fun v => .returned (.tuple #[v, .bool (dcB xs crop)])) e w' := by
  cases hB : dcB xs crop
  · refine (sDivideCrop_no A c xs crop w h hx hz hB).mono ?_
    intro e w' h
    exact MadeAt.cast h (by simp [dcR, hB]) (by simp [dcR, hB]) rfl rfl
  · refine (sDivideCrop_yes A c xs crop w h hx hz (dcB_parts hB).1 (dcB_parts hB).2).mono ?_
    intro e w' h
    exact MadeAt.cast h (by simp [dcR, hB]) (by simp [dcR, hB, dcL_len]) rfl rfl
theorem iDivideCrop_any (A : Option Addr) (c : Nat) (xs : List Ow) (crop : Int) (w : World) (h : Rd w w.heap.size A 3 Ow.enc xs) (hx : xs.length ≤ 1048576) (hc : xs.length ≤ c) (hz : OwSz 1048576 xs) :
    Calls Tryd.prog 29 #[.slice A xs.length c, .int .i64 crop] w fun e w' => MadeAt w 3 ((dcR xs crop).flatMap ie) (dcR xs crop).length (fun v => .returned (.tuple #[v, .bool (dcB xs crop)])) e w' := by
  cases hB : dcB xs crop
  · refine (iDivideCrop_no A c xs crop w h hx hc hz hB).mono ?_
    intro e w' h
    exact MadeAt.cast h (by simp [dcR, hB]) (by simp [dcR, hB]) rfl rfl
  · refine (iDivideCrop_yes A c xs crop w h hx hc hz (dcB_parts hB).1 (dcB_parts hB).2).mono ?_
    intro e w' h
    exact MadeAt.cast h (by simp [dcR, hB]) (by simp [dcR, hB, dcL_len]) rfl rfl
set_option maxRecDepth 100000 in
set_option maxHeartbeats 8000000 in
theorem FnExactDivideCrop_law (A : Option Addr) (c : Nat) (xs : List Ow) (crop : Int) (w : World) (h : Rd w w.heap.size A 3 Ow.enc xs) (hm : xs.length ≤ maxLen) (hz : OwSz maxLen xs) :
    Calls Tryd.prog 8 #[.slice A xs.length c, .int .i64 crop] w fun e w' => e = .returned (.bool true) ∧ Below w.heap.size w w' := by
  have HZ := Lib.hid hz
  clear hz
  go_enter Tryd.func8, Tryd.ntmps8
  go_wp2_with fail
  refine (szOwnerS_any A c xs _ (h.to (by repeat' (first | (with_reducible exact Below.refl _ _) | (with_reducible refine Below.alloc ?_ ?_ _) | (with_reducible refine Below.setCell ?_ ?_ _) | (with_reducible refine Below.drew ?_) | (with_reducible refine Below.trans ?_ (Below.mono (by with_reducible assumption) ?_)) | omega | (simp; done) | (simp; omega)))) hm HZ.out).mono ?_
  rintro e w1 ⟨⟨z, rfl, hzz⟩, hb1⟩
  have hs1 := hb1.size
  rcases hzz with rfl | ⟨hz0, hx, hsz⟩
  · go_wp2
    go_ret
    exact ⟨rfl, (by repeat' (first | (with_reducible exact Below.refl _ _) | (with_reducible refine Below.alloc ?_ ?_ _) | (with_reducible refine Below.setCell ?_ ?_ _) | (with_reducible refine Below.drew ?_) | (with_reducible refine Below.trans ?_ (Below.mono (by with_reducible assumption) ?_)) | omega | (simp; done) | (simp; omega)))⟩
  have hz1 : ¬ z < 0 := by omega
  have hI := fun (A : Option Addr) (c : Nat) (w : World) (h : Rd w w.heap.size A 3 Ow.enc xs) (hc : xs.length ≤ c) => iDivideCrop_any A c xs crop w h hx hc hsz
  have hS := fun (A : Option Addr) (c : Nat) (w : World) (h : Rd w w.heap.size A 3 Ow.enc xs) => sDivideCrop_any A c xs crop w h hx hsz
  have hY : (dcR xs crop).length ≤ 1048576 := Nat.le_trans (dcR_len xs crop) hx
  obtain ⟨ys, hys⟩ : ∃ r : List Int, dcR xs crop = r := ⟨_, rfl⟩
  obtain ⟨yb, hyb⟩ : ∃ r, dcB xs crop = r := ⟨_, rfl⟩
  rw [hys] at hY
  rw [hys, hyb] at hI hS
  have HI := Lib.hid hI
  have HS := Lib.hid hS
  have Hy := Lib.hid hY
  have Hx := Lib.hid (show xs.length ≤ 2097152 by omega)
  have Hy2 := Lib.hid (show ys.length ≤ 2097152 by omega)
  have hz3 := mkz_pos xs.length 3
  have hz4 := mkz_pos ys.length 1
  clear hsz HZ hI hS hys hyb hY
  go_wp2_with fail
  refine (toOwnerS_cap A c xs _ (h.to (by repeat' (first | (with_reducible exact Below.refl _ _) | (with_reducible refine Below.alloc ?_ ?_ _) | (with_reducible refine Below.setCell ?_ ?_ _) | (with_reducible refine Below.drew ?_) | (with_reducible refine Below.trans ?_ (Below.mono (by with_reducible assumption) ?_)) | omega | (simp; done) | (simp; omega)))) hx).mono ?_
  rintro e w2 ⟨g2, rfl, hg2, row2, hb2⟩
  have hs2 := hb2.size
  go_wp2_with fail
  refine (HS.out _ _ _ (row2.rdTo Ow.enc_len (by repeat' (first | (with_reducible exact Below.refl _ _) | (with_reducible refine Below.alloc ?_ ?_ _) | (with_reducible refine Below.setCell ?_ ?_ _) | (with_reducible refine Below.drew ?_) | (with_reducible refine Below.trans ?_ (Below.mono (by with_reducible assumption) ?_)) | omega | (simp; done) | (simp; omega))))).mono ?_
  rintro e w3 ⟨A3, c3, rfl, own3, hb3⟩
  have hs3 := hb3.size
  go_wp2_with fail
  refine (toOwnerS_cap A c xs _ (h.to (by repeat' (first | (with_reducible exact Below.refl _ _) | (with_reducible refine Below.alloc ?_ ?_ _) | (with_reducible refine Below.setCell ?_ ?_ _) | (with_reducible refine Below.drew ?_) | (with_reducible refine Below.trans ?_ (Below.mono (by with_reducible assumption) ?_)) | omega | (simp; done) | (simp; omega)))) hx).mono ?_
  rintro e w4 ⟨g4, rfl, hg4, row4, hb4⟩
  have hs4 := hb4.size
  go_wp2_with fail
  refine (HI.out _ _ _ (row4.rdTo Ow.enc_len (by repeat' (first | (with_reducible exact Below.refl _ _) | (with_reducible refine Below.alloc ?_ ?_ _) | (with_reducible refine Below.setCell ?_ ?_ _) | (with_reducible refine Below.drew ?_) | (with_reducible refine Below.trans ?_ (Below.mono (by with_reducible assumption) ?_)) | omega | (simp; done) | (simp; omega)))) (Nat.le_refl _)).mono ?_
  rintro e w5 ⟨A5, c5, rfl, own5, hb5⟩
  have hs5 := hb5.size
  go_wp2_with fail
  refine (eqIntS_same _ _ _ _ ys _ ((own5.to (by repeat' (first | (with_reducible exact Below.refl _ _) | (with_reducible refine Below.alloc ?_ ?_ _) | (with_reducible refine Below.setCell ?_ ?_ _) | (with_reducible refine Below.drew ?_) | (with_reducible refine Below.trans ?_ (Below.mono (by with_reducible assumption) ?_)) | omega | (simp; done) | (simp; omega)))).rd ie_len) ((own3.to (by repeat' (first | (with_reducible exact Below.refl _ _) | (with_reducible refine Below.alloc ?_ ?_ _) | (with_reducible refine Below.setCell ?_ ?_ _) | (with_reducible refine Below.drew ?_) | (with_reducible refine Below.trans ?_ (Below.mono (by with_reducible assumption) ?_)) | omega | (simp; done) | (simp; omega)))).rd ie_len) Hy.out).mono ?_
  rintro e w6 ⟨rfl, hb6⟩
  have hs6 := hb6.size
  go_wp2_with fail
  refine (toOwnerS_cap A c xs _ (h.to (by repeat' (first | (with_reducible exact Below.refl _ _) | (with_reducible refine Below.alloc ?_ ?_ _) | (with_reducible refine Below.setCell ?_ ?_ _) | (with_reducible refine Below.drew ?_) | (with_reducible refine Below.trans ?_ (Below.mono (by with_reducible assumption) ?_)) | omega | (simp; done) | (simp; omega)))) hx).mono ?_
  rintro e w7 ⟨g7, rfl, hg7, row7, hb7⟩
  have hs7 := hb7.size
  go_wp2_with fail
  refine (eqOwnerS_same _ _ _ _ xs _ (row4.rdTo Ow.enc_len (by repeat' (first | (with_reducible exact Below.refl _ _) | (with_reducible refine Below.alloc ?_ ?_ _) | (with_reducible refine Below.setCell ?_ ?_ _) | (with_reducible refine Below.drew ?_) | (with_reducible refine Below.trans ?_ (Below.mono (by with_reducible assumption) ?_)) | omega | (simp; done) | (simp; omega)))) (row7.rdTo Ow.enc_len (by repeat' (first | (with_reducible exact Below.refl _ _) | (with_reducible refine Below.alloc ?_ ?_ _) | (with_reducible refine Below.setCell ?_ ?_ _) | (with_reducible refine Below.drew ?_) | (with_reducible refine Below.trans ?_ (Below.mono (by with_reducible assumption) ?_)) | omega | (simp; done) | (simp; omega)))) hx).mono ?_
  rintro e w8 ⟨rfl, hb8⟩
  have hs8 := hb8.size
  go_wp2_with fail
  refine (markOwnerS_own _ _ _ _ _ _ (OwnAt.row hg4 (row4.to (by repeat' (first | (with_reducible exact Below.refl _ _) | (with_reducible refine Below.alloc ?_ ?_ _) | (with_reducible refine Below.setCell ?_ ?_ _) | (with_reducible refine Below.drew ?_) | (with_reducible refine Below.trans ?_ (Below.mono (by with_reducible assumption) ?_)) | omega | (simp; done) | (simp; omega))))) (flat_len Ow.enc_len _) Hx.out).mono ?_
  rintro e w9 ⟨rfl, own9, hg9, hb9⟩
  have hs9 := hb9.size
  have ownM := (own5.to (show Below w5.heap.size w5 w8 from (by repeat' (first | (with_reducible exact Below.refl _ _) | (with_reducible refine Below.alloc ?_ ?_ _) | (with_reducible refine Below.setCell ?_ ?_ _) | (with_reducible refine Below.drew ?_) | (with_reducible refine Below.trans ?_ (Below.mono (by with_reducible assumption) ?_)) | omega | (simp; done) | (simp; omega))))).other hg9 (by have := row4.lt; show g4 < _; omega)
  go_wp2_with fail
  refine (eqIntS_same _ _ _ _ ys _ ((ownM.to (by repeat' (first | (with_reducible exact Below.refl _ _) | (with_reducible refine Below.alloc ?_ ?_ _) | (with_reducible refine Below.setCell ?_ ?_ _) | (with_reducible refine Below.drew ?_) | (with_reducible refine Below.trans ?_ (Below.mono (by with_reducible assumption) ?_)) | omega | (simp; done) | (simp; omega)))).rd ie_len) ((own3.to (by repeat' (first | (with_reducible exact Below.refl _ _) | (with_reducible refine Below.alloc ?_ ?_ _) | (with_reducible refine Below.setCell ?_ ?_ _) | (with_reducible refine Below.drew ?_) | (with_reducible refine Below.trans ?_ (Below.mono (by with_reducible assumption) ?_)) | omega | (simp; done) | (simp; omega)))).rd ie_len) Hy.out).mono ?_
  rintro e w10 ⟨rfl, hb10⟩
  have hs10 := hb10.size
  go_wp2_with fail
  refine (markIntS_own _ _ _ _ _ _ (ownM.to (by repeat' (first | (with_reducible exact Below.refl _ _) | (with_reducible refine Below.alloc ?_ ?_ _) | (with_reducible refine Below.setCell ?_ ?_ _) | (with_reducible refine Below.drew ?_) | (with_reducible refine Below.trans ?_ (Below.mono (by with_reducible assumption) ?_)) | omega | (simp; done) | (simp; omega)))) (flat_len ie_len _) Hy2.out).mono ?_
  rintro e w11 ⟨rfl, own11, hg11, hb11⟩
  have hs11 := hb11.size
  go_wp2_with fail
  refine (heldIntS_own _ _ _ _ _ (own11.to (by repeat' (first | (with_reducible exact Below.refl _ _) | (with_reducible refine Below.alloc ?_ ?_ _) | (with_reducible refine Below.setCell ?_ ?_ _) | (with_reducible refine Below.drew ?_) | (with_reducible refine Below.trans ?_ (Below.mono (by with_reducible assumption) ?_)) | omega | (simp; done) | (simp; omega)))) Hy2.out).mono ?_
  rintro e w12 ⟨rfl, rfl⟩
  go_wp2_with fail
  refine (toOwnerS_cap A c xs _ (h.to (by repeat' (first | (with_reducible exact Below.refl _ _) | (with_reducible refine Below.alloc ?_ ?_ _) | (with_reducible refine Below.setCell ?_ ?_ _) | (with_reducible refine Below.drew ?_) | (with_reducible refine Below.trans ?_ (Below.mono (by with_reducible assumption) ?_)) | omega | (simp; done) | (simp; omega)))) hx).mono ?_
  rintro e w13 ⟨g13, rfl, hg13, row13, hb13⟩
  have hs13 := hb13.size
  go_wp2_with fail
  refine (HI.out _ _ _ (row13.rdTo Ow.enc_len (by repeat' (first | (with_reducible exact Below.refl _ _) | (with_reducible refine Below.alloc ?_ ?_ _) | (with_reducible refine Below.setCell ?_ ?_ _) | (with_reducible refine Below.drew ?_) | (with_reducible refine Below.trans ?_ (Below.mono (by with_reducible assumption) ?_)) | omega | (simp; done) | (simp; omega)))) (Nat.le_refl _)).mono ?_
  rintro e w14 ⟨A14, c14, rfl, own14, hb14⟩
  have hs14 := hb14.size
  go_wp2_with fail
  refine (eqIntS_same _ _ _ _ ys _ ((own14.to (by repeat' (first | (with_reducible exact Below.refl _ _) | (with_reducible refine Below.alloc ?_ ?_ _) | (with_reducible refine Below.setCell ?_ ?_ _) | (with_reducible refine Below.drew ?_) | (with_reducible refine Below.trans ?_ (Below.mono (by with_reducible assumption) ?_)) | omega | (simp; done) | (simp; omega)))).rd ie_len) ((own3.to (by repeat' (first | (with_reducible exact Below.refl _ _) | (with_reducible refine Below.alloc ?_ ?_ _) | (with_reducible refine Below.setCell ?_ ?_ _) | (with_reducible refine Below.drew ?_) | (with_reducible refine Below.trans ?_ (Below.mono (by with_reducible assumption) ?_)) | omega | (simp; done) | (simp; omega)))).rd ie_len) Hy.out).mono ?_
  rintro e w15 ⟨rfl, hb15⟩
  have hs15 := hb15.size
  go_wp2_with fail
  refine (heldIntS_own _ _ _ _ _ (own11.to (by repeat' (first | (with_reducible exact Below.refl _ _) | (with_reducible refine Below.alloc ?_ ?_ _) | (with_reducible refine Below.setCell ?_ ?_ _) | (with_reducible refine Below.drew ?_) | (with_reducible refine Below.trans ?_ (Below.mono (by with_reducible assumption) ?_)) | omega | (simp; done) | (simp; omega)))) Hy2.out).mono ?_
  rintro e w16 ⟨rfl, rfl⟩
  go_wp2
  go_ret
  exact ⟨rfl, (by repeat' (first | (with_reducible exact Below.refl _ _) | (with_reducible refine Below.alloc ?_ ?_ _) | (with_reducible refine Below.setCell ?_ ?_ _) | (with_reducible refine Below.drew ?_) | (with_reducible refine Below.trans ?_ (Below.mono (by with_reducible assumption) ?_)) | omega | (simp; done) | (simp; omega)))⟩
end Go.Proofs.YtimdnihadhbjpaaDoor
