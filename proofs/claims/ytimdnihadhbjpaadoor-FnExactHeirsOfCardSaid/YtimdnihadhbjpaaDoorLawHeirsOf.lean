/- Law: HeirsOf (chapter 22). -/
import Derived.Test.YtimdnihadhbjpaaDoorHeirI
set_option linter.unusedSimpArgs false
set_option linter.unusedVariables false
namespace Go.Proofs.YtimdnihadhbjpaaDoor
open Go.RowKit Go.Sort Go.Salt
attribute [local go_sem] cell_rg
set_option maxRecDepth 100000 in
set_option maxHeartbeats 8000000 in
theorem FnExactHeirsOf_law (A : Option Addr) (c : Nat) (xs : List Ow) (nm : ByteArray) (A' : Option Addr) (c' : Nat) (hs : List ByteArray) (w : World) (h : Rd w w.heap.size A 3 Ow.enc xs) (hm : xs.length ≤ maxLen) (hz : OwSz maxLen xs) (hsn : nm.size ≤ maxLen) (h' : Rd w w.heap.size A' 1 se hs) (hm' : hs.length ≤ maxLen) (hz' : StrSz maxLen hs) :
    Calls Tryd.prog 12 #[.slice A xs.length c, .string nm, .slice A' hs.length c'] w fun e w' => e = .returned (.bool true) ∧ Below w.heap.size w w' := by
  have HZ := Lib.hid hz
  have HZ' := Lib.hid hz'
  clear hz hz'
  have hsz_n : nm.size ≤ 9223372036854775807 := hsn
  by_cases hb_n : 1048576 < nm.size
  · have hbi : (1048576 : Int) < nm.size := by omega
    go_enter Tryd.func12, Tryd.ntmps12
    go_wp2
    go_ret
    exact ⟨rfl, (by repeat' (first | (with_reducible exact Below.refl _ _) | (with_reducible refine Below.alloc ?_ ?_ _) | (with_reducible refine Below.setCell ?_ ?_ _) | (with_reducible refine Below.drew ?_) | (with_reducible refine Below.trans ?_ (Below.mono (by with_reducible assumption) ?_)) | omega | (simp; done) | (simp; omega)))⟩
  have hbi_n : ¬ (1048576 : Int) < nm.size := by omega
  go_enter Tryd.func12, Tryd.ntmps12
  go_wp2_with fail
  refine (szOwnerS_up A c xs _ (h.to (by repeat' (first | (with_reducible exact Below.refl _ _) | (with_reducible refine Below.alloc ?_ ?_ _) | (with_reducible refine Below.setCell ?_ ?_ _) | (with_reducible refine Below.drew ?_) | (with_reducible refine Below.trans ?_ (Below.mono (by with_reducible assumption) ?_)) | omega | (simp; done) | (simp; omega)))) hm HZ.out).mono ?_
  rintro e w1 ⟨⟨z, rfl, hzz⟩, hb1⟩
  have hs1 := hb1.size
  rcases hzz with rfl | ⟨hz0, hx, hsz⟩
  · go_wp2
    go_ret
    exact ⟨rfl, (by repeat' (first | (with_reducible exact Below.refl _ _) | (with_reducible refine Below.alloc ?_ ?_ _) | (with_reducible refine Below.setCell ?_ ?_ _) | (with_reducible refine Below.drew ?_) | (with_reducible refine Below.trans ?_ (Below.mono (by with_reducible assumption) ?_)) | omega | (simp; done) | (simp; omega)))⟩
  have hz1 : ¬ z < 0 := by omega
  go_wp2_with fail
  refine (szStringS_any A' c' hs z _ (h'.to (by repeat' (first | (with_reducible exact Below.refl _ _) | (with_reducible refine Below.alloc ?_ ?_ _) | (with_reducible refine Below.setCell ?_ ?_ _) | (with_reducible refine Below.drew ?_) | (with_reducible refine Below.trans ?_ (Below.mono (by with_reducible assumption) ?_)) | omega | (simp; done) | (simp; omega)))) hm' HZ'.out hz0.1 hz0.2).mono ?_
  rintro e w2 ⟨⟨z2, rfl, hzz⟩, hb2⟩
  have hs2 := hb2.size
  rcases hzz with rfl | ⟨hz20, hx', hsz'⟩
  · go_wp2
    go_ret
    exact ⟨rfl, (by repeat' (first | (with_reducible exact Below.refl _ _) | (with_reducible refine Below.alloc ?_ ?_ _) | (with_reducible refine Below.setCell ?_ ?_ _) | (with_reducible refine Below.drew ?_) | (with_reducible refine Below.trans ?_ (Below.mono (by with_reducible assumption) ?_)) | omega | (simp; done) | (simp; omega)))⟩
  have hz21 : ¬ z2 < 0 := by omega
  have hI := fun (A : Option Addr) (c : Nat) (A' : Option Addr) (c' : Nat) (w : World) (h : Rd w w.heap.size A 3 Ow.enc xs) (h' : Rd w w.heap.size A' 1 se hs) (hc : xs.length ≤ c) (hc' : hs.length ≤ c') => iHeirsOf_any A c xs A' c' hs nm w h h' hx hc hc' hsz hsz'
  have hS := fun (A : Option Addr) (c : Nat) (A' : Option Addr) (c' : Nat) (w : World) (h : Rd w w.heap.size A 3 Ow.enc xs) (h' : Rd w w.heap.size A' 1 se hs) (hc : xs.length ≤ c) (hc' : hs.length ≤ c') => sHeirsOf_any A c xs A' c' hs nm w h h' hx hc hc' hsz hsz'
  have hY : (hrL xs nm hs).length ≤ 1048576 := by have := hrL_len xs nm hs; omega
  obtain ⟨ys, hys⟩ : ∃ r : List Ow, hrL xs nm hs = r := ⟨_, rfl⟩
  obtain ⟨yb, hyb⟩ : ∃ r, hrB xs nm hs = r := ⟨_, rfl⟩
  rw [hys] at hY
  rw [hys, hyb] at hI hS
  have HI := Lib.hid hI
  have HS := Lib.hid hS
  have Hy := Lib.hid hY
  have Hx := Lib.hid (show xs.length ≤ 2097152 by omega)
  have Hx' := Lib.hid hx'
  have Hy2 := Lib.hid (show ys.length ≤ 2097152 by omega)
  have hz3 := mkz_pos xs.length 3
  have hz4 := mkz_pos ys.length 3
  have hz5 : mkz xs.length 3 ≤ 4000000 := by unfold mkz; omega
  have hz6 : ¬ mkz xs.length 3 + (hs.length : Int) < 0 := by omega
  clear hsz HZ hsz' HZ' hI hS hys hyb hY
  go_wp2_with fail
  refine (toOwnerS_cap A c xs _ (h.to (by repeat' (first | (with_reducible exact Below.refl _ _) | (with_reducible refine Below.alloc ?_ ?_ _) | (with_reducible refine Below.setCell ?_ ?_ _) | (with_reducible refine Below.drew ?_) | (with_reducible refine Below.trans ?_ (Below.mono (by with_reducible assumption) ?_)) | omega | (simp; done) | (simp; omega)))) hx).mono ?_
  rintro e w3 ⟨g3, rfl, hg3, row3, hb3⟩
  have hs3 := hb3.size
  go_wp2_with fail
  refine (toStringS_cap A' c' hs _ (h'.to (by repeat' (first | (with_reducible exact Below.refl _ _) | (with_reducible refine Below.alloc ?_ ?_ _) | (with_reducible refine Below.setCell ?_ ?_ _) | (with_reducible refine Below.drew ?_) | (with_reducible refine Below.trans ?_ (Below.mono (by with_reducible assumption) ?_)) | omega | (simp; done) | (simp; omega)))) hx').mono ?_
  rintro e w4 ⟨g4, rfl, hg4, row4, hb4⟩
  have hs4 := hb4.size
  go_wp2_with fail
  refine (HS.out _ _ _ _ _ (row3.rdTo Ow.enc_len (by repeat' (first | (with_reducible exact Below.refl _ _) | (with_reducible refine Below.alloc ?_ ?_ _) | (with_reducible refine Below.setCell ?_ ?_ _) | (with_reducible refine Below.drew ?_) | (with_reducible refine Below.trans ?_ (Below.mono (by with_reducible assumption) ?_)) | omega | (simp; done) | (simp; omega)))) (row4.rdTo se_len (by repeat' (first | (with_reducible exact Below.refl _ _) | (with_reducible refine Below.alloc ?_ ?_ _) | (with_reducible refine Below.setCell ?_ ?_ _) | (with_reducible refine Below.drew ?_) | (with_reducible refine Below.trans ?_ (Below.mono (by with_reducible assumption) ?_)) | omega | (simp; done) | (simp; omega)))) (Nat.le_refl _) (Nat.le_refl _)).mono ?_
  rintro e w5 ⟨A5, c5, rfl, own5, hb5⟩
  have hs5 := hb5.size
  go_wp2_with fail
  refine (toOwnerS_cap A c xs _ (h.to (by repeat' (first | (with_reducible exact Below.refl _ _) | (with_reducible refine Below.alloc ?_ ?_ _) | (with_reducible refine Below.setCell ?_ ?_ _) | (with_reducible refine Below.drew ?_) | (with_reducible refine Below.trans ?_ (Below.mono (by with_reducible assumption) ?_)) | omega | (simp; done) | (simp; omega)))) hx).mono ?_
  rintro e w6 ⟨g6, rfl, hg6, row6, hb6⟩
  have hs6 := hb6.size
  go_wp2_with fail
  refine (toStringS_cap A' c' hs _ (h'.to (by repeat' (first | (with_reducible exact Below.refl _ _) | (with_reducible refine Below.alloc ?_ ?_ _) | (with_reducible refine Below.setCell ?_ ?_ _) | (with_reducible refine Below.drew ?_) | (with_reducible refine Below.trans ?_ (Below.mono (by with_reducible assumption) ?_)) | omega | (simp; done) | (simp; omega)))) hx').mono ?_
  rintro e w7 ⟨g7, rfl, hg7, row7, hb7⟩
  have hs7 := hb7.size
  go_wp2_with fail
  refine (HI.out _ _ _ _ _ (row6.rdTo Ow.enc_len (by repeat' (first | (with_reducible exact Below.refl _ _) | (with_reducible refine Below.alloc ?_ ?_ _) | (with_reducible refine Below.setCell ?_ ?_ _) | (with_reducible refine Below.drew ?_) | (with_reducible refine Below.trans ?_ (Below.mono (by with_reducible assumption) ?_)) | omega | (simp; done) | (simp; omega)))) (row7.rdTo se_len (by repeat' (first | (with_reducible exact Below.refl _ _) | (with_reducible refine Below.alloc ?_ ?_ _) | (with_reducible refine Below.setCell ?_ ?_ _) | (with_reducible refine Below.drew ?_) | (with_reducible refine Below.trans ?_ (Below.mono (by with_reducible assumption) ?_)) | omega | (simp; done) | (simp; omega)))) (Nat.le_refl _) (Nat.le_refl _)).mono ?_
  rintro e w8 ⟨A8, c8, rfl, own8, hb8⟩
  have hs8 := hb8.size
  go_wp2_with fail
  refine (eqOwnerS_same _ _ _ _ ys _ ((own8.to (by repeat' (first | (with_reducible exact Below.refl _ _) | (with_reducible refine Below.alloc ?_ ?_ _) | (with_reducible refine Below.setCell ?_ ?_ _) | (with_reducible refine Below.drew ?_) | (with_reducible refine Below.trans ?_ (Below.mono (by with_reducible assumption) ?_)) | omega | (simp; done) | (simp; omega)))).rd Ow.enc_len) ((own5.to (by repeat' (first | (with_reducible exact Below.refl _ _) | (with_reducible refine Below.alloc ?_ ?_ _) | (with_reducible refine Below.setCell ?_ ?_ _) | (with_reducible refine Below.drew ?_) | (with_reducible refine Below.trans ?_ (Below.mono (by with_reducible assumption) ?_)) | omega | (simp; done) | (simp; omega)))).rd Ow.enc_len) Hy.out).mono ?_
  rintro e w9 ⟨rfl, hb9⟩
  have hs9 := hb9.size
  go_wp2_with fail
  refine (toOwnerS_cap A c xs _ (h.to (by repeat' (first | (with_reducible exact Below.refl _ _) | (with_reducible refine Below.alloc ?_ ?_ _) | (with_reducible refine Below.setCell ?_ ?_ _) | (with_reducible refine Below.drew ?_) | (with_reducible refine Below.trans ?_ (Below.mono (by with_reducible assumption) ?_)) | omega | (simp; done) | (simp; omega)))) hx).mono ?_
  rintro e w10 ⟨g10, rfl, hg10, row10, hb10⟩
  have hs10 := hb10.size
  go_wp2_with fail
  refine (eqOwnerS_same _ _ _ _ xs _ (row6.rdTo Ow.enc_len (by repeat' (first | (with_reducible exact Below.refl _ _) | (with_reducible refine Below.alloc ?_ ?_ _) | (with_reducible refine Below.setCell ?_ ?_ _) | (with_reducible refine Below.drew ?_) | (with_reducible refine Below.trans ?_ (Below.mono (by with_reducible assumption) ?_)) | omega | (simp; done) | (simp; omega)))) (row10.rdTo Ow.enc_len (by repeat' (first | (with_reducible exact Below.refl _ _) | (with_reducible refine Below.alloc ?_ ?_ _) | (with_reducible refine Below.setCell ?_ ?_ _) | (with_reducible refine Below.drew ?_) | (with_reducible refine Below.trans ?_ (Below.mono (by with_reducible assumption) ?_)) | omega | (simp; done) | (simp; omega)))) hx).mono ?_
  rintro e w11 ⟨rfl, hb11⟩
  have hs11 := hb11.size
  go_wp2_with fail
  refine (toStringS_cap A' c' hs _ (h'.to (by repeat' (first | (with_reducible exact Below.refl _ _) | (with_reducible refine Below.alloc ?_ ?_ _) | (with_reducible refine Below.setCell ?_ ?_ _) | (with_reducible refine Below.drew ?_) | (with_reducible refine Below.trans ?_ (Below.mono (by with_reducible assumption) ?_)) | omega | (simp; done) | (simp; omega)))) hx').mono ?_
  rintro e w12 ⟨g12, rfl, hg12, row12, hb12⟩
  have hs12 := hb12.size
  go_wp2_with fail
  refine (eqStringS_same _ _ _ _ hs _ (row7.rdTo se_len (by repeat' (first | (with_reducible exact Below.refl _ _) | (with_reducible refine Below.alloc ?_ ?_ _) | (with_reducible refine Below.setCell ?_ ?_ _) | (with_reducible refine Below.drew ?_) | (with_reducible refine Below.trans ?_ (Below.mono (by with_reducible assumption) ?_)) | omega | (simp; done) | (simp; omega)))) (row12.rdTo se_len (by repeat' (first | (with_reducible exact Below.refl _ _) | (with_reducible refine Below.alloc ?_ ?_ _) | (with_reducible refine Below.setCell ?_ ?_ _) | (with_reducible refine Below.drew ?_) | (with_reducible refine Below.trans ?_ (Below.mono (by with_reducible assumption) ?_)) | omega | (simp; done) | (simp; omega)))) hx').mono ?_
  rintro e w13 ⟨rfl, hb13⟩
  have hs13 := hb13.size
  go_wp2_with fail
  refine (markOwnerS_own _ _ _ _ _ _ (OwnAt.row hg6 (row6.to (by repeat' (first | (with_reducible exact Below.refl _ _) | (with_reducible refine Below.alloc ?_ ?_ _) | (with_reducible refine Below.setCell ?_ ?_ _) | (with_reducible refine Below.drew ?_) | (with_reducible refine Below.trans ?_ (Below.mono (by with_reducible assumption) ?_)) | omega | (simp; done) | (simp; omega))))) (flat_len Ow.enc_len _) Hx.out).mono ?_
  rintro e w14 ⟨rfl, own14, hg14, hb14⟩
  have hs14 := hb14.size
  have hl6 := row6.lt
  have hl7 := row7.lt
  have h67 : g6 < g7 := by omega
  have r7 := (row7.to (show Below w7.heap.size w7 w13 from (by repeat' (first | (with_reducible exact Below.refl _ _) | (with_reducible refine Below.alloc ?_ ?_ _) | (with_reducible refine Below.setCell ?_ ?_ _) | (with_reducible refine Below.drew ?_) | (with_reducible refine Below.trans ?_ (Below.mono (by with_reducible assumption) ?_)) | omega | (simp; done) | (simp; omega))))).grown hg14 (show some g7 ≠ some g6 by simp; omega)
  have Hr7 := Lib.hid r7
  have ownM1 := (own8.to (show Below w8.heap.size w8 w13 from (by repeat' (first | (with_reducible exact Below.refl _ _) | (with_reducible refine Below.alloc ?_ ?_ _) | (with_reducible refine Below.setCell ?_ ?_ _) | (with_reducible refine Below.drew ?_) | (with_reducible refine Below.trans ?_ (Below.mono (by with_reducible assumption) ?_)) | omega | (simp; done) | (simp; omega))))).other hg14 (show g6 < w7.heap.size by omega)
  have HM1 := Lib.hid ownM1
  clear r7 ownM1
  go_wp2_with fail
  refine (markStringS_row g7 _ hs.length (mkz xs.length 3) _ _ Hr7.out (by rw [flat_len se_len, Nat.mul_one]) (by omega) (by unfold mkz; omega) (by omega)).mono ?_
  rintro e w15 ⟨rfl, hg15⟩
  have hs15 := hg15.size
  have hb15 : Below w6.heap.size w14 w15 := grown_below hg15 hg7 (by omega)
  have ownM := HM1.out.other hg15 hl7
  go_wp2_with fail
  refine (eqOwnerS_same _ _ _ _ ys _ ((ownM.to (by repeat' (first | (with_reducible exact Below.refl _ _) | (with_reducible refine Below.alloc ?_ ?_ _) | (with_reducible refine Below.setCell ?_ ?_ _) | (with_reducible refine Below.drew ?_) | (with_reducible refine Below.trans ?_ (Below.mono (by with_reducible assumption) ?_)) | omega | (simp; done) | (simp; omega)))).rd Ow.enc_len) ((own5.to (by repeat' (first | (with_reducible exact Below.refl _ _) | (with_reducible refine Below.alloc ?_ ?_ _) | (with_reducible refine Below.setCell ?_ ?_ _) | (with_reducible refine Below.drew ?_) | (with_reducible refine Below.trans ?_ (Below.mono (by with_reducible assumption) ?_)) | omega | (simp; done) | (simp; omega)))).rd Ow.enc_len) Hy.out).mono ?_
  rintro e w16 ⟨rfl, hb16⟩
  have hs16 := hb16.size
  go_wp2_with fail
  refine (markOwnerS_own _ _ _ _ _ _ (ownM.to (by repeat' (first | (with_reducible exact Below.refl _ _) | (with_reducible refine Below.alloc ?_ ?_ _) | (with_reducible refine Below.setCell ?_ ?_ _) | (with_reducible refine Below.drew ?_) | (with_reducible refine Below.trans ?_ (Below.mono (by with_reducible assumption) ?_)) | omega | (simp; done) | (simp; omega)))) (flat_len Ow.enc_len _) Hy2.out).mono ?_
  rintro e w17 ⟨rfl, own17, hg17, hb17⟩
  have hs17 := hb17.size
  go_wp2_with fail
  refine (heldOwnerS_own _ _ _ _ _ (own17.to (by repeat' (first | (with_reducible exact Below.refl _ _) | (with_reducible refine Below.alloc ?_ ?_ _) | (with_reducible refine Below.setCell ?_ ?_ _) | (with_reducible refine Below.drew ?_) | (with_reducible refine Below.trans ?_ (Below.mono (by with_reducible assumption) ?_)) | omega | (simp; done) | (simp; omega)))) Hy2.out).mono ?_
  rintro e w18 ⟨rfl, hb18⟩
  have hs18 := hb18.size
  go_wp2_with fail
  refine (toOwnerS_cap A c xs _ (h.to (by repeat' (first | (with_reducible exact Below.refl _ _) | (with_reducible refine Below.alloc ?_ ?_ _) | (with_reducible refine Below.setCell ?_ ?_ _) | (with_reducible refine Below.drew ?_) | (with_reducible refine Below.trans ?_ (Below.mono (by with_reducible assumption) ?_)) | omega | (simp; done) | (simp; omega)))) hx).mono ?_
  rintro e w19 ⟨g19, rfl, hg19, row19, hb19⟩
  have hs19 := hb19.size
  go_wp2_with fail
  refine (toStringS_cap A' c' hs _ (h'.to (by repeat' (first | (with_reducible exact Below.refl _ _) | (with_reducible refine Below.alloc ?_ ?_ _) | (with_reducible refine Below.setCell ?_ ?_ _) | (with_reducible refine Below.drew ?_) | (with_reducible refine Below.trans ?_ (Below.mono (by with_reducible assumption) ?_)) | omega | (simp; done) | (simp; omega)))) hx').mono ?_
  rintro e w20 ⟨g20, rfl, hg20, row20, hb20⟩
  have hs20 := hb20.size
  go_wp2_with fail
  refine (HI.out _ _ _ _ _ (row19.rdTo Ow.enc_len (by repeat' (first | (with_reducible exact Below.refl _ _) | (with_reducible refine Below.alloc ?_ ?_ _) | (with_reducible refine Below.setCell ?_ ?_ _) | (with_reducible refine Below.drew ?_) | (with_reducible refine Below.trans ?_ (Below.mono (by with_reducible assumption) ?_)) | omega | (simp; done) | (simp; omega)))) (row20.rdTo se_len (by repeat' (first | (with_reducible exact Below.refl _ _) | (with_reducible refine Below.alloc ?_ ?_ _) | (with_reducible refine Below.setCell ?_ ?_ _) | (with_reducible refine Below.drew ?_) | (with_reducible refine Below.trans ?_ (Below.mono (by with_reducible assumption) ?_)) | omega | (simp; done) | (simp; omega)))) (Nat.le_refl _) (Nat.le_refl _)).mono ?_
  rintro e w21 ⟨A21, c21, rfl, own21, hb21⟩
  have hs21 := hb21.size
  go_wp2_with fail
  refine (eqOwnerS_same _ _ _ _ ys _ ((own21.to (by repeat' (first | (with_reducible exact Below.refl _ _) | (with_reducible refine Below.alloc ?_ ?_ _) | (with_reducible refine Below.setCell ?_ ?_ _) | (with_reducible refine Below.drew ?_) | (with_reducible refine Below.trans ?_ (Below.mono (by with_reducible assumption) ?_)) | omega | (simp; done) | (simp; omega)))).rd Ow.enc_len) ((own5.to (by repeat' (first | (with_reducible exact Below.refl _ _) | (with_reducible refine Below.alloc ?_ ?_ _) | (with_reducible refine Below.setCell ?_ ?_ _) | (with_reducible refine Below.drew ?_) | (with_reducible refine Below.trans ?_ (Below.mono (by with_reducible assumption) ?_)) | omega | (simp; done) | (simp; omega)))).rd Ow.enc_len) Hy.out).mono ?_
  rintro e w22 ⟨rfl, hb22⟩
  have hs22 := hb22.size
  go_wp2_with fail
  refine (heldOwnerS_own _ _ _ _ _ (own17.to (by repeat' (first | (with_reducible exact Below.refl _ _) | (with_reducible refine Below.alloc ?_ ?_ _) | (with_reducible refine Below.setCell ?_ ?_ _) | (with_reducible refine Below.drew ?_) | (with_reducible refine Below.trans ?_ (Below.mono (by with_reducible assumption) ?_)) | omega | (simp; done) | (simp; omega)))) Hy2.out).mono ?_
  rintro e w23 ⟨rfl, hb23⟩
  have hs23 := hb23.size
  go_wp2
  go_ret
  exact ⟨rfl, (by repeat' (first | (with_reducible exact Below.refl _ _) | (with_reducible refine Below.alloc ?_ ?_ _) | (with_reducible refine Below.setCell ?_ ?_ _) | (with_reducible refine Below.drew ?_) | (with_reducible refine Below.trans ?_ (Below.mono (by with_reducible assumption) ?_)) | omega | (simp; done) | (simp; omega)))⟩
end Go.Proofs.YtimdnihadhbjpaaDoor
