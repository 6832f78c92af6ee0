/- Law: AreOwners (chapter 22). -/
import Derived.Test.YtimdnihadhbjpaaDoorAreS
set_option linter.unusedSimpArgs false
set_option linter.unusedVariables false
namespace Go.Proofs.YtimdnihadhbjpaaDoor
open Go.RowKit Go.Sort Go.Salt
attribute [local go_sem] cell_rg
theorem iAreOwners_ret (A : Option Addr) (c : Nat) (xs : List Ow) : True := trivial
set_option maxHeartbeats 400000 in
theorem sAreOwners_any (A : Option Addr) (c : Nat) (xs : List Ow) (w : World) (h : Rd w w.heap.size A 3 Ow.enc xs) (hx : xs.length ≤ 1048576) (hz : OwSz 1048576 xs) :
    Calls Tryd.prog 16 #[.slice A xs.length c] w fun e w' => e = .returned (.bool (arB xs)) ∧ Below w.heap.size w w' := by
  have hc := l22Good_any A c xs w h hx hz
  go_enter Tryd.func16, Tryd.ntmps16
  go_wp2_with fail
  refine hc.mono ?_
  rintro e w1 ⟨rfl, hb1⟩
  have hs1 := hb1.size
  go_wp2
  go_ret
  exact ⟨rfl, (by repeat' (first | (with_reducible exact Below.refl _ _) | (with_reducible refine Below.alloc ?_ ?_ _) | (with_reducible refine Below.setCell ?_ ?_ _) | (with_reducible refine Below.drew ?_) | (with_reducible refine Below.trans ?_ (Below.mono (by with_reducible assumption) ?_)) | omega | (simp; done) | (simp; omega)))⟩
set_option maxRecDepth 10000 in
set_option maxHeartbeats 8000000 in
theorem FnExactAreOwners_law (A : Option Addr) (c : Nat) (xs : List Ow)  (w : World) (h : Rd w w.heap.size A 3 Ow.enc xs) (hm : xs.length ≤ maxLen) (hz : OwSz maxLen xs) :
    Calls Tryd.prog 3 #[.slice A xs.length c] w fun e w' => e = .returned (.bool true) ∧ Below w.heap.size w w' := by
  have HZ := Lib.hid hz
  clear hz
  have hI := fun (A : Option Addr) (c : Nat) (w : World) (h : Rd w w.heap.size A 3 Ow.enc xs) (hx : xs.length ≤ 1048576) (hc : xs.length ≤ c) (hz : OwSz 1048576 xs) => iAreOwners_any A c xs  w h hx hc hz
  have hS := fun (A : Option Addr) (c : Nat) (w : World) (h : Rd w w.heap.size A 3 Ow.enc xs) (hx : xs.length ≤ 1048576) (hz : OwSz 1048576 xs) => sAreOwners_any A c xs  w h hx hz
  obtain ⟨r0, hr0⟩ : ∃ r, arB xs = r := ⟨_, rfl⟩
  rw [hr0] at hI hS
  have HI := Lib.hid hI
  have HS := Lib.hid hS
  clear hI hS hr0
  go_enter Tryd.func3, Tryd.ntmps3
  go_wp2_with fail
  refine (szOwnerS_any A c xs _ (h.to (by repeat' (first | (with_reducible exact Below.refl _ _) | (with_reducible refine Below.alloc ?_ ?_ _) | (with_reducible refine Below.setCell ?_ ?_ _) | (with_reducible refine Below.drew ?_) | (with_reducible refine Below.trans ?_ (Below.mono (by with_reducible assumption) ?_)) | omega | (simp; done) | (simp; omega)))) hm HZ.out).mono ?_
  rintro e w1 ⟨⟨z, rfl, hzz⟩, hb1⟩
  have hs1 := hb1.size
  rcases hzz with rfl | ⟨hz0, hx, hsz⟩
  · go_wp2
    go_ret
    exact ⟨rfl, (by repeat' (first | (with_reducible exact Below.refl _ _) | (with_reducible refine Below.alloc ?_ ?_ _) | (with_reducible refine Below.setCell ?_ ?_ _) | (with_reducible refine Below.drew ?_) | (with_reducible refine Below.trans ?_ (Below.mono (by with_reducible assumption) ?_)) | omega | (simp; done) | (simp; omega)))⟩
  · have hz1 : ¬ z < 0 := by omega
    have HSZ := Lib.hid hsz
    clear hsz HZ
    go_wp2_with fail
    refine (toOwnerS_cap A c xs _ (h.to (by repeat' (first | (with_reducible exact Below.refl _ _) | (with_reducible refine Below.alloc ?_ ?_ _) | (with_reducible refine Below.setCell ?_ ?_ _) | (with_reducible refine Below.drew ?_) | (with_reducible refine Below.trans ?_ (Below.mono (by with_reducible assumption) ?_)) | omega | (simp; done) | (simp; omega)))) hx).mono ?_
    rintro e w2 ⟨g2, rfl, hg2, row2, hb2⟩
    have hs2 := hb2.size
    go_wp2_with fail
    refine (HS.out _ _ _ (row2.rdTo Ow.enc_len (by repeat' (first | (with_reducible exact Below.refl _ _) | (with_reducible refine Below.alloc ?_ ?_ _) | (with_reducible refine Below.setCell ?_ ?_ _) | (with_reducible refine Below.drew ?_) | (with_reducible refine Below.trans ?_ (Below.mono (by with_reducible assumption) ?_)) | omega | (simp; done) | (simp; omega)))) hx HSZ.out).mono ?_
    rintro e w3 ⟨rfl, hb3⟩
    have hs3 := hb3.size
    go_wp2_with fail
    refine (toOwnerS_cap A c xs _ (h.to (by repeat' (first | (with_reducible exact Below.refl _ _) | (with_reducible refine Below.alloc ?_ ?_ _) | (with_reducible refine Below.setCell ?_ ?_ _) | (with_reducible refine Below.drew ?_) | (with_reducible refine Below.trans ?_ (Below.mono (by with_reducible assumption) ?_)) | omega | (simp; done) | (simp; omega)))) hx).mono ?_
    rintro e w4 ⟨g4, rfl, hg4, row4, hb4⟩
    have hs4 := hb4.size
    go_wp2_with fail
    refine (HI.out _ _ _ (row4.rdTo Ow.enc_len (by repeat' (first | (with_reducible exact Below.refl _ _) | (with_reducible refine Below.alloc ?_ ?_ _) | (with_reducible refine Below.setCell ?_ ?_ _) | (with_reducible refine Below.drew ?_) | (with_reducible refine Below.trans ?_ (Below.mono (by with_reducible assumption) ?_)) | omega | (simp; done) | (simp; omega)))) hx (Nat.le_refl _) HSZ.out).mono ?_
    rintro e w5 ⟨rfl, hb5⟩
    have hs5 := hb5.size
    go_wp2_with fail
    refine (toOwnerS_cap A c xs _ (h.to (by repeat' (first | (with_reducible exact Below.refl _ _) | (with_reducible refine Below.alloc ?_ ?_ _) | (with_reducible refine Below.setCell ?_ ?_ _) | (with_reducible refine Below.drew ?_) | (with_reducible refine Below.trans ?_ (Below.mono (by with_reducible assumption) ?_)) | omega | (simp; done) | (simp; omega)))) hx).mono ?_
    rintro e w6 ⟨g6, rfl, hg6, row6, hb6⟩
    have hs6 := hb6.size
    go_wp2_with fail
    refine (eqOwnerS_same _ _ _ _ xs _ (row4.rdTo Ow.enc_len (by repeat' (first | (with_reducible exact Below.refl _ _) | (with_reducible refine Below.alloc ?_ ?_ _) | (with_reducible refine Below.setCell ?_ ?_ _) | (with_reducible refine Below.drew ?_) | (with_reducible refine Below.trans ?_ (Below.mono (by with_reducible assumption) ?_)) | omega | (simp; done) | (simp; omega)))) (row6.rdTo Ow.enc_len (by repeat' (first | (with_reducible exact Below.refl _ _) | (with_reducible refine Below.alloc ?_ ?_ _) | (with_reducible refine Below.setCell ?_ ?_ _) | (with_reducible refine Below.drew ?_) | (with_reducible refine Below.trans ?_ (Below.mono (by with_reducible assumption) ?_)) | omega | (simp; done) | (simp; omega)))) hx).mono ?_
    rintro e w7 ⟨rfl, hb7⟩
    have hs7 := hb7.size
    go_wp2
    go_ret
    exact ⟨rfl, (by repeat' (first | (with_reducible exact Below.refl _ _) | (with_reducible refine Below.alloc ?_ ?_ _) | (with_reducible refine Below.setCell ?_ ?_ _) | (with_reducible refine Below.drew ?_) | (with_reducible refine Below.trans ?_ (Below.mono (by with_reducible assumption) ?_)) | omega | (simp; done) | (simp; omega)))⟩
end Go.Proofs.YtimdnihadhbjpaaDoor
