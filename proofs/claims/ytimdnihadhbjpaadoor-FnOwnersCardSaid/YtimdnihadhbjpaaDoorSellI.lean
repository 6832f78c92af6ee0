/- Contracts: a share is sold, by the program (chapter 22). -/
import Derived.Test.YtimdnihadhbjpaaDoorSellS
set_option linter.unusedSimpArgs false
set_option linter.unusedVariables false
namespace Go.Proofs.YtimdnihadhbjpaaDoor
open Go.RowKit Go.Sort Go.Salt
attribute [local go_sem] cell_rg
set_option maxRecDepth 100000 in
set_option maxHeartbeats 16000000 in
theorem iSellShare_main (A : Option Addr) (c : Nat) (xs : List Ow) (f t : ByteArray) (num den : Int) (w : World) (h : Rd w w.heap.size A 3 Ow.enc xs) (hx : xs.length ≤ 1048576) (hc : xs.length ≤ c) (hz : OwSz 1048576 xs) (hsf : f.size ≤ 1048576) (hst : t.size ≤ 1048576)
    (hg : arB xs = true) (hat : ¬ owAtN xs f xs.length < 0) (hft : f ≠ t) (hn : inB num 1 1000 = true) (hd : inB den 1 1000 = true) :
    Calls Tryd.prog 37 #[.slice A xs.length c, .string f, .string t, .int .i64 num, .int .i64 den] w fun e w' => MadeAt w 54 ((slL xs f t num den).flatMap Ow.enc) (slL xs f t num den).length (fun v => .returned (.tuple #[v, .bool (slB xs f t num den)])) e w' := by
  have HX := Lib.hid h
  have HZ := Lib.hid hz
  have Hg := Lib.hid hg
  have HBD := Lib.hid (arOK_bd hg)
  have hl := arOK_len hg
  clear h hz hg
  have hip : 0 < xs.length := by have := (owAtN_ge (xs := xs) (s := f) (k := xs.length)).2; omega
  obtain ⟨ad, rfl⟩ : ∃ ad, A = some ad := by
    obtain ⟨b, o, e, _⟩ := HX.out hip
    exact ⟨_, e⟩
  rcases owAtN_or xs f xs.length with ⟨h9, _⟩ | ⟨i, hi, hai, hf1, hf2⟩
  · omega
  have Hat := Lib.hid hai
  have hi0 : ¬ (i : Int) < 0 := by omega
  have hiI : (i : Int) < xs.length := by omega
  have hiI0 : (0 : Int) ≤ i := by omega
  have hft2 := ba_beq hft
  have HF1 := Lib.hid hf1
  have HF2 := Lib.hid hf2
  have HFT := Lib.hid hft
  have hnr := inB_iff.1 hn
  have hdr := inB_iff.1 hd
  have HCC : Hid (slC xs f t num den = true) := Lib.hid (by unfold slC; rw [Hg.out, hai, hn, hd, decide_eq_true hiI0, decide_eq_true hft]; rfl)
  have hpos : ∀ j, 0 < (el xs j).n ∧ 0 < (el xs j).d := fun j => by have := HBD.out j; omega
  have HP := Lib.hid (fun h : 0 ≤ sellN (el xs i) num den => (show slR xs f t num den = sellL xs i t num den from sell_eq hi hf1 hf2 hft hpos (by omega) (by omega) h))
  have HN := Lib.hid (fun h : sellN (el xs i) num den < 0 => (show arB (slR xs f t num den) = false from by
    obtain ⟨h1, h2⟩ := sell_neg hi hf1 hf2 hft hpos (show 0 < num by omega) (show 0 < den by omega) h
    exact arB_no h1 (owOK_neg (by have : (el (slR xs f t num den) i).n < 0 := h2; omega))))
  have ub := HBD.out i
  have b1 := mulb (a := (el xs i).n) (b := den) (by omega) (by omega)
  have b2 := mulb (a := num) (b := (el xs i).d) (by omega) (by omega)
  have b3 := mulb (a := (el xs i).d) (b := den) (by omega) (by omega)
  have b4 := Int.mul_pos (show 0 < (el xs i).d by omega) (show 0 < den by omega)
  obtain ⟨lf, hLF⟩ : ∃ l, sellN (el xs i) num den = l := ⟨_, rfl⟩
  have hLF2 : (el xs i).n * den - num * (el xs i).d = lf := hLF
  obtain ⟨p1, hp1⟩ : ∃ p, (el xs i).n * den = p := ⟨_, rfl⟩
  obtain ⟨p2, hp2⟩ : ∃ p, num * (el xs i).d = p := ⟨_, rfl⟩
  obtain ⟨m, hm⟩ : ∃ p, (el xs i).d * den = p := ⟨_, rfl⟩
  rw [hp1] at b1 hLF2
  rw [hp2] at b2 hLF2
  rw [hm] at b3 b4
  have v1 : wrap64 ((el xs i).n * den) = p1 := by rw [hp1]; exact wrap_in' ⟨by omega, by omega⟩
  have v2 : wrap64 (num * (el xs i).d) = p2 := by rw [hp2]; exact wrap_in' ⟨by omega, by omega⟩
  have v3 : wrap64 (p1 - p2) = lf := by rw [hLF2]; exact wrap_in' ⟨by omega, by omega⟩
  have v4 : wrap64 ((el xs i).d * den) = m := by rw [hm]; exact wrap_in' ⟨by omega, by omega⟩
  have hcc : 0 ≤ lf → ∀ W, Calls Tryd.prog 84 #[.int .i64 lf, .int .i64 m] W fun e w' => e = .returned (.tuple #[.int .i64 (rN lf m), .int .i64 (rD lf m)]) ∧ Below W.heap.size W w' := fun h W => reduced_any lf m W h b4 (by omega) (by omega)
  obtain ⟨u, hU⟩ : ∃ u, rN lf m = u := ⟨_, rfl⟩
  obtain ⟨v, hV⟩ : ∃ u, rD lf m = u := ⟨_, rfl⟩
  rw [hU, hV] at hcc
  rw [hLF] at HP HN
  have HC0 := Lib.hid hcc
  clear hai hcc hp1 hp2 hf1 hf2 hft hpos
  go_enter Tryd.func37, Tryd.ntmps37
  go_wp2_with fail
  refine (ownerAt_any _ c xs.length xs f _ (HX.out.to (by repeat' (first | (with_reducible exact Below.refl _ _) | (with_reducible refine Below.alloc ?_ ?_ _) | (with_reducible refine Below.setCell ?_ ?_ _) | (with_reducible refine Below.drew ?_) | (with_reducible refine Below.trans ?_ (Below.mono (by with_reducible assumption) ?_)) | omega | (simp; done) | (simp; omega)))) hx rfl).mono ?_
  rintro e w1 ⟨rfl, hb1⟩
  have hs1 := hb1.size
  rw [Hat.out]
  go_wp2_with fail
  refine (iAreOwners_any _ c xs _ (HX.out.to (by repeat' (first | (with_reducible exact Below.refl _ _) | (with_reducible refine Below.alloc ?_ ?_ _) | (with_reducible refine Below.setCell ?_ ?_ _) | (with_reducible refine Below.drew ?_) | (with_reducible refine Below.trans ?_ (Below.mono (by with_reducible assumption) ?_)) | omega | (simp; done) | (simp; omega)))) hx hc HZ.out).mono ?_
  rintro e w2 ⟨rfl, hb2⟩
  have hs2 := hb2.size
  rw [Hg.out]
  go_wp2_with fail
  (go_at_call 62; refine (isPart_any _ _ _).mono ?_; rintro e w1 ⟨rfl, rfl⟩)
  rw [hn, hd]
  obtain ⟨b, o, e, hB, c0, c1, c2⟩ := ow_cells (HX.out.to (show Below w.heap.size w w2 from (by repeat' (first | (with_reducible exact Below.refl _ _) | (with_reducible refine Below.alloc ?_ ?_ _) | (with_reducible refine Below.setCell ?_ ?_ _) | (with_reducible refine Below.drew ?_) | (with_reducible refine Below.trans ?_ (Below.mono (by with_reducible assumption) ?_)) | omega | (simp; done) | (simp; omega))))) hi
  obtain rfl : ad = ⟨b, o, none⟩ := by simpa using e
  clear e
  go_upto_region 5 with (fail)
  refine cut_world (fun W => Row W w2.heap.size 54 [.string (el xs i).s, .int .i64 (el xs i).n, .int .i64 (el xs i).d] ∧ Below w.heap.size w W) ⟨by first | exact Row.new _ _ _ | exact (Row.new _ _ _).to (by repeat' (first | (with_reducible exact Below.refl _ _) | (with_reducible refine Below.alloc ?_ ?_ _) | (with_reducible refine Below.setCell ?_ ?_ _) | (with_reducible refine Below.drew ?_) | (with_reducible refine Below.trans ?_ (Below.mono (by with_reducible assumption) ?_)) | omega | (simp; done) | (simp; omega))), (by repeat' (first | (with_reducible exact Below.refl _ _) | (with_reducible refine Below.alloc ?_ ?_ _) | (with_reducible refine Below.setCell ?_ ?_ _) | (with_reducible refine Below.drew ?_) | (with_reducible refine Below.trans ?_ (Below.mono (by with_reducible assumption) ?_)) | omega | (simp; done) | (simp; omega)))⟩ ?_
  obtain ⟨gB, hgB⟩ : ∃ g, w2.heap.size = g := ⟨_, rfl⟩
  rw [hgB]
  have hgBw : w.heap.size ≤ gB := by omega
  clear c0 c1 c2 hb1 hb2 hs1 hs2 hgB
  rintro w3 ⟨hbx, hb3⟩
  have hs3 := hb3.size
  have HX3 := Lib.hid hbx
  obtain ⟨x0, x1, x2⟩ := row3o hbx
  have hbl := hbx.lt
  clear hbx
  rcases Int.lt_or_le lf 0 with hneg | hnn
  · have HB : Hid (slB xs f t num den = false) := Lib.hid (by
      have hN := HN.out hneg
      unfold slB; rw [hN, Bool.and_false])
    go_wp2
    go_ret2
    exact sl_no HB.out (MadeAt.nil (fun v => .returned (.tuple #[v, .bool false])) (by repeat' (first | (with_reducible exact Below.refl _ _) | (with_reducible refine Below.alloc ?_ ?_ _) | (with_reducible refine Below.setCell ?_ ?_ _) | (with_reducible refine Below.drew ?_) | (with_reducible refine Below.trans ?_ (Below.mono (by with_reducible assumption) ?_)) | omega | (simp; done) | (simp; omega))))
  have hnn' : ¬ lf < 0 := by omega
  have HE := Lib.hid (HP.out hnn)
  have HC := Lib.hid (HC0.out hnn)
  go_wp2_with fail
  refine (gets_any _ c xs t num den _ (HX.out.to (by repeat' (first | (with_reducible exact Below.refl _ _) | (with_reducible refine Below.alloc ?_ ?_ _) | (with_reducible refine Below.setCell ?_ ?_ _) | (with_reducible refine Below.drew ?_) | (with_reducible refine Below.trans ?_ (Below.mono (by with_reducible assumption) ?_)) | omega | (simp; done) | (simp; omega)))) (by omega) (fun j _ _ => by have := HBD.out j; omega) (by omega)).mono ?_
  rintro e w4 ⟨g4, c4, rfl, k41, k42, hg4, row4, hb4⟩
  have hs4 := hb4.size
  have hl4 := getsL_len xs t num den
  have hz4 := HZ.out.gets hst num den
  have hbx4 := HX3.out.to hb4
  obtain ⟨ys, hys⟩ : ∃ ys, getsL xs t num den = ys := ⟨_, rfl⟩
  rw [hys] at row4 hl4 hz4 k41
  rw [hys]
  have hg4w : w.heap.size ≤ g4 := by omega
  have hg4b : gB ≠ g4 := by omega
  have hiy : i < ys.length := by omega
  have HB4 : Hid (Below w.heap.size w w4) := Lib.hid (by repeat' (first | (with_reducible exact Below.refl _ _) | (with_reducible refine Below.alloc ?_ ?_ _) | (with_reducible refine Below.setCell ?_ ?_ _) | (with_reducible refine Below.drew ?_) | (with_reducible refine Below.trans ?_ (Below.mono (by with_reducible assumption) ?_)) | omega | (simp; done) | (simp; omega)))
  have HR4 := Lib.hid row4
  by_cases h0 : lf = 0
  · obtain rfl := h0
    have HE' : Hid (slR xs f t num den = delL ys i) := Lib.hid (by rw [HE.out, sellL, hLF, if_pos rfl, hys])
    clear hys row4 HN HP
    go_wp2_with fail
    refine (deleteOw_row g4 c4 ys i w4 HR4.out hiy k41 k42).mono ?_
    rintro e w5 ⟨rfl, hrow5, hgr5⟩
    have hrow5 : Row w5 g4 54 ((delL ys i).flatMap Ow.enc) := hrow5
    have hdl := del_len hiy
    have hz5 := hz4.del hiy
    rw [← hdl]
    have hb5 : Below w.heap.size w w5 := HB4.out.trans (grown_below hgr5 hg4w (by omega))
    have hs5 := hb5.size
    have hr5 := hrow5.rd Ow.enc_len hrow5.lt
    have HR5 := Lib.hid hrow5
    obtain ⟨zs, hzs⟩ : ∃ zs, delL ys i = zs := ⟨_, rfl⟩
    rw [hzs] at HR5 hr5 hz5 hdl HE'
    rw [hzs]
    have hzl : zs.length ≤ ys.length := by omega
    clear hrow5 hzs hdl
    cases hG : arB zs
    · have HB : Hid (slB xs f t num den = false) := Lib.hid (by unfold slB; rw [HE'.out, hG, Bool.and_false])
      go_wp2_with fail
      refine (iAreOwners_any _ c4 zs _ (hr5.to (by repeat' (first | (with_reducible exact Below.refl _ _) | (with_reducible refine Below.alloc ?_ ?_ _) | (with_reducible refine Below.setCell ?_ ?_ _) | (with_reducible refine Below.drew ?_) | (with_reducible refine Below.trans ?_ (Below.mono (by with_reducible assumption) ?_)) | omega | (simp; done) | (simp; omega)))) (by omega) (by omega) hz5).mono ?_
      rintro e w7 ⟨rfl, hb7⟩
      have hs7 := hb7.size
      rw [hG]
      go_wp2
      go_ret2
      exact sl_no HB.out (MadeAt.nil (fun v => .returned (.tuple #[v, .bool false])) (by repeat' (first | (with_reducible exact Below.refl _ _) | (with_reducible refine Below.alloc ?_ ?_ _) | (with_reducible refine Below.setCell ?_ ?_ _) | (with_reducible refine Below.drew ?_) | (with_reducible refine Below.trans ?_ (Below.mono (by with_reducible assumption) ?_)) | omega | (simp; done) | (simp; omega))))
    · have HB : Hid (slB xs f t num den = true) := Lib.hid (by unfold slB; rw [HE'.out, hG, HCC.out]; rfl)
      go_wp2_with fail
      refine (iAreOwners_any _ c4 zs _ (hr5.to (by repeat' (first | (with_reducible exact Below.refl _ _) | (with_reducible refine Below.alloc ?_ ?_ _) | (with_reducible refine Below.setCell ?_ ?_ _) | (with_reducible refine Below.drew ?_) | (with_reducible refine Below.trans ?_ (Below.mono (by with_reducible assumption) ?_)) | omega | (simp; done) | (simp; omega)))) (by omega) (by omega) hz5).mono ?_
      rintro e w7 ⟨rfl, hb7⟩
      have hs7 := hb7.size
      rw [hG]
      go_wp2
      go_ret2
      exact sl_yes HE'.out HB.out ⟨_, c4, rfl, OwnAt.row hg4w (HR5.out.to hb7), hb5.trans (hb7.mono (by omega))⟩
  · have HE' : Hid (slR xs f t num den = ys.set i ⟨(el ys i).s, u, v⟩) := Lib.hid (by rw [HE.out, sellL, hLF, if_neg h0, hys, hm, hU, hV])
    have hbl4 := hbx4.lt
    obtain ⟨x0, x1, x2⟩ := row3o hbx4
    have hB1 := row4.lt
    obtain ⟨bb, oo, ee, _, q0, q1, q2⟩ := ow_cells (row4.rd Ow.enc_len hB1) hiy
    obtain ⟨rfl, rfl⟩ : g4 = bb ∧ 0 = oo := by simpa using ee
    simp only [Nat.zero_add] at q0 q1 q2
    have f1 := row4.frozen (i * 3 + 1)
    have f2 := row4.frozen (i * 3 + 2)
    have hiyI : (i : Int) < ys.length := by omega
    clear hys row4 HN HP hbx4 ee
    go_upto_region 11 with (fail)
    go_wp2_with fail
    refine (HC.out _).mono ?_
    rintro e w6 ⟨rfl, hb6⟩
    have hs6 := hb6.size
    have hr6 := HR4.out.to hb6
    have r6 := (hr6.set (j := i * 3 + 1) (.int .i64 u)).set (j := i * 3 + 2) (.int .i64 v)
    rw [set_ow2 ys i hiy rfl] at r6
    have hB1 := hr6.lt
    obtain ⟨bb, oo, ee, _, q0, q1, q2⟩ := ow_cells (hr6.rd Ow.enc_len hB1) hiy
    obtain ⟨rfl, rfl⟩ : g4 = bb ∧ 0 = oo := by simpa using ee
    simp only [Nat.zero_add] at q0 q1 q2
    have f1 := hr6.frozen (i * 3 + 1)
    have f2 := hr6.frozen (i * 3 + 2)
    have R6 := Lib.hid r6
    clear r6 hr6 ee
    go_upto_region 12 with (fail)
    refine cut_world (fun W => Row W g4 54 ((ys.set i (⟨(el ys i).s, u, v⟩ : Ow)).flatMap Ow.enc) ∧ Below w.heap.size w W) ⟨R6.out, (HB4.out.trans (hb6.mono (by omega))).setCell (by simpa using hg4w) _ |>.setCell (by simpa using hg4w) _⟩ ?_
    have hdl : (ys.set i (⟨(el ys i).s, u, v⟩ : Ow)).length = ys.length := List.length_set
    have hz5 := hz4.put (j := i) (u := ⟨(el ys i).s, u, v⟩) (hz4 i hiy)
    rw [← hdl]
    clear q0 q1 q2 f1 f2 x0 x1 x2
    rintro w5 ⟨hrow5, hb5⟩
    have hs5 := hb5.size
    have hr5 := hrow5.rd Ow.enc_len hrow5.lt
    have HR5 := Lib.hid hrow5
    obtain ⟨zs, hzs⟩ : ∃ zs, ys.set i (⟨(el ys i).s, u, v⟩ : Ow) = zs := ⟨_, rfl⟩
    rw [hzs] at HR5 hr5 hz5 hdl HE'
    rw [hzs]
    have hzl : zs.length ≤ ys.length := by omega
    clear hrow5 hzs hdl
    cases hG : arB zs
    · have HB : Hid (slB xs f t num den = false) := Lib.hid (by unfold slB; rw [HE'.out, hG, Bool.and_false])
      go_wp2_with fail
      refine (iAreOwners_any _ c4 zs _ (hr5.to (by repeat' (first | (with_reducible exact Below.refl _ _) | (with_reducible refine Below.alloc ?_ ?_ _) | (with_reducible refine Below.setCell ?_ ?_ _) | (with_reducible refine Below.drew ?_) | (with_reducible refine Below.trans ?_ (Below.mono (by with_reducible assumption) ?_)) | omega | (simp; done) | (simp; omega)))) (by omega) (by omega) hz5).mono ?_
      rintro e w7 ⟨rfl, hb7⟩
      have hs7 := hb7.size
      rw [hG]
      go_wp2
      go_ret2
      exact sl_no HB.out (MadeAt.nil (fun v => .returned (.tuple #[v, .bool false])) (by repeat' (first | (with_reducible exact Below.refl _ _) | (with_reducible refine Below.alloc ?_ ?_ _) | (with_reducible refine Below.setCell ?_ ?_ _) | (with_reducible refine Below.drew ?_) | (with_reducible refine Below.trans ?_ (Below.mono (by with_reducible assumption) ?_)) | omega | (simp; done) | (simp; omega))))
    · have HB : Hid (slB xs f t num den = true) := Lib.hid (by unfold slB; rw [HE'.out, hG, HCC.out]; rfl)
      go_wp2_with fail
      refine (iAreOwners_any _ c4 zs _ (hr5.to (by repeat' (first | (with_reducible exact Below.refl _ _) | (with_reducible refine Below.alloc ?_ ?_ _) | (with_reducible refine Below.setCell ?_ ?_ _) | (with_reducible refine Below.drew ?_) | (with_reducible refine Below.trans ?_ (Below.mono (by with_reducible assumption) ?_)) | omega | (simp; done) | (simp; omega)))) (by omega) (by omega) hz5).mono ?_
      rintro e w7 ⟨rfl, hb7⟩
      have hs7 := hb7.size
      rw [hG]
      go_wp2
      go_ret2
      exact sl_yes HE'.out HB.out ⟨_, c4, rfl, OwnAt.row hg4w (HR5.out.to hb7), hb5.trans (hb7.mono (by omega))⟩
set_option maxRecDepth 10000 in
set_option maxHeartbeats 8000000 in
theorem iSellShare_any (A : Option Addr) (c : Nat) (xs : List Ow) (f t : ByteArray) (num den : Int) (w : World) (h : Rd w w.heap.size A 3 Ow.enc xs) (hx : xs.length ≤ 1048576) (hc : xs.length ≤ c) (hz : OwSz 1048576 xs) (hsf : f.size ≤ 1048576) (hst : t.size ≤ 1048576) :
    Calls Tryd.prog 37 #[.slice A xs.length c, .string f, .string t, .int .i64 num, .int .i64 den] w fun e w' => MadeAt w 54 ((slL xs f t num den).flatMap Ow.enc) (slL xs f t num den).length (fun v => .returned (.tuple #[v, .bool (slB xs f t num den)])) e w' := by
  have HX := Lib.hid h
  have HZ := Lib.hid hz
  cases hg : arB xs
  · have HB : Hid (slB xs f t num den = false) := Lib.hid (by simp [slB, slC, hg])
    have Hg := Lib.hid hg
    obtain ⟨ai, hai0⟩ : ∃ a, owAtN xs f xs.length = a := ⟨_, rfl⟩
    have Hai := Lib.hid hai0
    clear h hz hg hai0
    go_enter Tryd.func37, Tryd.ntmps37
    go_wp2_with fail
    refine (ownerAt_any _ c xs.length xs f _ (HX.out.to (by repeat' (first | (with_reducible exact Below.refl _ _) | (with_reducible refine Below.alloc ?_ ?_ _) | (with_reducible refine Below.setCell ?_ ?_ _) | (with_reducible refine Below.drew ?_) | (with_reducible refine Below.trans ?_ (Below.mono (by with_reducible assumption) ?_)) | omega | (simp; done) | (simp; omega)))) hx rfl).mono ?_
    rintro e w1 ⟨rfl, hb1⟩
    have hs1 := hb1.size
    rw [Hai.out]
    go_wp2_with fail
    refine (iAreOwners_any _ c xs _ (HX.out.to (by repeat' (first | (with_reducible exact Below.refl _ _) | (with_reducible refine Below.alloc ?_ ?_ _) | (with_reducible refine Below.setCell ?_ ?_ _) | (with_reducible refine Below.drew ?_) | (with_reducible refine Below.trans ?_ (Below.mono (by with_reducible assumption) ?_)) | omega | (simp; done) | (simp; omega)))) hx hc HZ.out).mono ?_
    rintro e w2 ⟨rfl, hb2⟩
    have hs2 := hb2.size
    rw [Hg.out]
    go_wp2
    go_ret2
    exact sl_no HB.out (MadeAt.nil (fun v => .returned (.tuple #[v, .bool false])) (by repeat' (first | (with_reducible exact Below.refl _ _) | (with_reducible refine Below.alloc ?_ ?_ _) | (with_reducible refine Below.setCell ?_ ?_ _) | (with_reducible refine Below.drew ?_) | (with_reducible refine Below.trans ?_ (Below.mono (by with_reducible assumption) ?_)) | omega | (simp; done) | (simp; omega))))
  by_cases hat : owAtN xs f xs.length < 0
  · have HB : Hid (slB xs f t num den = false) := Lib.hid (by simp [slB, slC, show ¬ 0 ≤ owAtN xs f xs.length by omega])
    have Hg := Lib.hid hg
    have Hat := Lib.hid (owAtN_neg hat).1
    clear h hz hg hat
    go_enter Tryd.func37, Tryd.ntmps37
    go_wp2_with fail
    refine (ownerAt_any _ c xs.length xs f _ (HX.out.to (by repeat' (first | (with_reducible exact Below.refl _ _) | (with_reducible refine Below.alloc ?_ ?_ _) | (with_reducible refine Below.setCell ?_ ?_ _) | (with_reducible refine Below.drew ?_) | (with_reducible refine Below.trans ?_ (Below.mono (by with_reducible assumption) ?_)) | omega | (simp; done) | (simp; omega)))) hx rfl).mono ?_
    rintro e w1 ⟨rfl, hb1⟩
    have hs1 := hb1.size
    rw [Hat.out]
    go_wp2_with fail
    refine (iAreOwners_any _ c xs _ (HX.out.to (by repeat' (first | (with_reducible exact Below.refl _ _) | (with_reducible refine Below.alloc ?_ ?_ _) | (with_reducible refine Below.setCell ?_ ?_ _) | (with_reducible refine Below.drew ?_) | (with_reducible refine Below.trans ?_ (Below.mono (by with_reducible assumption) ?_)) | omega | (simp; done) | (simp; omega)))) hx hc HZ.out).mono ?_
    rintro e w2 ⟨rfl, hb2⟩
    have hs2 := hb2.size
    rw [Hg.out]
    go_wp2
    go_ret2
    exact sl_no HB.out (MadeAt.nil (fun v => .returned (.tuple #[v, .bool false])) (by repeat' (first | (with_reducible exact Below.refl _ _) | (with_reducible refine Below.alloc ?_ ?_ _) | (with_reducible refine Below.setCell ?_ ?_ _) | (with_reducible refine Below.drew ?_) | (with_reducible refine Below.trans ?_ (Below.mono (by with_reducible assumption) ?_)) | omega | (simp; done) | (simp; omega))))
  by_cases hft : f = t
  · subst hft
    have HB : Hid (slB xs f f num den = false) := Lib.hid (by simp [slB, slC])
    have Hg := Lib.hid hg
    obtain ⟨ai, hai0⟩ : ∃ a, owAtN xs f xs.length = a := ⟨_, rfl⟩
    rw [hai0] at hat
    have Hat := Lib.hid hai0
    clear h hz hg hai0
    go_enter Tryd.func37, Tryd.ntmps37
    go_wp2_with fail
    refine (ownerAt_any _ c xs.length xs f _ (HX.out.to (by repeat' (first | (with_reducible exact Below.refl _ _) | (with_reducible refine Below.alloc ?_ ?_ _) | (with_reducible refine Below.setCell ?_ ?_ _) | (with_reducible refine Below.drew ?_) | (with_reducible refine Below.trans ?_ (Below.mono (by with_reducible assumption) ?_)) | omega | (simp; done) | (simp; omega)))) hx rfl).mono ?_
    rintro e w1 ⟨rfl, hb1⟩
    have hs1 := hb1.size
    rw [Hat.out]
    go_wp2_with fail
    refine (iAreOwners_any _ c xs _ (HX.out.to (by repeat' (first | (with_reducible exact Below.refl _ _) | (with_reducible refine Below.alloc ?_ ?_ _) | (with_reducible refine Below.setCell ?_ ?_ _) | (with_reducible refine Below.drew ?_) | (with_reducible refine Below.trans ?_ (Below.mono (by with_reducible assumption) ?_)) | omega | (simp; done) | (simp; omega)))) hx hc HZ.out).mono ?_
    rintro e w2 ⟨rfl, hb2⟩
    have hs2 := hb2.size
    rw [Hg.out]
    go_wp2
    go_ret2
    exact sl_no HB.out (MadeAt.nil (fun v => .returned (.tuple #[v, .bool false])) (by repeat' (first | (with_reducible exact Below.refl _ _) | (with_reducible refine Below.alloc ?_ ?_ _) | (with_reducible refine Below.setCell ?_ ?_ _) | (with_reducible refine Below.drew ?_) | (with_reducible refine Below.trans ?_ (Below.mono (by with_reducible assumption) ?_)) | omega | (simp; done) | (simp; omega))))
  cases hn : inB num 1 1000
  · have HB : Hid (slB xs f t num den = false) := Lib.hid (by simp [slB, slC, hn])
    have Hg := Lib.hid hg
    have hft2 := ba_beq hft
    obtain ⟨ai, hai0⟩ : ∃ a, owAtN xs f xs.length = a := ⟨_, rfl⟩
    rw [hai0] at hat
    have Hat := Lib.hid hai0
    clear h hz hg hai0
    go_enter Tryd.func37, Tryd.ntmps37
    go_wp2_with fail
    refine (ownerAt_any _ c xs.length xs f _ (HX.out.to (by repeat' (first | (with_reducible exact Below.refl _ _) | (with_reducible refine Below.alloc ?_ ?_ _) | (with_reducible refine Below.setCell ?_ ?_ _) | (with_reducible refine Below.drew ?_) | (with_reducible refine Below.trans ?_ (Below.mono (by with_reducible assumption) ?_)) | omega | (simp; done) | (simp; omega)))) hx rfl).mono ?_
    rintro e w1 ⟨rfl, hb1⟩
    have hs1 := hb1.size
    rw [Hat.out]
    go_wp2_with fail
    refine (iAreOwners_any _ c xs _ (HX.out.to (by repeat' (first | (with_reducible exact Below.refl _ _) | (with_reducible refine Below.alloc ?_ ?_ _) | (with_reducible refine Below.setCell ?_ ?_ _) | (with_reducible refine Below.drew ?_) | (with_reducible refine Below.trans ?_ (Below.mono (by with_reducible assumption) ?_)) | omega | (simp; done) | (simp; omega)))) hx hc HZ.out).mono ?_
    rintro e w2 ⟨rfl, hb2⟩
    have hs2 := hb2.size
    rw [Hg.out]
    go_wp2_with fail
    (go_at_call 62; refine (isPart_any _ _ _).mono ?_; rintro e w1 ⟨rfl, rfl⟩)
    rw [hn]
    go_wp2
    go_ret2
    exact sl_no HB.out (MadeAt.nil (fun v => .returned (.tuple #[v, .bool false])) (by repeat' (first | (with_reducible exact Below.refl _ _) | (with_reducible refine Below.alloc ?_ ?_ _) | (with_reducible refine Below.setCell ?_ ?_ _) | (with_reducible refine Below.drew ?_) | (with_reducible refine Below.trans ?_ (Below.mono (by with_reducible assumption) ?_)) | omega | (simp; done) | (simp; omega))))
  cases hd : inB den 1 1000
  · have HB : Hid (slB xs f t num den = false) := Lib.hid (by simp [slB, slC, hd])
    have Hg := Lib.hid hg
    have hft2 := ba_beq hft
    obtain ⟨ai, hai0⟩ : ∃ a, owAtN xs f xs.length = a := ⟨_, rfl⟩
    rw [hai0] at hat
    have Hat := Lib.hid hai0
    clear h hz hg hai0
    go_enter Tryd.func37, Tryd.ntmps37
    go_wp2_with fail
    refine (ownerAt_any _ c xs.length xs f _ (HX.out.to (by repeat' (first | (with_reducible exact Below.refl _ _) | (with_reducible refine Below.alloc ?_ ?_ _) | (with_reducible refine Below.setCell ?_ ?_ _) | (with_reducible refine Below.drew ?_) | (with_reducible refine Below.trans ?_ (Below.mono (by with_reducible assumption) ?_)) | omega | (simp; done) | (simp; omega)))) hx rfl).mono ?_
    rintro e w1 ⟨rfl, hb1⟩
    have hs1 := hb1.size
    rw [Hat.out]
    go_wp2_with fail
    refine (iAreOwners_any _ c xs _ (HX.out.to (by repeat' (first | (with_reducible exact Below.refl _ _) | (with_reducible refine Below.alloc ?_ ?_ _) | (with_reducible refine Below.setCell ?_ ?_ _) | (with_reducible refine Below.drew ?_) | (with_reducible refine Below.trans ?_ (Below.mono (by with_reducible assumption) ?_)) | omega | (simp; done) | (simp; omega)))) hx hc HZ.out).mono ?_
    rintro e w2 ⟨rfl, hb2⟩
    have hs2 := hb2.size
    rw [Hg.out]
    go_wp2_with fail
    (go_at_call 62; refine (isPart_any _ _ _).mono ?_; rintro e w1 ⟨rfl, rfl⟩)
    rw [hn, hd]
    go_wp2
    go_ret2
    exact sl_no HB.out (MadeAt.nil (fun v => .returned (.tuple #[v, .bool false])) (by repeat' (first | (with_reducible exact Below.refl _ _) | (with_reducible refine Below.alloc ?_ ?_ _) | (with_reducible refine Below.setCell ?_ ?_ _) | (with_reducible refine Below.drew ?_) | (with_reducible refine Below.trans ?_ (Below.mono (by with_reducible assumption) ?_)) | omega | (simp; done) | (simp; omega))))
  exact iSellShare_main A c xs f t num den w h hx hc hz hsf hst hg hat hft hn hd
end Go.Proofs.YtimdnihadhbjpaaDoor
