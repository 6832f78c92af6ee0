/- Law: FnOwners (chapter 22): shares sold, inherited, compared. -/
import Derived.Test.YtimdnihadhbjpaaDoorSellI
import Derived.Test.YtimdnihadhbjpaaDoorHeirI
import Derived.Test.YtimdnihadhbjpaaDoorHeirMath
import Derived.Test.YtimdnihadhbjpaaDoorMajS
import Derived.Test.YtimdnihadhbjpaaDoorLawShareOf
import Derived.Test.YtimdnihadhbjpaaDoorOwDraw2
import Derived.Test.YtimdnihadhbjpaaDoorLawFnShares
import Derived.Test.YtimdnihadhbjpaaDoorLawLargestOwner
import Derived.Test.YtimdnihadhbjpaaDoorLawSharesText
import Derived.Deep.Cut
set_option linter.unusedSimpArgs false
set_option linter.unusedVariables false
namespace Go.Proofs.YtimdnihadhbjpaaDoor
open Go.RowKit Go.Sort Go.Salt
attribute [local go_sem] cell_rg
/-- As MadeAt, with the capacity. -/
def MadeC (w : World) (E : TypeId) (cs : List Value) (n : Nat) (K : Value → Ending) (e : Ending) (w' : World) : Prop :=
  ∃ A c, e = K (.slice A n c) ∧ OwnAt w' w.heap.size E cs n A ∧ Below w.heap.size w w' ∧ n ≤ c
theorem MadeC.nil {w w' : World} {E : TypeId} (K : Value → Ending) (hb : Below w.heap.size w w') : MadeC w E [] 0 K (K (.slice none 0 0)) w' := ⟨none, 0, rfl, OwnAt.none_, hb, Nat.le_refl _⟩
theorem MadeC.cast {w w' : World} {E : TypeId} {cs cs' : List Value} {n n' : Nat} {K K' : Value → Ending} {e e' : Ending} (h : MadeC w E cs n K e w') (h1 : cs = cs') (h2 : n = n') (h3 : K = K') (h4 : e = e') : MadeC w E cs' n' K' e' w' := by subst h1; subst h2; subst h3; subst h4; exact h
theorem slC_no {w w' : World} {xs : List Ow} {f t : ByteArray} {num den : Int} {e : Ending} (hB : slB xs f t num den = false) (h : MadeC w 54 [] 0 (fun v => .returned (.tuple #[v, .bool false])) e w') :
    MadeC w 54 ((slL xs f t num den).flatMap Ow.enc) (slL xs f t num den).length (fun v => .returned (.tuple #[v, .bool (slB xs f t num den)])) e w' :=
  MadeC.cast h (by simp [slL, hB]) (by simp [slL, hB]) (by rw [hB]) rfl
theorem slC_yes {w w' : World} {xs ys : List Ow} {f t : ByteArray} {num den : Int} {e : Ending} (hy : slR xs f t num den = ys) (hB : slB xs f t num den = true) (h : MadeC w 54 (ys.flatMap Ow.enc) ys.length (fun v => .returned (.tuple #[v, .bool true])) e w') :
    MadeC w 54 ((slL xs f t num den).flatMap Ow.enc) (slL xs f t num den).length (fun v => .returned (.tuple #[v, .bool (slB xs f t num den)])) e w' :=
  MadeC.cast h (by simp [slL, hB, hy]) (by simp [slL, hB, hy]) (by rw [hB]) rfl
theorem hrC_no {w w' : World} {xs : List Ow} {name : ByteArray} {hs : List ByteArray} {e : Ending} (hB : hrB xs name hs = false) (h : MadeC w 54 [] 0 (fun v => .returned (.tuple #[v, .bool false])) e w') :
    MadeC w 54 ((hrL xs name hs).flatMap Ow.enc) (hrL xs name hs).length (fun v => .returned (.tuple #[v, .bool (hrB xs name hs)])) e w' :=
  MadeC.cast h (by simp [hrL, hB]) (by simp [hrL, hB]) (by rw [hB]) rfl
theorem hrC_yes {w w' : World} {xs ys : List Ow} {name : ByteArray} {hs : List ByteArray} {e : Ending} (hy : hrR xs name hs = ys) (hB : hrB xs name hs = true) (h : MadeC w 54 (ys.flatMap Ow.enc) ys.length (fun v => .returned (.tuple #[v, .bool true])) e w') :
    MadeC w 54 ((hrL xs name hs).flatMap Ow.enc) (hrL xs name hs).length (fun v => .returned (.tuple #[v, .bool (hrB xs name hs)])) e w' :=
  MadeC.cast h (by simp [hrL, hB, hy]) (by simp [hrL, hB, hy]) (by rw [hB]) rfl
end Go.Proofs.YtimdnihadhbjpaaDoor
namespace Go.Proofs.YtimdnihadhbjpaaDoor
open Go.RowKit Go.Sort Go.Salt
attribute [local go_sem] cell_rg
set_option maxRecDepth 100000 in
set_option maxHeartbeats 16000000 in
theorem iSellShareC_main (A : Option Addr) (c : Nat) (xs : List Ow) (f t : ByteArray) (num den : Int) (w : World) (h : Rd w w.heap.size A 3 Ow.enc xs) (hx : xs.length ≤ 1048576) (hc : xs.length ≤ c) (hz : OwSz 1048576 xs) (hsf : f.size ≤ 1048576) (hst : t.size ≤ 1048576)
    (hg : arB xs = true) (hat : ¬ owAtN xs f xs.length < 0) (hft : f ≠ t) (hn : inB num 1 1000 = true) (hd : inB den 1 1000 = true) :
    Calls Tryd.prog 37 #[.slice A xs.length c, .string f, .string t, .int .i64 num, .int .i64 den] w fun e w' => MadeC w 54 ((slL xs f t num den).flatMap Ow.enc) (slL xs f t num den).length (fun v => .returned (.tuple #[v, .bool (slB xs f t num den)])) e w' := by
  have HX := Lib.hid h
  have HZ := Lib.hid hz
  have Hg := Lib.hid hg
  have HBD := Lib.hid (arOK_bd hg)
  have hl := arOK_len hg
  clear h hz hg
  have hip : 0 < xs.length := by have := (owAtN_ge (xs := xs) (s := f) (k := xs.length)).2; omega
  obtain ⟨ad, rfl⟩ : ∃ ad, A = some ad := by
    obtain ⟨b, o, e, _⟩ := HX.out hip
    exact ⟨_, e⟩
  rcases owAtN_or xs f xs.length with ⟨h9, _⟩ | ⟨i, hi, hai, hf1, hf2⟩
  · omega
  have Hat := Lib.hid hai
  have hi0 : ¬ (i : Int) < 0 := by omega
  have hiI : (i : Int) < xs.length := by omega
  have hiI0 : (0 : Int) ≤ i := by omega
  have hft2 := ba_beq hft
  have HF1 := Lib.hid hf1
  have HF2 := Lib.hid hf2
  have HFT := Lib.hid hft
  have hnr := inB_iff.1 hn
  have hdr := inB_iff.1 hd
  have HCC : Hid (slC xs f t num den = true) := Lib.hid (by unfold slC; rw [Hg.out, hai, hn, hd, decide_eq_true hiI0, decide_eq_true hft]; rfl)
  have hpos : ∀ j, 0 < (el xs j).n ∧ 0 < (el xs j).d := fun j => by have := HBD.out j; omega
  have HP := Lib.hid (fun h : 0 ≤ sellN (el xs i) num den => (show slR xs f t num den = sellL xs i t num den from sell_eq hi hf1 hf2 hft hpos (by omega) (by omega) h))
  have HN := Lib.hid (fun h : sellN (el xs i) num den < 0 => (show arB (slR xs f t num den) = false from by
    obtain ⟨h1, h2⟩ := sell_neg hi hf1 hf2 hft hpos (show 0 < num by omega) (show 0 < den by omega) h
    exact arB_no h1 (owOK_neg (by have : (el (slR xs f t num den) i).n < 0 := h2; omega))))
  have ub := HBD.out i
  have b1 := mulb (a := (el xs i).n) (b := den) (by omega) (by omega)
  have b2 := mulb (a := num) (b := (el xs i).d) (by omega) (by omega)
  have b3 := mulb (a := (el xs i).d) (b := den) (by omega) (by omega)
  have b4 := Int.mul_pos (show 0 < (el xs i).d by omega) (show 0 < den by omega)
  obtain ⟨lf, hLF⟩ : ∃ l, sellN (el xs i) num den = l := ⟨_, rfl⟩
  have hLF2 : (el xs i).n * den - num * (el xs i).d = lf := hLF
  obtain ⟨p1, hp1⟩ : ∃ p, (el xs i).n * den = p := ⟨_, rfl⟩
  obtain ⟨p2, hp2⟩ : ∃ p, num * (el xs i).d = p := ⟨_, rfl⟩
  obtain ⟨m, hm⟩ : ∃ p, (el xs i).d * den = p := ⟨_, rfl⟩
  rw [hp1] at b1 hLF2
  rw [hp2] at b2 hLF2
  rw [hm] at b3 b4
  have v1 : wrap64 ((el xs i).n * den) = p1 := by rw [hp1]; exact wrap_in' ⟨by omega, by omega⟩
  have v2 : wrap64 (num * (el xs i).d) = p2 := by rw [hp2]; exact wrap_in' ⟨by omega, by omega⟩
  have v3 : wrap64 (p1 - p2) = lf := by rw [hLF2]; exact wrap_in' ⟨by omega, by omega⟩
  have v4 : wrap64 ((el xs i).d * den) = m := by rw [hm]; exact wrap_in' ⟨by omega, by omega⟩
  have hcc : 0 ≤ lf → ∀ W, Calls Tryd.prog 84 #[.int .i64 lf, .int .i64 m] W fun e w' => e = .returned (.tuple #[.int .i64 (rN lf m), .int .i64 (rD lf m)]) ∧ Below W.heap.size W w' := fun h W => reduced_any lf m W h b4 (by omega) (by omega)
  obtain ⟨u, hU⟩ : ∃ u, rN lf m = u := ⟨_, rfl⟩
  obtain ⟨v, hV⟩ : ∃ u, rD lf m = u := ⟨_, rfl⟩
  rw [hU, hV] at hcc
  rw [hLF] at HP HN
  have HC0 := Lib.hid hcc
  clear hai hcc hp1 hp2 hf1 hf2 hft hpos
  go_enter Tryd.func37, Tryd.ntmps37
  go_wp2_with fail
  refine (ownerAt_any _ c xs.length xs f _ (HX.out.to (by repeat' (first | (with_reducible exact Below.refl _ _) | (with_reducible refine Below.alloc ?_ ?_ _) | (with_reducible refine Below.setCell ?_ ?_ _) | (with_reducible refine Below.drew ?_) | (with_reducible refine Below.trans ?_ (Below.mono (by with_reducible assumption) ?_)) | omega | (simp; done) | (simp; omega)))) hx rfl).mono ?_
  rintro e w1 ⟨rfl, hb1⟩
  have hs1 := hb1.size
  rw [Hat.out]
  go_wp2_with fail
  refine (iAreOwners_any _ c xs _ (HX.out.to (by repeat' (first | (with_reducible exact Below.refl _ _) | (with_reducible refine Below.alloc ?_ ?_ _) | (with_reducible refine Below.setCell ?_ ?_ _) | (with_reducible refine Below.drew ?_) | (with_reducible refine Below.trans ?_ (Below.mono (by with_reducible assumption) ?_)) | omega | (simp; done) | (simp; omega)))) hx hc HZ.out).mono ?_
  rintro e w2 ⟨rfl, hb2⟩
  have hs2 := hb2.size
  rw [Hg.out]
  go_wp2_with fail
  (go_at_call 62; refine (isPart_any _ _ _).mono ?_; rintro e w1 ⟨rfl, rfl⟩)
  rw [hn, hd]
  obtain ⟨b, o, e, hB, c0, c1, c2⟩ := ow_cells (HX.out.to (show Below w.heap.size w w2 from (by repeat' (first | (with_reducible exact Below.refl _ _) | (with_reducible refine Below.alloc ?_ ?_ _) | (with_reducible refine Below.setCell ?_ ?_ _) | (with_reducible refine Below.drew ?_) | (with_reducible refine Below.trans ?_ (Below.mono (by with_reducible assumption) ?_)) | omega | (simp; done) | (simp; omega))))) hi
  obtain rfl : ad = ⟨b, o, none⟩ := by simpa using e
  clear e
  go_upto_region 5 with (fail)
  refine cut_world (fun W => Row W w2.heap.size 54 [.string (el xs i).s, .int .i64 (el xs i).n, .int .i64 (el xs i).d] ∧ Below w.heap.size w W) ⟨by first | exact Row.new _ _ _ | exact (Row.new _ _ _).to (by repeat' (first | (with_reducible exact Below.refl _ _) | (with_reducible refine Below.alloc ?_ ?_ _) | (with_reducible refine Below.setCell ?_ ?_ _) | (with_reducible refine Below.drew ?_) | (with_reducible refine Below.trans ?_ (Below.mono (by with_reducible assumption) ?_)) | omega | (simp; done) | (simp; omega))), (by repeat' (first | (with_reducible exact Below.refl _ _) | (with_reducible refine Below.alloc ?_ ?_ _) | (with_reducible refine Below.setCell ?_ ?_ _) | (with_reducible refine Below.drew ?_) | (with_reducible refine Below.trans ?_ (Below.mono (by with_reducible assumption) ?_)) | omega | (simp; done) | (simp; omega)))⟩ ?_
  obtain ⟨gB, hgB⟩ : ∃ g, w2.heap.size = g := ⟨_, rfl⟩
  rw [hgB]
  have hgBw : w.heap.size ≤ gB := by omega
  clear c0 c1 c2 hb1 hb2 hs1 hs2 hgB
  rintro w3 ⟨hbx, hb3⟩
  have hs3 := hb3.size
  have HX3 := Lib.hid hbx
  obtain ⟨x0, x1, x2⟩ := row3o hbx
  have hbl := hbx.lt
  clear hbx
  rcases Int.lt_or_le lf 0 with hneg | hnn
  · have HB : Hid (slB xs f t num den = false) := Lib.hid (by
      have hN := HN.out hneg
      unfold slB; rw [hN, Bool.and_false])
    go_wp2
    go_ret2
    exact slC_no HB.out (MadeC.nil (fun v => .returned (.tuple #[v, .bool false])) (by repeat' (first | (with_reducible exact Below.refl _ _) | (with_reducible refine Below.alloc ?_ ?_ _) | (with_reducible refine Below.setCell ?_ ?_ _) | (with_reducible refine Below.drew ?_) | (with_reducible refine Below.trans ?_ (Below.mono (by with_reducible assumption) ?_)) | omega | (simp; done) | (simp; omega))))
  have hnn' : ¬ lf < 0 := by omega
  have HE := Lib.hid (HP.out hnn)
  have HC := Lib.hid (HC0.out hnn)
  go_wp2_with fail
  refine (gets_any _ c xs t num den _ (HX.out.to (by repeat' (first | (with_reducible exact Below.refl _ _) | (with_reducible refine Below.alloc ?_ ?_ _) | (with_reducible refine Below.setCell ?_ ?_ _) | (with_reducible refine Below.drew ?_) | (with_reducible refine Below.trans ?_ (Below.mono (by with_reducible assumption) ?_)) | omega | (simp; done) | (simp; omega)))) (by omega) (fun j _ _ => by have := HBD.out j; omega) (by omega)).mono ?_
  rintro e w4 ⟨g4, c4, rfl, k41, k42, hg4, row4, hb4⟩
  have hs4 := hb4.size
  have hl4 := getsL_len xs t num den
  have hz4 := HZ.out.gets hst num den
  have hbx4 := HX3.out.to hb4
  obtain ⟨ys, hys⟩ : ∃ ys, getsL xs t num den = ys := ⟨_, rfl⟩
  rw [hys] at row4 hl4 hz4 k41
  rw [hys]
  have hg4w : w.heap.size ≤ g4 := by omega
  have hg4b : gB ≠ g4 := by omega
  have hiy : i < ys.length := by omega
  have HB4 : Hid (Below w.heap.size w w4) := Lib.hid (by repeat' (first | (with_reducible exact Below.refl _ _) | (with_reducible refine Below.alloc ?_ ?_ _) | (with_reducible refine Below.setCell ?_ ?_ _) | (with_reducible refine Below.drew ?_) | (with_reducible refine Below.trans ?_ (Below.mono (by with_reducible assumption) ?_)) | omega | (simp; done) | (simp; omega)))
  have HR4 := Lib.hid row4
  by_cases h0 : lf = 0
  · obtain rfl := h0
    have HE' : Hid (slR xs f t num den = delL ys i) := Lib.hid (by rw [HE.out, sellL, hLF, if_pos rfl, hys])
    clear hys row4 HN HP
    go_wp2_with fail
    refine (deleteOw_row g4 c4 ys i w4 HR4.out hiy k41 k42).mono ?_
    rintro e w5 ⟨rfl, hrow5, hgr5⟩
    have hrow5 : Row w5 g4 54 ((delL ys i).flatMap Ow.enc) := hrow5
    have hdl := del_len hiy
    have hz5 := hz4.del hiy
    rw [← hdl]
    have hb5 : Below w.heap.size w w5 := HB4.out.trans (grown_below hgr5 hg4w (by omega))
    have hs5 := hb5.size
    have hr5 := hrow5.rd Ow.enc_len hrow5.lt
    have HR5 := Lib.hid hrow5
    obtain ⟨zs, hzs⟩ : ∃ zs, delL ys i = zs := ⟨_, rfl⟩
    rw [hzs] at HR5 hr5 hz5 hdl HE'
    rw [hzs]
    have hzl : zs.length ≤ ys.length := by omega
    clear hrow5 hzs hdl
    cases hG : arB zs
    · have HB : Hid (slB xs f t num den = false) := Lib.hid (by unfold slB; rw [HE'.out, hG, Bool.and_false])
      go_wp2_with fail
      refine (iAreOwners_any _ c4 zs _ (hr5.to (by repeat' (first | (with_reducible exact Below.refl _ _) | (with_reducible refine Below.alloc ?_ ?_ _) | (with_reducible refine Below.setCell ?_ ?_ _) | (with_reducible refine Below.drew ?_) | (with_reducible refine Below.trans ?_ (Below.mono (by with_reducible assumption) ?_)) | omega | (simp; done) | (simp; omega)))) (by omega) (by omega) hz5).mono ?_
      rintro e w7 ⟨rfl, hb7⟩
      have hs7 := hb7.size
      rw [hG]
      go_wp2
      go_ret2
      exact slC_no HB.out (MadeC.nil (fun v => .returned (.tuple #[v, .bool false])) (by repeat' (first | (with_reducible exact Below.refl _ _) | (with_reducible refine Below.alloc ?_ ?_ _) | (with_reducible refine Below.setCell ?_ ?_ _) | (with_reducible refine Below.drew ?_) | (with_reducible refine Below.trans ?_ (Below.mono (by with_reducible assumption) ?_)) | omega | (simp; done) | (simp; omega))))
    · have HB : Hid (slB xs f t num den = true) := Lib.hid (by unfold slB; rw [HE'.out, hG, HCC.out]; rfl)
      go_wp2_with fail
      refine (iAreOwners_any _ c4 zs _ (hr5.to (by repeat' (first | (with_reducible exact Below.refl _ _) | (with_reducible refine Below.alloc ?_ ?_ _) | (with_reducible refine Below.setCell ?_ ?_ _) | (with_reducible refine Below.drew ?_) | (with_reducible refine Below.trans ?_ (Below.mono (by with_reducible assumption) ?_)) | omega | (simp; done) | (simp; omega)))) (by omega) (by omega) hz5).mono ?_
      rintro e w7 ⟨rfl, hb7⟩
      have hs7 := hb7.size
      rw [hG]
      go_wp2
      go_ret2
      exact slC_yes HE'.out HB.out ⟨_, c4, rfl, OwnAt.row hg4w (HR5.out.to hb7), hb5.trans (hb7.mono (by omega)), by omega⟩
  · have HE' : Hid (slR xs f t num den = ys.set i ⟨(el ys i).s, u, v⟩) := Lib.hid (by rw [HE.out, sellL, hLF, if_neg h0, hys, hm, hU, hV])
    have hbl4 := hbx4.lt
    obtain ⟨x0, x1, x2⟩ := row3o hbx4
    have hB1 := row4.lt
    obtain ⟨bb, oo, ee, _, q0, q1, q2⟩ := ow_cells (row4.rd Ow.enc_len hB1) hiy
    obtain ⟨rfl, rfl⟩ : g4 = bb ∧ 0 = oo := by simpa using ee
    simp only [Nat.zero_add] at q0 q1 q2
    have f1 := row4.frozen (i * 3 + 1)
    have f2 := row4.frozen (i * 3 + 2)
    have hiyI : (i : Int) < ys.length := by omega
    clear hys row4 HN HP hbx4 ee
    go_upto_region 11 with (fail)
    go_wp2_with fail
    refine (HC.out _).mono ?_
    rintro e w6 ⟨rfl, hb6⟩
    have hs6 := hb6.size
    have hr6 := HR4.out.to hb6
    have r6 := (hr6.set (j := i * 3 + 1) (.int .i64 u)).set (j := i * 3 + 2) (.int .i64 v)
    rw [set_ow2 ys i hiy rfl] at r6
    have hB1 := hr6.lt
    obtain ⟨bb, oo, ee, _, q0, q1, q2⟩ := ow_cells (hr6.rd Ow.enc_len hB1) hiy
    obtain ⟨rfl, rfl⟩ : g4 = bb ∧ 0 = oo := by simpa using ee
    simp only [Nat.zero_add] at q0 q1 q2
    have f1 := hr6.frozen (i * 3 + 1)
    have f2 := hr6.frozen (i * 3 + 2)
    have R6 := Lib.hid r6
    clear r6 hr6 ee
    go_upto_region 12 with (fail)
    refine cut_world (fun W => Row W g4 54 ((ys.set i (⟨(el ys i).s, u, v⟩ : Ow)).flatMap Ow.enc) ∧ Below w.heap.size w W) ⟨R6.out, (HB4.out.trans (hb6.mono (by omega))).setCell (by simpa using hg4w) _ |>.setCell (by simpa using hg4w) _⟩ ?_
    have hdl : (ys.set i (⟨(el ys i).s, u, v⟩ : Ow)).length = ys.length := List.length_set
    have hz5 := hz4.put (j := i) (u := ⟨(el ys i).s, u, v⟩) (hz4 i hiy)
    rw [← hdl]
    clear q0 q1 q2 f1 f2 x0 x1 x2
    rintro w5 ⟨hrow5, hb5⟩
    have hs5 := hb5.size
    have hr5 := hrow5.rd Ow.enc_len hrow5.lt
    have HR5 := Lib.hid hrow5
    obtain ⟨zs, hzs⟩ : ∃ zs, ys.set i (⟨(el ys i).s, u, v⟩ : Ow) = zs := ⟨_, rfl⟩
    rw [hzs] at HR5 hr5 hz5 hdl HE'
    rw [hzs]
    have hzl : zs.length ≤ ys.length := by omega
    clear hrow5 hzs hdl
    cases hG : arB zs
    · have HB : Hid (slB xs f t num den = false) := Lib.hid (by unfold slB; rw [HE'.out, hG, Bool.and_false])
      go_wp2_with fail
      refine (iAreOwners_any _ c4 zs _ (hr5.to (by repeat' (first | (with_reducible exact Below.refl _ _) | (with_reducible refine Below.alloc ?_ ?_ _) | (with_reducible refine Below.setCell ?_ ?_ _) | (with_reducible refine Below.drew ?_) | (with_reducible refine Below.trans ?_ (Below.mono (by with_reducible assumption) ?_)) | omega | (simp; done) | (simp; omega)))) (by omega) (by omega) hz5).mono ?_
      rintro e w7 ⟨rfl, hb7⟩
      have hs7 := hb7.size
      rw [hG]
      go_wp2
      go_ret2
      exact slC_no HB.out (MadeC.nil (fun v => .returned (.tuple #[v, .bool false])) (by repeat' (first | (with_reducible exact Below.refl _ _) | (with_reducible refine Below.alloc ?_ ?_ _) | (with_reducible refine Below.setCell ?_ ?_ _) | (with_reducible refine Below.drew ?_) | (with_reducible refine Below.trans ?_ (Below.mono (by with_reducible assumption) ?_)) | omega | (simp; done) | (simp; omega))))
    · have HB : Hid (slB xs f t num den = true) := Lib.hid (by unfold slB; rw [HE'.out, hG, HCC.out]; rfl)
      go_wp2_with fail
      refine (iAreOwners_any _ c4 zs _ (hr5.to (by repeat' (first | (with_reducible exact Below.refl _ _) | (with_reducible refine Below.alloc ?_ ?_ _) | (with_reducible refine Below.setCell ?_ ?_ _) | (with_reducible refine Below.drew ?_) | (with_reducible refine Below.trans ?_ (Below.mono (by with_reducible assumption) ?_)) | omega | (simp; done) | (simp; omega)))) (by omega) (by omega) hz5).mono ?_
      rintro e w7 ⟨rfl, hb7⟩
      have hs7 := hb7.size
      rw [hG]
      go_wp2
      go_ret2
      exact slC_yes HE'.out HB.out ⟨_, c4, rfl, OwnAt.row hg4w (HR5.out.to hb7), hb5.trans (hb7.mono (by omega)), by omega⟩
set_option maxRecDepth 10000 in
set_option maxHeartbeats 8000000 in
theorem iSellShareC_any (A : Option Addr) (c : Nat) (xs : List Ow) (f t : ByteArray) (num den : Int) (w : World) (h : Rd w w.heap.size A 3 Ow.enc xs) (hx : xs.length ≤ 1048576) (hc : xs.length ≤ c) (hz : OwSz 1048576 xs) (hsf : f.size ≤ 1048576) (hst : t.size ≤ 1048576) :
    Calls Tryd.prog 37 #[.slice A xs.length c, .string f, .string t, .int .i64 num, .int .i64 den] w fun e w' => MadeC w 54 ((slL xs f t num den).flatMap Ow.enc) (slL xs f t num den).length (fun v => .returned (.tuple #[v, .bool (slB xs f t num den)])) e w' := by
  have HX := Lib.hid h
  have HZ := Lib.hid hz
  cases hg : arB xs
  · have HB : Hid (slB xs f t num den = false) := Lib.hid (by simp [slB, slC, hg])
    have Hg := Lib.hid hg
    obtain ⟨ai, hai0⟩ : ∃ a, owAtN xs f xs.length = a := ⟨_, rfl⟩
    have Hai := Lib.hid hai0
    clear h hz hg hai0
    go_enter Tryd.func37, Tryd.ntmps37
    go_wp2_with fail
    refine (ownerAt_any _ c xs.length xs f _ (HX.out.to (by repeat' (first | (with_reducible exact Below.refl _ _) | (with_reducible refine Below.alloc ?_ ?_ _) | (with_reducible refine Below.setCell ?_ ?_ _) | (with_reducible refine Below.drew ?_) | (with_reducible refine Below.trans ?_ (Below.mono (by with_reducible assumption) ?_)) | omega | (simp; done) | (simp; omega)))) hx rfl).mono ?_
    rintro e w1 ⟨rfl, hb1⟩
    have hs1 := hb1.size
    rw [Hai.out]
    go_wp2_with fail
    refine (iAreOwners_any _ c xs _ (HX.out.to (by repeat' (first | (with_reducible exact Below.refl _ _) | (with_reducible refine Below.alloc ?_ ?_ _) | (with_reducible refine Below.setCell ?_ ?_ _) | (with_reducible refine Below.drew ?_) | (with_reducible refine Below.trans ?_ (Below.mono (by with_reducible assumption) ?_)) | omega | (simp; done) | (simp; omega)))) hx hc HZ.out).mono ?_
    rintro e w2 ⟨rfl, hb2⟩
    have hs2 := hb2.size
    rw [Hg.out]
    go_wp2
    go_ret2
    exact slC_no HB.out (MadeC.nil (fun v => .returned (.tuple #[v, .bool false])) (by repeat' (first | (with_reducible exact Below.refl _ _) | (with_reducible refine Below.alloc ?_ ?_ _) | (with_reducible refine Below.setCell ?_ ?_ _) | (with_reducible refine Below.drew ?_) | (with_reducible refine Below.trans ?_ (Below.mono (by with_reducible assumption) ?_)) | omega | (simp; done) | (simp; omega))))
  by_cases hat : owAtN xs f xs.length < 0
  · have HB : Hid (slB xs f t num den = false) := Lib.hid (by simp [slB, slC, show ¬ 0 ≤ owAtN xs f xs.length by omega])
    have Hg := Lib.hid hg
    have Hat := Lib.hid (owAtN_neg hat).1
    clear h hz hg hat
    go_enter Tryd.func37, Tryd.ntmps37
    go_wp2_with fail
    refine (ownerAt_any _ c xs.length xs f _ (HX.out.to (by repeat' (first | (with_reducible exact Below.refl _ _) | (with_reducible refine Below.alloc ?_ ?_ _) | (with_reducible refine Below.setCell ?_ ?_ _) | (with_reducible refine Below.drew ?_) | (with_reducible refine Below.trans ?_ (Below.mono (by with_reducible assumption) ?_)) | omega | (simp; done) | (simp; omega)))) hx rfl).mono ?_
    rintro e w1 ⟨rfl, hb1⟩
    have hs1 := hb1.size
    rw [Hat.out]
    go_wp2_with fail
    refine (iAreOwners_any _ c xs _ (HX.out.to (by repeat' (first | (with_reducible exact Below.refl _ _) | (with_reducible refine Below.alloc ?_ ?_ _) | (with_reducible refine Below.setCell ?_ ?_ _) | (with_reducible refine Below.drew ?_) | (with_reducible refine Below.trans ?_ (Below.mono (by with_reducible assumption) ?_)) | omega | (simp; done) | (simp; omega)))) hx hc HZ.out).mono ?_
    rintro e w2 ⟨rfl, hb2⟩
    have hs2 := hb2.size
    rw [Hg.out]
    go_wp2
    go_ret2
    exact slC_no HB.out (MadeC.nil (fun v => .returned (.tuple #[v, .bool false])) (by repeat' (first | (with_reducible exact Below.refl _ _) | (with_reducible refine Below.alloc ?_ ?_ _) | (with_reducible refine Below.setCell ?_ ?_ _) | (with_reducible refine Below.drew ?_) | (with_reducible refine Below.trans ?_ (Below.mono (by with_reducible assumption) ?_)) | omega | (simp; done) | (simp; omega))))
  by_cases hft : f = t
  · subst hft
    have HB : Hid (slB xs f f num den = false) := Lib.hid (by simp [slB, slC])
    have Hg := Lib.hid hg
    obtain ⟨ai, hai0⟩ : ∃ a, owAtN xs f xs.length = a := ⟨_, rfl⟩
    rw [hai0] at hat
    have Hat := Lib.hid hai0
    clear h hz hg hai0
    go_enter Tryd.func37, Tryd.ntmps37
    go_wp2_with fail
    refine (ownerAt_any _ c xs.length xs f _ (HX.out.to (by repeat' (first | (with_reducible exact Below.refl _ _) | (with_reducible refine Below.alloc ?_ ?_ _) | (with_reducible refine Below.setCell ?_ ?_ _) | (with_reducible refine Below.drew ?_) | (with_reducible refine Below.trans ?_ (Below.mono (by with_reducible assumption) ?_)) | omega | (simp; done) | (simp; omega)))) hx rfl).mono ?_
    rintro e w1 ⟨rfl, hb1⟩
    have hs1 := hb1.size
    rw [Hat.out]
    go_wp2_with fail
    refine (iAreOwners_any _ c xs _ (HX.out.to (by repeat' (first | (with_reducible exact Below.refl _ _) | (with_reducible refine Below.alloc ?_ ?_ _) | (with_reducible refine Below.setCell ?_ ?_ _) | (with_reducible refine Below.drew ?_) | (with_reducible refine Below.trans ?_ (Below.mono (by with_reducible assumption) ?_)) | omega | (simp; done) | (simp; omega)))) hx hc HZ.out).mono ?_
    rintro e w2 ⟨rfl, hb2⟩
    have hs2 := hb2.size
    rw [Hg.out]
    go_wp2
    go_ret2
    exact slC_no HB.out (MadeC.nil (fun v => .returned (.tuple #[v, .bool false])) (by repeat' (first | (with_reducible exact Below.refl _ _) | (with_reducible refine Below.alloc ?_ ?_ _) | (with_reducible refine Below.setCell ?_ ?_ _) | (with_reducible refine Below.drew ?_) | (with_reducible refine Below.trans ?_ (Below.mono (by with_reducible assumption) ?_)) | omega | (simp; done) | (simp; omega))))
  cases hn : inB num 1 1000
  · have HB : Hid (slB xs f t num den = false) := Lib.hid (by simp [slB, slC, hn])
    have Hg := Lib.hid hg
    have hft2 := ba_beq hft
    obtain ⟨ai, hai0⟩ : ∃ a, owAtN xs f xs.length = a := ⟨_, rfl⟩
    rw [hai0] at hat
    have Hat := Lib.hid hai0
    clear h hz hg hai0
    go_enter Tryd.func37, Tryd.ntmps37
    go_wp2_with fail
    refine (ownerAt_any _ c xs.length xs f _ (HX.out.to (by repeat' (first | (with_reducible exact Below.refl _ _) | (with_reducible refine Below.alloc ?_ ?_ _) | (with_reducible refine Below.setCell ?_ ?_ _) | (with_reducible refine Below.drew ?_) | (with_reducible refine Below.trans ?_ (Below.mono (by with_reducible assumption) ?_)) | omega | (simp; done) | (simp; omega)))) hx rfl).mono ?_
    rintro e w1 ⟨rfl, hb1⟩
    have hs1 := hb1.size
    rw [Hat.out]
    go_wp2_with fail
    refine (iAreOwners_any _ c xs _ (HX.out.to (by repeat' (first | (with_reducible exact Below.refl _ _) | (with_reducible refine Below.alloc ?_ ?_ _) | (with_reducible refine Below.setCell ?_ ?_ _) | (with_reducible refine Below.drew ?_) | (with_reducible refine Below.trans ?_ (Below.mono (by with_reducible assumption) ?_)) | omega | (simp; done) | (simp; omega)))) hx hc HZ.out).mono ?_
    rintro e w2 ⟨rfl, hb2⟩
    have hs2 := hb2.size
    rw [Hg.out]
    go_wp2_with fail
    (go_at_call 62; refine (isPart_any _ _ _).mono ?_; rintro e w1 ⟨rfl, rfl⟩)
    rw [hn]
    go_wp2
    go_ret2
    exact slC_no HB.out (MadeC.nil (fun v => .returned (.tuple #[v, .bool false])) (by repeat' (first | (with_reducible exact Below.refl _ _) | (with_reducible refine Below.alloc ?_ ?_ _) | (with_reducible refine Below.setCell ?_ ?_ _) | (with_reducible refine Below.drew ?_) | (with_reducible refine Below.trans ?_ (Below.mono (by with_reducible assumption) ?_)) | omega | (simp; done) | (simp; omega))))
  cases hd : inB den 1 1000
  · have HB : Hid (slB xs f t num den = false) := Lib.hid (by simp [slB, slC, hd])
    have Hg := Lib.hid hg
    have hft2 := ba_beq hft
    obtain ⟨ai, hai0⟩ : ∃ a, owAtN xs f xs.length = a := ⟨_, rfl⟩
    rw [hai0] at hat
    have Hat := Lib.hid hai0
    clear h hz hg hai0
    go_enter Tryd.func37, Tryd.ntmps37
    go_wp2_with fail
    refine (ownerAt_any _ c xs.length xs f _ (HX.out.to (by repeat' (first | (with_reducible exact Below.refl _ _) | (with_reducible refine Below.alloc ?_ ?_ _) | (with_reducible refine Below.setCell ?_ ?_ _) | (with_reducible refine Below.drew ?_) | (with_reducible refine Below.trans ?_ (Below.mono (by with_reducible assumption) ?_)) | omega | (simp; done) | (simp; omega)))) hx rfl).mono ?_
    rintro e w1 ⟨rfl, hb1⟩
    have hs1 := hb1.size
    rw [Hat.out]
    go_wp2_with fail
    refine (iAreOwners_any _ c xs _ (HX.out.to (by repeat' (first | (with_reducible exact Below.refl _ _) | (with_reducible refine Below.alloc ?_ ?_ _) | (with_reducible refine Below.setCell ?_ ?_ _) | (with_reducible refine Below.drew ?_) | (with_reducible refine Below.trans ?_ (Below.mono (by with_reducible assumption) ?_)) | omega | (simp; done) | (simp; omega)))) hx hc HZ.out).mono ?_
    rintro e w2 ⟨rfl, hb2⟩
    have hs2 := hb2.size
    rw [Hg.out]
    go_wp2_with fail
    (go_at_call 62; refine (isPart_any _ _ _).mono ?_; rintro e w1 ⟨rfl, rfl⟩)
    rw [hn, hd]
    go_wp2
    go_ret2
    exact slC_no HB.out (MadeC.nil (fun v => .returned (.tuple #[v, .bool false])) (by repeat' (first | (with_reducible exact Below.refl _ _) | (with_reducible refine Below.alloc ?_ ?_ _) | (with_reducible refine Below.setCell ?_ ?_ _) | (with_reducible refine Below.drew ?_) | (with_reducible refine Below.trans ?_ (Below.mono (by with_reducible assumption) ?_)) | omega | (simp; done) | (simp; omega))))
  exact iSellShareC_main A c xs f t num den w h hx hc hz hsf hst hg hat hft hn hd
end Go.Proofs.YtimdnihadhbjpaaDoor
namespace Go.Proofs.YtimdnihadhbjpaaDoor
open Go.RowKit Go.Sort Go.Salt
attribute [local go_sem] cell_rg
set_option maxRecDepth 100000 in
set_option maxHeartbeats 16000000 in
theorem iHeirsOfC_main (b0 o0 c : Nat) (xs : List Ow) (b1 o1 c' : Nat) (hs : List ByteArray) (nm : ByteArray) (w : World) (h : Rd w w.heap.size (some ⟨b0, o0, none⟩) 3 Ow.enc xs) (h' : Rd w w.heap.size (some ⟨b1, o1, none⟩) 1 se hs) (hx : xs.length ≤ 1048576) (hc : xs.length ≤ c) (hc' : hs.length ≤ c') (hz : OwSz 1048576 xs) (hsz : StrSz 1048576 hs)
    (hg : arB xs = true) (i : Nat) (hi : i < xs.length) (hat : owAtN xs nm xs.length = i) (hin : inB hs.length 1 5 = true) :
    Calls Tryd.prog 48 #[.slice (some ⟨b0, o0, none⟩) xs.length c, .string nm, .slice (some ⟨b1, o1, none⟩) hs.length c'] w fun e w' => MadeC w 54 ((hrL xs nm hs).flatMap Ow.enc) (hrL xs nm hs).length (fun v => .returned (.tuple #[v, .bool (hrB xs nm hs)])) e w' := by
  have HX := Lib.hid h
  have HH := Lib.hid h'
  have HZ := Lib.hid hz
  have HSZ := Lib.hid hsz.el
  have Hg := Lib.hid hg
  have HBD := Lib.hid (arOK_bd hg)
  have hl := arOK_len hg
  have hln := inB_iff.1 hin
  have Hat := Lib.hid hat
  have Hin := Lib.hid hin
  have hi0 : ¬ (i : Int) < 0 := by omega
  have hiI : (i : Int) < xs.length := by omega
  have hiI0 : (0 : Int) ≤ i := by omega
  have hI : hrI xs nm = i := by unfold hrI; rw [hat]; simp
  have HCC : Hid (∀ b, noD hs nm hs.length = b → hrC xs nm hs = b) := Lib.hid (fun b hb => by unfold hrC; rw [hg, hat, hin, hb, decide_eq_true hiI0]; rfl)
  have hub := HBD.out i
  have HBDd := Lib.hid (HBD.out.del hi)
  obtain ⟨n0, hn0⟩ : ∃ z, (el xs i).n = z := ⟨_, rfl⟩
  obtain ⟨d1, hd1⟩ : ∃ z, (el xs i).d = z := ⟨_, rfl⟩
  have HN0 := Lib.hid (And.intro hn0 hd1)
  rw [hn0, hd1] at hub
  have bd1 : d1 * (hs.length : Int) ≤ 1000 * 5 := Int.mul_le_mul (by omega) (by omega) (by omega) (by omega)
  have bp := Int.mul_pos (show 0 < d1 by omega) (show 0 < (hs.length : Int) by omega)
  have HR : Hid (hrR xs nm hs = hG n0 (d1 * (hs.length : Int)) (delL xs i) hs hs.length) := Lib.hid (by unfold hrR; rw [hI, hn0, hd1])
  obtain ⟨d0, hd0⟩ : ∃ z, d1 * (hs.length : Int) = z := ⟨_, rfl⟩
  rw [hd0] at bd1 bp HR
  have v1 : wrap64 (d1 * (hs.length : Int)) = d0 := by rw [hd0]; exact wrap_in' ⟨by omega, by omega⟩
  have v2 : IntKind.i64.wrap (d1 * (hs.length : Int)) = d0 := by rw [← hd0]; exact IntWalk.i64_in _ (by omega)
  have hZd := Lib.hid (HZ.out.del hi)
  have hdl := del_len hi
  have HCS := Lib.hid (fun (W : World) (n : Nat) (x : ByteArray) (hn : n ≤ hs.length) (hr : Rd W W.heap.size (some ⟨b1, o1, none⟩) 1 se hs) => Tryd.slices_Contains_string b1 o1 n c' hs x W hn (by omega) (str_cells hr))
  have hb0l : b0 < w.heap.size := by
    obtain ⟨bb0, oo0, ee0, hB0, _⟩ := ow_cells h hi
    obtain ⟨rfl, rfl⟩ : b0 = bb0 ∧ o0 = oo0 := by simpa using ee0
    exact hB0
  have hb1l : b1 < w.heap.size := by
    obtain ⟨bb0, oo0, ee0, hB0, _⟩ := str_cell h' (show 0 < hs.length by omega)
    obtain ⟨rfl, rfl⟩ : b1 = bb0 ∧ o1 = oo0 := by simpa using ee0
    exact hB0
  clear h h' hz hsz hg hat hin hI hd0 hn0 hd1
  go_enter Tryd.func48, Tryd.ntmps48
  go_wp2_with fail
  refine (ownerAt_any _ c xs.length xs nm _ (HX.out.to (by repeat' (first | (with_reducible exact Below.refl _ _) | (with_reducible refine Below.alloc ?_ ?_ _) | (with_reducible refine Below.setCell ?_ ?_ _) | (with_reducible refine Below.drew ?_) | (with_reducible refine Below.trans ?_ (Below.mono (by with_reducible assumption) ?_)) | omega | (simp; done) | (simp; omega)))) hx rfl).mono ?_
  rintro e w1 ⟨rfl, hb1⟩
  have hs1 := hb1.size
  rw [Hat.out]
  go_wp2_with fail
  refine (iAreOwners_any _ c xs _ (HX.out.to (by repeat' (first | (with_reducible exact Below.refl _ _) | (with_reducible refine Below.alloc ?_ ?_ _) | (with_reducible refine Below.setCell ?_ ?_ _) | (with_reducible refine Below.drew ?_) | (with_reducible refine Below.trans ?_ (Below.mono (by with_reducible assumption) ?_)) | omega | (simp; done) | (simp; omega)))) hx hc HZ.out).mono ?_
  rintro e w2 ⟨rfl, hb2⟩
  have hs2 := hb2.size
  rw [Hg.out]
  go_wp2_with fail
  (go_at_call 60; refine (within_any _ _ _ _).mono ?_; rintro e w1 ⟨rfl, rfl⟩)
  rw [Hin.out]
  have hb3 : Below w.heap.size w w2 := (by repeat' (first | (with_reducible exact Below.refl _ _) | (with_reducible refine Below.alloc ?_ ?_ _) | (with_reducible refine Below.setCell ?_ ?_ _) | (with_reducible refine Below.drew ?_) | (with_reducible refine Below.trans ?_ (Below.mono (by with_reducible assumption) ?_)) | omega | (simp; done) | (simp; omega)))
  have HB3 := Lib.hid hb3
  go_wp2_with fail
  refine (HCS.out w2 hs.length nm (Nat.le_refl _) (HH.out.to hb3)).mono ?_
  rintro e w3 ⟨rfl, rfl⟩
  rw [List.take_length]
  clear hb1 hb2 hs1 hs2
  have hs3 := hb3.size
  cases hcs : Lib.containsS hs nm
  · have HNM : Hid (∀ k, k < hs.length → el hs k ≠ nm) := Lib.hid (fun k hk e => by
      have : Lib.containsS hs nm = true := (Lib.containsS_iff hs nm).2 (e ▸ el_mem hk)
      rw [hcs] at this; cases this)
    clear hcs hb3
    go_wp2_with fail
    go_loopw [37] (fun k wr => ∃ kk : Nat, kk ≤ hs.length ∧ k = .int .i64 kk ∧ Hid (noD hs nm kk = true) ∧ Below w.heap.size w wr) (fun k _ => hs.length - (intOf k).toNat)
    case atStart => exact ⟨0, Nat.zero_le _, rfl, Lib.hid rfl, HB3.out⟩
    case round =>
      obtain ⟨k, hk, rfl, HN, hb⟩ := hrel
      have hsb := hb.size
      by_cases hlt : k < hs.length
      · obtain ⟨bx, ox, ee, hBx, c0⟩ := str_cell (HH.out.to hb) hlt
        obtain ⟨rfl, rfl⟩ : b1 = bx ∧ o1 = ox := by simpa using ee
        have hK : (k : Int) < hs.length := by omega
        have hK0 : (0 : Int) ≤ k := by omega
        have hKc : (k : Int) ≤ c' := by omega
        have hKc2 : k ≤ c' := by omega
        clear ee
        have HCk := Lib.hid (HCS.out wr k (el hs k) (Nat.le_of_lt hlt) (HH.out.to hb))
        cases hcs : Lib.containsS (hs.take k) (el hs k)
        · have HNk : Hid (noD hs nm (k + 1) = true) := Lib.hid (noD_succ.2 ⟨HN.out, HNM.out k hlt, fun j hj e => by
            have : Lib.containsS (hs.take k) (el hs k) = true := (Lib.containsS_iff _ _).2 (by rw [← e, ← el_take hj (Nat.le_of_lt hlt)]; exact el_mem (by rw [List.length_take]; omega))
            rw [hcs] at this; cases this⟩)
          rw [hcs] at HCk
          clear hcs
          go_wp2_with fail
          refine (HCk.out).mono ?_
          rintro e w4 ⟨rfl, rfl⟩
          go_wp2
          go_roundw
          case rel => exact ⟨k + 1, by omega, by go_num, HNk, (by repeat' (first | (with_reducible exact Below.refl _ _) | (with_reducible refine Below.alloc ?_ ?_ _) | (with_reducible refine Below.setCell ?_ ?_ _) | (with_reducible refine Below.drew ?_) | (with_reducible refine Below.trans ?_ (Below.mono (by with_reducible assumption) ?_)) | omega | (simp; done) | (simp; omega)))⟩
          case measure => simp [intOf] <;> omega
        · have HB : Hid (hrB xs nm hs = false) := Lib.hid (by
            obtain ⟨j, hj, e⟩ := List.mem_iff_getElem.1 ((Lib.containsS_iff _ _).1 hcs)
            rw [List.length_take] at hj
            have hj2 : j < k := by omega
            have e2 : el hs j = el hs k := by rw [← e, ← el_take hj2 (Nat.le_of_lt hlt), el_get (by rw [List.length_take]; omega)]
            unfold hrB; rw [HCC.out false (noD_dup hlt hj2 e2)]; rfl)
          rw [hcs] at HCk
          clear hcs
          go_wp2_with fail
          refine (HCk.out).mono ?_
          rintro e w4 ⟨rfl, rfl⟩
          go_wp2
          go_ret2
          exact hrC_no HB.out (MadeC.nil (fun v => .returned (.tuple #[v, .bool false])) (by repeat' (first | (with_reducible exact Below.refl _ _) | (with_reducible refine Below.alloc ?_ ?_ _) | (with_reducible refine Below.setCell ?_ ?_ _) | (with_reducible refine Below.drew ?_) | (with_reducible refine Below.trans ?_ (Below.mono (by with_reducible assumption) ?_)) | omega | (simp; done) | (simp; omega))))
      · obtain rfl : k = hs.length := by omega
        have hK : ¬ ((hs.length : Nat) : Int) < hs.length := by omega
        have HC1 := HCC.out true HN.out
        obtain ⟨wA, rfl⟩ : ∃ wA, wA = wr := ⟨_, rfl⟩
        have HBA := Lib.hid hb
        have hsA := hb.size
        have HNall := Lib.hid (noD_at HN.out)
        clear HN HCS
        go_wp2_with fail
        refine (cloneOw_own ⟨b0, o0, none⟩ c xs _ (HX.out.to HBA.out) hx).mono ?_
        rintro e w5 ⟨v5, rfl, own5, hb5⟩
        have hs5 := hb5.size
        have hw5 : Below w.heap.size w w5 := HBA.out.trans (hb5.mono hsA)
        obtain ⟨g5, c5, rfl, k51, k52⟩ := own_some own5 (fun e => by
          rcases own5.2 with ⟨_, h0⟩ | ⟨_, _, _, hv, _⟩
          · omega
          · rw [e] at hv; cases hv)
        obtain ⟨row5, hg5⟩ := Row.of_own own5
        have ROW5 := Lib.hid row5
        have HW5 := Lib.hid hw5
        have hg5w : w.heap.size ≤ g5 := by omega
        clear own5 row5 hw5 hb5
        go_wp2_with fail
        refine (deleteOw_row g5 c5 xs i w5 ROW5.out hi k51 k52).mono ?_
        rintro e w6 ⟨rfl, row6, hgr6⟩
        have row6 : Row w6 g5 54 ((delL xs i).flatMap Ow.enc) := row6
        have hs56 := HW5.out.size
        have hw6 : Below w.heap.size w w6 := HW5.out.trans (grown_below hgr6 hg5w (by omega))
        have HF0 := Lib.hid (show GivenR w (hG n0 d0 (delL xs i) hs 0) (.slice (some ⟨g5, 0, none⟩) (xs.length - 1) c5) w6 from by rw [← hdl]; exact ⟨g5, c5, rfl, by show (delL xs i).length ≤ c5; omega, k52, hg5w, row6, hw6⟩)
        clear row6 hgr6 ROW5 HW5 HBA hs5 hsA hb
        go_wp2_with fail
        go_loopw [11, 56] (fun v k wr => ∃ kk : Nat, kk ≤ hs.length ∧ k = .int .i64 kk ∧ Hid (GivenR w (hG n0 d0 (delL xs i) hs kk) v wr)) (fun _ k _ => hs.length - (intOf k).toNat)
        case atStart => exact ⟨0, Nat.zero_le _, rfl, HF0⟩
        case round =>
          clear HF0
          obtain ⟨k, hk, rfl, HGv⟩ := hrel
          have hlk := hG_len n0 d0 (delL xs i) hs k
          have hat := fun j => hG_at (n := n0) (d := d0) (hs := hs) (k := k) (j := j) HBDd.out
          have hZk := hG_sz (n := n0) (d := d0) hZd.out HSZ.out k
          by_cases hlt : k < hs.length
          · obtain ⟨ys, hys⟩ : ∃ ys, hG n0 d0 (delL xs i) hs k = ys := ⟨_, rfl⟩
            have hGk : getsL ys (el hs k) n0 d0 = hG n0 d0 (delL xs i) hs (k + 1) := by rw [hG, hys]
            rw [hys] at HGv hlk hat hZk
            obtain ⟨g, cap, rfl, k1, k2, hgw, row, hb⟩ := HGv.out.out
            have HAT := Lib.hid hat
            have HGK := Lib.hid hGk
            have hsb := hb.size
            have hgl := row.lt
            have ROW := Lib.hid row
            have HBw := Lib.hid hb
            clear hys hat hGk HGv row hZk
            obtain ⟨bx, ox, ee, hBx, c0⟩ := str_cell (HH.out.to hb) hlt
            obtain ⟨rfl, rfl⟩ : b1 = bx ∧ o1 = ox := by simpa using ee
            have hK : (k : Int) < hs.length := by omega
            have hK0 : (0 : Int) ≤ k := by omega
            have HRX := Lib.hid (HX.out.to hb)
            have hnd := ow_nd HRX.out hi HN0.out.1 HN0.out.2
            have q1 := hnd.1
            have q2 := hnd.2
            have hb0r : b0 < wr.heap.size := by omega
            have hD := HNall.out k hlt
            have HD := Lib.hid hD.2
            clear ee hnd hD
            go_wp2_with fail
            go_region_held3 (fun W => W.cell? ⟨b0, o0 + i * 3 + 1, none⟩ = some (.int .i64 n0) ∧ W.cell? ⟨b0, o0 + i * 3 + 2, none⟩ = some (.int .i64 d1))
              (first | (exact ow_nd (HRX.out.to (by repeat' (first | (with_reducible exact Below.refl _ _) | (with_reducible refine Below.alloc ?_ ?_ _) | (with_reducible refine Below.setCell ?_ ?_ _) | (with_reducible refine Below.drew ?_) | (with_reducible refine Below.trans ?_ (Below.mono (by with_reducible assumption) ?_)) | omega | (simp; done) | (simp; omega)))) hi HN0.out.1 HN0.out.2) | go_keep)
              (first
                | (go_at_call 82; refine (gets_any ⟨g, 0, none⟩ cap ys (el hs k) n0 d0 _ (ROW.out.rdTo Ow.enc_len (by repeat' (first | (with_reducible exact Below.refl _ _) | (with_reducible refine Below.alloc ?_ ?_ _) | (with_reducible refine Below.setCell ?_ ?_ _) | (with_reducible refine Below.drew ?_) | (with_reducible refine Below.trans ?_ (Below.mono (by with_reducible assumption) ?_)) | omega | (simp; done) | (simp; omega)))) (by omega) (fun m _ hs' => by have := HAT.out m HD.out hs'; omega) (by omega)).mono ?_; rintro e w7 ⟨g7, c7, rfl, k71, k72, hg7, row7, hb7⟩; have hq7 : Below wr.heap.size wr w7 := (by repeat' (first | (with_reducible exact Below.refl _ _) | (with_reducible refine Below.alloc ?_ ?_ _) | (with_reducible refine Below.setCell ?_ ?_ _) | (with_reducible refine Below.drew ?_) | (with_reducible refine Below.trans ?_ (Below.mono (by with_reducible assumption) ?_)) | omega | (simp; done) | (simp; omega))); have hs7 := hq7.size))
            all_goals
              rw [HGK.out] at k71 row7 ⊢
              have hbw7 : Below w.heap.size w w7 := HBw.out.trans (hq7.mono hsb)
              have HF := Lib.hid (show GivenR w (hG n0 d0 (delL xs i) hs (k + 1)) (.slice (some ⟨g7, 0, none⟩) (hG n0 d0 (delL xs i) hs (k + 1)).length c7) w7 from ⟨g7, c7, rfl, k71, k72, Nat.le_trans HBw.out.size hg7, row7, hbw7⟩)
              clear k71 row7
              go_wp2
              go_roundw
              case rel => exact ⟨k + 1, by omega, by go_num, HF⟩
              case measure => simp [intOf] <;> omega
          · obtain rfl : k = hs.length := by omega
            have hK : ¬ ((hs.length : Nat) : Int) < hs.length := by omega
            obtain ⟨ys, hys⟩ : ∃ ys, hG n0 d0 (delL xs i) hs hs.length = ys := ⟨_, rfl⟩
            rw [hys] at HGv hlk hZk HR
            obtain ⟨g, cap, rfl, k1, k2, hgw, row, hb⟩ := HGv.out.out
            have hsb := hb.size
            have hgl := row.lt
            have ROW := Lib.hid row
            have HBw := Lib.hid hb
            clear hys hat HGv row
            cases hG : arB ys
            · have HB : Hid (hrB xs nm hs = false) := Lib.hid (by unfold hrB; rw [HR.out, hG, Bool.and_false])
              go_wp2_with fail
              refine (iAreOwners_any _ cap ys _ (ROW.out.rdTo Ow.enc_len (by repeat' (first | (with_reducible exact Below.refl _ _) | (with_reducible refine Below.alloc ?_ ?_ _) | (with_reducible refine Below.setCell ?_ ?_ _) | (with_reducible refine Below.drew ?_) | (with_reducible refine Below.trans ?_ (Below.mono (by with_reducible assumption) ?_)) | omega | (simp; done) | (simp; omega)))) (by omega) (by omega) hZk).mono ?_
              rintro e w8 ⟨rfl, hb8⟩
              have hs8 := hb8.size
              rw [hG]
              go_wp2
              go_ret2
              exact hrC_no HB.out (MadeC.nil (fun v => .returned (.tuple #[v, .bool false])) (by repeat' (first | (with_reducible exact Below.refl _ _) | (with_reducible refine Below.alloc ?_ ?_ _) | (with_reducible refine Below.setCell ?_ ?_ _) | (with_reducible refine Below.drew ?_) | (with_reducible refine Below.trans ?_ (Below.mono (by with_reducible assumption) ?_)) | omega | (simp; done) | (simp; omega))))
            · have HB : Hid (hrB xs nm hs = true) := Lib.hid (by unfold hrB; rw [HR.out, hG, HC1]; rfl)
              go_wp2_with fail
              refine (iAreOwners_any _ cap ys _ (ROW.out.rdTo Ow.enc_len (by repeat' (first | (with_reducible exact Below.refl _ _) | (with_reducible refine Below.alloc ?_ ?_ _) | (with_reducible refine Below.setCell ?_ ?_ _) | (with_reducible refine Below.drew ?_) | (with_reducible refine Below.trans ?_ (Below.mono (by with_reducible assumption) ?_)) | omega | (simp; done) | (simp; omega)))) (by omega) (by omega) hZk).mono ?_
              rintro e w8 ⟨rfl, hb8⟩
              have hs8 := hb8.size
              rw [hG]
              go_wp2
              go_ret2
              exact hrC_yes HR.out HB.out ⟨_, cap, rfl, OwnAt.row hgw (ROW.out.to hb8), HBw.out.trans (hb8.mono (by omega)), by omega⟩
  · have HB : Hid (hrB xs nm hs = false) := Lib.hid (by
      obtain ⟨j, hj, e⟩ := List.mem_iff_getElem.1 ((Lib.containsS_iff _ _).1 hcs)
      unfold hrB; rw [HCC.out false (noD_name hj (by rw [el_get hj]; exact e))]; rfl)
    clear hcs
    go_wp2
    go_ret2
    exact hrC_no HB.out (MadeC.nil (fun v => .returned (.tuple #[v, .bool false])) (by repeat' (first | (with_reducible exact Below.refl _ _) | (with_reducible refine Below.alloc ?_ ?_ _) | (with_reducible refine Below.setCell ?_ ?_ _) | (with_reducible refine Below.drew ?_) | (with_reducible refine Below.trans ?_ (Below.mono (by with_reducible assumption) ?_)) | omega | (simp; done) | (simp; omega))))
set_option maxRecDepth 10000 in
set_option maxHeartbeats 8000000 in
theorem iHeirsOfC_any (A : Option Addr) (c : Nat) (xs : List Ow) (A' : Option Addr) (c' : Nat) (hs : List ByteArray) (nm : ByteArray) (w : World) (h : Rd w w.heap.size A 3 Ow.enc xs) (h' : Rd w w.heap.size A' 1 se hs) (hx : xs.length ≤ 1048576) (hc : xs.length ≤ c) (hc' : hs.length ≤ c') (hz : OwSz 1048576 xs) (hsz : StrSz 1048576 hs) :
    Calls Tryd.prog 48 #[.slice A xs.length c, .string nm, .slice A' hs.length c'] w fun e w' => MadeC w 54 ((hrL xs nm hs).flatMap Ow.enc) (hrL xs nm hs).length (fun v => .returned (.tuple #[v, .bool (hrB xs nm hs)])) e w' := by
  have HX := Lib.hid h
  have HZ := Lib.hid hz
  cases hg : arB xs
  · have HB : Hid (hrB xs nm hs = false) := Lib.hid (by simp [hrB, hrC, hg])
    have Hg := Lib.hid hg
    obtain ⟨ai, hai0⟩ : ∃ a, owAtN xs nm xs.length = a := ⟨_, rfl⟩
    have Hai := Lib.hid hai0
    clear h hz hg hai0
    go_enter Tryd.func48, Tryd.ntmps48
    go_wp2_with fail
    refine (ownerAt_any _ c xs.length xs nm _ (HX.out.to (by repeat' (first | (with_reducible exact Below.refl _ _) | (with_reducible refine Below.alloc ?_ ?_ _) | (with_reducible refine Below.setCell ?_ ?_ _) | (with_reducible refine Below.drew ?_) | (with_reducible refine Below.trans ?_ (Below.mono (by with_reducible assumption) ?_)) | omega | (simp; done) | (simp; omega)))) hx rfl).mono ?_
    rintro e w1 ⟨rfl, hb1⟩
    have hs1 := hb1.size
    rw [Hai.out]
    go_wp2_with fail
    refine (iAreOwners_any _ c xs _ (HX.out.to (by repeat' (first | (with_reducible exact Below.refl _ _) | (with_reducible refine Below.alloc ?_ ?_ _) | (with_reducible refine Below.setCell ?_ ?_ _) | (with_reducible refine Below.drew ?_) | (with_reducible refine Below.trans ?_ (Below.mono (by with_reducible assumption) ?_)) | omega | (simp; done) | (simp; omega)))) hx hc HZ.out).mono ?_
    rintro e w2 ⟨rfl, hb2⟩
    have hs2 := hb2.size
    rw [Hg.out]
    go_wp2
    go_ret2
    exact hrC_no HB.out (MadeC.nil (fun v => .returned (.tuple #[v, .bool false])) (by repeat' (first | (with_reducible exact Below.refl _ _) | (with_reducible refine Below.alloc ?_ ?_ _) | (with_reducible refine Below.setCell ?_ ?_ _) | (with_reducible refine Below.drew ?_) | (with_reducible refine Below.trans ?_ (Below.mono (by with_reducible assumption) ?_)) | omega | (simp; done) | (simp; omega))))
  by_cases hat : owAtN xs nm xs.length < 0
  · have HB : Hid (hrB xs nm hs = false) := Lib.hid (by simp [hrB, hrC, show ¬ 0 ≤ owAtN xs nm xs.length by omega])
    have Hg := Lib.hid hg
    have Hat := Lib.hid (owAtN_neg hat).1
    clear h hz hg hat
    go_enter Tryd.func48, Tryd.ntmps48
    go_wp2_with fail
    refine (ownerAt_any _ c xs.length xs nm _ (HX.out.to (by repeat' (first | (with_reducible exact Below.refl _ _) | (with_reducible refine Below.alloc ?_ ?_ _) | (with_reducible refine Below.setCell ?_ ?_ _) | (with_reducible refine Below.drew ?_) | (with_reducible refine Below.trans ?_ (Below.mono (by with_reducible assumption) ?_)) | omega | (simp; done) | (simp; omega)))) hx rfl).mono ?_
    rintro e w1 ⟨rfl, hb1⟩
    have hs1 := hb1.size
    rw [Hat.out]
    go_wp2_with fail
    refine (iAreOwners_any _ c xs _ (HX.out.to (by repeat' (first | (with_reducible exact Below.refl _ _) | (with_reducible refine Below.alloc ?_ ?_ _) | (with_reducible refine Below.setCell ?_ ?_ _) | (with_reducible refine Below.drew ?_) | (with_reducible refine Below.trans ?_ (Below.mono (by with_reducible assumption) ?_)) | omega | (simp; done) | (simp; omega)))) hx hc HZ.out).mono ?_
    rintro e w2 ⟨rfl, hb2⟩
    have hs2 := hb2.size
    rw [Hg.out]
    go_wp2
    go_ret2
    exact hrC_no HB.out (MadeC.nil (fun v => .returned (.tuple #[v, .bool false])) (by repeat' (first | (with_reducible exact Below.refl _ _) | (with_reducible refine Below.alloc ?_ ?_ _) | (with_reducible refine Below.setCell ?_ ?_ _) | (with_reducible refine Below.drew ?_) | (with_reducible refine Below.trans ?_ (Below.mono (by with_reducible assumption) ?_)) | omega | (simp; done) | (simp; omega))))
  rcases owAtN_or xs nm xs.length with ⟨h9, _⟩ | ⟨i, hi, hai, _, _⟩
  · omega
  cases hin : inB hs.length 1 5
  · have HB : Hid (hrB xs nm hs = false) := Lib.hid (by simp [hrB, hrC, hin])
    have Hg := Lib.hid hg
    have Hat := Lib.hid hai
    have Hin := Lib.hid hin
    have hi0 : ¬ (i : Int) < 0 := by omega
    clear h hz hg hat hai
    go_enter Tryd.func48, Tryd.ntmps48
    go_wp2_with fail
    refine (ownerAt_any _ c xs.length xs nm _ (HX.out.to (by repeat' (first | (with_reducible exact Below.refl _ _) | (with_reducible refine Below.alloc ?_ ?_ _) | (with_reducible refine Below.setCell ?_ ?_ _) | (with_reducible refine Below.drew ?_) | (with_reducible refine Below.trans ?_ (Below.mono (by with_reducible assumption) ?_)) | omega | (simp; done) | (simp; omega)))) hx rfl).mono ?_
    rintro e w1 ⟨rfl, hb1⟩
    have hs1 := hb1.size
    rw [Hat.out]
    go_wp2_with fail
    refine (iAreOwners_any _ c xs _ (HX.out.to (by repeat' (first | (with_reducible exact Below.refl _ _) | (with_reducible refine Below.alloc ?_ ?_ _) | (with_reducible refine Below.setCell ?_ ?_ _) | (with_reducible refine Below.drew ?_) | (with_reducible refine Below.trans ?_ (Below.mono (by with_reducible assumption) ?_)) | omega | (simp; done) | (simp; omega)))) hx hc HZ.out).mono ?_
    rintro e w2 ⟨rfl, hb2⟩
    have hs2 := hb2.size
    rw [Hg.out]
    go_wp2_with fail
    (go_at_call 60; refine (within_any _ _ _ _).mono ?_; rintro e w1 ⟨rfl, rfl⟩)
    rw [Hin.out]
    go_wp2
    go_ret2
    exact hrC_no HB.out (MadeC.nil (fun v => .returned (.tuple #[v, .bool false])) (by repeat' (first | (with_reducible exact Below.refl _ _) | (with_reducible refine Below.alloc ?_ ?_ _) | (with_reducible refine Below.setCell ?_ ?_ _) | (with_reducible refine Below.drew ?_) | (with_reducible refine Below.trans ?_ (Below.mono (by with_reducible assumption) ?_)) | omega | (simp; done) | (simp; omega))))
  have hln := inB_iff.1 hin
  obtain ⟨b0, o0, rfl, _⟩ := h (by omega)
  obtain ⟨b1, o1, rfl, _⟩ := h' (by omega)
  exact iHeirsOfC_main b0 o0 c xs b1 o1 c' hs nm w h h' hx hc hc' hz hsz hg i hi hai hin
end Go.Proofs.YtimdnihadhbjpaaDoor
namespace Go.Proofs.YtimdnihadhbjpaaDoor
open Go.RowKit Go.Sort Go.Salt
theorem r_uniq {a b n d : Int} (hb : 0 < b) (hd : 0 < d) (hg : Int.gcd n d = 1) (h : a * d = n * b) : rN a b = n ∧ rD a b = d := by
  obtain ⟨q, rfl⟩ : d ∣ b := dvd_gcd1 (a := n) ⟨a, by rw [← h, Int.mul_comm]⟩ (by rw [Int.gcd_comm]; exact hg)
  have e : a = q * n := by
    have h2 : d * a = d * (q * n) := by rw [Int.mul_comm d a, h]; grind
    exact Int.eq_of_mul_eq_mul_left (by omega) h2
  have hq : 0 < q := by
    rcases Int.lt_or_le 0 q with h | h
    · exact h
    · have := Int.mul_nonneg (show 0 ≤ d by omega) (show 0 ≤ -q by omega); rw [Int.mul_neg] at this; omega
  subst e
  rw [Int.mul_comm d q, (r_scale hq).1, (r_scale hq).2]
  unfold rN rD; rw [hg]; simp
theorem r_mul {n m : Int} (hm : 0 < m) : rN n m * m = n * rD n m := by
  obtain ⟨g, hg, e1, e2, hb⟩ := r_eq (n := n) hm
  generalize rN n m = a at *
  generalize rD n m = b at *
  rw [e1, e2]; grind
/-! Sums over lists. -/
def LD : List Ow → Int
  | [] => 1
  | x :: xs => x.d * LD xs
def LS : List Ow → Int
  | [] => 0
  | x :: xs => x.n * LD xs + x.d * LS xs
theorem LD_app : ∀ (a b : List Ow), LD (a ++ b) = LD a * LD b
  | [], b => by simp [LD]
  | x :: a, b => by rw [List.cons_append, LD, LD, LD_app a b, Int.mul_assoc]
theorem LS_app : ∀ (a b : List Ow), LS (a ++ b) = LS a * LD b + LD a * LS b
  | [], b => by simp [LD, LS]
  | x :: a, b => by rw [List.cons_append, LS, LS, LS_app a b, LD_app, LD]; grind
theorem dP_LD (xs : List Ow) : ∀ k, k ≤ xs.length → dP (deO xs) k = LD (xs.take k) ∧ sP allP (nuO xs) (deO xs) k = LS (xs.take k)
  | 0, _ => by simp [dP, sP, LD, LS]
  | k + 1, h => by
    have ih := dP_LD xs k (by omega)
    rw [take_el (by omega), LD_app, LS_app, ← ih.1, ← ih.2]
    refine ⟨?_, ?_⟩
    · simp [dP, LD, deO]
    · simp only [sP, LD, LS, deO, nuO, allP, if_true, Int.mul_one, Int.mul_zero, Int.add_zero]
      rw [Int.mul_comm (el xs k).n]
theorem LD_all (xs : List Ow) : dP (deO xs) xs.length = LD xs ∧ sP allP (nuO xs) (deO xs) xs.length = LS xs := by
  have := dP_LD xs xs.length (Nat.le_refl _); rwa [List.take_length] at this
/-- Owners, said without an order. -/
def goodO (xs : List Ow) : Prop := (1 ≤ xs.length ∧ xs.length ≤ 8) ∧ (∀ k, k < xs.length → owOK (el xs k) = true) ∧ (∀ k, k < xs.length → ∀ j, j < k → (el xs j).s ≠ (el xs k).s) ∧ LS xs = LD xs
theorem gdB_mk {xs : List Ow} : ∀ {n : Nat}, (∀ k, k < n → owOK (el xs k) = true ∧ ∀ j, j < k → (el xs j).s ≠ (el xs k).s) → gdB xs n = true
  | 0, _ => rfl
  | n + 1, h => by
    have h1 := h n (by omega)
    have h2 := owAtN_none (xs := xs) (s := (el xs n).s) (k := n) h1.2
    simp [gdB, gdB_mk (n := n) fun k hk => h k (by omega), h1.1, h2]
theorem good_of {xs : List Ow} (h : arB xs = true) : goodO xs := by
  have hl := arOK_len h
  unfold arB at h
  simp only [Bool.and_eq_true, decide_eq_true_iff] at h
  refine ⟨hl, fun k hk => (gdB_el h.2.1 k hk).1, fun k hk => (owAtN_neg (gdB_el h.2.1 k hk).2).2, ?_⟩
  rw [(LD_all xs).1, (LD_all xs).2] at h; exact h.2.2
theorem of_good {xs : List Ow} (h : goodO xs) : arB xs = true := by
  unfold arB
  simp only [Bool.and_eq_true, decide_eq_true_iff]
  refine ⟨inB_iff.2 (by have := h.1; omega), gdB_mk fun k hk => ⟨h.2.1 k hk, h.2.2.1 k hk⟩, ?_⟩
  rw [(LD_all xs).1, (LD_all xs).2]; exact h.2.2.2
theorem ring_move {A B D E n d : Int} (h : A * (d * E) + D * (n * E + d * B) = D * (d * E)) : (A * E + D * B) * d + D * E * n = D * E * d := by grind
/-- One owner is moved behind all others. -/
theorem good_move {xs : List Ow} (h : goodO xs) {i : Nat} (hi : i < xs.length) : goodO (delL xs i ++ [el xs i]) := by
  have hdl := del_len hi
  have hl : (delL xs i ++ [el xs i]).length = xs.length := by rw [List.length_append, hdl]; simp; omega
  have hne : ∀ a b, a < xs.length → b < xs.length → a ≠ b → (el xs a).s ≠ (el xs b).s := fun a b ha hb hab => by
    rcases Nat.lt_or_gt_of_ne hab with h1 | h1
    · exact h.2.2.1 b hb a h1
    · exact fun e => h.2.2.1 a ha b h1 e.symm
  have hel : ∀ k, k < xs.length → el (delL xs i ++ [el xs i]) k = el xs (if k = xs.length - 1 then i else if k < i then k else k + 1) := fun k hk => by
    rw [el_snoc, hdl]; split
    · rfl
    · rw [el_del hi]; split <;> rfl
  refine ⟨by rw [hl]; exact h.1, fun k hk => ?_, fun k hk j hj => ?_, ?_⟩
  · rw [hl] at hk; rw [hel k hk]; exact h.2.1 _ (by split; omega; split <;> omega)
  · rw [hl] at hk; rw [hel k hk, hel j (by omega)]
    refine hne _ _ ?_ ?_ ?_ <;> repeat' split
    all_goals omega
  · have e : xs = xs.take i ++ (el xs i :: xs.drop (i + 1)) := by
      rw [el_get hi, List.getElem_cons_drop, List.take_append_drop]
    have hs := h.2.2.2
    rw [e] at hs
    unfold delL
    generalize hx : el xs i = x at *
    rw [LS_app, LD_app, LS, LD] at hs
    simp only [LS_app, LD_app, LS, LD, Int.mul_one, Int.mul_zero, Int.add_zero]
    exact ring_move hs
theorem gcd_of_owOK {x : Ow} (h : owOK x = true) : Int.gcd x.n x.d = 1 ∧ (1 ≤ x.n ∧ x.n ≤ 1000) ∧ 1 ≤ x.d ∧ x.d ≤ 1000 := by
  have hb := owOK_bd h
  refine ⟨?_, hb⟩
  unfold owOK at h
  simp only [Bool.and_eq_true, decide_eq_true_iff] at h
  have h1 := h.2.2
  rw [Int.gcd, show x.n.natAbs = x.n.toNat by omega, show x.d.natAbs = x.d.toNat by omega]; exact h1
theorem Ow.mk3 {x : Ow} {s : ByteArray} {n d : Int} (h1 : x.s = s) (h2 : n = x.n) (h3 : d = x.d) : (⟨s, n, d⟩ : Ow) = x := by
  subst h1 h2 h3; rfl
/-- Somebody's share more and less again is as before. -/
theorem more_less {x : Ow} {num den N D : Int} (hx : Int.gcd x.n x.d = 1) (hd : 0 < x.d) (hden : 0 < den) (hD : 0 < D) (hm : N * (x.d * den) = (x.n * den + num * x.d) * D) :
    rN (N * den - num * D) (D * den) = x.n ∧ rD (N * den - num * D) (D * den) = x.d :=
  r_uniq (Int.mul_pos hD hden) hd hx (by grind)
theorem less_more {x : Ow} {num den N D : Int} (hx : Int.gcd x.n x.d = 1) (hd : 0 < x.d) (hden : 0 < den) (hD : 0 < D) (hm : N * (x.d * den) = (x.n * den - num * x.d) * D) :
    rN (N * den + num * D) (D * den) = x.n ∧ rD (N * den + num * D) (D * den) = x.d :=
  r_uniq (Int.mul_pos hD hden) hd hx (by grind)
/-- The list behind selling and selling back. -/
theorem back_eq {xs ys : List Ow} {f t : ByteArray} {num den : Int} {i : Nat} (hg : goodO xs) (hi : i < xs.length) (h1 : (el xs i).s = f) (h2 : ∀ j, j < i → (el xs j).s ≠ f) (hft : f ≠ t)
    (hn : 0 < num) (hd : 0 < den) (hl : 0 ≤ sellN (el xs i) num den) (hys : sellL xs i t num den = ys) (hp : posO ys) :
    ∃ j, j < ys.length ∧ (el ys j).s = t ∧ (∀ k, k < j → (el ys k).s ≠ t) ∧ 0 ≤ sellN (el ys j) num den ∧ (sellL ys j f num den = xs ∨ sellL ys j f num den = delL xs i ++ [el xs i]) := by
  have hne : ∀ a b, a < xs.length → b < xs.length → a ≠ b → (el xs a).s ≠ (el xs b).s := fun a b ha hb hab => by
    rcases Nat.lt_or_gt_of_ne hab with h1 | h1
    · exact hg.2.2.1 b hb a h1
    · exact fun e => hg.2.2.1 a ha b h1 e.symm
  have hoi := gcd_of_owOK (hg.2.1 i hi)
  have hfo : ∀ a, a < xs.length → a ≠ i → (el xs a).s ≠ f := fun a ha hai e => hne a i ha hi hai (by rw [e, h1])
  have hF : (0 : Int) < (el xs i).d * den := Int.mul_pos (by omega) hd
  have hLm := r_mul (n := sellN (el xs i) num den) hF
  have hLp := (r_eq (n := sellN (el xs i) num den) hF)
  obtain ⟨_, _, _, _, hLD⟩ := hLp
  have hNm := r_mul (n := num) hd
  obtain ⟨_, _, _, _, hND⟩ := r_eq (n := num) hd
  have hback := less_more (num := num) hoi.1 (by omega) hd hLD (by rw [hLm]; rfl)
  rcases owAtN_or xs t xs.length with ⟨_, hno⟩ | ⟨j, hj, _, j1, j2⟩
  · -- a new owner
    have hT0 : sellN ⟨t, rN num den, rD num den⟩ num den = 0 := by unfold sellN; simp only; omega
    unfold sellL at hys
    rw [getsL_no hno] at hys
    by_cases h0 : sellN (el xs i) num den = 0
    · rw [if_pos h0, del_snoc hi] at hys
      have hdl := del_len hi
      refine ⟨xs.length - 1, ?_, ?_, ?_, ?_, .inr ?_⟩
      · rw [← hys, List.length_append, hdl]; simp
      · rw [← hys, el_snoc, hdl, if_pos rfl]
      · intro k hk
        rw [← hys, el_snoc, hdl, if_neg (by omega), el_del hi]; split
        · exact hno _ (by omega)
        · exact hno _ (by omega)
      · rw [← hys, el_snoc, hdl, if_pos rfl, hT0]; exact Int.le_refl _
      · have hfy : ∀ k, k < ys.length → (el ys k).s ≠ f := fun k hk => by
          rw [← hys, List.length_append, hdl] at hk
          simp at hk
          rw [← hys, el_snoc, hdl]; split
          · exact fun e => hft e.symm
          · rw [el_del hi]; split
            · exact hfo _ (by omega) (by omega)
            · exact hfo _ (by omega) (by omega)
        have hyl : ys.length = xs.length := by rw [← hys, List.length_append, hdl]; simp; omega
        have hyn : sellN (el ys (xs.length - 1)) num den = 0 := by rw [← hys, el_snoc, hdl, if_pos rfl, hT0]
        have hu := r_uniq (a := num) (b := den) (n := (el xs i).n) (d := (el xs i).d) hd (by omega) hoi.1 (by unfold sellN at h0; omega)
        unfold sellL
        rw [if_pos hyn, getsL_no hfy]
        refine el_ext ?_ fun k hk => ?_
        · rw [del_len (by simp; omega), List.length_append, List.length_append, hdl, hyl]; simp; omega
        · rw [del_len (by simp; omega), List.length_append, hyl] at hk
          simp at hk
          rw [el_del (by simp; omega), el_snoc, el_snoc, el_snoc, hdl, hyl]
          by_cases e : k = xs.length - 1
          · subst e
            rw [if_neg (by omega), if_pos (by omega), if_pos rfl]
            exact Ow.mk3 h1 hu.1 hu.2
          · rw [if_pos (by omega), if_neg (by omega), if_neg e, ← hys, el_snoc, hdl, if_neg e]
    · rw [if_neg h0] at hys
      have hyl : ys.length = xs.length + 1 := by rw [← hys, List.length_set, List.length_append]; simp
      have hye : ∀ k, el ys k = if k = i then ⟨f, rN (sellN (el xs i) num den) ((el xs i).d * den), rD (sellN (el xs i) num den) ((el xs i).d * den)⟩ else if k = xs.length then ⟨t, rN num den, rD num den⟩ else el xs k := fun k => by
        have hs0 : (el (xs ++ [(⟨t, rN num den, rD num den⟩ : Ow)]) i).s = f := by rw [el_snoc, if_neg (by omega), h1]
        rw [hs0] at hys
        rw [← hys, el_put (by simp; omega), el_snoc]
      refine ⟨xs.length, by omega, ?_, ?_, ?_, .inl ?_⟩
      · rw [hye, if_neg (by omega), if_pos rfl]
      · intro k hk
        rw [hye]; split
        · exact hft
        · rw [if_neg (by omega)]; exact hno _ hk
      · rw [hye, if_neg (by omega), if_pos rfl, hT0]; exact Int.le_refl _
      · have hyn : sellN (el ys xs.length) num den = 0 := by rw [hye, if_neg (by omega), if_pos rfl, hT0]
        unfold sellL
        rw [if_pos hyn, getsL_at (j := i) (by omega) (by rw [hye, if_pos rfl]) (fun k hk => by rw [hye, if_neg (by omega), if_neg (by omega)]; exact h2 k hk)]
        rw [show el ys i = _ from (hye i).trans (if_pos rfl)]
        simp only
        rw [hback.1, hback.2, Ow.mk3 h1 rfl rfl]
        refine el_ext ?_ fun k hk => ?_
        · rw [del_len (by simp; omega), List.length_set, hyl]; omega
        · rw [del_len (by simp; omega), List.length_set, hyl] at hk
          rw [el_del (by simp; omega), if_pos (by omega), el_put (by omega), hye]
          by_cases e : k = i
          · subst e; rw [if_pos rfl]
          · rw [if_neg e, if_neg e, if_neg (by omega)]
  · have hij : j ≠ i := fun e => hft (by rw [← h1, ← e, j1])
    have hoj := gcd_of_owOK (hg.2.1 j hj)
    have hto : ∀ a, a < xs.length → a ≠ j → (el xs a).s ≠ t := fun a ha haj e => hne a j ha hj haj (by rw [e, j1])
    have hT : (0 : Int) < (el xs j).d * den := Int.mul_pos (by omega) hd
    have hTm := r_mul (n := (el xs j).n * den + num * (el xs j).d) hT
    obtain ⟨_, _, _, _, hTD⟩ := r_eq (n := (el xs j).n * den + num * (el xs j).d) hT
    have hml := more_less hoj.1 (by omega) hd hTD hTm
    have hTn : sellN ⟨t, rN ((el xs j).n * den + num * (el xs j).d) ((el xs j).d * den), rD ((el xs j).n * den + num * (el xs j).d) ((el xs j).d * den)⟩ num den * (el xs j).d = (el xs j).n * (rD ((el xs j).n * den + num * (el xs j).d) ((el xs j).d * den) * den) := by
      unfold sellN; simp only; grind
    have hTp : 0 < sellN ⟨t, rN ((el xs j).n * den + num * (el xs j).d) ((el xs j).d * den), rD ((el xs j).n * den + num * (el xs j).d) ((el xs j).d * den)⟩ num den := by
      have h3 := Int.mul_pos (show 0 < (el xs j).n by omega) (Int.mul_pos hTD hd)
      rw [← hTn] at h3
      rcases Int.lt_or_le 0 (sellN ⟨t, rN ((el xs j).n * den + num * (el xs j).d) ((el xs j).d * den), rD ((el xs j).n * den + num * (el xs j).d) ((el xs j).d * den)⟩ num den) with h | h
      · exact h
      · have := Int.mul_nonneg (show 0 ≤ -sellN ⟨t, rN ((el xs j).n * den + num * (el xs j).d) ((el xs j).d * den), rD ((el xs j).n * den + num * (el xs j).d) ((el xs j).d * den)⟩ num den by omega) (show 0 ≤ (el xs j).d by omega)
        rw [Int.neg_mul] at this; omega
    unfold sellL at hys
    rw [getsL_at hj j1 j2] at hys
    generalize hTe : (⟨t, rN ((el xs j).n * den + num * (el xs j).d) ((el xs j).d * den), rD ((el xs j).n * den + num * (el xs j).d) ((el xs j).d * den)⟩ : Ow) = T at hys hTn hTp
    have hTb : (⟨t, rN (sellN T num den) (T.d * den), rD (sellN T num den) (T.d * den)⟩ : Ow) = el xs j := by
      rw [← hTe]; exact Ow.mk3 j1 hml.1 hml.2
    have hTs : T.s = t := by rw [← hTe]
    by_cases h0 : sellN (el xs i) num den = 0
    · rw [if_pos h0] at hys
      have hdl := del_len hi
      have hyl : ys.length = xs.length - 1 := by rw [← hys, del_len (by simpa using hi), List.length_set]
      have hye : ∀ k, el ys k = if k < i then (if k = j then T else el xs k) else (if k + 1 = j then T else el xs (k + 1)) := fun k => by
        rw [← hys, el_del (by simpa using hi)]; split
        · rw [el_put hj]
        · rw [el_put hj]
      have hfy : ∀ k, k < ys.length → (el ys k).s ≠ f := fun k hk => by
        rw [hye]
        have hTf : T.s ≠ f := by rw [hTs]; exact fun e => hft e.symm
        repeat' split
        · exact hTf
        · exact hfo _ (by omega) (by omega)
        · exact hTf
        · exact hfo _ (by omega) (by omega)
      obtain ⟨j', hj'⟩ : ∃ j', j' = if j < i then j else j - 1 := ⟨_, rfl⟩
      have hjl : j' < ys.length := by rw [hj']; split <;> omega
      have hyj : el ys j' = T := by
        rw [hye, hj']
        by_cases hlt : j < i
        · rw [if_pos hlt, if_pos hlt, if_pos rfl]
        · rw [if_neg hlt, if_neg (by omega), if_pos (by omega)]
      refine ⟨j', hjl, by rw [hyj, hTs], ?_, by rw [hyj]; omega, .inr ?_⟩
      · intro k hk
        rw [hye]
        have hkb : k < j' := hk
        split at hj'
        · rw [if_pos (by omega), if_neg (by omega)]; exact hto _ (by omega) (by omega)
        · repeat' split
          · omega
          · exact hto _ (by omega) (by omega)
          · omega
          · exact hto _ (by omega) (by omega)
      · have hu := r_uniq (a := num) (b := den) (n := (el xs i).n) (d := (el xs i).d) hd (by omega) hoi.1 (by unfold sellN at h0; omega)
        unfold sellL
        rw [getsL_no hfy, hyj, if_neg (by omega), show el (ys ++ [⟨f, rN num den, rD num den⟩]) j' = T by rw [el_snoc, if_neg (by omega), hyj], hTs, hTb]
        refine el_ext ?_ fun k hk => ?_
        · rw [List.length_set, List.length_append, List.length_append, hdl, hyl]; simp
        · rw [List.length_set, List.length_append, hyl] at hk
          simp at hk
          rw [el_put (by simp; omega), el_snoc, el_snoc, hdl, hyl, el_del hi, hye]
          by_cases e : k = xs.length - 1
          · subst e
            rw [if_neg (by omega), if_pos rfl, if_pos rfl]
            exact Ow.mk3 h1 hu.1 hu.2
          · rw [if_neg e, if_neg e]
            by_cases ek : k = j'
            · rw [if_pos ek, ek, hj']
              by_cases hlt : j < i
              · rw [if_pos hlt, if_pos hlt]
              · rw [if_neg hlt, if_neg (by omega), Nat.sub_add_cancel (by omega)]
            · rw [if_neg ek]
              split at hj'
              · by_cases hki : k < i
                · rw [if_pos hki, if_pos hki, if_neg (by omega)]
                · rw [if_neg hki, if_neg hki, if_neg (by omega)]
              · by_cases hki : k < i
                · rw [if_pos hki, if_pos hki, if_neg (by omega)]
                · rw [if_neg hki, if_neg hki, if_neg (by omega)]
    · rw [if_neg h0, el_put hj, if_neg (by omega), h1] at hys
      have hyl : ys.length = xs.length := by rw [← hys, List.length_set, List.length_set]
      have hye : ∀ k, el ys k = if k = i then ⟨f, rN (sellN (el xs i) num den) ((el xs i).d * den), rD (sellN (el xs i) num den) ((el xs i).d * den)⟩ else if k = j then T else el xs k := fun k => by
        rw [← hys, el_put (by simpa using hi), el_put hj]
      have hyj : el ys j = T := by rw [hye, if_neg hij, if_pos rfl]
      refine ⟨j, by omega, by rw [hyj, hTs], ?_, by rw [hyj]; omega, .inl ?_⟩
      · intro k hk
        rw [hye]; split
        · exact hft
        · rw [if_neg (by omega)]; exact j2 k hk
      · unfold sellL
        rw [hyj, if_neg (by omega), getsL_at (j := i) (by omega) (by rw [hye, if_pos rfl]) (fun k hk => by
          rw [hye, if_neg (by omega)]; split
          · rw [hTs]; exact fun e => hft e.symm
          · exact h2 k hk)]
        rw [el_put (by omega), if_neg hij, hyj, hTs, hTb]
        rw [show el ys i = _ from (hye i).trans (if_pos rfl)]
        simp only
        rw [hback.1, hback.2, Ow.mk3 h1 rfl rfl]
        refine el_ext ?_ fun k hk => ?_
        · rw [List.length_set, List.length_set, hyl]
        · rw [List.length_set, List.length_set, hyl] at hk
          rw [el_put (by simp; omega), el_put (by omega), hye]
          by_cases e : k = j
          · subst e; rw [if_pos rfl]
          · rw [if_neg e]
            by_cases e2 : k = i
            · subst e2; rw [if_pos rfl]
            · rw [if_neg e2, if_neg e2, if_neg e]
/-- What was sold is sold back. -/
theorem sell_back {xs : List Ow} {f t : ByteArray} {num den : Int} (h : slB xs f t num den = true) :
    slB (slL xs f t num den) t f num den = true ∧ (slL (slL xs f t num den) t f num den).length = xs.length ∧
    ∀ k, k < xs.length → ∃ m, m < xs.length ∧ owAtN (slL (slL xs f t num den) t f num den) (el xs k).s xs.length = m ∧ el (slL (slL xs f t num den) t f num den) m = el xs k := by
  have hL : slL xs f t num den = slR xs f t num den := by unfold slL; rw [if_pos h]
  have hS := h
  unfold slB slC at h
  simp only [Bool.and_eq_true, decide_eq_true_iff] at h
  obtain ⟨⟨hg, h0, hft, hn, hd⟩, hgy⟩ := h
  have hnr := inB_iff.1 hn
  have hdr := inB_iff.1 hd
  have hG := good_of hg
  have hpos : ∀ j, 0 < (el xs j).n ∧ 0 < (el xs j).d := fun j => by have := arOK_bd hg j; omega
  rcases owAtN_or xs f xs.length with ⟨h9, _⟩ | ⟨i, hi, hai, h1, h2⟩
  · omega
  have hl : 0 ≤ sellN (el xs i) num den := by
    rcases Int.lt_or_le (sellN (el xs i) num den) 0 with hneg | h
    · obtain ⟨a1, a2⟩ := sell_neg hi h1 h2 hft hpos (by omega) (by omega) hneg
      have := arB_no a1 (owOK_neg (x := el (giveL (giveL xs f (-(rN num den)) (rD num den)) t (rN num den) (rD num den)) i) (by omega))
      unfold slR at hgy; rw [hgy] at this; cases this
    · exact h
  have he := sell_eq hi h1 h2 hft hpos (by omega) (by omega) hl
  rw [hL]
  have hR : slR xs f t num den = sellL xs i t num den := he
  rw [hR] at hgy ⊢
  obtain ⟨ys, hys⟩ : ∃ ys, sellL xs i t num den = ys := ⟨_, rfl⟩
  rw [hys] at hgy ⊢
  have hpy : posO ys := fun j => by have := arOK_bd hgy j; omega
  obtain ⟨j, hj, j1, j2, j3, hz⟩ := back_eq hG hi h1 h2 hft (by omega) (by omega) hl hys hpy
  have he2 := sell_eq hj j1 j2 (fun e => hft e.symm) hpy (by omega) (by omega) j3
  have hR2 : slR ys t f num den = sellL ys j f num den := he2
  have hzg : goodO (sellL ys j f num den) := by
    rcases hz with e | e
    · rw [e]; exact hG
    · rw [e]; exact good_move hG hi
  have hB2 : slB ys t f num den = true := by
    unfold slB slC
    rw [hR2, of_good hzg, hgy, owAtN_first j1 j2 hj, hn, hd, decide_eq_true (show (0 : Int) ≤ (j : Nat) by omega), decide_eq_true (show t ≠ f from fun e => hft e.symm)]; rfl
  have hL2 : slL ys t f num den = sellL ys j f num den := by unfold slL; rw [if_pos hB2, hR2]
  rw [hL2]
  have hzl : (sellL ys j f num den).length = xs.length := by
    rcases hz with e | e
    · rw [e]
    · rw [e, List.length_append, del_len hi]; simp; omega
  refine ⟨hB2, hzl, fun k hk => ?_⟩
  obtain ⟨m, hm, e⟩ : ∃ m, m < xs.length ∧ el (sellL ys j f num den) m = el xs k := by
    rcases hz with e | e
    · exact ⟨k, hk, by rw [e]⟩
    · rw [e]
      by_cases e1 : k = i
      · exact ⟨xs.length - 1, by omega, by rw [el_snoc, del_len hi, if_pos rfl, e1]⟩
      · by_cases e2 : k < i
        · exact ⟨k, by omega, by rw [el_snoc, del_len hi, if_neg (by omega), el_del hi, if_pos e2]⟩
        · exact ⟨k - 1, by omega, by rw [el_snoc, del_len hi, if_neg (by omega), el_del hi, if_neg (by omega), Nat.sub_add_cancel (by omega)]⟩
  refine ⟨m, hm, owAtN_first (by rw [e]) (fun a ha => ?_) hm, e⟩
  have := hzg.2.2.1 m (by omega) a ha
  rw [e] at this; exact this
end Go.Proofs.YtimdnihadhbjpaaDoor
namespace Go.Proofs.YtimdnihadhbjpaaDoor
open Go.RowKit Go.Sort Go.Salt
attribute [local go_sem] cell_rg
theorem gone_gets {ys : List Ow} {t nm : ByteArray} {n d : Int} (h : ∀ j, j < ys.length → (el ys j).s ≠ nm) (ht : t ≠ nm) : ∀ j, j < (getsL ys t n d).length → (el (getsL ys t n d) j).s ≠ nm := by
  rcases owAtN_or ys t ys.length with ⟨_, hno⟩ | ⟨i, hi, _, j1, j2⟩
  · rw [getsL_no hno]; intro j hj; rw [el_snoc]; split
    · exact ht
    · rw [List.length_append] at hj; simp at hj; exact h j (by omega)
  · rw [getsL_at hi j1 j2]; intro j hj; rw [List.length_set] at hj; rw [el_put hi]; split
    · exact ht
    · exact h j hj
theorem gone_hG {xs : List Ow} {hs : List ByteArray} {nm : ByteArray} {n d : Int} (h : ∀ j, j < xs.length → (el xs j).s ≠ nm) (hh : ∀ k, k < hs.length → el hs k ≠ nm) : ∀ k, k ≤ hs.length → ∀ j, j < (hG n d xs hs k).length → (el (hG n d xs hs k) j).s ≠ nm
  | 0, _ => h
  | k + 1, hk => by rw [hG]; exact gone_gets (gone_hG h hh k (by omega)) (hh k (by omega))
/-- Whose share went to the heirs is no owner any more. -/
theorem hr_gone {xs : List Ow} {nm : ByteArray} {hs : List ByteArray} (h : hrB xs nm hs = true) : shB (hrL xs nm hs) nm = false := by
  have hL : hrL xs nm hs = hrR xs nm hs := by unfold hrL; rw [if_pos h]
  unfold hrB at h; rw [Bool.and_eq_true] at h
  have hc := h.1
  unfold hrC at hc
  simp only [Bool.and_eq_true, decide_eq_true_iff] at hc
  obtain ⟨ha, hi, hl, hd⟩ := hc
  obtain ⟨i, hi1, ei, es⟩ := owAtN_pos hi
  have hI : hrI xs nm = i := by unfold hrI; rw [ei]; rfl
  have hg : gdB xs xs.length = true := by unfold arB at ha; rw [Bool.and_eq_true, Bool.and_eq_true] at ha; exact ha.2.1
  have hne : ∀ j, j < xs.length → j ≠ i → (el xs j).s ≠ nm := fun j hj hji he => by
    rcases Nat.lt_or_ge j i with hlt | hge
    · have h2 := (owAtN_neg (gdB_el hg i hi1).2).2 j hlt
      rw [es] at h2; exact h2 he
    · have h2 := (owAtN_neg (gdB_el hg j hj).2).2 i (by omega)
      rw [he] at h2; exact h2 es
  have hno : ∀ j, j < (hrR xs nm hs).length → (el (hrR xs nm hs) j).s ≠ nm := by
    unfold hrR; rw [hI]
    refine gone_hG (fun j hj => ?_) (fun k hk => (noD_at hd k hk).1) hs.length (Nat.le_refl _)
    rw [del_len hi1] at hj
    rw [el_del hi1]; split
    · exact hne j (by omega) (by omega)
    · exact hne (j + 1) (by omega) (by omega)
  rw [hL]; unfold shB; rw [owAtN_none hno]; simp
theorem slL_sz {B : Nat} {xs : List Ow} {f t : ByteArray} {num den : Int} (h : OwSz B xs) (hf : f.size ≤ B) (ht : t.size ≤ B) : OwSz B (slL xs f t num den) := by
  unfold slL; split
  · exact (h.give hf _ _).give ht _ _
  · exact fun k hk => absurd hk (by simp)
theorem slL_ar {xs : List Ow} {f t : ByteArray} {num den : Int} (h : slB xs f t num den = true) : arB (slL xs f t num den) = true := by
  unfold slL; rw [if_pos h]
  unfold slB at h; rw [Bool.and_eq_true] at h
  exact h.2
theorem hrL_ar {xs : List Ow} {nm : ByteArray} {hs : List ByteArray} (h : hrB xs nm hs = true) : arB (hrL xs nm hs) = true := by
  unfold hrL; rw [if_pos h]
  unfold hrB at h; rw [Bool.and_eq_true] at h
  exact h.2
theorem hrL_sz {B : Nat} {xs : List Ow} {nm : ByteArray} {hs : List ByteArray} (h : OwSz B xs) (hh : ∀ k, k < hs.length → (el hs k).size ≤ B) : OwSz B (hrL xs nm hs) := by
  unfold hrL; split
  · rename_i hB
    unfold hrB at hB; rw [Bool.and_eq_true] at hB
    have hc := hB.1
    unfold hrC at hc
    simp only [Bool.and_eq_true, decide_eq_true_iff] at hc
    obtain ⟨i, hi1, ei, _⟩ := owAtN_pos hc.2.1
    have hI : hrI xs nm = i := by unfold hrI; rw [ei]; rfl
    unfold hrR; rw [hI]
    refine hG_sz (h.del hi1) (fun k => ?_) _
    by_cases hk : k < hs.length
    · exact hh k hk
    · rw [el_out (by omega)]; exact Nat.zero_le _
  · exact fun k hk => absurd hk (by simp)
section
variable {mj : List Nat → Bool}
theorem fS_keep (h0 : mj [] = false) : ∀ (r k : Nat) (c b : List Nat), b ≠ [] → fS mj k r c b ≠ []
  | 0, k, c, b, hb => by
    rw [fS, updM]; split
    · rename_i h; intro e; rw [e, h0] at h; simp at h
    · exact hb
  | r + 1, k, c, b, hb => by rw [fS]; exact fS_keep h0 r _ _ _ (fS_keep h0 r _ _ _ hb)
theorem fS_some (h0 : mj [] = false) : ∀ (r k : Nat) (c b : List Nat), mj (c ++ List.range' k r) = true → fS mj k r c b ≠ []
  | 0, k, c, b, h => by
    have hc : mj c = true := by simpa using h
    rw [fS, updM]; split
    · intro e; rw [e, h0] at hc; cases hc
    · rename_i h2; intro e; exact h2 ⟨hc, .inl e⟩
  | r + 1, k, c, b, h => by
    rw [fS]; exact fS_keep h0 r _ _ _ (fS_some h0 r _ _ _ (by rw [List.range'_succ] at h; simpa using h))
end
/-- Owners have a majority. -/
theorem mj_some {xs : List Ow} (h : arB xs = true) : 0 < (mjL xs).length := by
  have hbd := arOK_bd h
  have hD := dP_one (fun i => (hbd i).2.1) xs.length (de := deO xs)
  have hm : mjO xs ([] ++ List.range' 0 xs.length) = true := by
    unfold mjO
    rw [sP_same (q := allP) (fun j hj => by simp [allP, List.mem_range', hj]), arB_sum h]
    exact decide_eq_true (by omega)
  have hne := fS_some (mjO_nil hbd) xs.length 0 [] [] hm
  unfold mjL mjR
  rw [if_pos h, (lp_fS _ 0 [] []).2, List.length_map]
  exact List.length_pos_iff.2 hne
set_option maxHeartbeats 4000000 in
theorem rOwners_same (A A' : Option Addr) (c c' : Nat) (xs : List Ow) (w : World) (h : Rd w w.heap.size A 3 Ow.enc xs) (h' : Rd w w.heap.size A' 3 Ow.enc xs) (hx : xs.length ≤ 1048576) :
    Calls Tryd.prog 54 #[.slice A xs.length c, .slice A' xs.length c'] w fun e w' => e = .returned (.bool true) ∧ Below w.heap.size w w' := by
  go_enter Tryd.func54, Tryd.ntmps54
  go_wp2
  go_loopw [5] (fun i wr => ∃ k : Nat, k ≤ xs.length ∧ i = .int .i64 k ∧ Below w.heap.size w wr) (fun i _ => xs.length - (intOf i).toNat)
  case atStart => exact ⟨0, Nat.zero_le _, rfl, Below.refl _ _⟩
  case round =>
    obtain ⟨k, hk, rfl, hb⟩ := hrel
    by_cases hlt : k < xs.length
    · obtain ⟨b, o, rfl, hB, c0, c1, c2⟩ := ow_cells (h.below hb) hlt
      obtain ⟨b', o', rfl, hB', d0, d1, d2⟩ := ow_cells (h'.below hb) hlt
      have hs := hb.size
      have hB1 : b < wr.heap.size := by omega
      have hB2 : b' < wr.heap.size := by omega
      have hI : (k : Int) < xs.length := by omega
      have hI0 : (0 : Int) ≤ k := by omega
      go_wp2_with fail
      refine wp_region_quiet_below (by kernel_rfl) (by kernel_rfl) ?_
      repeat (go_big_quiet_step (fail))
      (refine wpQuiet_nil ?_; intro w1 hwq; have hb1 := of_cls hwq; clear hwq)
      (have hs1 := hb1.size; (try simp at hs1); obtain ⟨hc1, hf1, hn1⟩ := bcell hb1; (try have hz1_wr_0 : wr.heap.size < w1.heap.size := by omega); (try have hz1_wr_1 : wr.heap.size + 1 < w1.heap.size := by omega); (try have hz1_wr_2 : wr.heap.size + 2 < w1.heap.size := by omega); (try have hB1 : b < w1.heap.size := by omega); (try have hB2 : b' < w1.heap.size := by omega); (try have hz1_wr_2b : wr.heap.size + 1 + 1 < w1.heap.size := by omega); (try have hz1_w_0 : w.heap.size < w1.heap.size := by omega); (try have hz1_w_1 : w.heap.size + 1 < w1.heap.size := by omega); (try have hz1_w_2 : w.heap.size + 2 < w1.heap.size := by omega); (try have hz1_w_2b : w.heap.size + 1 + 1 < w1.heap.size := by omega))
      go_wp2_with fail
      go_roundw
      case rel => exact ⟨k + 1, by omega, by go_num, (by repeat' (first | (with_reducible exact Below.refl _ _) | (with_reducible refine Below.alloc ?_ ?_ _) | (with_reducible refine Below.setCell ?_ ?_ _) | (with_reducible refine Below.drew ?_) | (with_reducible refine Below.trans ?_ (Below.mono (by with_reducible assumption) ?_)) | omega | (simp; done) | (simp; omega)))⟩
      case measure => simp [intOf]; omega
    · go_wp2
      go_ret
      exact ⟨rfl, hb⟩
end Go.Proofs.YtimdnihadhbjpaaDoor
namespace Go.Proofs.YtimdnihadhbjpaaDoor
open Go.RowKit Go.Sort Go.Salt
attribute [local go_sem] cell_rg
theorem results_tmp5 {fn : Func} {t u v x y : Tmp} (h : fn.results = #[.tmp t, .tmp u, .tmp v, .tmp x, .tmp y]) (tmps : Array Value) (P : Program) (w : World) :
    (results fn tmps).run P w = .ok (.tuple #[tmps.getD t undef, tmps.getD u undef, tmps.getD v undef, tmps.getD x undef, tmps.getD y undef]) w := by
  simp [results, h]
set_option maxRecDepth 100000 in
set_option maxHeartbeats 16000000 in
theorem dSellShare_any (A : Option Addr) (n c : Nat) (w : World) (h : Byt w w.heap.size A n) (hn : n ≤ 65536) :
    Calls Tryd.prog 53 #[.slice A n c] w fun e w' => (∃ A' c' xs sf st p q, e = .returned (.tuple #[.slice A' (xs : List Ow).length c', .string sf, .string st, .int .i64 p, .int .i64 q]) ∧ sf.size ≤ 100 ∧ st.size ≤ 100 ∧ OutO w w' A' c' xs) ∧ Below w.heap.size w w' := by
  have HB := Lib.hid h
  clear h
  go_enter Tryd.func53, Tryd.ntmps53
  go_wp2_with fail
  refine (owners_any w.heap.size A n c 0 _ (cur_new HB.out) hn (by omega)).mono ?_
  rintro e w1 ⟨A', c', xs, rfl, ho, hc', hl, hz, hC1, hG1⟩
  have hb1 : Below w.heap.size w w1 := (show Below w.heap.size w (w.alloc (.cells #[.slice A n c, .int .i64 0, .int .u64 0] 94)) from (by repeat' (first | (with_reducible exact Below.refl _ _) | (with_reducible refine Below.alloc ?_ ?_ _) | (with_reducible refine Below.setCell ?_ ?_ _) | (with_reducible refine Below.drew ?_) | (with_reducible refine Below.trans ?_ (Below.mono (by with_reducible assumption) ?_)) | omega | (simp; done) | (simp; omega)))).trans (grown_below hG1 (Nat.le_refl _) (by simp))
  have ho1 := ho.mono (show w.heap.size + 1 ≤ _ by simp)
  have HO1 := Lib.hid ho1
  have HC1 := Lib.hid hC1
  have HZ := Lib.hid hz
  have HB1 := Lib.hid hb1
  have hs1 := hb1.size
  have hpl : w.heap.size < w1.heap.size := hC1.lt
  clear ho hC1 hG1 ho1 hz hb1
  go_wp2_with fail
  refine (owner_any A' c' (w.heap.size + 1) xs w.heap.size A n c (0 + 60) _ (HC1.out.to (by repeat' (first | (with_reducible exact Below.refl _ _) | (with_reducible refine Below.alloc ?_ ?_ _) | (with_reducible refine Below.setCell ?_ ?_ _) | (with_reducible refine Below.drew ?_) | (with_reducible refine Below.trans ?_ (Below.mono (by with_reducible assumption) ?_)) | omega | (simp; done) | (simp; omega)))) hn (by omega) (HO1.out.to (by repeat' (first | (with_reducible exact Below.refl _ _) | (with_reducible refine Below.alloc ?_ ?_ _) | (with_reducible refine Below.setCell ?_ ?_ _) | (with_reducible refine Below.drew ?_) | (with_reducible refine Below.trans ?_ (Below.mono (by with_reducible assumption) ?_)) | omega | (simp; done) | (simp; omega)))) (by omega) HZ.out hl).mono ?_
  rintro e w2 ⟨_, rfl, ⟨sf, rfl, hzsf⟩, hC2, hG2⟩
  have hG2' := only_trans (only_of_below (show Below w1.heap.size w1 _ from (by repeat' (first | (with_reducible exact Below.refl _ _) | (with_reducible refine Below.alloc ?_ ?_ _) | (with_reducible refine Below.setCell ?_ ?_ _) | (with_reducible refine Below.drew ?_) | (with_reducible refine Below.trans ?_ (Below.mono (by with_reducible assumption) ?_)) | omega | (simp; done) | (simp; omega)))) (some w.heap.size)) hG2
  have HC2 := Lib.hid hC2
  have HO2 := Lib.hid (own_drawn HO1.out hG2' (by omega))
  have HB2 := Lib.hid (HB1.out.trans (grown_below hG2' (Nat.le_refl _) hs1))
  have hs2 := HB2.out.size
  have hl2 := HC2.out.lt
  clear hC2 hG2 hG2'
  go_wp2_with fail
  refine (owner_any A' c' (w.heap.size + 1) xs w.heap.size A n c (0 + 60 + 4) _ (HC2.out.to (by repeat' (first | (with_reducible exact Below.refl _ _) | (with_reducible refine Below.alloc ?_ ?_ _) | (with_reducible refine Below.setCell ?_ ?_ _) | (with_reducible refine Below.drew ?_) | (with_reducible refine Below.trans ?_ (Below.mono (by with_reducible assumption) ?_)) | omega | (simp; done) | (simp; omega)))) hn (by omega) (HO2.out.to (by repeat' (first | (with_reducible exact Below.refl _ _) | (with_reducible refine Below.alloc ?_ ?_ _) | (with_reducible refine Below.setCell ?_ ?_ _) | (with_reducible refine Below.drew ?_) | (with_reducible refine Below.trans ?_ (Below.mono (by with_reducible assumption) ?_)) | omega | (simp; done) | (simp; omega)))) (by omega) HZ.out hl).mono ?_
  rintro e w3 ⟨_, rfl, ⟨st, rfl, hzst⟩, hC3, hG3⟩
  have hG3' := only_trans (only_of_below (show Below w2.heap.size w2 _ from (by repeat' (first | (with_reducible exact Below.refl _ _) | (with_reducible refine Below.alloc ?_ ?_ _) | (with_reducible refine Below.setCell ?_ ?_ _) | (with_reducible refine Below.drew ?_) | (with_reducible refine Below.trans ?_ (Below.mono (by with_reducible assumption) ?_)) | omega | (simp; done) | (simp; omega)))) (some w.heap.size)) hG3
  have HC3 := Lib.hid hC3
  have HO3 := Lib.hid (own_drawn HO2.out hG3' (by omega))
  have HB3 := Lib.hid (HB2.out.trans (grown_below hG3' (Nat.le_refl _) hs2))
  have hs3 := HB3.out.size
  have hl3 := HC3.out.lt
  clear hC3 hG3 hG3'
  go_wp2_with fail
  refine (l22Find_any A' c' xs sf _ ((HO3.out.to (by repeat' (first | (with_reducible exact Below.refl _ _) | (with_reducible refine Below.alloc ?_ ?_ _) | (with_reducible refine Below.setCell ?_ ?_ _) | (with_reducible refine Below.drew ?_) | (with_reducible refine Below.trans ?_ (Below.mono (by with_reducible assumption) ?_)) | omega | (simp; done) | (simp; omega)))).rd Ow.enc_len) (by omega)).mono ?_
  rintro e w4 ⟨rfl, hb4⟩
  have HC4 := Lib.hid (HC3.out.to hb4)
  have HO4 := Lib.hid (HO3.out.to hb4)
  have HB4 := Lib.hid (HB3.out.trans (hb4.mono hs3))
  have hs4 := HB4.out.size
  have hl4 := HC4.out.lt
  clear hb4
  by_cases hf : 0 ≤ owAtN xs sf xs.length
  · obtain ⟨j, hj, ej, _⟩ := owAtN_pos hf
    rw [ej]
    clear ej hf
    have hj0 : (0 : Int) ≤ j := by omega
    have hjI : (j : Int) < xs.length := by omega
    go_wp2_with fail
    refine (one_any 3 w.heap.size A n c (0 + 60 + 4 + 4) _ (HC4.out.to (by repeat' (first | (with_reducible exact Below.refl _ _) | (with_reducible refine Below.alloc ?_ ?_ _) | (with_reducible refine Below.setCell ?_ ?_ _) | (with_reducible refine Below.drew ?_) | (with_reducible refine Below.trans ?_ (Below.mono (by with_reducible assumption) ?_)) | omega | (simp; done) | (simp; omega)))) hn (by omega) (by omega) (by omega)).mono ?_
    rintro e w5 ⟨_, rfl, ⟨bb, rfl⟩, hC5, hG5⟩
    have hG5' := only_trans (only_of_below (show Below w4.heap.size w4 _ from (by repeat' (first | (with_reducible exact Below.refl _ _) | (with_reducible refine Below.alloc ?_ ?_ _) | (with_reducible refine Below.setCell ?_ ?_ _) | (with_reducible refine Below.drew ?_) | (with_reducible refine Below.trans ?_ (Below.mono (by with_reducible assumption) ?_)) | omega | (simp; done) | (simp; omega)))) (some w.heap.size)) hG5
    have HC5 := Lib.hid hC5
    have HO5 := Lib.hid (own_drawn HO4.out hG5' (by omega))
    have HB5 := Lib.hid (HB4.out.trans (grown_below hG5' (Nat.le_refl _) hs4))
    have hs5 := HB5.out.size
    have hl5 := HC5.out.lt
    clear hC5 hG5 hG5'
    cases bb
    · go_wp2_with fail
      refine (pick_any 24 w.heap.size A n c (0 + 60 + 4 + 4 + 2) _ (HC5.out.to (by repeat' (first | (with_reducible exact Below.refl _ _) | (with_reducible refine Below.alloc ?_ ?_ _) | (with_reducible refine Below.setCell ?_ ?_ _) | (with_reducible refine Below.drew ?_) | (with_reducible refine Below.trans ?_ (Below.mono (by with_reducible assumption) ?_)) | omega | (simp; done) | (simp; omega)))) hn (by omega) (by omega) (by omega)).mono ?_
      rintro e w6 ⟨_, rfl, ⟨z6, rfl, z60, z61⟩, hC6, hG6⟩
      have hr6 : Row w6 w5.heap.size 3 (([1, 1, 2, 1000, 0, 1001] : List Int).flatMap ie) := Row.grown (show Row (w5.alloc (.cells #[.int .i64 1, .int .i64 1, .int .i64 2, .int .i64 1000, .int .i64 0, .int .i64 1001] 3)) w5.heap.size 3 (([1, 1, 2, 1000, 0, 1001] : List Int).flatMap ie) from Row.new _ _ _) hG6 (by simp; omega)
      have hG6' := only_trans (only_of_below (show Below w5.heap.size w5 (w5.alloc (.cells #[.int .i64 1, .int .i64 1, .int .i64 2, .int .i64 1000, .int .i64 0, .int .i64 1001] 3)) from (by repeat' (first | (with_reducible exact Below.refl _ _) | (with_reducible refine Below.alloc ?_ ?_ _) | (with_reducible refine Below.setCell ?_ ?_ _) | (with_reducible refine Below.drew ?_) | (with_reducible refine Below.trans ?_ (Below.mono (by with_reducible assumption) ?_)) | omega | (simp; done) | (simp; omega)))) (some w.heap.size)) hG6
      have HC6 := Lib.hid hC6
      have HR6 := Lib.hid hr6
      have HO6 := Lib.hid (own_drawn HO5.out hG6' (by omega))
      have HB6 := Lib.hid (HB5.out.trans (grown_below hG6' (Nat.le_refl _) hs5))
      have hs6 := HB6.out.size
      have hl6 := hr6.lt
      have hne6 : w5.heap.size ≠ w.heap.size := by omega
      obtain ⟨d6, hd6⟩ : ∃ d, z6.tdiv 11 = d := ⟨_, rfl⟩
      have hd6b : 0 ≤ d6 ∧ d6 ≤ 2 := by rw [← hd6, Int.tdiv_eq_ediv_of_nonneg (by omega)]; omega
      obtain ⟨m6, rfl⟩ : ∃ m : Nat, d6 = m := ⟨d6.toNat, by omega⟩
      have hm6 : (4 + (m6 : Int)).toNat = 4 + m6 := by omega
      have hm6l : 4 + m6 ≤ 6 := by omega
      have hm6i : (4 : Int) + (m6 : Int) ≤ 6 := by omega
      have hm60 : (0 : Int) ≤ 4 + (m6 : Int) := by omega
      clear hr6 hC6 hG6 hG6'
      go_wp2_with fail
      have hA6 := among_any (0) 1001 (([1, 1, 2, 1000, 0, 1001] : List Int).take (4 + m6)) (some ⟨w5.heap.size, 0, none⟩) 6 w.heap.size A n c (0 + 60 + 4 + 4 + 2 + 2)
      rw [show (([1, 1, 2, 1000, 0, 1001] : List Int).take (4 + m6)).length = 4 + m6 from by rw [List.length_take]; exact Nat.min_eq_left hm6l] at hA6
      refine (hA6 w6 HC6.out hn (by omega) (ints_take HR6.out hne6 hm6l) (by omega) (by omega) (fun i hi => by
        rw [el_take hi (show 4 + m6 ≤ ([1, 1, 2, 1000, 0, 1001] : List Int).length from hm6l)]
        have : ∀ i : Fin 6, (0 : Int) ≤ el ([1, 1, 2, 1000, 0, 1001] : List Int) i.val ∧ el ([1, 1, 2, 1000, 0, 1001] : List Int) i.val ≤ 1001 := by decide
        exact this ⟨i, by omega⟩)).mono ?_
      rintro e w7 ⟨_, rfl, ⟨q7, rfl, q70, q71⟩, hC7, hG7⟩
      have HC7 := Lib.hid hC7
      have HO7 := Lib.hid (own_drawn HO6.out hG7 (by omega))
      have HB7 := Lib.hid (HB6.out.trans (grown_below hG7 (Nat.le_refl _) hs6))
      have hs7 := HB7.out.size
      have hl7 := HC7.out.lt
      clear hC7 hG7 hA6
      go_wp2_with fail
      refine (pick_any 24 w.heap.size A n c (0 + 60 + 4 + 4 + 2 + 2 + 2) _ (HC7.out.to (by repeat' (first | (with_reducible exact Below.refl _ _) | (with_reducible refine Below.alloc ?_ ?_ _) | (with_reducible refine Below.setCell ?_ ?_ _) | (with_reducible refine Below.drew ?_) | (with_reducible refine Below.trans ?_ (Below.mono (by with_reducible assumption) ?_)) | omega | (simp; done) | (simp; omega)))) hn (by omega) (by omega) (by omega)).mono ?_
      rintro e w8 ⟨_, rfl, ⟨z8, rfl, z80, z81⟩, hC8, hG8⟩
      have hr8 : Row w8 w7.heap.size 3 (([2, 10, 12, 1000, 0, 1001] : List Int).flatMap ie) := Row.grown (show Row (w7.alloc (.cells #[.int .i64 2, .int .i64 10, .int .i64 12, .int .i64 1000, .int .i64 0, .int .i64 1001] 3)) w7.heap.size 3 (([2, 10, 12, 1000, 0, 1001] : List Int).flatMap ie) from Row.new _ _ _) hG8 (by simp; omega)
      have hG8' := only_trans (only_of_below (show Below w7.heap.size w7 (w7.alloc (.cells #[.int .i64 2, .int .i64 10, .int .i64 12, .int .i64 1000, .int .i64 0, .int .i64 1001] 3)) from (by repeat' (first | (with_reducible exact Below.refl _ _) | (with_reducible refine Below.alloc ?_ ?_ _) | (with_reducible refine Below.setCell ?_ ?_ _) | (with_reducible refine Below.drew ?_) | (with_reducible refine Below.trans ?_ (Below.mono (by with_reducible assumption) ?_)) | omega | (simp; done) | (simp; omega)))) (some w.heap.size)) hG8
      have HC8 := Lib.hid hC8
      have HR8 := Lib.hid hr8
      have HO8 := Lib.hid (own_drawn HO7.out hG8' (by omega))
      have HB8 := Lib.hid (HB7.out.trans (grown_below hG8' (Nat.le_refl _) hs7))
      have hs8 := HB8.out.size
      have hl8 := hr8.lt
      have hne8 : w7.heap.size ≠ w.heap.size := by omega
      obtain ⟨d8, hd8⟩ : ∃ d, z8.tdiv 11 = d := ⟨_, rfl⟩
      have hd8b : 0 ≤ d8 ∧ d8 ≤ 2 := by rw [← hd8, Int.tdiv_eq_ediv_of_nonneg (by omega)]; omega
      obtain ⟨m8, rfl⟩ : ∃ m : Nat, d8 = m := ⟨d8.toNat, by omega⟩
      have hm8 : (4 + (m8 : Int)).toNat = 4 + m8 := by omega
      have hm8l : 4 + m8 ≤ 6 := by omega
      have hm8i : (4 : Int) + (m8 : Int) ≤ 6 := by omega
      have hm80 : (0 : Int) ≤ 4 + (m8 : Int) := by omega
      clear hr8 hC8 hG8 hG8'
      go_wp2_with fail
      have hA8 := among_any (0) 1001 (([2, 10, 12, 1000, 0, 1001] : List Int).take (4 + m8)) (some ⟨w7.heap.size, 0, none⟩) 6 w.heap.size A n c (0 + 60 + 4 + 4 + 2 + 2 + 2 + 2)
      rw [show (([2, 10, 12, 1000, 0, 1001] : List Int).take (4 + m8)).length = 4 + m8 from by rw [List.length_take]; exact Nat.min_eq_left hm8l] at hA8
      refine (hA8 w8 HC8.out hn (by omega) (ints_take HR8.out hne8 hm8l) (by omega) (by omega) (fun i hi => by
        rw [el_take hi (show 4 + m8 ≤ ([2, 10, 12, 1000, 0, 1001] : List Int).length from hm8l)]
        have : ∀ i : Fin 6, (0 : Int) ≤ el ([2, 10, 12, 1000, 0, 1001] : List Int) i.val ∧ el ([2, 10, 12, 1000, 0, 1001] : List Int) i.val ≤ 1001 := by decide
        exact this ⟨i, by omega⟩)).mono ?_
      rintro e w9 ⟨_, rfl, ⟨q9, rfl, q90, q91⟩, hC9, hG9⟩
      have HC9 := Lib.hid hC9
      have HO9 := Lib.hid (own_drawn HO8.out hG9 (by omega))
      have HB9 := Lib.hid (HB8.out.trans (grown_below hG9 (Nat.le_refl _) hs8))
      have hs9 := HB9.out.size
      have hl9 := HC9.out.lt
      clear hC9 hG9 hA8
      go_wp2
      ((try simp only [Exit.inBlock, Exit.then]); refine bodyPost_ret (results_tmp5 rfl _ _ _) rfl ?_)
      exact ⟨⟨A', c', xs, sf, st, q7, q9, rfl, hzsf, hzst, HO9.out.mono (by omega), hc', hl, HZ.out⟩, HB9.out⟩
    · obtain ⟨b, o, rfl, hB, c0, c1', c2'⟩ := ow_cells (HO5.out.rd Ow.enc_len) hj
      go_wp2_with fail
      refine wp_region_quiet_below (by kernel_rfl) (by kernel_rfl) ?_
      repeat (go_big_quiet_step (fail))
      refine wpQuiet_nil ?_
      intro w6 hwq
      have hb6 := of_cls hwq
      clear hwq
      have HO6 := Lib.hid (HO5.out.to hb6)
      have HB6 := Lib.hid (HB5.out.trans (hb6.mono hs5))
      clear c0 c1' c2' hb6
      go_wp2
      ((try simp only [Exit.inBlock, Exit.then]); refine bodyPost_ret (results_tmp5 rfl _ _ _) rfl ?_)
      exact ⟨⟨_, c', xs, sf, st, _, _, rfl, hzsf, hzst, HO6.out.mono (by omega), hc', hl, HZ.out⟩, HB6.out⟩
  · have hf1 : owAtN xs sf xs.length = -1 := (owAtN_neg (by omega)).1
    rw [hf1]
    clear hf hf1
    go_wp2_with fail
    refine (pick_any 24 w.heap.size A n c (0 + 60 + 4 + 4) _ (HC4.out.to (by repeat' (first | (with_reducible exact Below.refl _ _) | (with_reducible refine Below.alloc ?_ ?_ _) | (with_reducible refine Below.setCell ?_ ?_ _) | (with_reducible refine Below.drew ?_) | (with_reducible refine Below.trans ?_ (Below.mono (by with_reducible assumption) ?_)) | omega | (simp; done) | (simp; omega)))) hn (by omega) (by omega) (by omega)).mono ?_
    rintro e w5 ⟨_, rfl, ⟨z5, rfl, z50, z51⟩, hC5, hG5⟩
    have hr5 : Row w5 w4.heap.size 3 (([1, 1, 2, 1000, 0, 1001] : List Int).flatMap ie) := Row.grown (show Row (w4.alloc (.cells #[.int .i64 1, .int .i64 1, .int .i64 2, .int .i64 1000, .int .i64 0, .int .i64 1001] 3)) w4.heap.size 3 (([1, 1, 2, 1000, 0, 1001] : List Int).flatMap ie) from Row.new _ _ _) hG5 (by simp; omega)
    have hG5' := only_trans (only_of_below (show Below w4.heap.size w4 (w4.alloc (.cells #[.int .i64 1, .int .i64 1, .int .i64 2, .int .i64 1000, .int .i64 0, .int .i64 1001] 3)) from (by repeat' (first | (with_reducible exact Below.refl _ _) | (with_reducible refine Below.alloc ?_ ?_ _) | (with_reducible refine Below.setCell ?_ ?_ _) | (with_reducible refine Below.drew ?_) | (with_reducible refine Below.trans ?_ (Below.mono (by with_reducible assumption) ?_)) | omega | (simp; done) | (simp; omega)))) (some w.heap.size)) hG5
    have HC5 := Lib.hid hC5
    have HR5 := Lib.hid hr5
    have HO5 := Lib.hid (own_drawn HO4.out hG5' (by omega))
    have HB5 := Lib.hid (HB4.out.trans (grown_below hG5' (Nat.le_refl _) hs4))
    have hs5 := HB5.out.size
    have hl5 := hr5.lt
    have hne5 : w4.heap.size ≠ w.heap.size := by omega
    obtain ⟨d5, hd5⟩ : ∃ d, z5.tdiv 11 = d := ⟨_, rfl⟩
    have hd5b : 0 ≤ d5 ∧ d5 ≤ 2 := by rw [← hd5, Int.tdiv_eq_ediv_of_nonneg (by omega)]; omega
    obtain ⟨m5, rfl⟩ : ∃ m : Nat, d5 = m := ⟨d5.toNat, by omega⟩
    have hm5 : (4 + (m5 : Int)).toNat = 4 + m5 := by omega
    have hm5l : 4 + m5 ≤ 6 := by omega
    have hm5i : (4 : Int) + (m5 : Int) ≤ 6 := by omega
    have hm50 : (0 : Int) ≤ 4 + (m5 : Int) := by omega
    clear hr5 hC5 hG5 hG5'
    go_wp2_with fail
    have hA5 := among_any (0) 1001 (([1, 1, 2, 1000, 0, 1001] : List Int).take (4 + m5)) (some ⟨w4.heap.size, 0, none⟩) 6 w.heap.size A n c (0 + 60 + 4 + 4 + 2)
    rw [show (([1, 1, 2, 1000, 0, 1001] : List Int).take (4 + m5)).length = 4 + m5 from by rw [List.length_take]; exact Nat.min_eq_left hm5l] at hA5
    refine (hA5 w5 HC5.out hn (by omega) (ints_take HR5.out hne5 hm5l) (by omega) (by omega) (fun i hi => by
      rw [el_take hi (show 4 + m5 ≤ ([1, 1, 2, 1000, 0, 1001] : List Int).length from hm5l)]
      have : ∀ i : Fin 6, (0 : Int) ≤ el ([1, 1, 2, 1000, 0, 1001] : List Int) i.val ∧ el ([1, 1, 2, 1000, 0, 1001] : List Int) i.val ≤ 1001 := by decide
      exact this ⟨i, by omega⟩)).mono ?_
    rintro e w6 ⟨_, rfl, ⟨q6, rfl, q60, q61⟩, hC6, hG6⟩
    have HC6 := Lib.hid hC6
    have HO6 := Lib.hid (own_drawn HO5.out hG6 (by omega))
    have HB6 := Lib.hid (HB5.out.trans (grown_below hG6 (Nat.le_refl _) hs5))
    have hs6 := HB6.out.size
    have hl6 := HC6.out.lt
    clear hC6 hG6 hA5
    go_wp2_with fail
    refine (pick_any 24 w.heap.size A n c (0 + 60 + 4 + 4 + 2 + 2) _ (HC6.out.to (by repeat' (first | (with_reducible exact Below.refl _ _) | (with_reducible refine Below.alloc ?_ ?_ _) | (with_reducible refine Below.setCell ?_ ?_ _) | (with_reducible refine Below.drew ?_) | (with_reducible refine Below.trans ?_ (Below.mono (by with_reducible assumption) ?_)) | omega | (simp; done) | (simp; omega)))) hn (by omega) (by omega) (by omega)).mono ?_
    rintro e w7 ⟨_, rfl, ⟨z7, rfl, z70, z71⟩, hC7, hG7⟩
    have hr7 : Row w7 w6.heap.size 3 (([2, 10, 12, 1000, 0, 1001] : List Int).flatMap ie) := Row.grown (show Row (w6.alloc (.cells #[.int .i64 2, .int .i64 10, .int .i64 12, .int .i64 1000, .int .i64 0, .int .i64 1001] 3)) w6.heap.size 3 (([2, 10, 12, 1000, 0, 1001] : List Int).flatMap ie) from Row.new _ _ _) hG7 (by simp; omega)
    have hG7' := only_trans (only_of_below (show Below w6.heap.size w6 (w6.alloc (.cells #[.int .i64 2, .int .i64 10, .int .i64 12, .int .i64 1000, .int .i64 0, .int .i64 1001] 3)) from (by repeat' (first | (with_reducible exact Below.refl _ _) | (with_reducible refine Below.alloc ?_ ?_ _) | (with_reducible refine Below.setCell ?_ ?_ _) | (with_reducible refine Below.drew ?_) | (with_reducible refine Below.trans ?_ (Below.mono (by with_reducible assumption) ?_)) | omega | (simp; done) | (simp; omega)))) (some w.heap.size)) hG7
    have HC7 := Lib.hid hC7
    have HR7 := Lib.hid hr7
    have HO7 := Lib.hid (own_drawn HO6.out hG7' (by omega))
    have HB7 := Lib.hid (HB6.out.trans (grown_below hG7' (Nat.le_refl _) hs6))
    have hs7 := HB7.out.size
    have hl7 := hr7.lt
    have hne7 : w6.heap.size ≠ w.heap.size := by omega
    obtain ⟨d7, hd7⟩ : ∃ d, z7.tdiv 11 = d := ⟨_, rfl⟩
    have hd7b : 0 ≤ d7 ∧ d7 ≤ 2 := by rw [← hd7, Int.tdiv_eq_ediv_of_nonneg (by omega)]; omega
    obtain ⟨m7, rfl⟩ : ∃ m : Nat, d7 = m := ⟨d7.toNat, by omega⟩
    have hm7 : (4 + (m7 : Int)).toNat = 4 + m7 := by omega
    have hm7l : 4 + m7 ≤ 6 := by omega
    have hm7i : (4 : Int) + (m7 : Int) ≤ 6 := by omega
    have hm70 : (0 : Int) ≤ 4 + (m7 : Int) := by omega
    clear hr7 hC7 hG7 hG7'
    go_wp2_with fail
    have hA7 := among_any (0) 1001 (([2, 10, 12, 1000, 0, 1001] : List Int).take (4 + m7)) (some ⟨w6.heap.size, 0, none⟩) 6 w.heap.size A n c (0 + 60 + 4 + 4 + 2 + 2 + 2)
    rw [show (([2, 10, 12, 1000, 0, 1001] : List Int).take (4 + m7)).length = 4 + m7 from by rw [List.length_take]; exact Nat.min_eq_left hm7l] at hA7
    refine (hA7 w7 HC7.out hn (by omega) (ints_take HR7.out hne7 hm7l) (by omega) (by omega) (fun i hi => by
      rw [el_take hi (show 4 + m7 ≤ ([2, 10, 12, 1000, 0, 1001] : List Int).length from hm7l)]
      have : ∀ i : Fin 6, (0 : Int) ≤ el ([2, 10, 12, 1000, 0, 1001] : List Int) i.val ∧ el ([2, 10, 12, 1000, 0, 1001] : List Int) i.val ≤ 1001 := by decide
      exact this ⟨i, by omega⟩)).mono ?_
    rintro e w8 ⟨_, rfl, ⟨q8, rfl, q80, q81⟩, hC8, hG8⟩
    have HC8 := Lib.hid hC8
    have HO8 := Lib.hid (own_drawn HO7.out hG8 (by omega))
    have HB8 := Lib.hid (HB7.out.trans (grown_below hG8 (Nat.le_refl _) hs7))
    have hs8 := HB8.out.size
    have hl8 := HC8.out.lt
    clear hC8 hG8 hA7
    go_wp2
    ((try simp only [Exit.inBlock, Exit.then]); refine bodyPost_ret (results_tmp5 rfl _ _ _) rfl ?_)
    exact ⟨⟨A', c', xs, sf, st, q6, q8, rfl, hzsf, hzst, HO8.out.mono (by omega), hc', hl, HZ.out⟩, HB8.out⟩
end Go.Proofs.YtimdnihadhbjpaaDoor
namespace Go.Proofs.YtimdnihadhbjpaaDoor
open Go.RowKit Go.Sort Go.Salt
attribute [local go_sem] cell_rg
/-- The state of the draw of heirs: the cursor, the heirs so far. -/
structure HrS (w2 wr : World) (p : Nat) (A : Option Addr) (n c K : Nat) (v : Value) (ss : List ByteArray) : Prop where
  cur : Cur wr p A n c K
  own : wr.ownsRow w2.heap.size 9 1 v ss.length (ss.flatMap se)
  fr : w2.grownBy wr (some p)
  pl : p < w2.heap.size
section
variable {w2 wr w' : World} {p n c K K' : Nat} {A : Option Addr} {v v' : Value} {ss ss' : List ByteArray}
theorem HrS.to (h : HrS w2 wr p A n c K v ss) (hb : Below wr.heap.size wr w') : HrS w2 w' p A n c K v ss :=
  ⟨h.cur.to hb, own_keep h.own fun g _ hl => hb.block g hl, only_to h.fr hb, h.pl⟩
theorem HrS.drawn (h : HrS w2 wr p A n c K v ss) (hg : wr.grownBy w' (some p)) (hc : Cur w' p A n c K') : HrS w2 w' p A n c K' v ss :=
  ⟨hc, own_keep h.own fun g hB hl => hg.block g hl (by have := h.pl; simp; omega), only_trans h.fr hg, h.pl⟩
theorem HrS.low (h : HrS w2 wr p A n c K v ss) (hb : Below w2.heap.size wr w') (ho : w'.ownsRow w2.heap.size 9 1 v' ss'.length (ss'.flatMap se)) : HrS w2 w' p A n c K v' ss' := by
  obtain ⟨q1, k, s, q2, q3⟩ := h.cur
  have hp := h.pl
  exact ⟨⟨q1.below (hb.mono (by omega)), k, s, q2, q3.below hb hp⟩, ho, ⟨hb.os.trans h.fr.os, hb.tape.trans h.fr.tape, hb.output.trans h.fr.output, Nat.le_trans h.fr.size hb.size, fun i hi hn => (hb.block i hi).trans (h.fr.block i hi hn)⟩, hp⟩
theorem HrS.out (h : HrS w2 wr p A n c K v ss) : ∃ A' c', v = .slice A' ss.length c' ∧ ss.length ≤ c' ∧ Rd wr wr.heap.size A' 1 se ss := by
  obtain ⟨A', c', e, hO⟩ := OwnAt.of_own h.own
  have hcap : ss.length ≤ c' := by
    rcases h.own.2 with ⟨_, h0⟩ | ⟨g, cap, cur, hv, _, _, h3, _⟩
    · omega
    · rw [e] at hv; cases hv; exact h3
  exact ⟨A', c', e, hcap, hO.rd se_len⟩
end
theorem of7_sz {j : Nat} (hj : j < 7) : (el [(⟨#[105, 100, 97]⟩ : ByteArray), ⟨#[106, 97, 110]⟩, ⟨#[107, 117, 114, 116]⟩, ⟨#[108, 101, 97]⟩, ⟨#[98, 101, 114, 116]⟩, ⟨#[99, 97, 114, 108]⟩, ⟨#[97, 110, 110, 97]⟩] j).size ≤ 100 := by
  have : ∀ j : Fin 7, (el [(⟨#[105, 100, 97]⟩ : ByteArray), ⟨#[106, 97, 110]⟩, ⟨#[107, 117, 114, 116]⟩, ⟨#[108, 101, 97]⟩, ⟨#[98, 101, 114, 116]⟩, ⟨#[99, 97, 114, 108]⟩, ⟨#[97, 110, 110, 97]⟩] j.val).size ≤ 100 := by decide
  exact this ⟨j, hj⟩
theorem six_sz (m : Nat) (hm : m ≤ 6) : StrSz 100 (([(⟨#[105, 100, 97]⟩ : ByteArray), ⟨#[106, 97, 110]⟩, ⟨#[107, 117, 114, 116]⟩, ⟨#[108, 101, 97]⟩, ⟨#[109, 97, 120]⟩, ⟨#[110, 111, 114, 97]⟩] : List ByteArray).take m) := fun k hk => by
  rw [List.length_take] at hk
  rw [el_take (show k < m by omega) (show m ≤ ([(⟨#[105, 100, 97]⟩ : ByteArray), ⟨#[106, 97, 110]⟩, ⟨#[107, 117, 114, 116]⟩, ⟨#[108, 101, 97]⟩, ⟨#[109, 97, 120]⟩, ⟨#[110, 111, 114, 97]⟩] : List ByteArray).length from hm)]
  have : ∀ j : Fin 6, (el [(⟨#[105, 100, 97]⟩ : ByteArray), ⟨#[106, 97, 110]⟩, ⟨#[107, 117, 114, 116]⟩, ⟨#[108, 101, 97]⟩, ⟨#[109, 97, 120]⟩, ⟨#[110, 111, 114, 97]⟩] j.val).size ≤ 100 := by decide
  exact this ⟨k, by omega⟩
theorem StrSz.snoc {B : Nat} {ss : List ByteArray} {s : ByteArray} (h : StrSz B ss) (hs : s.size ≤ B) : StrSz B (ss ++ [s]) := fun k hk => by
  rw [el_snoc]; split
  · exact hs
  · rw [List.length_append] at hk; simp at hk; exact h k (by omega)
/-- What the draw of heirs returns. -/
def DrawnH (w w' : World) (e : Ending) : Prop := ∃ A' c' xs sn A2 c2 ss, e = .returned (.tuple #[.slice A' (xs : List Ow).length c', .string sn, .slice A2 (ss : List ByteArray).length c2]) ∧ sn.size ≤ 100 ∧ OutO w w' A' c' xs ∧ Rd w' w'.heap.size A2 1 se ss ∧ ss.length ≤ c2 ∧ ss.length ≤ 10 ∧ StrSz 100 ss
set_option maxRecDepth 100000 in
set_option maxHeartbeats 16000000 in
theorem dHeirsOf_any (A : Option Addr) (n c : Nat) (w : World) (h : Byt w w.heap.size A n) (hn : n ≤ 65536) :
    Calls Tryd.prog 55 #[.slice A n c] w fun e w' => DrawnH w w' e ∧ Below w.heap.size w w' := by
  obtain ⟨i0, hii, hq0, hq1, hq2⟩ := info_parts str_info
  have hinfo := Lib.hid (And.intro hii (And.intro hq0 (And.intro hq1 hq2)))
  clear hii hq0 hq1 hq2
  have HB := Lib.hid h
  clear h
  go_enter Tryd.func55, Tryd.ntmps55
  go_wp2_with fail
  refine (owners_any w.heap.size A n c 0 _ (cur_new HB.out) hn (by omega)).mono ?_
  rintro e w1 ⟨A', c', xs, rfl, ho, hc', hl, hz, hC1, hG1⟩
  have hb1 : Below w.heap.size w w1 := (show Below w.heap.size w (w.alloc (.cells #[.slice A n c, .int .i64 0, .int .u64 0] 94)) from (by repeat' (first | (with_reducible exact Below.refl _ _) | (with_reducible refine Below.alloc ?_ ?_ _) | (with_reducible refine Below.setCell ?_ ?_ _) | (with_reducible refine Below.drew ?_) | (with_reducible refine Below.trans ?_ (Below.mono (by with_reducible assumption) ?_)) | omega | (simp; done) | (simp; omega)))).trans (grown_below hG1 (Nat.le_refl _) (by simp))
  have ho1 := ho.mono (show w.heap.size + 1 ≤ _ by simp)
  have HO1 := Lib.hid ho1
  have HC1 := Lib.hid hC1
  have HZ := Lib.hid hz
  have HB1 := Lib.hid hb1
  have hs1 := hb1.size
  have hpl : w.heap.size < w1.heap.size := hC1.lt
  clear ho hC1 hG1 ho1 hz hb1
  go_wp2_with fail
  refine (owner_any A' c' (w.heap.size + 1) xs w.heap.size A n c (0 + 60) _ (HC1.out.to (by repeat' (first | (with_reducible exact Below.refl _ _) | (with_reducible refine Below.alloc ?_ ?_ _) | (with_reducible refine Below.setCell ?_ ?_ _) | (with_reducible refine Below.drew ?_) | (with_reducible refine Below.trans ?_ (Below.mono (by with_reducible assumption) ?_)) | omega | (simp; done) | (simp; omega)))) hn (by omega) (HO1.out.to (by repeat' (first | (with_reducible exact Below.refl _ _) | (with_reducible refine Below.alloc ?_ ?_ _) | (with_reducible refine Below.setCell ?_ ?_ _) | (with_reducible refine Below.drew ?_) | (with_reducible refine Below.trans ?_ (Below.mono (by with_reducible assumption) ?_)) | omega | (simp; done) | (simp; omega)))) (by omega) HZ.out hl).mono ?_
  rintro e w2 ⟨_, rfl, ⟨sn, rfl, hzsn⟩, hC2, hG2⟩
  have hG2' := only_trans (only_of_below (show Below w1.heap.size w1 _ from (by repeat' (first | (with_reducible exact Below.refl _ _) | (with_reducible refine Below.alloc ?_ ?_ _) | (with_reducible refine Below.setCell ?_ ?_ _) | (with_reducible refine Below.drew ?_) | (with_reducible refine Below.trans ?_ (Below.mono (by with_reducible assumption) ?_)) | omega | (simp; done) | (simp; omega)))) (some w.heap.size)) hG2
  have HC2 := Lib.hid hC2
  have HO2 := Lib.hid (own_drawn HO1.out hG2' (by omega))
  have HB2 := Lib.hid (HB1.out.trans (grown_below hG2' (Nat.le_refl _) hs1))
  have hs2 := HB2.out.size
  have hl2 := HC2.out.lt
  clear hC2 hG2 hG2'
  go_wp2_with fail
  refine (pick_any 4 w.heap.size A n c (0 + 60 + 4) _ (HC2.out.to (by repeat' (first | (with_reducible exact Below.refl _ _) | (with_reducible refine Below.alloc ?_ ?_ _) | (with_reducible refine Below.setCell ?_ ?_ _) | (with_reducible refine Below.drew ?_) | (with_reducible refine Below.trans ?_ (Below.mono (by with_reducible assumption) ?_)) | omega | (simp; done) | (simp; omega)))) hn (by omega) (by omega) (by omega)).mono ?_
  rintro e w3 ⟨_, rfl, ⟨mI, rfl, m0, m1⟩, hC3, hG3⟩
  obtain ⟨m, rfl⟩ : ∃ m : Nat, mI = m := ⟨mI.toNat, by omega⟩
  have ho3 : w3.ownsRow w2.heap.size 9 1 (.slice (some ⟨w2.heap.size, 0, none⟩) 0 0) 0 [] := own_keep (own_empty (W := w2.alloc (.cells #[] 9)) 1 (Nat.le_refl _) (heap_alloc_new w2 _)) fun g hB hl => hG3.block g hl (by simp; omega)
  have hG3' := only_trans (only_of_below (show Below w2.heap.size w2 (w2.alloc (.cells #[] 9)) from (by repeat' (first | (with_reducible exact Below.refl _ _) | (with_reducible refine Below.alloc ?_ ?_ _) | (with_reducible refine Below.setCell ?_ ?_ _) | (with_reducible refine Below.drew ?_) | (with_reducible refine Below.trans ?_ (Below.mono (by with_reducible assumption) ?_)) | omega | (simp; done) | (simp; omega)))) (some w.heap.size)) hG3
  have HS3 : Hid (HrS w2 w3 w.heap.size A n c (0 + 60 + 4 + 2) (.slice (some ⟨w2.heap.size, 0, none⟩) 0 0) []) := Lib.hid ⟨hC3, ho3, hG3', by omega⟩
  clear hC3 hG3 hG3' ho3 HC1 HO1 HB1 HC2
  go_wp2_with fail
  go_loopw [8, 9] (fun v nn wr => ∃ (ss : List ByteArray) (m : Nat) (K' : Nat), nn = .int .i64 m ∧ m ≤ 3 ∧ ss.length + m ≤ 3 ∧ K' + 2 * m ≤ 80 ∧ Hid (StrSz 100 ss) ∧ Hid (HrS w2 wr w.heap.size A n c K' v ss)) (fun _ nn _ => (intOf nn).toNat)
  case atStart => exact ⟨[], m, 0 + 60 + 4 + 2, rfl, by omega, by simp; omega, by omega, Lib.hid (fun k hk => absurd hk (by simp)), HS3⟩
  case round =>
    clear HS3
    obtain ⟨ss, m, K', rfl, hm3, hlm, hK', HZ2, HS⟩ := hrel
    obtain ⟨A2, c2, rfl, hc2, hrd2⟩ := HS.out.out
    have HR2 := Lib.hid hrd2
    have hsr := HS.out.fr.size
    clear hrd2
    by_cases hm0 : 0 < m
    · have hmI : (0 : Int) < m := by omega
      go_wp2_with fail
      refine (of_any [(⟨#[105, 100, 97]⟩ : ByteArray), ⟨#[106, 97, 110]⟩, ⟨#[107, 117, 114, 116]⟩, ⟨#[108, 101, 97]⟩, ⟨#[98, 101, 114, 116]⟩, ⟨#[99, 97, 114, 108]⟩, ⟨#[97, 110, 110, 97]⟩] _ 7 w.heap.size A n c K' _ (HS.out.cur.to (by repeat' (first | (with_reducible exact Below.refl _ _) | (with_reducible refine Below.alloc ?_ ?_ _) | (with_reducible refine Below.setCell ?_ ?_ _) | (with_reducible refine Below.drew ?_) | (with_reducible refine Below.trans ?_ (Below.mono (by with_reducible assumption) ?_)) | omega | (simp; done) | (simp; omega)))) hn (by omega) (strs_new _ _ rfl (by omega)) (by decide) (by decide)).mono ?_
      rintro e w4 ⟨_, rfl, ⟨j, hj, rfl⟩, hC4, hG4⟩
      have hj7 := of7_sz hj
      obtain ⟨s4, hs4e⟩ : ∃ s, el [(⟨#[105, 100, 97]⟩ : ByteArray), ⟨#[106, 97, 110]⟩, ⟨#[107, 117, 114, 116]⟩, ⟨#[108, 101, 97]⟩, ⟨#[98, 101, 114, 116]⟩, ⟨#[99, 97, 114, 108]⟩, ⟨#[97, 110, 110, 97]⟩] j = s := ⟨_, rfl⟩
      rw [hs4e] at hj7 ⊢
      have HS4 := Lib.hid (HrS.drawn (HrS.to HS.out (by repeat' (first | (with_reducible exact Below.refl _ _) | (with_reducible refine Below.alloc ?_ ?_ _) | (with_reducible refine Below.setCell ?_ ?_ _) | (with_reducible refine Below.drew ?_) | (with_reducible refine Below.trans ?_ (Below.mono (by with_reducible assumption) ?_)) | omega | (simp; done) | (simp; omega)))) hG4 hC4)
      have hs4 := HS4.out.fr.size
      have HO4 : Hid (w4.ownsRow w2.heap.size 9 1 (.slice A2 ss.length c2) ss.length (ss.flatMap se)) := Lib.hid HS4.out.own
      clear hC4 hG4 HS HR2 hs4e
      go_wp2_with (at_builtin; refine wpList_append_own_at _ rfl _ _ 58 rfl w2.heap.size 9 _ _ 1 16 Tryd.underlying58 hinfo.out.1 hinfo.out.2.1 hinfo.out.2.2.1 hinfo.out.2.2.2 rfl (by decide) _ _ _ rfl (own_to HO4.out (by repeat' (first | (with_reducible exact Below.refl _ _) | (with_reducible refine Below.alloc ?_ ?_ _) | (with_reducible refine Below.setCell ?_ ?_ _) | (with_reducible refine Below.drew ?_) | (with_reducible refine Below.trans ?_ (Below.mono (by with_reducible assumption) ?_)) | omega | (simp; done) | (simp; omega)))) _ 1 1 [.string s4] rfl rfl (news_top (cs := #[.string s4]) (t := 9) (by simp)) (by simp [Value.oneCell']) (by unfold maxLen; omega) (by omega) (by simp; omega) ?_)
      intro v9 w9 hown9 hgrow9 hnil9 hat9
      have hb9 : Below w2.heap.size w4 w9 := own_grew HO4.out (by repeat' (first | (with_reducible exact Below.refl _ _) | (with_reducible refine Below.alloc ?_ ?_ _) | (with_reducible refine Below.setCell ?_ ?_ _) | (with_reducible refine Below.drew ?_) | (with_reducible refine Below.trans ?_ (Below.mono (by with_reducible assumption) ?_)) | omega | (simp; done) | (simp; omega))) (by first | omega | (simp; done) | (simp; omega)) hgrow9
      have e9 : ss.flatMap se ++ [.string s4] = (ss ++ [s4]).flatMap se := by rw [List.flatMap_append]; rfl
      rw [e9] at hown9
      have l9 : (ss ++ [s4]).length = ss.length + 1 := by simp
      have HS9 := Lib.hid (HrS.low (v' := v9) (ss' := ss ++ [s4]) HS4.out hb9 (by rw [l9]; exact hown9))
      have HZ9 := Lib.hid (HZ2.out.snoc hj7)
      clear hown9 hgrow9 hnil9 hat9 e9 hb9
      go_wp2_with fail
      go_roundw
      case rel => exact ⟨ss ++ [s4], m - 1, K' + 2, by go_num, by omega, by omega, by omega, HZ9, HS9⟩
      case measure => simp [intOf] <;> omega
    · obtain rfl : m = 0 := by omega
      go_wp2_with fail
      refine (one_any 24 w.heap.size A n c K' _ (HS.out.cur.to (by repeat' (first | (with_reducible exact Below.refl _ _) | (with_reducible refine Below.alloc ?_ ?_ _) | (with_reducible refine Below.setCell ?_ ?_ _) | (with_reducible refine Below.drew ?_) | (with_reducible refine Below.trans ?_ (Below.mono (by with_reducible assumption) ?_)) | omega | (simp; done) | (simp; omega)))) hn (by omega) (by omega) (by omega)).mono ?_
      rintro e w5 ⟨_, rfl, ⟨bb, rfl⟩, hC5, hG5⟩
      have HS5 := Lib.hid (HrS.drawn (HrS.to HS.out (by repeat' (first | (with_reducible exact Below.refl _ _) | (with_reducible refine Below.alloc ?_ ?_ _) | (with_reducible refine Below.setCell ?_ ?_ _) | (with_reducible refine Below.drew ?_) | (with_reducible refine Below.trans ?_ (Below.mono (by with_reducible assumption) ?_)) | omega | (simp; done) | (simp; omega)))) hG5 hC5)
      have HO5 := Lib.hid (own_drawn HO2.out HS5.out.fr (by omega))
      have HB5 := Lib.hid (HB2.out.trans (grown_below HS5.out.fr (Nat.le_refl _) hs2))
      have hs5 := HS5.out.fr.size
      obtain ⟨A5, c5, e5, hc5, hrd5⟩ := HS5.out.out
      cases e5
      have HR5 := Lib.hid hrd5
      clear hC5 hG5 HS hrd5 HR2
      cases bb
      · go_wp2
        go_ret3
        exact ⟨⟨A', c', xs, sn, _, _, ss, rfl, hzsn, ⟨HO5.out.mono (by omega), hc', hl, HZ.out⟩, HR5.out, hc5, by omega, HZ2.out⟩, HB5.out⟩
      · go_wp2_with fail
        refine (pick_any 2 w.heap.size A n c (K' + 2) _ (HS5.out.cur.to (by repeat' (first | (with_reducible exact Below.refl _ _) | (with_reducible refine Below.alloc ?_ ?_ _) | (with_reducible refine Below.setCell ?_ ?_ _) | (with_reducible refine Below.drew ?_) | (with_reducible refine Below.trans ?_ (Below.mono (by with_reducible assumption) ?_)) | omega | (simp; done) | (simp; omega)))) hn (by omega) (by omega) (by omega)).mono ?_
        rintro e w6 ⟨_, rfl, ⟨zI, rfl, z0, z1⟩, hC6, hG6⟩
        obtain ⟨z, rfl⟩ : ∃ z : Nat, zI = z := ⟨zI.toNat, by omega⟩
        have hr6 : Row w6 w5.heap.size 9 (([(⟨#[105, 100, 97]⟩ : ByteArray), ⟨#[106, 97, 110]⟩, ⟨#[107, 117, 114, 116]⟩, ⟨#[108, 101, 97]⟩, ⟨#[109, 97, 120]⟩, ⟨#[110, 111, 114, 97]⟩] : List ByteArray).flatMap se) := Row.grown (show Row (w5.alloc (.cells #[.string ⟨#[105, 100, 97]⟩, .string ⟨#[106, 97, 110]⟩, .string ⟨#[107, 117, 114, 116]⟩, .string ⟨#[108, 101, 97]⟩, .string ⟨#[109, 97, 120]⟩, .string ⟨#[110, 111, 114, 97]⟩] 9)) w5.heap.size 9 (([(⟨#[105, 100, 97]⟩ : ByteArray), ⟨#[106, 97, 110]⟩, ⟨#[107, 117, 114, 116]⟩, ⟨#[108, 101, 97]⟩, ⟨#[109, 97, 120]⟩, ⟨#[110, 111, 114, 97]⟩] : List ByteArray).flatMap se) from Row.new _ _ _) hG6 (by simp; omega)
        have hG6' := only_trans (only_of_below (show Below w5.heap.size w5 (w5.alloc (.cells #[.string ⟨#[105, 100, 97]⟩, .string ⟨#[106, 97, 110]⟩, .string ⟨#[107, 117, 114, 116]⟩, .string ⟨#[108, 101, 97]⟩, .string ⟨#[109, 97, 120]⟩, .string ⟨#[110, 111, 114, 97]⟩] 9)) from (by repeat' (first | (with_reducible exact Below.refl _ _) | (with_reducible refine Below.alloc ?_ ?_ _) | (with_reducible refine Below.setCell ?_ ?_ _) | (with_reducible refine Below.drew ?_) | (with_reducible refine Below.trans ?_ (Below.mono (by with_reducible assumption) ?_)) | omega | (simp; done) | (simp; omega)))) (some w.heap.size)) hG6
        have HO6 := Lib.hid (own_drawn HO5.out hG6' (by omega))
        have HB6 := Lib.hid (HB5.out.trans (grown_below hG6' (Nat.le_refl _) (by omega)))
        have HR6 := Lib.hid (rd_take (hr6.rd se_len hr6.lt) (show 5 + z ≤ ([(⟨#[105, 100, 97]⟩ : ByteArray), ⟨#[106, 97, 110]⟩, ⟨#[107, 117, 114, 116]⟩, ⟨#[108, 101, 97]⟩, ⟨#[109, 97, 120]⟩, ⟨#[110, 111, 114, 97]⟩] : List ByteArray).length from (show 5 + z ≤ 6 by omega)))
        have hzl : (([(⟨#[105, 100, 97]⟩ : ByteArray), ⟨#[106, 97, 110]⟩, ⟨#[107, 117, 114, 116]⟩, ⟨#[108, 101, 97]⟩, ⟨#[109, 97, 120]⟩, ⟨#[110, 111, 114, 97]⟩] : List ByteArray).take (5 + z)).length = 5 + z := by rw [List.length_take]; exact Nat.min_eq_left (show 5 + z ≤ 6 by omega)
        have HZ6 := Lib.hid (six_sz (5 + z) (by omega))
        obtain ⟨ys, hys⟩ : ∃ ys, ([(⟨#[105, 100, 97]⟩ : ByteArray), ⟨#[106, 97, 110]⟩, ⟨#[107, 117, 114, 116]⟩, ⟨#[108, 101, 97]⟩, ⟨#[109, 97, 120]⟩, ⟨#[110, 111, 114, 97]⟩] : List ByteArray).take (5 + z) = ys := ⟨_, rfl⟩
        rw [hys] at HR6 hzl HZ6
        have Hl := Lib.hid hzl
        have hv : ((5 : Int) + (z : Int)).toNat = 5 + z := by omega
        have hv1 : (5 : Int) + (z : Int) ≤ 6 := by omega
        have hv2 : (0 : Int) ≤ 5 + (z : Int) := by omega
        clear hr6 hC6 hG6 hG6' hys hzl HS5 HR5
        go_wp2
        go_ret3
        exact ⟨⟨A', c', xs, sn, some ⟨w5.heap.size, 0, none⟩, 6, ys, by rw [Hl.out]; rfl, hzsn, ⟨HO6.out.mono (by omega), hc', hl, HZ.out⟩, HR6.out, by rw [Hl.out]; omega, by rw [Hl.out]; omega, HZ6.out⟩, HB6.out⟩
end Go.Proofs.YtimdnihadhbjpaaDoor
namespace Go.Proofs.YtimdnihadhbjpaaDoor
open Go.RowKit Go.Sort Go.Salt
attribute [local go_sem] cell_rg
/-- The k-th statement of a sequence, and what follows it. -/
def tailOf : Nat → Code → Code
  | 0, c => c
  | k + 1, .seq _ b => tailOf k b
  | _ + 1, c => c
def headOf : Code → Code
  | .seq a _ => a
  | c => c
theorem fS_len {mj : List Nat → Bool} {N : Nat} : ∀ (r k : Nat) (c b : List Nat), b.length ≤ N → c.length + r ≤ N → (fS mj k r c b).length ≤ N
  | 0, k, c, b, hb, hc => by rw [fS, updM]; split <;> omega
  | r + 1, k, c, b, hb, hc => by rw [fS]; exact fS_len r _ _ _ (fS_len r _ _ _ hb (by simp; omega)) (by omega)
theorem mj_len (xs : List Ow) : (mjL xs).length ≤ 1048576 := by
  unfold mjL mjR
  rw [List.length_map]; split
  · rename_i h
    have h8 := (arOK_len h).2
    rw [(lp_fS _ 0 [] []).2]
    have := fS_len (mj := mjO xs) (N := 8) xs.length 0 [] [] (by simp) (by simpa using h8)
    omega
  · simp
set_option maxRecDepth 100000 in
set_option maxHeartbeats 64000000 in
theorem own_maj {u1 u2 u3 u4 u5 u6 u7 u8 u9 u10 u11 u12 u13 u14 u15 u16 u17 u18 u19 u20 u21 u22 u23 u24 u25 u26 u27 u28 u29 u30 u31 u32 u33 u34 u35 u36 u37 u38 u39 u40 u41 u42 u43 u44 u45 u46 u47 u48 u49 u50 u51 u52 u53 u54 u55 u56 u57 u58 u59 u60 u61 u62 u63 u64 u65 u66 u67 u68 u69 u70 u71 u72 u73 u74 u75 u76 u77 u78 u79 u80 u81 u82 u83 u84 u85 u86 u87 u88 u89 u90 u91 u92 u93 u94 u95 u96 u97 u98 u99 u100 u101 u102 u103 u104 u105 u106 u107 u108 u109 u110 u111 u112 u113 u114 u115 u116 u117 u118 u119 u120 u121 u122 u123 u124 u125 u126 u127 u128 u129 u130 u131 u132 u133 u134 u135 u136 u137 u138 u139 u140 u141 u142 u143 u144 u145 u146 u147 u148 u149 u150 u151 u152 u153 u154 u155 u156 u157 u158 u159 u160 u161 u162 u163 u164 u165 u166 u167 u168 u169 u170 u171 u172 u173 u174 u175 u176 u177 u178 u179 u180 u181 u182 u183 u184 u185 u186 u187 u188 u189 u190 u191 u192 u193 u194 u195 u196 u197 u198 u199 u200 u201 u202 u203 u204 u205 u206 u207 u208 u209 u210 u211 u212 u213 u214 u215 u216 u217 u218 u219 u220 u221 u222 u223 u224 u225 u226 u227 u228 u229 u230 u231 u232 u233 u234 u235 u236 u237 u238 u239 u240 u241 u242 u243 u244 u245 u246 u247 u248 u249 u250 u251 u252 u253 u254 u255 u256 u257 u258 u259 u260 : Value} (A : Option Addr) (n c : Nat) (w wc : World) (hn : n ≤ 65536) (hB : Byt w w.heap.size A n) (ht : Hid (Tab w)) (h_below : Below w.heap.size w wc) (K : Act → World → Prop) (hK : ∀ a w1, (tailOf 11 (Tryd.f14.body.getD .skip)).wp Tryd.prog (bodyPost Tryd.prog Tryd.f14 fun e w' => e = .returned (.bool true) ∧ Below w.heap.size w w') a w1 → K a w1) :
    (headOf (tailOf 10 (Tryd.f14.body.getD .skip))).wp Tryd.prog (Exit.then K (bodyPost Tryd.prog Tryd.f14 fun e w' => e = .returned (.bool true) ∧ Below w.heap.size w w')) ⟨#[.slice A n c, u1, u2, u3, u4, u5, u6, u7, u8, u9, u10, u11, u12, u13, u14, u15, u16, u17, u18, u19, u20, u21, u22, u23, u24, u25, u26, u27, u28, u29, u30, u31, u32, u33, u34, u35, u36, u37, u38, u39, u40, u41, u42, u43, u44, u45, u46, u47, u48, u49, u50, u51, u52, u53, u54, u55, u56, u57, u58, u59, u60, u61, u62, u63, u64, u65, u66, u67, u68, u69, u70, u71, u72, u73, u74, u75, u76, u77, u78, u79, u80, u81, u82, u83, u84, u85, u86, u87, u88, u89, u90, u91, u92, u93, u94, u95, u96, u97, u98, u99, u100, u101, u102, u103, u104, u105, u106, u107, u108, u109, u110, u111, u112, u113, u114, u115, u116, u117, u118, u119, u120, u121, u122, u123, u124, u125, u126, u127, u128, u129, u130, u131, u132, u133, u134, u135, u136, u137, u138, u139, u140, u141, u142, u143, u144, u145, u146, u147, u148, u149, u150, u151, u152, u153, u154, u155, u156, u157, u158, u159, u160, u161, u162, u163, u164, u165, u166, u167, u168, u169, u170, u171, u172, u173, u174, u175, u176, u177, u178, u179, u180, u181, u182, u183, u184, u185, u186, u187, u188, u189, u190, u191, u192, u193, u194, u195, u196, u197, u198, u199, u200, u201, u202, u203, u204, u205, u206, u207, u208, u209, u210, u211, u212, u213, u214, u215, u216, u217, u218, u219, u220, u221, u222, u223, u224, u225, u226, u227, u228, u229, u230, u231, u232, u233, u234, u235, u236, u237, u238, u239, u240, u241, u242, u243, u244, u245, u246, u247, u248, u249, u250, u251, u252, u253, u254, u255, u256, u257, u258, u259, u260], []⟩ wc := by
  have s_below := h_below.size
  have HB := Lib.hid hB
  have HT := ht
  clear hB ht
  simp only [tailOf, headOf, Option.getD, Tryd.f14] at hK ⊢
  go_wp2_with fail
  refine (dMajority_any A n c _ (bwide HB.out (by repeat' (first | (with_reducible exact Below.refl _ _) | (with_reducible refine Below.alloc ?_ ?_ _) | (with_reducible refine Below.setCell ?_ ?_ _) | (with_reducible refine Below.drew ?_) | (with_reducible refine Below.trans ?_ (Below.mono (by with_reducible assumption) ?_)) | omega | (simp; done) | (simp; omega)))) hn).mono ?_
  rintro e w31 ⟨⟨A8, c8, us, rfl, ho8, hc8, hl8, hz8⟩, hb31⟩
  have hs31 := hb31.size
  have HU := Lib.hid (ho8.rd Ow.enc_len)
  have HUZ := Lib.hid (hz8.more (show 100 ≤ 1048576 by omega))
  clear ho8 hz8
  have hml := mj_len us
  go_wp2_with fail
  refine (iMajority_any A8 c8 us _ (HU.out.to (by repeat' (first | (with_reducible exact Below.refl _ _) | (with_reducible refine Below.alloc ?_ ?_ _) | (with_reducible refine Below.setCell ?_ ?_ _) | (with_reducible refine Below.drew ?_) | (with_reducible refine Below.trans ?_ (Below.mono (by with_reducible assumption) ?_)) | omega | (simp; done) | (simp; omega)))) (by omega) hc8 HUZ.out).mono ?_
  rintro e w32 ⟨A9, c9, rfl, own32, hb32⟩
  have hs32 := hb32.size
  go_wp2_with fail
  refine (sMajority_any A8 c8 us _ (HU.out.to (by repeat' (first | (with_reducible exact Below.refl _ _) | (with_reducible refine Below.alloc ?_ ?_ _) | (with_reducible refine Below.setCell ?_ ?_ _) | (with_reducible refine Below.drew ?_) | (with_reducible refine Below.trans ?_ (Below.mono (by with_reducible assumption) ?_)) | omega | (simp; done) | (simp; omega)))) (by omega) HUZ.out).mono ?_
  rintro e w33 ⟨A10, c10, rfl, own33, hb33⟩
  have hs33 := hb33.size
  obtain ⟨ms, hms⟩ : ∃ ms, mjL us = ms := ⟨_, rfl⟩
  rw [hms] at own32 own33 hml
  rw [hms]
  cases har : arB us
  · go_wp2_with fail
    refine (rInts_same _ _ _ _ ms _ ((own32.to (by repeat' (first | (with_reducible exact Below.refl _ _) | (with_reducible refine Below.alloc ?_ ?_ _) | (with_reducible refine Below.setCell ?_ ?_ _) | (with_reducible refine Below.drew ?_) | (with_reducible refine Below.trans ?_ (Below.mono (by with_reducible assumption) ?_)) | omega | (simp; done) | (simp; omega)))).rd ie_len) ((own33.to (by repeat' (first | (with_reducible exact Below.refl _ _) | (with_reducible refine Below.alloc ?_ ?_ _) | (with_reducible refine Below.setCell ?_ ?_ _) | (with_reducible refine Below.drew ?_) | (with_reducible refine Below.trans ?_ (Below.mono (by with_reducible assumption) ?_)) | omega | (simp; done) | (simp; omega)))).rd ie_len) (by omega)).mono ?_
    rintro e w34 ⟨rfl, hb34⟩
    have hs34 := hb34.size
    go_wp2_with fail
    refine (iAreOwners_any A8 c8 us _ (HU.out.to (by repeat' (first | (with_reducible exact Below.refl _ _) | (with_reducible refine Below.alloc ?_ ?_ _) | (with_reducible refine Below.setCell ?_ ?_ _) | (with_reducible refine Below.drew ?_) | (with_reducible refine Below.trans ?_ (Below.mono (by with_reducible assumption) ?_)) | omega | (simp; done) | (simp; omega)))) (by omega) hc8 HUZ.out).mono ?_
    rintro e w35 ⟨rfl, hb35⟩
    have hs35 := hb35.size
    rw [har]
    go_wp2_with fail
    refine (iLargestOwner_any A8 c8 us _ (HU.out.to (by repeat' (first | (with_reducible exact Below.refl _ _) | (with_reducible refine Below.alloc ?_ ?_ _) | (with_reducible refine Below.setCell ?_ ?_ _) | (with_reducible refine Below.drew ?_) | (with_reducible refine Below.trans ?_ (Below.mono (by with_reducible assumption) ?_)) | omega | (simp; done) | (simp; omega)))) (by omega) hc8 HUZ.out).mono ?_
    rintro e w37 ⟨rfl, hb37⟩
    have hs37 := hb37.size
    go_wp2_with fail
    refine (sLargestOwner_any A8 c8 us _ (HU.out.to (by repeat' (first | (with_reducible exact Below.refl _ _) | (with_reducible refine Below.alloc ?_ ?_ _) | (with_reducible refine Below.setCell ?_ ?_ _) | (with_reducible refine Below.drew ?_) | (with_reducible refine Below.trans ?_ (Below.mono (by with_reducible assumption) ?_)) | omega | (simp; done) | (simp; omega)))) (by omega) HUZ.out).mono ?_
    rintro e w38 ⟨rfl, hb38⟩
    have hs38 := hb38.size
    go_wp2_with fail
    refine (iSharesText_any A8 c8 us _ (HU.out.to (by repeat' (first | (with_reducible exact Below.refl _ _) | (with_reducible refine Below.alloc ?_ ?_ _) | (with_reducible refine Below.setCell ?_ ?_ _) | (with_reducible refine Below.drew ?_) | (with_reducible refine Below.trans ?_ (Below.mono (by with_reducible assumption) ?_)) | omega | (simp; done) | (simp; omega)))) (by omega) hc8 (Lib.hid (HT.out.to (by repeat' (first | (with_reducible exact Below.refl _ _) | (with_reducible refine Below.alloc ?_ ?_ _) | (with_reducible refine Below.setCell ?_ ?_ _) | (with_reducible refine Below.drew ?_) | (with_reducible refine Below.trans ?_ (Below.mono (by with_reducible assumption) ?_)) | omega | (simp; done) | (simp; omega))))) HUZ.out).mono ?_
    rintro e w39 ⟨rfl, hb39⟩
    have hs39 := hb39.size
    go_wp2_with fail
    refine (sSharesText_any A8 c8 us _ (HU.out.to (by repeat' (first | (with_reducible exact Below.refl _ _) | (with_reducible refine Below.alloc ?_ ?_ _) | (with_reducible refine Below.setCell ?_ ?_ _) | (with_reducible refine Below.drew ?_) | (with_reducible refine Below.trans ?_ (Below.mono (by with_reducible assumption) ?_)) | omega | (simp; done) | (simp; omega)))) (by omega) HUZ.out).mono ?_
    rintro e w40 ⟨rfl, hb40⟩
    have hs40 := hb40.size
    go_wp2
    go_ret
    exact ⟨rfl, (by repeat' (first | (with_reducible exact Below.refl _ _) | (with_reducible refine Below.alloc ?_ ?_ _) | (with_reducible refine Below.setCell ?_ ?_ _) | (with_reducible refine Below.drew ?_) | (with_reducible refine Below.trans ?_ (Below.mono (by with_reducible assumption) ?_)) | omega | (simp; done) | (simp; omega)))⟩
  · have hmp : 0 < ms.length := by rw [← hms]; exact mj_some har
    go_wp2_with fail
    refine (rInts_same _ _ _ _ ms _ ((own32.to (by repeat' (first | (with_reducible exact Below.refl _ _) | (with_reducible refine Below.alloc ?_ ?_ _) | (with_reducible refine Below.setCell ?_ ?_ _) | (with_reducible refine Below.drew ?_) | (with_reducible refine Below.trans ?_ (Below.mono (by with_reducible assumption) ?_)) | omega | (simp; done) | (simp; omega)))).rd ie_len) ((own33.to (by repeat' (first | (with_reducible exact Below.refl _ _) | (with_reducible refine Below.alloc ?_ ?_ _) | (with_reducible refine Below.setCell ?_ ?_ _) | (with_reducible refine Below.drew ?_) | (with_reducible refine Below.trans ?_ (Below.mono (by with_reducible assumption) ?_)) | omega | (simp; done) | (simp; omega)))).rd ie_len) (by omega)).mono ?_
    rintro e w34 ⟨rfl, hb34⟩
    have hs34 := hb34.size
    go_wp2_with fail
    refine (iAreOwners_any A8 c8 us _ (HU.out.to (by repeat' (first | (with_reducible exact Below.refl _ _) | (with_reducible refine Below.alloc ?_ ?_ _) | (with_reducible refine Below.setCell ?_ ?_ _) | (with_reducible refine Below.drew ?_) | (with_reducible refine Below.trans ?_ (Below.mono (by with_reducible assumption) ?_)) | omega | (simp; done) | (simp; omega)))) (by omega) hc8 HUZ.out).mono ?_
    rintro e w35 ⟨rfl, hb35⟩
    have hs35 := hb35.size
    rw [har]
    go_wp2_with fail
    refine (iLargestOwner_any A8 c8 us _ (HU.out.to (by repeat' (first | (with_reducible exact Below.refl _ _) | (with_reducible refine Below.alloc ?_ ?_ _) | (with_reducible refine Below.setCell ?_ ?_ _) | (with_reducible refine Below.drew ?_) | (with_reducible refine Below.trans ?_ (Below.mono (by with_reducible assumption) ?_)) | omega | (simp; done) | (simp; omega)))) (by omega) hc8 HUZ.out).mono ?_
    rintro e w37 ⟨rfl, hb37⟩
    have hs37 := hb37.size
    go_wp2_with fail
    refine (sLargestOwner_any A8 c8 us _ (HU.out.to (by repeat' (first | (with_reducible exact Below.refl _ _) | (with_reducible refine Below.alloc ?_ ?_ _) | (with_reducible refine Below.setCell ?_ ?_ _) | (with_reducible refine Below.drew ?_) | (with_reducible refine Below.trans ?_ (Below.mono (by with_reducible assumption) ?_)) | omega | (simp; done) | (simp; omega)))) (by omega) HUZ.out).mono ?_
    rintro e w38 ⟨rfl, hb38⟩
    have hs38 := hb38.size
    go_wp2_with fail
    refine (iSharesText_any A8 c8 us _ (HU.out.to (by repeat' (first | (with_reducible exact Below.refl _ _) | (with_reducible refine Below.alloc ?_ ?_ _) | (with_reducible refine Below.setCell ?_ ?_ _) | (with_reducible refine Below.drew ?_) | (with_reducible refine Below.trans ?_ (Below.mono (by with_reducible assumption) ?_)) | omega | (simp; done) | (simp; omega)))) (by omega) hc8 (Lib.hid (HT.out.to (by repeat' (first | (with_reducible exact Below.refl _ _) | (with_reducible refine Below.alloc ?_ ?_ _) | (with_reducible refine Below.setCell ?_ ?_ _) | (with_reducible refine Below.drew ?_) | (with_reducible refine Below.trans ?_ (Below.mono (by with_reducible assumption) ?_)) | omega | (simp; done) | (simp; omega))))) HUZ.out).mono ?_
    rintro e w39 ⟨rfl, hb39⟩
    have hs39 := hb39.size
    go_wp2_with fail
    refine (sSharesText_any A8 c8 us _ (HU.out.to (by repeat' (first | (with_reducible exact Below.refl _ _) | (with_reducible refine Below.alloc ?_ ?_ _) | (with_reducible refine Below.setCell ?_ ?_ _) | (with_reducible refine Below.drew ?_) | (with_reducible refine Below.trans ?_ (Below.mono (by with_reducible assumption) ?_)) | omega | (simp; done) | (simp; omega)))) (by omega) HUZ.out).mono ?_
    rintro e w40 ⟨rfl, hb40⟩
    have hs40 := hb40.size
    go_wp2
    go_ret
    exact ⟨rfl, (by repeat' (first | (with_reducible exact Below.refl _ _) | (with_reducible refine Below.alloc ?_ ?_ _) | (with_reducible refine Below.setCell ?_ ?_ _) | (with_reducible refine Below.drew ?_) | (with_reducible refine Below.trans ?_ (Below.mono (by with_reducible assumption) ?_)) | omega | (simp; done) | (simp; omega)))⟩
set_option maxRecDepth 100000 in
set_option maxHeartbeats 64000000 in
theorem own_heirs {u1 u2 u3 u4 u5 u6 u7 u8 u9 u10 u11 u12 u13 u14 u15 u16 u17 u18 u19 u20 u21 u22 u23 u24 u25 u26 u27 u28 u29 u30 u31 u32 u33 u34 u35 u36 u37 u38 u39 u40 u41 u42 u43 u44 u45 u46 u47 u48 u49 u50 u51 u52 u53 u54 u55 u56 u57 u58 u59 u60 u61 u62 u63 u64 u65 u66 u67 u68 u69 u70 u71 u72 u73 u74 u75 u76 u77 u78 u79 u80 u81 u82 u83 u84 u85 u86 u87 u88 u89 u90 u91 u92 u93 u94 u95 u96 u97 u98 u99 u100 u101 u102 u103 u104 u105 u106 u107 u108 u109 u110 u111 u112 u113 u114 u115 u116 u117 u118 u119 u120 u121 u122 u123 u124 u125 u126 u127 u128 u129 u130 u131 u132 u133 u134 u135 u136 u137 u138 u139 u140 u141 u142 u143 u144 u145 u146 u147 u148 u149 u150 u151 u152 u153 u154 u155 u156 u157 u158 u159 u160 u161 u162 u163 u164 u165 u166 u167 u168 u169 u170 u171 u172 u173 u174 u175 u176 u177 u178 u179 u180 u181 u182 u183 u184 u185 u186 u187 u188 u189 u190 u191 u192 u193 u194 u195 u196 u197 u198 u199 u200 u201 u202 u203 u204 u205 u206 u207 u208 u209 u210 u211 u212 u213 u214 u215 u216 u217 u218 u219 u220 u221 u222 u223 u224 u225 u226 u227 u228 u229 u230 u231 u232 u233 u234 u235 u236 u237 u238 u239 u240 u241 u242 u243 u244 u245 u246 u247 u248 u249 u250 u251 u252 u253 u254 u255 u256 u257 u258 u259 u260 : Value} (A : Option Addr) (n c : Nat) (w wc : World) (hn : n ≤ 65536) (hB : Byt w w.heap.size A n) (ht : Hid (Tab w)) (h_below : Below w.heap.size w wc) (K : Act → World → Prop) (hK : ∀ a w1, (tailOf 7 (Tryd.f14.body.getD .skip)).wp Tryd.prog (bodyPost Tryd.prog Tryd.f14 fun e w' => e = .returned (.bool true) ∧ Below w.heap.size w w') a w1 → K a w1) :
    (headOf (tailOf 6 (Tryd.f14.body.getD .skip))).wp Tryd.prog (Exit.then K (bodyPost Tryd.prog Tryd.f14 fun e w' => e = .returned (.bool true) ∧ Below w.heap.size w w')) ⟨#[.slice A n c, u1, u2, u3, u4, u5, u6, u7, u8, u9, u10, u11, u12, u13, u14, u15, u16, u17, u18, u19, u20, u21, u22, u23, u24, u25, u26, u27, u28, u29, u30, u31, u32, u33, u34, u35, u36, u37, u38, u39, u40, u41, u42, u43, u44, u45, u46, u47, u48, u49, u50, u51, u52, u53, u54, u55, u56, u57, u58, u59, u60, u61, u62, u63, u64, u65, u66, u67, u68, u69, u70, u71, u72, u73, u74, u75, u76, u77, u78, u79, u80, u81, u82, u83, u84, u85, u86, u87, u88, u89, u90, u91, u92, u93, u94, u95, u96, u97, u98, u99, u100, u101, u102, u103, u104, u105, u106, u107, u108, u109, u110, u111, u112, u113, u114, u115, u116, u117, u118, u119, u120, u121, u122, u123, u124, u125, u126, u127, u128, u129, u130, u131, u132, u133, u134, u135, u136, u137, u138, u139, u140, u141, u142, u143, u144, u145, u146, u147, u148, u149, u150, u151, u152, u153, u154, u155, u156, u157, u158, u159, u160, u161, u162, u163, u164, u165, u166, u167, u168, u169, u170, u171, u172, u173, u174, u175, u176, u177, u178, u179, u180, u181, u182, u183, u184, u185, u186, u187, u188, u189, u190, u191, u192, u193, u194, u195, u196, u197, u198, u199, u200, u201, u202, u203, u204, u205, u206, u207, u208, u209, u210, u211, u212, u213, u214, u215, u216, u217, u218, u219, u220, u221, u222, u223, u224, u225, u226, u227, u228, u229, u230, u231, u232, u233, u234, u235, u236, u237, u238, u239, u240, u241, u242, u243, u244, u245, u246, u247, u248, u249, u250, u251, u252, u253, u254, u255, u256, u257, u258, u259, u260], []⟩ wc := by
  have s_below := h_below.size
  have HB := Lib.hid hB
  have HT := ht
  clear hB ht
  simp only [tailOf, headOf, Option.getD, Tryd.f14] at hK ⊢
  go_wp2_with fail
  refine (dHeirsOf_any A n c _ (bwide HB.out (by repeat' (first | (with_reducible exact Below.refl _ _) | (with_reducible refine Below.alloc ?_ ?_ _) | (with_reducible refine Below.setCell ?_ ?_ _) | (with_reducible refine Below.drew ?_) | (with_reducible refine Below.trans ?_ (Below.mono (by with_reducible assumption) ?_)) | omega | (simp; done) | (simp; omega)))) hn).mono ?_
  rintro e w21 ⟨⟨A4, c4, ls, sn, A5, c5, hs, rfl, hzn, ⟨ho4, hc4, hl4, hz4⟩, hrs, hc5, hl5, hz5⟩, hb21⟩
  have hs21 := hb21.size
  have HL := Lib.hid (ho4.rd Ow.enc_len)
  have HLZ := Lib.hid (hz4.more (show 100 ≤ 1048576 by omega))
  have HHS := Lib.hid hrs
  have HSZ : Hid (StrSz 1048576 hs) := Lib.hid fun k hk => Nat.le_trans (hz5 k hk) (by omega)
  clear ho4 hz4 hrs hz5
  have hrl := hrL_len ls sn hs
  have HRZ := Lib.hid (hrL_sz (nm := sn) (hs := hs) HLZ.out HSZ.out)
  cases hrb : hrB ls sn hs
  · go_wp2_with fail
    refine (iHeirsOfC_any A4 c4 ls A5 c5 hs sn _ (HL.out.to (by repeat' (first | (with_reducible exact Below.refl _ _) | (with_reducible refine Below.alloc ?_ ?_ _) | (with_reducible refine Below.setCell ?_ ?_ _) | (with_reducible refine Below.drew ?_) | (with_reducible refine Below.trans ?_ (Below.mono (by with_reducible assumption) ?_)) | omega | (simp; done) | (simp; omega)))) (HHS.out.to (by repeat' (first | (with_reducible exact Below.refl _ _) | (with_reducible refine Below.alloc ?_ ?_ _) | (with_reducible refine Below.setCell ?_ ?_ _) | (with_reducible refine Below.drew ?_) | (with_reducible refine Below.trans ?_ (Below.mono (by with_reducible assumption) ?_)) | omega | (simp; done) | (simp; omega)))) (by omega) hc4 hc5 HLZ.out HSZ.out).mono ?_
    rintro e w22 ⟨A6, c6, rfl, own22, hb22, hk22⟩
    have hs22 := hb22.size
    rw [hrb]
    go_wp2_with fail
    refine (sHeirsOf_any A4 c4 ls A5 c5 hs sn _ (HL.out.to (by repeat' (first | (with_reducible exact Below.refl _ _) | (with_reducible refine Below.alloc ?_ ?_ _) | (with_reducible refine Below.setCell ?_ ?_ _) | (with_reducible refine Below.drew ?_) | (with_reducible refine Below.trans ?_ (Below.mono (by with_reducible assumption) ?_)) | omega | (simp; done) | (simp; omega)))) (HHS.out.to (by repeat' (first | (with_reducible exact Below.refl _ _) | (with_reducible refine Below.alloc ?_ ?_ _) | (with_reducible refine Below.setCell ?_ ?_ _) | (with_reducible refine Below.drew ?_) | (with_reducible refine Below.trans ?_ (Below.mono (by with_reducible assumption) ?_)) | omega | (simp; done) | (simp; omega)))) (by omega) hc4 hc5 HLZ.out HSZ.out).mono ?_
    rintro e w23 ⟨A7, c7, rfl, own23, hb23⟩
    have hs23 := hb23.size
    rw [hrb]
    obtain ⟨hr, hhr⟩ : ∃ hr, hrL ls sn hs = hr := ⟨_, rfl⟩
    rw [hhr] at own22 own23 hrl hk22 HRZ
    rw [hhr]
    have HO6 := Lib.hid own22
    clear hhr
    go_wp2_with fail
    refine (rOwners_same _ _ _ _ hr _ ((own22.to (by repeat' (first | (with_reducible exact Below.refl _ _) | (with_reducible refine Below.alloc ?_ ?_ _) | (with_reducible refine Below.setCell ?_ ?_ _) | (with_reducible refine Below.drew ?_) | (with_reducible refine Below.trans ?_ (Below.mono (by with_reducible assumption) ?_)) | omega | (simp; done) | (simp; omega)))).rd Ow.enc_len) ((own23.to (by repeat' (first | (with_reducible exact Below.refl _ _) | (with_reducible refine Below.alloc ?_ ?_ _) | (with_reducible refine Below.setCell ?_ ?_ _) | (with_reducible refine Below.drew ?_) | (with_reducible refine Below.trans ?_ (Below.mono (by with_reducible assumption) ?_)) | omega | (simp; done) | (simp; omega)))).rd Ow.enc_len) (by omega)).mono ?_
    rintro e w24 ⟨rfl, hb24⟩
    have hs24 := hb24.size
    go_wp2_with fail
    refine (iShareOf_any A6 c6 hr sn _ ((HO6.out.to (by repeat' (first | (with_reducible exact Below.refl _ _) | (with_reducible refine Below.alloc ?_ ?_ _) | (with_reducible refine Below.setCell ?_ ?_ _) | (with_reducible refine Below.drew ?_) | (with_reducible refine Below.trans ?_ (Below.mono (by with_reducible assumption) ?_)) | omega | (simp; done) | (simp; omega)))).rd Ow.enc_len) (by omega) hk22 HRZ.out).mono ?_
    rintro e w26 ⟨rfl, hb26⟩
    have hs26 := hb26.size
    clear HO6 own22 own23 hrb
    go_upto_region 26 with (fail)
    exact own_maj A n c w _ hn HB.out HT (by repeat' (first | (with_reducible exact Below.refl _ _) | (with_reducible refine Below.alloc ?_ ?_ _) | (with_reducible refine Below.setCell ?_ ?_ _) | (with_reducible refine Below.drew ?_) | (with_reducible refine Below.trans ?_ (Below.mono (by with_reducible assumption) ?_)) | omega | (simp; done) | (simp; omega))) _ (by assumption)
  · have HAR : Hid (arB (hrL ls sn hs) = true) := Lib.hid (hrL_ar hrb)
    have HGO : Hid (shB (hrL ls sn hs) sn = false) := Lib.hid (hr_gone hrb)
    go_wp2_with fail
    refine (iHeirsOfC_any A4 c4 ls A5 c5 hs sn _ (HL.out.to (by repeat' (first | (with_reducible exact Below.refl _ _) | (with_reducible refine Below.alloc ?_ ?_ _) | (with_reducible refine Below.setCell ?_ ?_ _) | (with_reducible refine Below.drew ?_) | (with_reducible refine Below.trans ?_ (Below.mono (by with_reducible assumption) ?_)) | omega | (simp; done) | (simp; omega)))) (HHS.out.to (by repeat' (first | (with_reducible exact Below.refl _ _) | (with_reducible refine Below.alloc ?_ ?_ _) | (with_reducible refine Below.setCell ?_ ?_ _) | (with_reducible refine Below.drew ?_) | (with_reducible refine Below.trans ?_ (Below.mono (by with_reducible assumption) ?_)) | omega | (simp; done) | (simp; omega)))) (by omega) hc4 hc5 HLZ.out HSZ.out).mono ?_
    rintro e w22 ⟨A6, c6, rfl, own22, hb22, hk22⟩
    have hs22 := hb22.size
    rw [hrb]
    go_wp2_with fail
    refine (sHeirsOf_any A4 c4 ls A5 c5 hs sn _ (HL.out.to (by repeat' (first | (with_reducible exact Below.refl _ _) | (with_reducible refine Below.alloc ?_ ?_ _) | (with_reducible refine Below.setCell ?_ ?_ _) | (with_reducible refine Below.drew ?_) | (with_reducible refine Below.trans ?_ (Below.mono (by with_reducible assumption) ?_)) | omega | (simp; done) | (simp; omega)))) (HHS.out.to (by repeat' (first | (with_reducible exact Below.refl _ _) | (with_reducible refine Below.alloc ?_ ?_ _) | (with_reducible refine Below.setCell ?_ ?_ _) | (with_reducible refine Below.drew ?_) | (with_reducible refine Below.trans ?_ (Below.mono (by with_reducible assumption) ?_)) | omega | (simp; done) | (simp; omega)))) (by omega) hc4 hc5 HLZ.out HSZ.out).mono ?_
    rintro e w23 ⟨A7, c7, rfl, own23, hb23⟩
    have hs23 := hb23.size
    rw [hrb]
    obtain ⟨hr, hhr⟩ : ∃ hr, hrL ls sn hs = hr := ⟨_, rfl⟩
    rw [hhr] at own22 own23 hrl hk22 HRZ HAR HGO
    rw [hhr]
    have HO6 := Lib.hid own22
    clear hhr
    go_wp2_with fail
    refine (rOwners_same _ _ _ _ hr _ ((own22.to (by repeat' (first | (with_reducible exact Below.refl _ _) | (with_reducible refine Below.alloc ?_ ?_ _) | (with_reducible refine Below.setCell ?_ ?_ _) | (with_reducible refine Below.drew ?_) | (with_reducible refine Below.trans ?_ (Below.mono (by with_reducible assumption) ?_)) | omega | (simp; done) | (simp; omega)))).rd Ow.enc_len) ((own23.to (by repeat' (first | (with_reducible exact Below.refl _ _) | (with_reducible refine Below.alloc ?_ ?_ _) | (with_reducible refine Below.setCell ?_ ?_ _) | (with_reducible refine Below.drew ?_) | (with_reducible refine Below.trans ?_ (Below.mono (by with_reducible assumption) ?_)) | omega | (simp; done) | (simp; omega)))).rd Ow.enc_len) (by omega)).mono ?_
    rintro e w24 ⟨rfl, hb24⟩
    have hs24 := hb24.size
    go_wp2_with fail
    refine (iAreOwners_any A6 c6 hr _ ((HO6.out.to (by repeat' (first | (with_reducible exact Below.refl _ _) | (with_reducible refine Below.alloc ?_ ?_ _) | (with_reducible refine Below.setCell ?_ ?_ _) | (with_reducible refine Below.drew ?_) | (with_reducible refine Below.trans ?_ (Below.mono (by with_reducible assumption) ?_)) | omega | (simp; done) | (simp; omega)))).rd Ow.enc_len) (by omega) hk22 HRZ.out).mono ?_
    rintro e w25 ⟨rfl, hb25⟩
    have hs25 := hb25.size
    rw [HAR.out]
    go_wp2_with fail
    refine (iShareOf_any A6 c6 hr sn _ ((HO6.out.to (by repeat' (first | (with_reducible exact Below.refl _ _) | (with_reducible refine Below.alloc ?_ ?_ _) | (with_reducible refine Below.setCell ?_ ?_ _) | (with_reducible refine Below.drew ?_) | (with_reducible refine Below.trans ?_ (Below.mono (by with_reducible assumption) ?_)) | omega | (simp; done) | (simp; omega)))).rd Ow.enc_len) (by omega) hk22 HRZ.out).mono ?_
    rintro e w26 ⟨rfl, hb26⟩
    have hs26 := hb26.size
    rw [HGO.out]
    clear HO6 own22 own23 hrb
    go_upto_region 26 with (fail)
    exact own_maj A n c w _ hn HB.out HT (by repeat' (first | (with_reducible exact Below.refl _ _) | (with_reducible refine Below.alloc ?_ ?_ _) | (with_reducible refine Below.setCell ?_ ?_ _) | (with_reducible refine Below.drew ?_) | (with_reducible refine Below.trans ?_ (Below.mono (by with_reducible assumption) ?_)) | omega | (simp; done) | (simp; omega))) _ (by assumption)
set_option maxRecDepth 100000 in
set_option maxHeartbeats 64000000 in
theorem FnOwners_law (A : Option Addr) (n c : Nat) (w : World) (h : Byt w w.heap.size A n) (ht : Hid (Tab w)) :
    Calls Tryd.prog 14 #[.slice A n c] w fun e w' => e = .returned (.bool true) ∧ Below w.heap.size w w' := by
  have HB := Lib.hid h
  have HT := ht
  clear h ht
  by_cases hbig : 65536 < n
  · go_enter Tryd.func14, Tryd.ntmps14
    go_wp2_with fail
    refine (rBig_any A n c _).mono ?_
    rintro e w1 ⟨rfl, rfl⟩
    rw [decide_eq_true hbig]
    go_wp2
    go_ret
    exact ⟨rfl, (by repeat' (first | (with_reducible exact Below.refl _ _) | (with_reducible refine Below.alloc ?_ ?_ _) | (with_reducible refine Below.setCell ?_ ?_ _) | (with_reducible refine Below.drew ?_) | (with_reducible refine Below.trans ?_ (Below.mono (by with_reducible assumption) ?_)) | omega | (simp; done) | (simp; omega)))⟩
  have hn : n ≤ 65536 := by omega
  go_enter Tryd.func14, Tryd.ntmps14
  go_wp2_with fail
  refine (rBig_any A n c _).mono ?_
  rintro e w0 ⟨rfl, rfl⟩
  rw [decide_eq_false hbig]
  clear hbig
  go_wp2_with fail
  refine (dSellShare_any A n c _ HB.out hn).mono ?_
  rintro e w1 ⟨⟨A1, c1, xs, sf, st, p, q, rfl, hzf, hzt, ho, hc1, hl1, hz1⟩, hb1⟩
  have hs1 := hb1.size
  have HX := Lib.hid (ho.rd Ow.enc_len)
  have HZ := Lib.hid (hz1.more (show 100 ≤ 1048576 by omega))
  have hyl := slL_len xs sf st p q
  clear ho hz1
  cases hok : slB xs sf st p q
  · have HYZ := Lib.hid (slL_sz (num := p) (den := q) HZ.out (show sf.size ≤ 1048576 by omega) (show st.size ≤ 1048576 by omega))
    go_wp2_with fail
    refine (iSellShareC_any A1 c1 xs sf st p q _ (HX.out.to (by repeat' (first | (with_reducible exact Below.refl _ _) | (with_reducible refine Below.alloc ?_ ?_ _) | (with_reducible refine Below.setCell ?_ ?_ _) | (with_reducible refine Below.drew ?_) | (with_reducible refine Below.trans ?_ (Below.mono (by with_reducible assumption) ?_)) | omega | (simp; done) | (simp; omega)))) (by omega) hc1 HZ.out (by omega) (by omega)).mono ?_
    rintro e w2 ⟨A2, c2, rfl, own2, hb2, hk2⟩
    have hs2 := hb2.size
    rw [hok]
    go_wp2_with fail
    refine (sSellShare_any A1 c1 xs sf st p q _ (HX.out.to (by repeat' (first | (with_reducible exact Below.refl _ _) | (with_reducible refine Below.alloc ?_ ?_ _) | (with_reducible refine Below.setCell ?_ ?_ _) | (with_reducible refine Below.drew ?_) | (with_reducible refine Below.trans ?_ (Below.mono (by with_reducible assumption) ?_)) | omega | (simp; done) | (simp; omega)))) (by omega) HZ.out (by omega) (by omega)).mono ?_
    rintro e w3 ⟨A3, c3, rfl, own3, hb3⟩
    have hs3 := hb3.size
    rw [hok]
    obtain ⟨ys, hys⟩ : ∃ ys, slL xs sf st p q = ys := ⟨_, rfl⟩
    rw [hys] at own2 own3 hyl hk2 HYZ
    rw [hys]
    clear hys
    have HO2 := Lib.hid own2
    go_wp2_with fail
    refine (rOwners_same _ _ _ _ ys _ ((own2.to (by repeat' (first | (with_reducible exact Below.refl _ _) | (with_reducible refine Below.alloc ?_ ?_ _) | (with_reducible refine Below.setCell ?_ ?_ _) | (with_reducible refine Below.drew ?_) | (with_reducible refine Below.trans ?_ (Below.mono (by with_reducible assumption) ?_)) | omega | (simp; done) | (simp; omega)))).rd Ow.enc_len) ((own3.to (by repeat' (first | (with_reducible exact Below.refl _ _) | (with_reducible refine Below.alloc ?_ ?_ _) | (with_reducible refine Below.setCell ?_ ?_ _) | (with_reducible refine Below.drew ?_) | (with_reducible refine Below.trans ?_ (Below.mono (by with_reducible assumption) ?_)) | omega | (simp; done) | (simp; omega)))).rd Ow.enc_len) (by omega)).mono ?_
    rintro e w4 ⟨rfl, hb4⟩
    have hs4 := hb4.size
    clear HO2 own2 own3 hok
    go_upto_region 18 with (fail)
    exact own_heirs A n c w _ hn HB.out HT (by repeat' (first | (with_reducible exact Below.refl _ _) | (with_reducible refine Below.alloc ?_ ?_ _) | (with_reducible refine Below.setCell ?_ ?_ _) | (with_reducible refine Below.drew ?_) | (with_reducible refine Below.trans ?_ (Below.mono (by with_reducible assumption) ?_)) | omega | (simp; done) | (simp; omega))) _ (by assumption)
  · have HYZ := Lib.hid (slL_sz (num := p) (den := q) HZ.out (show sf.size ≤ 1048576 by omega) (show st.size ≤ 1048576 by omega))
    have HAR : Hid (arB (slL xs sf st p q) = true) := Lib.hid (slL_ar hok)
    have HBK := Lib.hid (sell_back hok)
    go_wp2_with fail
    refine (iSellShareC_any A1 c1 xs sf st p q _ (HX.out.to (by repeat' (first | (with_reducible exact Below.refl _ _) | (with_reducible refine Below.alloc ?_ ?_ _) | (with_reducible refine Below.setCell ?_ ?_ _) | (with_reducible refine Below.drew ?_) | (with_reducible refine Below.trans ?_ (Below.mono (by with_reducible assumption) ?_)) | omega | (simp; done) | (simp; omega)))) (by omega) hc1 HZ.out (by omega) (by omega)).mono ?_
    rintro e w2 ⟨A2, c2, rfl, own2, hb2, hk2⟩
    have hs2 := hb2.size
    rw [hok]
    go_wp2_with fail
    refine (sSellShare_any A1 c1 xs sf st p q _ (HX.out.to (by repeat' (first | (with_reducible exact Below.refl _ _) | (with_reducible refine Below.alloc ?_ ?_ _) | (with_reducible refine Below.setCell ?_ ?_ _) | (with_reducible refine Below.drew ?_) | (with_reducible refine Below.trans ?_ (Below.mono (by with_reducible assumption) ?_)) | omega | (simp; done) | (simp; omega)))) (by omega) HZ.out (by omega) (by omega)).mono ?_
    rintro e w3 ⟨A3, c3, rfl, own3, hb3⟩
    have hs3 := hb3.size
    rw [hok]
    obtain ⟨ys, hys⟩ : ∃ ys, slL xs sf st p q = ys := ⟨_, rfl⟩
    rw [hys] at own2 own3 hyl hk2 HYZ HAR HBK
    rw [hys]
    clear hys
    have HO2 := Lib.hid own2
    go_wp2_with fail
    refine (rOwners_same _ _ _ _ ys _ ((own2.to (by repeat' (first | (with_reducible exact Below.refl _ _) | (with_reducible refine Below.alloc ?_ ?_ _) | (with_reducible refine Below.setCell ?_ ?_ _) | (with_reducible refine Below.drew ?_) | (with_reducible refine Below.trans ?_ (Below.mono (by with_reducible assumption) ?_)) | omega | (simp; done) | (simp; omega)))).rd Ow.enc_len) ((own3.to (by repeat' (first | (with_reducible exact Below.refl _ _) | (with_reducible refine Below.alloc ?_ ?_ _) | (with_reducible refine Below.setCell ?_ ?_ _) | (with_reducible refine Below.drew ?_) | (with_reducible refine Below.trans ?_ (Below.mono (by with_reducible assumption) ?_)) | omega | (simp; done) | (simp; omega)))).rd Ow.enc_len) (by omega)).mono ?_
    rintro e w4 ⟨rfl, hb4⟩
    have hs4 := hb4.size
    go_wp2_with fail
    refine (iAreOwners_any A2 c2 ys _ ((HO2.out.to (by repeat' (first | (with_reducible exact Below.refl _ _) | (with_reducible refine Below.alloc ?_ ?_ _) | (with_reducible refine Below.setCell ?_ ?_ _) | (with_reducible refine Below.drew ?_) | (with_reducible refine Below.trans ?_ (Below.mono (by with_reducible assumption) ?_)) | omega | (simp; done) | (simp; omega)))).rd Ow.enc_len) (by omega) hk2 HYZ.out).mono ?_
    rintro e w5 ⟨rfl, hb5⟩
    have hs5 := hb5.size
    rw [HAR.out]
    have HZZ := Lib.hid (slL_sz (num := p) (den := q) HYZ.out (show st.size ≤ 1048576 by omega) (show sf.size ≤ 1048576 by omega))
    have HAZ := Lib.hid (slL_ar HBK.out.1)
    go_wp2_with fail
    refine (iSellShareC_any A2 c2 ys st sf p q _ ((HO2.out.to (by repeat' (first | (with_reducible exact Below.refl _ _) | (with_reducible refine Below.alloc ?_ ?_ _) | (with_reducible refine Below.setCell ?_ ?_ _) | (with_reducible refine Below.drew ?_) | (with_reducible refine Below.trans ?_ (Below.mono (by with_reducible assumption) ?_)) | omega | (simp; done) | (simp; omega)))).rd Ow.enc_len) (by omega) hk2 HYZ.out (by omega) (by omega)).mono ?_
    rintro e w6 ⟨A4, c4, rfl, own6, hb6, hk6⟩
    have hs6 := hb6.size
    rw [HBK.out.1]
    obtain ⟨zs, hzs⟩ : ∃ zs, slL ys st sf p q = zs := ⟨_, rfl⟩
    rw [hzs] at own6 hk6 HBK HZZ HAZ
    rw [hzs]
    have hlz1 := Nat.le_of_eq HBK.out.2.1
    have hlz2 := Nat.le_of_eq HBK.out.2.1.symm
    have hli : (zs.length : Int) = xs.length := by omega
    have HBM := Lib.hid HBK.out.2.2
    have HX6 := Lib.hid (HX.out.to (show Below w1.heap.size w1 w6 from (by repeat' (first | (with_reducible exact Below.refl _ _) | (with_reducible refine Below.alloc ?_ ?_ _) | (with_reducible refine Below.setCell ?_ ?_ _) | (with_reducible refine Below.drew ?_) | (with_reducible refine Below.trans ?_ (Below.mono (by with_reducible assumption) ?_)) | omega | (simp; done) | (simp; omega)))))
    have HO6 := Lib.hid own6
    have HB6 : Hid (Below w.heap.size w w6) := Lib.hid (by repeat' (first | (with_reducible exact Below.refl _ _) | (with_reducible refine Below.alloc ?_ ?_ _) | (with_reducible refine Below.setCell ?_ ?_ _) | (with_reducible refine Below.drew ?_) | (with_reducible refine Below.trans ?_ (Below.mono (by with_reducible assumption) ?_)) | omega | (simp; done) | (simp; omega)))
    clear hok hzs own2 own3 own6 HO2 HBK HAR HYZ
    go_wp2_with fail
    go_loopw [14] (fun i wr => ∃ k : Nat, k ≤ xs.length ∧ i = .int .i64 k ∧ Below w6.heap.size w6 wr) (fun i _ => xs.length - (intOf i).toNat)
    case atStart => exact ⟨0, Nat.zero_le _, rfl, Below.refl _ _⟩
    case round =>
      obtain ⟨k, hk, rfl, hb⟩ := hrel
      have hsr := hb.size
      by_cases hlt : k < xs.length
      · have hI : (k : Int) < xs.length := by omega
        have hI0 : (0 : Int) ≤ k := by omega
        obtain ⟨b, o, rfl, hB, c0, c1', c2'⟩ := ow_cells (HX6.out.to hb) hlt
        obtain ⟨m, hm, em, exm⟩ := HBM.out k hlt
        have hel : zs.length = xs.length := by omega
        have hsB : shB zs (el xs k).s = true := by unfold shB; rw [HAZ.out, hel, em]; simp
        have hsN : shN zs (el xs k).s = (el xs k).n := by unfold shN; rw [if_pos hsB, hel, em, Int.toNat_natCast, exm]
        have hsD : shD zs (el xs k).s = (el xs k).d := by unfold shD; rw [if_pos hsB, hel, em, Int.toNat_natCast, exm]
        have HsB := Lib.hid hsB
        have HsN := Lib.hid hsN
        have HsD := Lib.hid hsD
        clear hel hsB hsN hsD em exm
        go_wp2_with fail
        refine (iShareOf_any A4 c4 zs (el xs k).s _ ((HO6.out.to (hb.trans ((show Below wr.heap.size wr _ from (by repeat' (first | (with_reducible exact Below.refl _ _) | (with_reducible refine Below.alloc ?_ ?_ _) | (with_reducible refine Below.setCell ?_ ?_ _) | (with_reducible refine Below.drew ?_) | (with_reducible refine Below.trans ?_ (Below.mono (by with_reducible assumption) ?_)) | omega | (simp; done) | (simp; omega)))).mono hsr))).rd Ow.enc_len) (by omega) hk6 HZZ.out).mono ?_
        rintro e w8 ⟨rfl, hb8⟩
        have hs8 := hb8.size
        rw [HsB.out, HsN.out, HsD.out]
        have hb68 : Below w6.heap.size w6 w8 := hb.trans ((show Below wr.heap.size wr w8 from (by repeat' (first | (with_reducible exact Below.refl _ _) | (with_reducible refine Below.alloc ?_ ?_ _) | (with_reducible refine Below.setCell ?_ ?_ _) | (with_reducible refine Below.drew ?_) | (with_reducible refine Below.trans ?_ (Below.mono (by with_reducible assumption) ?_)) | omega | (simp; done) | (simp; omega)))).mono hsr)
        clear c0 c1' c2'
        obtain ⟨b2, o2, e2, hB2, d0, d1, d2⟩ := ow_cells (HX6.out.to hb68) hlt
        cases e2
        go_wp2
        go_roundw
        case rel => exact ⟨k + 1, by omega, by go_num, hb68⟩
        case measure => simp [intOf]; omega
      · obtain rfl : k = xs.length := by omega
        have hI : ¬ ((xs.length : Nat) : Int) < xs.length := by omega
        have HBr : Hid (Below w.heap.size w wr) := Lib.hid (HB6.out.trans (hb.mono HB6.out.size))
        have hbr := HBr.out
        have hsz := hbr.size
        clear HX6 HO6 HX HBM hb hli
        go_upto_region 18 with (fail)
        exact own_heirs A n c w _ hn HB.out HT (by repeat' (first | (with_reducible exact Below.refl _ _) | (with_reducible refine Below.alloc ?_ ?_ _) | (with_reducible refine Below.setCell ?_ ?_ _) | (with_reducible refine Below.drew ?_) | (with_reducible refine Below.trans ?_ (Below.mono (by with_reducible assumption) ?_)) | omega | (simp; done) | (simp; omega))) _ (by assumption)
end Go.Proofs.YtimdnihadhbjpaaDoor
