/- Contract: a share is divided among heirs, by the program (chapter 22). -/
import Derived.Test.YtimdnihadhbjpaaDoorHeirS
import Derived.Test.YtimdnihadhbjpaaDoorShelf
set_option linter.unusedSimpArgs false
set_option linter.unusedVariables false
namespace Go.Proofs.YtimdnihadhbjpaaDoor
open Go.RowKit Go.Sort Go.Salt
attribute [local go_sem] cell_rg
theorem str_cells {w : World} {B b o : Nat} {hs : List ByteArray} (h : Rd w B (some ⟨b, o, none⟩) 1 se hs) : ∀ j, j < hs.length → w.cell? ⟨b, o + j, none⟩ = some (.string (hs.getD j ByteArray.empty)) := fun j hj => by
  obtain ⟨bx, ox, ee, _, c0⟩ := str_cell h hj
  obtain ⟨rfl, rfl⟩ : b = bx ∧ o = ox := by simpa using ee
  rw [c0, el_get hj, List.getD_eq_getElem?_getD, List.getElem?_eq_getElem hj]; rfl
theorem ow_nd {w : World} {B b o : Nat} {xs : List Ow} {n d : Int} {i : Nat} (h : Rd w B (some ⟨b, o, none⟩) 3 Ow.enc xs) (hi : i < xs.length) (hn : (el xs i).n = n) (hd : (el xs i).d = d) :
    w.cell? ⟨b, o + i * 3 + 1, none⟩ = some (.int .i64 n) ∧ w.cell? ⟨b, o + i * 3 + 2, none⟩ = some (.int .i64 d) := by
  obtain ⟨bb, oo, ee, _, _, q1, q2⟩ := ow_cells h hi
  obtain ⟨rfl, rfl⟩ : b = bb ∧ o = oo := by simpa using ee
  rw [hn] at q1; rw [hd] at q2
  exact ⟨q1, q2⟩
set_option maxRecDepth 10000 in
set_option maxHeartbeats 8000000 in
theorem sHeirsOf_any (A : Option Addr) (c : Nat) (xs : List Ow) (A' : Option Addr) (c' : Nat) (hs : List ByteArray) (nm : ByteArray) (w : World) (h : Rd w w.heap.size A 3 Ow.enc xs) (h' : Rd w w.heap.size A' 1 se hs) (hx : xs.length ≤ 1048576) (hc : xs.length ≤ c) (hc' : hs.length ≤ c') (hz : OwSz 1048576 xs) (hsz : StrSz 1048576 hs) :
    Calls Tryd.prog 46 #[.slice A xs.length c, .string nm, .slice A' hs.length c'] w fun e w' => MadeAt w 54 ((hrL xs nm hs).flatMap Ow.enc) (hrL xs nm hs).length (fun v => .returned (.tuple #[v, .bool (hrB xs nm hs)])) e w' := by
  have HX := Lib.hid h
  have HZ := Lib.hid hz
  cases hg : arB xs
  · have HB : Hid (hrB xs nm hs = false) := Lib.hid (by simp [hrB, hrC, hg])
    have Hg := Lib.hid hg
    obtain ⟨ai, hai0⟩ : ∃ a, owAtN xs nm xs.length = a := ⟨_, rfl⟩
    have Hai := Lib.hid hai0
    clear h hz hg hai0
    go_enter Tryd.func46, Tryd.ntmps46
    go_wp2_with fail
    refine (l22Find_any _ c xs nm _ (HX.out.to (by repeat' (first | (with_reducible exact Below.refl _ _) | (with_reducible refine Below.alloc ?_ ?_ _) | (with_reducible refine Below.setCell ?_ ?_ _) | (with_reducible refine Below.drew ?_) | (with_reducible refine Below.trans ?_ (Below.mono (by with_reducible assumption) ?_)) | omega | (simp; done) | (simp; omega)))) hx).mono ?_
    rintro e w1 ⟨rfl, hb1⟩
    have hs1 := hb1.size
    rw [Hai.out]
    go_wp2_with fail
    refine (l22Good_any _ c xs _ (HX.out.to (by repeat' (first | (with_reducible exact Below.refl _ _) | (with_reducible refine Below.alloc ?_ ?_ _) | (with_reducible refine Below.setCell ?_ ?_ _) | (with_reducible refine Below.drew ?_) | (with_reducible refine Below.trans ?_ (Below.mono (by with_reducible assumption) ?_)) | omega | (simp; done) | (simp; omega)))) hx HZ.out).mono ?_
    rintro e w2 ⟨rfl, hb2⟩
    have hs2 := hb2.size
    rw [Hg.out]
    go_wp2
    go_ret2
    exact hr_no HB.out (MadeAt.empty (g := _) (fun v => .returned (.tuple #[v, .bool false])) (by first | omega | (simp; omega)) (heap_alloc_new _ _) (by repeat' (first | (with_reducible exact Below.refl _ _) | (with_reducible refine Below.alloc ?_ ?_ _) | (with_reducible refine Below.setCell ?_ ?_ _) | (with_reducible refine Below.drew ?_) | (with_reducible refine Below.trans ?_ (Below.mono (by with_reducible assumption) ?_)) | omega | (simp; done) | (simp; omega))))
  by_cases hat : owAtN xs nm xs.length < 0
  · have HB : Hid (hrB xs nm hs = false) := Lib.hid (by simp [hrB, hrC, show ¬ 0 ≤ owAtN xs nm xs.length by omega])
    have Hg := Lib.hid hg
    have Hat := Lib.hid (owAtN_neg hat).1
    clear h hz hg hat
    go_enter Tryd.func46, Tryd.ntmps46
    go_wp2_with fail
    refine (l22Find_any _ c xs nm _ (HX.out.to (by repeat' (first | (with_reducible exact Below.refl _ _) | (with_reducible refine Below.alloc ?_ ?_ _) | (with_reducible refine Below.setCell ?_ ?_ _) | (with_reducible refine Below.drew ?_) | (with_reducible refine Below.trans ?_ (Below.mono (by with_reducible assumption) ?_)) | omega | (simp; done) | (simp; omega)))) hx).mono ?_
    rintro e w1 ⟨rfl, hb1⟩
    have hs1 := hb1.size
    rw [Hat.out]
    go_wp2_with fail
    refine (l22Good_any _ c xs _ (HX.out.to (by repeat' (first | (with_reducible exact Below.refl _ _) | (with_reducible refine Below.alloc ?_ ?_ _) | (with_reducible refine Below.setCell ?_ ?_ _) | (with_reducible refine Below.drew ?_) | (with_reducible refine Below.trans ?_ (Below.mono (by with_reducible assumption) ?_)) | omega | (simp; done) | (simp; omega)))) hx HZ.out).mono ?_
    rintro e w2 ⟨rfl, hb2⟩
    have hs2 := hb2.size
    rw [Hg.out]
    go_wp2
    go_ret2
    exact hr_no HB.out (MadeAt.empty (g := _) (fun v => .returned (.tuple #[v, .bool false])) (by first | omega | (simp; omega)) (heap_alloc_new _ _) (by repeat' (first | (with_reducible exact Below.refl _ _) | (with_reducible refine Below.alloc ?_ ?_ _) | (with_reducible refine Below.setCell ?_ ?_ _) | (with_reducible refine Below.drew ?_) | (with_reducible refine Below.trans ?_ (Below.mono (by with_reducible assumption) ?_)) | omega | (simp; done) | (simp; omega))))
  rcases owAtN_or xs nm xs.length with ⟨h9, _⟩ | ⟨i, hi, hai, _, _⟩
  · omega
  cases hin : inB hs.length 1 5
  · have HB : Hid (hrB xs nm hs = false) := Lib.hid (by simp [hrB, hrC, hin])
    have Hg := Lib.hid hg
    have Hat := Lib.hid hai
    have Hin := Lib.hid hin
    have hi0 : ¬ (i : Int) < 0 := by omega
    clear h hz hg hat hai
    go_enter Tryd.func46, Tryd.ntmps46
    go_wp2_with fail
    refine (l22Find_any _ c xs nm _ (HX.out.to (by repeat' (first | (with_reducible exact Below.refl _ _) | (with_reducible refine Below.alloc ?_ ?_ _) | (with_reducible refine Below.setCell ?_ ?_ _) | (with_reducible refine Below.drew ?_) | (with_reducible refine Below.trans ?_ (Below.mono (by with_reducible assumption) ?_)) | omega | (simp; done) | (simp; omega)))) hx).mono ?_
    rintro e w1 ⟨rfl, hb1⟩
    have hs1 := hb1.size
    rw [Hat.out]
    go_wp2_with fail
    refine (l22Good_any _ c xs _ (HX.out.to (by repeat' (first | (with_reducible exact Below.refl _ _) | (with_reducible refine Below.alloc ?_ ?_ _) | (with_reducible refine Below.setCell ?_ ?_ _) | (with_reducible refine Below.drew ?_) | (with_reducible refine Below.trans ?_ (Below.mono (by with_reducible assumption) ?_)) | omega | (simp; done) | (simp; omega)))) hx HZ.out).mono ?_
    rintro e w2 ⟨rfl, hb2⟩
    have hs2 := hb2.size
    rw [Hg.out]
    go_wp2_with fail
    (go_at_call 80; refine (l1In_any _ _ _ _).mono ?_; rintro e w1 ⟨rfl, rfl⟩)
    rw [Hin.out]
    go_wp2
    go_ret2
    exact hr_no HB.out (MadeAt.empty (g := _) (fun v => .returned (.tuple #[v, .bool false])) (by first | omega | (simp; omega)) (heap_alloc_new _ _) (by repeat' (first | (with_reducible exact Below.refl _ _) | (with_reducible refine Below.alloc ?_ ?_ _) | (with_reducible refine Below.setCell ?_ ?_ _) | (with_reducible refine Below.drew ?_) | (with_reducible refine Below.trans ?_ (Below.mono (by with_reducible assumption) ?_)) | omega | (simp; done) | (simp; omega))))
  have hln := inB_iff.1 hin
  obtain ⟨b0, o0, rfl, _⟩ := h (by omega)
  obtain ⟨b1, o1, rfl, _⟩ := h' (by omega)
  exact sHeirsOf_main b0 o0 c xs b1 o1 c' hs nm w h h' hx hc hz hsz hg i hi hai hin
set_option maxRecDepth 100000 in
set_option maxHeartbeats 16000000 in
theorem iHeirsOf_main (b0 o0 c : Nat) (xs : List Ow) (b1 o1 c' : Nat) (hs : List ByteArray) (nm : ByteArray) (w : World) (h : Rd w w.heap.size (some ⟨b0, o0, none⟩) 3 Ow.enc xs) (h' : Rd w w.heap.size (some ⟨b1, o1, none⟩) 1 se hs) (hx : xs.length ≤ 1048576) (hc : xs.length ≤ c) (hc' : hs.length ≤ c') (hz : OwSz 1048576 xs) (hsz : StrSz 1048576 hs)
    (hg : arB xs = true) (i : Nat) (hi : i < xs.length) (hat : owAtN xs nm xs.length = i) (hin : inB hs.length 1 5 = true) :
    Calls Tryd.prog 48 #[.slice (some ⟨b0, o0, none⟩) xs.length c, .string nm, .slice (some ⟨b1, o1, none⟩) hs.length c'] w fun e w' => MadeAt w 54 ((hrL xs nm hs).flatMap Ow.enc) (hrL xs nm hs).length (fun v => .returned (.tuple #[v, .bool (hrB xs nm hs)])) e w' := by
  have HX := Lib.hid h
  have HH := Lib.hid h'
  have HZ := Lib.hid hz
  have HSZ := Lib.hid hsz.el
  have Hg := Lib.hid hg
  have HBD := Lib.hid (arOK_bd hg)
  have hl := arOK_len hg
  have hln := inB_iff.1 hin
  have Hat := Lib.hid hat
  have Hin := Lib.hid hin
  have hi0 : ¬ (i : Int) < 0 := by omega
  have hiI : (i : Int) < xs.length := by omega
  have hiI0 : (0 : Int) ≤ i := by omega
  have hI : hrI xs nm = i := by unfold hrI; rw [hat]; simp
  have HCC : Hid (∀ b, noD hs nm hs.length = b → hrC xs nm hs = b) := Lib.hid (fun b hb => by unfold hrC; rw [hg, hat, hin, hb, decide_eq_true hiI0]; rfl)
  have hub := HBD.out i
  have HBDd := Lib.hid (HBD.out.del hi)
  obtain ⟨n0, hn0⟩ : ∃ z, (el xs i).n = z := ⟨_, rfl⟩
  obtain ⟨d1, hd1⟩ : ∃ z, (el xs i).d = z := ⟨_, rfl⟩
  have HN0 := Lib.hid (And.intro hn0 hd1)
  rw [hn0, hd1] at hub
  have bd1 : d1 * (hs.length : Int) ≤ 1000 * 5 := Int.mul_le_mul (by omega) (by omega) (by omega) (by omega)
  have bp := Int.mul_pos (show 0 < d1 by omega) (show 0 < (hs.length : Int) by omega)
  have HR : Hid (hrR xs nm hs = hG n0 (d1 * (hs.length : Int)) (delL xs i) hs hs.length) := Lib.hid (by unfold hrR; rw [hI, hn0, hd1])
  obtain ⟨d0, hd0⟩ : ∃ z, d1 * (hs.length : Int) = z := ⟨_, rfl⟩
  rw [hd0] at bd1 bp HR
  have v1 : wrap64 (d1 * (hs.length : Int)) = d0 := by rw [hd0]; exact wrap_in' ⟨by omega, by omega⟩
  have v2 : IntKind.i64.wrap (d1 * (hs.length : Int)) = d0 := by rw [← hd0]; exact IntWalk.i64_in _ (by omega)
  have hZd := Lib.hid (HZ.out.del hi)
  have hdl := del_len hi
  have HCS := Lib.hid (fun (W : World) (n : Nat) (x : ByteArray) (hn : n ≤ hs.length) (hr : Rd W W.heap.size (some ⟨b1, o1, none⟩) 1 se hs) => Tryd.slices_Contains_string b1 o1 n c' hs x W hn (by omega) (str_cells hr))
  have hb0l : b0 < w.heap.size := by
    obtain ⟨bb0, oo0, ee0, hB0, _⟩ := ow_cells h hi
    obtain ⟨rfl, rfl⟩ : b0 = bb0 ∧ o0 = oo0 := by simpa using ee0
    exact hB0
  have hb1l : b1 < w.heap.size := by
    obtain ⟨bb0, oo0, ee0, hB0, _⟩ := str_cell h' (show 0 < hs.length by omega)
    obtain ⟨rfl, rfl⟩ : b1 = bb0 ∧ o1 = oo0 := by simpa using ee0
    exact hB0
  clear h h' hz hsz hg hat hin hI hd0 hn0 hd1
  go_enter Tryd.func48, Tryd.ntmps48
  go_wp2_with fail
  refine (ownerAt_any _ c xs.length xs nm _ (HX.out.to (by repeat' (first | (with_reducible exact Below.refl _ _) | (with_reducible refine Below.alloc ?_ ?_ _) | (with_reducible refine Below.setCell ?_ ?_ _) | (with_reducible refine Below.drew ?_) | (with_reducible refine Below.trans ?_ (Below.mono (by with_reducible assumption) ?_)) | omega | (simp; done) | (simp; omega)))) hx rfl).mono ?_
  rintro e w1 ⟨rfl, hb1⟩
  have hs1 := hb1.size
  rw [Hat.out]
  go_wp2_with fail
  refine (iAreOwners_any _ c xs _ (HX.out.to (by repeat' (first | (with_reducible exact Below.refl _ _) | (with_reducible refine Below.alloc ?_ ?_ _) | (with_reducible refine Below.setCell ?_ ?_ _) | (with_reducible refine Below.drew ?_) | (with_reducible refine Below.trans ?_ (Below.mono (by with_reducible assumption) ?_)) | omega | (simp; done) | (simp; omega)))) hx hc HZ.out).mono ?_
  rintro e w2 ⟨rfl, hb2⟩
  have hs2 := hb2.size
  rw [Hg.out]
  go_wp2_with fail
  (go_at_call 60; refine (within_any _ _ _ _).mono ?_; rintro e w1 ⟨rfl, rfl⟩)
  rw [Hin.out]
  have hb3 : Below w.heap.size w w2 := (by repeat' (first | (with_reducible exact Below.refl _ _) | (with_reducible refine Below.alloc ?_ ?_ _) | (with_reducible refine Below.setCell ?_ ?_ _) | (with_reducible refine Below.drew ?_) | (with_reducible refine Below.trans ?_ (Below.mono (by with_reducible assumption) ?_)) | omega | (simp; done) | (simp; omega)))
  have HB3 := Lib.hid hb3
  go_wp2_with fail
  refine (HCS.out w2 hs.length nm (Nat.le_refl _) (HH.out.to hb3)).mono ?_
  rintro e w3 ⟨rfl, rfl⟩
  rw [List.take_length]
  clear hb1 hb2 hs1 hs2
  have hs3 := hb3.size
  cases hcs : Lib.containsS hs nm
  · have HNM : Hid (∀ k, k < hs.length → el hs k ≠ nm) := Lib.hid (fun k hk e => by
      have : Lib.containsS hs nm = true := (Lib.containsS_iff hs nm).2 (e ▸ el_mem hk)
      rw [hcs] at this; cases this)
    clear hcs hb3
    go_wp2_with fail
    go_loopw [37] (fun k wr => ∃ kk : Nat, kk ≤ hs.length ∧ k = .int .i64 kk ∧ Hid (noD hs nm kk = true) ∧ Below w.heap.size w wr) (fun k _ => hs.length - (intOf k).toNat)
    case atStart => exact ⟨0, Nat.zero_le _, rfl, Lib.hid rfl, HB3.out⟩
    case round =>
      obtain ⟨k, hk, rfl, HN, hb⟩ := hrel
      have hsb := hb.size
      by_cases hlt : k < hs.length
      · obtain ⟨bx, ox, ee, hBx, c0⟩ := str_cell (HH.out.to hb) hlt
        obtain ⟨rfl, rfl⟩ : b1 = bx ∧ o1 = ox := by simpa using ee
        have hK : (k : Int) < hs.length := by omega
        have hK0 : (0 : Int) ≤ k := by omega
        have hKc : (k : Int) ≤ c' := by omega
        have hKc2 : k ≤ c' := by omega
        clear ee
        have HCk := Lib.hid (HCS.out wr k (el hs k) (Nat.le_of_lt hlt) (HH.out.to hb))
        cases hcs : Lib.containsS (hs.take k) (el hs k)
        · have HNk : Hid (noD hs nm (k + 1) = true) := Lib.hid (noD_succ.2 ⟨HN.out, HNM.out k hlt, fun j hj e => by
            have : Lib.containsS (hs.take k) (el hs k) = true := (Lib.containsS_iff _ _).2 (by rw [← e, ← el_take hj (Nat.le_of_lt hlt)]; exact el_mem (by rw [List.length_take]; omega))
            rw [hcs] at this; cases this⟩)
          rw [hcs] at HCk
          clear hcs
          go_wp2_with fail
          refine (HCk.out).mono ?_
          rintro e w4 ⟨rfl, rfl⟩
          go_wp2
          go_roundw
          case rel => exact ⟨k + 1, by omega, by go_num, HNk, (by repeat' (first | (with_reducible exact Below.refl _ _) | (with_reducible refine Below.alloc ?_ ?_ _) | (with_reducible refine Below.setCell ?_ ?_ _) | (with_reducible refine Below.drew ?_) | (with_reducible refine Below.trans ?_ (Below.mono (by with_reducible assumption) ?_)) | omega | (simp; done) | (simp; omega)))⟩
          case measure => simp [intOf] <;> omega
        · have HB : Hid (hrB xs nm hs = false) := Lib.hid (by
            obtain ⟨j, hj, e⟩ := List.mem_iff_getElem.1 ((Lib.containsS_iff _ _).1 hcs)
            rw [List.length_take] at hj
            have hj2 : j < k := by omega
            have e2 : el hs j = el hs k := by rw [← e, ← el_take hj2 (Nat.le_of_lt hlt), el_get (by rw [List.length_take]; omega)]
            unfold hrB; rw [HCC.out false (noD_dup hlt hj2 e2)]; rfl)
          rw [hcs] at HCk
          clear hcs
          go_wp2_with fail
          refine (HCk.out).mono ?_
          rintro e w4 ⟨rfl, rfl⟩
          go_wp2
          go_ret2
          exact hr_no HB.out (MadeAt.nil (fun v => .returned (.tuple #[v, .bool false])) (by repeat' (first | (with_reducible exact Below.refl _ _) | (with_reducible refine Below.alloc ?_ ?_ _) | (with_reducible refine Below.setCell ?_ ?_ _) | (with_reducible refine Below.drew ?_) | (with_reducible refine Below.trans ?_ (Below.mono (by with_reducible assumption) ?_)) | omega | (simp; done) | (simp; omega))))
      · obtain rfl : k = hs.length := by omega
        have hK : ¬ ((hs.length : Nat) : Int) < hs.length := by omega
        have HC1 := HCC.out true HN.out
        obtain ⟨wA, rfl⟩ : ∃ wA, wA = wr := ⟨_, rfl⟩
        have HBA := Lib.hid hb
        have hsA := hb.size
        have HNall := Lib.hid (noD_at HN.out)
        clear HN HCS
        go_wp2_with fail
        refine (cloneOw_own ⟨b0, o0, none⟩ c xs _ (HX.out.to HBA.out) hx).mono ?_
        rintro e w5 ⟨v5, rfl, own5, hb5⟩
        have hs5 := hb5.size
        have hw5 : Below w.heap.size w w5 := HBA.out.trans (hb5.mono hsA)
        obtain ⟨g5, c5, rfl, k51, k52⟩ := own_some own5 (fun e => by
          rcases own5.2 with ⟨_, h0⟩ | ⟨_, _, _, hv, _⟩
          · omega
          · rw [e] at hv; cases hv)
        obtain ⟨row5, hg5⟩ := Row.of_own own5
        have ROW5 := Lib.hid row5
        have HW5 := Lib.hid hw5
        have hg5w : w.heap.size ≤ g5 := by omega
        clear own5 row5 hw5 hb5
        go_wp2_with fail
        refine (deleteOw_row g5 c5 xs i w5 ROW5.out hi k51 k52).mono ?_
        rintro e w6 ⟨rfl, row6, hgr6⟩
        have row6 : Row w6 g5 54 ((delL xs i).flatMap Ow.enc) := row6
        have hs56 := HW5.out.size
        have hw6 : Below w.heap.size w w6 := HW5.out.trans (grown_below hgr6 hg5w (by omega))
        have HF0 := Lib.hid (show GivenR w (hG n0 d0 (delL xs i) hs 0) (.slice (some ⟨g5, 0, none⟩) (xs.length - 1) c5) w6 from by rw [← hdl]; exact ⟨g5, c5, rfl, by show (delL xs i).length ≤ c5; omega, k52, hg5w, row6, hw6⟩)
        clear row6 hgr6 ROW5 HW5 HBA hs5 hsA hb
        go_wp2_with fail
        go_loopw [11, 56] (fun v k wr => ∃ kk : Nat, kk ≤ hs.length ∧ k = .int .i64 kk ∧ Hid (GivenR w (hG n0 d0 (delL xs i) hs kk) v wr)) (fun _ k _ => hs.length - (intOf k).toNat)
        case atStart => exact ⟨0, Nat.zero_le _, rfl, HF0⟩
        case round =>
          clear HF0
          obtain ⟨k, hk, rfl, HGv⟩ := hrel
          have hlk := hG_len n0 d0 (delL xs i) hs k
          have hat := fun j => hG_at (n := n0) (d := d0) (hs := hs) (k := k) (j := j) HBDd.out
          have hZk := hG_sz (n := n0) (d := d0) hZd.out HSZ.out k
          by_cases hlt : k < hs.length
          · obtain ⟨ys, hys⟩ : ∃ ys, hG n0 d0 (delL xs i) hs k = ys := ⟨_, rfl⟩
            have hGk : getsL ys (el hs k) n0 d0 = hG n0 d0 (delL xs i) hs (k + 1) := by rw [hG, hys]
            rw [hys] at HGv hlk hat hZk
            obtain ⟨g, cap, rfl, k1, k2, hgw, row, hb⟩ := HGv.out.out
            have HAT := Lib.hid hat
            have HGK := Lib.hid hGk
            have hsb := hb.size
            have hgl := row.lt
            have ROW := Lib.hid row
            have HBw := Lib.hid hb
            clear hys hat hGk HGv row hZk
            obtain ⟨bx, ox, ee, hBx, c0⟩ := str_cell (HH.out.to hb) hlt
            obtain ⟨rfl, rfl⟩ : b1 = bx ∧ o1 = ox := by simpa using ee
            have hK : (k : Int) < hs.length := by omega
            have hK0 : (0 : Int) ≤ k := by omega
            have HRX := Lib.hid (HX.out.to hb)
            have hnd := ow_nd HRX.out hi HN0.out.1 HN0.out.2
            have q1 := hnd.1
            have q2 := hnd.2
            have hb0r : b0 < wr.heap.size := by omega
            have hD := HNall.out k hlt
            have HD := Lib.hid hD.2
            clear ee hnd hD
            go_wp2_with fail
            go_region_held3 (fun W => W.cell? ⟨b0, o0 + i * 3 + 1, none⟩ = some (.int .i64 n0) ∧ W.cell? ⟨b0, o0 + i * 3 + 2, none⟩ = some (.int .i64 d1))
              (first | (exact ow_nd (HRX.out.to (by repeat' (first | (with_reducible exact Below.refl _ _) | (with_reducible refine Below.alloc ?_ ?_ _) | (with_reducible refine Below.setCell ?_ ?_ _) | (with_reducible refine Below.drew ?_) | (with_reducible refine Below.trans ?_ (Below.mono (by with_reducible assumption) ?_)) | omega | (simp; done) | (simp; omega)))) hi HN0.out.1 HN0.out.2) | go_keep)
              (first
                | (go_at_call 82; refine (gets_any ⟨g, 0, none⟩ cap ys (el hs k) n0 d0 _ (ROW.out.rdTo Ow.enc_len (by repeat' (first | (with_reducible exact Below.refl _ _) | (with_reducible refine Below.alloc ?_ ?_ _) | (with_reducible refine Below.setCell ?_ ?_ _) | (with_reducible refine Below.drew ?_) | (with_reducible refine Below.trans ?_ (Below.mono (by with_reducible assumption) ?_)) | omega | (simp; done) | (simp; omega)))) (by omega) (fun m _ hs' => by have := HAT.out m HD.out hs'; omega) (by omega)).mono ?_; rintro e w7 ⟨g7, c7, rfl, k71, k72, hg7, row7, hb7⟩; have hq7 : Below wr.heap.size wr w7 := (by repeat' (first | (with_reducible exact Below.refl _ _) | (with_reducible refine Below.alloc ?_ ?_ _) | (with_reducible refine Below.setCell ?_ ?_ _) | (with_reducible refine Below.drew ?_) | (with_reducible refine Below.trans ?_ (Below.mono (by with_reducible assumption) ?_)) | omega | (simp; done) | (simp; omega))); have hs7 := hq7.size))
            all_goals
              rw [HGK.out] at k71 row7 ⊢
              have hbw7 : Below w.heap.size w w7 := HBw.out.trans (hq7.mono hsb)
              have HF := Lib.hid (show GivenR w (hG n0 d0 (delL xs i) hs (k + 1)) (.slice (some ⟨g7, 0, none⟩) (hG n0 d0 (delL xs i) hs (k + 1)).length c7) w7 from ⟨g7, c7, rfl, k71, k72, Nat.le_trans HBw.out.size hg7, row7, hbw7⟩)
              clear k71 row7
              go_wp2
              go_roundw
              case rel => exact ⟨k + 1, by omega, by go_num, HF⟩
              case measure => simp [intOf] <;> omega
          · obtain rfl : k = hs.length := by omega
            have hK : ¬ ((hs.length : Nat) : Int) < hs.length := by omega
            obtain ⟨ys, hys⟩ : ∃ ys, hG n0 d0 (delL xs i) hs hs.length = ys := ⟨_, rfl⟩
            rw [hys] at HGv hlk hZk HR
            obtain ⟨g, cap, rfl, k1, k2, hgw, row, hb⟩ := HGv.out.out
            have hsb := hb.size
            have hgl := row.lt
            have ROW := Lib.hid row
            have HBw := Lib.hid hb
            clear hys hat HGv row
            cases hG : arB ys
            · have HB : Hid (hrB xs nm hs = false) := Lib.hid (by unfold hrB; rw [HR.out, hG, Bool.and_false])
              go_wp2_with fail
              refine (iAreOwners_any _ cap ys _ (ROW.out.rdTo Ow.enc_len (by repeat' (first | (with_reducible exact Below.refl _ _) | (with_reducible refine Below.alloc ?_ ?_ _) | (with_reducible refine Below.setCell ?_ ?_ _) | (with_reducible refine Below.drew ?_) | (with_reducible refine Below.trans ?_ (Below.mono (by with_reducible assumption) ?_)) | omega | (simp; done) | (simp; omega)))) (by omega) (by omega) hZk).mono ?_
              rintro e w8 ⟨rfl, hb8⟩
              have hs8 := hb8.size
              rw [hG]
              go_wp2
              go_ret2
              exact hr_no HB.out (MadeAt.nil (fun v => .returned (.tuple #[v, .bool false])) (by repeat' (first | (with_reducible exact Below.refl _ _) | (with_reducible refine Below.alloc ?_ ?_ _) | (with_reducible refine Below.setCell ?_ ?_ _) | (with_reducible refine Below.drew ?_) | (with_reducible refine Below.trans ?_ (Below.mono (by with_reducible assumption) ?_)) | omega | (simp; done) | (simp; omega))))
            · have HB : Hid (hrB xs nm hs = true) := Lib.hid (by unfold hrB; rw [HR.out, hG, HC1]; rfl)
              go_wp2_with fail
              refine (iAreOwners_any _ cap ys _ (ROW.out.rdTo Ow.enc_len (by repeat' (first | (with_reducible exact Below.refl _ _) | (with_reducible refine Below.alloc ?_ ?_ _) | (with_reducible refine Below.setCell ?_ ?_ _) | (with_reducible refine Below.drew ?_) | (with_reducible refine Below.trans ?_ (Below.mono (by with_reducible assumption) ?_)) | omega | (simp; done) | (simp; omega)))) (by omega) (by omega) hZk).mono ?_
              rintro e w8 ⟨rfl, hb8⟩
              have hs8 := hb8.size
              rw [hG]
              go_wp2
              go_ret2
              exact hr_yes HR.out HB.out ⟨_, cap, rfl, OwnAt.row hgw (ROW.out.to hb8), HBw.out.trans (hb8.mono (by omega))⟩
  · have HB : Hid (hrB xs nm hs = false) := Lib.hid (by
      obtain ⟨j, hj, e⟩ := List.mem_iff_getElem.1 ((Lib.containsS_iff _ _).1 hcs)
      unfold hrB; rw [HCC.out false (noD_name hj (by rw [el_get hj]; exact e))]; rfl)
    clear hcs
    go_wp2
    go_ret2
    exact hr_no HB.out (MadeAt.nil (fun v => .returned (.tuple #[v, .bool false])) (by repeat' (first | (with_reducible exact Below.refl _ _) | (with_reducible refine Below.alloc ?_ ?_ _) | (with_reducible refine Below.setCell ?_ ?_ _) | (with_reducible refine Below.drew ?_) | (with_reducible refine Below.trans ?_ (Below.mono (by with_reducible assumption) ?_)) | omega | (simp; done) | (simp; omega))))
set_option maxRecDepth 10000 in
set_option maxHeartbeats 8000000 in
theorem iHeirsOf_any (A : Option Addr) (c : Nat) (xs : List Ow) (A' : Option Addr) (c' : Nat) (hs : List ByteArray) (nm : ByteArray) (w : World) (h : Rd w w.heap.size A 3 Ow.enc xs) (h' : Rd w w.heap.size A' 1 se hs) (hx : xs.length ≤ 1048576) (hc : xs.length ≤ c) (hc' : hs.length ≤ c') (hz : OwSz 1048576 xs) (hsz : StrSz 1048576 hs) :
    Calls Tryd.prog 48 #[.slice A xs.length c, .string nm, .slice A' hs.length c'] w fun e w' => MadeAt w 54 ((hrL xs nm hs).flatMap Ow.enc) (hrL xs nm hs).length (fun v => .returned (.tuple #[v, .bool (hrB xs nm hs)])) e w' := by
  have HX := Lib.hid h
  have HZ := Lib.hid hz
  cases hg : arB xs
  · have HB : Hid (hrB xs nm hs = false) := Lib.hid (by simp [hrB, hrC, hg])
    have Hg := Lib.hid hg
    obtain ⟨ai, hai0⟩ : ∃ a, owAtN xs nm xs.length = a := ⟨_, rfl⟩
    have Hai := Lib.hid hai0
    clear h hz hg hai0
    go_enter Tryd.func48, Tryd.ntmps48
    go_wp2_with fail
    refine (ownerAt_any _ c xs.length xs nm _ (HX.out.to (by repeat' (first | (with_reducible exact Below.refl _ _) | (with_reducible refine Below.alloc ?_ ?_ _) | (with_reducible refine Below.setCell ?_ ?_ _) | (with_reducible refine Below.drew ?_) | (with_reducible refine Below.trans ?_ (Below.mono (by with_reducible assumption) ?_)) | omega | (simp; done) | (simp; omega)))) hx rfl).mono ?_
    rintro e w1 ⟨rfl, hb1⟩
    have hs1 := hb1.size
    rw [Hai.out]
    go_wp2_with fail
    refine (iAreOwners_any _ c xs _ (HX.out.to (by repeat' (first | (with_reducible exact Below.refl _ _) | (with_reducible refine Below.alloc ?_ ?_ _) | (with_reducible refine Below.setCell ?_ ?_ _) | (with_reducible refine Below.drew ?_) | (with_reducible refine Below.trans ?_ (Below.mono (by with_reducible assumption) ?_)) | omega | (simp; done) | (simp; omega)))) hx hc HZ.out).mono ?_
    rintro e w2 ⟨rfl, hb2⟩
    have hs2 := hb2.size
    rw [Hg.out]
    go_wp2
    go_ret2
    exact hr_no HB.out (MadeAt.nil (fun v => .returned (.tuple #[v, .bool false])) (by repeat' (first | (with_reducible exact Below.refl _ _) | (with_reducible refine Below.alloc ?_ ?_ _) | (with_reducible refine Below.setCell ?_ ?_ _) | (with_reducible refine Below.drew ?_) | (with_reducible refine Below.trans ?_ (Below.mono (by with_reducible assumption) ?_)) | omega | (simp; done) | (simp; omega))))
  by_cases hat : owAtN xs nm xs.length < 0
  · have HB : Hid (hrB xs nm hs = false) := Lib.hid (by simp [hrB, hrC, show ¬ 0 ≤ owAtN xs nm xs.length by omega])
    have Hg := Lib.hid hg
    have Hat := Lib.hid (owAtN_neg hat).1
    clear h hz hg hat
    go_enter Tryd.func48, Tryd.ntmps48
    go_wp2_with fail
    refine (ownerAt_any _ c xs.length xs nm _ (HX.out.to (by repeat' (first | (with_reducible exact Below.refl _ _) | (with_reducible refine Below.alloc ?_ ?_ _) | (with_reducible refine Below.setCell ?_ ?_ _) | (with_reducible refine Below.drew ?_) | (with_reducible refine Below.trans ?_ (Below.mono (by with_reducible assumption) ?_)) | omega | (simp; done) | (simp; omega)))) hx rfl).mono ?_
    rintro e w1 ⟨rfl, hb1⟩
    have hs1 := hb1.size
    rw [Hat.out]
    go_wp2_with fail
    refine (iAreOwners_any _ c xs _ (HX.out.to (by repeat' (first | (with_reducible exact Below.refl _ _) | (with_reducible refine Below.alloc ?_ ?_ _) | (with_reducible refine Below.setCell ?_ ?_ _) | (with_reducible refine Below.drew ?_) | (with_reducible refine Below.trans ?_ (Below.mono (by with_reducible assumption) ?_)) | omega | (simp; done) | (simp; omega)))) hx hc HZ.out).mono ?_
    rintro e w2 ⟨rfl, hb2⟩
    have hs2 := hb2.size
    rw [Hg.out]
    go_wp2
    go_ret2
    exact hr_no HB.out (MadeAt.nil (fun v => .returned (.tuple #[v, .bool false])) (by repeat' (first | (with_reducible exact Below.refl _ _) | (with_reducible refine Below.alloc ?_ ?_ _) | (with_reducible refine Below.setCell ?_ ?_ _) | (with_reducible refine Below.drew ?_) | (with_reducible refine Below.trans ?_ (Below.mono (by with_reducible assumption) ?_)) | omega | (simp; done) | (simp; omega))))
  rcases owAtN_or xs nm xs.length with ⟨h9, _⟩ | ⟨i, hi, hai, _, _⟩
  · omega
  cases hin : inB hs.length 1 5
  · have HB : Hid (hrB xs nm hs = false) := Lib.hid (by simp [hrB, hrC, hin])
    have Hg := Lib.hid hg
    have Hat := Lib.hid hai
    have Hin := Lib.hid hin
    have hi0 : ¬ (i : Int) < 0 := by omega
    clear h hz hg hat hai
    go_enter Tryd.func48, Tryd.ntmps48
    go_wp2_with fail
    refine (ownerAt_any _ c xs.length xs nm _ (HX.out.to (by repeat' (first | (with_reducible exact Below.refl _ _) | (with_reducible refine Below.alloc ?_ ?_ _) | (with_reducible refine Below.setCell ?_ ?_ _) | (with_reducible refine Below.drew ?_) | (with_reducible refine Below.trans ?_ (Below.mono (by with_reducible assumption) ?_)) | omega | (simp; done) | (simp; omega)))) hx rfl).mono ?_
    rintro e w1 ⟨rfl, hb1⟩
    have hs1 := hb1.size
    rw [Hat.out]
    go_wp2_with fail
    refine (iAreOwners_any _ c xs _ (HX.out.to (by repeat' (first | (with_reducible exact Below.refl _ _) | (with_reducible refine Below.alloc ?_ ?_ _) | (with_reducible refine Below.setCell ?_ ?_ _) | (with_reducible refine Below.drew ?_) | (with_reducible refine Below.trans ?_ (Below.mono (by with_reducible assumption) ?_)) | omega | (simp; done) | (simp; omega)))) hx hc HZ.out).mono ?_
    rintro e w2 ⟨rfl, hb2⟩
    have hs2 := hb2.size
    rw [Hg.out]
    go_wp2_with fail
    (go_at_call 60; refine (within_any _ _ _ _).mono ?_; rintro e w1 ⟨rfl, rfl⟩)
    rw [Hin.out]
    go_wp2
    go_ret2
    exact hr_no HB.out (MadeAt.nil (fun v => .returned (.tuple #[v, .bool false])) (by repeat' (first | (with_reducible exact Below.refl _ _) | (with_reducible refine Below.alloc ?_ ?_ _) | (with_reducible refine Below.setCell ?_ ?_ _) | (with_reducible refine Below.drew ?_) | (with_reducible refine Below.trans ?_ (Below.mono (by with_reducible assumption) ?_)) | omega | (simp; done) | (simp; omega))))
  have hln := inB_iff.1 hin
  obtain ⟨b0, o0, rfl, _⟩ := h (by omega)
  obtain ⟨b1, o1, rfl, _⟩ := h' (by omega)
  exact iHeirsOf_main b0 o0 c xs b1 o1 c' hs nm w h h' hx hc hc' hz hsz hg i hi hai hin
end Go.Proofs.YtimdnihadhbjpaaDoor
