/- ParseBrine of the program: reading a brine's text back (chapter 2). -/
import Derived.Test.YtocaodoagiokjaaDoorBrnRead
import Derived.Test.YtocaodoagiokjaaDoorLawKit
set_option linter.unusedSimpArgs false
set_option linter.unusedVariables false
namespace Go.Proofs.YtocaodoagiokjaaDoor
open Go.RowKit Go.Sort Go.Salt
attribute [local go_sem] cell_rg
/-- The library's limit of a search is some number. -/
def MxL (w : World) : Prop := ∃ m, w.cell? ⟨0, 0, none⟩ = some (.int .i64 m)
theorem MxL.to {w w' : World} (h : MxL w) (hb : Below w.heap.size w w') : MxL w' := by
  obtain ⟨m, hm⟩ := h
  exact ⟨m, (hb.cell (p := ⟨0, 0, none⟩) (block_lt_of_cell hm)).trans hm⟩
theorem below_dn (w : World) (k : Nat) : Below w.heap.size w (w.drewN k) := by
  have h := below_drewN w k #[]
  rwa [grow_empty] at h
/-- The text is that of a brine. -/
def BrT (s : ByteArray) : Prop := ∃ a b : Int, (inB a 0 1000000 && inB b 0 1000000) = true ∧ s = brS a b
theorem list_size (l : List UInt8) : (⟨l.toArray⟩ : ByteArray).size = l.length := by
  show l.toArray.size = l.length
  simp
theorem ba_size (s : ByteArray) : s.data.toList.length = s.size := by simp
theorem cut_sz (s sep : List UInt8) : (Lib.cut s sep).1.length ≤ s.length ∧ (Lib.cut s sep).2.1.length ≤ s.length := by
  unfold Lib.cut
  split <;> simp <;> omega
theorem pre_sz (s p : List UInt8) : (Lib.trimPrefix s p).length ≤ s.length := by
  unfold Lib.trimPrefix
  split <;> simp
theorem str_ne {s t : ByteArray} (h : s ≠ t) : (s.toList == t.toList) = false := by
  rw [ba_list, ba_list]
  have : s.data.toList ≠ t.data.toList := fun e => h (by
    obtain ⟨⟨l⟩⟩ := s
    obtain ⟨⟨m⟩⟩ := t
    simp at e; subst e; rfl)
  simpa using this
set_option maxHeartbeats 1000000 in
theorem cut_yes (a s : Int) (w : World) (hm : MxL w) (h1 : a ≤ 1000000) (h2 : s ≤ 1000000) :
    Calls Tryd.prog 24 #[.string (brS a s), .string ⟨#[32, 115]⟩] w fun e w' => e = .returned (.tuple #[.string ⟨(119 :: dgL a).toArray⟩, .string (numS s), .bool true]) ∧ Below w.heap.size w w' := by
  obtain ⟨m, hm⟩ := hm
  have hz := brS_size (a := a) (s := s) (by omega) (by omega)
  refine (Tryd.strings_Cut (brS a s) ⟨#[32, 115]⟩ m w (by omega) hm).mono fun e w' he => ?_
  obtain ⟨rfl, n, rfl⟩ := he
  refine ⟨?_, below_dn _ _⟩
  rw [show (⟨#[32, 115]⟩ : ByteArray).data.toList = [32, 115] from rfl, cut_brS]; rfl
set_option maxHeartbeats 1000000 in
theorem cut_no (t : ByteArray) (w : World) (hm : MxL w) (hz : t.size ≤ 100) :
    Calls Tryd.prog 24 #[.string t, .string ⟨#[32, 115]⟩] w fun e w' => (∃ (p q : ByteArray) (r : Bool), e = .returned (.tuple #[.string p, .string q, .bool r]) ∧ p.size ≤ 100 ∧ q.size ≤ 100) ∧ Below w.heap.size w w' := by
  obtain ⟨m, hm⟩ := hm
  refine (Tryd.strings_Cut t ⟨#[32, 115]⟩ m w (by omega) hm).mono fun e w' he => ?_
  obtain ⟨rfl, n, rfl⟩ := he
  have h := cut_sz t.data.toList (⟨#[32, 115]⟩ : ByteArray).data.toList
  rw [ba_size] at h
  exact ⟨⟨_, _, _, rfl, by rw [list_size]; omega, by rw [list_size]; omega⟩, below_dn _ _⟩
set_option maxHeartbeats 1000000 in
theorem pre_yes (a : Int) (w : World) :
    Calls Tryd.prog 25 #[.string ⟨(119 :: dgL a).toArray⟩, .string ⟨#[119]⟩] w fun e w' => e = .returned (.tuple #[.string (numS a), .bool true]) ∧ w = w' := by
  refine (Tryd.strings_CutPrefix ⟨(119 :: dgL a).toArray⟩ ⟨#[119]⟩ w).mono fun e w' he => ?_
  obtain ⟨rfl, rfl⟩ := he
  have e1 : (⟨(119 :: dgL a).toArray⟩ : ByteArray).data.toList = 119 :: dgL a := rfl
  have e2 : (⟨#[119]⟩ : ByteArray).data.toList = [119] := rfl
  refine ⟨?_, rfl⟩
  rw [e1, e2, pre_brS, show Lib.hasPrefix (119 :: dgL a) [119] = true by simp [Lib.hasPrefix]]; rfl
set_option maxHeartbeats 1000000 in
theorem pre_no (t : ByteArray) (w : World) (hz : t.size ≤ 100) :
    Calls Tryd.prog 25 #[.string t, .string ⟨#[119]⟩] w fun e w' => (∃ (p : ByteArray) (r : Bool), e = .returned (.tuple #[.string p, .bool r]) ∧ p.size ≤ 100) ∧ w = w' := by
  refine (Tryd.strings_CutPrefix t ⟨#[119]⟩ w).mono fun e w' he => ?_
  obtain ⟨rfl, rfl⟩ := he
  have h := pre_sz t.data.toList (⟨#[119]⟩ : ByteArray).data.toList
  rw [ba_size] at h
  exact ⟨⟨_, _, rfl, by rw [list_size]; omega⟩, rfl⟩
set_option maxHeartbeats 8000000 in
theorem iParse_yes (a s : Int) (w : World) (ht : Hid (Tab w)) (hm : Hid (MxL w)) (hOK : (inB a 0 1000000 && inB s 0 1000000) = true) :
    Calls Tryd.prog 7 #[.string (brS a s)] w fun e w' => e = .returned (.tuple #[.agg #[.int .i64 a, .int .i64 s], .bool true]) ∧ Below w.heap.size w w' := by
  have hp := hOK
  simp only [Bool.and_eq_true, inB_iff] at hp
  obtain ⟨⟨ha0, ha1⟩, hs0, hs1⟩ := hp
  have za := numS_len ha0 ha1
  have zs := numS_len hs0 hs1
  have HRa := Lib.hid (rdI_num ha0 ha1)
  have HRs := Lib.hid (rdI_num hs0 hs1)
  have HOK := Lib.hid hOK
  clear hOK
  obtain ⟨S, hS⟩ : ∃ S, brS a s = S := ⟨_, rfl⟩
  have HCU := Lib.hid (fun W h => cut_yes a s W h ha1 hs1)
  have HTX := Lib.hid (fun W h => iBrineText_yes a s W h HOK.out)
  rw [hS] at HCU HTX ⊢
  clear hS
  go_enter Tryd.func7, Tryd.ntmps7
  go_wp2_with fail
  refine Dr.cut_calls (fun X => Row X w.heap.size 25 [.int .i64 0, .int .i64 0] ∧ Below w.heap.size w X) ⟨Row.new _ _ _, (by repeat' (first | (with_reducible exact Below.refl _ _) | (with_reducible refine Below.alloc ?_ ?_ _) | (with_reducible refine Below.setCell ?_ ?_ _) | (with_reducible refine Below.drew ?_) | (with_reducible refine Below.trans ?_ (Below.mono (by with_reducible assumption) ?_)) | omega | (simp; done) | (simp; omega)))⟩ ?_
  rintro X0 ⟨hr0, hb0⟩
  refine (HCU.out _ (hm.out.to hb0)).mono ?_
  rintro e w1 ⟨rfl, hb1⟩
  have HR0 := Lib.hid (hr0.to hb1)
  replace hb1 := hb0.trans (hb1.mono hb0.size)
  have hs1 := hb1.size
  clear hr0 hb0
  go_wp2_with fail
  refine (pre_yes a _).mono ?_
  rintro e w2 ⟨rfl, rfl⟩
  go_wp2_with fail
  refine (digitsOf_any (numS a) _ (by omega)).mono ?_
  rintro e w2 ⟨rfl, hb2⟩
  rw [HRa.out]
  have HR2 := Lib.hid (HR0.out.to hb2)
  replace hb2 := hb1.trans (hb2.mono hs1)
  have hs2 := hb2.size
  clear HR0 hb1 hs1
  go_wp2_with fail
  refine (digitsOf_any (numS s) _ (by omega)).mono ?_
  rintro e w3 ⟨rfl, hb3⟩
  rw [HRs.out]
  have HR3 := Lib.hid (HR2.out.to hb3)
  replace hb3 := hb2.trans (hb3.mono hs2)
  have hs3 := hb3.size
  clear HR2 hb2 hs2
  go_wp2_with fail
  refine Dr.cut_calls (fun X => Row X w.heap.size 25 [.int .i64 0, .int .i64 0] ∧ Row X w3.heap.size 25 [.int .i64 a, .int .i64 s] ∧ Below w.heap.size w X) ⟨HR3.out.to (by repeat' (first | (with_reducible exact Below.refl _ _) | (with_reducible refine Below.alloc ?_ ?_ _) | (with_reducible refine Below.setCell ?_ ?_ _) | (with_reducible refine Below.drew ?_) | (with_reducible refine Below.trans ?_ (Below.mono (by with_reducible assumption) ?_)) | omega | (simp; done) | (simp; omega))), Row.new _ _ _, (by repeat' (first | (with_reducible exact Below.refl _ _) | (with_reducible refine Below.alloc ?_ ?_ _) | (with_reducible refine Below.setCell ?_ ?_ _) | (with_reducible refine Below.drew ?_) | (with_reducible refine Below.trans ?_ (Below.mono (by with_reducible assumption) ?_)) | omega | (simp; done) | (simp; omega)))⟩ ?_
  rintro X3 ⟨hr3, hx3, hb4⟩
  refine (HTX.out _ (Lib.hid (ht.out.to hb4))).mono ?_
  rintro e w4 ⟨rfl, hb5⟩
  replace hr3 := hr3.to hb5
  replace hx3 := hx3.to hb5
  replace hb5 := hb4.trans (hb5.mono hb4.size)
  have hs5 := hb5.size
  have l0 := hr3.lt
  have l3 := hx3.lt
  obtain ⟨c0, c1, f0⟩ := hr3.two
  obtain ⟨d0, d1, f1⟩ := hx3.two
  clear HR3 hb3 hs3 hb4 hr3 hx3
  go_wp2_with fail
  ((try simp only [Exit.inBlock, Exit.then]); refine bodyPost_ret (by simp [results, Tryd.results7, go_sem, *]; try rfl) rfl ?_)
  exact ⟨rfl, (by repeat' (first | (with_reducible exact Below.refl _ _) | (with_reducible refine Below.alloc ?_ ?_ _) | (with_reducible refine Below.setCell ?_ ?_ _) | (with_reducible refine Below.drew ?_) | (with_reducible refine Below.trans ?_ (Below.mono (by with_reducible assumption) ?_)) | omega | (simp; done) | (simp; omega)))⟩
set_option maxHeartbeats 8000000 in
theorem iParse_no (t : ByteArray) (w : World) (ht : Hid (Tab w)) (hm : Hid (MxL w)) (hz : t.size ≤ 100) (hno : ¬ BrT t) :
    Calls Tryd.prog 7 #[.string t] w fun e w' => e = .returned (.tuple #[.agg #[.int .i64 0, .int .i64 0], .bool false]) ∧ Below w.heap.size w w' := by
  have HCU := Lib.hid (fun W h => cut_no t W h hz)
  go_enter Tryd.func7, Tryd.ntmps7
  go_wp2_with fail
  refine Dr.cut_calls (fun X => Row X w.heap.size 25 [.int .i64 0, .int .i64 0] ∧ Below w.heap.size w X) ⟨Row.new _ _ _, (by repeat' (first | (with_reducible exact Below.refl _ _) | (with_reducible refine Below.alloc ?_ ?_ _) | (with_reducible refine Below.setCell ?_ ?_ _) | (with_reducible refine Below.drew ?_) | (with_reducible refine Below.trans ?_ (Below.mono (by with_reducible assumption) ?_)) | omega | (simp; done) | (simp; omega)))⟩ ?_
  rintro X0 ⟨hr0, hb0⟩
  refine (HCU.out _ (hm.out.to hb0)).mono ?_
  rintro e w1 ⟨⟨p0, q, r, rfl, hp0, hq⟩, hb1⟩
  have HR0 := Lib.hid (hr0.to hb1)
  replace hb1 := hb0.trans (hb1.mono hb0.size)
  have hs1 := hb1.size
  clear hr0 hb0
  go_wp2_with fail
  refine (pre_no p0 _ hp0).mono ?_
  rintro e w2 ⟨⟨p, r2, rfl, hp⟩, rfl⟩
  go_wp2_with fail
  refine (digitsOf_any p _ (by omega)).mono ?_
  rintro e w2 ⟨rfl, hb2⟩
  have HR2 := Lib.hid (HR0.out.to hb2)
  replace hb2 := hb1.trans (hb2.mono hs1)
  have hs2 := hb2.size
  clear HR0 hb1 hs1
  go_wp2_with fail
  refine (digitsOf_any q _ (by omega)).mono ?_
  rintro e w3 ⟨rfl, hb3⟩
  obtain ⟨a, ha⟩ : ∃ a, rdI p = a := ⟨_, rfl⟩
  obtain ⟨s, hs⟩ : ∃ s, rdI q = s := ⟨_, rfl⟩
  rw [ha, hs]
  clear ha hs
  have HR3 := Lib.hid (HR2.out.to hb3)
  replace hb3 := hb2.trans (hb3.mono hs2)
  have hs3 := hb3.size
  clear HR2 hb2 hs2
  go_wp2_with fail
  refine Dr.cut_calls (fun X => Row X w.heap.size 25 [.int .i64 0, .int .i64 0] ∧ Row X w3.heap.size 25 [.int .i64 a, .int .i64 s] ∧ Below w.heap.size w X) ⟨HR3.out.to (by repeat' (first | (with_reducible exact Below.refl _ _) | (with_reducible refine Below.alloc ?_ ?_ _) | (with_reducible refine Below.setCell ?_ ?_ _) | (with_reducible refine Below.drew ?_) | (with_reducible refine Below.trans ?_ (Below.mono (by with_reducible assumption) ?_)) | omega | (simp; done) | (simp; omega))), Row.new _ _ _, (by repeat' (first | (with_reducible exact Below.refl _ _) | (with_reducible refine Below.alloc ?_ ?_ _) | (with_reducible refine Below.setCell ?_ ?_ _) | (with_reducible refine Below.drew ?_) | (with_reducible refine Below.trans ?_ (Below.mono (by with_reducible assumption) ?_)) | omega | (simp; done) | (simp; omega)))⟩ ?_
  rintro X3 ⟨hr3, hx3, hb4⟩
  cases hOK : (inB a 0 1000000 && inB s 0 1000000)
  · refine (iBrineText_no a s _ hOK).mono ?_
    rintro e w4 ⟨rfl, hb5⟩
    replace hr3 := hr3.to hb5
    replace hb5 := hb4.trans (hb5.mono hb4.size)
    have hs5 := hb5.size
    have l0 := hr3.lt
    obtain ⟨c0, c1, f0⟩ := hr3.two
    clear HR3 hb3 hs3 hb4 hr3 hx3
    go_wp2_with fail
    ((try simp only [Exit.inBlock, Exit.then]); refine bodyPost_ret (by simp [results, Tryd.results7, go_sem, *]; try rfl) rfl ?_)
    exact ⟨rfl, (by repeat' (first | (with_reducible exact Below.refl _ _) | (with_reducible refine Below.alloc ?_ ?_ _) | (with_reducible refine Below.setCell ?_ ?_ _) | (with_reducible refine Below.drew ?_) | (with_reducible refine Below.trans ?_ (Below.mono (by with_reducible assumption) ?_)) | omega | (simp; done) | (simp; omega)))⟩
  · have hne := str_ne (s := brS a s) (t := t) (fun e => hno ⟨a, s, hOK, e.symm⟩)
    refine (iBrineText_yes a s _ (Lib.hid (ht.out.to hb4)) hOK).mono ?_
    rintro e w4 ⟨rfl, hb5⟩
    obtain ⟨Z, hZ⟩ : ∃ Z, brS a s = Z := ⟨_, rfl⟩
    rw [hZ] at hne ⊢
    clear hZ
    replace hr3 := hr3.to hb5
    replace hb5 := hb4.trans (hb5.mono hb4.size)
    have hs5 := hb5.size
    have l0 := hr3.lt
    obtain ⟨c0, c1, f0⟩ := hr3.two
    clear HR3 hb3 hs3 hb4 hr3 hx3
    go_wp2_with fail
    ((try simp only [Exit.inBlock, Exit.then]); refine bodyPost_ret (by simp [results, Tryd.results7, go_sem, *]; try rfl) rfl ?_)
    exact ⟨rfl, (by repeat' (first | (with_reducible exact Below.refl _ _) | (with_reducible refine Below.alloc ?_ ?_ _) | (with_reducible refine Below.setCell ?_ ?_ _) | (with_reducible refine Below.drew ?_) | (with_reducible refine Below.trans ?_ (Below.mono (by with_reducible assumption) ?_)) | omega | (simp; done) | (simp; omega)))⟩
end Go.Proofs.YtocaodoagiokjaaDoor
