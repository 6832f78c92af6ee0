/- The draw of a brine's text, spoilt or not (chapters 1, 2). -/
import Derived.Test.YtocaodoagiokjaaDoorDrBrn
import Derived.Test.YtocaodoagiokjaaDoorBrnParse
set_option linter.unusedSimpArgs false
set_option linter.unusedVariables false
namespace Go.Proofs.YtocaodoagiokjaaDoor
open Go.RowKit Go.Sort Go.Salt
attribute [local go_sem] cell_rg
def TxV : Value → Prop := fun u => ∃ s : ByteArray, u = .string s ∧ s.size ≤ 100
def BrV : Value → Prop := fun u => ∃ a s : Int, u = .agg #[.int .i64 a, .int .i64 s]
theorem ext_at (s : ByteArray) {i j : Nat} (hj : j ≤ s.size) : (s.extract i j).size = j - i := by rw [ByteArray.size_extract, Nat.min_eq_left hj]
theorem cat3 {x y z : ByteArray} (h1 : x.size ≤ 50) (h2 : y.size ≤ 1) (h3 : z.size ≤ 49) : (x ++ y ++ z).size ≤ 100 := by rw [ByteArray.size_append, ByteArray.size_append]; omega
theorem cat3' {x y z : ByteArray} {n : Nat} (h : x.size + y.size + z.size ≤ n) : (x ++ y ++ z).size ≤ n := by rw [ByteArray.size_append, ByteArray.size_append]; omega
theorem cat2' {x y : ByteArray} {n : Nat} (h : x.size + y.size ≤ n) : (x ++ y).size ≤ n := by rw [ByteArray.size_append]; omega
theorem brine_any (p : Nat) (A : Option Addr) (n c K : Nat) (w : World) (h : Cur w p A n c K) (hn : n ≤ 65536) (hK : K ≤ 999998000) :
    Calls Tryd.prog 30 #[.pointer (some ⟨p, 0, none⟩)] w fun e w' => Drawn BrV w p A n c (K + 10) e w' := by
  refine (brine_con.2 (some ⟨p, A, n, c⟩) w K #[.pointer (some ⟨p, 0, none⟩)] rfl (fun x hx => by cases hx; exact ⟨h.lt, h, hn⟩) (show K + 10 ≤ 999999000 by omega) rfl (fun i av hav => ?_)).mono fun e w' he => ?_
  · match i, hav with
    | 0, hav => obtain rfl : Dr.AV.cur = av := by simpa [brineEnt] using hav
                exact ⟨_, rfl, _, rfl, rfl⟩
    | i + 1, hav => simp [brineEnt] at hav
  · obtain ⟨v, rfl, hv, hc, hg⟩ := he
    have a1 := Dr.one_of hv
    obtain ⟨f, rfl, _⟩ := Dr.agg_of (k := 2) a1
    exact ⟨_, rfl, ⟨f 0, f 1, rfl⟩, hc _ rfl, hg⟩
set_option maxRecDepth 100000 in
set_option maxHeartbeats 8000000 in
theorem spoilt_any (t v : ByteArray) (p : Nat) (A : Option Addr) (n c K : Nat) (w : World) (h : Cur w p A n c K) (hn : n ≤ 65536) (hK : K ≤ 999998000) (ht : 1 ≤ t.size) (ht2 : t.size ≤ 50) (hv : v.size = 6) :
    Calls Tryd.prog 32 #[.pointer (some ⟨p, 0, none⟩), .string t, .string v] w fun e w' => Drawn TxV w p A n c (K + 6) e w' := by
  have HC := Lib.hid h
  have hne := ne_empty (s := t) (by omega)
  have hvI : (v.size : Int) = 6 := by omega
  have HV := Lib.hid hv
  clear h hv
  go_enter Tryd.func32, Tryd.ntmps32
  go_wp2_with fail
  refine (pick_any (t.size : Int) p A n c K _ (HC.out.to (by repeat' (first | (with_reducible exact Below.refl _ _) | (with_reducible refine Below.alloc ?_ ?_ _) | (with_reducible refine Below.setCell ?_ ?_ _) | (with_reducible refine Below.drew ?_) | (with_reducible refine Below.trans ?_ (Below.mono (by with_reducible assumption) ?_)) | omega | (simp; done) | (simp; omega)))) hn (by omega) (by omega) (by omega)).mono ?_
  rintro e w1 ⟨_, rfl, ⟨iI, rfl, i0, i1⟩, hC1, hG1⟩
  obtain ⟨i, rfl⟩ : ∃ i : Nat, iI = i := ⟨iI.toNat, by omega⟩
  have hit : i < t.size := by omega
  have HG1 := Lib.hid (only_trans (only_of_below (show Below w.heap.size w _ from (by repeat' (first | (with_reducible exact Below.refl _ _) | (with_reducible refine Below.alloc ?_ ?_ _) | (with_reducible refine Below.setCell ?_ ?_ _) | (with_reducible refine Below.drew ?_) | (with_reducible refine Below.trans ?_ (Below.mono (by with_reducible assumption) ?_)) | omega | (simp; done) | (simp; omega)))) (some p)) hG1)
  replace HC := Lib.hid hC1
  clear hC1 hG1
  go_wp2_with fail
  refine (pick_any (6 : Int) p A n c (K + 2) _ (HC.out.to (by repeat' (first | (with_reducible exact Below.refl _ _) | (with_reducible refine Below.alloc ?_ ?_ _) | (with_reducible refine Below.setCell ?_ ?_ _) | (with_reducible refine Below.drew ?_) | (with_reducible refine Below.trans ?_ (Below.mono (by with_reducible assumption) ?_)) | omega | (simp; done) | (simp; omega)))) hn (by omega) (by omega) (by omega)).mono ?_
  rintro e w2 ⟨_, rfl, ⟨jI, rfl, j0, j1⟩, hC2, hG2⟩
  obtain ⟨j, rfl⟩ : ∃ j : Nat, jI = j := ⟨jI.toNat, by omega⟩
  have hj : j ≤ v.size := by have := HV.out; omega
  have hw1 : (v.extract j v.size).size = v.size - j := ext_at v (Nat.le_refl _)
  have hw1I : (1 : Int) ≤ (v.extract j v.size).size := by have := HV.out; omega
  have HG2 := Lib.hid (only_trans HG1.out (only_trans (only_of_below (show Below w1.heap.size w1 _ from (by repeat' (first | (with_reducible exact Below.refl _ _) | (with_reducible refine Below.alloc ?_ ?_ _) | (with_reducible refine Below.setCell ?_ ?_ _) | (with_reducible refine Below.drew ?_) | (with_reducible refine Below.trans ?_ (Below.mono (by with_reducible assumption) ?_)) | omega | (simp; done) | (simp; omega)))) (some p)) hG2))
  replace HC := Lib.hid hC2
  clear hC2 hG2 HG1
  have hw2 : ((v.extract j v.size).extract 0 1).size ≤ 1 := by rw [ByteArray.size_extract]; omega
  obtain ⟨x, hx⟩ : ∃ x, (v.extract j v.size).extract 0 1 = x := ⟨_, rfl⟩
  go_wp2_with fail
  rw [hx] at hw2
  clear hx
  refine (pick_any (3 : Int) p A n c (K + 2 + 2) _ (HC.out.to (by repeat' (first | (with_reducible exact Below.refl _ _) | (with_reducible refine Below.alloc ?_ ?_ _) | (with_reducible refine Below.setCell ?_ ?_ _) | (with_reducible refine Below.drew ?_) | (with_reducible refine Below.trans ?_ (Below.mono (by with_reducible assumption) ?_)) | omega | (simp; done) | (simp; omega)))) hn (by omega) (by omega) (by omega)).mono ?_
  rintro e w3 ⟨_, rfl, ⟨kI, rfl, k0, k1⟩, hC3, hG3⟩
  have HG3 := Lib.hid (only_trans HG2.out (only_trans (only_of_below (show Below w2.heap.size w2 _ from (by repeat' (first | (with_reducible exact Below.refl _ _) | (with_reducible refine Below.alloc ?_ ?_ _) | (with_reducible refine Below.setCell ?_ ?_ _) | (with_reducible refine Below.drew ?_) | (with_reducible refine Below.trans ?_ (Below.mono (by with_reducible assumption) ?_)) | omega | (simp; done) | (simp; omega)))) (some p)) hG3))
  replace HC := Lib.hid hC3
  clear hC3 hG3 HG2 hw1 hw1I HV
  have z0 : (t.extract 0 i).size = i := by rw [ext_at t (by omega)]; omega
  have z1 : (t.extract i t.size).size = t.size - i := ext_at t (Nat.le_refl _)
  have z2 : (t.extract (i + 1) t.size).size = t.size - (i + 1) := ext_at t (Nat.le_refl _)
  have hiI : (i : Int) ≤ t.size := by omega
  have hiI1 : (i : Int) + 1 ≤ t.size := by omega
  have hiI0 : (0 : Int) ≤ i := by omega
  have tn1 : ((i : Int) + 1).toNat = i + 1 := by omega
  rcases (show kI = 0 ∨ kI = 1 ∨ kI = 2 by omega) with rfl | rfl | rfl
  · have hz : (t.extract 0 i ++ x ++ t.extract i t.size).size ≤ 100 := cat3' (by omega)
    go_wp2_with fail
    refine wp_region_quiet_below (by kernel_rfl) (by kernel_rfl) ?_
    repeat (go_big_quiet_step (fail))
    (refine wpQuiet_nil ?_; intro w1 hwq; have hb1 := of_cls hwq; clear hwq)
    (have hs1 := hb1.size; (try simp at hs1); obtain ⟨hc1, hf1, hn1⟩ := bcell hb1; (try have hz1_w_0 : w.heap.size < w1.heap.size := by omega); (try have hz1_w_1 : w.heap.size + 1 < w1.heap.size := by omega); (try have hz1_w_2 : w.heap.size + 2 < w1.heap.size := by omega); (try have hz1_w_2b : w.heap.size + 1 + 1 < w1.heap.size := by omega))
    go_wp2_with fail
    go_ret
    exact ⟨_, rfl, ⟨_, rfl, hz⟩, (HC.out.to (by repeat' (first | (with_reducible exact Below.refl _ _) | (with_reducible refine Below.alloc ?_ ?_ _) | (with_reducible refine Below.setCell ?_ ?_ _) | (with_reducible refine Below.drew ?_) | (with_reducible refine Below.trans ?_ (Below.mono (by with_reducible assumption) ?_)) | omega | (simp; done) | (simp; omega)))).le (by omega), only_to HG3.out (by repeat' (first | (with_reducible exact Below.refl _ _) | (with_reducible refine Below.alloc ?_ ?_ _) | (with_reducible refine Below.setCell ?_ ?_ _) | (with_reducible refine Below.drew ?_) | (with_reducible refine Below.trans ?_ (Below.mono (by with_reducible assumption) ?_)) | omega | (simp; done) | (simp; omega)))⟩
  · have hz : (t.extract 0 i ++ x ++ t.extract (i + 1) t.size).size ≤ 100 := cat3' (by omega)
    go_wp2_with fail
    refine wp_region_quiet_below (by kernel_rfl) (by kernel_rfl) ?_
    repeat (go_big_quiet_step (fail))
    (refine wpQuiet_nil ?_; intro w2 hwq; have hb2 := of_cls hwq; clear hwq)
    (have hs2 := hb2.size; (try simp at hs2); obtain ⟨hc2, hf2, hn2⟩ := bcell hb2; (try have hz2_w_0 : w.heap.size < w2.heap.size := by omega); (try have hz2_w_1 : w.heap.size + 1 < w2.heap.size := by omega); (try have hz2_w_2 : w.heap.size + 2 < w2.heap.size := by omega); (try have hz2_w_2b : w.heap.size + 1 + 1 < w2.heap.size := by omega); (try have hz2_w1_0 : w1.heap.size < w2.heap.size := by omega); (try have hz2_w1_1 : w1.heap.size + 1 < w2.heap.size := by omega); (try have hz2_w1_2 : w1.heap.size + 2 < w2.heap.size := by omega); (try have hz2_w1_2b : w1.heap.size + 1 + 1 < w2.heap.size := by omega))
    go_wp2_with fail
    go_ret
    exact ⟨_, rfl, ⟨_, rfl, hz⟩, (HC.out.to (by repeat' (first | (with_reducible exact Below.refl _ _) | (with_reducible refine Below.alloc ?_ ?_ _) | (with_reducible refine Below.setCell ?_ ?_ _) | (with_reducible refine Below.drew ?_) | (with_reducible refine Below.trans ?_ (Below.mono (by with_reducible assumption) ?_)) | omega | (simp; done) | (simp; omega)))).le (by omega), only_to HG3.out (by repeat' (first | (with_reducible exact Below.refl _ _) | (with_reducible refine Below.alloc ?_ ?_ _) | (with_reducible refine Below.setCell ?_ ?_ _) | (with_reducible refine Below.drew ?_) | (with_reducible refine Below.trans ?_ (Below.mono (by with_reducible assumption) ?_)) | omega | (simp; done) | (simp; omega)))⟩
  · have hz : (t.extract 0 i ++ t.extract (i + 1) t.size).size ≤ 100 := cat2' (by omega)
    go_wp2_with fail
    refine wp_region_quiet_below (by kernel_rfl) (by kernel_rfl) ?_
    repeat (go_big_quiet_step (fail))
    (refine wpQuiet_nil ?_; intro w3 hwq; have hb3 := of_cls hwq; clear hwq)
    (have hs3 := hb3.size; (try simp at hs3); obtain ⟨hc3, hf3, hn3⟩ := bcell hb3; (try have hz3_w_0 : w.heap.size < w3.heap.size := by omega); (try have hz3_w_1 : w.heap.size + 1 < w3.heap.size := by omega); (try have hz3_w_2 : w.heap.size + 2 < w3.heap.size := by omega); (try have hz3_w_2b : w.heap.size + 1 + 1 < w3.heap.size := by omega); (try have hz3_w1_0 : w1.heap.size < w3.heap.size := by omega); (try have hz3_w1_1 : w1.heap.size + 1 < w3.heap.size := by omega); (try have hz3_w1_2 : w1.heap.size + 2 < w3.heap.size := by omega); (try have hz3_w1_2b : w1.heap.size + 1 + 1 < w3.heap.size := by omega); (try have hz3_w2_0 : w2.heap.size < w3.heap.size := by omega); (try have hz3_w2_1 : w2.heap.size + 1 < w3.heap.size := by omega); (try have hz3_w2_2 : w2.heap.size + 2 < w3.heap.size := by omega); (try have hz3_w2_2b : w2.heap.size + 1 + 1 < w3.heap.size := by omega))
    go_wp2_with fail
    go_ret
    exact ⟨_, rfl, ⟨_, rfl, hz⟩, (HC.out.to (by repeat' (first | (with_reducible exact Below.refl _ _) | (with_reducible refine Below.alloc ?_ ?_ _) | (with_reducible refine Below.setCell ?_ ?_ _) | (with_reducible refine Below.drew ?_) | (with_reducible refine Below.trans ?_ (Below.mono (by with_reducible assumption) ?_)) | omega | (simp; done) | (simp; omega)))).le (by omega), only_to HG3.out (by repeat' (first | (with_reducible exact Below.refl _ _) | (with_reducible refine Below.alloc ?_ ?_ _) | (with_reducible refine Below.setCell ?_ ?_ _) | (with_reducible refine Below.drew ?_) | (with_reducible refine Below.trans ?_ (Below.mono (by with_reducible assumption) ?_)) | omega | (simp; done) | (simp; omega)))⟩
/-- A new cursor. -/
theorem cur_new {w : World} {A : Option Addr} {n c : Nat} (h : Byt w w.heap.size A n) : Cur (w.alloc (.cells #[.slice A n c, .int .i64 0, .int .u64 0] 53)) w.heap.size A n c 0 :=
  ⟨h.below (Below.alloc (Below.refl _ _) (Nat.le_refl _) _), 0, 0, Nat.le_refl _, Row.new _ _ _⟩
set_option maxRecDepth 100000 in
set_option maxHeartbeats 8000000 in
theorem dParse_any (A : Option Addr) (n c : Nat) (w : World) (h : Byt w w.heap.size A n) (hn : n ≤ 65536) :
    Calls Tryd.prog 10 #[.slice A n c] w fun e w' => (∃ s : ByteArray, e = .returned (.string s) ∧ s.size ≤ 100) ∧ Below w.heap.size w w' := by
  have HC := Lib.hid (cur_new (c := c) h)
  clear h
  go_enter Tryd.func10, Tryd.ntmps10
  go_wp2_with fail
  refine (brine_any w.heap.size A n c 0 _ (HC.out.to (by repeat' (first | (with_reducible exact Below.refl _ _) | (with_reducible refine Below.alloc ?_ ?_ _) | (with_reducible refine Below.setCell ?_ ?_ _) | (with_reducible refine Below.drew ?_) | (with_reducible refine Below.trans ?_ (Below.mono (by with_reducible assumption) ?_)) | omega | (simp; done) | (simp; omega)))) hn (by omega)).mono ?_
  rintro e w1 ⟨_, rfl, ⟨a, s, rfl⟩, hC1, hG1⟩
  have HB := Lib.hid ((show Below w.heap.size w (w.alloc (.cells #[.slice A n c, .int .i64 0, .int .u64 0] 53)) from (by repeat' (first | (with_reducible exact Below.refl _ _) | (with_reducible refine Below.alloc ?_ ?_ _) | (with_reducible refine Below.setCell ?_ ?_ _) | (with_reducible refine Below.drew ?_) | (with_reducible refine Below.trans ?_ (Below.mono (by with_reducible assumption) ?_)) | omega | (simp; done) | (simp; omega)))).trans (grown_below hG1 (Nat.le_refl _) (by simp)))
  replace HC := Lib.hid hC1
  have hs1 := HB.out.size
  have l1 := HC.out.lt
  clear hC1 hG1
  go_wp2_with fail
  refine Dr.cut_calls (fun X => Row X w1.heap.size 25 [.int .i64 a, .int .i64 s] ∧ Hid (Cur X w.heap.size A n c (0 + 10)) ∧ Hid (Below w.heap.size w X)) ⟨Row.new _ _ _, Lib.hid (HC.out.to (by repeat' (first | (with_reducible exact Below.refl _ _) | (with_reducible refine Below.alloc ?_ ?_ _) | (with_reducible refine Below.setCell ?_ ?_ _) | (with_reducible refine Below.drew ?_) | (with_reducible refine Below.trans ?_ (Below.mono (by with_reducible assumption) ?_)) | omega | (simp; done) | (simp; omega)))), Lib.hid (HB.out.trans (show Below w.heap.size w1 _ from (by repeat' (first | (with_reducible exact Below.refl _ _) | (with_reducible refine Below.alloc ?_ ?_ _) | (with_reducible refine Below.setCell ?_ ?_ _) | (with_reducible refine Below.drew ?_) | (with_reducible refine Below.trans ?_ (Below.mono (by with_reducible assumption) ?_)) | omega | (simp; done) | (simp; omega)))))⟩ ?_
  clear HC HB
  rintro X2 ⟨hx, HC, HB⟩
  refine (l2Brine_any a s _).mono ?_
  rintro e w2 ⟨rfl, hb2⟩
  replace hx := hx.to hb2
  replace HC := Lib.hid (HC.out.to hb2)
  replace HB := Lib.hid (HB.out.trans (hb2.mono HB.out.size))
  clear hb2
  obtain ⟨d0, d1, f1⟩ := hx.two
  have l2 := hx.lt
  have hs2 := HB.out.size
  have lc := HC.out.lt
  clear hx
  cases hOK : (inB a 0 1000000 && inB s 0 1000000)
  · clear hOK
    go_wp2_with fail
    refine (one_any 4 w.heap.size A n c (0 + 10) _ (HC.out.to (by repeat' (first | (with_reducible exact Below.refl _ _) | (with_reducible refine Below.alloc ?_ ?_ _) | (with_reducible refine Below.setCell ?_ ?_ _) | (with_reducible refine Below.drew ?_) | (with_reducible refine Below.trans ?_ (Below.mono (by with_reducible assumption) ?_)) | omega | (simp; done) | (simp; omega)))) hn (by omega) (by omega) (by omega)).mono ?_
    rintro e w4 ⟨_, rfl, ⟨bb, rfl⟩, hC4, hG4⟩
    have HB4 := Lib.hid (HB.out.trans (grown_below (only_trans (only_of_below (show Below w2.heap.size w2 _ from (by repeat' (first | (with_reducible exact Below.refl _ _) | (with_reducible refine Below.alloc ?_ ?_ _) | (with_reducible refine Below.setCell ?_ ?_ _) | (with_reducible refine Below.drew ?_) | (with_reducible refine Below.trans ?_ (Below.mono (by with_reducible assumption) ?_)) | omega | (simp; done) | (simp; omega)))) (some w.heap.size)) hG4) (Nat.le_refl _) (by omega)))
    have HC4 := Lib.hid hC4
    have hs4 := HB4.out.size
    clear hC4 hG4
    cases bb
    · go_wp2_with fail
      go_ret
      exact ⟨⟨_, rfl, by first | decide | omega⟩, HB4.out⟩
    · go_wp2_with fail
      refine (spoilt_any ⟨#[119, 57, 48, 48, 32, 115, 49, 48, 48]⟩ ⟨#[119, 115, 32, 48, 49, 57]⟩ w.heap.size A n c (0 + 10 + 2) _ (HC4.out.to (by repeat' (first | (with_reducible exact Below.refl _ _) | (with_reducible refine Below.alloc ?_ ?_ _) | (with_reducible refine Below.setCell ?_ ?_ _) | (with_reducible refine Below.drew ?_) | (with_reducible refine Below.trans ?_ (Below.mono (by with_reducible assumption) ?_)) | omega | (simp; done) | (simp; omega)))) hn (by omega) (by first | decide | omega) (by first | decide | omega) rfl).mono ?_
      rintro e w5 ⟨_, rfl, ⟨S, rfl, hS⟩, hC5, hG5⟩
      have HB5 := Lib.hid (HB4.out.trans (grown_below (only_trans (only_of_below (show Below w4.heap.size w4 _ from (by repeat' (first | (with_reducible exact Below.refl _ _) | (with_reducible refine Below.alloc ?_ ?_ _) | (with_reducible refine Below.setCell ?_ ?_ _) | (with_reducible refine Below.drew ?_) | (with_reducible refine Below.trans ?_ (Below.mono (by with_reducible assumption) ?_)) | omega | (simp; done) | (simp; omega)))) (some w.heap.size)) hG5) (Nat.le_refl _) (by omega)))
      clear hC5 hG5
      go_wp2_with fail
      go_ret
      exact ⟨⟨S, rfl, hS⟩, HB5.out⟩
  · have hp := hOK
    simp only [Bool.and_eq_true, inB_iff] at hp
    obtain ⟨⟨ha0, ha1⟩, hs0, hs1'⟩ := hp
    have za := brS_size (a := a) (s := s) (by omega) (by omega)
    have zb : 1 ≤ (brS a s).size := by rw [← ba_size, brS_list]; simp
    have HTX := Lib.hid (fun W => l2Text_any a s W ha0 ha1 hs0 hs1')
    obtain ⟨Z, hZ⟩ : ∃ Z, brS a s = Z := ⟨_, rfl⟩
    rw [hZ] at za zb HTX
    clear hZ hOK
    go_wp2_with fail
    refine (HTX.out _).mono ?_
    rintro e w3 ⟨rfl, hb3⟩
    replace HC := Lib.hid (HC.out.to hb3)
    replace HB := Lib.hid (HB.out.trans (hb3.mono HB.out.size))
    have hs3 := HB.out.size
    replace lc := HC.out.lt
    clear d0 d1 f1 l2 hs2 hb3
    go_wp2_with fail
    refine (one_any 4 w.heap.size A n c (0 + 10) _ (HC.out.to (by repeat' (first | (with_reducible exact Below.refl _ _) | (with_reducible refine Below.alloc ?_ ?_ _) | (with_reducible refine Below.setCell ?_ ?_ _) | (with_reducible refine Below.drew ?_) | (with_reducible refine Below.trans ?_ (Below.mono (by with_reducible assumption) ?_)) | omega | (simp; done) | (simp; omega)))) hn (by omega) (by omega) (by omega)).mono ?_
    rintro e w4 ⟨_, rfl, ⟨bb, rfl⟩, hC4, hG4⟩
    have HB4 := Lib.hid (HB.out.trans (grown_below (only_trans (only_of_below (show Below w3.heap.size w3 _ from (by repeat' (first | (with_reducible exact Below.refl _ _) | (with_reducible refine Below.alloc ?_ ?_ _) | (with_reducible refine Below.setCell ?_ ?_ _) | (with_reducible refine Below.drew ?_) | (with_reducible refine Below.trans ?_ (Below.mono (by with_reducible assumption) ?_)) | omega | (simp; done) | (simp; omega)))) (some w.heap.size)) hG4) (Nat.le_refl _) (by omega)))
    have HC4 := Lib.hid hC4
    have hs4 := HB4.out.size
    clear hC4 hG4
    cases bb
    · go_wp2_with fail
      go_ret
      exact ⟨⟨_, rfl, by first | decide | omega⟩, HB4.out⟩
    · go_wp2_with fail
      refine (spoilt_any Z ⟨#[119, 115, 32, 48, 49, 57]⟩ w.heap.size A n c (0 + 10 + 2) _ (HC4.out.to (by repeat' (first | (with_reducible exact Below.refl _ _) | (with_reducible refine Below.alloc ?_ ?_ _) | (with_reducible refine Below.setCell ?_ ?_ _) | (with_reducible refine Below.drew ?_) | (with_reducible refine Below.trans ?_ (Below.mono (by with_reducible assumption) ?_)) | omega | (simp; done) | (simp; omega)))) hn (by omega) (by first | decide | omega) (by first | decide | omega) rfl).mono ?_
      rintro e w5 ⟨_, rfl, ⟨S, rfl, hS⟩, hC5, hG5⟩
      have HB5 := Lib.hid (HB4.out.trans (grown_below (only_trans (only_of_below (show Below w4.heap.size w4 _ from (by repeat' (first | (with_reducible exact Below.refl _ _) | (with_reducible refine Below.alloc ?_ ?_ _) | (with_reducible refine Below.setCell ?_ ?_ _) | (with_reducible refine Below.drew ?_) | (with_reducible refine Below.trans ?_ (Below.mono (by with_reducible assumption) ?_)) | omega | (simp; done) | (simp; omega)))) (some w.heap.size)) hG5) (Nat.le_refl _) (by omega)))
      clear hC5 hG5
      go_wp2_with fail
      go_ret
      exact ⟨⟨S, rfl, hS⟩, HB5.out⟩
end Go.Proofs.YtocaodoagiokjaaDoor
