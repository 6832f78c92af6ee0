/- The draws of the laws over owners (chapter 22), more. -/
import Derived.Test.YtimdnihadhbjpaaDoorOwDraw
set_option linter.unusedSimpArgs false
set_option linter.unusedVariables false
namespace Go.Proofs.YtimdnihadhbjpaaDoor
open Go.RowKit Go.Sort Go.Salt
attribute [local go_sem] cell_rg
theorem ints_take {w : World} {g p L : Nat} {zs : List Int} (h : Row w g 3 (zs.flatMap ie)) (hne : g ≠ p) (hL : L ≤ zs.length) : IntsAt w p (some ⟨g, 0, none⟩) (zs.take L) := by
  refine ⟨g, 0, rfl, h.lt, hne, fun i hi => ?_⟩
  rw [List.length_take] at hi
  obtain ⟨b, o, e, _, hc⟩ := int_cell (h.rd ie_len h.lt) (show i < zs.length by omega)
  cases e
  rw [el_take (by omega) hL]; exact hc
set_option maxRecDepth 100000 in
set_option maxHeartbeats 8000000 in
theorem dDivideCrop_any (A : Option Addr) (n c : Nat) (w : World) (h : Byt w w.heap.size A n) (hn : n ≤ 65536) :
    Calls Tryd.prog 40 #[.slice A n c] w fun e w' => (∃ A' c' xs q, e = .returned (.tuple #[.slice A' (xs : List Ow).length c', .int .i64 q]) ∧ OutO w w' A' c' xs) ∧ Below w.heap.size w w' := by
  have HB := Lib.hid h
  clear h
  go_enter Tryd.func40, Tryd.ntmps40
  go_wp2_with fail
  refine (owners_any w.heap.size A n c 0 _ (cur_new HB.out) hn (by omega)).mono ?_
  rintro e w1 ⟨A', c', xs, rfl, ho, hc', hl, hz, hC1, hG1⟩
  have hb1 : Below w.heap.size w w1 := (show Below w.heap.size w (w.alloc (.cells #[.slice A n c, .int .i64 0, .int .u64 0] 94)) from (by repeat' (first | (with_reducible exact Below.refl _ _) | (with_reducible refine Below.alloc ?_ ?_ _) | (with_reducible refine Below.setCell ?_ ?_ _) | (with_reducible refine Below.drew ?_) | (with_reducible refine Below.trans ?_ (Below.mono (by with_reducible assumption) ?_)) | omega | (simp; done) | (simp; omega)))).trans (grown_below hG1 (Nat.le_refl _) (by simp))
  have ho1 := ho.mono (show w.heap.size + 1 ≤ _ by simp)
  have HO1 := Lib.hid ho1
  have HC1 := Lib.hid hC1
  have HZ := Lib.hid hz
  have HB1 := Lib.hid hb1
  have hs1 := hb1.size
  have hpl : w.heap.size < w1.heap.size := hC1.lt
  clear ho hC1 hG1 ho1 hz hb1
  go_wp2_with fail
  refine (pick_any 24 w.heap.size A n c (0 + 60) _ (HC1.out.to (by repeat' (first | (with_reducible exact Below.refl _ _) | (with_reducible refine Below.alloc ?_ ?_ _) | (with_reducible refine Below.setCell ?_ ?_ _) | (with_reducible refine Below.drew ?_) | (with_reducible refine Below.trans ?_ (Below.mono (by with_reducible assumption) ?_)) | omega | (simp; done) | (simp; omega)))) hn (by omega) (by omega) (by omega)).mono ?_
  rintro e w2 ⟨_, rfl, ⟨z2, rfl, z20, z21⟩, hC2, hG2⟩
  have hr2 : Row w2 w1.heap.size 3 (([0, 1, 2, 7, 59, 100, 999999, 1000000, -1, 1000001] : List Int).flatMap ie) := Row.grown (show Row (w1.alloc (.cells #[.int .i64 0, .int .i64 1, .int .i64 2, .int .i64 7, .int .i64 59, .int .i64 100, .int .i64 999999, .int .i64 1000000, .int .i64 (-1), .int .i64 1000001] 3)) w1.heap.size 3 (([0, 1, 2, 7, 59, 100, 999999, 1000000, -1, 1000001] : List Int).flatMap ie) from Row.new _ _ _) hG2 (by simp; omega)
  have hG2' := only_trans (only_of_below (show Below w1.heap.size w1 (w1.alloc (.cells #[.int .i64 0, .int .i64 1, .int .i64 2, .int .i64 7, .int .i64 59, .int .i64 100, .int .i64 999999, .int .i64 1000000, .int .i64 (-1), .int .i64 1000001] 3)) from (by repeat' (first | (with_reducible exact Below.refl _ _) | (with_reducible refine Below.alloc ?_ ?_ _) | (with_reducible refine Below.setCell ?_ ?_ _) | (with_reducible refine Below.drew ?_) | (with_reducible refine Below.trans ?_ (Below.mono (by with_reducible assumption) ?_)) | omega | (simp; done) | (simp; omega)))) (some w.heap.size)) hG2
  have HC2 := Lib.hid hC2
  have HR2 := Lib.hid hr2
  have HO2 := Lib.hid (own_drawn HO1.out hG2' (by omega))
  have HB2 := Lib.hid (HB1.out.trans (grown_below hG2' (Nat.le_refl _) hs1))
  have hs2 := HB2.out.size
  have hl2 := hr2.lt
  have hne2 : w1.heap.size ≠ w.heap.size := by omega
  obtain ⟨d2, hd2⟩ : ∃ d, z2.tdiv 11 = d := ⟨_, rfl⟩
  have hd2b : 0 ≤ d2 ∧ d2 ≤ 2 := by rw [← hd2, Int.tdiv_eq_ediv_of_nonneg (by omega)]; omega
  obtain ⟨m2, rfl⟩ : ∃ m : Nat, d2 = m := ⟨d2.toNat, by omega⟩
  have hm2 : (8 + (m2 : Int)).toNat = 8 + m2 := by omega
  have hm2l : 8 + m2 ≤ 10 := by omega
  have hm2i : (8 : Int) + (m2 : Int) ≤ 10 := by omega
  have hm20 : (0 : Int) ≤ 8 + (m2 : Int) := by omega
  clear hr2 hC2 hG2 hG2'
  go_wp2_with fail
  have hA2 := among_any (-1) 1000001 (([0, 1, 2, 7, 59, 100, 999999, 1000000, -1, 1000001] : List Int).take (8 + m2)) (some ⟨w1.heap.size, 0, none⟩) 10 w.heap.size A n c (0 + 60 + 2)
  rw [show (([0, 1, 2, 7, 59, 100, 999999, 1000000, -1, 1000001] : List Int).take (8 + m2)).length = 8 + m2 from by rw [List.length_take]; exact Nat.min_eq_left hm2l] at hA2
  refine (hA2 w2 HC2.out hn (by omega) (ints_take HR2.out hne2 hm2l) (by omega) (by omega) (fun i hi => by
    rw [el_take hi (show 8 + m2 ≤ ([0, 1, 2, 7, 59, 100, 999999, 1000000, -1, 1000001] : List Int).length from hm2l)]
    have : ∀ i : Fin 10, (-1 : Int) ≤ el ([0, 1, 2, 7, 59, 100, 999999, 1000000, -1, 1000001] : List Int) i.val ∧ el ([0, 1, 2, 7, 59, 100, 999999, 1000000, -1, 1000001] : List Int) i.val ≤ 1000001 := by decide
    exact this ⟨i, by omega⟩)).mono ?_
  rintro e w3 ⟨_, rfl, ⟨q3, rfl, q30, q31⟩, hC3, hG3⟩
  have HC3 := Lib.hid hC3
  have HO3 := Lib.hid (own_drawn HO2.out hG3 (by omega))
  have HB3 := Lib.hid (HB2.out.trans (grown_below hG3 (Nat.le_refl _) hs2))
  have hs3 := HB3.out.size
  have hl3 := HC3.out.lt
  clear hC3 hG3 hA2
  go_wp2
  go_ret2
  exact ⟨⟨A', c', xs, q3, rfl, HO3.out.mono (by omega), hc', hl, HZ.out⟩, HB3.out⟩
end Go.Proofs.YtimdnihadhbjpaaDoor
