/- Contracts: the order of need of breaks; the library's stable sort of few numbers (chapter 23). -/
import Derived.Test.YtakjfkbfibcbcaaDoorNeedMath
import Derived.Test.YtakjfkbfibcbcaaDoorFree
import Derived.Test.YtakjfkbfibcbcaaDoorMend
set_option linter.unusedSimpArgs false
set_option linter.unusedVariables false
namespace Go.Proofs.YtakjfkbfibcbcaaDoor
open Go.RowKit Go.Sort Go.Salt
attribute [local go_sem] cell_rg
set_option maxHeartbeats 1000000 in
theorem compare_any (a b : Int) (w : World) : Calls Tryd.prog 60 #[.int .i64 a, .int .i64 b] w fun e w' => e = .returned (.int .i64 (cmpI a b)) ∧ w = w' := by
  have hnan : ∀ (x : Int) (W : World), Calls Tryd.prog 68 #[.int .i64 x] W fun e w' => e = .returned (.bool false) ∧ W = w' := by
    intro x W
    go_enter Tryd.func68, Tryd.ntmps68
    go_wp2
    go_ret
    exact ⟨rfl, rfl⟩
  replace hnan := Lib.hid hnan
  rcases cmpI_or a b with ⟨e, h⟩ | ⟨e, h⟩ | ⟨e, h⟩ <;> rw [e]
  · go_enter Tryd.func60, Tryd.ntmps60
    go_wp2_with (first | (go_at_call 68; refine (hnan.out _ _).mono ?_; rintro e wX ⟨rfl, rfl⟩))
    go_ret
    exact ⟨rfl, rfl⟩
  · have h' : ¬ a < b := by omega
    go_enter Tryd.func60, Tryd.ntmps60
    go_wp2_with (first | (go_at_call 68; refine (hnan.out _ _).mono ?_; rintro e wX ⟨rfl, rfl⟩))
    go_ret
    exact ⟨rfl, rfl⟩
  · have h' : ¬ a < b := by omega
    have h'' : ¬ b < a := by omega
    clear h
    go_enter Tryd.func60, Tryd.ntmps60
    go_wp2_with (first | (go_at_call 68; refine (hnan.out _ _).mono ?_; rintro e wX ⟨rfl, rfl⟩))
    go_ret
    exact ⟨rfl, rfl⟩
theorem brk_two {w : World} {B : Nat} {A : Option Addr} {xs : List Brk} (h : Rd w B A 6 Brk.enc xs) {i j : Nat} (hi : i < xs.length) (hj : j < xs.length) :
    ∃ b o, A = some ⟨b, o, none⟩ ∧ b < B ∧ (w.cell? ⟨b, o + i * 6 + 3, none⟩ = some (.int .i64 (el xs i).g) ∧ w.cell? ⟨b, o + i * 6 + 4, none⟩ = some (.int .i64 (el xs i).t)) ∧ (w.cell? ⟨b, o + j * 6 + 3, none⟩ = some (.int .i64 (el xs j).g) ∧ w.cell? ⟨b, o + j * 6 + 4, none⟩ = some (.int .i64 (el xs j).t)) := by
  obtain ⟨b, o, e, hb, _, _, _, c3, c4, _⟩ := brk_cells h hi
  obtain ⟨b', o', e', _, _, _, _, d3, d4, _⟩ := brk_cells h hj
  rw [e] at e'
  simp at e'
  obtain ⟨rfl, rfl⟩ := e'
  exact ⟨b, o, e, hb, ⟨c3, c4⟩, d3, d4⟩
set_option maxHeartbeats 4000000 in
theorem need1_any (A : Option Addr) (c L : Nat) (xs : List Brk) (i j : Nat) (w : World) (h : Rd w w.heap.size A 6 Brk.enc xs) (hL : w.cell? ⟨L, 0, none⟩ = some (.slice A xs.length c)) (hi : i < xs.length) (hj : j < xs.length) (hx : xs.length ≤ 1048576) :
    Calls Tryd.prog 59 #[.int .i64 i, .int .i64 j, .pointer (some ⟨L, 0, none⟩)] w fun e w' => e = .returned (.int .i64 (cmpN xs i j)) ∧ Below w.heap.size w w' := by
  have hLl := block_lt_of_cell hL
  have hLl' : L < w.heap.size := hLl
  obtain ⟨b, o, rfl, hB, ⟨c3, c4⟩, d3, d4⟩ := brk_two h hi hj
  have hI : (i : Int) < xs.length := by omega
  have hI0 : (0 : Int) ≤ i := by omega
  have hJ : (j : Int) < xs.length := by omega
  have hJ0 : (0 : Int) ≤ j := by omega
  obtain ⟨z, hz⟩ : ∃ z, cmpI (el xs j).g (el xs i).g = z := ⟨_, rfl⟩
  have hcg : ∀ W, Calls Tryd.prog 60 #[.int .i64 (el xs j).g, .int .i64 (el xs i).g] W fun e w' => e = .returned (.int .i64 z) ∧ W = w' := fun W => by rw [← hz]; exact compare_any _ _ W
  replace hcg := Lib.hid hcg
  have ht := Lib.hid (fun W => compare_any (el xs i).t (el xs j).t W)
  clear hLl
  cases hz0 : (z != 0)
  · have HE := Lib.hid (show cmpN xs i j = cmpI (el xs i).t (el xs j).t by
      unfold cmpN; rw [hz]; have : z = 0 := by simpa using hz0
      rw [this]; rfl)
    clear hz
    go_enter Tryd.func59, Tryd.ntmps59
    go_wp2_with fail
    refine wp_region_below_tail 11 (by kernel_rfl) (by kernel_rfl) ?_
    simp only [List.take_succ_cons, List.take_zero, List.drop_succ_cons, List.drop_zero]
    repeat (go_big_quiet_step ((go_at_call 60; exact Calls.regrown_of (same_below (hcg.out _)))))
    (refine wpQuiet_nil ?_; intro w1 hwq; have hb1 := of_cls hwq; clear hwq)
    (have hs1 := hb1.size; (try simp at hs1); obtain ⟨hc1, hf1, hn1⟩ := bcell hb1; (try have hz1_w_0 : w.heap.size < w1.heap.size := by omega); (try have hz1_w_1 : w.heap.size + 1 < w1.heap.size := by omega); (try have hz1_w_2 : w.heap.size + 2 < w1.heap.size := by omega); (try have hz1_w_2b : w.heap.size + 1 + 1 < w1.heap.size := by omega))
    go_wp2_with fail
    refine wp_region_below_tail 11 (by kernel_rfl) (by kernel_rfl) ?_
    simp only [List.take_succ_cons, List.take_zero, List.drop_succ_cons, List.drop_zero]
    repeat (go_big_quiet_step ((go_at_call 60; exact Calls.regrown_of (same_below (ht.out _)))))
    (refine wpQuiet_nil ?_; intro w2 hwq; have hb2 := of_cls hwq; clear hwq)
    (have hs2 := hb2.size; (try simp at hs2); obtain ⟨hc2, hf2, hn2⟩ := bcell hb2; (try have hz2_w_0 : w.heap.size < w2.heap.size := by omega); (try have hz2_w_1 : w.heap.size + 1 < w2.heap.size := by omega); (try have hz2_w_2 : w.heap.size + 2 < w2.heap.size := by omega); (try have hz2_w_2b : w.heap.size + 1 + 1 < w2.heap.size := by omega); (try have hz2_w1_0 : w1.heap.size < w2.heap.size := by omega); (try have hz2_w1_1 : w1.heap.size + 1 < w2.heap.size := by omega); (try have hz2_w1_2 : w1.heap.size + 2 < w2.heap.size := by omega); (try have hz2_w1_2b : w1.heap.size + 1 + 1 < w2.heap.size := by omega))
    go_wp2_with fail
    go_ret
    exact ⟨by rw [HE.out]; rfl, (by repeat' (first | (with_reducible exact Below.refl _ _) | (with_reducible refine Below.alloc ?_ ?_ _) | (with_reducible refine Below.setCell ?_ ?_ _) | (with_reducible refine Below.drew ?_) | (with_reducible refine Below.trans ?_ (Below.mono (by with_reducible assumption) ?_)) | omega | (simp; done) | (simp; omega)))⟩
  · have HE := Lib.hid (show cmpN xs i j = z by
      unfold cmpN; rw [hz]; have : z ≠ 0 := by simpa using hz0
      rw [if_pos this])
    clear hz ht
    go_enter Tryd.func59, Tryd.ntmps59
    go_wp2_with fail
    refine wp_region_below_tail 11 (by kernel_rfl) (by kernel_rfl) ?_
    simp only [List.take_succ_cons, List.take_zero, List.drop_succ_cons, List.drop_zero]
    repeat (go_big_quiet_step ((go_at_call 60; exact Calls.regrown_of (same_below (hcg.out _)))))
    (refine wpQuiet_nil ?_; intro w1 hwq; have hb1 := of_cls hwq; clear hwq)
    (have hs1 := hb1.size; (try simp at hs1); obtain ⟨hc1, hf1, hn1⟩ := bcell hb1; (try have hz1_w_0 : w.heap.size < w1.heap.size := by omega); (try have hz1_w_1 : w.heap.size + 1 < w1.heap.size := by omega); (try have hz1_w_2 : w.heap.size + 2 < w1.heap.size := by omega); (try have hz1_w_2b : w.heap.size + 1 + 1 < w1.heap.size := by omega))
    go_wp2_with fail
    go_ret
    exact ⟨by rw [HE.out]; rfl, (by repeat' (first | (with_reducible exact Below.refl _ _) | (with_reducible refine Below.alloc ?_ ?_ _) | (with_reducible refine Below.setCell ?_ ?_ _) | (with_reducible refine Below.drew ?_) | (with_reducible refine Below.trans ?_ (Below.mono (by with_reducible assumption) ?_)) | omega | (simp; done) | (simp; omega)))⟩
/-- Numbers of breaks, as cells. -/
def natVals (l : List Nat) : List Value := l.map fun (k : Nat) => .int .i64 (k : Int)
theorem natVals_len (l : List Nat) : (natVals l).length = l.length := by simp [natVals]
theorem natVals_cell {w : World} {g : Nat} {E : TypeId} {l : List Nat} (h : Row w g E (natVals l)) {j : Nat} (hj : j < l.length) : w.cell? ⟨g, j, none⟩ = some (.int .i64 ((el l j : Nat) : Int)) := by
  have := h.cell (j := j) (by rw [natVals_len]; exact hj)
  rw [this]; simp [natVals, el, hj]
theorem natVals_swp (l : List Nat) (j : Nat) : ((natVals l).set (j + 1) (.int .i64 ((el l j : Nat) : Int))).set j (.int .i64 ((el l (j + 1) : Nat) : Int)) = natVals (swp l j) := by
  simp [natVals, swp, List.map_set]
theorem el_swp {l : List Nat} {n j : Nat} (h : ∀ i, i < l.length → el l i < n) (hj : j + 1 < l.length) : ∀ i, i < (swp l j).length → el (swp l j) i < n := fun i hi => by
  have hm := el_mem hi
  have hi' : i < l.length := by rwa [swp_len] at hi
  rw [swp] at hm
  rcases List.mem_or_eq_of_mem_set hm with hm | hm
  · rcases List.mem_or_eq_of_mem_set hm with hm | hm
    · obtain ⟨k, hk, hke⟩ := List.mem_iff_getElem.1 hm
      have := h k hk
      rw [el_get hk, hke] at this
      exact this
    · rw [← swp] at hm; rw [hm]; exact h j (by omega)
  · rw [← swp] at hm; rw [hm]; exact h (j + 1) hj
theorem only_to' {a w w' : World} {row : Option Nat} (h : a.grownBy w row) (hb : Below w.heap.size w w') : a.grownBy w' row :=
  ⟨hb.os.trans h.os, hb.tape.trans h.tape, hb.output.trans h.output, Nat.le_trans h.size hb.size, fun i hi hn => (hb.block i (Nat.lt_of_lt_of_le hi h.size)).trans (h.block i hi hn)⟩
set_option maxRecDepth 100000 in
set_option maxHeartbeats 16000000 in
theorem insSort_row (A : Option Addr) (c L B g cp : Nat) (xs : List Brk) (ns : List Nat) (w : World) (hR : Rd w B A 6 Brk.enc xs) (hL : w.cell? ⟨L, 0, none⟩ = some (.slice A xs.length c)) (hLB : L < B) (hg : B ≤ g) (hB : B ≤ w.heap.size) (hrow : Row w g 3 (natVals ns)) (hns : ∀ i, i < ns.length → el ns i < xs.length) (hx : xs.length ≤ 1048576) (hn : ns.length ≤ 1048576) (hn1 : 1 ≤ ns.length) :
    Calls Tryd.prog 72 #[.slice (some ⟨g, 0, none⟩) ns.length cp, .int .i64 0, .int .i64 ns.length, .func (.func 59) #[] #[.pointer (some ⟨L, 0, none⟩)]] w fun e w' => e = .returned (.tuple #[]) ∧ Row w' g 3 (natVals (insTo (ahead xs) ns ns.length)) ∧ w.grownBy w' (some g) := by
  have hBw : ∀ W : World, w.grownBy W (some g) → Below B w W := fun W h => grown_below h hg hB
  replace hBw := Lib.hid hBw
  have hcl : Hid (∀ (W : World) (i j : Nat), Below B w W → i < xs.length → j < xs.length → Calls Tryd.prog 59 #[.int .i64 i, .int .i64 j, .pointer (some ⟨L, 0, none⟩)] W fun e w' => e = .returned (.int .i64 (cmpN xs i j)) ∧ Below W.heap.size W w') :=
    Lib.hid (fun W i j hb hi hj => need1_any A c L xs i j W ((hR.below hb).more (Nat.le_trans hB hb.size)) ((hb.cell (p := ⟨L, 0, none⟩) hLB).trans hL) hi hj hx)
  have hrow0 := Lib.hid hrow
  replace hns := Lib.hid hns
  clear hrow hL hR
  go_enter Tryd.func72, Tryd.ntmps72
  go_wp2
  go_loopw [8, 9] (fun i _ wr => ∃ k : Nat, 1 ≤ k ∧ k ≤ ns.length ∧ i = .int .i64 k ∧ Hid (Row wr g 3 (natVals (insTo (ahead xs) ns k))) ∧ (∀ i, i < (insTo (ahead xs) ns k).length → el (insTo (ahead xs) ns k) i < xs.length) ∧ w.grownBy wr (some g)) (fun i _ _ => ns.length - (intOf i).toNat)
  case atStart => exact ⟨1, Nat.le_refl _, hn1, rfl, hrow0.out, hns.out, World.grownBy.refl _ _⟩
  case round =>
    obtain ⟨k, hk1, hk, rfl, hrow, hmem, hgw⟩ := hrel
    have hsw := hgw.size
    by_cases hlt : k < ns.length
    · have hI : (k : Int) < ns.length := by omega
      have hI0 : (0 : Int) ≤ k := by omega
      replace hgw := Lib.hid hgw
      replace hmem := Lib.hid hmem
      obtain ⟨wo, rfl⟩ : ∃ wo : World, wo = wr := ⟨_, rfl⟩
      go_wp2
      go_loopw [9] (fun jx wr => ∃ (j : Nat) (l : List Nat), j ≤ k ∧ jx = .int .i64 j ∧ l.length = ns.length ∧ insAt (ahead xs) l j = insTo (ahead xs) ns (k + 1) ∧ Hid (∀ i, i < l.length → el l i < xs.length) ∧ Hid (Row wr g 3 (natVals l)) ∧ w.grownBy wr (some g)) (fun jx _ => (intOf jx).toNat)
      case atStart => exact ⟨k, _, Nat.le_refl _, rfl, insTo_len _ _ _, rfl, hmem, hrow, hgw.out⟩
      case round =>
        clear hrow hmem hgw hsw
        obtain ⟨j, l, hjk, rfl, hll, hins, hmem, hrow, hgw⟩ := hrel
        have hsw := hgw.size
        have hlg := hrow.out.lt
        have HB := Lib.hid (hBw.out _ hgw)
        replace hgw := Lib.hid hgw
        replace hins := Lib.hid hins
        rcases Nat.eq_zero_or_pos j with hj0 | hj0
        · subst hj0
          have hfin := Lib.hid (show l = insTo (ahead xs) ns (k + 1) from hins.out)
          go_wp2_with fail
          refine wp_region_quiet_below (by kernel_rfl) (by kernel_rfl) ?_
          repeat (go_big_quiet_step (fail))
          (refine wpQuiet_nil ?_; intro w1 hwq; have hb1 := of_cls hwq; clear hwq)
          (have hs1 := hb1.size; (try simp at hs1); obtain ⟨hc1, hf1, hn1⟩ := bcell hb1; (try have hz1_wr_0 : wr.heap.size < w1.heap.size := by omega); (try have hz1_wr_1 : wr.heap.size + 1 < w1.heap.size := by omega); (try have hz1_wr_2 : wr.heap.size + 2 < w1.heap.size := by omega); (try have hB1 : b < w1.heap.size := by omega); (try have hB2 : b' < w1.heap.size := by omega); (try have hz1_wr_2b : wr.heap.size + 1 + 1 < w1.heap.size := by omega); (try have hz1_w_0 : w.heap.size < w1.heap.size := by omega); (try have hz1_w_1 : w.heap.size + 1 < w1.heap.size := by omega); (try have hz1_w_2 : w.heap.size + 2 < w1.heap.size := by omega); (try have hz1_w_2b : w.heap.size + 1 + 1 < w1.heap.size := by omega))
          go_wp2_with fail
          go_roundw
          case rel => exact ⟨k + 1, by omega, by omega, by go_num, by rw [← hfin.out]; exact (show Row w1 g 3 (natVals l) from hrow.out.to (by repeat' (first | (with_reducible exact Below.refl _ _) | (with_reducible refine Below.alloc ?_ ?_ _) | (with_reducible refine Below.setCell ?_ ?_ _) | (with_reducible refine Below.drew ?_) | (with_reducible refine Below.trans ?_ (Below.mono (by with_reducible assumption) ?_)) | omega | (simp; done) | (simp; omega)))), by rw [← hfin.out]; exact hmem.out, only_to' hgw.out (by repeat' (first | (with_reducible exact Below.refl _ _) | (with_reducible refine Below.alloc ?_ ?_ _) | (with_reducible refine Below.setCell ?_ ?_ _) | (with_reducible refine Below.drew ?_) | (with_reducible refine Below.trans ?_ (Below.mono (by with_reducible assumption) ?_)) | omega | (simp; done) | (simp; omega)))⟩
          case measure => simp [intOf]; omega
        · obtain ⟨j, rfl⟩ : ∃ i, j = i + 1 := ⟨j - 1, by omega⟩
          have hJ1 : j + 1 < ns.length := by omega
          have hJ : (j : Int) + 1 < ns.length := by omega
          have hJ0 : (0 : Int) ≤ j := by omega
          have d1 := natVals_cell hrow.out (j := j + 1) (by omega)
          have d0 := natVals_cell hrow.out (j := j) (by omega)
          have df := hrow.out.frozen
          have hm1 := hmem.out (j + 1) (by omega)
          have hm0 := hmem.out j (by omega)
          have hcj : ∀ W, Below wr.heap.size wr W → Calls Tryd.prog 59 #[.int .i64 ((el l (j + 1) : Nat) : Int), .int .i64 ((el l j : Nat) : Int), .pointer (some ⟨L, 0, none⟩)] W fun e w' => e = .returned (.int .i64 (cmpN xs (el l (j + 1)) (el l j))) ∧ Below W.heap.size W w' :=
            fun W hb => hcl.out W _ _ (HB.out.trans (hb.mono (Nat.le_trans (Nat.le_trans hB hsw) (Nat.le_refl _)))) hm1 hm0
          have hah := ahead_cmp xs (el l (j + 1)) (el l j)
          obtain ⟨z, hz⟩ : ∃ z, cmpN xs (el l (j + 1)) (el l j) = z := ⟨_, rfl⟩
          rw [hz] at hah hcj
          replace hcj := Lib.hid hcj
          replace hah := Lib.hid hah
          clear hz
          cases hzb : decide (z < 0)
          · have hfin := Lib.hid (show l = insTo (ahead xs) ns (k + 1) by
              have h1 := hins.out
              rw [insAt, if_neg (by rw [hah.out, hzb]; simp)] at h1; exact h1)
            go_wp2_with fail
            refine wp_region_quiet_below (by kernel_rfl) (by kernel_rfl) ?_
            repeat (go_big_quiet_step ((go_at_call 59; exact Calls.regrown_of (hcj.out _ (below_regrown _ _ _)))))
            (refine wpQuiet_nil ?_; intro w1 hwq; have hb1 := of_cls hwq; clear hwq)
            (have hs1 := hb1.size; (try simp at hs1); obtain ⟨hc1, hf1, hn1⟩ := bcell hb1; (try have hz1_wr_0 : wr.heap.size < w1.heap.size := by omega); (try have hz1_wr_1 : wr.heap.size + 1 < w1.heap.size := by omega); (try have hz1_wr_2 : wr.heap.size + 2 < w1.heap.size := by omega); (try have hB1 : b < w1.heap.size := by omega); (try have hB2 : b' < w1.heap.size := by omega); (try have hz1_wr_2b : wr.heap.size + 1 + 1 < w1.heap.size := by omega); (try have hz1_w_0 : w.heap.size < w1.heap.size := by omega); (try have hz1_w_1 : w.heap.size + 1 < w1.heap.size := by omega); (try have hz1_w_2 : w.heap.size + 2 < w1.heap.size := by omega); (try have hz1_w_2b : w.heap.size + 1 + 1 < w1.heap.size := by omega))
            go_wp2_with fail
            go_roundw
            case rel => exact ⟨k + 1, by omega, by omega, by go_num, by rw [← hfin.out]; exact (show Row w1 g 3 (natVals l) from hrow.out.to (by repeat' (first | (with_reducible exact Below.refl _ _) | (with_reducible refine Below.alloc ?_ ?_ _) | (with_reducible refine Below.setCell ?_ ?_ _) | (with_reducible refine Below.drew ?_) | (with_reducible refine Below.trans ?_ (Below.mono (by with_reducible assumption) ?_)) | omega | (simp; done) | (simp; omega)))), by rw [← hfin.out]; exact hmem.out, only_to' hgw.out (by repeat' (first | (with_reducible exact Below.refl _ _) | (with_reducible refine Below.alloc ?_ ?_ _) | (with_reducible refine Below.setCell ?_ ?_ _) | (with_reducible refine Below.drew ?_) | (with_reducible refine Below.trans ?_ (Below.mono (by with_reducible assumption) ?_)) | omega | (simp; done) | (simp; omega)))⟩
            case measure => simp [intOf]; omega
          · have hfin := Lib.hid (show insAt (ahead xs) (swp l j) j = insTo (ahead xs) ns (k + 1) by
              have h1 := hins.out
              rw [insAt, if_pos (by rw [hah.out, hzb])] at h1; exact h1)
            go_wp2_with fail
            refine wp_region_quiet_below (by kernel_rfl) (by kernel_rfl) ?_
            repeat (go_big_quiet_step ((go_at_call 59; exact Calls.regrown_of (hcj.out _ (below_regrown _ _ _)))))
            (refine wpQuiet_nil ?_; intro w1 hwq; have hb1 := of_cls hwq; clear hwq)
            (have hs1 := hb1.size; (try simp at hs1); obtain ⟨hc1, hf1, hn1⟩ := bcell hb1; (try have hz1_wr_0 : wr.heap.size < w1.heap.size := by omega); (try have hz1_wr_1 : wr.heap.size + 1 < w1.heap.size := by omega); (try have hz1_wr_2 : wr.heap.size + 2 < w1.heap.size := by omega); (try have hB1 : b < w1.heap.size := by omega); (try have hB2 : b' < w1.heap.size := by omega); (try have hz1_wr_2b : wr.heap.size + 1 + 1 < w1.heap.size := by omega); (try have hz1_w_0 : w.heap.size < w1.heap.size := by omega); (try have hz1_w_1 : w.heap.size + 1 < w1.heap.size := by omega); (try have hz1_w_2 : w.heap.size + 2 < w1.heap.size := by omega); (try have hz1_w_2b : w.heap.size + 1 + 1 < w1.heap.size := by omega))
            go_wp2_with fail
            have hr1 := Lib.hid (hrow.out.to hb1)
            have e1 := natVals_cell hr1.out (j := j + 1) (by omega)
            have e0 := natVals_cell hr1.out (j := j) (by omega)
            have ef := hr1.out.frozen
            have hgw1 := Lib.hid (only_to' hgw.out hb1)
            have hlg1 := hr1.out.lt
            clear d1 d0 df hc1 hf1 hn1
            apply wp_region_chain 14 [2, 3, 4] [] noJ (fun W W' => Below W.heap.size W W') [Sum.inl _, Sum.inl _, Sum.inl _, Sum.inl _, Sum.inl _, Sum.inl _, Sum.inl _, Sum.inl _, Sum.inl _, Sum.inl _, Sum.inl _, Sum.inl _, Sum.inl _, Sum.inl _] (by kernel_rfl) (by kernel_rfl) (fun _ _ _ => below_trans) (below_draw _) trivial ?_
            rotate_left 14
            simp only [List.take_succ_cons, List.take_zero, List.drop_succ_cons, List.drop_zero]
            apply free_val (by rfl)
            · intro W hE hp hF; obtain ⟨hcE, hfE, hnE⟩ := bcell hE; have hsE := hE.size; unfold opOb; go_wp2_with fail; exact ⟨rfl, _, rfl, rfl, ⟨Below.refl _ _, noJ_post _ _ _⟩⟩
            simp only [Act.put, List.setIfInBounds_toArray, List.set_cons_succ, List.set_cons_zero]
            apply free_val (by rfl)
            · intro W hE hp hF; obtain ⟨hcE, hfE, hnE⟩ := bcell hE; have hsE := hE.size; unfold opOb; go_wp2_with fail; exact ⟨rfl, _, rfl, rfl, ⟨Below.refl _ _, noJ_post _ _ _⟩⟩
            simp only [Act.put, List.setIfInBounds_toArray, List.set_cons_succ, List.set_cons_zero]
            apply free_late (by rfl) (by rfl)
            · intro W; unfold opOb; go_wp2_with fail; exact ⟨rfl, _, rfl, rfl, rfl⟩
            simp only [Act.put, List.setIfInBounds_toArray, List.set_cons_succ, List.set_cons_zero]
            apply free_late (by rfl) (by rfl)
            · intro W; unfold opOb; go_wp2_with fail; exact ⟨rfl, _, rfl, rfl, rfl⟩
            simp only [Act.put, List.setIfInBounds_toArray, List.set_cons_succ, List.set_cons_zero]
            apply free_late (by rfl) (by rfl)
            · intro W; unfold opOb; go_wp2_with fail; exact ⟨rfl, _, rfl, rfl, rfl⟩
            simp only [Act.put, List.setIfInBounds_toArray, List.set_cons_succ, List.set_cons_zero]
            apply free_val (by rfl)
            · intro W hE hp hF; obtain ⟨hcE, hfE, hnE⟩ := bcell hE; have hsE := hE.size; unfold opOb; go_wp2_with fail; exact ⟨rfl, _, rfl, rfl, ⟨Below.refl _ _, noJ_post _ _ _⟩⟩
            simp only [Act.put, List.setIfInBounds_toArray, List.set_cons_succ, List.set_cons_zero]
            apply free_val (by rfl)
            · intro W hE hp hF; obtain ⟨hcE, hfE, hnE⟩ := bcell hE; have hsE := hE.size; unfold opOb; go_wp2_with fail; exact ⟨rfl, _, rfl, rfl, ⟨Below.refl _ _, noJ_post _ _ _⟩⟩
            simp only [Act.put, List.setIfInBounds_toArray, List.set_cons_succ, List.set_cons_zero]
            apply free_val (by rfl)
            · intro W hE hp hF; obtain ⟨hcE, hfE, hnE⟩ := bcell hE; have hsE := hE.size; unfold opOb; go_wp2_with fail; exact ⟨rfl, _, rfl, rfl, ⟨Below.refl _ _, noJ_post _ _ _⟩⟩
            simp only [Act.put, List.setIfInBounds_toArray, List.set_cons_succ, List.set_cons_zero]
            apply free_val (by rfl)
            · intro W hE hp hF; obtain ⟨hcE, hfE, hnE⟩ := bcell hE; have hsE := hE.size; unfold opOb; go_wp2_with fail; exact ⟨rfl, _, rfl, rfl, ⟨Below.refl _ _, noJ_post _ _ _⟩⟩
            simp only [Act.put, List.setIfInBounds_toArray, List.set_cons_succ, List.set_cons_zero]
            apply free_val (by rfl)
            · intro W hE hp hF; obtain ⟨hcE, hfE, hnE⟩ := bcell hE; have hsE := hE.size; unfold opOb; go_wp2_with fail; exact ⟨rfl, _, rfl, rfl, ⟨Below.refl _ _, noJ_post _ _ _⟩⟩
            simp only [Act.put, List.setIfInBounds_toArray, List.set_cons_succ, List.set_cons_zero]
            apply free_val (by rfl)
            · intro W hE hp hF; obtain ⟨hcE, hfE, hnE⟩ := bcell hE; have hsE := hE.size; unfold opOb; go_wp2_with fail; exact ⟨rfl, _, rfl, rfl, ⟨Below.refl _ _, noJ_post _ _ _⟩⟩
            simp only [Act.put, List.setIfInBounds_toArray, List.set_cons_succ, List.set_cons_zero]
            apply free_val (by rfl)
            · intro W hE hp hF; obtain ⟨hcE, hfE, hnE⟩ := bcell hE; have hsE := hE.size; unfold opOb; go_wp2_with fail; exact ⟨rfl, _, rfl, rfl, ⟨Below.refl _ _, noJ_post _ _ _⟩⟩
            simp only [Act.put, List.setIfInBounds_toArray, List.set_cons_succ, List.set_cons_zero]
            apply free_val (by rfl)
            · intro W hE hp hF; obtain ⟨hcE, hfE, hnE⟩ := bcell hE; have hsE := hE.size; unfold opOb; go_wp2_with fail; exact ⟨rfl, _, rfl, rfl, ⟨Below.refl _ _, noJ_post _ _ _⟩⟩
            simp only [Act.put, List.setIfInBounds_toArray, List.set_cons_succ, List.set_cons_zero]
            apply free_val (by rfl)
            · intro W hE hp hF; obtain ⟨hcE, hfE, hnE⟩ := bcell hE; have hsE := hE.size; unfold opOb; go_wp2_with fail; exact ⟨rfl, _, rfl, rfl, ⟨Below.refl _ _, noJ_post _ _ _⟩⟩
            simp only [Act.put, List.setIfInBounds_toArray, List.set_cons_succ, List.set_cons_zero]
            apply free_end
            intro w2 hEw2 hJF hGF
            clear hJF
            clear hGF
            have hr2 := Lib.hid (((hr1.out.to hEw2).set (j := j + 1) (.int .i64 ((el l j : Nat) : Int))).set (j := j) (.int .i64 ((el l (j + 1) : Nat) : Int)))
            have hgw2 := Lib.hid (only_setCell (p := ⟨g, j, none⟩) (only_setCell (p := ⟨g, j + 1, none⟩) (only_to' hgw1.out hEw2) (.inl rfl) (.int .i64 ((el l j : Nat) : Int))) (.inl rfl) (.int .i64 ((el l (j + 1) : Nat) : Int)))
            obtain ⟨hc2, hf2, hn2⟩ := bcell hEw2
            have hlg2 := hn2 _ hlg1
            go_wp2_with fail
            refine normal_of ?_
            go_wp2_with fail
            go_roundw
            case rel => exact ⟨j, swp l j, by omega, by go_num, by rw [swp_len]; exact hll, hfin.out, Lib.hid (el_swp hmem.out (by omega)), Lib.hid (by have := hr2.out; rw [natVals_swp] at this; exact this), hgw2.out⟩
            case measure => first | (simp [intOf]; done) | (simp [intOf]; omega)
    · obtain rfl : k = ns.length := by omega
      replace hgw := Lib.hid hgw
      replace hmem := Lib.hid hmem
      go_wp2
      go_end0
      exact ⟨rfl, hrow.out, hgw.out⟩
set_option maxHeartbeats 1000000 in
theorem insSort_none (A : Option Addr) (cp : Nat) (f : Value) (w : World) :
    Calls Tryd.prog 72 #[.slice A 0 cp, .int .i64 0, .int .i64 0, f] w fun e w' => e = .returned (.tuple #[]) ∧ w = w' := by
  go_enter Tryd.func72, Tryd.ntmps72
  go_wp2
  refine wp_loop_once ?_
  go_wp2
  go_end0
  exact ⟨rfl, rfl⟩
set_option maxHeartbeats 2000000 in
theorem sortStable_row (A : Option Addr) (c L B g cp : Nat) (xs : List Brk) (ns : List Nat) (w : World) (hR : Rd w B A 6 Brk.enc xs) (hL : w.cell? ⟨L, 0, none⟩ = some (.slice A xs.length c)) (hLB : L < B) (hg : B ≤ g) (hB : B ≤ w.heap.size) (hrow : Row w g 3 (natVals ns)) (hns : ∀ i, i < ns.length → el ns i < xs.length) (hx : xs.length ≤ 1048576) (hn : ns.length ≤ 19) (hn1 : 1 ≤ ns.length) :
    Calls Tryd.prog 58 #[.slice (some ⟨g, 0, none⟩) ns.length cp, .func (.func 59) #[] #[.pointer (some ⟨L, 0, none⟩)]] w fun e w' => e = .returned (.tuple #[]) ∧ Row w' g 3 (natVals (insTo (ahead xs) ns ns.length)) ∧ w.grownBy w' (some g) := by
  have hst : Hid (Calls Tryd.prog 67 #[.slice (some ⟨g, 0, none⟩) ns.length cp, .int .i64 ns.length, .func (.func 59) #[] #[.pointer (some ⟨L, 0, none⟩)]] w fun e w' => e = .returned (.tuple #[]) ∧ Row w' g 3 (natVals (insTo (ahead xs) ns ns.length)) ∧ w.grownBy w' (some g)) := by
    have hc := Lib.hid (insSort_row A c L B g cp xs ns w hR hL hLB hg hB hrow hns hx (by omega) hn1)
    have h1 : ¬ (20 : Int) ≤ ns.length := by omega
    have h2 : ¬ (20 : Int) < ns.length := by omega
    clear hR hL hrow hns
    refine Lib.hid ?_
    go_enter Tryd.func67, Tryd.ntmps67
    go_wp2_with fail
    refine wp_loop_once ?_
    go_wp2_with fail
    refine hc.out.mono ?_
    rintro e w1 ⟨rfl, hr1, hg1⟩
    replace hr1 := Lib.hid hr1
    replace hg1 := Lib.hid hg1
    go_wp2_with fail
    refine wp_loop_once ?_
    go_wp2_with fail
    go_end0
    exact ⟨rfl, hr1.out, hg1.out⟩
  clear hR hL hrow hns
  go_enter Tryd.func58, Tryd.ntmps58
  go_wp2_with fail
  refine hst.out.mono ?_
  rintro e w1 ⟨rfl, hr1, hg1⟩
  replace hr1 := Lib.hid hr1
  replace hg1 := Lib.hid hg1
  go_wp2_with fail
  go_end0
  exact ⟨rfl, hr1.out, hg1.out⟩
set_option maxHeartbeats 2000000 in
theorem sortStable_none (A : Option Addr) (cp : Nat) (f : Value) (w : World) :
    Calls Tryd.prog 58 #[.slice A 0 cp, f] w fun e w' => e = .returned (.tuple #[]) ∧ w = w' := by
  have hst : Hid (Calls Tryd.prog 67 #[.slice A 0 cp, .int .i64 0, f] w fun e w' => e = .returned (.tuple #[]) ∧ w = w') := by
    refine Lib.hid ?_
    go_enter Tryd.func67, Tryd.ntmps67
    go_wp2_with fail
    refine wp_loop_once ?_
    go_wp2_with (first | (go_at_call 72; refine (insSort_none _ _ _ _).mono ?_; rintro e wX ⟨rfl, rfl⟩))
    refine wp_loop_once ?_
    go_wp2_with (first | (go_at_call 72; refine (insSort_none _ _ _ _).mono ?_; rintro e wX ⟨rfl, rfl⟩))
    go_end0
    exact ⟨rfl, rfl⟩
  go_enter Tryd.func58, Tryd.ntmps58
  go_wp2_with fail
  refine hst.out.mono ?_
  rintro e w1 ⟨rfl, rfl⟩
  go_wp2_with fail
  go_end0
  exact ⟨rfl, rfl⟩
theorem int_info : (Tryd.prog.info? 3).map (fun i => (i.zero, i.size, i.bytes)) = some (some (.int .i64 0), 1, 8) := by kernel_rfl
theorem natVals_snoc (l : List Nat) (k : Nat) : natVals (l ++ [k]) = natVals l ++ [.int .i64 (k : Int)] := by simp [natVals]
theorem needL_el (xs : List Brk) : ∀ i, i < (needL xs xs.length).length → el (needL xs xs.length) i < xs.length := fun i hi => needL_lt _ (el_mem hi)
theorem cut_worldN {α : Type} {G : α → World → Prop} {a : α} {W : World} (R : World → Prop) (h1 : R W) (h2 : ∀ W, R W → G a W) : G a W := h2 W h1
end Go.Proofs.YtakjfkbfibcbcaaDoor
