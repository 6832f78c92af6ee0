/- Contracts: the breaks at the end of a day (chapter 23). -/
import Derived.Test.YtakjfkbfibcbcaaWork
import Derived.Test.YtakjfkbfibcbcaaTell
import Derived.Deep.Cut
set_option linter.unusedSimpArgs false
set_option linter.unusedVariables false
namespace Go.Proofs.Ytakjfkbfibcbcaa
open Go.RowKit Go.Sort Go.Salt
attribute [local go_sem] cell_rg
attribute [local go_sem ↓] run_max_mx run_min_mn
theorem mn_comm (a b : Int) : mn a b = mn b a := by have h1 := mn_or a b; have h2 := mn_or b a; omega
def nd1 (x : Brk) (n : Int) : Brk := if 0 < n then { x with d := mn (x.d + 4 * n) x.m } else if x.d < x.m then { x with m := mn (x.m + x.g) 60 } else x
theorem nd1_ok {x : Brk} {n : Int} (h : Ok6 x) : Ok6 (nd1 x n) := by
  unfold Ok6 at h
  have h1 := mn_or (x.d + 4 * n) x.m
  have h2 := mn_or (x.m + x.g) 60
  unfold nd1
  split
  · unfold Ok6; simp only; omega
  · split
    · unfold Ok6; simp only; omega
    · unfold Ok6; omega
def ndTo (xs : List Brk) (W : Int) (k : Nat) : List Brk := (List.range xs.length).map fun i => if i < k then nd1 (el xs i) (el (wkL xs W) i) else el xs i
def ndL (xs : List Brk) (W : Int) : List Brk := (List.range xs.length).map fun i => nd1 (el xs i) (el (wkL xs W) i)
theorem ndTo_len (xs : List Brk) (W : Int) (k : Nat) : (ndTo xs W k).length = xs.length := by simp [ndTo]
theorem ndL_len (xs : List Brk) (W : Int) : (ndL xs W).length = xs.length := by simp [ndL]
theorem ndTo_zero (xs : List Brk) (W : Int) : ndTo xs W 0 = xs := by
  apply List.ext_getElem
  · simp [ndTo]
  · intro i h1 h2; simp [ndTo, el_get h2]
theorem ndTo_all (xs : List Brk) (W : Int) : ndTo xs W xs.length = ndL xs W := by
  unfold ndTo ndL
  apply List.map_congr_left
  intro i hi
  rw [if_pos (List.mem_range.1 hi)]
theorem ndTo_el {xs : List Brk} {W : Int} {k : Nat} (h : k < xs.length) : el (ndTo xs W k) k = el xs k := by
  rw [el_get (by rw [ndTo_len]; exact h)]; simp [ndTo]
theorem ndTo_succ {xs : List Brk} {W : Int} {k : Nat} (h : k < xs.length) : ndTo xs W (k + 1) = (ndTo xs W k).set k (nd1 (el xs k) (el (wkL xs W) k)) := by
  apply List.ext_getElem
  · simp [ndTo]
  · intro i h1 h2
    rw [List.getElem_set]
    simp only [ndTo, List.getElem_map, List.getElem_range]
    by_cases hi : k = i
    · subst hi; simp
    · rw [if_neg hi]
      by_cases hk : i < k
      · rw [if_pos hk, if_pos (by omega)]
      · rw [if_neg hk, if_neg (by omega)]
theorem ndL_el {xs : List Brk} {W : Int} {k : Nat} (h : k < xs.length) : el (ndL xs W) k = nd1 (el xs k) (el (wkL xs W) k) := by
  rw [el_get (by rw [ndL_len]; exact h)]; simp [ndL]
theorem ndL_ok {xs : List Brk} {W : Int} (h : ∀ i, i < xs.length → Ok6 (el xs i)) : ∀ i, i < (ndL xs W).length → Ok6 (el (ndL xs W) i) := fun i hi => by
  rw [ndL_len] at hi
  rw [ndL_el hi]; exact nd1_ok (h i hi)
theorem take_ndL {xs : List Brk} {W : Int} {k : Nat} (h : k < xs.length) : (ndL xs W).take (k + 1) = (ndL xs W).take k ++ [nd1 (el xs k) (el (wkL xs W) k)] := by
  rw [take_el (by rw [ndL_len]; exact h), ndL_el h]
theorem flat_set {α : Type} [Inhabited α] {enc : α → List Value} {k : Nat} (hk : ∀ x, (enc x).length = k) : ∀ (ys : List α) (i j : Nat) (u : Value) (y : α), i < ys.length → j < k → enc y = (enc (el ys i)).set j u → (ys.flatMap enc).set (i * k + j) u = (ys.set i y).flatMap enc
  | [], i, _, _, _, h, _, _ => by simp at h
  | x :: ys, 0, j, u, y, _, hj, he => by
    have e0 : el (x :: ys) 0 = x := rfl
    rw [e0] at he
    simp only [List.flatMap_cons, Nat.zero_mul, Nat.zero_add, List.set_cons_zero]
    rw [List.set_append_left _ _ (by rw [hk]; exact hj), he]
  | x :: ys, i + 1, j, u, y, h, hj, he => by
    have e0 : el (x :: ys) (i + 1) = el ys i := by simp [el]
    rw [e0] at he
    simp only [List.flatMap_cons, List.set_cons_succ]
    rw [List.set_append_right _ _ (by rw [hk, Nat.add_mul]; omega), hk, show (i + 1) * k + j - k = i * k + j by rw [Nat.add_mul]; omega, flat_set hk ys i j u y (by simpa using h) hj he]
theorem brk_row {w : World} {g : Nat} {E : TypeId} {ys : List Brk} (h : Row w g E (ys.flatMap Brk.enc)) {i : Nat} (hi : i < ys.length) :
    w.cell? ⟨g, i * 6, none⟩ = some (.int .i64 (el ys i).i) ∧ w.cell? ⟨g, i * 6 + 1, none⟩ = some (.int .i64 (el ys i).p) ∧ w.cell? ⟨g, i * 6 + 2, none⟩ = some (.int .i64 (el ys i).m) ∧ w.cell? ⟨g, i * 6 + 3, none⟩ = some (.int .i64 (el ys i).g) ∧ w.cell? ⟨g, i * 6 + 4, none⟩ = some (.int .i64 (el ys i).t) ∧ w.cell? ⟨g, i * 6 + 5, none⟩ = some (.int .i64 (el ys i).d) := by
  obtain ⟨b, o, e, _, c0, c1, c2, c3, c4, c5⟩ := brk_cells (h.rd Brk.enc_len h.lt) hi
  simp only [Option.some.injEq, Addr.mk.injEq, and_true] at e
  obtain ⟨rfl, rfl⟩ := e
  simp only [Nat.zero_add] at c0 c1 c2 c3 c4 c5
  exact ⟨c0, c1, c2, c3, c4, c5⟩
set_option maxRecDepth 100000 in
set_option maxHeartbeats 16000000 in
theorem iNext_any (ad : Addr) (c : Nat) (xs : List Brk) (W : Int) (w : World) (h : Rd w w.heap.size (some ad) 6 Brk.enc xs) (hx : xs.length ≤ 19) (hv : Hid (∀ i, i < xs.length → Ok6 (el xs i))) (h0 : 0 ≤ W) (h1 : W ≤ 40) :
    Calls Try.prog 84 #[.slice (some ad) xs.length c, .int .i64 W] w fun e w' => MadeAt w 25 ((ndL xs W).flatMap Brk.enc) xs.length .returned e w' := by
  go_enter Try.func84, Try.ntmps84
  go_wp2_with fail
  refine (cloneBrk_own ad c xs w h (by omega)).mono ?_
  rintro e w1 ⟨v1, rfl, own1, hb1⟩
  obtain ⟨A1, c1, rfl, ho1⟩ := OwnAt.of_own own1
  have hs1 := hb1.size
  have hlt1 : ∀ g, A1 = some ⟨g, 0, none⟩ → g < w1.heap.size := fun g hg => by
    rcases ho1 with ⟨h, _⟩ | ⟨g', h, _, hr⟩
    · rw [h] at hg; cases hg
    · rw [h] at hg; have := hr.lt; simp at hg; omega
  replace ho1 := Lib.hid ho1
  replace hlt1 := Lib.hid hlt1
  clear own1
  go_wp2_with fail
  refine (iWork_any (some ad) c xs W w1 (h.to hb1) hx hv h0 h1).mono ?_
  rintro e w2 ⟨g2, rfl, hg2, row2, hb2⟩
  have hs2 := hb2.size
  have ho2 := ho1.out.to hb2
  have hbw2 := hb1.trans (hb2.mono hs1)
  have hl2 := row2.lt
  replace row2 := Lib.hid row2
  replace ho2 := Lib.hid ho2
  have hwb := Lib.hid (wkL_bd hv.out h0 h1)
  have hwl := wkL_len xs W
  go_wp2_with fail
  go_loopw [15] (fun ix wr => ∃ k : Nat, k ≤ xs.length ∧ ix = .int .i64 k ∧ Hid (OwnAt wr w.heap.size 25 ((ndTo xs W k).flatMap Brk.enc) xs.length A1) ∧ Hid (Row wr g2 3 (intVals (wkL xs W))) ∧ Below w.heap.size w wr) (fun ix _ => xs.length - (intOf ix).toNat)
  case atStart => exact ⟨0, Nat.zero_le _, rfl, by rw [ndTo_zero]; exact ho2, row2, hbw2⟩
  case round =>
    clear ho2 row2 hbw2 hb2 hl2
    obtain ⟨k, hk, rfl, hown, hrow, hb⟩ := hrel
    have hs := hb.size
    by_cases hlt : k < xs.length
    · rcases hown.out with ⟨_, hc, _⟩ | ⟨g, rfl, hg, hr⟩
      · omega
      · have hgl := hlt1.out g rfl
        have hne : g2 ≠ g := by omega
        have hok := hv.out k hlt
        unfold Ok6 at hok
        have hwk := hwb.out k hlt
        have q0 := intVals_cell hrow.out (j := k) (by omega)
        have hsucc := ndTo_succ (W := W) hlt
        obtain ⟨n, hn⟩ : ∃ n, el (wkL xs W) k = n := ⟨_, rfl⟩
        rw [hn] at q0 hwk hsucc
        clear hn
        obtain ⟨d0, d1, d2, d3, d4, d5⟩ := brk_row hr (i := k) (by rw [ndTo_len]; exact hlt)
        have he := ndTo_el (W := W) hlt
        rw [he] at d0 d1 d2 d3 d4 d5
        have df := hr.frozen
        have hgw := hr.lt
        have hI : (k : Int) < xs.length := by omega
        have hI0 : (0 : Int) ≤ k := by omega
        have hg2w : g2 < wr.heap.size := hrow.out.lt
        have hflat : ∀ (j : Nat) (u : Value) (y : Brk), j < 6 → y.enc = (el xs k).enc.set j u → ((ndTo xs W k).flatMap Brk.enc).set (k * 6 + j) u = ((ndTo xs W k).set k y).flatMap Brk.enc := fun j u y hj hy => flat_set Brk.enc_len _ k j u y (by rw [ndTo_len]; exact hlt) hj (by rw [he]; exact hy)
        replace hflat := Lib.hid hflat
        replace hr := Lib.hid hr
        clear hown he
        by_cases hn0 : 0 < n
        · obtain ⟨z, hz⟩ : ∃ z, mn ((el xs k).d + 4 * n) (el xs k).m = z := ⟨_, rfl⟩
          have hsu : ndTo xs W (k + 1) = (ndTo xs W k).set k ⟨(el xs k).i, (el xs k).p, (el xs k).m, (el xs k).g, (el xs k).t, z⟩ := by rw [hsucc, nd1, if_pos hn0, hz]
          replace hsu := Lib.hid hsu
          clear hsucc
          go_wp2_with fail
          refine wp_region_below_tail 13 (by kernel_rfl) (by kernel_rfl) ?_
          simp only [List.take_succ_cons, List.take_zero, List.drop_succ_cons, List.drop_zero]
          repeat (go_big_quiet_step (fail))
          (refine wpQuiet_nil ?_; intro w1 hwq; have hb1 := of_cls hwq; clear hwq)
          (have hs1 := hb1.size; (try simp at hs1); obtain ⟨hc1, hf1, hn1⟩ := bcell hb1; (try have hz1_wr_0 : wr.heap.size < w1.heap.size := by omega); (try have hz1_wr_1 : wr.heap.size + 1 < w1.heap.size := by omega); (try have hz1_wr_2 : wr.heap.size + 2 < w1.heap.size := by omega); (try have hB1 : b < w1.heap.size := by omega); (try have hB2 : b' < w1.heap.size := by omega); (try have hz1_wr_2b : wr.heap.size + 1 + 1 < w1.heap.size := by omega); (try have hz1_w_0 : w.heap.size < w1.heap.size := by omega); (try have hz1_w_1 : w.heap.size + 1 < w1.heap.size := by omega); (try have hz1_w_2 : w.heap.size + 2 < w1.heap.size := by omega); (try have hz1_w_2b : w.heap.size + 1 + 1 < w1.heap.size := by omega))
          have hr1 := Lib.hid ((hr.out.to hb1).set (j := k * 6 + 5) (.int .i64 z))
          have hq1 := Lib.hid ((hrow.out.to hb1).far (p := ⟨g, k * 6 + 5, none⟩) hne (.int .i64 z))
          have hbw1 := Lib.hid ((hb.trans (hb1.mono hs)).setCell (p := ⟨g, k * 6 + 5, none⟩) hg (.int .i64 z))
          (try simp only [hz])
          clear hz
          go_wp2_with fail
          go_roundw
          case rel => exact ⟨k + 1, by omega, by go_num, .inr ⟨g, rfl, hg, by rw [hsu.out, ← hflat.out 5 _ _ (by omega) (by rfl)]; exact hr1.out⟩, hq1.out, hbw1.out⟩
          case measure => simp [intOf]; omega
        · by_cases hd : (el xs k).d < (el xs k).m
          · obtain ⟨z, hz⟩ : ∃ z, mn ((el xs k).m + (el xs k).g) 60 = z := ⟨_, rfl⟩
            have hsu : ndTo xs W (k + 1) = (ndTo xs W k).set k ⟨(el xs k).i, (el xs k).p, z, (el xs k).g, (el xs k).t, (el xs k).d⟩ := by rw [hsucc, nd1, if_neg hn0, if_pos hd, hz]
            replace hsu := Lib.hid hsu
            clear hsucc
            go_wp2_with fail
            refine wp_region_quiet_below (by kernel_rfl) (by kernel_rfl) ?_
            repeat (go_big_quiet_step (fail))
            (refine wpQuiet_nil ?_; intro w1 hwq; have hb1 := of_cls hwq; clear hwq)
            (have hs1 := hb1.size; (try simp at hs1); obtain ⟨hc1, hf1, hn1⟩ := bcell hb1; (try have hz1_wr_0 : wr.heap.size < w1.heap.size := by omega); (try have hz1_wr_1 : wr.heap.size + 1 < w1.heap.size := by omega); (try have hz1_wr_2 : wr.heap.size + 2 < w1.heap.size := by omega); (try have hB1 : b < w1.heap.size := by omega); (try have hB2 : b' < w1.heap.size := by omega); (try have hz1_wr_2b : wr.heap.size + 1 + 1 < w1.heap.size := by omega); (try have hz1_w_0 : w.heap.size < w1.heap.size := by omega); (try have hz1_w_1 : w.heap.size + 1 < w1.heap.size := by omega); (try have hz1_w_2 : w.heap.size + 2 < w1.heap.size := by omega); (try have hz1_w_2b : w.heap.size + 1 + 1 < w1.heap.size := by omega))
            go_wp2_with fail
            refine wp_region_below_tail 11 (by kernel_rfl) (by kernel_rfl) ?_
            simp only [List.take_succ_cons, List.take_zero, List.drop_succ_cons, List.drop_zero]
            repeat (go_big_quiet_step (fail))
            (refine wpQuiet_nil ?_; intro w2 hwq; have hb2 := of_cls hwq; clear hwq)
            (have hs2 := hb2.size; (try simp at hs2); obtain ⟨hc2, hf2, hn2⟩ := bcell hb2; (try have hz2_wr_0 : wr.heap.size < w2.heap.size := by omega); (try have hz2_wr_1 : wr.heap.size + 1 < w2.heap.size := by omega); (try have hz2_wr_2 : wr.heap.size + 2 < w2.heap.size := by omega); (try have hB1 : b < w2.heap.size := by omega); (try have hB2 : b' < w2.heap.size := by omega); (try have hz2_wr_2b : wr.heap.size + 1 + 1 < w2.heap.size := by omega); (try have hz2_w_0 : w.heap.size < w2.heap.size := by omega); (try have hz2_w_1 : w.heap.size + 1 < w2.heap.size := by omega); (try have hz2_w_2 : w.heap.size + 2 < w2.heap.size := by omega); (try have hz2_w_2b : w.heap.size + 1 + 1 < w2.heap.size := by omega); (try have hz2_w1_0 : w1.heap.size < w2.heap.size := by omega); (try have hz2_w1_1 : w1.heap.size + 1 < w2.heap.size := by omega); (try have hz2_w1_2 : w1.heap.size + 2 < w2.heap.size := by omega); (try have hz2_w1_2b : w1.heap.size + 1 + 1 < w2.heap.size := by omega))
            have hb12 := hb1.trans (hb2.mono hs1)
            have hr1 := Lib.hid ((hr.out.to hb12).set (j := k * 6 + 2) (.int .i64 z))
            have hq1 := Lib.hid ((hrow.out.to hb12).far (p := ⟨g, k * 6 + 2, none⟩) hne (.int .i64 z))
            have hbw1 := Lib.hid ((hb.trans (hb12.mono hs)).setCell (p := ⟨g, k * 6 + 2, none⟩) hg (.int .i64 z))
            (try simp only [hz])
            clear hz hb12
            go_wp2_with fail
            go_roundw
            case rel => exact ⟨k + 1, by omega, by go_num, .inr ⟨g, rfl, hg, by rw [hsu.out, ← hflat.out 2 _ _ (by omega) (by rfl)]; exact hr1.out⟩, hq1.out, hbw1.out⟩
            case measure => simp [intOf]; omega
          · have hsu : ndTo xs W (k + 1) = ndTo xs W k := by
              rw [hsucc, nd1, if_neg hn0, if_neg hd]
              apply List.ext_getElem
              · simp
              · intro i h3 h4
                rw [List.getElem_set]
                split
                · rename_i hki; subst hki
                  rw [← el_get h4, ndTo_el hlt]
                · rfl
            replace hsu := Lib.hid hsu
            clear hsucc
            go_wp2_with fail
            refine wp_region_quiet_below (by kernel_rfl) (by kernel_rfl) ?_
            repeat (go_big_quiet_step (fail))
            (refine wpQuiet_nil ?_; intro w1 hwq; have hb1 := of_cls hwq; clear hwq)
            (have hs1 := hb1.size; (try simp at hs1); obtain ⟨hc1, hf1, hn1⟩ := bcell hb1; (try have hz1_wr_0 : wr.heap.size < w1.heap.size := by omega); (try have hz1_wr_1 : wr.heap.size + 1 < w1.heap.size := by omega); (try have hz1_wr_2 : wr.heap.size + 2 < w1.heap.size := by omega); (try have hB1 : b < w1.heap.size := by omega); (try have hB2 : b' < w1.heap.size := by omega); (try have hz1_wr_2b : wr.heap.size + 1 + 1 < w1.heap.size := by omega); (try have hz1_w_0 : w.heap.size < w1.heap.size := by omega); (try have hz1_w_1 : w.heap.size + 1 < w1.heap.size := by omega); (try have hz1_w_2 : w.heap.size + 2 < w1.heap.size := by omega); (try have hz1_w_2b : w.heap.size + 1 + 1 < w1.heap.size := by omega))
            go_wp2_with fail
            go_roundw
            case rel => exact ⟨k + 1, by omega, by go_num, .inr ⟨g, rfl, hg, by rw [hsu.out]; exact hr.out.to (by repeat' (first | (with_reducible exact Below.refl _ _) | (with_reducible refine Below.alloc ?_ ?_ _) | (with_reducible refine Below.setCell ?_ ?_ _) | (with_reducible refine Below.drew ?_) | (with_reducible refine Below.trans ?_ (Below.mono (by with_reducible assumption) ?_)) | omega | (simp; done) | (simp; omega)))⟩, hrow.out.to (by repeat' (first | (with_reducible exact Below.refl _ _) | (with_reducible refine Below.alloc ?_ ?_ _) | (with_reducible refine Below.setCell ?_ ?_ _) | (with_reducible refine Below.drew ?_) | (with_reducible refine Below.trans ?_ (Below.mono (by with_reducible assumption) ?_)) | omega | (simp; done) | (simp; omega))), (by repeat' (first | (with_reducible exact Below.refl _ _) | (with_reducible refine Below.alloc ?_ ?_ _) | (with_reducible refine Below.setCell ?_ ?_ _) | (with_reducible refine Below.drew ?_) | (with_reducible refine Below.trans ?_ (Below.mono (by with_reducible assumption) ?_)) | omega | (simp; done) | (simp; omega)))⟩
            case measure => simp [intOf]; omega
    · obtain rfl : k = xs.length := by omega
      go_wp2_with fail
      go_ret
      exact ⟨A1, c1, rfl, by rw [← ndTo_all]; exact hown.out, hb⟩
theorem row6 {W : World} {B : Nat} {E : TypeId} {a b c d e f : Int} (h : Row W B E [.int .i64 a, .int .i64 b, .int .i64 c, .int .i64 d, .int .i64 e, .int .i64 f]) : W.cell? ⟨B, 0, none⟩ = some (.int .i64 a) ∧ W.cell? ⟨B, 1, none⟩ = some (.int .i64 b) ∧ W.cell? ⟨B, 2, none⟩ = some (.int .i64 c) ∧ W.cell? ⟨B, 3, none⟩ = some (.int .i64 d) ∧ W.cell? ⟨B, 4, none⟩ = some (.int .i64 e) ∧ W.cell? ⟨B, 5, none⟩ = some (.int .i64 f) :=
  ⟨h.cell (j := 0) (by simp), h.cell (j := 1) (by simp), h.cell (j := 2) (by simp), h.cell (j := 3) (by simp), h.cell (j := 4) (by simp), h.cell (j := 5) (by simp)⟩
set_option maxRecDepth 100000 in
set_option maxHeartbeats 16000000 in
theorem sNext_any (A : Option Addr) (c : Nat) (xs : List Brk) (W : Int) (w : World) (h : Rd w w.heap.size A 6 Brk.enc xs) (hx : xs.length ≤ 19) (hv : Hid (∀ i, i < xs.length → Ok6 (el xs i))) (h0 : 0 ≤ W) (h1 : W ≤ 40) :
    Calls Try.prog 83 #[.slice A xs.length c, .int .i64 W] w fun e w' => MadeAt w 25 ((ndL xs W).flatMap Brk.enc) xs.length .returned e w' := by
  obtain ⟨i0, hi, hz0, hz1, hz2⟩ := info_parts brk_info
  have hinfo := Lib.hid (And.intro hi (And.intro hz0 (And.intro hz1 hz2)))
  clear hi hz0 hz1 hz2
  go_enter Try.func83, Try.ntmps83
  go_wp2_with fail
  have own0 : (w.alloc (.cells #[] 25)).ownsRow w.heap.size 25 6 (.slice (some ⟨w.heap.size, 0, none⟩) 0 0) 0 [] := own_empty 6 (Nat.le_refl _) (heap_alloc_new w _)
  refine (sWork_any A c xs W _ (h.to (by repeat' (first | (with_reducible exact Below.refl _ _) | (with_reducible refine Below.alloc ?_ ?_ _) | (with_reducible refine Below.setCell ?_ ?_ _) | (with_reducible refine Below.drew ?_) | (with_reducible refine Below.trans ?_ (Below.mono (by with_reducible assumption) ?_)) | omega | (simp; done) | (simp; omega)))) hx hv h0 h1).mono ?_
  rintro e w2 ⟨g2, rfl, hg2, row2, hb2⟩
  have hs2 := hb2.size
  simp only [World.size_alloc] at hg2 hs2
  have own2 := own_to own0 hb2
  have hbw2 : Below w.heap.size w w2 := (by repeat' (first | (with_reducible exact Below.refl _ _) | (with_reducible refine Below.alloc ?_ ?_ _) | (with_reducible refine Below.setCell ?_ ?_ _) | (with_reducible refine Below.drew ?_) | (with_reducible refine Below.trans ?_ (Below.mono (by with_reducible assumption) ?_)) | omega | (simp; done) | (simp; omega)))
  replace row2 := Lib.hid row2
  replace own2 := Lib.hid own2
  have hwb := Lib.hid (wkL_bd hv.out h0 h1)
  have hwl := wkL_len xs W
  have hvb0 : (Value.slice (some ⟨w.heap.size, 0, none⟩) 0 0).ownBlock ≠ some g2 := by simp [Value.ownBlock]; omega
  clear own0 hb2
  go_wp2_with fail
  go_loopw [5, 7] (fun v ix wr => ∃ k : Nat, k ≤ xs.length ∧ ix = .int .i64 k ∧ Hid (wr.ownsRow w.heap.size 25 6 v k (((ndL xs W).take k).flatMap Brk.enc)) ∧ v.ownBlock ≠ some g2 ∧ Hid (Row wr g2 3 (intVals (wkL xs W))) ∧ Below w.heap.size w wr) (fun _ ix _ => xs.length - (intOf ix).toNat)
  case atStart => exact ⟨0, Nat.zero_le _, rfl, own2, hvb0, row2, hbw2⟩
  case round =>
    clear own2 row2 hbw2 hs2 hvb0
    obtain ⟨k, hk, rfl, hown, hvb, hrow, hb⟩ := hrel
    have hs := hb.size
    by_cases hlt : k < xs.length
    · obtain ⟨b, o, rfl, hB, e0, e1, e2, e3, e4, e5⟩ := brk_cells (h.below hb) hlt
      have hok := hv.out k hlt
      unfold Ok6 at hok
      have hwk := hwb.out k hlt
      have q0 := intVals_cell hrow.out (j := k) (by omega)
      have hnd0 : (nd1 (el xs k) (el (wkL xs W) k)).enc = (nd1 (el xs k) (el (wkL xs W) k)).enc := rfl
      obtain ⟨n, hn⟩ : ∃ n, el (wkL xs W) k = n := ⟨_, rfl⟩
      have hcat : ((ndL xs W).take (k + 1)) = (ndL xs W).take k ++ [nd1 (el xs k) n] := by rw [take_ndL hlt, hn]
      rw [hn] at q0 hwk
      clear hn hnd0
      replace hcat := Lib.hid hcat
      have hB1 : b < wr.heap.size := by omega
      have hI : (k : Int) < xs.length := by omega
      have hI0 : (0 : Int) ≤ k := by omega
      have hg2w : g2 < wr.heap.size := hrow.out.lt
      have hnd0 : True := trivial
      go_upto_region 7 with (fail)
      have hbox : Row (wr.alloc (.cells #[.int .i64 (el xs k).i, .int .i64 (el xs k).p, .int .i64 (el xs k).m, .int .i64 (el xs k).g, .int .i64 (el xs k).t, .int .i64 (el xs k).d] 25)) wr.heap.size 25 [.int .i64 (el xs k).i, .int .i64 (el xs k).p, .int .i64 (el xs k).m, .int .i64 (el xs k).g, .int .i64 (el xs k).t, .int .i64 (el xs k).d] := Row.new wr 25 #[.int .i64 (el xs k).i, .int .i64 (el xs k).p, .int .i64 (el xs k).m, .int .i64 (el xs k).g, .int .i64 (el xs k).t, .int .i64 (el xs k).d]
      generalize hBB : wr.heap.size = BB at hbox ⊢
      refine cut_worldN (fun X => Row X BB 25 [.int .i64 (el xs k).i, .int .i64 (el xs k).p, .int .i64 (el xs k).m, .int .i64 (el xs k).g, .int .i64 (el xs k).t, .int .i64 (el xs k).d] ∧ Below wr.heap.size wr X) ⟨hbox, (by repeat' (first | (with_reducible exact Below.refl _ _) | (with_reducible refine Below.alloc ?_ ?_ _) | (with_reducible refine Below.setCell ?_ ?_ _) | (with_reducible refine Below.drew ?_) | (with_reducible refine Below.trans ?_ (Below.mono (by with_reducible assumption) ?_)) | omega | (simp; done) | (simp; omega)))⟩ ?_
      clear hbox e0 e1 e2 e3 e4 e5
      rintro w0 ⟨hbox, hbw0⟩
      have hs0 := hbw0.size
      obtain ⟨b0, b1, b2, b3, b4, b5⟩ := row6 hbox
      have bf := hbox.frozen
      have hBBl := hbox.lt
      have q0' := (hbw0.cell (p := ⟨g2, k, none⟩) hg2w).trans q0
      have hg2x : g2 < w0.heap.size := by omega
      have hwB : w.heap.size ≤ BB := by omega
      replace hbox := Lib.hid hbox
      clear q0
      by_cases hn0 : 0 < n
      · obtain ⟨z, hz⟩ : ∃ z, mn (el xs k).m ((el xs k).d + 4 * n) = z := ⟨_, rfl⟩
        have hnd := Lib.hid (show nd1 (el xs k) n = ⟨(el xs k).i, (el xs k).p, (el xs k).m, (el xs k).g, (el xs k).t, z⟩ by rw [nd1, if_pos hn0, mn_comm, hz])
        have hle : ∀ X, Calls Try.prog 98 #[.int .i64 (el xs k).m, .int .i64 ((el xs k).d + 4 * n)] X fun e w' => e = .returned (.int .i64 z) ∧ X = w' := fun X => by rw [← hz]; exact l1Least_any _ _ X
        replace hle := Lib.hid hle
        clear hz
        go_wp2_with fail
        refine wp_region_below_tail 11 (by kernel_rfl) (by kernel_rfl) ?_
        simp only [List.take_succ_cons, List.take_zero, List.drop_succ_cons, List.drop_zero]
        repeat (go_big_quiet_step ((go_at_call 98; exact Calls.regrown_of (same_below (hle.out _)))))
        (refine wpQuiet_nil ?_; intro w1 hwq; have hb1 := of_cls hwq; clear hwq)
        (have hs1 := hb1.size; (try simp at hs1); obtain ⟨hc1, hf1, hn1⟩ := bcell hb1; (try have hz1_wr_0 : wr.heap.size < w1.heap.size := by omega); (try have hz1_wr_1 : wr.heap.size + 1 < w1.heap.size := by omega); (try have hz1_wr_2 : wr.heap.size + 2 < w1.heap.size := by omega); (try have hB1 : b < w1.heap.size := by omega); (try have hB2 : b' < w1.heap.size := by omega); (try have hz1_wr_2b : wr.heap.size + 1 + 1 < w1.heap.size := by omega); (try have hz1_w_0 : w.heap.size < w1.heap.size := by omega); (try have hz1_w_1 : w.heap.size + 1 < w1.heap.size := by omega); (try have hz1_w_2 : w.heap.size + 2 < w1.heap.size := by omega); (try have hz1_w_2b : w.heap.size + 1 + 1 < w1.heap.size := by omega))
        have hr1 := (hbox.out.to hb1).set (j := 5) (.int .i64 z)
        have hbw1 : Below wr.heap.size wr (w1.setCell ⟨BB, 5, none⟩ (.int .i64 z)) := (hbw0.trans (hb1.mono hs0)).setCell (by show wr.heap.size ≤ BB; omega) _
        go_upto_region 11 with (fail)
        clear hb1 hs1 hc1 hf1 hn1
        refine cut_worldN (fun X => Row X BB 25 [.int .i64 (el xs k).i, .int .i64 (el xs k).p, .int .i64 (el xs k).m, .int .i64 (el xs k).g, .int .i64 (el xs k).t, .int .i64 z] ∧ Below wr.heap.size wr X) ⟨hr1, hbw1⟩ ?_
        clear hbox hbw0 b0 b1 b2 b3 b4 b5 bf hBBl hs0 q0' hg2x w0
        rintro w3 ⟨hbox, hb3⟩
        have hs3 := hb3.size
        obtain ⟨b0, b1, b2, b3, b4, b5⟩ := row6 hbox
        have hBBl := hbox.lt
        have hown3 := own_to hown.out hb3
        have hbw3 := hb.trans (hb3.mono hs)
        have hq3 := Lib.hid (hrow.out.to hb3)
        replace hown3 := Lib.hid hown3
        clear hbox hb3
        go_wp2_with (at_builtin; refine wpList_append_own_at _ rfl _ _ 37 rfl w.heap.size 25 _ _ 6 48 Try.underlying37 hinfo.out.1 hinfo.out.2.1 hinfo.out.2.2.1 hinfo.out.2.2.2 rfl (by decide) _ _ _ rfl (own_to hown3.out (by repeat' (first | (with_reducible exact Below.refl _ _) | (with_reducible refine Below.alloc ?_ ?_ _) | (with_reducible refine Below.setCell ?_ ?_ _) | (with_reducible refine Below.drew ?_) | (with_reducible refine Below.trans ?_ (Below.mono (by with_reducible assumption) ?_)) | omega | (simp; done) | (simp; omega)))) _ 1 1 [.int .i64 (el xs k).i, .int .i64 (el xs k).p, .int .i64 (el xs k).m, .int .i64 (el xs k).g, .int .i64 (el xs k).t, .int .i64 z] rfl rfl (news_top (cs := #[.int .i64 (el xs k).i, .int .i64 (el xs k).p, .int .i64 (el xs k).m, .int .i64 (el xs k).g, .int .i64 (el xs k).t, .int .i64 z]) (t := 25) (by simp)) (by simp [Value.oneCell']) (by unfold maxLen; omega) (by omega) (by simp; omega) ?_)
        intro v9 w9 hown9 hgrow9 hnil9 hat9
        have hb9 : Below w.heap.size w w9 := own_grew hown3.out (by repeat' (first | (with_reducible exact Below.refl _ _) | (with_reducible refine Below.alloc ?_ ?_ _) | (with_reducible refine Below.setCell ?_ ?_ _) | (with_reducible refine Below.drew ?_) | (with_reducible refine Below.trans ?_ (Below.mono (by with_reducible assumption) ?_)) | omega | (simp; done) | (simp; omega))) (by first | omega | (simp; done) | (simp; omega)) hgrow9
        have hs9 := hb9.size
        have hvb9 : v9.ownBlock ≠ some g2 := by
          rcases hat9 with h | h
          · rw [h]; exact hvb
          · rw [h]; simp; omega
        have hq9 := Lib.hid ((hq3.out.to (by repeat' (first | (with_reducible exact Below.refl _ _) | (with_reducible refine Below.alloc ?_ ?_ _) | (with_reducible refine Below.setCell ?_ ?_ _) | (with_reducible refine Below.drew ?_) | (with_reducible refine Below.trans ?_ (Below.mono (by with_reducible assumption) ?_)) | omega | (simp; done) | (simp; omega)))).grown hgrow9 (fun h => hvb h.symm))
        have hcs9 : ((ndL xs W).take k).flatMap Brk.enc ++ [.int .i64 (el xs k).i, .int .i64 (el xs k).p, .int .i64 (el xs k).m, .int .i64 (el xs k).g, .int .i64 (el xs k).t, .int .i64 z] = ((ndL xs W).take (k + 1)).flatMap Brk.enc := by
          rw [hcat.out, List.flatMap_append, hnd.out]; simp [Brk.enc]
        rw [hcs9] at hown9
        replace hown9 := Lib.hid hown9
        clear hcs9 hgrow9 hat9 hnil9
        go_wp2_with fail
        go_roundw
        case rel => exact ⟨k + 1, by omega, by go_num, hown9.out, hvb9, hq9, hb9⟩
        case measure => simp [intOf]; omega
      · by_cases hd : (el xs k).d < (el xs k).m
        · obtain ⟨z, hz⟩ : ∃ z, mn 60 ((el xs k).m + (el xs k).g) = z := ⟨_, rfl⟩
          have hnd := Lib.hid (show nd1 (el xs k) n = ⟨(el xs k).i, (el xs k).p, z, (el xs k).g, (el xs k).t, (el xs k).d⟩ by rw [nd1, if_neg hn0, if_pos hd, mn_comm, hz])
          have hle : ∀ X, Calls Try.prog 98 #[.int .i64 60, .int .i64 ((el xs k).m + (el xs k).g)] X fun e w' => e = .returned (.int .i64 z) ∧ X = w' := fun X => by rw [← hz]; exact l1Least_any _ _ X
          replace hle := Lib.hid hle
          clear hz
          have hr1 := hbox.out.set (j := 2) (.int .i64 z)
          have hbw1 : Below wr.heap.size wr (w0.setCell ⟨BB, 2, none⟩ (.int .i64 z)) := hbw0.setCell (by show wr.heap.size ≤ BB; omega) _
          go_upto_region 11 with (first | (go_at_call 98; refine (hle.out _).mono ?_; rintro e wX ⟨rfl, rfl⟩))
          refine cut_worldN (fun X => Row X BB 25 [.int .i64 (el xs k).i, .int .i64 (el xs k).p, .int .i64 z, .int .i64 (el xs k).g, .int .i64 (el xs k).t, .int .i64 (el xs k).d] ∧ Below wr.heap.size wr X) ⟨hr1, hbw1⟩ ?_
          clear hr1 hbw1 hbox hbw0 b0 b1 b2 b3 b4 b5 bf hBBl hs0 q0' hg2x w0
          rintro w3 ⟨hbox, hb3⟩
          have hs3 := hb3.size
          obtain ⟨b0, b1, b2, b3, b4, b5⟩ := row6 hbox
          have hBBl := hbox.lt
          have hown3 := own_to hown.out hb3
          have hbw3 := hb.trans (hb3.mono hs)
          have hq3 := Lib.hid (hrow.out.to hb3)
          replace hown3 := Lib.hid hown3
          clear hbox hb3
          go_wp2_with (at_builtin; refine wpList_append_own_at _ rfl _ _ 37 rfl w.heap.size 25 _ _ 6 48 Try.underlying37 hinfo.out.1 hinfo.out.2.1 hinfo.out.2.2.1 hinfo.out.2.2.2 rfl (by decide) _ _ _ rfl (own_to hown3.out (by repeat' (first | (with_reducible exact Below.refl _ _) | (with_reducible refine Below.alloc ?_ ?_ _) | (with_reducible refine Below.setCell ?_ ?_ _) | (with_reducible refine Below.drew ?_) | (with_reducible refine Below.trans ?_ (Below.mono (by with_reducible assumption) ?_)) | omega | (simp; done) | (simp; omega)))) _ 1 1 [.int .i64 (el xs k).i, .int .i64 (el xs k).p, .int .i64 z, .int .i64 (el xs k).g, .int .i64 (el xs k).t, .int .i64 (el xs k).d] rfl rfl (news_top (cs := #[.int .i64 (el xs k).i, .int .i64 (el xs k).p, .int .i64 z, .int .i64 (el xs k).g, .int .i64 (el xs k).t, .int .i64 (el xs k).d]) (t := 25) (by simp)) (by simp [Value.oneCell']) (by unfold maxLen; omega) (by omega) (by simp; omega) ?_)
          intro v9 w9 hown9 hgrow9 hnil9 hat9
          have hb9 : Below w.heap.size w w9 := own_grew hown3.out (by repeat' (first | (with_reducible exact Below.refl _ _) | (with_reducible refine Below.alloc ?_ ?_ _) | (with_reducible refine Below.setCell ?_ ?_ _) | (with_reducible refine Below.drew ?_) | (with_reducible refine Below.trans ?_ (Below.mono (by with_reducible assumption) ?_)) | omega | (simp; done) | (simp; omega))) (by first | omega | (simp; done) | (simp; omega)) hgrow9
          have hs9 := hb9.size
          have hvb9 : v9.ownBlock ≠ some g2 := by
            rcases hat9 with h | h
            · rw [h]; exact hvb
            · rw [h]; simp; omega
          have hq9 := Lib.hid ((hq3.out.to (by repeat' (first | (with_reducible exact Below.refl _ _) | (with_reducible refine Below.alloc ?_ ?_ _) | (with_reducible refine Below.setCell ?_ ?_ _) | (with_reducible refine Below.drew ?_) | (with_reducible refine Below.trans ?_ (Below.mono (by with_reducible assumption) ?_)) | omega | (simp; done) | (simp; omega)))).grown hgrow9 (fun h => hvb h.symm))
          have hcs9 : ((ndL xs W).take k).flatMap Brk.enc ++ [.int .i64 (el xs k).i, .int .i64 (el xs k).p, .int .i64 z, .int .i64 (el xs k).g, .int .i64 (el xs k).t, .int .i64 (el xs k).d] = ((ndL xs W).take (k + 1)).flatMap Brk.enc := by
            rw [hcat.out, List.flatMap_append, hnd.out]; simp [Brk.enc]
          rw [hcs9] at hown9
          replace hown9 := Lib.hid hown9
          clear hcs9 hgrow9 hat9 hnil9
          go_wp2_with fail
          go_roundw
          case rel => exact ⟨k + 1, by omega, by go_num, hown9.out, hvb9, hq9, hb9⟩
          case measure => simp [intOf]; omega
        · have hnd := Lib.hid (show nd1 (el xs k) n = ⟨(el xs k).i, (el xs k).p, (el xs k).m, (el xs k).g, (el xs k).t, (el xs k).d⟩ by rw [nd1, if_neg hn0, if_neg hd])
          go_upto_region 11 with (fail)
          refine cut_worldN (fun X => Row X BB 25 [.int .i64 (el xs k).i, .int .i64 (el xs k).p, .int .i64 (el xs k).m, .int .i64 (el xs k).g, .int .i64 (el xs k).t, .int .i64 (el xs k).d] ∧ Below wr.heap.size wr X) ⟨hbox.out, hbw0⟩ ?_
          clear hbox hbw0 b0 b1 b2 b3 b4 b5 bf hBBl hs0 q0' hg2x w0
          rintro w3 ⟨hbox, hb3⟩
          have hs3 := hb3.size
          obtain ⟨b0, b1, b2, b3, b4, b5⟩ := row6 hbox
          have hBBl := hbox.lt
          have hown3 := own_to hown.out hb3
          have hbw3 := hb.trans (hb3.mono hs)
          have hq3 := Lib.hid (hrow.out.to hb3)
          replace hown3 := Lib.hid hown3
          clear hbox hb3
          go_wp2_with (at_builtin; refine wpList_append_own_at _ rfl _ _ 37 rfl w.heap.size 25 _ _ 6 48 Try.underlying37 hinfo.out.1 hinfo.out.2.1 hinfo.out.2.2.1 hinfo.out.2.2.2 rfl (by decide) _ _ _ rfl (own_to hown3.out (by repeat' (first | (with_reducible exact Below.refl _ _) | (with_reducible refine Below.alloc ?_ ?_ _) | (with_reducible refine Below.setCell ?_ ?_ _) | (with_reducible refine Below.drew ?_) | (with_reducible refine Below.trans ?_ (Below.mono (by with_reducible assumption) ?_)) | omega | (simp; done) | (simp; omega)))) _ 1 1 [.int .i64 (el xs k).i, .int .i64 (el xs k).p, .int .i64 (el xs k).m, .int .i64 (el xs k).g, .int .i64 (el xs k).t, .int .i64 (el xs k).d] rfl rfl (news_top (cs := #[.int .i64 (el xs k).i, .int .i64 (el xs k).p, .int .i64 (el xs k).m, .int .i64 (el xs k).g, .int .i64 (el xs k).t, .int .i64 (el xs k).d]) (t := 25) (by simp)) (by simp [Value.oneCell']) (by unfold maxLen; omega) (by omega) (by simp; omega) ?_)
          intro v9 w9 hown9 hgrow9 hnil9 hat9
          have hb9 : Below w.heap.size w w9 := own_grew hown3.out (by repeat' (first | (with_reducible exact Below.refl _ _) | (with_reducible refine Below.alloc ?_ ?_ _) | (with_reducible refine Below.setCell ?_ ?_ _) | (with_reducible refine Below.drew ?_) | (with_reducible refine Below.trans ?_ (Below.mono (by with_reducible assumption) ?_)) | omega | (simp; done) | (simp; omega))) (by first | omega | (simp; done) | (simp; omega)) hgrow9
          have hs9 := hb9.size
          have hvb9 : v9.ownBlock ≠ some g2 := by
            rcases hat9 with h | h
            · rw [h]; exact hvb
            · rw [h]; simp; omega
          have hq9 := Lib.hid ((hq3.out.to (by repeat' (first | (with_reducible exact Below.refl _ _) | (with_reducible refine Below.alloc ?_ ?_ _) | (with_reducible refine Below.setCell ?_ ?_ _) | (with_reducible refine Below.drew ?_) | (with_reducible refine Below.trans ?_ (Below.mono (by with_reducible assumption) ?_)) | omega | (simp; done) | (simp; omega)))).grown hgrow9 (fun h => hvb h.symm))
          have hcs9 : ((ndL xs W).take k).flatMap Brk.enc ++ [.int .i64 (el xs k).i, .int .i64 (el xs k).p, .int .i64 (el xs k).m, .int .i64 (el xs k).g, .int .i64 (el xs k).t, .int .i64 (el xs k).d] = ((ndL xs W).take (k + 1)).flatMap Brk.enc := by
            rw [hcat.out, List.flatMap_append, hnd.out]; simp [Brk.enc]
          rw [hcs9] at hown9
          replace hown9 := Lib.hid hown9
          clear hcs9 hgrow9 hat9 hnil9
          go_wp2_with fail
          go_roundw
          case rel => exact ⟨k + 1, by omega, by go_num, hown9.out, hvb9, hq9, hb9⟩
          case measure => simp [intOf]; omega
    · obtain rfl : k = xs.length := by omega
      go_wp2_with fail
      go_ret
      exact MadeAt.cast (MadeAt.of_own .returned hown.out hb) (by rw [List.take_of_length_le (by rw [ndL_len]; exact Nat.le_refl _)]) rfl rfl rfl
end Go.Proofs.Ytakjfkbfibcbcaa
