/- The law FnBanks: a told break is in need, what is cleared was done. -/
import Derived.Test.YtakjfkbfibcbcaaDoorDrBnk
import Derived.Test.YtakjfkbfibcbcaaDoorTellS
import Derived.Test.YtakjfkbfibcbcaaDoorIds
import Derived.Test.YtakjfkbfibcbcaaDoorBtextLaw
set_option linter.unusedSimpArgs false
set_option linter.unusedVariables false
namespace Go.Proofs.YtakjfkbfibcbcaaDoor
open Go.RowKit Go.Sort Go.Salt
attribute [local go_sem] cell_rg
theorem insPut_perm (less : Nat → Nat → Bool) (l : List Nat) (x : Nat) : (insPut less l x).Perm (x :: l) := by
  unfold insPut
  refine List.perm_middle.trans ?_
  rw [List.take_append_drop]
theorem fold_perm (less : Nat → Nat → Bool) : ∀ (l acc : List Nat), (l.foldl (insPut less) acc).Perm (l ++ acc)
  | [], acc => List.Perm.refl _
  | x :: l, acc => by
    rw [List.foldl_cons]
    refine (fold_perm less l _).trans ?_
    refine ((insPut_perm less acc x).append_left l).trans ?_
    exact List.perm_middle
theorem needO_perm (xs : List Brk) (k : Nat) : (needO xs k).Perm (needL xs k) := by
  unfold needO ordL
  have := fold_perm (ahead xs) (needL xs k) []
  simpa using this
theorem need_has {xs : List Brk} {j : Nat} (h : brksOK xs = true) (hj : j < xs.length) (hd : (el xs j).d < (el xs j).m) : (el xs j).i ∈ noR xs := by
  rw [noR, if_pos h]
  unfold idL
  rw [List.take_length]
  refine List.mem_map.2 ⟨j, (needO_perm xs _).mem_iff.2 ?_, rfl⟩
  unfold needL
  exact List.mem_filter.2 ⟨List.mem_range.2 hj, by simpa using hd⟩
theorem list_el (xs : List Brk) : (List.range xs.length).map (el xs) = xs := by
  apply List.ext_getElem
  · simp
  · intro i h1 h2
    simp [el_get h2]
theorem filter_el (xs : List Brk) (p : Brk → Bool) : (xs.filter p).length = ((List.range xs.length).filter fun i => p (el xs i)).length := by
  conv => lhs; rw [← list_el xs]
  rw [List.filter_map, List.length_map]
  rfl
theorem cd_len {xs : List Brk} : (noR xs).length = (cdR xs).length := by
  cases h : brksOK xs
  · simp [noR, cdR, h]
  · rw [noR, if_pos h, cdR, if_pos h]
    unfold idL cdL
    rw [List.take_length, List.length_map, (needO_perm xs _).length_eq, List.take_length, filter_el]
    unfold needL
    congr 1
    apply List.filter_congr
    intro i hi
    have hb := brkAt_bd ((brksOK_bd h).2 i (List.mem_range.1 hi))
    by_cases e : (el xs i).d = (el xs i).m
    · simp [e]
    · have : (el xs i).d < (el xs i).m := by omega
      simp [e, this]
theorem cd_has {xs : List Brk} {i : Nat} (hi : i < (cdR xs).length) : (el (cdR xs) i).i ∈ noR xs := by
  cases h : brksOK xs
  · simp [cdR, h] at hi
  · have hm := el_mem hi
    have e : cdR xs = cdL xs xs.length := by rw [cdR, if_pos h]
    rw [e] at hm ⊢
    unfold cdL at hm
    rw [List.take_length] at hm
    obtain ⟨h1, h2⟩ := List.mem_filter.1 hm
    obtain ⟨j, hj, he⟩ := List.mem_iff_getElem.1 h1
    have he' : el xs j = el (cdL xs xs.length) i := by
      rw [el_get hj, he]; unfold cdL; rw [List.take_length]
    have hb := brkAt_bd ((brksOK_bd h).2 j hj)
    rw [← he']
    refine need_has h hj ?_
    unfold cdL at he'
    rw [List.take_length] at he'
    rw [← he'] at h2
    have : ¬ (el xs j).d = (el xs j).m := by simpa using h2
    omega
theorem el_snoc {xs : List Brk} {x : Brk} : el (xs ++ [x]) xs.length = x := by
  rw [el_get (by simp)]; simp
theorem el_app {xs : List Brk} {x : Brk} {i : Nat} (h : i < xs.length) : el (xs ++ [x]) i = el xs i := by
  rw [el_get (by simp; omega), el_get h, List.getElem_append_left h]
theorem mlTo_app {xs : List Brk} {x : Brk} {p : Int} : ∀ k, k ≤ xs.length → mlTo (xs ++ [x]) p k = mlTo xs p k
  | 0, _ => rfl
  | k + 1, h => by rw [mlTo, mlTo, mlTo_app k (by omega), el_app (by omega)]
theorem tell_law {xs : List Brk} {p m g day : Int} (h : tbOK xs p m g day = true) : mlB xs p = true ∧ mlB (tbR xs p m g day) p = true ∧ ml (tbR xs p m g day) p = ml xs p + m ∧ (0 ≤ ml xs p ∧ ml xs p ≤ 600) ∧ (1 ≤ m ∧ m ≤ 60) ∧ brksOK (tbR xs p m g day) = true ∧ tbI xs p m g day ∈ noR (tbR xs p m g day) := by
  have e : tbR xs p m g day = xs ++ [tbNew xs p m g day] := by rw [tbR, if_pos h]
  have ei : tbI xs p m g day = (tbNew xs p m g day).i := by rw [tbI, if_pos h]
  have h' := h
  simp only [tbOK, Bool.and_eq_true] at h'
  obtain ⟨⟨h1, _⟩, h3⟩ := h'
  have hl : xs.length < (xs ++ [tbNew xs p m g day]).length := by simp
  have hb := brkAt_bd ((brksOK_bd h3).2 xs.length hl)
  rw [el_snoc] at hb
  have n1 : (tbNew xs p m g day).p = p := rfl
  have n2 : (tbNew xs p m g day).m = m := rfl
  have n3 : (tbNew xs p m g day).d = 0 := rfl
  rw [n1, n2] at hb
  have hB1 : mlB xs p = true := by simp only [mlB, h1, inB_iff.2 hb.2.1, Bool.and_self]
  have hB2 : mlB (xs ++ [tbNew xs p m g day]) p = true := by simp only [mlB, h3, inB_iff.2 hb.2.1, Bool.and_self]
  have hbd := mlTo_bd (p := p) (brksOK_bd h1).2 xs.length (Nat.le_refl _)
  have hn := (brksOK_bd h1).1
  rw [e, ei]
  refine ⟨hB1, hB2, ?_, by rw [ml, if_pos hB1]; omega, hb.2.2.1, h3, ?_⟩
  · rw [ml, if_pos hB2, ml, if_pos hB1, List.length_append, List.length_singleton, mlTo, mlTo_app _ (Nat.le_refl _), el_snoc, n1, n2, n3, if_pos rfl]
    omega
  · have := need_has h3 hl (by rw [el_snoc, n2, n3]; omega)
    rwa [el_snoc] at this
theorem tbR_le (xs : List Brk) (p m g day : Int) : (tbR xs p m g day).length ≤ xs.length + 1 := by
  unfold tbR; split
  · simp
  · simp
theorem own_some {w : World} {base : Nat} {E : TypeId} {cs : List Value} {n : Nat} {A : Option Addr} (h0 : n ≠ 0) (h : OwnAt w base E cs n A) : ∃ ad, A = some ad := by
  rcases h with ⟨_, h, _⟩ | ⟨g, h, _⟩
  · exact absurd h h0
  · exact ⟨_, h⟩
set_option maxHeartbeats 4000000 in
theorem rHas_yes (A : Option Addr) (c : Nat) (zs : List Int) (x : Int) (w : World) (h : Rd w w.heap.size A 1 ie zs) (hx : zs.length ≤ 1048576) (hm : Hid (x ∈ zs)) :
    Calls Tryd.prog 15 #[.slice A zs.length c, .int .i64 x] w fun e w' => e = .returned (.bool true) ∧ Below w.heap.size w w' := by
  go_enter Tryd.func15, Tryd.ntmps15
  go_wp2
  go_loopw [5] (fun i wr => ∃ k : Nat, k ≤ zs.length ∧ i = .int .i64 k ∧ Hid (∀ j, j < k → el zs j ≠ x) ∧ Below w.heap.size w wr) (fun i _ => zs.length - (intOf i).toNat)
  case atStart => exact ⟨0, Nat.zero_le _, rfl, Lib.hid (fun j hj => by omega), Below.refl _ _⟩
  case round =>
    obtain ⟨k, hk, rfl, hall, hb⟩ := hrel
    by_cases hlt : k < zs.length
    · obtain ⟨b, o, rfl, hB, c0⟩ := int_cell (h.below hb) hlt
      have hs := hb.size
      have hB1 : b < wr.heap.size := by omega
      have hI : (k : Int) < zs.length := by omega
      have hI0 : (0 : Int) ≤ k := by omega
      cases hq : (el zs k == x)
      · have hne := Lib.hid (show el zs k ≠ x by simpa using hq)
        go_wp2_with fail
        go_roundw
        case rel => exact ⟨k + 1, by omega, by go_num, Lib.hid (fun j hj => by
                          by_cases e : j = k
                          · subst e; exact hne.out
                          · exact hall.out j (by omega)), (by repeat' (first | (with_reducible exact Below.refl _ _) | (with_reducible refine Below.alloc ?_ ?_ _) | (with_reducible refine Below.setCell ?_ ?_ _) | (with_reducible refine Below.drew ?_) | (with_reducible refine Below.trans ?_ (Below.mono (by with_reducible assumption) ?_)) | omega | (simp; done) | (simp; omega)))⟩
        case measure => simp [intOf]; omega
      · skip
        go_wp2_with fail
        go_ret
        exact ⟨rfl, (by repeat' (first | (with_reducible exact Below.refl _ _) | (with_reducible refine Below.alloc ?_ ?_ _) | (with_reducible refine Below.setCell ?_ ?_ _) | (with_reducible refine Below.drew ?_) | (with_reducible refine Below.trans ?_ (Below.mono (by with_reducible assumption) ?_)) | omega | (simp; done) | (simp; omega)))⟩
    · exfalso
      obtain ⟨j, hj, e⟩ := List.mem_iff_getElem.1 hm.out
      exact hall.out j (by omega) (by rw [el_get hj]; exact e)
open Go.Dr in
theorem dTellBreak_any (A : Option Addr) (n c : Nat) (w : World) (hn : n ≤ 65536) (hB : Byt w w.heap.size A n) :
    Calls Tryd.prog 9 #[.slice A n c] w fun e w' => ∃ (ad1 : Addr) (xs1 : List Brk) (c1 : Nat) (z2 : Int) (z3 : Int) (z4 : Int) (z5 : Int), e = .returned (.tuple #[.slice (some ad1) xs1.length c1, .int .i64 z2, .int .i64 z3, .int .i64 z4, .int .i64 z5]) ∧ xs1.length ≤ 20 ∧ Rd w' w'.heap.size (some ad1) 6 Brk.enc xs1 ∧ Below w.heap.size w w' := by
  refine (Dr.draw_calls dTellBreak_con rfl rfl (by decide) A n c w hn hB).mono ?_
  rintro e w' ⟨v, rfl, hv, hb⟩
  obtain ⟨u1, u2, u3, u4, u5, rfl, a1, a2, a3, a4, a5⟩ := tup5 hv
  obtain ⟨A1, xs1, c1, rfl, _, hl1, hr1, hn1, hx1⟩ := rows_of (k := 6) (tb := brkTab) (T := 26) brkTab_brk rfl (by omega) Brk.enc (fun g => ⟨g 0, g 1, g 2, g 3, g 4, g 5⟩) (fun _ => rfl) a1
  obtain ⟨ad1, rfl⟩ := hn1 (by omega)
  obtain ⟨z2, rfl, hz2a, hz2b⟩ := int_of a2
  obtain ⟨z3, rfl, hz3a, hz3b⟩ := int_of a3
  obtain ⟨z4, rfl, hz4a, hz4b⟩ := int_of a4
  obtain ⟨z5, rfl, hz5a, hz5b⟩ := int_of a5
  exact ⟨ad1, xs1, c1, z2, z3, z4, z5, rfl, hl1, hr1, hb⟩
open Go.Dr in
theorem dClearDone_any (A : Option Addr) (n c : Nat) (w : World) (hn : n ≤ 65536) (hB : Byt w w.heap.size A n) :
    Calls Tryd.prog 16 #[.slice A n c] w fun e w' => ∃ (ad1 : Addr) (xs1 : List Brk) (c1 : Nat), e = .returned (.slice (some ad1) xs1.length c1) ∧ xs1.length ≤ 20 ∧ Rd w' w'.heap.size (some ad1) 6 Brk.enc xs1 ∧ Below w.heap.size w w' := by
  refine (Dr.draw_calls dClearDone_con rfl rfl (by decide) A n c w hn hB).mono ?_
  rintro e w' ⟨v, rfl, hv, hb⟩
  have a1 := Dr.one_of hv
  obtain ⟨A1, xs1, c1, rfl, _, hl1, hr1, hn1, hx1⟩ := rows_of (k := 6) (tb := brkTab) (T := 26) brkTab_brk rfl (by omega) Brk.enc (fun g => ⟨g 0, g 1, g 2, g 3, g 4, g 5⟩) (fun _ => rfl) a1
  obtain ⟨ad1, rfl⟩ := hn1 (by omega)
  exact ⟨ad1, xs1, c1, rfl, hl1, hr1, hb⟩
open Go.Dr in
theorem dMetersLeft_any (A : Option Addr) (n c : Nat) (w : World) (hn : n ≤ 65536) (hB : Byt w w.heap.size A n) :
    Calls Tryd.prog 21 #[.slice A n c] w fun e w' => ∃ (ad1 : Addr) (xs1 : List Brk) (c1 : Nat) (z2 : Int), e = .returned (.tuple #[.slice (some ad1) xs1.length c1, .int .i64 z2]) ∧ xs1.length ≤ 20 ∧ Rd w' w'.heap.size (some ad1) 6 Brk.enc xs1 ∧ Below w.heap.size w w' := by
  refine (Dr.draw_calls dMetersLeft_con rfl rfl (by decide) A n c w hn hB).mono ?_
  rintro e w' ⟨v, rfl, hv, hb⟩
  obtain ⟨u1, u2, rfl, a1, a2⟩ := tup2 hv
  obtain ⟨A1, xs1, c1, rfl, _, hl1, hr1, hn1, hx1⟩ := rows_of (k := 6) (tb := brkTab) (T := 26) brkTab_brk rfl (by omega) Brk.enc (fun g => ⟨g 0, g 1, g 2, g 3, g 4, g 5⟩) (fun _ => rfl) a1
  obtain ⟨ad1, rfl⟩ := hn1 (by omega)
  obtain ⟨z2, rfl, hz2a, hz2b⟩ := int_of a2
  exact ⟨ad1, xs1, c1, z2, rfl, hl1, hr1, hb⟩
open Go.Dr in
theorem dBreakText_any (A : Option Addr) (n c : Nat) (w : World) (hn : n ≤ 65536) (hB : Byt w w.heap.size A n) :
    Calls Tryd.prog 23 #[.slice A n c] w fun e w' => ∃ (z1_0 : Int) (z1_1 : Int) (z1_2 : Int) (z1_3 : Int) (z1_4 : Int) (z1_5 : Int), e = .returned (.agg #[.int .i64 z1_0, .int .i64 z1_1, .int .i64 z1_2, .int .i64 z1_3, .int .i64 z1_4, .int .i64 z1_5]) ∧ Below w.heap.size w w' := by
  refine (Dr.draw_calls dBreakText_con rfl rfl (by decide) A n c w hn hB).mono ?_
  rintro e w' ⟨v, rfl, hv, hb⟩
  have a1 := Dr.one_of hv
  obtain ⟨g1, rfl, hg1⟩ := agg_of (k := 6) a1
  exact ⟨g1 0, g1 1, g1 2, g1 3, g1 4, g1 5, rfl, hb⟩
set_option maxHeartbeats 4000000 in
theorem rBreaks_same (A A' : Option Addr) (c c' : Nat) (xs : List Brk) (w : World) (h : Rd w w.heap.size A 6 Brk.enc xs) (h' : Rd w w.heap.size A' 6 Brk.enc xs) (hx : xs.length ≤ 1048576) :
    Calls Tryd.prog 12 #[.slice A xs.length c, .slice A' xs.length c'] w fun e w' => e = .returned (.bool true) ∧ Below w.heap.size w w' := by
  go_enter Tryd.func12, Tryd.ntmps12
  go_wp2
  go_loopw [5] (fun i wr => ∃ k : Nat, k ≤ xs.length ∧ i = .int .i64 k ∧ Below w.heap.size w wr) (fun i _ => xs.length - (intOf i).toNat)
  case atStart => exact ⟨0, Nat.zero_le _, rfl, Below.refl _ _⟩
  case round =>
    obtain ⟨k, hk, rfl, hb⟩ := hrel
    by_cases hlt : k < xs.length
    · obtain ⟨b, o, rfl, hB, c0, c1, c2, c3, c4, c5⟩ := brk_cells (h.below hb) hlt
      obtain ⟨b', o', rfl, hB', d0, d1, d2, d3, d4, d5⟩ := brk_cells (h'.below hb) hlt
      have hs := hb.size
      have hB1 : b < wr.heap.size := by omega
      have hB2 : b' < wr.heap.size := by omega
      have hI : (k : Int) < xs.length := by omega
      have hI0 : (0 : Int) ≤ k := by omega
      go_wp2_with fail
      refine wp_region_quiet_below (by kernel_rfl) (by kernel_rfl) ?_
      repeat (go_big_quiet_step (fail))
      (refine wpQuiet_nil ?_; intro w1 hwq; have hb1 := of_cls hwq; clear hwq)
      (have hs1 := hb1.size; (try simp at hs1); obtain ⟨hc1, hf1, hn1⟩ := bcell hb1; (try have hz1_wr_0 : wr.heap.size < w1.heap.size := by omega); (try have hz1_wr_1 : wr.heap.size + 1 < w1.heap.size := by omega); (try have hz1_wr_2 : wr.heap.size + 2 < w1.heap.size := by omega); (try have hB1 : b < w1.heap.size := by omega); (try have hB2 : b' < w1.heap.size := by omega); (try have hz1_wr_2b : wr.heap.size + 1 + 1 < w1.heap.size := by omega); (try have hz1_w_0 : w.heap.size < w1.heap.size := by omega); (try have hz1_w_1 : w.heap.size + 1 < w1.heap.size := by omega); (try have hz1_w_2 : w.heap.size + 2 < w1.heap.size := by omega); (try have hz1_w_2b : w.heap.size + 1 + 1 < w1.heap.size := by omega))
      go_wp2_with fail
      go_roundw
      case rel => exact ⟨k + 1, by omega, by go_num, (by repeat' (first | (with_reducible exact Below.refl _ _) | (with_reducible refine Below.alloc ?_ ?_ _) | (with_reducible refine Below.setCell ?_ ?_ _) | (with_reducible refine Below.drew ?_) | (with_reducible refine Below.trans ?_ (Below.mono (by with_reducible assumption) ?_)) | omega | (simp; done) | (simp; omega)))⟩
      case measure => simp [intOf]; omega
    · have hI : ¬ (k : Int) < xs.length := by omega
      go_wp2
      go_ret
      exact ⟨rfl, hb⟩
set_option maxHeartbeats 4000000 in
theorem rInts_same (A A' : Option Addr) (c c' : Nat) (xs : List Int) (w : World) (h : Rd w w.heap.size A 1 ie xs) (h' : Rd w w.heap.size A' 1 ie xs) (hx : xs.length ≤ 1048576) :
    Calls Tryd.prog 20 #[.slice A xs.length c, .slice A' xs.length c'] w fun e w' => e = .returned (.bool true) ∧ Below w.heap.size w w' := by
  go_enter Tryd.func20, Tryd.ntmps20
  go_wp2
  go_loopw [5] (fun i wr => ∃ k : Nat, k ≤ xs.length ∧ i = .int .i64 k ∧ Below w.heap.size w wr) (fun i _ => xs.length - (intOf i).toNat)
  case atStart => exact ⟨0, Nat.zero_le _, rfl, Below.refl _ _⟩
  case round =>
    obtain ⟨k, hk, rfl, hb⟩ := hrel
    by_cases hlt : k < xs.length
    · obtain ⟨b, o, rfl, hB, c0⟩ := int_cell (h.below hb) hlt
      obtain ⟨b', o', rfl, hB', d0⟩ := int_cell (h'.below hb) hlt
      have hs := hb.size
      have hB1 : b < wr.heap.size := by omega
      have hB2 : b' < wr.heap.size := by omega
      have hI : (k : Int) < xs.length := by omega
      have hI0 : (0 : Int) ≤ k := by omega
      go_wp2_with fail
      refine wp_region_quiet_below (by kernel_rfl) (by kernel_rfl) ?_
      repeat (go_big_quiet_step (fail))
      (refine wpQuiet_nil ?_; intro w1 hwq; have hb1 := of_cls hwq; clear hwq)
      (have hs1 := hb1.size; (try simp at hs1); obtain ⟨hc1, hf1, hn1⟩ := bcell hb1; (try have hz1_wr_0 : wr.heap.size < w1.heap.size := by omega); (try have hz1_wr_1 : wr.heap.size + 1 < w1.heap.size := by omega); (try have hz1_wr_2 : wr.heap.size + 2 < w1.heap.size := by omega); (try have hB1 : b < w1.heap.size := by omega); (try have hB2 : b' < w1.heap.size := by omega); (try have hz1_wr_2b : wr.heap.size + 1 + 1 < w1.heap.size := by omega); (try have hz1_w_0 : w.heap.size < w1.heap.size := by omega); (try have hz1_w_1 : w.heap.size + 1 < w1.heap.size := by omega); (try have hz1_w_2 : w.heap.size + 2 < w1.heap.size := by omega); (try have hz1_w_2b : w.heap.size + 1 + 1 < w1.heap.size := by omega))
      go_wp2_with fail
      go_roundw
      case rel => exact ⟨k + 1, by omega, by go_num, (by repeat' (first | (with_reducible exact Below.refl _ _) | (with_reducible refine Below.alloc ?_ ?_ _) | (with_reducible refine Below.setCell ?_ ?_ _) | (with_reducible refine Below.drew ?_) | (with_reducible refine Below.trans ?_ (Below.mono (by with_reducible assumption) ?_)) | omega | (simp; done) | (simp; omega)))⟩
      case measure => simp [intOf]; omega
    · have hI : ¬ (k : Int) < xs.length := by omega
      go_wp2
      go_ret
      exact ⟨rfl, hb⟩
theorem iMetersLeft_at {xs : List Brk} {p v : Int} {b : Bool} (hv : ml xs p = v ∧ mlB xs p = b) (A : Option Addr) (c : Nat) (w : World) (h : Rd w w.heap.size A 6 Brk.enc xs) (hx : xs.length ≤ 1048576) :
    Calls Tryd.prog 13 #[.slice A xs.length c, .int .i64 p] w fun e w' => e = .returned (.tuple #[.int .i64 v, .bool b]) ∧ Below w.heap.size w w' := by
  obtain ⟨rfl, rfl⟩ := hv; exact iMetersLeft_any A c xs p w h hx
theorem iNeedOrder_at {xs : List Brk} {b : Bool} (hv : brksOK xs = b) (A : Option Addr) (c : Nat) (w : World) (h : Rd w w.heap.size A 6 Brk.enc xs) (hx : xs.length ≤ 1048576) :
    Calls Tryd.prog 14 #[.slice A xs.length c] w fun e w' => MadeAt w 3 ((noR xs).flatMap ie) (noR xs).length (fun v => .returned (.tuple #[v, .bool b])) e w' := by
  subst hv; exact iNeedOrder_any A c xs w h hx
theorem iNeedOrder_len {xs : List Brk} {n : Nat} (hn : (noR xs).length = n) (A : Option Addr) (c : Nat) (w : World) (h : Rd w w.heap.size A 6 Brk.enc xs) (hx : xs.length ≤ 1048576) :
    Calls Tryd.prog 14 #[.slice A xs.length c] w fun e w' => MadeAt w 3 ((noR xs).flatMap ie) n (fun v => .returned (.tuple #[v, .bool (brksOK xs)])) e w' := by
  subst hn; exact iNeedOrder_any A c xs w h hx
theorem sNeedOrder_len {xs : List Brk} {n : Nat} (hn : (noR xs).length = n) (A : Option Addr) (c : Nat) (w : World) (h : Rd w w.heap.size A 6 Brk.enc xs) (hx : xs.length ≤ 1048576) :
    Calls Tryd.prog 19 #[.slice A xs.length c] w fun e w' => MadeAt w 3 ((noR xs).flatMap ie) n (fun v => .returned (.tuple #[v, .bool (brksOK xs)])) e w' := by
  subst hn; exact sNeedOrder_any A c xs w h hx
theorem rd_ints {w : World} {base n : Nat} {A : Option Addr} {zs : List Int} (h : OwnAt w base 3 (zs.flatMap ie) n A) (hn : zs.length = n) : Rd w w.heap.size A 1 ie zs := by
  subst hn; exact h.rd ie_len
theorem rHas_yes_len {n : Nat} (zs : List Int) (hn : zs.length = n) (A : Option Addr) (c : Nat) (x : Int) (w : World) (h : Rd w w.heap.size A 1 ie zs) (hx : n ≤ 1048576) (hm : Hid (x ∈ zs)) :
    Calls Tryd.prog 15 #[.slice A n c, .int .i64 x] w fun e w' => e = .returned (.bool true) ∧ Below w.heap.size w w' := by
  subst hn; exact rHas_yes A c zs x w h hx hm
theorem rInts_len {n : Nat} (zs : List Int) (hn : zs.length = n) (A A' : Option Addr) (c c' : Nat) (w : World) (h : Rd w w.heap.size A 1 ie zs) (h' : Rd w w.heap.size A' 1 ie zs) (hx : n ≤ 1048576) :
    Calls Tryd.prog 20 #[.slice A n c, .slice A' n c'] w fun e w' => e = .returned (.bool true) ∧ Below w.heap.size w w' := by
  subst hn; exact rInts_same A A' c c' zs w h h' hx
theorem iBreakText_at {i p m g t d : Int} {s : ByteArray} {b : Bool} (hv : (if brkOK i p m g t d then btS p d m g else ⟨#[]⟩) = s ∧ brkOK i p m g t d = b) (w : World) : Calls Tryd.prog 7 #[.agg #[.int .i64 i, .int .i64 p, .int .i64 m, .int .i64 g, .int .i64 t, .int .i64 d]] w fun e w' => e = .returned (.tuple #[.string s, .bool b]) ∧ Below w.heap.size w w' := by
  obtain ⟨rfl, rfl⟩ := hv; exact iBreakText_any i p m g t d w
theorem sBreakText_at {i p m g t d : Int} {s : ByteArray} {b : Bool} (hv : (if brkOK i p m g t d then btS p d m g else ⟨#[]⟩) = s ∧ brkOK i p m g t d = b) (w : World) : Calls Tryd.prog 5 #[.agg #[.int .i64 i, .int .i64 p, .int .i64 m, .int .i64 g, .int .i64 t, .int .i64 d]] w fun e w' => e = .returned (.tuple #[.string s, .bool b]) ∧ Below w.heap.size w w' := by
  obtain ⟨rfl, rfl⟩ := hv; exact sBreakText_any i p m g t d w
theorem isBreak_at {i p m g t d : Int} {b : Bool} (hv : brkOK i p m g t d = b) (w : World) : Calls Tryd.prog 24 #[.agg #[.int .i64 i, .int .i64 p, .int .i64 m, .int .i64 g, .int .i64 t, .int .i64 d]] w fun e w' => e = .returned (.bool b) ∧ Below w.heap.size w w' := by
  subst hv; exact isBreak_any i p m g t d w
set_option maxRecDepth 100000 in
set_option maxHeartbeats 40000000 in
theorem FnBanks_p12 {u1 u2 u3 u4 u5 u6 u7 u8 u9 u10 u11 u12 u13 u14 u15 u16 u17 u18 u19 u20 u21 u22 u23 u24 u25 u26 u27 u28 u29 u30 u31 u32 u33 u34 u35 u36 u37 u38 u39 u40 u41 u42 u43 u44 u45 u46 u47 u48 u49 u50 u51 u52 u53 u54 u55 u56 u57 u58 u59 u60 u61 u62 u63 u64 u65 u66 u67 u68 u69 u70 u71 u72 u73 u74 u75 u76 u77 u78 u79 u80 u81 u82 u83 u84 u85 u86 u87 u88 u89 u90 u91 u92 u93 u94 u95 u96 u97 u98 u99 u100 u101 u102 u103 u104 u105 u106 u107 u108 u109 u110 u111 u112 u113 u114 u115 u116 u117 u118 u119 u120 u121 u122 u123 u124 u125 u126 u127 u128 u129 u130 u131 u132 u133 u134 u135 u136 u137 u138 u139 u140 u141 u142 u143 u144 u145 u146 u147 u148 u149 u150 u151 u152 u153 u154 u155 u156 u157 u158 u159 u160 u161 u162 u163 u164 u165 u166 u167 u168 u169 u170 u171 u172 u173 u174 u175 u176 u177 u178 u179 u180 u181 u182 u183 u184 u185 u186 u187 u188 u189 u190 u191 u192 u193 u194 u195 u196 u197 u198 u199 u200 u201 u202 u203 u204 u205 u206 u207 u208 u209 u210 u211 u212 u213 u214 u215 u216 u217 u218 u219 u220 u221 u222 u223 u224 u225 u226 u227 u228 u229 u230 u231 u232 u233 u234 u235 u236 u237 u238 u239 u240 u241 u242 u243 u244 u245 u246 u247 u248 u249 u250 u251 u252 u253 u254 u255 u256 : Value} (A : Option Addr) (n c : Nat) (w wc : World) (hn : n ≤ 65536) (hB : Byt w w.heap.size A n) (h_below : Below w.heap.size w wc) (K : Act → World → Prop) (hK : ∀ a w1, (tailOf 13 (Tryd.f4.body.getD .skip)).wp Tryd.prog (bodyPost Tryd.prog Tryd.f4 fun e w' => e = .returned (.bool true) ∧ Below w.heap.size w w') a w1 → K a w1) :
    (headOf (tailOf 12 (Tryd.f4.body.getD .skip))).wp Tryd.prog (Exit.then K (bodyPost Tryd.prog Tryd.f4 fun e w' => e = .returned (.bool true) ∧ Below w.heap.size w w')) ⟨#[.slice A n c, u1, u2, u3, u4, u5, u6, u7, u8, u9, u10, u11, u12, u13, u14, u15, u16, u17, u18, u19, u20, u21, u22, u23, u24, u25, u26, u27, u28, u29, u30, u31, u32, u33, u34, u35, u36, u37, u38, u39, u40, u41, u42, u43, u44, u45, u46, u47, u48, u49, u50, u51, u52, u53, u54, u55, u56, u57, u58, u59, u60, u61, u62, u63, u64, u65, u66, u67, u68, u69, u70, u71, u72, u73, u74, u75, u76, u77, u78, u79, u80, u81, u82, u83, u84, u85, u86, u87, u88, u89, u90, u91, u92, u93, u94, u95, u96, u97, u98, u99, u100, u101, u102, u103, u104, u105, u106, u107, u108, u109, u110, u111, u112, u113, u114, u115, u116, u117, u118, u119, u120, u121, u122, u123, u124, u125, u126, u127, u128, u129, u130, u131, u132, u133, u134, u135, u136, u137, u138, u139, u140, u141, u142, u143, u144, u145, u146, u147, u148, u149, u150, u151, u152, u153, u154, u155, u156, u157, u158, u159, u160, u161, u162, u163, u164, u165, u166, u167, u168, u169, u170, u171, u172, u173, u174, u175, u176, u177, u178, u179, u180, u181, u182, u183, u184, u185, u186, u187, u188, u189, u190, u191, u192, u193, u194, u195, u196, u197, u198, u199, u200, u201, u202, u203, u204, u205, u206, u207, u208, u209, u210, u211, u212, u213, u214, u215, u216, u217, u218, u219, u220, u221, u222, u223, u224, u225, u226, u227, u228, u229, u230, u231, u232, u233, u234, u235, u236, u237, u238, u239, u240, u241, u242, u243, u244, u245, u246, u247, u248, u249, u250, u251, u252, u253, u254, u255, u256], []⟩ wc := by
  have s_below := h_below.size
  simp only [tailOf, headOf, Option.getD, Tryd.f4] at hK ⊢
  go_wp2_with fail
  refine Dr.cut_calls (fun X => (Below w.heap.size w X)) ((by repeat' (first | (with_reducible exact Below.refl _ _) | (with_reducible refine Below.alloc ?_ ?_ _) | (with_reducible refine Below.setCell ?_ ?_ _) | (with_reducible refine Below.drew ?_) | (with_reducible refine Below.trans ?_ (Below.mono (by with_reducible assumption) ?_)) | omega | (simp; done) | (simp; omega)))) ?_
  clear h_below s_below
  intro Y1 h_below
  refine (dMetersLeft_any _ _ _ _ hn (Dr.byt_more (hB.below h_below) h_below.size)).mono ?_
  rintro e X1 ⟨ad3, xs3, c3, p3, rfl, hl3, hr3, hb1⟩
  have h_below0 := h_below
  replace h_below := h_below.trans (hb1.mono h_below.size)
  clear hb1
  have h_x3 := hr3
  clear h_below0
  have s_below := h_below.size
  go_wp2_with fail
  refine Dr.cut_calls (fun X => (Below w.heap.size w X) ∧ (Rd X X.heap.size (some ad3) 6 Brk.enc xs3)) ⟨(by repeat' (first | (with_reducible exact Below.refl _ _) | (with_reducible refine Below.alloc ?_ ?_ _) | (with_reducible refine Below.setCell ?_ ?_ _) | (with_reducible refine Below.drew ?_) | (with_reducible refine Below.trans ?_ (Below.mono (by with_reducible assumption) ?_)) | omega | (simp; done) | (simp; omega))), (h_x3.to (by repeat' (first | (with_reducible exact Below.refl _ _) | (with_reducible refine Below.alloc ?_ ?_ _) | (with_reducible refine Below.setCell ?_ ?_ _) | (with_reducible refine Below.drew ?_) | (with_reducible refine Below.trans ?_ (Below.mono (by with_reducible assumption) ?_)) | omega | (simp; done) | (simp; omega))))⟩ ?_
  clear h_below s_below h_x3
  rintro Y2 ⟨h_below, h_x3⟩
  refine (iMetersLeft_any _ _ _ _ _ h_x3 (by omega)).mono ?_
  rintro e X2 ⟨rfl, hb2⟩
  have h_below0 := h_below
  replace h_below := h_below.trans (hb2.mono h_below.size)
  replace h_x3 := h_x3.to hb2
  clear hb2
  clear h_below0
  have s_below := h_below.size
  go_wp2_with fail
  refine Dr.cut_calls (fun X => (Below w.heap.size w X) ∧ (Rd X X.heap.size (some ad3) 6 Brk.enc xs3)) ⟨(by repeat' (first | (with_reducible exact Below.refl _ _) | (with_reducible refine Below.alloc ?_ ?_ _) | (with_reducible refine Below.setCell ?_ ?_ _) | (with_reducible refine Below.drew ?_) | (with_reducible refine Below.trans ?_ (Below.mono (by with_reducible assumption) ?_)) | omega | (simp; done) | (simp; omega))), (h_x3.to (by repeat' (first | (with_reducible exact Below.refl _ _) | (with_reducible refine Below.alloc ?_ ?_ _) | (with_reducible refine Below.setCell ?_ ?_ _) | (with_reducible refine Below.drew ?_) | (with_reducible refine Below.trans ?_ (Below.mono (by with_reducible assumption) ?_)) | omega | (simp; done) | (simp; omega))))⟩ ?_
  clear h_below s_below h_x3
  rintro Y3 ⟨h_below, h_x3⟩
  refine (sMetersLeft_any _ _ _ _ _ h_x3 (by omega)).mono ?_
  rintro e X3 ⟨rfl, hb3⟩
  have h_below0 := h_below
  replace h_below := h_below.trans (hb3.mono h_below.size)
  clear hb3
  clear h_below0
  have s_below := h_below.size
  clear h_x3
  go_wp2_with fail
  refine Dr.cut_calls (fun X => (Below w.heap.size w X)) ((by repeat' (first | (with_reducible exact Below.refl _ _) | (with_reducible refine Below.alloc ?_ ?_ _) | (with_reducible refine Below.setCell ?_ ?_ _) | (with_reducible refine Below.drew ?_) | (with_reducible refine Below.trans ?_ (Below.mono (by with_reducible assumption) ?_)) | omega | (simp; done) | (simp; omega)))) ?_
  clear h_below s_below
  intro Y4 h_below
  refine (dBreakText_any _ _ _ _ hn (Dr.byt_more (hB.below h_below) h_below.size)).mono ?_
  rintro e X4 ⟨z0, z1, z2, z3, z4, z5, rfl, hb4⟩
  have h_below0 := h_below
  replace h_below := h_below.trans (hb4.mono h_below.size)
  clear hb4
  clear h_below0
  have s_below := h_below.size
  obtain ⟨s, hs⟩ : ∃ s, (if brkOK z0 z1 z2 z3 z4 z5 then btS z1 z5 z2 z3 else ⟨#[]⟩) = s := ⟨_, rfl⟩
  obtain ⟨t, ht⟩ : ∃ t, brkOK z0 z1 z2 z3 z4 z5 = t := ⟨_, rfl⟩
  have hst := Lib.hid (And.intro hs ht)
  have ht := Lib.hid ht
  clear hs
  go_wp2_with fail
  refine Dr.cut_calls (fun X => (Below w.heap.size w X) ∧ (Row X (X4.heap.size) 26 [.int .i64 z0, .int .i64 z1, .int .i64 z2, .int .i64 z3, .int .i64 z4, .int .i64 z5])) ⟨(by repeat' (first | (with_reducible exact Below.refl _ _) | (with_reducible refine Below.alloc ?_ ?_ _) | (with_reducible refine Below.setCell ?_ ?_ _) | (with_reducible refine Below.drew ?_) | (with_reducible refine Below.trans ?_ (Below.mono (by with_reducible assumption) ?_)) | omega | (simp; done) | (simp; omega))), (by first | exact Row.new _ _ _ | exact (Row.new _ _ _).to (by repeat' (first | (with_reducible exact Below.refl _ _) | (with_reducible refine Below.alloc ?_ ?_ _) | (with_reducible refine Below.setCell ?_ ?_ _) | (with_reducible refine Below.drew ?_) | (with_reducible refine Below.trans ?_ (Below.mono (by with_reducible assumption) ?_)) | omega | (simp; done) | (simp; omega))) | exact row_new_at _ _ _ _ (by simp) | exact (row_new_at _ _ _ _ (by simp)).to (by repeat' (first | (with_reducible exact Below.refl _ _) | (with_reducible refine Below.alloc ?_ ?_ _) | (with_reducible refine Below.setCell ?_ ?_ _) | (with_reducible refine Below.drew ?_) | (with_reducible refine Below.trans ?_ (Below.mono (by with_reducible assumption) ?_)) | omega | (simp; done) | (simp; omega))))⟩ ?_
  clear h_below s_below
  obtain ⟨BX5, hBX5⟩ : ∃ B, X4.heap.size = B := ⟨_, rfl⟩
  simp only [hBX5]
  clear hBX5
  rintro Y5 ⟨h_below, h_pb⟩
  refine (iBreakText_at hst.out _).mono ?_
  rintro e X5 ⟨rfl, hb5⟩
  have h_below0 := h_below
  replace h_below := h_below.trans (hb5.mono h_below.size)
  replace h_pb := Row.to h_pb hb5
  clear hb5
  clear h_below0
  have s_below := h_below.size
  have l_pb := Row.lt h_pb
  have z_pb := Row.frozen h_pb
  obtain ⟨c_pb0, c_pb1, c_pb2, c_pb3, c_pb4, c_pb5⟩ := row6c h_pb
  go_wp2_with fail
  refine Dr.cut_calls (fun X => (Below w.heap.size w X) ∧ (Row X (BX5) 26 [.int .i64 z0, .int .i64 z1, .int .i64 z2, .int .i64 z3, .int .i64 z4, .int .i64 z5])) ⟨(by repeat' (first | (with_reducible exact Below.refl _ _) | (with_reducible refine Below.alloc ?_ ?_ _) | (with_reducible refine Below.setCell ?_ ?_ _) | (with_reducible refine Below.drew ?_) | (with_reducible refine Below.trans ?_ (Below.mono (by with_reducible assumption) ?_)) | omega | (simp; done) | (simp; omega))), (Row.to h_pb (by repeat' (first | (with_reducible exact Below.refl _ _) | (with_reducible refine Below.alloc ?_ ?_ _) | (with_reducible refine Below.setCell ?_ ?_ _) | (with_reducible refine Below.drew ?_) | (with_reducible refine Below.trans ?_ (Below.mono (by with_reducible assumption) ?_)) | omega | (simp; done) | (simp; omega))))⟩ ?_
  clear h_below s_below h_pb l_pb z_pb c_pb0 c_pb1 c_pb2 c_pb3 c_pb4 c_pb5
  rintro Y6 ⟨h_below, h_pb⟩
  refine (sBreakText_at hst.out _).mono ?_
  rintro e X6 ⟨rfl, hb6⟩
  have h_below0 := h_below
  replace h_below := h_below.trans (hb6.mono h_below.size)
  replace h_pb := Row.to h_pb hb6
  clear hb6
  clear h_below0
  have s_below := h_below.size
  have l_pb := Row.lt h_pb
  have z_pb := Row.frozen h_pb
  obtain ⟨c_pb0, c_pb1, c_pb2, c_pb3, c_pb4, c_pb5⟩ := row6c h_pb
  go_wp2_with fail
  refine Dr.cut_calls (fun X => (Below w.heap.size w X) ∧ (Row X (BX5) 26 [.int .i64 z0, .int .i64 z1, .int .i64 z2, .int .i64 z3, .int .i64 z4, .int .i64 z5])) ⟨(by repeat' (first | (with_reducible exact Below.refl _ _) | (with_reducible refine Below.alloc ?_ ?_ _) | (with_reducible refine Below.setCell ?_ ?_ _) | (with_reducible refine Below.drew ?_) | (with_reducible refine Below.trans ?_ (Below.mono (by with_reducible assumption) ?_)) | omega | (simp; done) | (simp; omega))), (Row.to h_pb (by repeat' (first | (with_reducible exact Below.refl _ _) | (with_reducible refine Below.alloc ?_ ?_ _) | (with_reducible refine Below.setCell ?_ ?_ _) | (with_reducible refine Below.drew ?_) | (with_reducible refine Below.trans ?_ (Below.mono (by with_reducible assumption) ?_)) | omega | (simp; done) | (simp; omega))))⟩ ?_
  clear h_below s_below h_pb l_pb z_pb c_pb0 c_pb1 c_pb2 c_pb3 c_pb4 c_pb5
  rintro Y7 ⟨h_below, h_pb⟩
  refine (isBreak_at ht.out _).mono ?_
  rintro e X7 ⟨rfl, hb7⟩
  have h_below0 := h_below
  replace h_below := h_below.trans (hb7.mono h_below.size)
  replace h_pb := Row.to h_pb hb7
  clear hb7
  clear h_below0
  have s_below := h_below.size
  have l_pb := Row.lt h_pb
  have z_pb := Row.frozen h_pb
  obtain ⟨c_pb0, c_pb1, c_pb2, c_pb3, c_pb4, c_pb5⟩ := row6c h_pb
  go_wp2_with fail
  go_ret
  exact ⟨rfl, h_below.trans (by repeat' (first | (with_reducible exact Below.refl _ _) | (with_reducible refine Below.alloc ?_ ?_ _) | (with_reducible refine Below.setCell ?_ ?_ _) | (with_reducible refine Below.drew ?_) | (with_reducible refine Below.trans ?_ (Below.mono (by with_reducible assumption) ?_)) | omega | (simp; done) | (simp; omega)))⟩
set_option maxRecDepth 100000 in
set_option maxHeartbeats 40000000 in
theorem FnBanks_p6 {u1 u2 u3 u4 u5 u6 u7 u8 u9 u10 u11 u12 u13 u14 u15 u16 u17 u18 u19 u20 u21 u22 u23 u24 u25 u26 u27 u28 u29 u30 u31 u32 u33 u34 u35 u36 u37 u38 u39 u40 u41 u42 u43 u44 u45 u46 u47 u48 u49 u50 u51 u52 u53 u54 u55 u56 u57 u58 u59 u60 u61 u62 u63 u64 u65 u66 u67 u68 u69 u70 u71 u72 u73 u74 u75 u76 u77 u78 u79 u80 u81 u82 u83 u84 u85 u86 u87 u88 u89 u90 u91 u92 u93 u94 u95 u96 u97 u98 u99 u100 u101 u102 u103 u104 u105 u106 u107 u108 u109 u110 u111 u112 u113 u114 u115 u116 u117 u118 u119 u120 u121 u122 u123 u124 u125 u126 u127 u128 u129 u130 u131 u132 u133 u134 u135 u136 u137 u138 u139 u140 u141 u142 u143 u144 u145 u146 u147 u148 u149 u150 u151 u152 u153 u154 u155 u156 u157 u158 u159 u160 u161 u162 u163 u164 u165 u166 u167 u168 u169 u170 u171 u172 u173 u174 u175 u176 u177 u178 u179 u180 u181 u182 u183 u184 u185 u186 u187 u188 u189 u190 u191 u192 u193 u194 u195 u196 u197 u198 u199 u200 u201 u202 u203 u204 u205 u206 u207 u208 u209 u210 u211 u212 u213 u214 u215 u216 u217 u218 u219 u220 u221 u222 u223 u224 u225 u226 u227 u228 u229 u230 u231 u232 u233 u234 u235 u236 u237 u238 u239 u240 u241 u242 u243 u244 u245 u246 u247 u248 u249 u250 u251 u252 u253 u254 u255 u256 : Value} (A : Option Addr) (n c : Nat) (w wc : World) (hn : n ≤ 65536) (hB : Byt w w.heap.size A n) (h_below : Below w.heap.size w wc) (K : Act → World → Prop) (hK : ∀ a w1, (tailOf 7 (Tryd.f4.body.getD .skip)).wp Tryd.prog (bodyPost Tryd.prog Tryd.f4 fun e w' => e = .returned (.bool true) ∧ Below w.heap.size w w') a w1 → K a w1) :
    (headOf (tailOf 6 (Tryd.f4.body.getD .skip))).wp Tryd.prog (Exit.then K (bodyPost Tryd.prog Tryd.f4 fun e w' => e = .returned (.bool true) ∧ Below w.heap.size w w')) ⟨#[.slice A n c, u1, u2, u3, u4, u5, u6, u7, u8, u9, u10, u11, u12, u13, u14, u15, u16, u17, u18, u19, u20, u21, u22, u23, u24, u25, u26, u27, u28, u29, u30, u31, u32, u33, u34, u35, u36, u37, u38, u39, u40, u41, u42, u43, u44, u45, u46, u47, u48, u49, u50, u51, u52, u53, u54, u55, u56, u57, u58, u59, u60, u61, u62, u63, u64, u65, u66, u67, u68, u69, u70, u71, u72, u73, u74, u75, u76, u77, u78, u79, u80, u81, u82, u83, u84, u85, u86, u87, u88, u89, u90, u91, u92, u93, u94, u95, u96, u97, u98, u99, u100, u101, u102, u103, u104, u105, u106, u107, u108, u109, u110, u111, u112, u113, u114, u115, u116, u117, u118, u119, u120, u121, u122, u123, u124, u125, u126, u127, u128, u129, u130, u131, u132, u133, u134, u135, u136, u137, u138, u139, u140, u141, u142, u143, u144, u145, u146, u147, u148, u149, u150, u151, u152, u153, u154, u155, u156, u157, u158, u159, u160, u161, u162, u163, u164, u165, u166, u167, u168, u169, u170, u171, u172, u173, u174, u175, u176, u177, u178, u179, u180, u181, u182, u183, u184, u185, u186, u187, u188, u189, u190, u191, u192, u193, u194, u195, u196, u197, u198, u199, u200, u201, u202, u203, u204, u205, u206, u207, u208, u209, u210, u211, u212, u213, u214, u215, u216, u217, u218, u219, u220, u221, u222, u223, u224, u225, u226, u227, u228, u229, u230, u231, u232, u233, u234, u235, u236, u237, u238, u239, u240, u241, u242, u243, u244, u245, u246, u247, u248, u249, u250, u251, u252, u253, u254, u255, u256], []⟩ wc := by
  have s_below := h_below.size
  simp only [tailOf, headOf, Option.getD, Tryd.f4] at hK ⊢
  go_wp2_with fail
  refine Dr.cut_calls (fun X => (Below w.heap.size w X)) ((by repeat' (first | (with_reducible exact Below.refl _ _) | (with_reducible refine Below.alloc ?_ ?_ _) | (with_reducible refine Below.setCell ?_ ?_ _) | (with_reducible refine Below.drew ?_) | (with_reducible refine Below.trans ?_ (Below.mono (by with_reducible assumption) ?_)) | omega | (simp; done) | (simp; omega)))) ?_
  clear h_below s_below
  intro Y1 h_below
  refine (dClearDone_any _ _ _ _ hn (Dr.byt_more (hB.below h_below) h_below.size)).mono ?_
  rintro e X1 ⟨ad2, xs2, c2, rfl, hl2, hr2, hb1⟩
  have h_below0 := h_below
  replace h_below := h_below.trans (hb1.mono h_below.size)
  clear hb1
  have h_x2 := hr2
  clear h_below0
  have s_below := h_below.size
  have hcl := cdR_len xs2
  have hcn := Lib.hid (cd_len (xs := xs2))
  go_wp2_with fail
  refine Dr.cut_calls (fun X => (Below w.heap.size w X) ∧ (Rd X X.heap.size (some ad2) 6 Brk.enc xs2)) ⟨(by repeat' (first | (with_reducible exact Below.refl _ _) | (with_reducible refine Below.alloc ?_ ?_ _) | (with_reducible refine Below.setCell ?_ ?_ _) | (with_reducible refine Below.drew ?_) | (with_reducible refine Below.trans ?_ (Below.mono (by with_reducible assumption) ?_)) | omega | (simp; done) | (simp; omega))), (h_x2.to (by repeat' (first | (with_reducible exact Below.refl _ _) | (with_reducible refine Below.alloc ?_ ?_ _) | (with_reducible refine Below.setCell ?_ ?_ _) | (with_reducible refine Below.drew ?_) | (with_reducible refine Below.trans ?_ (Below.mono (by with_reducible assumption) ?_)) | omega | (simp; done) | (simp; omega))))⟩ ?_
  clear h_below s_below h_x2
  rintro Y2 ⟨h_below, h_x2⟩
  refine (iClearDone_any _ _ _ _ h_x2 (by omega)).mono ?_
  rintro e X2 ⟨A4, c4, rfl, ho4, hb2⟩
  have h_below0 := h_below
  replace h_below := h_below.trans (hb2.mono h_below.size)
  replace h_x2 := h_x2.to hb2
  clear hb2
  have h_o4 := ho4.mono h_below0.size
  clear h_below0
  have s_below := h_below.size
  go_wp2_with fail
  refine Dr.cut_calls (fun X => (Below w.heap.size w X) ∧ (Rd X X.heap.size (some ad2) 6 Brk.enc xs2) ∧ (OwnAt X w.heap.size 26 (((cdR xs2)).flatMap Brk.enc) ((cdR xs2)).length A4)) ⟨(by repeat' (first | (with_reducible exact Below.refl _ _) | (with_reducible refine Below.alloc ?_ ?_ _) | (with_reducible refine Below.setCell ?_ ?_ _) | (with_reducible refine Below.drew ?_) | (with_reducible refine Below.trans ?_ (Below.mono (by with_reducible assumption) ?_)) | omega | (simp; done) | (simp; omega))), (h_x2.to (by repeat' (first | (with_reducible exact Below.refl _ _) | (with_reducible refine Below.alloc ?_ ?_ _) | (with_reducible refine Below.setCell ?_ ?_ _) | (with_reducible refine Below.drew ?_) | (with_reducible refine Below.trans ?_ (Below.mono (by with_reducible assumption) ?_)) | omega | (simp; done) | (simp; omega)))), (h_o4.to (by repeat' (first | (with_reducible exact Below.refl _ _) | (with_reducible refine Below.alloc ?_ ?_ _) | (with_reducible refine Below.setCell ?_ ?_ _) | (with_reducible refine Below.drew ?_) | (with_reducible refine Below.trans ?_ (Below.mono (by with_reducible assumption) ?_)) | omega | (simp; done) | (simp; omega))))⟩ ?_
  clear h_below s_below h_x2 h_o4
  rintro Y3 ⟨h_below, h_x2, h_o4⟩
  refine (sClearDone_any _ _ _ _ h_x2 (by omega)).mono ?_
  rintro e X3 ⟨A5, c5, rfl, ho5, hb3⟩
  have h_below0 := h_below
  replace h_below := h_below.trans (hb3.mono h_below.size)
  replace h_x2 := h_x2.to hb3
  replace h_o4 := h_o4.to hb3
  clear hb3
  have h_o5 := ho5.mono h_below0.size
  clear h_below0
  have s_below := h_below.size
  go_wp2_with fail
  refine Dr.cut_calls (fun X => (Below w.heap.size w X) ∧ (Rd X X.heap.size (some ad2) 6 Brk.enc xs2) ∧ (OwnAt X w.heap.size 26 (((cdR xs2)).flatMap Brk.enc) ((cdR xs2)).length A4) ∧ (OwnAt X w.heap.size 26 (((cdR xs2)).flatMap Brk.enc) ((cdR xs2)).length A5)) ⟨(by repeat' (first | (with_reducible exact Below.refl _ _) | (with_reducible refine Below.alloc ?_ ?_ _) | (with_reducible refine Below.setCell ?_ ?_ _) | (with_reducible refine Below.drew ?_) | (with_reducible refine Below.trans ?_ (Below.mono (by with_reducible assumption) ?_)) | omega | (simp; done) | (simp; omega))), (h_x2.to (by repeat' (first | (with_reducible exact Below.refl _ _) | (with_reducible refine Below.alloc ?_ ?_ _) | (with_reducible refine Below.setCell ?_ ?_ _) | (with_reducible refine Below.drew ?_) | (with_reducible refine Below.trans ?_ (Below.mono (by with_reducible assumption) ?_)) | omega | (simp; done) | (simp; omega)))), (h_o4.to (by repeat' (first | (with_reducible exact Below.refl _ _) | (with_reducible refine Below.alloc ?_ ?_ _) | (with_reducible refine Below.setCell ?_ ?_ _) | (with_reducible refine Below.drew ?_) | (with_reducible refine Below.trans ?_ (Below.mono (by with_reducible assumption) ?_)) | omega | (simp; done) | (simp; omega)))), (h_o5.to (by repeat' (first | (with_reducible exact Below.refl _ _) | (with_reducible refine Below.alloc ?_ ?_ _) | (with_reducible refine Below.setCell ?_ ?_ _) | (with_reducible refine Below.drew ?_) | (with_reducible refine Below.trans ?_ (Below.mono (by with_reducible assumption) ?_)) | omega | (simp; done) | (simp; omega))))⟩ ?_
  clear h_below s_below h_x2 h_o4 h_o5
  rintro Y4 ⟨h_below, h_x2, h_o4, h_o5⟩
  refine (rBreaks_same _ _ _ _ _ _ (h_o4.rd Brk.enc_len) (h_o5.rd Brk.enc_len) (by omega)).mono ?_
  rintro e X4 ⟨rfl, hb4⟩
  have h_below0 := h_below
  replace h_below := h_below.trans (hb4.mono h_below.size)
  replace h_x2 := h_x2.to hb4
  replace h_o4 := h_o4.to hb4
  clear hb4
  clear h_below0
  have s_below := h_below.size
  clear h_o5
  go_wp2_with fail
  refine Dr.cut_calls (fun X => (Below w.heap.size w X) ∧ (Rd X X.heap.size (some ad2) 6 Brk.enc xs2) ∧ (OwnAt X w.heap.size 26 (((cdR xs2)).flatMap Brk.enc) ((cdR xs2)).length A4)) ⟨(by repeat' (first | (with_reducible exact Below.refl _ _) | (with_reducible refine Below.alloc ?_ ?_ _) | (with_reducible refine Below.setCell ?_ ?_ _) | (with_reducible refine Below.drew ?_) | (with_reducible refine Below.trans ?_ (Below.mono (by with_reducible assumption) ?_)) | omega | (simp; done) | (simp; omega))), (h_x2.to (by repeat' (first | (with_reducible exact Below.refl _ _) | (with_reducible refine Below.alloc ?_ ?_ _) | (with_reducible refine Below.setCell ?_ ?_ _) | (with_reducible refine Below.drew ?_) | (with_reducible refine Below.trans ?_ (Below.mono (by with_reducible assumption) ?_)) | omega | (simp; done) | (simp; omega)))), (h_o4.to (by repeat' (first | (with_reducible exact Below.refl _ _) | (with_reducible refine Below.alloc ?_ ?_ _) | (with_reducible refine Below.setCell ?_ ?_ _) | (with_reducible refine Below.drew ?_) | (with_reducible refine Below.trans ?_ (Below.mono (by with_reducible assumption) ?_)) | omega | (simp; done) | (simp; omega))))⟩ ?_
  clear h_below s_below h_x2 h_o4
  rintro Y5 ⟨h_below, h_x2, h_o4⟩
  refine (iNeedOrder_len hcn.out _ _ _ h_x2 (by omega)).mono ?_
  rintro e X5 ⟨A6, c6, rfl, ho6, hb5⟩
  have h_below0 := h_below
  replace h_below := h_below.trans (hb5.mono h_below.size)
  replace h_x2 := h_x2.to hb5
  replace h_o4 := h_o4.to hb5
  clear hb5
  have h_o6 := ho6.mono h_below0.size
  clear h_below0
  have s_below := h_below.size
  go_wp2_with fail
  refine Dr.cut_calls (fun X => (Below w.heap.size w X) ∧ (Rd X X.heap.size (some ad2) 6 Brk.enc xs2) ∧ (OwnAt X w.heap.size 26 (((cdR xs2)).flatMap Brk.enc) ((cdR xs2)).length A4) ∧ (OwnAt X w.heap.size 3 ((noR xs2).flatMap ie) (cdR xs2).length A6)) ⟨(by repeat' (first | (with_reducible exact Below.refl _ _) | (with_reducible refine Below.alloc ?_ ?_ _) | (with_reducible refine Below.setCell ?_ ?_ _) | (with_reducible refine Below.drew ?_) | (with_reducible refine Below.trans ?_ (Below.mono (by with_reducible assumption) ?_)) | omega | (simp; done) | (simp; omega))), (h_x2.to (by repeat' (first | (with_reducible exact Below.refl _ _) | (with_reducible refine Below.alloc ?_ ?_ _) | (with_reducible refine Below.setCell ?_ ?_ _) | (with_reducible refine Below.drew ?_) | (with_reducible refine Below.trans ?_ (Below.mono (by with_reducible assumption) ?_)) | omega | (simp; done) | (simp; omega)))), (h_o4.to (by repeat' (first | (with_reducible exact Below.refl _ _) | (with_reducible refine Below.alloc ?_ ?_ _) | (with_reducible refine Below.setCell ?_ ?_ _) | (with_reducible refine Below.drew ?_) | (with_reducible refine Below.trans ?_ (Below.mono (by with_reducible assumption) ?_)) | omega | (simp; done) | (simp; omega)))), (h_o6.to (by repeat' (first | (with_reducible exact Below.refl _ _) | (with_reducible refine Below.alloc ?_ ?_ _) | (with_reducible refine Below.setCell ?_ ?_ _) | (with_reducible refine Below.drew ?_) | (with_reducible refine Below.trans ?_ (Below.mono (by with_reducible assumption) ?_)) | omega | (simp; done) | (simp; omega))))⟩ ?_
  clear h_below s_below h_x2 h_o4 h_o6
  rintro Y6 ⟨h_below, h_x2, h_o4, h_o6⟩
  refine (sNeedOrder_len hcn.out _ _ _ h_x2 (by omega)).mono ?_
  rintro e X6 ⟨A7, c7, rfl, ho7, hb6⟩
  have h_below0 := h_below
  replace h_below := h_below.trans (hb6.mono h_below.size)
  replace h_o4 := h_o4.to hb6
  replace h_o6 := h_o6.to hb6
  clear hb6
  have h_o7 := ho7.mono h_below0.size
  clear h_below0
  have s_below := h_below.size
  clear h_x2
  go_wp2_with fail
  refine Dr.cut_calls (fun X => (Below w.heap.size w X) ∧ (OwnAt X w.heap.size 26 (((cdR xs2)).flatMap Brk.enc) ((cdR xs2)).length A4) ∧ (OwnAt X w.heap.size 3 ((noR xs2).flatMap ie) (cdR xs2).length A6) ∧ (OwnAt X w.heap.size 3 ((noR xs2).flatMap ie) (cdR xs2).length A7)) ⟨(by repeat' (first | (with_reducible exact Below.refl _ _) | (with_reducible refine Below.alloc ?_ ?_ _) | (with_reducible refine Below.setCell ?_ ?_ _) | (with_reducible refine Below.drew ?_) | (with_reducible refine Below.trans ?_ (Below.mono (by with_reducible assumption) ?_)) | omega | (simp; done) | (simp; omega))), (h_o4.to (by repeat' (first | (with_reducible exact Below.refl _ _) | (with_reducible refine Below.alloc ?_ ?_ _) | (with_reducible refine Below.setCell ?_ ?_ _) | (with_reducible refine Below.drew ?_) | (with_reducible refine Below.trans ?_ (Below.mono (by with_reducible assumption) ?_)) | omega | (simp; done) | (simp; omega)))), (h_o6.to (by repeat' (first | (with_reducible exact Below.refl _ _) | (with_reducible refine Below.alloc ?_ ?_ _) | (with_reducible refine Below.setCell ?_ ?_ _) | (with_reducible refine Below.drew ?_) | (with_reducible refine Below.trans ?_ (Below.mono (by with_reducible assumption) ?_)) | omega | (simp; done) | (simp; omega)))), (h_o7.to (by repeat' (first | (with_reducible exact Below.refl _ _) | (with_reducible refine Below.alloc ?_ ?_ _) | (with_reducible refine Below.setCell ?_ ?_ _) | (with_reducible refine Below.drew ?_) | (with_reducible refine Below.trans ?_ (Below.mono (by with_reducible assumption) ?_)) | omega | (simp; done) | (simp; omega))))⟩ ?_
  clear h_below s_below h_o4 h_o6 h_o7
  rintro Y7 ⟨h_below, h_o4, h_o6, h_o7⟩
  refine (rInts_len (noR xs2) hcn.out _ _ _ _ _ (rd_ints h_o6 hcn.out) (rd_ints h_o7 hcn.out) (by omega)).mono ?_
  rintro e X7 ⟨rfl, hb7⟩
  have h_below0 := h_below
  replace h_below := h_below.trans (hb7.mono h_below.size)
  replace h_o4 := h_o4.to hb7
  replace h_o6 := h_o6.to hb7
  clear hb7
  clear h_below0
  have s_below := h_below.size
  clear h_o7
  cases hk : brksOK xs2
  · go_wp2_with fail
    have HO4 := Lib.hid h_o4
    have HO6 := Lib.hid h_o6
    have HB0 := Lib.hid h_below
    clear h_o4 h_o6 h_below
    go_loopw [31] (fun i wr => ∃ k : Nat, k ≤ (cdR xs2).length ∧ i = .int .i64 k ∧ Hid (Below X7.heap.size X7 wr)) (fun i _ => (cdR xs2).length - (intOf i).toNat)
    case atStart => exact ⟨0, Nat.zero_le _, rfl, Lib.hid (by repeat' (first | (with_reducible exact Below.refl _ _) | (with_reducible refine Below.alloc ?_ ?_ _) | (with_reducible refine Below.setCell ?_ ?_ _) | (with_reducible refine Below.drew ?_) | (with_reducible refine Below.trans ?_ (Below.mono (by with_reducible assumption) ?_)) | omega | (simp; done) | (simp; omega)))⟩
    case round =>
      obtain ⟨k, hk1, rfl, hbw⟩ := hrel
      have h_o4 := OwnAt.to HO4.out hbw.out
      have h_o6 := Lib.hid (OwnAt.to HO6.out hbw.out)
      have hsX := hbw.out.size
      by_cases hlt : k < (cdR xs2).length
      · obtain ⟨b, o, rfl, hBo, f0, f1, f2, f3, f4, f5⟩ := brk_cells (h_o4.rd Brk.enc_len) hlt
        have hI : (k : Int) < (cdR xs2).length := by omega
        have hI0 : (0 : Int) ≤ k := by omega
        have hm := Lib.hid (cd_has hlt)
        clear h_o4
        go_wp2_with fail
        refine (rHas_yes_len (noR xs2) hcn.out _ _ _ _ (rd_ints (h_o6.out.to (by repeat' (first | (with_reducible exact Below.refl _ _) | (with_reducible refine Below.alloc ?_ ?_ _) | (with_reducible refine Below.setCell ?_ ?_ _) | (with_reducible refine Below.drew ?_) | (with_reducible refine Below.trans ?_ (Below.mono (by with_reducible assumption) ?_)) | omega | (simp; done) | (simp; omega)))) hcn.out) (by omega) hm).mono ?_
        rintro e w1 ⟨rfl, hb1⟩
        go_wp2_with fail
        go_roundw
        case rel => exact ⟨k + 1, by omega, by go_num, Lib.hid (hbw.out.trans ((show Below wr.heap.size wr _ from (by repeat' (first | (with_reducible exact Below.refl _ _) | (with_reducible refine Below.alloc ?_ ?_ _) | (with_reducible refine Below.setCell ?_ ?_ _) | (with_reducible refine Below.drew ?_) | (with_reducible refine Below.trans ?_ (Below.mono (by with_reducible assumption) ?_)) | omega | (simp; done) | (simp; omega)))).mono hsX))⟩
        case measure => simp [intOf]; omega
      · have hI : ¬ (k : Int) < (cdR xs2).length := by omega
        have h_below := HB0.out.trans (hbw.out.mono s_below)
        replace s_below := h_below.size
        go_upto_region 28 with (fail)
        exact FnBanks_p12 A n c w _ hn hB (h_below.trans (by repeat' (first | (with_reducible exact Below.refl _ _) | (with_reducible refine Below.alloc ?_ ?_ _) | (with_reducible refine Below.setCell ?_ ?_ _) | (with_reducible refine Below.drew ?_) | (with_reducible refine Below.trans ?_ (Below.mono (by with_reducible assumption) ?_)) | omega | (simp; done) | (simp; omega)))) _ (by assumption)
  · go_wp2_with fail
    have HO4 := Lib.hid h_o4
    have HO6 := Lib.hid h_o6
    have HB0 := Lib.hid h_below
    clear h_o4 h_o6 h_below
    go_loopw [31] (fun i wr => ∃ k : Nat, k ≤ (cdR xs2).length ∧ i = .int .i64 k ∧ Hid (Below X7.heap.size X7 wr)) (fun i _ => (cdR xs2).length - (intOf i).toNat)
    case atStart => exact ⟨0, Nat.zero_le _, rfl, Lib.hid (by repeat' (first | (with_reducible exact Below.refl _ _) | (with_reducible refine Below.alloc ?_ ?_ _) | (with_reducible refine Below.setCell ?_ ?_ _) | (with_reducible refine Below.drew ?_) | (with_reducible refine Below.trans ?_ (Below.mono (by with_reducible assumption) ?_)) | omega | (simp; done) | (simp; omega)))⟩
    case round =>
      obtain ⟨k, hk1, rfl, hbw⟩ := hrel
      have h_o4 := OwnAt.to HO4.out hbw.out
      have h_o6 := Lib.hid (OwnAt.to HO6.out hbw.out)
      have hsX := hbw.out.size
      by_cases hlt : k < (cdR xs2).length
      · obtain ⟨b, o, rfl, hBo, f0, f1, f2, f3, f4, f5⟩ := brk_cells (h_o4.rd Brk.enc_len) hlt
        have hI : (k : Int) < (cdR xs2).length := by omega
        have hI0 : (0 : Int) ≤ k := by omega
        have hm := Lib.hid (cd_has hlt)
        clear h_o4
        go_wp2_with fail
        refine (rHas_yes_len (noR xs2) hcn.out _ _ _ _ (rd_ints (h_o6.out.to (by repeat' (first | (with_reducible exact Below.refl _ _) | (with_reducible refine Below.alloc ?_ ?_ _) | (with_reducible refine Below.setCell ?_ ?_ _) | (with_reducible refine Below.drew ?_) | (with_reducible refine Below.trans ?_ (Below.mono (by with_reducible assumption) ?_)) | omega | (simp; done) | (simp; omega)))) hcn.out) (by omega) hm).mono ?_
        rintro e w1 ⟨rfl, hb1⟩
        go_wp2_with fail
        go_roundw
        case rel => exact ⟨k + 1, by omega, by go_num, Lib.hid (hbw.out.trans ((show Below wr.heap.size wr _ from (by repeat' (first | (with_reducible exact Below.refl _ _) | (with_reducible refine Below.alloc ?_ ?_ _) | (with_reducible refine Below.setCell ?_ ?_ _) | (with_reducible refine Below.drew ?_) | (with_reducible refine Below.trans ?_ (Below.mono (by with_reducible assumption) ?_)) | omega | (simp; done) | (simp; omega)))).mono hsX))⟩
        case measure => simp [intOf]; omega
      · have hI : ¬ (k : Int) < (cdR xs2).length := by omega
        have h_below := HB0.out.trans (hbw.out.mono s_below)
        replace s_below := h_below.size
        go_upto_region 28 with (fail)
        exact FnBanks_p12 A n c w _ hn hB (h_below.trans (by repeat' (first | (with_reducible exact Below.refl _ _) | (with_reducible refine Below.alloc ?_ ?_ _) | (with_reducible refine Below.setCell ?_ ?_ _) | (with_reducible refine Below.drew ?_) | (with_reducible refine Below.trans ?_ (Below.mono (by with_reducible assumption) ?_)) | omega | (simp; done) | (simp; omega)))) _ (by assumption)
set_option maxRecDepth 100000 in
set_option maxHeartbeats 40000000 in
theorem FnBanks_law (A : Option Addr) (n c : Nat) (w : World) (hB : Byt w w.heap.size A n) :
    Calls Tryd.prog 4 #[.slice A n c] w fun e w' => e = .returned (.bool true) ∧ Below w.heap.size w w' := by
  by_cases hn : n ≤ 65536
  · have hn' : ¬ 65536 < n := by omega
    go_enter Tryd.func4, Tryd.ntmps4
    go_wp2_with (first | (go_at_call 8; refine (rBig_any _ _ _ _).mono ?_; rintro e wX ⟨rfl, rfl⟩))
    refine Dr.cut_calls (fun X => (Below w.heap.size w X)) ((by repeat' (first | (with_reducible exact Below.refl _ _) | (with_reducible refine Below.alloc ?_ ?_ _) | (with_reducible refine Below.setCell ?_ ?_ _) | (with_reducible refine Below.drew ?_) | (with_reducible refine Below.trans ?_ (Below.mono (by with_reducible assumption) ?_)) | omega | (simp; done) | (simp; omega)))) ?_
    intro Y1 h_below
    refine (dTellBreak_any _ _ _ _ hn (Dr.byt_more (hB.below h_below) h_below.size)).mono ?_
    rintro e X1 ⟨ad1, xs1, c1, p1, m1, g1, d1, rfl, hl1, hr1, hb1⟩
    have h_below0 := h_below
    replace h_below := h_below.trans (hb1.mono h_below.size)
    clear hb1
    have h_x1 := hr1
    clear h_below0
    have s_below := h_below.size
    go_wp2_with fail
    refine Dr.cut_calls (fun X => (Below w.heap.size w X) ∧ (Rd X X.heap.size (some ad1) 6 Brk.enc xs1)) ⟨(by repeat' (first | (with_reducible exact Below.refl _ _) | (with_reducible refine Below.alloc ?_ ?_ _) | (with_reducible refine Below.setCell ?_ ?_ _) | (with_reducible refine Below.drew ?_) | (with_reducible refine Below.trans ?_ (Below.mono (by with_reducible assumption) ?_)) | omega | (simp; done) | (simp; omega))), (h_x1.to (by repeat' (first | (with_reducible exact Below.refl _ _) | (with_reducible refine Below.alloc ?_ ?_ _) | (with_reducible refine Below.setCell ?_ ?_ _) | (with_reducible refine Below.drew ?_) | (with_reducible refine Below.trans ?_ (Below.mono (by with_reducible assumption) ?_)) | omega | (simp; done) | (simp; omega))))⟩ ?_
    clear h_below s_below h_x1
    rintro Y2 ⟨h_below, h_x1⟩
    refine (iTellBreak_any _ _ xs1 p1 m1 g1 d1 _ h_x1 (by omega)).mono ?_
    rintro e X2 ⟨A1, c2, rfl, ho1, hb2⟩
    have h_below0 := h_below
    replace h_below := h_below.trans (hb2.mono h_below.size)
    replace h_x1 := h_x1.to hb2
    clear hb2
    have h_o1 := ho1.mono h_below0.size
    clear h_below0
    have s_below := h_below.size
    have htl := tbR_le xs1 p1 m1 g1 d1
    go_wp2_with fail
    refine Dr.cut_calls (fun X => (Below w.heap.size w X) ∧ (Rd X X.heap.size (some ad1) 6 Brk.enc xs1) ∧ (OwnAt X w.heap.size 26 (((tbR xs1 p1 m1 g1 d1)).flatMap Brk.enc) ((tbR xs1 p1 m1 g1 d1)).length A1)) ⟨(by repeat' (first | (with_reducible exact Below.refl _ _) | (with_reducible refine Below.alloc ?_ ?_ _) | (with_reducible refine Below.setCell ?_ ?_ _) | (with_reducible refine Below.drew ?_) | (with_reducible refine Below.trans ?_ (Below.mono (by with_reducible assumption) ?_)) | omega | (simp; done) | (simp; omega))), (h_x1.to (by repeat' (first | (with_reducible exact Below.refl _ _) | (with_reducible refine Below.alloc ?_ ?_ _) | (with_reducible refine Below.setCell ?_ ?_ _) | (with_reducible refine Below.drew ?_) | (with_reducible refine Below.trans ?_ (Below.mono (by with_reducible assumption) ?_)) | omega | (simp; done) | (simp; omega)))), (h_o1.to (by repeat' (first | (with_reducible exact Below.refl _ _) | (with_reducible refine Below.alloc ?_ ?_ _) | (with_reducible refine Below.setCell ?_ ?_ _) | (with_reducible refine Below.drew ?_) | (with_reducible refine Below.trans ?_ (Below.mono (by with_reducible assumption) ?_)) | omega | (simp; done) | (simp; omega))))⟩ ?_
    clear h_below s_below h_x1 h_o1
    rintro Y3 ⟨h_below, h_x1, h_o1⟩
    refine (sTellBreak_any _ _ xs1 p1 m1 g1 d1 _ h_x1 (by omega)).mono ?_
    rintro e X3 ⟨A2, c3, rfl, ho2, hb3⟩
    have h_below0 := h_below
    replace h_below := h_below.trans (hb3.mono h_below.size)
    replace h_x1 := h_x1.to hb3
    replace h_o1 := h_o1.to hb3
    clear hb3
    have h_o2 := ho2.mono h_below0.size
    clear h_below0
    have s_below := h_below.size
    go_wp2_with fail
    refine Dr.cut_calls (fun X => (Below w.heap.size w X) ∧ (Rd X X.heap.size (some ad1) 6 Brk.enc xs1) ∧ (OwnAt X w.heap.size 26 (((tbR xs1 p1 m1 g1 d1)).flatMap Brk.enc) ((tbR xs1 p1 m1 g1 d1)).length A1) ∧ (OwnAt X w.heap.size 26 (((tbR xs1 p1 m1 g1 d1)).flatMap Brk.enc) ((tbR xs1 p1 m1 g1 d1)).length A2)) ⟨(by repeat' (first | (with_reducible exact Below.refl _ _) | (with_reducible refine Below.alloc ?_ ?_ _) | (with_reducible refine Below.setCell ?_ ?_ _) | (with_reducible refine Below.drew ?_) | (with_reducible refine Below.trans ?_ (Below.mono (by with_reducible assumption) ?_)) | omega | (simp; done) | (simp; omega))), (h_x1.to (by repeat' (first | (with_reducible exact Below.refl _ _) | (with_reducible refine Below.alloc ?_ ?_ _) | (with_reducible refine Below.setCell ?_ ?_ _) | (with_reducible refine Below.drew ?_) | (with_reducible refine Below.trans ?_ (Below.mono (by with_reducible assumption) ?_)) | omega | (simp; done) | (simp; omega)))), (h_o1.to (by repeat' (first | (with_reducible exact Below.refl _ _) | (with_reducible refine Below.alloc ?_ ?_ _) | (with_reducible refine Below.setCell ?_ ?_ _) | (with_reducible refine Below.drew ?_) | (with_reducible refine Below.trans ?_ (Below.mono (by with_reducible assumption) ?_)) | omega | (simp; done) | (simp; omega)))), (h_o2.to (by repeat' (first | (with_reducible exact Below.refl _ _) | (with_reducible refine Below.alloc ?_ ?_ _) | (with_reducible refine Below.setCell ?_ ?_ _) | (with_reducible refine Below.drew ?_) | (with_reducible refine Below.trans ?_ (Below.mono (by with_reducible assumption) ?_)) | omega | (simp; done) | (simp; omega))))⟩ ?_
    clear h_below s_below h_x1 h_o1 h_o2
    rintro Y4 ⟨h_below, h_x1, h_o1, h_o2⟩
    refine (rBreaks_same _ _ _ _ _ _ (h_o1.rd Brk.enc_len) (h_o2.rd Brk.enc_len) (by omega)).mono ?_
    rintro e X4 ⟨rfl, hb4⟩
    have h_below0 := h_below
    replace h_below := h_below.trans (hb4.mono h_below.size)
    replace h_x1 := h_x1.to hb4
    replace h_o1 := h_o1.to hb4
    clear hb4
    clear h_below0
    have s_below := h_below.size
    clear h_o2
    cases hk : tbOK xs1 p1 m1 g1 d1
    · go_upto_region 14 with (fail)
      exact FnBanks_p6 A n c w _ hn hB (h_below.trans (by repeat' (first | (with_reducible exact Below.refl _ _) | (with_reducible refine Below.alloc ?_ ?_ _) | (with_reducible refine Below.setCell ?_ ?_ _) | (with_reducible refine Below.drew ?_) | (with_reducible refine Below.trans ?_ (Below.mono (by with_reducible assumption) ?_)) | omega | (simp; done) | (simp; omega))))  _ (by assumption)
    · obtain ⟨t1, t2, t3, t4, t5, t6, t7⟩ := tell_law hk
      obtain ⟨v, hv⟩ : ∃ v, ml xs1 p1 = v := ⟨_, rfl⟩
      rw [hv] at t3 t4
      have k1 := Lib.hid (And.intro hv t1)
      have k2 := Lib.hid (And.intro t3 t2)
      have k3 := Lib.hid t6
      have k4 := Lib.hid t7
      clear hv t1 t2 t3 t6 t7
      go_wp2_with fail
      refine Dr.cut_calls (fun X => (Below w.heap.size w X) ∧ (Rd X X.heap.size (some ad1) 6 Brk.enc xs1) ∧ (OwnAt X w.heap.size 26 (((tbR xs1 p1 m1 g1 d1)).flatMap Brk.enc) ((tbR xs1 p1 m1 g1 d1)).length A1)) ⟨(by repeat' (first | (with_reducible exact Below.refl _ _) | (with_reducible refine Below.alloc ?_ ?_ _) | (with_reducible refine Below.setCell ?_ ?_ _) | (with_reducible refine Below.drew ?_) | (with_reducible refine Below.trans ?_ (Below.mono (by with_reducible assumption) ?_)) | omega | (simp; done) | (simp; omega))), (h_x1.to (by repeat' (first | (with_reducible exact Below.refl _ _) | (with_reducible refine Below.alloc ?_ ?_ _) | (with_reducible refine Below.setCell ?_ ?_ _) | (with_reducible refine Below.drew ?_) | (with_reducible refine Below.trans ?_ (Below.mono (by with_reducible assumption) ?_)) | omega | (simp; done) | (simp; omega)))), (h_o1.to (by repeat' (first | (with_reducible exact Below.refl _ _) | (with_reducible refine Below.alloc ?_ ?_ _) | (with_reducible refine Below.setCell ?_ ?_ _) | (with_reducible refine Below.drew ?_) | (with_reducible refine Below.trans ?_ (Below.mono (by with_reducible assumption) ?_)) | omega | (simp; done) | (simp; omega))))⟩ ?_
      clear h_below s_below h_x1 h_o1
      rintro Y5 ⟨h_below, h_x1, h_o1⟩
      refine (iMetersLeft_at k1.out _ _ _ h_x1 (by omega)).mono ?_
      rintro e X5 ⟨rfl, hb5⟩
      have h_below0 := h_below
      replace h_below := h_below.trans (hb5.mono h_below.size)
      replace h_x1 := h_x1.to hb5
      replace h_o1 := h_o1.to hb5
      clear hb5
      clear h_below0
      have s_below := h_below.size
      go_wp2_with fail
      refine Dr.cut_calls (fun X => (Below w.heap.size w X) ∧ (Rd X X.heap.size (some ad1) 6 Brk.enc xs1) ∧ (OwnAt X w.heap.size 26 (((tbR xs1 p1 m1 g1 d1)).flatMap Brk.enc) ((tbR xs1 p1 m1 g1 d1)).length A1)) ⟨(by repeat' (first | (with_reducible exact Below.refl _ _) | (with_reducible refine Below.alloc ?_ ?_ _) | (with_reducible refine Below.setCell ?_ ?_ _) | (with_reducible refine Below.drew ?_) | (with_reducible refine Below.trans ?_ (Below.mono (by with_reducible assumption) ?_)) | omega | (simp; done) | (simp; omega))), (h_x1.to (by repeat' (first | (with_reducible exact Below.refl _ _) | (with_reducible refine Below.alloc ?_ ?_ _) | (with_reducible refine Below.setCell ?_ ?_ _) | (with_reducible refine Below.drew ?_) | (with_reducible refine Below.trans ?_ (Below.mono (by with_reducible assumption) ?_)) | omega | (simp; done) | (simp; omega)))), (h_o1.to (by repeat' (first | (with_reducible exact Below.refl _ _) | (with_reducible refine Below.alloc ?_ ?_ _) | (with_reducible refine Below.setCell ?_ ?_ _) | (with_reducible refine Below.drew ?_) | (with_reducible refine Below.trans ?_ (Below.mono (by with_reducible assumption) ?_)) | omega | (simp; done) | (simp; omega))))⟩ ?_
      clear h_below s_below h_x1 h_o1
      rintro Y6 ⟨h_below, h_x1, h_o1⟩
      refine (iMetersLeft_at k2.out _ _ _ (h_o1.rd Brk.enc_len) (by omega)).mono ?_
      rintro e X6 ⟨rfl, hb6⟩
      have h_below0 := h_below
      replace h_below := h_below.trans (hb6.mono h_below.size)
      replace h_x1 := h_x1.to hb6
      replace h_o1 := h_o1.to hb6
      clear hb6
      clear h_below0
      have s_below := h_below.size
      go_wp2_with fail
      refine Dr.cut_calls (fun X => (Below w.heap.size w X) ∧ (Rd X X.heap.size (some ad1) 6 Brk.enc xs1) ∧ (OwnAt X w.heap.size 26 (((tbR xs1 p1 m1 g1 d1)).flatMap Brk.enc) ((tbR xs1 p1 m1 g1 d1)).length A1)) ⟨(by repeat' (first | (with_reducible exact Below.refl _ _) | (with_reducible refine Below.alloc ?_ ?_ _) | (with_reducible refine Below.setCell ?_ ?_ _) | (with_reducible refine Below.drew ?_) | (with_reducible refine Below.trans ?_ (Below.mono (by with_reducible assumption) ?_)) | omega | (simp; done) | (simp; omega))), (h_x1.to (by repeat' (first | (with_reducible exact Below.refl _ _) | (with_reducible refine Below.alloc ?_ ?_ _) | (with_reducible refine Below.setCell ?_ ?_ _) | (with_reducible refine Below.drew ?_) | (with_reducible refine Below.trans ?_ (Below.mono (by with_reducible assumption) ?_)) | omega | (simp; done) | (simp; omega)))), (h_o1.to (by repeat' (first | (with_reducible exact Below.refl _ _) | (with_reducible refine Below.alloc ?_ ?_ _) | (with_reducible refine Below.setCell ?_ ?_ _) | (with_reducible refine Below.drew ?_) | (with_reducible refine Below.trans ?_ (Below.mono (by with_reducible assumption) ?_)) | omega | (simp; done) | (simp; omega))))⟩ ?_
      clear h_below s_below h_x1 h_o1
      rintro Y7 ⟨h_below, h_x1, h_o1⟩
      refine (iNeedOrder_at k3.out _ _ _ (h_o1.rd Brk.enc_len) (by omega)).mono ?_
      rintro e X7 ⟨A3, c4, rfl, ho3, hb7⟩
      have h_below0 := h_below
      replace h_below := h_below.trans (hb7.mono h_below.size)
      clear hb7
      have h_o3 := ho3.mono h_below0.size
      clear h_below0
      have s_below := h_below.size
      clear h_o1
      clear h_x1
      have hnl := noR_len (tbR xs1 p1 m1 g1 d1)
      go_wp2_with fail
      refine Dr.cut_calls (fun X => (Below w.heap.size w X) ∧ (OwnAt X w.heap.size 3 ((noR (tbR xs1 p1 m1 g1 d1)).flatMap ie) (noR (tbR xs1 p1 m1 g1 d1)).length A3)) ⟨(by repeat' (first | (with_reducible exact Below.refl _ _) | (with_reducible refine Below.alloc ?_ ?_ _) | (with_reducible refine Below.setCell ?_ ?_ _) | (with_reducible refine Below.drew ?_) | (with_reducible refine Below.trans ?_ (Below.mono (by with_reducible assumption) ?_)) | omega | (simp; done) | (simp; omega))), (h_o3.to (by repeat' (first | (with_reducible exact Below.refl _ _) | (with_reducible refine Below.alloc ?_ ?_ _) | (with_reducible refine Below.setCell ?_ ?_ _) | (with_reducible refine Below.drew ?_) | (with_reducible refine Below.trans ?_ (Below.mono (by with_reducible assumption) ?_)) | omega | (simp; done) | (simp; omega))))⟩ ?_
      clear h_below s_below h_o3
      rintro Y8 ⟨h_below, h_o3⟩
      refine (rHas_yes _ _ _ _ _ (h_o3.rd ie_len) (by omega) k4).mono ?_
      rintro e X8 ⟨rfl, hb8⟩
      have h_below0 := h_below
      replace h_below := h_below.trans (hb8.mono h_below.size)
      clear hb8
      clear h_below0
      have s_below := h_below.size
      clear h_o3
      go_upto_region 14 with (fail)
      exact FnBanks_p6 A n c w _ hn hB (h_below.trans (by repeat' (first | (with_reducible exact Below.refl _ _) | (with_reducible refine Below.alloc ?_ ?_ _) | (with_reducible refine Below.setCell ?_ ?_ _) | (with_reducible refine Below.drew ?_) | (with_reducible refine Below.trans ?_ (Below.mono (by with_reducible assumption) ?_)) | omega | (simp; done) | (simp; omega))))  _ (by assumption)
  · have hn' : 65536 < n := by omega
    go_enter Tryd.func4, Tryd.ntmps4
    go_wp2_with (first | (go_at_call 8; refine (rBig_any _ _ _ _).mono ?_; rintro e wX ⟨rfl, rfl⟩))
    go_ret
    exact ⟨rfl, (by repeat' (first | (with_reducible exact Below.refl _ _) | (with_reducible refine Below.alloc ?_ ?_ _) | (with_reducible refine Below.setCell ?_ ?_ _) | (with_reducible refine Below.drew ?_) | (with_reducible refine Below.trans ?_ (Below.mono (by with_reducible assumption) ?_)) | omega | (simp; done) | (simp; omega)))⟩
end Go.Proofs.YtakjfkbfibcbcaaDoor
