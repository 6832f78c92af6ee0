/- The law FnBreaks: told days, fewest workers, the next day, who works where. -/
import Derived.Test.YtakjfkbfibcbcaaDrBrk
import Derived.Test.YtakjfkbfibcbcaaLawKit
import Derived.Test.YtakjfkbfibcbcaaDaysLaw
import Derived.Test.YtakjfkbfibcbcaaIdsLaw
import Derived.Test.YtakjfkbfibcbcaaOnLaw
import Derived.Test.YtakjfkbfibcbcaaNextLaw
set_option linter.unusedSimpArgs false
set_option linter.unusedVariables false
namespace Go.Proofs.Ytakjfkbfibcbcaa
open Go.RowKit Go.Sort Go.Salt
attribute [local go_sem] cell_rg
open Go.Dr in
theorem dDaysToMend_any (A : Option Addr) (n c : Nat) (w : World) (hn : n ≤ 65536) (hB : Byt w w.heap.size A n) :
    Calls Try.prog 57 #[.slice A n c] w fun e w' => ∃ (ad1 : Addr) (xs1 : List Brk) (c1 : Nat) (z2 : Int), e = .returned (.tuple #[.slice (some ad1) xs1.length c1, .int .i64 z2]) ∧ xs1.length ≤ 20 ∧ Rd w' w'.heap.size (some ad1) 6 Brk.enc xs1 ∧ (-9223372036854775808 ≤ z2 ∧ z2 ≤ 9223372036854775807) ∧ Below w.heap.size w w' := by
  refine (Dr.draw_calls dDaysToMend_con rfl rfl (by decide) A n c w hn hB).mono ?_
  rintro e w' ⟨v, rfl, hv, hb⟩
  obtain ⟨u1, u2, rfl, a1, a2⟩ := tup2 hv
  obtain ⟨A1, xs1, c1, rfl, _, hl1, hr1, hn1⟩ := rows_of (k := 6) (tb := brkTab) (T := 25) brkTab_brk rfl (by omega) Brk.enc (fun g => ⟨g 0, g 1, g 2, g 3, g 4, g 5⟩) (fun _ => rfl) a1
  obtain ⟨ad1, rfl⟩ := hn1 (by omega)
  obtain ⟨z2, rfl, hz2a, hz2b⟩ := int_of a2
  exact ⟨ad1, xs1, c1, z2, rfl, hl1, hr1, ⟨hz2a, hz2b⟩, hb⟩
open Go.Dr in
theorem dFewestWorkers_any (A : Option Addr) (n c : Nat) (w : World) (hn : n ≤ 65536) (hB : Byt w w.heap.size A n) :
    Calls Try.prog 58 #[.slice A n c] w fun e w' => ∃ (ad1 : Addr) (xs1 : List Brk) (c1 : Nat) (z2 : Int), e = .returned (.tuple #[.slice (some ad1) xs1.length c1, .int .i64 z2]) ∧ xs1.length ≤ 20 ∧ Rd w' w'.heap.size (some ad1) 6 Brk.enc xs1 ∧ (-9223372036854775808 ≤ z2 ∧ z2 ≤ 9223372036854775807) ∧ Below w.heap.size w w' := by
  refine (Dr.draw_calls dFewestWorkers_con rfl rfl (by decide) A n c w hn hB).mono ?_
  rintro e w' ⟨v, rfl, hv, hb⟩
  obtain ⟨u1, u2, rfl, a1, a2⟩ := tup2 hv
  obtain ⟨A1, xs1, c1, rfl, _, hl1, hr1, hn1⟩ := rows_of (k := 6) (tb := brkTab) (T := 25) brkTab_brk rfl (by omega) Brk.enc (fun g => ⟨g 0, g 1, g 2, g 3, g 4, g 5⟩) (fun _ => rfl) a1
  obtain ⟨ad1, rfl⟩ := hn1 (by omega)
  obtain ⟨z2, rfl, hz2a, hz2b⟩ := int_of a2
  exact ⟨ad1, xs1, c1, z2, rfl, hl1, hr1, ⟨hz2a, hz2b⟩, hb⟩
open Go.Dr in
theorem dNextDay_any (A : Option Addr) (n c : Nat) (w : World) (hn : n ≤ 65536) (hB : Byt w w.heap.size A n) :
    Calls Try.prog 59 #[.slice A n c] w fun e w' => ∃ (ad1 : Addr) (xs1 : List Brk) (c1 : Nat) (z2 : Int), e = .returned (.tuple #[.slice (some ad1) xs1.length c1, .int .i64 z2]) ∧ xs1.length ≤ 20 ∧ Rd w' w'.heap.size (some ad1) 6 Brk.enc xs1 ∧ (-9223372036854775808 ≤ z2 ∧ z2 ≤ 9223372036854775807) ∧ Below w.heap.size w w' := by
  refine (Dr.draw_calls dNextDay_con rfl rfl (by decide) A n c w hn hB).mono ?_
  rintro e w' ⟨v, rfl, hv, hb⟩
  obtain ⟨u1, u2, rfl, a1, a2⟩ := tup2 hv
  obtain ⟨A1, xs1, c1, rfl, _, hl1, hr1, hn1⟩ := rows_of (k := 6) (tb := brkTab) (T := 25) brkTab_brk rfl (by omega) Brk.enc (fun g => ⟨g 0, g 1, g 2, g 3, g 4, g 5⟩) (fun _ => rfl) a1
  obtain ⟨ad1, rfl⟩ := hn1 (by omega)
  obtain ⟨z2, rfl, hz2a, hz2b⟩ := int_of a2
  exact ⟨ad1, xs1, c1, z2, rfl, hl1, hr1, ⟨hz2a, hz2b⟩, hb⟩
set_option maxHeartbeats 4000000 in
theorem rBreaks_same (A A' : Option Addr) (c c' : Nat) (xs : List Brk) (w : World) (h : Rd w w.heap.size A 6 Brk.enc xs) (h' : Rd w w.heap.size A' 6 Brk.enc xs) (hx : xs.length ≤ 1048576) :
    Calls Try.prog 60 #[.slice A xs.length c, .slice A' xs.length c'] w fun e w' => e = .returned (.bool true) ∧ Below w.heap.size w w' := by
  go_enter Try.func60, Try.ntmps60
  go_wp2
  go_loopw [5] (fun i wr => ∃ k : Nat, k ≤ xs.length ∧ i = .int .i64 k ∧ Below w.heap.size w wr) (fun i _ => xs.length - (intOf i).toNat)
  case atStart => exact ⟨0, Nat.zero_le _, rfl, Below.refl _ _⟩
  case round =>
    obtain ⟨k, hk, rfl, hb⟩ := hrel
    by_cases hlt : k < xs.length
    · obtain ⟨b, o, rfl, hB, c0, c1, c2, c3, c4, c5⟩ := brk_cells (h.below hb) hlt
      obtain ⟨b', o', rfl, hB', d0, d1, d2, d3, d4, d5⟩ := brk_cells (h'.below hb) hlt
      have hs := hb.size
      have hB1 : b < wr.heap.size := by omega
      have hB2 : b' < wr.heap.size := by omega
      have hI : (k : Int) < xs.length := by omega
      have hI0 : (0 : Int) ≤ k := by omega
      go_wp2_with fail
      refine wp_region_quiet_below (by kernel_rfl) (by kernel_rfl) ?_
      repeat (go_big_quiet_step (fail))
      (refine wpQuiet_nil ?_; intro w1 hwq; have hb1 := of_cls hwq; clear hwq)
      (have hs1 := hb1.size; (try simp at hs1); obtain ⟨hc1, hf1, hn1⟩ := bcell hb1; (try have hz1_wr_0 : wr.heap.size < w1.heap.size := by omega); (try have hz1_wr_1 : wr.heap.size + 1 < w1.heap.size := by omega); (try have hz1_wr_2 : wr.heap.size + 2 < w1.heap.size := by omega); (try have hB1 : b < w1.heap.size := by omega); (try have hB2 : b' < w1.heap.size := by omega); (try have hz1_wr_2b : wr.heap.size + 1 + 1 < w1.heap.size := by omega); (try have hz1_w_0 : w.heap.size < w1.heap.size := by omega); (try have hz1_w_1 : w.heap.size + 1 < w1.heap.size := by omega); (try have hz1_w_2 : w.heap.size + 2 < w1.heap.size := by omega); (try have hz1_w_2b : w.heap.size + 1 + 1 < w1.heap.size := by omega))
      go_wp2_with fail
      go_roundw
      case rel => exact ⟨k + 1, by omega, by go_num, (by repeat' (first | (with_reducible exact Below.refl _ _) | (with_reducible refine Below.alloc ?_ ?_ _) | (with_reducible refine Below.setCell ?_ ?_ _) | (with_reducible refine Below.drew ?_) | (with_reducible refine Below.trans ?_ (Below.mono (by with_reducible assumption) ?_)) | omega | (simp; done) | (simp; omega)))⟩
      case measure => simp [intOf]; omega
    · have hI : ¬ (k : Int) < xs.length := by omega
      go_wp2
      go_ret
      exact ⟨rfl, hb⟩
set_option maxHeartbeats 4000000 in
theorem rInts_same (A A' : Option Addr) (c c' : Nat) (xs : List Int) (w : World) (h : Rd w w.heap.size A 1 ie xs) (h' : Rd w w.heap.size A' 1 ie xs) (hx : xs.length ≤ 1048576) :
    Calls Try.prog 91 #[.slice A xs.length c, .slice A' xs.length c'] w fun e w' => e = .returned (.bool true) ∧ Below w.heap.size w w' := by
  go_enter Try.func91, Try.ntmps91
  go_wp2
  go_loopw [5] (fun i wr => ∃ k : Nat, k ≤ xs.length ∧ i = .int .i64 k ∧ Below w.heap.size w wr) (fun i _ => xs.length - (intOf i).toNat)
  case atStart => exact ⟨0, Nat.zero_le _, rfl, Below.refl _ _⟩
  case round =>
    obtain ⟨k, hk, rfl, hb⟩ := hrel
    by_cases hlt : k < xs.length
    · obtain ⟨b, o, rfl, hB, c0⟩ := int_cell (h.below hb) hlt
      obtain ⟨b', o', rfl, hB', d0⟩ := int_cell (h'.below hb) hlt
      have hs := hb.size
      have hB1 : b < wr.heap.size := by omega
      have hB2 : b' < wr.heap.size := by omega
      have hI : (k : Int) < xs.length := by omega
      have hI0 : (0 : Int) ≤ k := by omega
      go_wp2_with fail
      refine wp_region_quiet_below (by kernel_rfl) (by kernel_rfl) ?_
      repeat (go_big_quiet_step (fail))
      (refine wpQuiet_nil ?_; intro w1 hwq; have hb1 := of_cls hwq; clear hwq)
      (have hs1 := hb1.size; (try simp at hs1); obtain ⟨hc1, hf1, hn1⟩ := bcell hb1; (try have hz1_wr_0 : wr.heap.size < w1.heap.size := by omega); (try have hz1_wr_1 : wr.heap.size + 1 < w1.heap.size := by omega); (try have hz1_wr_2 : wr.heap.size + 2 < w1.heap.size := by omega); (try have hB1 : b < w1.heap.size := by omega); (try have hB2 : b' < w1.heap.size := by omega); (try have hz1_wr_2b : wr.heap.size + 1 + 1 < w1.heap.size := by omega); (try have hz1_w_0 : w.heap.size < w1.heap.size := by omega); (try have hz1_w_1 : w.heap.size + 1 < w1.heap.size := by omega); (try have hz1_w_2 : w.heap.size + 2 < w1.heap.size := by omega); (try have hz1_w_2b : w.heap.size + 1 + 1 < w1.heap.size := by omega))
      go_wp2_with fail
      go_roundw
      case rel => exact ⟨k + 1, by omega, by go_num, (by repeat' (first | (with_reducible exact Below.refl _ _) | (with_reducible refine Below.alloc ?_ ?_ _) | (with_reducible refine Below.setCell ?_ ?_ _) | (with_reducible refine Below.drew ?_) | (with_reducible refine Below.trans ?_ (Below.mono (by with_reducible assumption) ?_)) | omega | (simp; done) | (simp; omega)))⟩
      case measure => simp [intOf]; omega
    · have hI : ¬ (k : Int) < xs.length := by omega
      go_wp2
      go_ret
      exact ⟨rfl, hb⟩
theorem rInts_two (g g' : Nat) (a b : Int) (w : World) (h : Row w g 3 [.int .i64 a, .int .i64 b]) (h' : Row w g' 3 [.int .i64 a, .int .i64 b]) :
    Calls Try.prog 91 #[.slice (some ⟨g, 0, none⟩) 2 2, .slice (some ⟨g', 0, none⟩) 2 2] w fun e w' => e = .returned (.bool true) ∧ Below w.heap.size w w' :=
  rInts_same (some ⟨g, 0, none⟩) (some ⟨g', 0, none⟩) 2 2 [a, b] w (Row.rd (xs := [a, b]) (enc := ie) h ie_len h.lt) (Row.rd (xs := [a, b]) (enc := ie) h' ie_len h'.lt) (by simp)
set_option maxHeartbeats 4000000 in
theorem rTable_same (A A' : Option Addr) (c c' n b1 b2 : Nat) (f g : Nat → Int) (w : World) (h : SSAt w b1 A n (prC f g)) (h' : SSAt w b2 A' n (prC f g)) (hx : n ≤ 1048576) :
    Calls Try.prog 61 #[.slice A n c, .slice A' n c'] w fun e w' => e = .returned (.bool true) ∧ Below w.heap.size w w' := by
  obtain ⟨gs, h⟩ := h
  obtain ⟨gs', h'⟩ := h'
  replace h := Lib.hid h
  replace h' := Lib.hid h'
  go_enter Try.func61, Try.ntmps61
  go_wp2
  go_loopw [5] (fun i wr => ∃ k : Nat, k ≤ n ∧ i = .int .i64 k ∧ Below w.heap.size w wr) (fun i _ => n - (intOf i).toNat)
  case atStart => exact ⟨0, Nat.zero_le _, rfl, Below.refl _ _⟩
  case round =>
    obtain ⟨k, hk, rfl, hb⟩ := hrel
    by_cases hlt : k < n
    · have hs := hb.size
      obtain ⟨p1, p2, _⟩ := h.out
      obtain ⟨p1', p2', _⟩ := h'.out
      rcases p2 with ⟨_, e0, _⟩ | ⟨B, rfl, _, hr⟩
      · omega
      rcases p2' with ⟨_, e0, _⟩ | ⟨B', rfl, _, hr'⟩
      · omega
      have c0 := gsV_cell (hr.to hb) (j := k) (by rw [p1.1]; exact hlt)
      have d0 := gsV_cell (hr'.to hb) (j := k) (by rw [p1'.1]; exact hlt)
      have q0 := Lib.hid ((p1.2.1 k hlt).2.to hb)
      have q0' := Lib.hid ((p1'.2.1 k hlt).2.to hb)
      have hB1 : B < wr.heap.size := (hr.to hb).lt
      have hB2 : B' < wr.heap.size := (hr'.to hb).lt
      clear hr hr' p1 p1'
      have hI : (k : Int) < n := by omega
      have hI0 : (0 : Int) ≤ k := by omega
      obtain ⟨x, hx1⟩ : ∃ x, el gs k = x := ⟨_, rfl⟩
      obtain ⟨y, hy1⟩ : ∃ y, el gs' k = y := ⟨_, rfl⟩
      rw [hx1] at c0 q0
      rw [hy1] at d0 q0'
      clear hx1 hy1
      go_wp2_with fail
      apply wp_region_chain 10 [] [] noJ (fun W W' => Below W.heap.size W W') [Sum.inl _, Sum.inl _, Sum.inl _, Sum.inl _, Sum.inl _, Sum.inl _, Sum.inl _, Sum.inl _, Sum.inl _, Sum.inl _] (by kernel_rfl) (by kernel_rfl) (fun _ _ _ => below_trans) (below_draw _) trivial ?_
      rotate_left 10
      simp only [List.take_succ_cons, List.take_zero, List.drop_succ_cons, List.drop_zero]
      apply free_val (by rfl)
      · intro W hE hp hF; obtain ⟨hcE, hfE, hnE⟩ := bcell hE; have hsE := hE.size; unfold opOb; go_wp2_with fail; exact ⟨rfl, _, rfl, rfl, ⟨Below.refl _ _, noJ_post _ _ _⟩⟩
      simp only [Act.put, List.setIfInBounds_toArray, List.set_cons_succ, List.set_cons_zero]
      apply free_val (by rfl)
      · intro W hE hp hF; obtain ⟨hcE, hfE, hnE⟩ := bcell hE; have hsE := hE.size; unfold opOb; go_wp2_with fail; exact ⟨rfl, _, rfl, rfl, ⟨Below.refl _ _, noJ_post _ _ _⟩⟩
      simp only [Act.put, List.setIfInBounds_toArray, List.set_cons_succ, List.set_cons_zero]
      apply free_val (by rfl)
      · intro W hE hp hF; obtain ⟨hcE, hfE, hnE⟩ := bcell hE; have hsE := hE.size; unfold opOb; go_wp2_with fail; exact ⟨rfl, _, rfl, rfl, ⟨Below.refl _ _, noJ_post _ _ _⟩⟩
      simp only [Act.put, List.setIfInBounds_toArray, List.set_cons_succ, List.set_cons_zero]
      apply free_val (by rfl)
      · intro W hE hp hF; obtain ⟨hcE, hfE, hnE⟩ := bcell hE; have hsE := hE.size; unfold opOb; go_wp2_with fail; exact ⟨rfl, _, rfl, rfl, ⟨Below.refl _ _, noJ_post _ _ _⟩⟩
      simp only [Act.put, List.setIfInBounds_toArray, List.set_cons_succ, List.set_cons_zero]
      apply free_val (by rfl)
      · intro W hE hp hF; obtain ⟨hcE, hfE, hnE⟩ := bcell hE; have hsE := hE.size; unfold opOb; go_wp2_with fail; exact ⟨rfl, _, rfl, rfl, ⟨Below.refl _ _, noJ_post _ _ _⟩⟩
      simp only [Act.put, List.setIfInBounds_toArray, List.set_cons_succ, List.set_cons_zero]
      apply free_val (by rfl)
      · intro W hE hp hF; obtain ⟨hcE, hfE, hnE⟩ := bcell hE; have hsE := hE.size; unfold opOb; go_wp2_with fail; exact ⟨rfl, _, rfl, rfl, ⟨Below.refl _ _, noJ_post _ _ _⟩⟩
      simp only [Act.put, List.setIfInBounds_toArray, List.set_cons_succ, List.set_cons_zero]
      apply free_val (by rfl)
      · intro W hE hp hF; obtain ⟨hcE, hfE, hnE⟩ := bcell hE; have hsE := hE.size; unfold opOb; go_wp2_with fail; exact ⟨rfl, _, rfl, rfl, ⟨Below.refl _ _, noJ_post _ _ _⟩⟩
      simp only [Act.put, List.setIfInBounds_toArray, List.set_cons_succ, List.set_cons_zero]
      apply free_val (by rfl)
      · intro W hE hp hF; obtain ⟨hcE, hfE, hnE⟩ := bcell hE; have hsE := hE.size; unfold opOb; go_wp2_with fail; exact ⟨rfl, _, rfl, rfl, ⟨Below.refl _ _, noJ_post _ _ _⟩⟩
      simp only [Act.put, List.setIfInBounds_toArray, List.set_cons_succ, List.set_cons_zero]
      apply free_val (by rfl)
      · intro W hE hp hF; obtain ⟨hcE, hfE, hnE⟩ := bcell hE; have hsE := hE.size; unfold opOb; go_wp2_with fail; (go_at_call 91; refine (rInts_two _ _ _ _ _ (q0.out.to hE) (q0'.out.to hE)).mono ?_; rintro e WX ⟨rfl, hbX⟩); go_wp2_with fail; exact ⟨rfl, _, rfl, rfl, ⟨hbX, noJ_post _ _ _⟩⟩
      simp only [Act.put, List.setIfInBounds_toArray, List.set_cons_succ, List.set_cons_zero]
      apply free_val (by rfl)
      · intro W hE hp hF; obtain ⟨hcE, hfE, hnE⟩ := bcell hE; have hsE := hE.size; unfold opOb; go_wp2_with fail; exact ⟨rfl, _, rfl, rfl, ⟨Below.refl _ _, noJ_post _ _ _⟩⟩
      simp only [Act.put, List.setIfInBounds_toArray, List.set_cons_succ, List.set_cons_zero]
      apply free_end
      intro w1 hEw1 hJF hGF
      clear hJF
      clear hGF
      have hs1 := hEw1.size
      go_wp2_with fail
      refine normal_of ?_
      go_wp2_with fail
      go_roundw
      case rel => exact ⟨k + 1, by omega, by go_num, hb.trans (hEw1.mono (by omega))⟩
      case measure => simp [intOf]; omega
    · have hI : ¬ (k : Int) < n := by omega
      go_wp2
      go_ret
      exact ⟨rfl, hb⟩
theorem nd1_same (x : Brk) (n : Int) : (nd1 x n).i = x.i ∧ (nd1 x n).p = x.p ∧ (nd1 x n).g = x.g ∧ (nd1 x n).t = x.t := by
  unfold nd1
  split
  · exact ⟨rfl, rfl, rfl, rfl⟩
  · split
    · exact ⟨rfl, rfl, rfl, rfl⟩
    · exact ⟨rfl, rfl, rfl, rfl⟩
theorem brkOK_iff {i p m g t d : Int} : brkOK i p m g t d = true ↔ (1 ≤ i ∧ i ≤ 999) ∧ (1 ≤ p ∧ p ≤ 99) ∧ (1 ≤ m ∧ m ≤ 60) ∧ (1 ≤ g ∧ g ≤ 3) ∧ (0 ≤ t ∧ t ≤ 4000) ∧ (0 ≤ d ∧ d ≤ m) := by
  simp only [brkOK, Bool.and_eq_true, inB_iff]
  constructor
  · rintro ⟨⟨⟨⟨⟨a, b⟩, c⟩, d⟩, e⟩, f⟩; exact ⟨a, b, c, d, e, f⟩
  · rintro ⟨a, b, c, d, e, f⟩; exact ⟨⟨⟨⟨⟨a, b⟩, c⟩, d⟩, e⟩, f⟩
theorem nd1_brk {x : Brk} {n : Int} (h : brkOK x.i x.p x.m x.g x.t x.d = true) : brkOK (nd1 x n).i (nd1 x n).p (nd1 x n).m (nd1 x n).g (nd1 x n).t (nd1 x n).d = true := by
  rw [brkOK_iff] at h ⊢
  obtain ⟨h1, h2, h3, h4, h5, h6⟩ := h
  obtain ⟨e1, e2, e3, e4⟩ := nd1_same x n
  rw [e1, e2, e3, e4]
  refine ⟨h1, h2, ?_, h4, h5, ?_⟩
  · have q1 := mn_or (x.m + x.g) 60
    unfold nd1
    split
    · exact h3
    · split
      · simp only; omega
      · exact h3
  · have q1 := mn_or (x.m + x.g) 60
    have q2 := mn_or (x.d + 4 * n) x.m
    unfold nd1
    split
    · simp only; omega
    · split
      · simp only; omega
      · exact h6
theorem el_ndL {xs : List Brk} {W : Int} {i : Nat} (h : i < xs.length) : el (ndL xs W) i = nd1 (el xs i) (el (wkL xs W) i) := by
  rw [el_get (by rw [ndL_len]; exact h)]
  simp [ndL]
theorem ndL_brks {xs : List Brk} {W : Int} (h : brksOK xs = true) : brksOK (ndL xs W) = true := by
  obtain ⟨h1, h2⟩ := brksOK_bd h
  rw [brksOK_all (fun i hi => ?_), ndL_len]
  · simpa using h1
  · rw [ndL_len] at hi
    have h3 := h2 i hi
    simp only [brkAt, Bool.and_eq_true, Bool.or_eq_true, decide_eq_true_eq] at h3 ⊢
    rw [el_ndL hi]
    refine ⟨nd1_brk h3.1, ?_⟩
    rcases h3.2 with h4 | h4
    · exact .inl h4
    · rw [el_ndL (show i - 1 < xs.length by omega), (nd1_same _ _).1, (nd1_same _ _).1]
      exact .inr h4
theorem dayN_shift (xs : List Brk) (W : Int) : ∀ k, dayN (ndL xs W) W k = dayN xs W (k + 1)
  | 0 => rfl
  | k + 1 => by rw [dayN, dayN_shift xs W k]; rfl
theorem days_spec {xs : List Brk} {W : Int} {k : Nat} (h : days xs W = k) (hk : k < 201) : dayZ xs W k = true ∧ ∀ j, j < k → dayZ xs W j = false := by
  unfold days at h
  cases hq : (List.range 201).find? (dayZ xs W) with
  | none => rw [hq] at h; simp at h; omega
  | some j =>
    rw [hq] at h
    obtain rfl : j = k := by simpa using h
    rw [List.find?_range_eq_some] at hq
    exact ⟨hq.1, fun i hi => by have := hq.2.2 i hi; simpa using this⟩
theorem days_next {xs : List Brk} {W : Int} (hB : dmB xs W = true) (hd : 0 < dm xs W) : ndB xs W = true ∧ brksOK xs = true ∧ ndR xs W = ndL xs W ∧ dmB (ndL xs W) W = true ∧ dm (ndL xs W) W = dm xs W - 1 ∧ dm xs W ≤ 200 ∧ (noR xs).length ≠ 0 := by
  have hB' := hB
  simp only [dmB, Bool.and_eq_true, decide_eq_true_eq] at hB'
  obtain ⟨h1, h2⟩ := hB'
  have h3 := days_le xs W
  have e0 : dm xs W = (days xs W : Int) := by rw [dm, if_pos hB]
  rw [e0] at hd ⊢
  obtain ⟨k, hk⟩ : ∃ k, days xs W = k + 1 := ⟨days xs W - 1, by omega⟩
  obtain ⟨z1, z2⟩ := days_spec hk (by omega)
  have h1' := h1
  simp only [ndB, Bool.and_eq_true] at h1'
  have hn : days (ndL xs W) W = k := by
    refine days_hit (by omega) (fun j hj => ?_) ?_
    · unfold dayZ
      rw [dayN_shift]
      exact z2 (j + 1) (by omega)
    · unfold dayZ
      rw [dayN_shift]
      exact z1
  have hB2 : dmB (ndL xs W) W = true := by
    simp only [dmB, ndB, Bool.and_eq_true, decide_eq_true_eq]
    exact ⟨⟨ndL_brks h1'.1, h1'.2⟩, by omega⟩
  refine ⟨h1, h1'.1, by rw [ndR, if_pos h1], hB2, ?_, by omega, ?_⟩
  · rw [dm, if_pos hB2, hn, hk]; omega
  · have z3 := z2 0 (by omega)
    unfold dayZ at z3
    simp only [dayN, beq_eq_false_iff_ne] at z3
    rw [noR, if_pos h1'.1]
    unfold idL
    simp only [List.length_map, List.length_take]
    omega
theorem fewest_days {xs : List Brk} {D : Int} (h : fwS xs D = true) : dmB xs (fwR xs D) = true ∧ dm xs (fwR xs D) ≤ D ∧ 0 ≤ fwR xs D ∧ fwR xs D ≤ 40 ∧ (dmB xs (fwR xs D - 1) = true → D < dm xs (fwR xs D - 1)) := by
  have h' := h
  simp only [fwS, Bool.and_eq_true] at h'
  obtain ⟨h1, h2⟩ := h'
  obtain ⟨k, hk⟩ := Option.isSome_iff_exists.1 h2
  have hr : fwR xs D = k := by simp [fwR, h1, hk]
  unfold fwO at hk
  rw [List.find?_range_eq_some] at hk
  obtain ⟨k1, k2, k3⟩ := hk
  have k2' := List.mem_range.1 k2
  simp only [fwB, Bool.and_eq_true, inB_iff] at h1
  have k1' : (days xs (k : Int) : Int) ≤ D := by simpa using k1
  have hB : dmB xs (k : Int) = true := by
    simp only [dmB, ndB, Bool.and_eq_true, decide_eq_true_eq, inB_iff]
    exact ⟨⟨h1.1, by omega, by omega⟩, by omega⟩
  rw [hr]
  refine ⟨hB, by rw [dm, if_pos hB]; exact k1', by omega, by omega, fun hB2 => ?_⟩
  rw [dm, if_pos hB2]
  simp only [dmB, ndB, Bool.and_eq_true, inB_iff] at hB2
  have hk0 : 1 ≤ k := by have := hB2.1.2.1; omega
  have := k3 (k - 1) (by omega)
  rw [show (k : Int) - 1 = ((k - 1 : Nat) : Int) by omega]
  simpa using this
theorem next_brks {xs : List Brk} {W : Int} (h : ndB xs W = true) : brksOK (ndR xs W) = true := by
  rw [ndR, if_pos h]
  simp only [ndB, Bool.and_eq_true] at h
  exact ndL_brks h.1
/-! ### who works where: no more than there are -/
theorem insPut_perm (less : Nat → Nat → Bool) (l : List Nat) (x : Nat) : (insPut less l x).Perm (x :: l) := by
  unfold insPut
  refine List.perm_middle.trans ?_
  rw [List.take_append_drop]
theorem fold_perm (less : Nat → Nat → Bool) : ∀ (l acc : List Nat), (l.foldl (insPut less) acc).Perm (l ++ acc)
  | [], acc => List.Perm.refl _
  | x :: l, acc => by
    rw [List.foldl_cons]
    refine (fold_perm less l _).trans ?_
    refine ((insPut_perm less acc x).append_left l).trans ?_
    exact List.perm_middle
theorem needO_nodup (xs : List Brk) (k : Nat) : (needO xs k).Nodup := by
  have h1 : (needL xs k).Nodup := by
    unfold needL
    exact List.Nodup.sublist (List.filter_sublist ..) List.nodup_range
  have h2 : (needO xs k).Perm (needL xs k) := by
    unfold needO ordL
    have := fold_perm (ahead xs) (needL xs k) []
    simpa using this
  exact h2.nodup_iff.2 h1
def sumI : List Int → Int
  | [] => 0
  | x :: l => x + sumI l
theorem sumI_set : ∀ (l : List Int) (i : Nat) (v : Int), i < l.length → sumI (l.set i v) = sumI l - el l i + v
  | [], i, v, h => by simp at h
  | x :: l, 0, v, _ => by simp [sumI, el]; omega
  | x :: l, i + 1, v, h => by
    have := sumI_set l i v (by simpa using h)
    simp only [List.set_cons_succ, sumI, this]
    have : el (x :: l) (i + 1) = el l i := by simp [el]
    omega
theorem wkSt_sum {xs : List Brk} {os : List Nat} {W : Int} (hv : ∀ i, i < xs.length → Ok6 (el xs i)) (ho : ∀ i, i < os.length → el os i < xs.length) (h0 : 0 ≤ W) (h1 : W ≤ 40) : ∀ t, t ≤ os.length → sumI (wkSt xs os W t).1 + (wkSt xs os W t).2 ≤ W
  | 0, _ => by
    have : ∀ n, sumI (List.replicate n 0) = 0 := fun n => by
      induction n with
      | zero => rfl
      | succ n ih => rw [List.replicate_succ, sumI, ih]; rfl
    simp only [wkSt, this]; omega
  | t + 1, ht => by
    have ih := wkSt_sum hv ho h0 h1 t (by omega)
    obtain ⟨_, hz⟩ := wkSt_bd hv ho h0 h1 t (by omega)
    have hlt : el os t < (wkSt xs os W t).1.length := by rw [wkSt_len]; exact ho t (by omega)
    have := (hz _ (el_mem hlt)).1
    rw [wkSt]
    simp only
    rw [sumI_set _ _ _ hlt]
    omega
theorem sum_over : ∀ (n : Nat) (L : List Nat) (f : Nat → Int), (∀ i, i < n → 0 ≤ f i) → L.Nodup → (∀ i ∈ L, i < n) → sumI (L.map f) ≤ sumI ((List.range n).map f)
  | 0, L, f, _, _, h => by
    have : L = [] := by
      cases L with
      | nil => rfl
      | cons x l => exact absurd (h x (List.mem_cons_self ..)) (by omega)
    subst this; exact Int.le_refl _
  | n + 1, L, f, hf, hn, h => by
    have perm_sum : ∀ {a b : List Int}, a.Perm b → sumI a = sumI b := fun p => by
      induction p with
      | nil => rfl
      | cons x _ ih => simp only [sumI, ih]
      | swap x y l => simp only [sumI]; omega
      | trans _ _ ih1 ih2 => exact ih1.trans ih2
    have app : ∀ a b : List Int, sumI (a ++ b) = sumI a + sumI b := fun a b => by
      induction a with
      | nil => simp [sumI]
      | cons x l ih => simp only [List.cons_append, sumI, ih]; omega
    rw [List.range_succ, List.map_append, app]
    simp only [List.map_cons, List.map_nil, sumI]
    by_cases hm : n ∈ L
    · have p := List.perm_cons_erase hm
      have := perm_sum (p.map f)
      rw [this]
      simp only [List.map_cons, sumI]
      have ih := sum_over n (L.erase n) f (fun i hi => hf i (by omega)) (hn.erase n) (fun i hi => by
        have h1 := h i (List.mem_of_mem_erase hi)
        have h2 : i ≠ n := fun e => by subst e; exact ((hn.mem_erase_iff).1 hi).1 rfl
        omega)
      omega
    · have ih := sum_over n L f (fun i hi => hf i (by omega)) hn (fun i hi => by
        have h1 := h i hi
        have h2 : i ≠ n := fun e => hm (e ▸ hi)
        omega)
      have := hf n (by omega)
      omega
theorem range_el (l : List Int) : (List.range l.length).map (fun i => el l i) = l := by
  apply List.ext_getElem
  · simp
  · intro i h1 h2
    simp [el_get h2]
def onTo (xs : List Brk) (W : Int) (L : List Nat) (k : Nat) : Int := sumI ((L.take k).map fun i => el (wkL xs W) i)
theorem onTo_succ {xs : List Brk} {W : Int} {L : List Nat} {k : Nat} (h : k < L.length) : onTo xs W L (k + 1) = onTo xs W L k + el (wkL xs W) (el L k) := by
  have app : ∀ a b : List Int, sumI (a ++ b) = sumI a + sumI b := fun a b => by
    induction a with
    | nil => simp [sumI]
    | cons x l ih => simp only [List.cons_append, sumI, ih]; omega
  unfold onTo
  rw [take_el h, List.map_append, app]
  simp [sumI]
theorem brks_ok6 {xs : List Brk} (h : brksOK xs = true) : ∀ i, i < xs.length → Ok6 (el xs i) := fun i hi => by
  have := (brksOK_bd h).2 i hi
  simp only [brkAt, Bool.and_eq_true] at this
  have := brkOK_iff.1 this.1
  unfold Ok6; omega
theorem on_le {xs : List Brk} {W : Int} (h : ndB xs W = true) : ∀ k, k ≤ (woL xs W).length → 0 ≤ onTo xs W (woL xs W) k ∧ onTo xs W (woL xs W) k ≤ W := fun k hk => by
  have h' := h
  simp only [ndB, Bool.and_eq_true, inB_iff] at h'
  obtain ⟨hb, h0, h1⟩ := h'
  have hv := brks_ok6 hb
  have hw := wkL_bd hv h0 h1
  have hsub : (woL xs W).Sublist (needO xs xs.length) := by
    rw [woL, if_pos h, pO]
    exact (List.filter_sublist ..).trans (List.take_sublist ..)
  have hnd : ((woL xs W).take k).Nodup := List.Nodup.sublist ((List.take_sublist ..).trans hsub) (needO_nodup xs xs.length)
  have hmem : ∀ i ∈ (woL xs W).take k, i < xs.length := fun i hi => needO_lt i (hsub.subset (List.mem_of_mem_take hi))
  constructor
  · unfold onTo
    have : ∀ l : List Int, (∀ z ∈ l, 0 ≤ z) → 0 ≤ sumI l := fun l => by
      induction l with
      | nil => intro _; exact Int.le_refl _
      | cons x l ih =>
        intro hz
        have := ih fun z hz' => hz z (List.mem_cons_of_mem _ hz')
        have := hz x (List.mem_cons_self ..)
        simp only [sumI]; omega
    refine this _ fun z hz => ?_
    obtain ⟨i, hi, rfl⟩ := List.mem_map.1 hz
    exact (hw i (hmem i hi)).1
  · have s1 := sum_over xs.length ((woL xs W).take k) (fun i => el (wkL xs W) i) (fun i hi => (hw i hi).1) hnd hmem
    have s2 := wkSt_sum hv (needO_el xs) h0 h1 _ (Nat.le_refl _)
    have s3 := (wkSt_bd hv (needO_el xs) h0 h1 _ (Nat.le_refl _)).1.1
    have e := range_el (wkL xs W)
    rw [wkL_len] at e
    rw [e] at s1
    unfold onTo
    have : wkL xs W = (wkSt xs (needO xs xs.length) W (needO xs xs.length).length).1 := rfl
    rw [← this] at s2
    omega
theorem ndR_le (xs : List Brk) (W : Int) : (ndR xs W).length ≤ xs.length := by
  unfold ndR; split
  · rw [ndL_len]; exact Nat.le_refl _
  · simp
theorem iNextDay_at (ad : Addr) (c : Nat) (xs : List Brk) (W : Int) (w : World) (ys : List Brk) (hy : ndR xs W = ys) (h : Rd w w.heap.size (some ad) 6 Brk.enc xs) (hx : xs.length ≤ 1048576) :
    Calls Try.prog 50 #[.slice (some ad) xs.length c, .int .i64 W] w fun e w' => MadeAt w 25 (ys.flatMap Brk.enc) ys.length (fun v => .returned (.tuple #[v, .bool (ndB xs W)])) e w' := hy ▸ iNextDay_any ad c xs W w h hx
theorem SSAt.mono_ {w : World} {base b' n : Nat} {A : Option Addr} {cs : Nat → List Value} (h : SSAt w base A n cs) (hb : b' ≤ base) : SSAt w b' A n cs := by
  obtain ⟨gs, h1, h2, h3⟩ := h
  exact ⟨gs, ⟨h1.1, fun i hi => ⟨Nat.le_trans hb (h1.2.1 i hi).1, (h1.2.1 i hi).2⟩, h1.2.2⟩, h2.mono hb, h3⟩
set_option maxRecDepth 100000 in
set_option maxHeartbeats 40000000 in
theorem FnBreaks_p10 {u1 u2 u3 u4 u5 u6 u7 u8 u9 u10 u11 u12 u13 u14 u15 u16 u17 u18 u19 u20 u21 u22 u23 u24 u25 u26 u27 u28 u29 u30 u31 u32 u33 u34 u35 u36 u37 u38 u39 u40 u41 u42 u43 u44 u45 u46 u47 u48 u49 u50 u51 u52 u53 u54 u55 u56 u57 u58 u59 u60 u61 u62 u63 u64 u65 u66 u67 u68 u69 u70 u71 u72 u73 u74 u75 u76 u77 u78 u79 u80 u81 u82 u83 u84 u85 u86 u87 u88 u89 u90 u91 u92 u93 u94 u95 u96 u97 u98 u99 u100 u101 u102 u103 u104 u105 u106 u107 u108 u109 u110 u111 u112 u113 u114 u115 u116 u117 u118 u119 u120 u121 u122 u123 u124 u125 u126 u127 u128 u129 u130 u131 u132 u133 u134 u135 u136 u137 u138 u139 u140 u141 u142 u143 u144 u145 u146 u147 u148 u149 u150 u151 u152 u153 u154 u155 u156 u157 u158 u159 u160 u161 u162 u163 u164 u165 u166 u167 u168 u169 u170 u171 u172 u173 u174 u175 u176 u177 u178 u179 u180 u181 u182 u183 u184 u185 u186 u187 u188 u189 u190 u191 u192 u193 u194 u195 u196 u197 u198 u199 u200 u201 u202 u203 u204 u205 u206 u207 u208 u209 u210 u211 u212 u213 u214 u215 u216 u217 u218 u219 u220 u221 u222 u223 u224 u225 u226 u227 u228 u229 u230 u231 u232 u233 u234 u235 u236 u237 u238 u239 : Value} (A : Option Addr) (n c : Nat) (w wc : World) (hn : n ≤ 65536) (hB : Byt w w.heap.size A n) (h_below : Below w.heap.size w wc) (K : Act → World → Prop) (hK : ∀ a w1, (tailOf 11 (Try.f15.body.getD .skip)).wp Try.prog (bodyPost Try.prog Try.f15 fun e w' => e = .returned (.bool true) ∧ Below w.heap.size w w') a w1 → K a w1) :
    (headOf (tailOf 10 (Try.f15.body.getD .skip))).wp Try.prog (Exit.then K (bodyPost Try.prog Try.f15 fun e w' => e = .returned (.bool true) ∧ Below w.heap.size w w')) ⟨#[.slice A n c, u1, u2, u3, u4, u5, u6, u7, u8, u9, u10, u11, u12, u13, u14, u15, u16, u17, u18, u19, u20, u21, u22, u23, u24, u25, u26, u27, u28, u29, u30, u31, u32, u33, u34, u35, u36, u37, u38, u39, u40, u41, u42, u43, u44, u45, u46, u47, u48, u49, u50, u51, u52, u53, u54, u55, u56, u57, u58, u59, u60, u61, u62, u63, u64, u65, u66, u67, u68, u69, u70, u71, u72, u73, u74, u75, u76, u77, u78, u79, u80, u81, u82, u83, u84, u85, u86, u87, u88, u89, u90, u91, u92, u93, u94, u95, u96, u97, u98, u99, u100, u101, u102, u103, u104, u105, u106, u107, u108, u109, u110, u111, u112, u113, u114, u115, u116, u117, u118, u119, u120, u121, u122, u123, u124, u125, u126, u127, u128, u129, u130, u131, u132, u133, u134, u135, u136, u137, u138, u139, u140, u141, u142, u143, u144, u145, u146, u147, u148, u149, u150, u151, u152, u153, u154, u155, u156, u157, u158, u159, u160, u161, u162, u163, u164, u165, u166, u167, u168, u169, u170, u171, u172, u173, u174, u175, u176, u177, u178, u179, u180, u181, u182, u183, u184, u185, u186, u187, u188, u189, u190, u191, u192, u193, u194, u195, u196, u197, u198, u199, u200, u201, u202, u203, u204, u205, u206, u207, u208, u209, u210, u211, u212, u213, u214, u215, u216, u217, u218, u219, u220, u221, u222, u223, u224, u225, u226, u227, u228, u229, u230, u231, u232, u233, u234, u235, u236, u237, u238, u239], []⟩ wc := by
  have s_below := h_below.size
  simp only [tailOf, headOf, Option.getD, Try.f15] at hK ⊢
  go_wp2_with fail
  refine Dr.cut_calls (fun X => (Below w.heap.size w X)) ((by repeat' (first | (with_reducible exact Below.refl _ _) | (with_reducible refine Below.alloc ?_ ?_ _) | (with_reducible refine Below.setCell ?_ ?_ _) | (with_reducible refine Below.drew ?_) | (with_reducible refine Below.trans ?_ (Below.mono (by with_reducible assumption) ?_)) | omega | (simp; done) | (simp; omega)))) ?_
  clear h_below s_below
  intro Y1 h_below
  refine (dNextDay_any _ _ _ _ hn (Dr.byt_more (hB.below h_below) h_below.size)).mono ?_
  rintro e X1 ⟨adC, xsC, cC, zC, rfl, hlC, hrC, hzC, hb1⟩
  have h_below0 := h_below
  replace h_below := h_below.trans (hb1.mono h_below.size)
  clear hb1
  have h_xc := hrC
  clear h_below0
  have s_below := h_below.size
  go_wp2_with fail
  refine Dr.cut_calls (fun X => (Below w.heap.size w X) ∧ (Rd X X.heap.size (some adC) 6 Brk.enc xsC)) ⟨(by repeat' (first | (with_reducible exact Below.refl _ _) | (with_reducible refine Below.alloc ?_ ?_ _) | (with_reducible refine Below.setCell ?_ ?_ _) | (with_reducible refine Below.drew ?_) | (with_reducible refine Below.trans ?_ (Below.mono (by with_reducible assumption) ?_)) | omega | (simp; done) | (simp; omega))), (h_xc.to (by repeat' (first | (with_reducible exact Below.refl _ _) | (with_reducible refine Below.alloc ?_ ?_ _) | (with_reducible refine Below.setCell ?_ ?_ _) | (with_reducible refine Below.drew ?_) | (with_reducible refine Below.trans ?_ (Below.mono (by with_reducible assumption) ?_)) | omega | (simp; done) | (simp; omega))))⟩ ?_
  clear h_below s_below h_xc
  rintro Y2 ⟨h_below, h_xc⟩
  refine (iNextDay_any _ _ _ zC _ h_xc (by omega)).mono ?_
  rintro e X2 ⟨AN, cN, rfl, hoN, hb2⟩
  have h_below0 := h_below
  replace h_below := h_below.trans (hb2.mono h_below.size)
  replace h_xc := h_xc.to hb2
  clear hb2
  have h_on := hoN.mono h_below0.size
  clear h_below0
  have s_below := h_below.size
  have hnl := ndR_le xsC zC
  go_wp2_with fail
  refine Dr.cut_calls (fun X => (Below w.heap.size w X) ∧ (Rd X X.heap.size (some adC) 6 Brk.enc xsC) ∧ (OwnAt X w.heap.size 25 ((ndR xsC zC).flatMap Brk.enc) (ndR xsC zC).length AN)) ⟨(by repeat' (first | (with_reducible exact Below.refl _ _) | (with_reducible refine Below.alloc ?_ ?_ _) | (with_reducible refine Below.setCell ?_ ?_ _) | (with_reducible refine Below.drew ?_) | (with_reducible refine Below.trans ?_ (Below.mono (by with_reducible assumption) ?_)) | omega | (simp; done) | (simp; omega))), (h_xc.to (by repeat' (first | (with_reducible exact Below.refl _ _) | (with_reducible refine Below.alloc ?_ ?_ _) | (with_reducible refine Below.setCell ?_ ?_ _) | (with_reducible refine Below.drew ?_) | (with_reducible refine Below.trans ?_ (Below.mono (by with_reducible assumption) ?_)) | omega | (simp; done) | (simp; omega)))), (h_on.to (by repeat' (first | (with_reducible exact Below.refl _ _) | (with_reducible refine Below.alloc ?_ ?_ _) | (with_reducible refine Below.setCell ?_ ?_ _) | (with_reducible refine Below.drew ?_) | (with_reducible refine Below.trans ?_ (Below.mono (by with_reducible assumption) ?_)) | omega | (simp; done) | (simp; omega))))⟩ ?_
  clear h_below s_below h_xc h_on
  rintro Y3 ⟨h_below, h_xc, h_on⟩
  refine (sNextDay_any _ _ _ zC _ h_xc (by omega)).mono ?_
  rintro e X3 ⟨AM, cM, rfl, hoM, hb3⟩
  have h_below0 := h_below
  replace h_below := h_below.trans (hb3.mono h_below.size)
  replace h_xc := h_xc.to hb3
  replace h_on := h_on.to hb3
  clear hb3
  have h_om := hoM.mono h_below0.size
  clear h_below0
  have s_below := h_below.size
  go_wp2_with fail
  refine Dr.cut_calls (fun X => (Below w.heap.size w X) ∧ (Rd X X.heap.size (some adC) 6 Brk.enc xsC) ∧ (OwnAt X w.heap.size 25 ((ndR xsC zC).flatMap Brk.enc) (ndR xsC zC).length AN) ∧ (OwnAt X w.heap.size 25 ((ndR xsC zC).flatMap Brk.enc) (ndR xsC zC).length AM)) ⟨(by repeat' (first | (with_reducible exact Below.refl _ _) | (with_reducible refine Below.alloc ?_ ?_ _) | (with_reducible refine Below.setCell ?_ ?_ _) | (with_reducible refine Below.drew ?_) | (with_reducible refine Below.trans ?_ (Below.mono (by with_reducible assumption) ?_)) | omega | (simp; done) | (simp; omega))), (h_xc.to (by repeat' (first | (with_reducible exact Below.refl _ _) | (with_reducible refine Below.alloc ?_ ?_ _) | (with_reducible refine Below.setCell ?_ ?_ _) | (with_reducible refine Below.drew ?_) | (with_reducible refine Below.trans ?_ (Below.mono (by with_reducible assumption) ?_)) | omega | (simp; done) | (simp; omega)))), (h_on.to (by repeat' (first | (with_reducible exact Below.refl _ _) | (with_reducible refine Below.alloc ?_ ?_ _) | (with_reducible refine Below.setCell ?_ ?_ _) | (with_reducible refine Below.drew ?_) | (with_reducible refine Below.trans ?_ (Below.mono (by with_reducible assumption) ?_)) | omega | (simp; done) | (simp; omega)))), (h_om.to (by repeat' (first | (with_reducible exact Below.refl _ _) | (with_reducible refine Below.alloc ?_ ?_ _) | (with_reducible refine Below.setCell ?_ ?_ _) | (with_reducible refine Below.drew ?_) | (with_reducible refine Below.trans ?_ (Below.mono (by with_reducible assumption) ?_)) | omega | (simp; done) | (simp; omega))))⟩ ?_
  clear h_below s_below h_xc h_on h_om
  rintro Y4 ⟨h_below, h_xc, h_on, h_om⟩
  refine (rBreaks_same _ _ _ _ _ _ (h_on.rd Brk.enc_len) (h_om.rd Brk.enc_len) (by omega)).mono ?_
  rintro e X4 ⟨rfl, hb4⟩
  have h_below0 := h_below
  replace h_below := h_below.trans (hb4.mono h_below.size)
  replace h_xc := h_xc.to hb4
  replace h_on := h_on.to hb4
  clear hb4
  clear h_below0
  have s_below := h_below.size
  clear h_om
  cases hk : ndB xsC zC
  · go_wp2_with fail
    refine Dr.cut_calls (fun X => (Below w.heap.size w X) ∧ (Rd X X.heap.size (some adC) 6 Brk.enc xsC)) ⟨(by repeat' (first | (with_reducible exact Below.refl _ _) | (with_reducible refine Below.alloc ?_ ?_ _) | (with_reducible refine Below.setCell ?_ ?_ _) | (with_reducible refine Below.drew ?_) | (with_reducible refine Below.trans ?_ (Below.mono (by with_reducible assumption) ?_)) | omega | (simp; done) | (simp; omega))), (h_xc.to (by repeat' (first | (with_reducible exact Below.refl _ _) | (with_reducible refine Below.alloc ?_ ?_ _) | (with_reducible refine Below.setCell ?_ ?_ _) | (with_reducible refine Below.drew ?_) | (with_reducible refine Below.trans ?_ (Below.mono (by with_reducible assumption) ?_)) | omega | (simp; done) | (simp; omega))))⟩ ?_
    clear h_below s_below h_xc h_on
    rintro Y5 ⟨h_below, h_xc⟩
    refine (iWorkersOn_any _ _ _ zC _ h_xc (by omega)).mono ?_
    rintro e X5 ⟨AP, cP, rfl, hoP, hb5⟩
    have h_below0 := h_below
    replace h_below := h_below.trans (hb5.mono h_below.size)
    replace h_xc := h_xc.to hb5
    clear hb5
    have h_op := SSAt.mono_ hoP h_below0.size
    clear h_below0
    have s_below := h_below.size
    have hwl := woL_len xsC zC
    go_wp2_with fail
    refine Dr.cut_calls (fun X => (Below w.heap.size w X) ∧ (Rd X X.heap.size (some adC) 6 Brk.enc xsC) ∧ (SSAt X w.heap.size AP (woL xsC zC).length (pC xsC zC (woL xsC zC)))) ⟨(by repeat' (first | (with_reducible exact Below.refl _ _) | (with_reducible refine Below.alloc ?_ ?_ _) | (with_reducible refine Below.setCell ?_ ?_ _) | (with_reducible refine Below.drew ?_) | (with_reducible refine Below.trans ?_ (Below.mono (by with_reducible assumption) ?_)) | omega | (simp; done) | (simp; omega))), (h_xc.to (by repeat' (first | (with_reducible exact Below.refl _ _) | (with_reducible refine Below.alloc ?_ ?_ _) | (with_reducible refine Below.setCell ?_ ?_ _) | (with_reducible refine Below.drew ?_) | (with_reducible refine Below.trans ?_ (Below.mono (by with_reducible assumption) ?_)) | omega | (simp; done) | (simp; omega)))), (h_op.to (by repeat' (first | (with_reducible exact Below.refl _ _) | (with_reducible refine Below.alloc ?_ ?_ _) | (with_reducible refine Below.setCell ?_ ?_ _) | (with_reducible refine Below.drew ?_) | (with_reducible refine Below.trans ?_ (Below.mono (by with_reducible assumption) ?_)) | omega | (simp; done) | (simp; omega))))⟩ ?_
    clear h_below s_below h_xc h_op
    rintro Y6 ⟨h_below, h_xc, h_op⟩
    refine (sWorkersOn_any _ _ _ zC _ h_xc (by omega)).mono ?_
    rintro e X6 ⟨AQ, cQ, rfl, hoQ, hb6⟩
    have h_below0 := h_below
    replace h_below := h_below.trans (hb6.mono h_below.size)
    replace h_op := h_op.to hb6
    clear hb6
    have h_oq := SSAt.mono_ hoQ h_below0.size
    clear h_below0
    have s_below := h_below.size
    clear h_xc
    go_wp2_with fail
    refine Dr.cut_calls (fun X => (Below w.heap.size w X) ∧ (SSAt X w.heap.size AP (woL xsC zC).length (pC xsC zC (woL xsC zC))) ∧ (SSAt X w.heap.size AQ (woL xsC zC).length (pC xsC zC (woL xsC zC)))) ⟨(by repeat' (first | (with_reducible exact Below.refl _ _) | (with_reducible refine Below.alloc ?_ ?_ _) | (with_reducible refine Below.setCell ?_ ?_ _) | (with_reducible refine Below.drew ?_) | (with_reducible refine Below.trans ?_ (Below.mono (by with_reducible assumption) ?_)) | omega | (simp; done) | (simp; omega))), (h_op.to (by repeat' (first | (with_reducible exact Below.refl _ _) | (with_reducible refine Below.alloc ?_ ?_ _) | (with_reducible refine Below.setCell ?_ ?_ _) | (with_reducible refine Below.drew ?_) | (with_reducible refine Below.trans ?_ (Below.mono (by with_reducible assumption) ?_)) | omega | (simp; done) | (simp; omega)))), (h_oq.to (by repeat' (first | (with_reducible exact Below.refl _ _) | (with_reducible refine Below.alloc ?_ ?_ _) | (with_reducible refine Below.setCell ?_ ?_ _) | (with_reducible refine Below.drew ?_) | (with_reducible refine Below.trans ?_ (Below.mono (by with_reducible assumption) ?_)) | omega | (simp; done) | (simp; omega))))⟩ ?_
    clear h_below s_below h_op h_oq
    rintro Y7 ⟨h_below, h_op, h_oq⟩
    refine (rTable_same _ _ _ _ _ _ _ _ _ _ h_op h_oq (by omega)).mono ?_
    rintro e X7 ⟨rfl, hb7⟩
    have h_below0 := h_below
    replace h_below := h_below.trans (hb7.mono h_below.size)
    replace h_op := h_op.to hb7
    clear hb7
    clear h_below0
    have s_below := h_below.size
    clear h_oq
    go_wp2_with fail
    go_loopw [35, 36] (fun v i wr => ∃ k : Nat, k ≤ (woL xsC zC).length ∧ i = .int .i64 k ∧ v = .int .i64 (onTo xsC zC (woL xsC zC) k) ∧ Hid (Below w.heap.size w wr) ∧ Hid (SSAt wr w.heap.size AP (woL xsC zC).length (pC xsC zC (woL xsC zC)))) (fun _ i _ => (woL xsC zC).length - (intOf i).toNat)
    case atStart => exact ⟨0, Nat.zero_le _, rfl, rfl, h_below.trans (by repeat' (first | (with_reducible exact Below.refl _ _) | (with_reducible refine Below.alloc ?_ ?_ _) | (with_reducible refine Below.setCell ?_ ?_ _) | (with_reducible refine Below.drew ?_) | (with_reducible refine Below.trans ?_ (Below.mono (by with_reducible assumption) ?_)) | omega | (simp; done) | (simp; omega))), SSAt.to h_op (by repeat' (first | (with_reducible exact Below.refl _ _) | (with_reducible refine Below.alloc ?_ ?_ _) | (with_reducible refine Below.setCell ?_ ?_ _) | (with_reducible refine Below.drew ?_) | (with_reducible refine Below.trans ?_ (Below.mono (by with_reducible assumption) ?_)) | omega | (simp; done) | (simp; omega)))⟩
    case round =>
      clear h_below s_below h_op
      obtain ⟨k, hk1, rfl, rfl, hbw, hss⟩ := hrel
      by_cases hlt : k < (woL xsC zC).length
      · have hz : (woL xsC zC).length = 0 := by simp [woL, hk]
        omega
      · have hI : ¬ (k : Int) < (woL xsC zC).length := by omega
        go_wp2_with fail
        go_ret
        exact ⟨rfl, hbw⟩
  · have hbk := next_brks hk
    go_wp2_with fail
    refine Dr.cut_calls (fun X => (Below w.heap.size w X) ∧ (Rd X X.heap.size (some adC) 6 Brk.enc xsC) ∧ (OwnAt X w.heap.size 25 ((ndR xsC zC).flatMap Brk.enc) (ndR xsC zC).length AN)) ⟨(by repeat' (first | (with_reducible exact Below.refl _ _) | (with_reducible refine Below.alloc ?_ ?_ _) | (with_reducible refine Below.setCell ?_ ?_ _) | (with_reducible refine Below.drew ?_) | (with_reducible refine Below.trans ?_ (Below.mono (by with_reducible assumption) ?_)) | omega | (simp; done) | (simp; omega))), (h_xc.to (by repeat' (first | (with_reducible exact Below.refl _ _) | (with_reducible refine Below.alloc ?_ ?_ _) | (with_reducible refine Below.setCell ?_ ?_ _) | (with_reducible refine Below.drew ?_) | (with_reducible refine Below.trans ?_ (Below.mono (by with_reducible assumption) ?_)) | omega | (simp; done) | (simp; omega)))), (h_on.to (by repeat' (first | (with_reducible exact Below.refl _ _) | (with_reducible refine Below.alloc ?_ ?_ _) | (with_reducible refine Below.setCell ?_ ?_ _) | (with_reducible refine Below.drew ?_) | (with_reducible refine Below.trans ?_ (Below.mono (by with_reducible assumption) ?_)) | omega | (simp; done) | (simp; omega))))⟩ ?_
    clear h_below s_below h_xc h_on
    rintro Y5 ⟨h_below, h_xc, h_on⟩
    refine (areBreaks_any _ _ _ _ (h_on.rd Brk.enc_len) (by omega)).mono ?_
    rintro e X5 ⟨rfl, hb5⟩
    have h_below0 := h_below
    replace h_below := h_below.trans (hb5.mono h_below.size)
    replace h_xc := h_xc.to hb5
    clear hb5
    clear h_below0
    have s_below := h_below.size
    clear h_on
    go_wp2_with fail
    refine Dr.cut_calls (fun X => (Below w.heap.size w X) ∧ (Rd X X.heap.size (some adC) 6 Brk.enc xsC)) ⟨(by repeat' (first | (with_reducible exact Below.refl _ _) | (with_reducible refine Below.alloc ?_ ?_ _) | (with_reducible refine Below.setCell ?_ ?_ _) | (with_reducible refine Below.drew ?_) | (with_reducible refine Below.trans ?_ (Below.mono (by with_reducible assumption) ?_)) | omega | (simp; done) | (simp; omega))), (h_xc.to (by repeat' (first | (with_reducible exact Below.refl _ _) | (with_reducible refine Below.alloc ?_ ?_ _) | (with_reducible refine Below.setCell ?_ ?_ _) | (with_reducible refine Below.drew ?_) | (with_reducible refine Below.trans ?_ (Below.mono (by with_reducible assumption) ?_)) | omega | (simp; done) | (simp; omega))))⟩ ?_
    clear h_below s_below h_xc
    rintro Y6 ⟨h_below, h_xc⟩
    refine (iWorkersOn_any _ _ _ zC _ h_xc (by omega)).mono ?_
    rintro e X6 ⟨AP, cP, rfl, hoP, hb6⟩
    have h_below0 := h_below
    replace h_below := h_below.trans (hb6.mono h_below.size)
    replace h_xc := h_xc.to hb6
    clear hb6
    have h_op := SSAt.mono_ hoP h_below0.size
    clear h_below0
    have s_below := h_below.size
    have hwl := woL_len xsC zC
    go_wp2_with fail
    refine Dr.cut_calls (fun X => (Below w.heap.size w X) ∧ (Rd X X.heap.size (some adC) 6 Brk.enc xsC) ∧ (SSAt X w.heap.size AP (woL xsC zC).length (pC xsC zC (woL xsC zC)))) ⟨(by repeat' (first | (with_reducible exact Below.refl _ _) | (with_reducible refine Below.alloc ?_ ?_ _) | (with_reducible refine Below.setCell ?_ ?_ _) | (with_reducible refine Below.drew ?_) | (with_reducible refine Below.trans ?_ (Below.mono (by with_reducible assumption) ?_)) | omega | (simp; done) | (simp; omega))), (h_xc.to (by repeat' (first | (with_reducible exact Below.refl _ _) | (with_reducible refine Below.alloc ?_ ?_ _) | (with_reducible refine Below.setCell ?_ ?_ _) | (with_reducible refine Below.drew ?_) | (with_reducible refine Below.trans ?_ (Below.mono (by with_reducible assumption) ?_)) | omega | (simp; done) | (simp; omega)))), (h_op.to (by repeat' (first | (with_reducible exact Below.refl _ _) | (with_reducible refine Below.alloc ?_ ?_ _) | (with_reducible refine Below.setCell ?_ ?_ _) | (with_reducible refine Below.drew ?_) | (with_reducible refine Below.trans ?_ (Below.mono (by with_reducible assumption) ?_)) | omega | (simp; done) | (simp; omega))))⟩ ?_
    clear h_below s_below h_xc h_op
    rintro Y7 ⟨h_below, h_xc, h_op⟩
    refine (sWorkersOn_any _ _ _ zC _ h_xc (by omega)).mono ?_
    rintro e X7 ⟨AQ, cQ, rfl, hoQ, hb7⟩
    have h_below0 := h_below
    replace h_below := h_below.trans (hb7.mono h_below.size)
    replace h_op := h_op.to hb7
    clear hb7
    have h_oq := SSAt.mono_ hoQ h_below0.size
    clear h_below0
    have s_below := h_below.size
    clear h_xc
    go_wp2_with fail
    refine Dr.cut_calls (fun X => (Below w.heap.size w X) ∧ (SSAt X w.heap.size AP (woL xsC zC).length (pC xsC zC (woL xsC zC))) ∧ (SSAt X w.heap.size AQ (woL xsC zC).length (pC xsC zC (woL xsC zC)))) ⟨(by repeat' (first | (with_reducible exact Below.refl _ _) | (with_reducible refine Below.alloc ?_ ?_ _) | (with_reducible refine Below.setCell ?_ ?_ _) | (with_reducible refine Below.drew ?_) | (with_reducible refine Below.trans ?_ (Below.mono (by with_reducible assumption) ?_)) | omega | (simp; done) | (simp; omega))), (h_op.to (by repeat' (first | (with_reducible exact Below.refl _ _) | (with_reducible refine Below.alloc ?_ ?_ _) | (with_reducible refine Below.setCell ?_ ?_ _) | (with_reducible refine Below.drew ?_) | (with_reducible refine Below.trans ?_ (Below.mono (by with_reducible assumption) ?_)) | omega | (simp; done) | (simp; omega)))), (h_oq.to (by repeat' (first | (with_reducible exact Below.refl _ _) | (with_reducible refine Below.alloc ?_ ?_ _) | (with_reducible refine Below.setCell ?_ ?_ _) | (with_reducible refine Below.drew ?_) | (with_reducible refine Below.trans ?_ (Below.mono (by with_reducible assumption) ?_)) | omega | (simp; done) | (simp; omega))))⟩ ?_
    clear h_below s_below h_op h_oq
    rintro Y8 ⟨h_below, h_op, h_oq⟩
    refine (rTable_same _ _ _ _ _ _ _ _ _ _ h_op h_oq (by omega)).mono ?_
    rintro e X8 ⟨rfl, hb8⟩
    have h_below0 := h_below
    replace h_below := h_below.trans (hb8.mono h_below.size)
    replace h_op := h_op.to hb8
    clear hb8
    clear h_below0
    have s_below := h_below.size
    clear h_oq
    go_wp2_with fail
    go_loopw [35, 36] (fun v i wr => ∃ k : Nat, k ≤ (woL xsC zC).length ∧ i = .int .i64 k ∧ v = .int .i64 (onTo xsC zC (woL xsC zC) k) ∧ Hid (Below w.heap.size w wr) ∧ Hid (SSAt wr w.heap.size AP (woL xsC zC).length (pC xsC zC (woL xsC zC)))) (fun _ i _ => (woL xsC zC).length - (intOf i).toNat)
    case atStart => exact ⟨0, Nat.zero_le _, rfl, rfl, h_below.trans (by repeat' (first | (with_reducible exact Below.refl _ _) | (with_reducible refine Below.alloc ?_ ?_ _) | (with_reducible refine Below.setCell ?_ ?_ _) | (with_reducible refine Below.drew ?_) | (with_reducible refine Below.trans ?_ (Below.mono (by with_reducible assumption) ?_)) | omega | (simp; done) | (simp; omega))), SSAt.to h_op (by repeat' (first | (with_reducible exact Below.refl _ _) | (with_reducible refine Below.alloc ?_ ?_ _) | (with_reducible refine Below.setCell ?_ ?_ _) | (with_reducible refine Below.drew ?_) | (with_reducible refine Below.trans ?_ (Below.mono (by with_reducible assumption) ?_)) | omega | (simp; done) | (simp; omega)))⟩
    case round =>
      clear h_below s_below h_op
      obtain ⟨k, hk1, rfl, rfl, hbw, hss⟩ := hrel
      by_cases hlt : k < (woL xsC zC).length
      · have q1 := on_le hk k (by omega)
        have q2 := on_le hk (k + 1) (by omega)
        have q3 := onTo_succ (xs := xsC) (W := zC) hlt
        have q4 : zC ≤ 40 := by simp only [ndB, Bool.and_eq_true, inB_iff] at hk; omega
        have hw : wrap64 (onTo xsC zC (woL xsC zC) k + el (wkL xsC zC) (el (woL xsC zC) k)) = onTo xsC zC (woL xsC zC) (k + 1) := by unfold wrap64; omega
        obtain ⟨gs, p1, p2, _⟩ := hss.out
        rcases p2 with ⟨_, e0, _⟩ | ⟨B, rfl, _, hr⟩
        · omega
        have c0 := gsV_cell hr (j := k) (by rw [p1.1]; exact hlt)
        have q0 := (p1.2.1 k hlt).2
        obtain ⟨x, hx1⟩ : ∃ x, el gs k = x := ⟨_, rfl⟩
        rw [hx1] at c0 q0
        have d1 : wr.cell? ⟨x, 1, none⟩ = some (.int .i64 (el (wkL xsC zC) (el (woL xsC zC) k))) := q0.cell (j := 1) (by show 1 < 2; omega)
        have hB1 := hr.lt
        have hx2 := q0.lt
        clear hr p1 q0 q1 q2 q3 q4 hx1
        have hI : (k : Int) < (woL xsC zC).length := by omega
        have hI0 : (0 : Int) ≤ k := by omega
        go_wp2_with fail
        go_roundw
        case rel => exact ⟨k + 1, by omega, by go_num, by first | rfl | rw [hw] | simp [hw], hbw, hss⟩
        case measure => simp [intOf]; omega
      · have hI : ¬ (k : Int) < (woL xsC zC).length := by omega
        have q5 := (on_le hk k (by omega)).2
        go_wp2_with fail
        go_ret
        exact ⟨rfl, hbw⟩
set_option maxRecDepth 100000 in
set_option maxHeartbeats 40000000 in
theorem FnBreaks_p6 {u1 u2 u3 u4 u5 u6 u7 u8 u9 u10 u11 u12 u13 u14 u15 u16 u17 u18 u19 u20 u21 u22 u23 u24 u25 u26 u27 u28 u29 u30 u31 u32 u33 u34 u35 u36 u37 u38 u39 u40 u41 u42 u43 u44 u45 u46 u47 u48 u49 u50 u51 u52 u53 u54 u55 u56 u57 u58 u59 u60 u61 u62 u63 u64 u65 u66 u67 u68 u69 u70 u71 u72 u73 u74 u75 u76 u77 u78 u79 u80 u81 u82 u83 u84 u85 u86 u87 u88 u89 u90 u91 u92 u93 u94 u95 u96 u97 u98 u99 u100 u101 u102 u103 u104 u105 u106 u107 u108 u109 u110 u111 u112 u113 u114 u115 u116 u117 u118 u119 u120 u121 u122 u123 u124 u125 u126 u127 u128 u129 u130 u131 u132 u133 u134 u135 u136 u137 u138 u139 u140 u141 u142 u143 u144 u145 u146 u147 u148 u149 u150 u151 u152 u153 u154 u155 u156 u157 u158 u159 u160 u161 u162 u163 u164 u165 u166 u167 u168 u169 u170 u171 u172 u173 u174 u175 u176 u177 u178 u179 u180 u181 u182 u183 u184 u185 u186 u187 u188 u189 u190 u191 u192 u193 u194 u195 u196 u197 u198 u199 u200 u201 u202 u203 u204 u205 u206 u207 u208 u209 u210 u211 u212 u213 u214 u215 u216 u217 u218 u219 u220 u221 u222 u223 u224 u225 u226 u227 u228 u229 u230 u231 u232 u233 u234 u235 u236 u237 u238 u239 : Value} (A : Option Addr) (n c : Nat) (w wc : World) (hn : n ≤ 65536) (hB : Byt w w.heap.size A n) (h_below : Below w.heap.size w wc) (K : Act → World → Prop) (hK : ∀ a w1, (tailOf 7 (Try.f15.body.getD .skip)).wp Try.prog (bodyPost Try.prog Try.f15 fun e w' => e = .returned (.bool true) ∧ Below w.heap.size w w') a w1 → K a w1) :
    (headOf (tailOf 6 (Try.f15.body.getD .skip))).wp Try.prog (Exit.then K (bodyPost Try.prog Try.f15 fun e w' => e = .returned (.bool true) ∧ Below w.heap.size w w')) ⟨#[.slice A n c, u1, u2, u3, u4, u5, u6, u7, u8, u9, u10, u11, u12, u13, u14, u15, u16, u17, u18, u19, u20, u21, u22, u23, u24, u25, u26, u27, u28, u29, u30, u31, u32, u33, u34, u35, u36, u37, u38, u39, u40, u41, u42, u43, u44, u45, u46, u47, u48, u49, u50, u51, u52, u53, u54, u55, u56, u57, u58, u59, u60, u61, u62, u63, u64, u65, u66, u67, u68, u69, u70, u71, u72, u73, u74, u75, u76, u77, u78, u79, u80, u81, u82, u83, u84, u85, u86, u87, u88, u89, u90, u91, u92, u93, u94, u95, u96, u97, u98, u99, u100, u101, u102, u103, u104, u105, u106, u107, u108, u109, u110, u111, u112, u113, u114, u115, u116, u117, u118, u119, u120, u121, u122, u123, u124, u125, u126, u127, u128, u129, u130, u131, u132, u133, u134, u135, u136, u137, u138, u139, u140, u141, u142, u143, u144, u145, u146, u147, u148, u149, u150, u151, u152, u153, u154, u155, u156, u157, u158, u159, u160, u161, u162, u163, u164, u165, u166, u167, u168, u169, u170, u171, u172, u173, u174, u175, u176, u177, u178, u179, u180, u181, u182, u183, u184, u185, u186, u187, u188, u189, u190, u191, u192, u193, u194, u195, u196, u197, u198, u199, u200, u201, u202, u203, u204, u205, u206, u207, u208, u209, u210, u211, u212, u213, u214, u215, u216, u217, u218, u219, u220, u221, u222, u223, u224, u225, u226, u227, u228, u229, u230, u231, u232, u233, u234, u235, u236, u237, u238, u239], []⟩ wc := by
  have s_below := h_below.size
  simp only [tailOf, headOf, Option.getD, Try.f15] at hK ⊢
  go_wp2_with fail
  refine Dr.cut_calls (fun X => (Below w.heap.size w X)) ((by repeat' (first | (with_reducible exact Below.refl _ _) | (with_reducible refine Below.alloc ?_ ?_ _) | (with_reducible refine Below.setCell ?_ ?_ _) | (with_reducible refine Below.drew ?_) | (with_reducible refine Below.trans ?_ (Below.mono (by with_reducible assumption) ?_)) | omega | (simp; done) | (simp; omega)))) ?_
  clear h_below s_below
  intro Y1 h_below
  refine (dFewestWorkers_any _ _ _ _ hn (Dr.byt_more (hB.below h_below) h_below.size)).mono ?_
  rintro e X1 ⟨adB, xsB, cB, zB, rfl, hlB, hrB, hzB, hb1⟩
  have h_below0 := h_below
  replace h_below := h_below.trans (hb1.mono h_below.size)
  clear hb1
  have h_xb := hrB
  clear h_below0
  have s_below := h_below.size
  go_wp2_with fail
  refine Dr.cut_calls (fun X => (Below w.heap.size w X) ∧ (Rd X X.heap.size (some adB) 6 Brk.enc xsB)) ⟨(by repeat' (first | (with_reducible exact Below.refl _ _) | (with_reducible refine Below.alloc ?_ ?_ _) | (with_reducible refine Below.setCell ?_ ?_ _) | (with_reducible refine Below.drew ?_) | (with_reducible refine Below.trans ?_ (Below.mono (by with_reducible assumption) ?_)) | omega | (simp; done) | (simp; omega))), (h_xb.to (by repeat' (first | (with_reducible exact Below.refl _ _) | (with_reducible refine Below.alloc ?_ ?_ _) | (with_reducible refine Below.setCell ?_ ?_ _) | (with_reducible refine Below.drew ?_) | (with_reducible refine Below.trans ?_ (Below.mono (by with_reducible assumption) ?_)) | omega | (simp; done) | (simp; omega))))⟩ ?_
  clear h_below s_below h_xb
  rintro Y2 ⟨h_below, h_xb⟩
  refine (iFewest_any _ _ _ zB _ h_xb (by omega)).mono ?_
  rintro e X2 ⟨rfl, hb2⟩
  have h_below0 := h_below
  replace h_below := h_below.trans (hb2.mono h_below.size)
  replace h_xb := h_xb.to hb2
  clear hb2
  clear h_below0
  have s_below := h_below.size
  go_wp2_with fail
  refine Dr.cut_calls (fun X => (Below w.heap.size w X) ∧ (Rd X X.heap.size (some adB) 6 Brk.enc xsB)) ⟨(by repeat' (first | (with_reducible exact Below.refl _ _) | (with_reducible refine Below.alloc ?_ ?_ _) | (with_reducible refine Below.setCell ?_ ?_ _) | (with_reducible refine Below.drew ?_) | (with_reducible refine Below.trans ?_ (Below.mono (by with_reducible assumption) ?_)) | omega | (simp; done) | (simp; omega))), (h_xb.to (by repeat' (first | (with_reducible exact Below.refl _ _) | (with_reducible refine Below.alloc ?_ ?_ _) | (with_reducible refine Below.setCell ?_ ?_ _) | (with_reducible refine Below.drew ?_) | (with_reducible refine Below.trans ?_ (Below.mono (by with_reducible assumption) ?_)) | omega | (simp; done) | (simp; omega))))⟩ ?_
  clear h_below s_below h_xb
  rintro Y3 ⟨h_below, h_xb⟩
  refine (sFewest_any _ _ _ zB _ h_xb (by omega)).mono ?_
  rintro e X3 ⟨rfl, hb3⟩
  have h_below0 := h_below
  replace h_below := h_below.trans (hb3.mono h_below.size)
  replace h_xb := h_xb.to hb3
  clear hb3
  clear h_below0
  have s_below := h_below.size
  cases hk : fwS xsB zB
  · go_upto_region 26 with (fail)
    exact FnBreaks_p10 A n c w _ hn hB (h_below.trans (by repeat' (first | (with_reducible exact Below.refl _ _) | (with_reducible refine Below.alloc ?_ ?_ _) | (with_reducible refine Below.setCell ?_ ?_ _) | (with_reducible refine Below.drew ?_) | (with_reducible refine Below.trans ?_ (Below.mono (by with_reducible assumption) ?_)) | omega | (simp; done) | (simp; omega))))  _ (by assumption)
  · obtain ⟨f1, f2, f3, f4, f5⟩ := fewest_days hk
    have f6 : ¬ zB < dm xsB (fwR xsB zB) := by omega
    have f7 : wrap64 (fwR xsB zB - 1) = fwR xsB zB - 1 := by unfold wrap64; omega
    have f5h := Lib.hid f5
    clear f5 f2 f3 f4
    go_wp2_with fail
    refine Dr.cut_calls (fun X => (Below w.heap.size w X) ∧ (Rd X X.heap.size (some adB) 6 Brk.enc xsB)) ⟨(by repeat' (first | (with_reducible exact Below.refl _ _) | (with_reducible refine Below.alloc ?_ ?_ _) | (with_reducible refine Below.setCell ?_ ?_ _) | (with_reducible refine Below.drew ?_) | (with_reducible refine Below.trans ?_ (Below.mono (by with_reducible assumption) ?_)) | omega | (simp; done) | (simp; omega))), (h_xb.to (by repeat' (first | (with_reducible exact Below.refl _ _) | (with_reducible refine Below.alloc ?_ ?_ _) | (with_reducible refine Below.setCell ?_ ?_ _) | (with_reducible refine Below.drew ?_) | (with_reducible refine Below.trans ?_ (Below.mono (by with_reducible assumption) ?_)) | omega | (simp; done) | (simp; omega))))⟩ ?_
    clear h_below s_below h_xb
    rintro Y4 ⟨h_below, h_xb⟩
    refine (iDaysToMend_any _ _ _ (fwR xsB zB) _ h_xb (by omega)).mono ?_
    rintro e X4 ⟨rfl, hb4⟩
    have h_below0 := h_below
    replace h_below := h_below.trans (hb4.mono h_below.size)
    replace h_xb := h_xb.to hb4
    clear hb4
    clear h_below0
    have s_below := h_below.size
    go_wp2_with fail
    refine Dr.cut_calls (fun X => (Below w.heap.size w X) ∧ (Rd X X.heap.size (some adB) 6 Brk.enc xsB)) ⟨(by repeat' (first | (with_reducible exact Below.refl _ _) | (with_reducible refine Below.alloc ?_ ?_ _) | (with_reducible refine Below.setCell ?_ ?_ _) | (with_reducible refine Below.drew ?_) | (with_reducible refine Below.trans ?_ (Below.mono (by with_reducible assumption) ?_)) | omega | (simp; done) | (simp; omega))), (h_xb.to (by repeat' (first | (with_reducible exact Below.refl _ _) | (with_reducible refine Below.alloc ?_ ?_ _) | (with_reducible refine Below.setCell ?_ ?_ _) | (with_reducible refine Below.drew ?_) | (with_reducible refine Below.trans ?_ (Below.mono (by with_reducible assumption) ?_)) | omega | (simp; done) | (simp; omega))))⟩ ?_
    clear h_below s_below h_xb
    rintro Y5 ⟨h_below, h_xb⟩
    refine (iDaysToMend_any _ _ _ (fwR xsB zB - 1) _ h_xb (by omega)).mono ?_
    rintro e X5 ⟨rfl, hb5⟩
    have h_below0 := h_below
    replace h_below := h_below.trans (hb5.mono h_below.size)
    replace h_xb := h_xb.to hb5
    clear hb5
    clear h_below0
    have s_below := h_below.size
    cases h2 : dmB xsB (fwR xsB zB - 1)
    · go_upto_region 26 with (fail)
      exact FnBreaks_p10 A n c w _ hn hB (h_below.trans (by repeat' (first | (with_reducible exact Below.refl _ _) | (with_reducible refine Below.alloc ?_ ?_ _) | (with_reducible refine Below.setCell ?_ ?_ _) | (with_reducible refine Below.drew ?_) | (with_reducible refine Below.trans ?_ (Below.mono (by with_reducible assumption) ?_)) | omega | (simp; done) | (simp; omega))))  _ (by assumption)
    · have f8 : ¬ dm xsB (fwR xsB zB - 1) ≤ zB := by have := f5h.out h2; omega
      go_upto_region 26 with (fail)
      exact FnBreaks_p10 A n c w _ hn hB (h_below.trans (by repeat' (first | (with_reducible exact Below.refl _ _) | (with_reducible refine Below.alloc ?_ ?_ _) | (with_reducible refine Below.setCell ?_ ?_ _) | (with_reducible refine Below.drew ?_) | (with_reducible refine Below.trans ?_ (Below.mono (by with_reducible assumption) ?_)) | omega | (simp; done) | (simp; omega))))  _ (by assumption)
set_option maxRecDepth 100000 in
set_option maxHeartbeats 40000000 in
theorem FnBreaks_law (A : Option Addr) (n c : Nat) (w : World) (hB : Byt w w.heap.size A n) :
    Calls Try.prog 15 #[.slice A n c] w fun e w' => e = .returned (.bool true) ∧ Below w.heap.size w w' := by
  by_cases hn : n ≤ 65536
  · have hn' : ¬ 65536 < n := by omega
    go_enter Try.func15, Try.ntmps15
    go_wp2_with (first | (go_at_call 56; refine (rBig_any _ _ _ _).mono ?_; rintro e wX ⟨rfl, rfl⟩))
    refine Dr.cut_calls (fun X => (Below w.heap.size w X)) ((by repeat' (first | (with_reducible exact Below.refl _ _) | (with_reducible refine Below.alloc ?_ ?_ _) | (with_reducible refine Below.setCell ?_ ?_ _) | (with_reducible refine Below.drew ?_) | (with_reducible refine Below.trans ?_ (Below.mono (by with_reducible assumption) ?_)) | omega | (simp; done) | (simp; omega)))) ?_
    intro Y1 h_below
    refine (dDaysToMend_any _ _ _ _ hn (Dr.byt_more (hB.below h_below) h_below.size)).mono ?_
    rintro e X1 ⟨adA, xsA, cA, zA, rfl, hlA, hrA, hzA, hb1⟩
    have h_below0 := h_below
    replace h_below := h_below.trans (hb1.mono h_below.size)
    clear hb1
    have h_xa := hrA
    clear h_below0
    have s_below := h_below.size
    go_wp2_with fail
    refine Dr.cut_calls (fun X => (Below w.heap.size w X) ∧ (Rd X X.heap.size (some adA) 6 Brk.enc xsA)) ⟨(by repeat' (first | (with_reducible exact Below.refl _ _) | (with_reducible refine Below.alloc ?_ ?_ _) | (with_reducible refine Below.setCell ?_ ?_ _) | (with_reducible refine Below.drew ?_) | (with_reducible refine Below.trans ?_ (Below.mono (by with_reducible assumption) ?_)) | omega | (simp; done) | (simp; omega))), (h_xa.to (by repeat' (first | (with_reducible exact Below.refl _ _) | (with_reducible refine Below.alloc ?_ ?_ _) | (with_reducible refine Below.setCell ?_ ?_ _) | (with_reducible refine Below.drew ?_) | (with_reducible refine Below.trans ?_ (Below.mono (by with_reducible assumption) ?_)) | omega | (simp; done) | (simp; omega))))⟩ ?_
    clear h_below s_below h_xa
    rintro Y2 ⟨h_below, h_xa⟩
    refine (iDaysToMend_any _ _ _ zA _ h_xa (by omega)).mono ?_
    rintro e X2 ⟨rfl, hb2⟩
    have h_below0 := h_below
    replace h_below := h_below.trans (hb2.mono h_below.size)
    replace h_xa := h_xa.to hb2
    clear hb2
    clear h_below0
    have s_below := h_below.size
    go_wp2_with fail
    refine Dr.cut_calls (fun X => (Below w.heap.size w X) ∧ (Rd X X.heap.size (some adA) 6 Brk.enc xsA)) ⟨(by repeat' (first | (with_reducible exact Below.refl _ _) | (with_reducible refine Below.alloc ?_ ?_ _) | (with_reducible refine Below.setCell ?_ ?_ _) | (with_reducible refine Below.drew ?_) | (with_reducible refine Below.trans ?_ (Below.mono (by with_reducible assumption) ?_)) | omega | (simp; done) | (simp; omega))), (h_xa.to (by repeat' (first | (with_reducible exact Below.refl _ _) | (with_reducible refine Below.alloc ?_ ?_ _) | (with_reducible refine Below.setCell ?_ ?_ _) | (with_reducible refine Below.drew ?_) | (with_reducible refine Below.trans ?_ (Below.mono (by with_reducible assumption) ?_)) | omega | (simp; done) | (simp; omega))))⟩ ?_
    clear h_below s_below h_xa
    rintro Y3 ⟨h_below, h_xa⟩
    refine (sDaysToMend_any _ _ _ zA _ h_xa (by omega)).mono ?_
    rintro e X3 ⟨rfl, hb3⟩
    have h_below0 := h_below
    replace h_below := h_below.trans (hb3.mono h_below.size)
    replace h_xa := h_xa.to hb3
    clear hb3
    clear h_below0
    have s_below := h_below.size
    cases hk : dmB xsA zA
    · go_upto_region 14 with (fail)
      exact FnBreaks_p6 A n c w _ hn hB (h_below.trans (by repeat' (first | (with_reducible exact Below.refl _ _) | (with_reducible refine Below.alloc ?_ ?_ _) | (with_reducible refine Below.setCell ?_ ?_ _) | (with_reducible refine Below.drew ?_) | (with_reducible refine Below.trans ?_ (Below.mono (by with_reducible assumption) ?_)) | omega | (simp; done) | (simp; omega))))  _ (by assumption)
    · by_cases hd : 0 < dm xsA zA
      · obtain ⟨g1, g2, g3, g4, g5, g6, g7⟩ := days_next hk hd
        have g8 : wrap64 (dm xsA zA - 1) = dm xsA zA - 1 := by unfold wrap64; omega
        have g9 : ((((noR xsA).length : Nat) : Int) == 0) = false := by simp; simpa using g7
        have hnl := Lib.hid (ndL_len xsA zA)
        have g3h := Lib.hid g3
        clear g3 g6
        go_wp2_with fail
        refine Dr.cut_calls (fun X => (Below w.heap.size w X) ∧ (Rd X X.heap.size (some adA) 6 Brk.enc xsA)) ⟨(by repeat' (first | (with_reducible exact Below.refl _ _) | (with_reducible refine Below.alloc ?_ ?_ _) | (with_reducible refine Below.setCell ?_ ?_ _) | (with_reducible refine Below.drew ?_) | (with_reducible refine Below.trans ?_ (Below.mono (by with_reducible assumption) ?_)) | omega | (simp; done) | (simp; omega))), (h_xa.to (by repeat' (first | (with_reducible exact Below.refl _ _) | (with_reducible refine Below.alloc ?_ ?_ _) | (with_reducible refine Below.setCell ?_ ?_ _) | (with_reducible refine Below.drew ?_) | (with_reducible refine Below.trans ?_ (Below.mono (by with_reducible assumption) ?_)) | omega | (simp; done) | (simp; omega))))⟩ ?_
        clear h_below s_below h_xa
        rintro Y4 ⟨h_below, h_xa⟩
        refine (iNextDay_at _ _ _ zA _ _ g3h.out h_xa (by omega)).mono ?_
        rintro e X4 ⟨AN, cN, rfl, hoN, hb4⟩
        have h_below0 := h_below
        replace h_below := h_below.trans (hb4.mono h_below.size)
        replace h_xa := h_xa.to hb4
        clear hb4
        have h_on := hoN.mono h_below0.size
        clear h_below0
        have s_below := h_below.size
        go_wp2_with fail
        refine Dr.cut_calls (fun X => (Below w.heap.size w X) ∧ (Rd X X.heap.size (some adA) 6 Brk.enc xsA) ∧ (OwnAt X w.heap.size 25 ((ndL xsA zA).flatMap Brk.enc) (ndL xsA zA).length AN)) ⟨(by repeat' (first | (with_reducible exact Below.refl _ _) | (with_reducible refine Below.alloc ?_ ?_ _) | (with_reducible refine Below.setCell ?_ ?_ _) | (with_reducible refine Below.drew ?_) | (with_reducible refine Below.trans ?_ (Below.mono (by with_reducible assumption) ?_)) | omega | (simp; done) | (simp; omega))), (h_xa.to (by repeat' (first | (with_reducible exact Below.refl _ _) | (with_reducible refine Below.alloc ?_ ?_ _) | (with_reducible refine Below.setCell ?_ ?_ _) | (with_reducible refine Below.drew ?_) | (with_reducible refine Below.trans ?_ (Below.mono (by with_reducible assumption) ?_)) | omega | (simp; done) | (simp; omega)))), (h_on.to (by repeat' (first | (with_reducible exact Below.refl _ _) | (with_reducible refine Below.alloc ?_ ?_ _) | (with_reducible refine Below.setCell ?_ ?_ _) | (with_reducible refine Below.drew ?_) | (with_reducible refine Below.trans ?_ (Below.mono (by with_reducible assumption) ?_)) | omega | (simp; done) | (simp; omega))))⟩ ?_
        clear h_below s_below h_xa h_on
        rintro Y5 ⟨h_below, h_xa, h_on⟩
        refine (iDaysToMend_any _ _ _ zA _ (h_on.rd Brk.enc_len) (by have := hnl.out; omega)).mono ?_
        rintro e X5 ⟨rfl, hb5⟩
        have h_below0 := h_below
        replace h_below := h_below.trans (hb5.mono h_below.size)
        replace h_xa := h_xa.to hb5
        clear hb5
        clear h_below0
        have s_below := h_below.size
        clear h_on
        go_wp2_with fail
        refine Dr.cut_calls (fun X => (Below w.heap.size w X) ∧ (Rd X X.heap.size (some adA) 6 Brk.enc xsA)) ⟨(by repeat' (first | (with_reducible exact Below.refl _ _) | (with_reducible refine Below.alloc ?_ ?_ _) | (with_reducible refine Below.setCell ?_ ?_ _) | (with_reducible refine Below.drew ?_) | (with_reducible refine Below.trans ?_ (Below.mono (by with_reducible assumption) ?_)) | omega | (simp; done) | (simp; omega))), (h_xa.to (by repeat' (first | (with_reducible exact Below.refl _ _) | (with_reducible refine Below.alloc ?_ ?_ _) | (with_reducible refine Below.setCell ?_ ?_ _) | (with_reducible refine Below.drew ?_) | (with_reducible refine Below.trans ?_ (Below.mono (by with_reducible assumption) ?_)) | omega | (simp; done) | (simp; omega))))⟩ ?_
        clear h_below s_below h_xa
        rintro Y6 ⟨h_below, h_xa⟩
        refine (iNeedOrder_any _ _ _ _ h_xa (by omega)).mono ?_
        rintro e X6 ⟨AO, cO, rfl, hoO, hb6⟩
        have h_below0 := h_below
        replace h_below := h_below.trans (hb6.mono h_below.size)
        replace h_xa := h_xa.to hb6
        clear hb6
        clear h_below0
        have s_below := h_below.size
        go_upto_region 14 with (fail)
        exact FnBreaks_p6 A n c w _ hn hB (h_below.trans (by repeat' (first | (with_reducible exact Below.refl _ _) | (with_reducible refine Below.alloc ?_ ?_ _) | (with_reducible refine Below.setCell ?_ ?_ _) | (with_reducible refine Below.drew ?_) | (with_reducible refine Below.trans ?_ (Below.mono (by with_reducible assumption) ?_)) | omega | (simp; done) | (simp; omega))))  _ (by assumption)
      · go_upto_region 14 with (fail)
        exact FnBreaks_p6 A n c w _ hn hB (h_below.trans (by repeat' (first | (with_reducible exact Below.refl _ _) | (with_reducible refine Below.alloc ?_ ?_ _) | (with_reducible refine Below.setCell ?_ ?_ _) | (with_reducible refine Below.drew ?_) | (with_reducible refine Below.trans ?_ (Below.mono (by with_reducible assumption) ?_)) | omega | (simp; done) | (simp; omega))))  _ (by assumption)
  · have hn' : 65536 < n := by omega
    go_enter Try.func15, Try.ntmps15
    go_wp2_with (first | (go_at_call 56; refine (rBig_any _ _ _ _).mono ?_; rintro e wX ⟨rfl, rfl⟩))
    go_ret
    exact ⟨rfl, (by repeat' (first | (with_reducible exact Below.refl _ _) | (with_reducible refine Below.alloc ?_ ?_ _) | (with_reducible refine Below.setCell ?_ ?_ _) | (with_reducible refine Below.drew ?_) | (with_reducible refine Below.trans ?_ (Below.mono (by with_reducible assumption) ?_)) | omega | (simp; done) | (simp; omega)))⟩
end Go.Proofs.Ytakjfkbfibcbcaa
