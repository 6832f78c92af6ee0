/- Law: the text of a break (chapter 23). -/
import Derived.Test.YtakjfkbfibcbcaaDoorBtext
set_option linter.unusedSimpArgs false
set_option linter.unusedVariables false
namespace Go.Proofs.YtakjfkbfibcbcaaDoor
open Go.RowKit Go.Sort Go.Salt
attribute [local go_sem] cell_rg
theorem brk_parts {i p m g t d : Int} (h : brkOK i p m g t d = true) : (1 ≤ p ∧ p ≤ 99) ∧ (1 ≤ m ∧ m ≤ 60) ∧ (1 ≤ g ∧ g ≤ 3) ∧ (0 ≤ d ∧ d ≤ m) := by
  simp only [brkOK, Bool.and_eq_true, inB_iff] at h
  omega
theorem iBreakText_any (i p m g t d : Int) (w : World) : Calls Tryd.prog 7 #[.agg #[.int .i64 i, .int .i64 p, .int .i64 m, .int .i64 g, .int .i64 t, .int .i64 d]] w fun e w' => e = .returned (.tuple #[.string (if brkOK i p m g t d then btS p d m g else ⟨#[]⟩), .bool (brkOK i p m g t d)]) ∧ Below w.heap.size w w' := by
  cases hOK : brkOK i p m g t d
  · exact iBreakText_no i p m g t d w hOK
  · exact iBreakText_yes i p m g t d w hOK (brk_parts hOK)
theorem sBreakText_any (i p m g t d : Int) (w : World) : Calls Tryd.prog 5 #[.agg #[.int .i64 i, .int .i64 p, .int .i64 m, .int .i64 g, .int .i64 t, .int .i64 d]] w fun e w' => e = .returned (.tuple #[.string (if brkOK i p m g t d then btS p d m g else ⟨#[]⟩), .bool (brkOK i p m g t d)]) ∧ Below w.heap.size w w' := by
  cases hOK : brkOK i p m g t d
  · exact sBreakText_no i p m g t d w hOK
  · exact sBreakText_yes i p m g t d w hOK (brk_parts hOK)
set_option maxHeartbeats 4000000 in
theorem FnExactBreakText_law (i p m g t d : Int) (w : World) :
    Calls Tryd.prog 3 #[.agg #[.int .i64 i, .int .i64 p, .int .i64 m, .int .i64 g, .int .i64 t, .int .i64 d]] w fun e w' => e = .returned (.bool true) ∧ Below w.heap.size w w' := by
  obtain ⟨s, hs⟩ : ∃ s, (if brkOK i p m g t d then btS p d m g else ⟨#[]⟩) = s := ⟨_, rfl⟩
  obtain ⟨b, hb⟩ : ∃ b, brkOK i p m g t d = b := ⟨_, rfl⟩
  have hI := fun W => iBreakText_any i p m g t d W
  have hS := fun W => sBreakText_any i p m g t d W
  rw [hs, hb] at hI hS
  have HI := Lib.hid hI
  have HS := Lib.hid hS
  clear hI hS hs hb
  go_enter Tryd.func3, Tryd.ntmps3
  go_wp2_with fail
  (go_at_call 6; refine (toBreak_any _ _ _ _ _ _ _).mono ?_; rintro e w1 ⟨rfl, hb1⟩)
  (have hs1 := hb1.size; (try simp at hs1); obtain ⟨hc1, hf1, hn1⟩ := bcell hb1; (try have hz1_w_0 : w.heap.size < w1.heap.size := by omega); (try have hz1_w_1 : w.heap.size + 1 < w1.heap.size := by omega); (try have hz1_w_2 : w.heap.size + 2 < w1.heap.size := by omega); (try have hz1_w_2b : w.heap.size + 1 + 1 < w1.heap.size := by omega))
  go_wp2_with fail
  (go_at_call 5; refine (HS.out _).mono ?_; rintro e w2 ⟨rfl, hb2⟩)
  (have hs2 := hb2.size; (try simp at hs2); obtain ⟨hc2, hf2, hn2⟩ := bcell hb2; (try have hz2_w_0 : w.heap.size < w2.heap.size := by omega); (try have hz2_w_1 : w.heap.size + 1 < w2.heap.size := by omega); (try have hz2_w_2 : w.heap.size + 2 < w2.heap.size := by omega); (try have hz2_w_2b : w.heap.size + 1 + 1 < w2.heap.size := by omega); (try have hz2_w1_0 : w1.heap.size < w2.heap.size := by omega); (try have hz2_w1_1 : w1.heap.size + 1 < w2.heap.size := by omega); (try have hz2_w1_2 : w1.heap.size + 2 < w2.heap.size := by omega); (try have hz2_w1_2b : w1.heap.size + 1 + 1 < w2.heap.size := by omega))
  go_wp2_with fail
  (go_at_call 6; refine (toBreak_any _ _ _ _ _ _ _).mono ?_; rintro e w3 ⟨rfl, hb3⟩)
  (have hs3 := hb3.size; (try simp at hs3); obtain ⟨hc3, hf3, hn3⟩ := bcell hb3; (try have hz3_w_0 : w.heap.size < w3.heap.size := by omega); (try have hz3_w_1 : w.heap.size + 1 < w3.heap.size := by omega); (try have hz3_w_2 : w.heap.size + 2 < w3.heap.size := by omega); (try have hz3_w_2b : w.heap.size + 1 + 1 < w3.heap.size := by omega); (try have hz3_w1_0 : w1.heap.size < w3.heap.size := by omega); (try have hz3_w1_1 : w1.heap.size + 1 < w3.heap.size := by omega); (try have hz3_w1_2 : w1.heap.size + 2 < w3.heap.size := by omega); (try have hz3_w1_2b : w1.heap.size + 1 + 1 < w3.heap.size := by omega); (try have hz3_w2_0 : w2.heap.size < w3.heap.size := by omega); (try have hz3_w2_1 : w2.heap.size + 1 < w3.heap.size := by omega); (try have hz3_w2_2 : w2.heap.size + 2 < w3.heap.size := by omega); (try have hz3_w2_2b : w2.heap.size + 1 + 1 < w3.heap.size := by omega))
  go_wp2_with fail
  (go_at_call 7; refine (HI.out _).mono ?_; rintro e w4 ⟨rfl, hb4⟩)
  (have hs4 := hb4.size; (try simp at hs4); obtain ⟨hc4, hf4, hn4⟩ := bcell hb4; (try have hz4_w_0 : w.heap.size < w4.heap.size := by omega); (try have hz4_w_1 : w.heap.size + 1 < w4.heap.size := by omega); (try have hz4_w_2 : w.heap.size + 2 < w4.heap.size := by omega); (try have hz4_w_2b : w.heap.size + 1 + 1 < w4.heap.size := by omega); (try have hz4_w1_0 : w1.heap.size < w4.heap.size := by omega); (try have hz4_w1_1 : w1.heap.size + 1 < w4.heap.size := by omega); (try have hz4_w1_2 : w1.heap.size + 2 < w4.heap.size := by omega); (try have hz4_w1_2b : w1.heap.size + 1 + 1 < w4.heap.size := by omega); (try have hz4_w2_0 : w2.heap.size < w4.heap.size := by omega); (try have hz4_w2_1 : w2.heap.size + 1 < w4.heap.size := by omega); (try have hz4_w2_2 : w2.heap.size + 2 < w4.heap.size := by omega); (try have hz4_w2_2b : w2.heap.size + 1 + 1 < w4.heap.size := by omega); (try have hz4_w3_0 : w3.heap.size < w4.heap.size := by omega); (try have hz4_w3_1 : w3.heap.size + 1 < w4.heap.size := by omega); (try have hz4_w3_2 : w3.heap.size + 2 < w4.heap.size := by omega); (try have hz4_w3_2b : w3.heap.size + 1 + 1 < w4.heap.size := by omega))
  go_wp2_with fail
  go_ret
  exact ⟨rfl, (by repeat' (first | (with_reducible exact Below.refl _ _) | (with_reducible refine Below.alloc ?_ ?_ _) | (with_reducible refine Below.setCell ?_ ?_ _) | (with_reducible refine Below.drew ?_) | (with_reducible refine Below.trans ?_ (Below.mono (by with_reducible assumption) ?_)) | omega | (simp; done) | (simp; omega)))⟩
end Go.Proofs.YtakjfkbfibcbcaaDoor
