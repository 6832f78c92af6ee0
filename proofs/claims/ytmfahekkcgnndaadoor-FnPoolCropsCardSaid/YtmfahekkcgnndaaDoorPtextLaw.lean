/- Law: the text of a pool (chapter 21). -/
import Derived.Test.YtmfahekkcgnndaaDoorPtext
set_option linter.unusedSimpArgs false
set_option linter.unusedVariables false
namespace Go.Proofs.YtmfahekkcgnndaaDoor
open Go.RowKit Go.Sort Go.Salt
attribute [local go_sem] cell_rg
theorem iPoolText_any (st a s c i r l : Int) (w : World) (ht : Hid (Tab w)) : Calls Tryd.prog 7 #[.agg #[.int .i64 st, .int .i64 a, .int .i64 s, .int .i64 c, .int .i64 i, .int .i64 r, .int .i64 l]] w fun e w' => e = .returned (.tuple #[.string (if poolOK st a s c i r l then ptS st a s c r else ⟨#[]⟩), .bool (poolOK st a s c i r l)]) ∧ Below w.heap.size w w' := by
  cases hOK : poolOK st a s c i r l
  · exact iPoolText_no st a s c i r l w hOK
  · exact iPoolText_yes st a s c i r l w ht hOK
theorem sPoolText_any (st a s c i r l : Int) (w : World) : Calls Tryd.prog 5 #[.agg #[.int .i64 st, .int .i64 a, .int .i64 s, .int .i64 c, .int .i64 i, .int .i64 r, .int .i64 l]] w fun e w' => e = .returned (.tuple #[.string (if poolOK st a s c i r l then ptS st a s c r else ⟨#[]⟩), .bool (poolOK st a s c i r l)]) ∧ Below w.heap.size w w' := by
  cases hOK : poolOK st a s c i r l
  · exact sPoolText_no st a s c i r l w hOK
  · exact sPoolText_yes st a s c i r l w hOK
set_option maxHeartbeats 4000000 in
theorem FnExactPoolText_law (st a s c i r l : Int) (w : World) (ht : Hid (Tab w)) :
    Calls Tryd.prog 3 #[.agg #[.int .i64 st, .int .i64 a, .int .i64 s, .int .i64 c, .int .i64 i, .int .i64 r, .int .i64 l]] w fun e w' => e = .returned (.bool true) ∧ Below w.heap.size w w' := by
  obtain ⟨t, hs⟩ : ∃ t, (if poolOK st a s c i r l then ptS st a s c r else ⟨#[]⟩) = t := ⟨_, rfl⟩
  obtain ⟨b, hb⟩ : ∃ b, poolOK st a s c i r l = b := ⟨_, rfl⟩
  have hI := fun W ht => iPoolText_any st a s c i r l W ht
  have hS := fun W => sPoolText_any st a s c i r l W
  rw [hs, hb] at hI hS
  have HI := Lib.hid hI
  have HS := Lib.hid hS
  clear hI hS hs hb
  go_enter Tryd.func3, Tryd.ntmps3
  go_wp2_with fail
  (go_at_call 6; refine (toPool_any _ _ _ _ _ _ _ _).mono ?_; rintro e w1 ⟨rfl, hb1⟩)
  (have hs1 := hb1.size; (try simp at hs1); obtain ⟨hc1, hf1, hn1⟩ := bcell hb1; (try have hz1_w_0 : w.heap.size < w1.heap.size := by omega); (try have hz1_w_1 : w.heap.size + 1 < w1.heap.size := by omega); (try have hz1_w_2 : w.heap.size + 2 < w1.heap.size := by omega); (try have hz1_w_2b : w.heap.size + 1 + 1 < w1.heap.size := by omega))
  go_wp2_with fail
  (go_at_call 5; refine (HS.out _).mono ?_; rintro e w2 ⟨rfl, hb2⟩)
  (have hs2 := hb2.size; (try simp at hs2); obtain ⟨hc2, hf2, hn2⟩ := bcell hb2; (try have hz2_w_0 : w.heap.size < w2.heap.size := by omega); (try have hz2_w_1 : w.heap.size + 1 < w2.heap.size := by omega); (try have hz2_w_2 : w.heap.size + 2 < w2.heap.size := by omega); (try have hz2_w_2b : w.heap.size + 1 + 1 < w2.heap.size := by omega); (try have hz2_w1_0 : w1.heap.size < w2.heap.size := by omega); (try have hz2_w1_1 : w1.heap.size + 1 < w2.heap.size := by omega); (try have hz2_w1_2 : w1.heap.size + 2 < w2.heap.size := by omega); (try have hz2_w1_2b : w1.heap.size + 1 + 1 < w2.heap.size := by omega))
  go_wp2_with fail
  (go_at_call 6; refine (toPool_any _ _ _ _ _ _ _ _).mono ?_; rintro e w3 ⟨rfl, hb3⟩)
  (have hs3 := hb3.size; (try simp at hs3); obtain ⟨hc3, hf3, hn3⟩ := bcell hb3; (try have hz3_w_0 : w.heap.size < w3.heap.size := by omega); (try have hz3_w_1 : w.heap.size + 1 < w3.heap.size := by omega); (try have hz3_w_2 : w.heap.size + 2 < w3.heap.size := by omega); (try have hz3_w_2b : w.heap.size + 1 + 1 < w3.heap.size := by omega); (try have hz3_w1_0 : w1.heap.size < w3.heap.size := by omega); (try have hz3_w1_1 : w1.heap.size + 1 < w3.heap.size := by omega); (try have hz3_w1_2 : w1.heap.size + 2 < w3.heap.size := by omega); (try have hz3_w1_2b : w1.heap.size + 1 + 1 < w3.heap.size := by omega); (try have hz3_w2_0 : w2.heap.size < w3.heap.size := by omega); (try have hz3_w2_1 : w2.heap.size + 1 < w3.heap.size := by omega); (try have hz3_w2_2 : w2.heap.size + 2 < w3.heap.size := by omega); (try have hz3_w2_2b : w2.heap.size + 1 + 1 < w3.heap.size := by omega))
  have HT : Hid (Tab w3) := Lib.hid (ht.out.to (by repeat' (first | (with_reducible exact Below.refl _ _) | (with_reducible refine Below.alloc ?_ ?_ _) | (with_reducible refine Below.setCell ?_ ?_ _) | (with_reducible refine Below.drew ?_) | (with_reducible refine Below.trans ?_ (Below.mono (by with_reducible assumption) ?_)) | omega | (simp; done) | (simp; omega))))
  go_wp2_with fail
  (go_at_call 7; refine (HI.out _ HT).mono ?_; rintro e w4 ⟨rfl, hb4⟩)
  (have hs4 := hb4.size; (try simp at hs4); obtain ⟨hc4, hf4, hn4⟩ := bcell hb4; (try have hz4_w_0 : w.heap.size < w4.heap.size := by omega); (try have hz4_w_1 : w.heap.size + 1 < w4.heap.size := by omega); (try have hz4_w_2 : w.heap.size + 2 < w4.heap.size := by omega); (try have hz4_w_2b : w.heap.size + 1 + 1 < w4.heap.size := by omega); (try have hz4_w1_0 : w1.heap.size < w4.heap.size := by omega); (try have hz4_w1_1 : w1.heap.size + 1 < w4.heap.size := by omega); (try have hz4_w1_2 : w1.heap.size + 2 < w4.heap.size := by omega); (try have hz4_w1_2b : w1.heap.size + 1 + 1 < w4.heap.size := by omega); (try have hz4_w2_0 : w2.heap.size < w4.heap.size := by omega); (try have hz4_w2_1 : w2.heap.size + 1 < w4.heap.size := by omega); (try have hz4_w2_2 : w2.heap.size + 2 < w4.heap.size := by omega); (try have hz4_w2_2b : w2.heap.size + 1 + 1 < w4.heap.size := by omega); (try have hz4_w3_0 : w3.heap.size < w4.heap.size := by omega); (try have hz4_w3_1 : w3.heap.size + 1 < w4.heap.size := by omega); (try have hz4_w3_2 : w3.heap.size + 2 < w4.heap.size := by omega); (try have hz4_w3_2b : w3.heap.size + 1 + 1 < w4.heap.size := by omega))
  go_wp2_with fail
  go_ret
  exact ⟨rfl, (by repeat' (first | (with_reducible exact Below.refl _ _) | (with_reducible refine Below.alloc ?_ ?_ _) | (with_reducible refine Below.setCell ?_ ?_ _) | (with_reducible refine Below.drew ?_) | (with_reducible refine Below.trans ?_ (Below.mono (by with_reducible assumption) ?_)) | omega | (simp; done) | (simp; omega)))⟩
theorem tab_row {l : List (String × DataW Unit)} {W : World} (hL : laidMetH Tryd.prog l W) (hp : (l.all fun x => x.2.handleName?.isNone) = true) (hm : ("internal/strconv.uint64pow10", Lib.tabData .u64 Lib.pow10Tab) ∈ l) : Hid (Tab W) :=
  Lib.hid (Tab.of (tab_mem (g := 0) (t := 80) (e := 56) (n := 20) (by kernel_rfl) (by kernel_rfl) (by kernel_rfl) (by kernel_rfl) (by kernel_rfl) (by kernel_rfl) (MakeChecks.laidMetH_plain _ _ _ hp ▸ hL) hm))
end Go.Proofs.YtmfahekkcgnndaaDoor
