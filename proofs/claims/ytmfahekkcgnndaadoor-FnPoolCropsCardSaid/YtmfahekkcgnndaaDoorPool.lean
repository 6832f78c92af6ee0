/- Contracts of the pool's functions (chapter 21), of the program and of the reference. -/
import Derived.Test.YtmfahekkcgnndaaDoorLeaf
set_option linter.unusedSimpArgs false
set_option linter.unusedVariables false
namespace Go.Proofs.YtmfahekkcgnndaaDoor
open Go.RowKit Go.Sort Go.Salt
attribute [local go_sem] cell_rg
def stB (a s c : Int) : Int := if 0 < c then 2 else if 0 < a + s then 1 else 0
def poolOK (st a s c i r l : Int) : Bool := inB a 0 1000000 && inB s 0 1000000 && inB c 0 1000000 && inB i 0 1000000 && inB r 0 1000000 && inB l 0 1000000 && (st == stB a s c) && (i == s + c + r + l)
set_option maxHeartbeats 400000 in
theorem mass_any (a s : Int) (w : World) (_h1 : -1000000000000000 ≤ a) (_h2 : a ≤ 1000000000000000) (_h3 : -1000000000000000 ≤ s) (_h4 : s ≤ 1000000000000000) :
    Calls Tryd.prog 42 #[.agg #[.int .i64 a, .int .i64 s]] w fun e w' => e = .returned (.int .i64 (a + s)) ∧ Below w.heap.size w w' := by
  go_enter Tryd.func42, Tryd.ntmps42
  go_wp2
  go_ret
  exact ⟨rfl, (by repeat' (first | (with_reducible exact Below.refl _ _) | (with_reducible refine Below.alloc ?_ ?_ _) | (with_reducible refine Below.setCell ?_ ?_ _) | (with_reducible refine Below.drew ?_) | (with_reducible refine Below.trans ?_ (Below.mono (by with_reducible assumption) ?_)) | omega | (simp; done) | (simp; omega)))⟩
set_option maxHeartbeats 400000 in
theorem l2Mass_any (a s : Int) (w : World) (_h1 : -1000000000000000 ≤ a) (_h2 : a ≤ 1000000000000000) (_h3 : -1000000000000000 ≤ s) (_h4 : s ≤ 1000000000000000) :
    Calls Tryd.prog 45 #[.agg #[.int .i64 a, .int .i64 s]] w fun e w' => e = .returned (.int .i64 (a + s)) ∧ Below w.heap.size w w' := by
  go_enter Tryd.func45, Tryd.ntmps45
  go_wp2
  go_ret
  exact ⟨rfl, (by repeat' (first | (with_reducible exact Below.refl _ _) | (with_reducible refine Below.alloc ?_ ?_ _) | (with_reducible refine Below.setCell ?_ ?_ _) | (with_reducible refine Below.drew ?_) | (with_reducible refine Below.trans ?_ (Below.mono (by with_reducible assumption) ?_)) | omega | (simp; done) | (simp; omega)))⟩
set_option maxHeartbeats 400000 in
theorem stateOf_any (a s c : Int) (w : World) (h1 : -1000000000000000 ≤ a) (h2 : a ≤ 1000000000000000) (h3 : -1000000000000000 ≤ s) (h4 : s ≤ 1000000000000000) :
    Calls Tryd.prog 34 #[.agg #[.int .i64 a, .int .i64 s], .int .i64 c] w fun e w' => e = .returned (.int .i64 (stB a s c)) ∧ Below w.heap.size w w' := by
  by_cases hc : 0 < c
  · go_enter Tryd.func34, Tryd.ntmps34
    go_wp2
    go_ret
    exact ⟨ret_int (by simp [stB, hc]), (by repeat' (first | (with_reducible exact Below.refl _ _) | (with_reducible refine Below.alloc ?_ ?_ _) | (with_reducible refine Below.setCell ?_ ?_ _) | (with_reducible refine Below.drew ?_) | (with_reducible refine Below.trans ?_ (Below.mono (by with_reducible assumption) ?_)) | omega | (simp; done) | (simp; omega)))⟩
  · by_cases hm : 0 < a + s
    all_goals
      go_enter Tryd.func34, Tryd.ntmps34
      go_wp2_with (go_at_call 42; refine (mass_any _ _ _ h1 h2 h3 h4).mono ?_; rintro e w1 ⟨rfl, hb⟩; have hs := hb.size; (try simp at hs); obtain ⟨hc, hf, hn⟩ := bcell hb)
      go_ret
      exact ⟨ret_int (by rw [stB, if_neg (by omega)]; first | rw [if_pos (by omega)] | rw [if_neg (by omega)]), (by repeat' (first | (with_reducible exact Below.refl _ _) | (with_reducible refine Below.alloc ?_ ?_ _) | (with_reducible refine Below.setCell ?_ ?_ _) | (with_reducible refine Below.drew ?_) | (with_reducible refine Below.trans ?_ (Below.mono (by with_reducible assumption) ?_)) | omega | (simp; done) | (simp; omega)))⟩
set_option maxHeartbeats 400000 in
theorem l21State_any (a s c : Int) (w : World) (h1 : -1000000000000000 ≤ a) (h2 : a ≤ 1000000000000000) (h3 : -1000000000000000 ≤ s) (h4 : s ≤ 1000000000000000) :
    Calls Tryd.prog 37 #[.agg #[.int .i64 a, .int .i64 s], .int .i64 c] w fun e w' => e = .returned (.int .i64 (stB a s c)) ∧ Below w.heap.size w w' := by
  by_cases hc : 0 < c
  · go_enter Tryd.func37, Tryd.ntmps37
    go_wp2
    go_ret
    exact ⟨ret_int (by simp [stB, hc]), (by repeat' (first | (with_reducible exact Below.refl _ _) | (with_reducible refine Below.alloc ?_ ?_ _) | (with_reducible refine Below.setCell ?_ ?_ _) | (with_reducible refine Below.drew ?_) | (with_reducible refine Below.trans ?_ (Below.mono (by with_reducible assumption) ?_)) | omega | (simp; done) | (simp; omega)))⟩
  · by_cases hm : 0 < a + s
    all_goals
      go_enter Tryd.func37, Tryd.ntmps37
      go_wp2_with (go_at_call 45; refine (l2Mass_any _ _ _ h1 h2 h3 h4).mono ?_; rintro e w1 ⟨rfl, hb⟩; have hs := hb.size; (try simp at hs); obtain ⟨hc, hf, hn⟩ := bcell hb)
      go_ret
      exact ⟨ret_int (by rw [stB, if_neg (by omega)]; first | rw [if_pos (by omega)] | rw [if_neg (by omega)]), (by repeat' (first | (with_reducible exact Below.refl _ _) | (with_reducible refine Below.alloc ?_ ?_ _) | (with_reducible refine Below.setCell ?_ ?_ _) | (with_reducible refine Below.drew ?_) | (with_reducible refine Below.trans ?_ (Below.mono (by with_reducible assumption) ?_)) | omega | (simp; done) | (simp; omega)))⟩
set_option maxHeartbeats 4000000 in
theorem isPool_any (st a s c i r l : Int) (w : World) :
    Calls Tryd.prog 20 #[.agg #[.int .i64 st, .int .i64 a, .int .i64 s, .int .i64 c, .int .i64 i, .int .i64 r, .int .i64 l]] w fun e w' => e = .returned (.bool (poolOK st a s c i r l)) ∧ Below w.heap.size w w' := by
    go_enter Tryd.func20, Tryd.ntmps20
    go_wp2_with fail
    refine wp_region_quiet_below (by kernel_rfl) (by kernel_rfl) ?_
    repeat (go_big_quiet_step (first | (go_at_call 32; exact Calls.regrown_of (isBrine_any _ _ _)) | (go_at_call 34; exact Calls.regrown_of (stateOf_any _ _ _ _ (by omega) (by omega) (by omega) (by omega))) | (go_at_call 33; exact Calls.regrown_of (same_below (isKilos_any _ _)))))
    cases hb1 : (inB a 0 1000000 && inB s 0 1000000)
    · repeat (go_big_quiet_step (first | (go_at_call 32; exact Calls.regrown_of (isBrine_any _ _ _)) | (go_at_call 34; exact Calls.regrown_of (stateOf_any _ _ _ _ (by omega) (by omega) (by omega) (by omega))) | (go_at_call 33; exact Calls.regrown_of (same_below (isKilos_any _ _)))))
      (refine wpQuiet_nil ?_; intro wq hwq; have hb := of_cls hwq; clear hwq; have hs := hb.size; (try simp at hs); obtain ⟨hc, hf, hn⟩ := bcell hb)
      go_wp2
      go_ret
      exact ⟨ret_bool (by simp [poolOK, hb1]), (by repeat' (first | (with_reducible exact Below.refl _ _) | (with_reducible refine Below.alloc ?_ ?_ _) | (with_reducible refine Below.setCell ?_ ?_ _) | (with_reducible refine Below.drew ?_) | (with_reducible refine Below.trans ?_ (Below.mono (by with_reducible assumption) ?_)) | omega | (simp; done) | (simp; omega)))⟩
    · have hx1 : (0 ≤ a ∧ a ≤ 1000000) ∧ (0 ≤ s ∧ s ≤ 1000000) := by simpa [inB] using hb1
      repeat (go_big_quiet_step (first | (go_at_call 32; exact Calls.regrown_of (isBrine_any _ _ _)) | (go_at_call 34; exact Calls.regrown_of (stateOf_any _ _ _ _ (by omega) (by omega) (by omega) (by omega))) | (go_at_call 33; exact Calls.regrown_of (same_below (isKilos_any _ _)))))
      cases hb2 : (inB c 0 1000000)
      · repeat (go_big_quiet_step (first | (go_at_call 32; exact Calls.regrown_of (isBrine_any _ _ _)) | (go_at_call 34; exact Calls.regrown_of (stateOf_any _ _ _ _ (by omega) (by omega) (by omega) (by omega))) | (go_at_call 33; exact Calls.regrown_of (same_below (isKilos_any _ _)))))
        (refine wpQuiet_nil ?_; intro wq hwq; have hb := of_cls hwq; clear hwq; have hs := hb.size; (try simp at hs); obtain ⟨hc, hf, hn⟩ := bcell hb)
        go_wp2
        go_ret
        exact ⟨ret_bool (by simp [poolOK, hb2]), (by repeat' (first | (with_reducible exact Below.refl _ _) | (with_reducible refine Below.alloc ?_ ?_ _) | (with_reducible refine Below.setCell ?_ ?_ _) | (with_reducible refine Below.drew ?_) | (with_reducible refine Below.trans ?_ (Below.mono (by with_reducible assumption) ?_)) | omega | (simp; done) | (simp; omega)))⟩
      · have hx2 := inB_iff.1 hb2
        repeat (go_big_quiet_step (first | (go_at_call 32; exact Calls.regrown_of (isBrine_any _ _ _)) | (go_at_call 34; exact Calls.regrown_of (stateOf_any _ _ _ _ (by omega) (by omega) (by omega) (by omega))) | (go_at_call 33; exact Calls.regrown_of (same_below (isKilos_any _ _)))))
        cases hb3 : (inB i 0 1000000)
        · repeat (go_big_quiet_step (first | (go_at_call 32; exact Calls.regrown_of (isBrine_any _ _ _)) | (go_at_call 34; exact Calls.regrown_of (stateOf_any _ _ _ _ (by omega) (by omega) (by omega) (by omega))) | (go_at_call 33; exact Calls.regrown_of (same_below (isKilos_any _ _)))))
          (refine wpQuiet_nil ?_; intro wq hwq; have hb := of_cls hwq; clear hwq; have hs := hb.size; (try simp at hs); obtain ⟨hc, hf, hn⟩ := bcell hb)
          go_wp2
          go_ret
          exact ⟨ret_bool (by simp [poolOK, hb3]), (by repeat' (first | (with_reducible exact Below.refl _ _) | (with_reducible refine Below.alloc ?_ ?_ _) | (with_reducible refine Below.setCell ?_ ?_ _) | (with_reducible refine Below.drew ?_) | (with_reducible refine Below.trans ?_ (Below.mono (by with_reducible assumption) ?_)) | omega | (simp; done) | (simp; omega)))⟩
        · have hx3 := inB_iff.1 hb3
          repeat (go_big_quiet_step (first | (go_at_call 32; exact Calls.regrown_of (isBrine_any _ _ _)) | (go_at_call 34; exact Calls.regrown_of (stateOf_any _ _ _ _ (by omega) (by omega) (by omega) (by omega))) | (go_at_call 33; exact Calls.regrown_of (same_below (isKilos_any _ _)))))
          cases hb4 : (inB r 0 1000000)
          · repeat (go_big_quiet_step (first | (go_at_call 32; exact Calls.regrown_of (isBrine_any _ _ _)) | (go_at_call 34; exact Calls.regrown_of (stateOf_any _ _ _ _ (by omega) (by omega) (by omega) (by omega))) | (go_at_call 33; exact Calls.regrown_of (same_below (isKilos_any _ _)))))
            (refine wpQuiet_nil ?_; intro wq hwq; have hb := of_cls hwq; clear hwq; have hs := hb.size; (try simp at hs); obtain ⟨hc, hf, hn⟩ := bcell hb)
            go_wp2
            go_ret
            exact ⟨ret_bool (by simp [poolOK, hb4]), (by repeat' (first | (with_reducible exact Below.refl _ _) | (with_reducible refine Below.alloc ?_ ?_ _) | (with_reducible refine Below.setCell ?_ ?_ _) | (with_reducible refine Below.drew ?_) | (with_reducible refine Below.trans ?_ (Below.mono (by with_reducible assumption) ?_)) | omega | (simp; done) | (simp; omega)))⟩
          · have hx4 := inB_iff.1 hb4
            repeat (go_big_quiet_step (first | (go_at_call 32; exact Calls.regrown_of (isBrine_any _ _ _)) | (go_at_call 34; exact Calls.regrown_of (stateOf_any _ _ _ _ (by omega) (by omega) (by omega) (by omega))) | (go_at_call 33; exact Calls.regrown_of (same_below (isKilos_any _ _)))))
            cases hb5 : (inB l 0 1000000)
            · repeat (go_big_quiet_step (first | (go_at_call 32; exact Calls.regrown_of (isBrine_any _ _ _)) | (go_at_call 34; exact Calls.regrown_of (stateOf_any _ _ _ _ (by omega) (by omega) (by omega) (by omega))) | (go_at_call 33; exact Calls.regrown_of (same_below (isKilos_any _ _)))))
              (refine wpQuiet_nil ?_; intro wq hwq; have hb := of_cls hwq; clear hwq; have hs := hb.size; (try simp at hs); obtain ⟨hc, hf, hn⟩ := bcell hb)
              go_wp2
              go_ret
              exact ⟨ret_bool (by simp [poolOK, hb5]), (by repeat' (first | (with_reducible exact Below.refl _ _) | (with_reducible refine Below.alloc ?_ ?_ _) | (with_reducible refine Below.setCell ?_ ?_ _) | (with_reducible refine Below.drew ?_) | (with_reducible refine Below.trans ?_ (Below.mono (by with_reducible assumption) ?_)) | omega | (simp; done) | (simp; omega)))⟩
            · have hx5 := inB_iff.1 hb5
              repeat (go_big_quiet_step (first | (go_at_call 32; exact Calls.regrown_of (isBrine_any _ _ _)) | (go_at_call 34; exact Calls.regrown_of (stateOf_any _ _ _ _ (by omega) (by omega) (by omega) (by omega))) | (go_at_call 33; exact Calls.regrown_of (same_below (isKilos_any _ _)))))
              cases hb6 : (st == stB a s c)
              · repeat (go_big_quiet_step (first | (go_at_call 32; exact Calls.regrown_of (isBrine_any _ _ _)) | (go_at_call 34; exact Calls.regrown_of (stateOf_any _ _ _ _ (by omega) (by omega) (by omega) (by omega))) | (go_at_call 33; exact Calls.regrown_of (same_below (isKilos_any _ _)))))
                (refine wpQuiet_nil ?_; intro wq hwq; have hb := of_cls hwq; clear hwq; have hs := hb.size; (try simp at hs); obtain ⟨hc, hf, hn⟩ := bcell hb)
                go_wp2
                go_ret
                exact ⟨ret_bool (by simp [poolOK, hb6]), (by repeat' (first | (with_reducible exact Below.refl _ _) | (with_reducible refine Below.alloc ?_ ?_ _) | (with_reducible refine Below.setCell ?_ ?_ _) | (with_reducible refine Below.drew ?_) | (with_reducible refine Below.trans ?_ (Below.mono (by with_reducible assumption) ?_)) | omega | (simp; done) | (simp; omega)))⟩
              · repeat (go_big_quiet_step (first | (go_at_call 32; exact Calls.regrown_of (isBrine_any _ _ _)) | (go_at_call 34; exact Calls.regrown_of (stateOf_any _ _ _ _ (by omega) (by omega) (by omega) (by omega))) | (go_at_call 33; exact Calls.regrown_of (same_below (isKilos_any _ _)))))
                (refine wpQuiet_nil ?_; intro wq hwq; have hb := of_cls hwq; clear hwq; have hs := hb.size; (try simp at hs); obtain ⟨hc, hf, hn⟩ := bcell hb)
                go_wp2
                go_ret
                exact ⟨ret_bool (by simp [poolOK, *]), (by repeat' (first | (with_reducible exact Below.refl _ _) | (with_reducible refine Below.alloc ?_ ?_ _) | (with_reducible refine Below.setCell ?_ ?_ _) | (with_reducible refine Below.drew ?_) | (with_reducible refine Below.trans ?_ (Below.mono (by with_reducible assumption) ?_)) | omega | (simp; done) | (simp; omega)))⟩
set_option maxHeartbeats 4000000 in
theorem l21Good_any (st a s c i r l : Int) (w : World) :
    Calls Tryd.prog 21 #[.agg #[.int .i64 st, .int .i64 a, .int .i64 s, .int .i64 c, .int .i64 i, .int .i64 r, .int .i64 l]] w fun e w' => e = .returned (.bool (poolOK st a s c i r l)) ∧ Below w.heap.size w w' := by
    go_enter Tryd.func21, Tryd.ntmps21
    go_wp2_with fail
    refine wp_region_quiet_below (by kernel_rfl) (by kernel_rfl) ?_
    repeat (go_big_quiet_step (first | (go_at_call 35; exact Calls.regrown_of (l2Brine_any _ _ _)) | (go_at_call 37; exact Calls.regrown_of (l21State_any _ _ _ _ (by omega) (by omega) (by omega) (by omega))) | (go_at_call 36; exact Calls.regrown_of (same_below (l21Kilos_any _ _)))))
    cases hb1 : (inB a 0 1000000 && inB s 0 1000000)
    · repeat (go_big_quiet_step (first | (go_at_call 35; exact Calls.regrown_of (l2Brine_any _ _ _)) | (go_at_call 37; exact Calls.regrown_of (l21State_any _ _ _ _ (by omega) (by omega) (by omega) (by omega))) | (go_at_call 36; exact Calls.regrown_of (same_below (l21Kilos_any _ _)))))
      (refine wpQuiet_nil ?_; intro wq hwq; have hb := of_cls hwq; clear hwq; have hs := hb.size; (try simp at hs); obtain ⟨hc, hf, hn⟩ := bcell hb)
      go_wp2
      go_ret
      exact ⟨ret_bool (by simp [poolOK, hb1]), (by repeat' (first | (with_reducible exact Below.refl _ _) | (with_reducible refine Below.alloc ?_ ?_ _) | (with_reducible refine Below.setCell ?_ ?_ _) | (with_reducible refine Below.drew ?_) | (with_reducible refine Below.trans ?_ (Below.mono (by with_reducible assumption) ?_)) | omega | (simp; done) | (simp; omega)))⟩
    · have hx1 : (0 ≤ a ∧ a ≤ 1000000) ∧ (0 ≤ s ∧ s ≤ 1000000) := by simpa [inB] using hb1
      repeat (go_big_quiet_step (first | (go_at_call 35; exact Calls.regrown_of (l2Brine_any _ _ _)) | (go_at_call 37; exact Calls.regrown_of (l21State_any _ _ _ _ (by omega) (by omega) (by omega) (by omega))) | (go_at_call 36; exact Calls.regrown_of (same_below (l21Kilos_any _ _)))))
      cases hb2 : (inB c 0 1000000)
      · repeat (go_big_quiet_step (first | (go_at_call 35; exact Calls.regrown_of (l2Brine_any _ _ _)) | (go_at_call 37; exact Calls.regrown_of (l21State_any _ _ _ _ (by omega) (by omega) (by omega) (by omega))) | (go_at_call 36; exact Calls.regrown_of (same_below (l21Kilos_any _ _)))))
        (refine wpQuiet_nil ?_; intro wq hwq; have hb := of_cls hwq; clear hwq; have hs := hb.size; (try simp at hs); obtain ⟨hc, hf, hn⟩ := bcell hb)
        go_wp2
        go_ret
        exact ⟨ret_bool (by simp [poolOK, hb2]), (by repeat' (first | (with_reducible exact Below.refl _ _) | (with_reducible refine Below.alloc ?_ ?_ _) | (with_reducible refine Below.setCell ?_ ?_ _) | (with_reducible refine Below.drew ?_) | (with_reducible refine Below.trans ?_ (Below.mono (by with_reducible assumption) ?_)) | omega | (simp; done) | (simp; omega)))⟩
      · have hx2 := inB_iff.1 hb2
        repeat (go_big_quiet_step (first | (go_at_call 35; exact Calls.regrown_of (l2Brine_any _ _ _)) | (go_at_call 37; exact Calls.regrown_of (l21State_any _ _ _ _ (by omega) (by omega) (by omega) (by omega))) | (go_at_call 36; exact Calls.regrown_of (same_below (l21Kilos_any _ _)))))
        cases hb3 : (inB i 0 1000000)
        · repeat (go_big_quiet_step (first | (go_at_call 35; exact Calls.regrown_of (l2Brine_any _ _ _)) | (go_at_call 37; exact Calls.regrown_of (l21State_any _ _ _ _ (by omega) (by omega) (by omega) (by omega))) | (go_at_call 36; exact Calls.regrown_of (same_below (l21Kilos_any _ _)))))
          (refine wpQuiet_nil ?_; intro wq hwq; have hb := of_cls hwq; clear hwq; have hs := hb.size; (try simp at hs); obtain ⟨hc, hf, hn⟩ := bcell hb)
          go_wp2
          go_ret
          exact ⟨ret_bool (by simp [poolOK, hb3]), (by repeat' (first | (with_reducible exact Below.refl _ _) | (with_reducible refine Below.alloc ?_ ?_ _) | (with_reducible refine Below.setCell ?_ ?_ _) | (with_reducible refine Below.drew ?_) | (with_reducible refine Below.trans ?_ (Below.mono (by with_reducible assumption) ?_)) | omega | (simp; done) | (simp; omega)))⟩
        · have hx3 := inB_iff.1 hb3
          repeat (go_big_quiet_step (first | (go_at_call 35; exact Calls.regrown_of (l2Brine_any _ _ _)) | (go_at_call 37; exact Calls.regrown_of (l21State_any _ _ _ _ (by omega) (by omega) (by omega) (by omega))) | (go_at_call 36; exact Calls.regrown_of (same_below (l21Kilos_any _ _)))))
          cases hb4 : (inB r 0 1000000)
          · repeat (go_big_quiet_step (first | (go_at_call 35; exact Calls.regrown_of (l2Brine_any _ _ _)) | (go_at_call 37; exact Calls.regrown_of (l21State_any _ _ _ _ (by omega) (by omega) (by omega) (by omega))) | (go_at_call 36; exact Calls.regrown_of (same_below (l21Kilos_any _ _)))))
            (refine wpQuiet_nil ?_; intro wq hwq; have hb := of_cls hwq; clear hwq; have hs := hb.size; (try simp at hs); obtain ⟨hc, hf, hn⟩ := bcell hb)
            go_wp2
            go_ret
            exact ⟨ret_bool (by simp [poolOK, hb4]), (by repeat' (first | (with_reducible exact Below.refl _ _) | (with_reducible refine Below.alloc ?_ ?_ _) | (with_reducible refine Below.setCell ?_ ?_ _) | (with_reducible refine Below.drew ?_) | (with_reducible refine Below.trans ?_ (Below.mono (by with_reducible assumption) ?_)) | omega | (simp; done) | (simp; omega)))⟩
          · have hx4 := inB_iff.1 hb4
            repeat (go_big_quiet_step (first | (go_at_call 35; exact Calls.regrown_of (l2Brine_any _ _ _)) | (go_at_call 37; exact Calls.regrown_of (l21State_any _ _ _ _ (by omega) (by omega) (by omega) (by omega))) | (go_at_call 36; exact Calls.regrown_of (same_below (l21Kilos_any _ _)))))
            cases hb5 : (inB l 0 1000000)
            · repeat (go_big_quiet_step (first | (go_at_call 35; exact Calls.regrown_of (l2Brine_any _ _ _)) | (go_at_call 37; exact Calls.regrown_of (l21State_any _ _ _ _ (by omega) (by omega) (by omega) (by omega))) | (go_at_call 36; exact Calls.regrown_of (same_below (l21Kilos_any _ _)))))
              (refine wpQuiet_nil ?_; intro wq hwq; have hb := of_cls hwq; clear hwq; have hs := hb.size; (try simp at hs); obtain ⟨hc, hf, hn⟩ := bcell hb)
              go_wp2
              go_ret
              exact ⟨ret_bool (by simp [poolOK, hb5]), (by repeat' (first | (with_reducible exact Below.refl _ _) | (with_reducible refine Below.alloc ?_ ?_ _) | (with_reducible refine Below.setCell ?_ ?_ _) | (with_reducible refine Below.drew ?_) | (with_reducible refine Below.trans ?_ (Below.mono (by with_reducible assumption) ?_)) | omega | (simp; done) | (simp; omega)))⟩
            · have hx5 := inB_iff.1 hb5
              repeat (go_big_quiet_step (first | (go_at_call 35; exact Calls.regrown_of (l2Brine_any _ _ _)) | (go_at_call 37; exact Calls.regrown_of (l21State_any _ _ _ _ (by omega) (by omega) (by omega) (by omega))) | (go_at_call 36; exact Calls.regrown_of (same_below (l21Kilos_any _ _)))))
              cases hb6 : (st == stB a s c)
              · repeat (go_big_quiet_step (first | (go_at_call 35; exact Calls.regrown_of (l2Brine_any _ _ _)) | (go_at_call 37; exact Calls.regrown_of (l21State_any _ _ _ _ (by omega) (by omega) (by omega) (by omega))) | (go_at_call 36; exact Calls.regrown_of (same_below (l21Kilos_any _ _)))))
                (refine wpQuiet_nil ?_; intro wq hwq; have hb := of_cls hwq; clear hwq; have hs := hb.size; (try simp at hs); obtain ⟨hc, hf, hn⟩ := bcell hb)
                go_wp2
                go_ret
                exact ⟨ret_bool (by simp [poolOK, hb6]), (by repeat' (first | (with_reducible exact Below.refl _ _) | (with_reducible refine Below.alloc ?_ ?_ _) | (with_reducible refine Below.setCell ?_ ?_ _) | (with_reducible refine Below.drew ?_) | (with_reducible refine Below.trans ?_ (Below.mono (by with_reducible assumption) ?_)) | omega | (simp; done) | (simp; omega)))⟩
              · repeat (go_big_quiet_step (first | (go_at_call 35; exact Calls.regrown_of (l2Brine_any _ _ _)) | (go_at_call 37; exact Calls.regrown_of (l21State_any _ _ _ _ (by omega) (by omega) (by omega) (by omega))) | (go_at_call 36; exact Calls.regrown_of (same_below (l21Kilos_any _ _)))))
                (refine wpQuiet_nil ?_; intro wq hwq; have hb := of_cls hwq; clear hwq; have hs := hb.size; (try simp at hs); obtain ⟨hc, hf, hn⟩ := bcell hb)
                go_wp2
                go_ret
                exact ⟨ret_bool (by simp [poolOK, *]), (by repeat' (first | (with_reducible exact Below.refl _ _) | (with_reducible refine Below.alloc ?_ ?_ _) | (with_reducible refine Below.setCell ?_ ?_ _) | (with_reducible refine Below.drew ?_) | (with_reducible refine Below.trans ?_ (Below.mono (by with_reducible assumption) ?_)) | omega | (simp; done) | (simp; omega)))⟩
set_option maxHeartbeats 400000 in
theorem toBrine_any (a s : Int) (w : World) :
    Calls Tryd.prog 24 #[.agg #[.int .i64 a, .int .i64 s]] w fun e w' => e = .returned (.agg #[.int .i64 a, .int .i64 s]) ∧ Below w.heap.size w w' := by
  go_enter Tryd.func24, Tryd.ntmps24
  go_wp2
  go_returns
  exact ⟨rfl, (by repeat' (first | (with_reducible exact Below.refl _ _) | (with_reducible refine Below.alloc ?_ ?_ _) | (with_reducible refine Below.setCell ?_ ?_ _) | (with_reducible refine Below.drew ?_) | (with_reducible refine Below.trans ?_ (Below.mono (by with_reducible assumption) ?_)) | omega | (simp; done) | (simp; omega)))⟩
set_option maxHeartbeats 400000 in
theorem toPool_any (st a s c i r l : Int) (w : World) :
    Calls Tryd.prog 6 #[.agg #[.int .i64 st, .int .i64 a, .int .i64 s, .int .i64 c, .int .i64 i, .int .i64 r, .int .i64 l]] w fun e w' => e = .returned (.agg #[.int .i64 st, .int .i64 a, .int .i64 s, .int .i64 c, .int .i64 i, .int .i64 r, .int .i64 l]) ∧ Below w.heap.size w w' := by
  go_enter Tryd.func6, Tryd.ntmps6
  go_wp2
  go_returns
  exact ⟨rfl, (by repeat' (first | (with_reducible exact Below.refl _ _) | (with_reducible refine Below.alloc ?_ ?_ _) | (with_reducible refine Below.setCell ?_ ?_ _) | (with_reducible refine Below.drew ?_) | (with_reducible refine Below.trans ?_ (Below.mono (by with_reducible assumption) ?_)) | omega | (simp; done) | (simp; omega)))⟩
end Go.Proofs.YtmfahekkcgnndaaDoor
