/- MixBrines of the program and of the reference, and its law (chapter 2). -/
import Derived.Test.YtocaodoagiokjaaDoorBrineList
set_option linter.unusedSimpArgs false
set_option linter.unusedVariables false
namespace Go.Proofs.YtocaodoagiokjaaDoor
open Go.RowKit Go.Sort Go.Salt
attribute [local go_sem] cell_rg
attribute [local go_sem ↓] run_max_mx run_min_mn
def smA (xs : List Brn) : Nat → Int
  | 0 => 0
  | k + 1 => smA xs k + (el xs k).a
def smS (xs : List Brn) : Nat → Int
  | 0 => 0
  | k + 1 => smS xs k + (el xs k).s
def brnAt (xs : List Brn) (i : Nat) : Bool := inB (el xs i).a 0 1000000 && inB (el xs i).s 0 1000000
def mixB (xs : List Brn) : Bool := decide (xs.length ≤ 20) && (List.range xs.length).all (brnAt xs) && (inB (smA xs xs.length) 0 1000000 && inB (smS xs xs.length) 0 1000000)
def mixA (xs : List Brn) : Int := if mixB xs then smA xs xs.length else 0
def mixS (xs : List Brn) : Int := if mixB xs then smS xs xs.length else 0
theorem sm_bd {xs : List Brn} : ∀ k, (∀ i, i < k → brnAt xs i = true) → 0 ≤ smA xs k ∧ smA xs k ≤ 1000000 * k ∧ 0 ≤ smS xs k ∧ smS xs k ≤ 1000000 * k
  | 0, _ => by simp [smA, smS]
  | k + 1, h => by
    have h1 := sm_bd (xs := xs) k (fun i hi => h i (by omega))
    have h2 := h k (by omega)
    simp only [brnAt, Bool.and_eq_true] at h2
    have h3 := inB_iff.1 h2.1
    have h4 := inB_iff.1 h2.2
    unfold smA smS; omega
theorem mixB_long {xs : List Brn} (h : ¬ xs.length ≤ 20) : mixB xs = false := by simp [mixB, h]
theorem mixB_bad {xs : List Brn} {i : Nat} (h : i < xs.length) (h2 : brnAt xs i = false) : mixB xs = false := by
  have : (List.range xs.length).all (brnAt xs) = false := by
    rw [List.all_eq_false]
    exact ⟨i, List.mem_range.2 h, by simp [h2]⟩
  simp [mixB, this]
theorem mixB_end {xs : List Brn} (h : xs.length ≤ 20) (h2 : ∀ i, i < xs.length → brnAt xs i = true) : mixB xs = (inB (smA xs xs.length) 0 1000000 && inB (smS xs xs.length) 0 1000000) := by
  have : (List.range xs.length).all (brnAt xs) = true := List.all_eq_true.2 fun i hi => h2 i (List.mem_range.1 hi)
  simp [mixB, this, h]
theorem ret_xb {a s a' s' : Int} {p q : Bool} (h1 : a = a') (h2 : s = s') (k : p = q) : Ending.returned (.tuple #[.agg #[.int .i64 a, .int .i64 s], .bool p]) = .returned (.tuple #[.agg #[.int .i64 a', .int .i64 s'], .bool q]) := by rw [h1, h2, k]
set_option maxHeartbeats 400000 in
theorem plus_any (a s a' s' : Int) (w : World) (_h1 : -1000000000000000 ≤ a) (_h2 : a ≤ 1000000000000000) (_h3 : -1000000000000000 ≤ s) (_h4 : s ≤ 1000000000000000) (_h5 : -1000000000000000 ≤ a') (_h6 : a' ≤ 1000000000000000) (_h7 : -1000000000000000 ≤ s') (_h8 : s' ≤ 1000000000000000) :
    Calls Tryd.prog 43 #[.agg #[.int .i64 a, .int .i64 s], .agg #[.int .i64 a', .int .i64 s']] w fun e w' => e = .returned (.agg #[.int .i64 (a + a'), .int .i64 (s + s')]) ∧ Below w.heap.size w w' := by
  go_enter Tryd.func43, Tryd.ntmps43
  go_wp2
  go_returns
  exact ⟨rfl, (by repeat' (first | (with_reducible exact Below.refl _ _) | (with_reducible refine Below.alloc ?_ ?_ _) | (with_reducible refine Below.setCell ?_ ?_ _) | (with_reducible refine Below.drew ?_) | (with_reducible refine Below.trans ?_ (Below.mono (by with_reducible assumption) ?_)) | omega | (simp; done) | (simp; omega)))⟩
set_option maxHeartbeats 400000 in
theorem l2Sum_any (a s a' s' : Int) (w : World) (_h1 : -1000000000000000 ≤ a) (_h2 : a ≤ 1000000000000000) (_h3 : -1000000000000000 ≤ s) (_h4 : s ≤ 1000000000000000) (_h5 : -1000000000000000 ≤ a') (_h6 : a' ≤ 1000000000000000) (_h7 : -1000000000000000 ≤ s') (_h8 : s' ≤ 1000000000000000) :
    Calls Tryd.prog 47 #[.agg #[.int .i64 a, .int .i64 s], .agg #[.int .i64 a', .int .i64 s']] w fun e w' => e = .returned (.agg #[.int .i64 (a + a'), .int .i64 (s + s')]) ∧ Below w.heap.size w w' := by
  go_enter Tryd.func47, Tryd.ntmps47
  go_wp2
  go_returns
  exact ⟨rfl, (by repeat' (first | (with_reducible exact Below.refl _ _) | (with_reducible refine Below.alloc ?_ ?_ _) | (with_reducible refine Below.setCell ?_ ?_ _) | (with_reducible refine Below.drew ?_) | (with_reducible refine Below.trans ?_ (Below.mono (by with_reducible assumption) ?_)) | omega | (simp; done) | (simp; omega)))⟩
set_option maxHeartbeats 8000000 in
theorem iMix_any (A : Option Addr) (c : Nat) (xs : List Brn) (w : World) (h : Rd w w.heap.size A 2 Brn.enc xs) (hx : xs.length ≤ 1048576) :
    Calls Tryd.prog 15 #[.slice A xs.length c] w fun e w' => e = .returned (.tuple #[.agg #[.int .i64 (mixA xs), .int .i64 (mixS xs)], .bool (mixB xs)]) ∧ Below w.heap.size w w' := by
  by_cases hl : xs.length ≤ 20
  · go_enter Tryd.func15, Tryd.ntmps15
    go_wp2
    have hb0 : Below w.heap.size w ((w.alloc (.cells #[.int .i64 0, .int .i64 0] 25)).alloc (.cells #[.int .i64 0, .int .i64 0] 25)) := (by repeat' (first | (with_reducible exact Below.refl _ _) | (with_reducible refine Below.alloc ?_ ?_ _) | (with_reducible refine Below.setCell ?_ ?_ _) | (with_reducible refine Below.drew ?_) | (with_reducible refine Below.trans ?_ (Below.mono (by with_reducible assumption) ?_)) | omega | (simp; done) | (simp; omega)))
    have hr0 : Row ((w.alloc (.cells #[.int .i64 0, .int .i64 0] 25)).alloc (.cells #[.int .i64 0, .int .i64 0] 25)) w.heap.size 25 [.int .i64 0, .int .i64 0] := (Row.new w 25 #[.int .i64 0, .int .i64 0]).alloc _
    have hr1 : Row ((w.alloc (.cells #[.int .i64 0, .int .i64 0] 25)).alloc (.cells #[.int .i64 0, .int .i64 0] 25)) (w.heap.size + 1) 25 [.int .i64 (smA xs 0), .int .i64 (smS xs 0)] := by
      have := Row.new (w.alloc (.cells #[.int .i64 0, .int .i64 0] 25)) 25 #[.int .i64 0, .int .i64 0]
      rw [World.size_alloc] at this
      exact this
    generalize (w.alloc (.cells #[.int .i64 0, .int .i64 0] 25)).alloc (.cells #[.int .i64 0, .int .i64 0] 25) = W1 at *
    go_loopw [13] (fun i wr => ∃ k : Nat, k ≤ xs.length ∧ i = .int .i64 k ∧ Below w.heap.size w wr ∧ Hid (∀ i, i < k → brnAt xs i = true) ∧ Row wr w.heap.size 25 [.int .i64 0, .int .i64 0] ∧ Row wr (w.heap.size + 1) 25 [.int .i64 (smA xs k), .int .i64 (smS xs k)]) (fun i _ => xs.length - (intOf i).toNat)
    case atStart => exact ⟨0, Nat.zero_le _, rfl, hb0, fun i hi => by omega, hr0, hr1⟩
    case round =>
      clear hr0 hr1 hb0
      obtain ⟨k, hk, rfl, hb, Hall, hr0, hr1⟩ := hrel
      have hs := hb.size
      have hz0 := hr0.lt
      have hz1 := hr1.lt
      obtain ⟨p0, p1, fp⟩ := hr0.two
      obtain ⟨q0, q1, fq⟩ := hr1.two
      have hsm := sm_bd (xs := xs) k Hall.out
      have HR0 := Lib.hid hr0
      have HR1 := Lib.hid hr1
      clear hr0 hr1
      by_cases hlt : k < xs.length
      · obtain ⟨b, o, rfl, hB, c0, c1⟩ := brn_cells (h.below hb) hlt
        have hB1 : b < wr.heap.size := by omega
        have hI : (k : Int) < xs.length := by omega
        have hI0 : (0 : Int) ≤ k := by omega
        cases hOK : (inB (el xs k).a 0 1000000 && inB (el xs k).s 0 1000000)
        · have Hno := Lib.hid (mixB_bad hlt (show brnAt xs k = false from hOK))
          go_wp2_with fail
          (go_at_call 9; refine (isBrine_any _ _ _).mono ?_; rintro e w1 ⟨rfl, hb1⟩)
          (have hs1 := hb1.size; (try simp at hs1); obtain ⟨hc1, hf1, hn1⟩ := bcell hb1; (try have hz1_wr_0 : wr.heap.size < w1.heap.size := by omega); (try have hz1_wr_1 : wr.heap.size + 1 < w1.heap.size := by omega); (try have hz1_wr_2 : wr.heap.size + 2 < w1.heap.size := by omega); (try have hB1 : b < w1.heap.size := by omega); (try have hB2 : b' < w1.heap.size := by omega); (try have hz1_wr_2b : wr.heap.size + 1 + 1 < w1.heap.size := by omega); (try have hz1_w_0 : w.heap.size < w1.heap.size := by omega); (try have hz1_w_1 : w.heap.size + 1 < w1.heap.size := by omega); (try have hz1_w_2 : w.heap.size + 2 < w1.heap.size := by omega); (try have hz1_w_2b : w.heap.size + 1 + 1 < w1.heap.size := by omega))
          obtain ⟨p0', p1', fp'⟩ := (HR0.out.to (show Below wr.heap.size wr w1 from (by repeat' (first | (with_reducible exact Below.refl _ _) | (with_reducible refine Below.alloc ?_ ?_ _) | (with_reducible refine Below.setCell ?_ ?_ _) | (with_reducible refine Below.drew ?_) | (with_reducible refine Below.trans ?_ (Below.mono (by with_reducible assumption) ?_)) | omega | (simp; done) | (simp; omega))))).two
          go_wp2_with fail
          ((try simp only [Exit.inBlock, Exit.then]); refine bodyPost_ret (by simp [results, Tryd.results15, go_sem, *]; try rfl) rfl ?_)
          exact ⟨ret_xb (by rw [mixA, Hno.out]; rfl) (by rw [mixS, Hno.out]; rfl) Hno.out.symm, (by repeat' (first | (with_reducible exact Below.refl _ _) | (with_reducible refine Below.alloc ?_ ?_ _) | (with_reducible refine Below.setCell ?_ ?_ _) | (with_reducible refine Below.drew ?_) | (with_reducible refine Below.trans ?_ (Below.mono (by with_reducible assumption) ?_)) | omega | (simp; done) | (simp; omega)))⟩
        · have Hat := Lib.hid (show brnAt xs k = true from hOK)
          have hx1 : (0 ≤ (el xs k).a ∧ (el xs k).a ≤ 1000000) ∧ (0 ≤ (el xs k).s ∧ (el xs k).s ≤ 1000000) := by simpa [inB] using hOK
          go_wp2_with fail
          (go_at_call 9; refine (isBrine_any _ _ _).mono ?_; rintro e w1 ⟨rfl, hb1⟩)
          (have hs1 := hb1.size; (try simp at hs1); obtain ⟨hc1, hf1, hn1⟩ := bcell hb1; (try have hz1_wr_0 : wr.heap.size < w1.heap.size := by omega); (try have hz1_wr_1 : wr.heap.size + 1 < w1.heap.size := by omega); (try have hz1_wr_2 : wr.heap.size + 2 < w1.heap.size := by omega); (try have hB1 : b < w1.heap.size := by omega); (try have hB2 : b' < w1.heap.size := by omega); (try have hz1_wr_2b : wr.heap.size + 1 + 1 < w1.heap.size := by omega); (try have hz1_w_0 : w.heap.size < w1.heap.size := by omega); (try have hz1_w_1 : w.heap.size + 1 < w1.heap.size := by omega); (try have hz1_w_2 : w.heap.size + 2 < w1.heap.size := by omega); (try have hz1_w_2b : w.heap.size + 1 + 1 < w1.heap.size := by omega))
          go_wp2_with fail
          (go_at_call 43; refine (plus_any _ _ _ _ _ (by omega) (by omega) (by omega) (by omega) (by omega) (by omega) (by omega) (by omega)).mono ?_; rintro e w2 ⟨rfl, hb2⟩)
          (have hs2 := hb2.size; (try simp at hs2); obtain ⟨hc2, hf2, hn2⟩ := bcell hb2; (try have hz2_wr_0 : wr.heap.size < w2.heap.size := by omega); (try have hz2_wr_1 : wr.heap.size + 1 < w2.heap.size := by omega); (try have hz2_wr_2 : wr.heap.size + 2 < w2.heap.size := by omega); (try have hB1 : b < w2.heap.size := by omega); (try have hB2 : b' < w2.heap.size := by omega); (try have hz2_wr_2b : wr.heap.size + 1 + 1 < w2.heap.size := by omega); (try have hz2_w_0 : w.heap.size < w2.heap.size := by omega); (try have hz2_w_1 : w.heap.size + 1 < w2.heap.size := by omega); (try have hz2_w_2 : w.heap.size + 2 < w2.heap.size := by omega); (try have hz2_w_2b : w.heap.size + 1 + 1 < w2.heap.size := by omega); (try have hz2_w1_0 : w1.heap.size < w2.heap.size := by omega); (try have hz2_w1_1 : w1.heap.size + 1 < w2.heap.size := by omega); (try have hz2_w1_2 : w1.heap.size + 2 < w2.heap.size := by omega); (try have hz2_w1_2b : w1.heap.size + 1 + 1 < w2.heap.size := by omega))
          go_wp2_with fail
          have R1 := (((HR1.out).to (show Below wr.heap.size wr w2 from (by repeat' (first | (with_reducible exact Below.refl _ _) | (with_reducible refine Below.alloc ?_ ?_ _) | (with_reducible refine Below.setCell ?_ ?_ _) | (with_reducible refine Below.drew ?_) | (with_reducible refine Below.trans ?_ (Below.mono (by with_reducible assumption) ?_)) | omega | (simp; done) | (simp; omega))))).set (j := 0) (.int .i64 (smA xs k + (el xs k).a))).set (j := 1) (.int .i64 (smS xs k + (el xs k).s))
          have R0 := (((HR0.out).to (show Below wr.heap.size wr w2 from (by repeat' (first | (with_reducible exact Below.refl _ _) | (with_reducible refine Below.alloc ?_ ?_ _) | (with_reducible refine Below.setCell ?_ ?_ _) | (with_reducible refine Below.drew ?_) | (with_reducible refine Below.trans ?_ (Below.mono (by with_reducible assumption) ?_)) | omega | (simp; done) | (simp; omega))))).far (p := ⟨w.heap.size + 1, 0, none⟩) (by simp) (.int .i64 (smA xs k + (el xs k).a))).far (p := ⟨w.heap.size + 1, 1, none⟩) (by simp) (.int .i64 (smS xs k + (el xs k).s))
          go_roundw
          case rel => exact ⟨k + 1, by omega, by go_num, (by repeat' (first | (with_reducible exact Below.refl _ _) | (with_reducible refine Below.alloc ?_ ?_ _) | (with_reducible refine Below.setCell ?_ ?_ _) | (with_reducible refine Below.drew ?_) | (with_reducible refine Below.trans ?_ (Below.mono (by with_reducible assumption) ?_)) | omega | (simp; done) | (simp; omega))), fun i hi => by
                              by_cases hik : i < k
                              · exact Hall.out i hik
                              · obtain rfl : i = k := by omega
                                exact Hat.out, R0, R1⟩
          case measure => simp [intOf]; omega
      · obtain rfl : k = xs.length := by omega
        have Hend := Lib.hid (mixB_end hl Hall.out)
        cases hOK : (inB (smA xs xs.length) 0 1000000 && inB (smS xs xs.length) 0 1000000)
        · have Hno := Lib.hid (show mixB xs = false by rw [Hend.out, hOK])
          go_wp2_with fail
          (go_at_call 9; refine (isBrine_any _ _ _).mono ?_; rintro e w1 ⟨rfl, hb1⟩)
          (have hs1 := hb1.size; (try simp at hs1); obtain ⟨hc1, hf1, hn1⟩ := bcell hb1; (try have hz1_wr_0 : wr.heap.size < w1.heap.size := by omega); (try have hz1_wr_1 : wr.heap.size + 1 < w1.heap.size := by omega); (try have hz1_wr_2 : wr.heap.size + 2 < w1.heap.size := by omega); (try have hB1 : b < w1.heap.size := by omega); (try have hB2 : b' < w1.heap.size := by omega); (try have hz1_wr_2b : wr.heap.size + 1 + 1 < w1.heap.size := by omega); (try have hz1_w_0 : w.heap.size < w1.heap.size := by omega); (try have hz1_w_1 : w.heap.size + 1 < w1.heap.size := by omega); (try have hz1_w_2 : w.heap.size + 2 < w1.heap.size := by omega); (try have hz1_w_2b : w.heap.size + 1 + 1 < w1.heap.size := by omega))
          obtain ⟨p0', p1', fp'⟩ := (HR0.out.to (show Below wr.heap.size wr w1 from (by repeat' (first | (with_reducible exact Below.refl _ _) | (with_reducible refine Below.alloc ?_ ?_ _) | (with_reducible refine Below.setCell ?_ ?_ _) | (with_reducible refine Below.drew ?_) | (with_reducible refine Below.trans ?_ (Below.mono (by with_reducible assumption) ?_)) | omega | (simp; done) | (simp; omega))))).two
          go_wp2_with fail
          ((try simp only [Exit.inBlock, Exit.then]); refine bodyPost_ret (by simp [results, Tryd.results15, go_sem, *]; try rfl) rfl ?_)
          exact ⟨ret_xb (by rw [mixA, Hno.out]; rfl) (by rw [mixS, Hno.out]; rfl) Hno.out.symm, (by repeat' (first | (with_reducible exact Below.refl _ _) | (with_reducible refine Below.alloc ?_ ?_ _) | (with_reducible refine Below.setCell ?_ ?_ _) | (with_reducible refine Below.drew ?_) | (with_reducible refine Below.trans ?_ (Below.mono (by with_reducible assumption) ?_)) | omega | (simp; done) | (simp; omega)))⟩
        · have Hyes := Lib.hid (show mixB xs = true by rw [Hend.out, hOK])
          go_wp2_with fail
          (go_at_call 9; refine (isBrine_any _ _ _).mono ?_; rintro e w1 ⟨rfl, hb1⟩)
          (have hs1 := hb1.size; (try simp at hs1); obtain ⟨hc1, hf1, hn1⟩ := bcell hb1; (try have hz1_wr_0 : wr.heap.size < w1.heap.size := by omega); (try have hz1_wr_1 : wr.heap.size + 1 < w1.heap.size := by omega); (try have hz1_wr_2 : wr.heap.size + 2 < w1.heap.size := by omega); (try have hB1 : b < w1.heap.size := by omega); (try have hB2 : b' < w1.heap.size := by omega); (try have hz1_wr_2b : wr.heap.size + 1 + 1 < w1.heap.size := by omega); (try have hz1_w_0 : w.heap.size < w1.heap.size := by omega); (try have hz1_w_1 : w.heap.size + 1 < w1.heap.size := by omega); (try have hz1_w_2 : w.heap.size + 2 < w1.heap.size := by omega); (try have hz1_w_2b : w.heap.size + 1 + 1 < w1.heap.size := by omega))
          obtain ⟨p0', p1', fp'⟩ := (HR0.out.to (show Below wr.heap.size wr w1 from (by repeat' (first | (with_reducible exact Below.refl _ _) | (with_reducible refine Below.alloc ?_ ?_ _) | (with_reducible refine Below.setCell ?_ ?_ _) | (with_reducible refine Below.drew ?_) | (with_reducible refine Below.trans ?_ (Below.mono (by with_reducible assumption) ?_)) | omega | (simp; done) | (simp; omega))))).two
          go_wp2_with fail
          ((try simp only [Exit.inBlock, Exit.then]); refine bodyPost_ret (by simp [results, Tryd.results15, go_sem, *]; try rfl) rfl ?_)
          exact ⟨ret_xb (by rw [mixA, if_pos Hyes.out]) (by rw [mixS, if_pos Hyes.out]) Hyes.out.symm, (by repeat' (first | (with_reducible exact Below.refl _ _) | (with_reducible refine Below.alloc ?_ ?_ _) | (with_reducible refine Below.setCell ?_ ?_ _) | (with_reducible refine Below.drew ?_) | (with_reducible refine Below.trans ?_ (Below.mono (by with_reducible assumption) ?_)) | omega | (simp; done) | (simp; omega)))⟩
  · have Hno := Lib.hid (mixB_long hl)
    go_enter Tryd.func15, Tryd.ntmps15
    go_wp2
    go_returns
    exact ⟨ret_xb (by rw [mixA, Hno.out]; rfl) (by rw [mixS, Hno.out]; rfl) Hno.out.symm, (by repeat' (first | (with_reducible exact Below.refl _ _) | (with_reducible refine Below.alloc ?_ ?_ _) | (with_reducible refine Below.setCell ?_ ?_ _) | (with_reducible refine Below.drew ?_) | (with_reducible refine Below.trans ?_ (Below.mono (by with_reducible assumption) ?_)) | omega | (simp; done) | (simp; omega)))⟩
set_option maxHeartbeats 8000000 in
theorem sMix_any (A : Option Addr) (c : Nat) (xs : List Brn) (w : World) (h : Rd w w.heap.size A 2 Brn.enc xs) (hx : xs.length ≤ 1048576) :
    Calls Tryd.prog 21 #[.slice A xs.length c] w fun e w' => e = .returned (.tuple #[.agg #[.int .i64 (mixA xs), .int .i64 (mixS xs)], .bool (mixB xs)]) ∧ Below w.heap.size w w' := by
  by_cases hl : xs.length ≤ 20
  · go_enter Tryd.func21, Tryd.ntmps21
    go_wp2
    have hb0 : Below w.heap.size w ((w.alloc (.cells #[.int .i64 0, .int .i64 0] 25)).alloc (.cells #[.int .i64 0, .int .i64 0] 25)) := (by repeat' (first | (with_reducible exact Below.refl _ _) | (with_reducible refine Below.alloc ?_ ?_ _) | (with_reducible refine Below.setCell ?_ ?_ _) | (with_reducible refine Below.drew ?_) | (with_reducible refine Below.trans ?_ (Below.mono (by with_reducible assumption) ?_)) | omega | (simp; done) | (simp; omega)))
    have hr0 : Row ((w.alloc (.cells #[.int .i64 0, .int .i64 0] 25)).alloc (.cells #[.int .i64 0, .int .i64 0] 25)) w.heap.size 25 [.int .i64 0, .int .i64 0] := (Row.new w 25 #[.int .i64 0, .int .i64 0]).alloc _
    have hr1 : Row ((w.alloc (.cells #[.int .i64 0, .int .i64 0] 25)).alloc (.cells #[.int .i64 0, .int .i64 0] 25)) (w.heap.size + 1) 25 [.int .i64 (smA xs 0), .int .i64 (smS xs 0)] := by
      have := Row.new (w.alloc (.cells #[.int .i64 0, .int .i64 0] 25)) 25 #[.int .i64 0, .int .i64 0]
      rw [World.size_alloc] at this
      exact this
    generalize (w.alloc (.cells #[.int .i64 0, .int .i64 0] 25)).alloc (.cells #[.int .i64 0, .int .i64 0] 25) = W1 at *
    go_loopw [5] (fun i wr => ∃ k : Nat, k ≤ xs.length ∧ i = .int .i64 k ∧ Below w.heap.size w wr ∧ Hid (∀ i, i < k → brnAt xs i = true) ∧ Row wr w.heap.size 25 [.int .i64 0, .int .i64 0] ∧ Row wr (w.heap.size + 1) 25 [.int .i64 (smA xs k), .int .i64 (smS xs k)]) (fun i _ => xs.length - (intOf i).toNat)
    case atStart => exact ⟨0, Nat.zero_le _, rfl, hb0, fun i hi => by omega, hr0, hr1⟩
    case round =>
      clear hr0 hr1 hb0
      obtain ⟨k, hk, rfl, hb, Hall, hr0, hr1⟩ := hrel
      have hs := hb.size
      have hz0 := hr0.lt
      have hz1 := hr1.lt
      obtain ⟨p0, p1, fp⟩ := hr0.two
      obtain ⟨q0, q1, fq⟩ := hr1.two
      have hsm := sm_bd (xs := xs) k Hall.out
      have HR0 := Lib.hid hr0
      have HR1 := Lib.hid hr1
      clear hr0 hr1
      by_cases hlt : k < xs.length
      · obtain ⟨b, o, rfl, hB, c0, c1⟩ := brn_cells (h.below hb) hlt
        have hB1 : b < wr.heap.size := by omega
        have hI : (k : Int) < xs.length := by omega
        have hI0 : (0 : Int) ≤ k := by omega
        cases hOK : (inB (el xs k).a 0 1000000 && inB (el xs k).s 0 1000000)
        · have Hno := Lib.hid (mixB_bad hlt (show brnAt xs k = false from hOK))
          go_wp2_with fail
          (go_at_call 27; refine (l2Brine_any _ _ _).mono ?_; rintro e w1 ⟨rfl, hb1⟩)
          (have hs1 := hb1.size; (try simp at hs1); obtain ⟨hc1, hf1, hn1⟩ := bcell hb1; (try have hz1_wr_0 : wr.heap.size < w1.heap.size := by omega); (try have hz1_wr_1 : wr.heap.size + 1 < w1.heap.size := by omega); (try have hz1_wr_2 : wr.heap.size + 2 < w1.heap.size := by omega); (try have hB1 : b < w1.heap.size := by omega); (try have hB2 : b' < w1.heap.size := by omega); (try have hz1_wr_2b : wr.heap.size + 1 + 1 < w1.heap.size := by omega); (try have hz1_w_0 : w.heap.size < w1.heap.size := by omega); (try have hz1_w_1 : w.heap.size + 1 < w1.heap.size := by omega); (try have hz1_w_2 : w.heap.size + 2 < w1.heap.size := by omega); (try have hz1_w_2b : w.heap.size + 1 + 1 < w1.heap.size := by omega))
          obtain ⟨p0', p1', fp'⟩ := (HR0.out.to (show Below wr.heap.size wr w1 from (by repeat' (first | (with_reducible exact Below.refl _ _) | (with_reducible refine Below.alloc ?_ ?_ _) | (with_reducible refine Below.setCell ?_ ?_ _) | (with_reducible refine Below.drew ?_) | (with_reducible refine Below.trans ?_ (Below.mono (by with_reducible assumption) ?_)) | omega | (simp; done) | (simp; omega))))).two
          go_wp2_with fail
          ((try simp only [Exit.inBlock, Exit.then]); refine bodyPost_ret (by simp [results, Tryd.results21, go_sem, *]; try rfl) rfl ?_)
          exact ⟨ret_xb (by rw [mixA, Hno.out]; rfl) (by rw [mixS, Hno.out]; rfl) Hno.out.symm, (by repeat' (first | (with_reducible exact Below.refl _ _) | (with_reducible refine Below.alloc ?_ ?_ _) | (with_reducible refine Below.setCell ?_ ?_ _) | (with_reducible refine Below.drew ?_) | (with_reducible refine Below.trans ?_ (Below.mono (by with_reducible assumption) ?_)) | omega | (simp; done) | (simp; omega)))⟩
        · have Hat := Lib.hid (show brnAt xs k = true from hOK)
          have hx1 : (0 ≤ (el xs k).a ∧ (el xs k).a ≤ 1000000) ∧ (0 ≤ (el xs k).s ∧ (el xs k).s ≤ 1000000) := by simpa [inB] using hOK
          go_wp2_with fail
          (go_at_call 27; refine (l2Brine_any _ _ _).mono ?_; rintro e w1 ⟨rfl, hb1⟩)
          (have hs1 := hb1.size; (try simp at hs1); obtain ⟨hc1, hf1, hn1⟩ := bcell hb1; (try have hz1_wr_0 : wr.heap.size < w1.heap.size := by omega); (try have hz1_wr_1 : wr.heap.size + 1 < w1.heap.size := by omega); (try have hz1_wr_2 : wr.heap.size + 2 < w1.heap.size := by omega); (try have hB1 : b < w1.heap.size := by omega); (try have hB2 : b' < w1.heap.size := by omega); (try have hz1_wr_2b : wr.heap.size + 1 + 1 < w1.heap.size := by omega); (try have hz1_w_0 : w.heap.size < w1.heap.size := by omega); (try have hz1_w_1 : w.heap.size + 1 < w1.heap.size := by omega); (try have hz1_w_2 : w.heap.size + 2 < w1.heap.size := by omega); (try have hz1_w_2b : w.heap.size + 1 + 1 < w1.heap.size := by omega))
          go_wp2_with fail
          refine wp_region_below_tail 6 (by kernel_rfl) (by kernel_rfl) ?_
          simp only [List.take_succ_cons, List.take_zero, List.drop_succ_cons, List.drop_zero]
          repeat (go_big_quiet_step ((go_at_call 47; exact Calls.regrown_of (l2Sum_any _ _ _ _ _ (by omega) (by omega) (by omega) (by omega) (by omega) (by omega) (by omega) (by omega)))))
          (refine wpQuiet_nil ?_; intro w2 hwq; have hb2 := of_cls hwq; clear hwq)
          (have hs2 := hb2.size; (try simp at hs2); obtain ⟨hc2, hf2, hn2⟩ := bcell hb2; (try have hz2_wr_0 : wr.heap.size < w2.heap.size := by omega); (try have hz2_wr_1 : wr.heap.size + 1 < w2.heap.size := by omega); (try have hz2_wr_2 : wr.heap.size + 2 < w2.heap.size := by omega); (try have hB1 : b < w2.heap.size := by omega); (try have hB2 : b' < w2.heap.size := by omega); (try have hz2_wr_2b : wr.heap.size + 1 + 1 < w2.heap.size := by omega); (try have hz2_w_0 : w.heap.size < w2.heap.size := by omega); (try have hz2_w_1 : w.heap.size + 1 < w2.heap.size := by omega); (try have hz2_w_2 : w.heap.size + 2 < w2.heap.size := by omega); (try have hz2_w_2b : w.heap.size + 1 + 1 < w2.heap.size := by omega); (try have hz2_w1_0 : w1.heap.size < w2.heap.size := by omega); (try have hz2_w1_1 : w1.heap.size + 1 < w2.heap.size := by omega); (try have hz2_w1_2 : w1.heap.size + 2 < w2.heap.size := by omega); (try have hz2_w1_2b : w1.heap.size + 1 + 1 < w2.heap.size := by omega))
          go_wp2_with fail
          have R1 := (((HR1.out).to (show Below wr.heap.size wr w2 from (by repeat' (first | (with_reducible exact Below.refl _ _) | (with_reducible refine Below.alloc ?_ ?_ _) | (with_reducible refine Below.setCell ?_ ?_ _) | (with_reducible refine Below.drew ?_) | (with_reducible refine Below.trans ?_ (Below.mono (by with_reducible assumption) ?_)) | omega | (simp; done) | (simp; omega))))).set (j := 0) (.int .i64 (smA xs k + (el xs k).a))).set (j := 1) (.int .i64 (smS xs k + (el xs k).s))
          have R0 := (((HR0.out).to (show Below wr.heap.size wr w2 from (by repeat' (first | (with_reducible exact Below.refl _ _) | (with_reducible refine Below.alloc ?_ ?_ _) | (with_reducible refine Below.setCell ?_ ?_ _) | (with_reducible refine Below.drew ?_) | (with_reducible refine Below.trans ?_ (Below.mono (by with_reducible assumption) ?_)) | omega | (simp; done) | (simp; omega))))).far (p := ⟨w.heap.size + 1, 0, none⟩) (by simp) (.int .i64 (smA xs k + (el xs k).a))).far (p := ⟨w.heap.size + 1, 1, none⟩) (by simp) (.int .i64 (smS xs k + (el xs k).s))
          go_roundw
          case rel => exact ⟨k + 1, by omega, by go_num, (by repeat' (first | (with_reducible exact Below.refl _ _) | (with_reducible refine Below.alloc ?_ ?_ _) | (with_reducible refine Below.setCell ?_ ?_ _) | (with_reducible refine Below.drew ?_) | (with_reducible refine Below.trans ?_ (Below.mono (by with_reducible assumption) ?_)) | omega | (simp; done) | (simp; omega))), fun i hi => by
                              by_cases hik : i < k
                              · exact Hall.out i hik
                              · obtain rfl : i = k := by omega
                                exact Hat.out, R0, R1⟩
          case measure => simp [intOf]; omega
      · obtain rfl : k = xs.length := by omega
        have Hend := Lib.hid (mixB_end hl Hall.out)
        cases hOK : (inB (smA xs xs.length) 0 1000000 && inB (smS xs xs.length) 0 1000000)
        · have Hno := Lib.hid (show mixB xs = false by rw [Hend.out, hOK])
          go_wp2_with fail
          (go_at_call 27; refine (l2Brine_any _ _ _).mono ?_; rintro e w1 ⟨rfl, hb1⟩)
          (have hs1 := hb1.size; (try simp at hs1); obtain ⟨hc1, hf1, hn1⟩ := bcell hb1; (try have hz1_wr_0 : wr.heap.size < w1.heap.size := by omega); (try have hz1_wr_1 : wr.heap.size + 1 < w1.heap.size := by omega); (try have hz1_wr_2 : wr.heap.size + 2 < w1.heap.size := by omega); (try have hB1 : b < w1.heap.size := by omega); (try have hB2 : b' < w1.heap.size := by omega); (try have hz1_wr_2b : wr.heap.size + 1 + 1 < w1.heap.size := by omega); (try have hz1_w_0 : w.heap.size < w1.heap.size := by omega); (try have hz1_w_1 : w.heap.size + 1 < w1.heap.size := by omega); (try have hz1_w_2 : w.heap.size + 2 < w1.heap.size := by omega); (try have hz1_w_2b : w.heap.size + 1 + 1 < w1.heap.size := by omega))
          obtain ⟨p0', p1', fp'⟩ := (HR0.out.to (show Below wr.heap.size wr w1 from (by repeat' (first | (with_reducible exact Below.refl _ _) | (with_reducible refine Below.alloc ?_ ?_ _) | (with_reducible refine Below.setCell ?_ ?_ _) | (with_reducible refine Below.drew ?_) | (with_reducible refine Below.trans ?_ (Below.mono (by with_reducible assumption) ?_)) | omega | (simp; done) | (simp; omega))))).two
          go_wp2_with fail
          ((try simp only [Exit.inBlock, Exit.then]); refine bodyPost_ret (by simp [results, Tryd.results21, go_sem, *]; try rfl) rfl ?_)
          exact ⟨ret_xb (by rw [mixA, Hno.out]; rfl) (by rw [mixS, Hno.out]; rfl) Hno.out.symm, (by repeat' (first | (with_reducible exact Below.refl _ _) | (with_reducible refine Below.alloc ?_ ?_ _) | (with_reducible refine Below.setCell ?_ ?_ _) | (with_reducible refine Below.drew ?_) | (with_reducible refine Below.trans ?_ (Below.mono (by with_reducible assumption) ?_)) | omega | (simp; done) | (simp; omega)))⟩
        · have Hyes := Lib.hid (show mixB xs = true by rw [Hend.out, hOK])
          go_wp2_with fail
          (go_at_call 27; refine (l2Brine_any _ _ _).mono ?_; rintro e w1 ⟨rfl, hb1⟩)
          (have hs1 := hb1.size; (try simp at hs1); obtain ⟨hc1, hf1, hn1⟩ := bcell hb1; (try have hz1_wr_0 : wr.heap.size < w1.heap.size := by omega); (try have hz1_wr_1 : wr.heap.size + 1 < w1.heap.size := by omega); (try have hz1_wr_2 : wr.heap.size + 2 < w1.heap.size := by omega); (try have hB1 : b < w1.heap.size := by omega); (try have hB2 : b' < w1.heap.size := by omega); (try have hz1_wr_2b : wr.heap.size + 1 + 1 < w1.heap.size := by omega); (try have hz1_w_0 : w.heap.size < w1.heap.size := by omega); (try have hz1_w_1 : w.heap.size + 1 < w1.heap.size := by omega); (try have hz1_w_2 : w.heap.size + 2 < w1.heap.size := by omega); (try have hz1_w_2b : w.heap.size + 1 + 1 < w1.heap.size := by omega))
          obtain ⟨p0', p1', fp'⟩ := (HR0.out.to (show Below wr.heap.size wr w1 from (by repeat' (first | (with_reducible exact Below.refl _ _) | (with_reducible refine Below.alloc ?_ ?_ _) | (with_reducible refine Below.setCell ?_ ?_ _) | (with_reducible refine Below.drew ?_) | (with_reducible refine Below.trans ?_ (Below.mono (by with_reducible assumption) ?_)) | omega | (simp; done) | (simp; omega))))).two
          go_wp2_with fail
          ((try simp only [Exit.inBlock, Exit.then]); refine bodyPost_ret (by simp [results, Tryd.results21, go_sem, *]; try rfl) rfl ?_)
          exact ⟨ret_xb (by rw [mixA, if_pos Hyes.out]) (by rw [mixS, if_pos Hyes.out]) Hyes.out.symm, (by repeat' (first | (with_reducible exact Below.refl _ _) | (with_reducible refine Below.alloc ?_ ?_ _) | (with_reducible refine Below.setCell ?_ ?_ _) | (with_reducible refine Below.drew ?_) | (with_reducible refine Below.trans ?_ (Below.mono (by with_reducible assumption) ?_)) | omega | (simp; done) | (simp; omega)))⟩
  · have Hno := Lib.hid (mixB_long hl)
    go_enter Tryd.func21, Tryd.ntmps21
    go_wp2
    go_returns
    exact ⟨ret_xb (by rw [mixA, Hno.out]; rfl) (by rw [mixS, Hno.out]; rfl) Hno.out.symm, (by repeat' (first | (with_reducible exact Below.refl _ _) | (with_reducible refine Below.alloc ?_ ?_ _) | (with_reducible refine Below.setCell ?_ ?_ _) | (with_reducible refine Below.drew ?_) | (with_reducible refine Below.trans ?_ (Below.mono (by with_reducible assumption) ?_)) | omega | (simp; done) | (simp; omega)))⟩
end Go.Proofs.YtocaodoagiokjaaDoor
