/- Contracts of the sum of a series (chapter 8). -/
import Derived.Test.YtocaodoagiokjaaSer
set_option linter.unusedSimpArgs false
set_option linter.unusedVariables false
namespace Go.Proofs.Ytocaodoagiokjaa
open Go.RowKit Go.Sort Go.Salt
attribute [local go_sem] cell_rg
attribute [local go_sem ↓] run_max_mx run_min_mn
def bsA (xs : List Bsn) : Nat → Int
  | 0 => 0
  | k + 1 => bsA xs k + (el xs k).a
def bsS (xs : List Bsn) : Nat → Int
  | 0 => 0
  | k + 1 => bsS xs k + (el xs k).s
theorem bs_bd {xs : List Bsn} (hv : ∀ k, k < xs.length → bsnOK (el xs k).r (el xs k).a (el xs k).s = true) : ∀ k, k ≤ xs.length → 0 ≤ bsA xs k ∧ bsA xs k ≤ 1000000 * k ∧ 0 ≤ bsS xs k ∧ bsS xs k ≤ 1000000 * k
  | 0, _ => by simp [bsA, bsS]
  | k + 1, h => by
    have h1 := bs_bd hv k (by omega)
    have h2 := bsnOK_bd (hv k (by omega))
    unfold bsA bsS; omega
def ssB (xs : List Bsn) : Bool := serOK xs && (inB (bsA xs xs.length) 0 1000000 && inB (bsS xs xs.length) 0 1000000)
def ssA (xs : List Bsn) : Int := if ssB xs then bsA xs xs.length else 0
def ssS (xs : List Bsn) : Int := if ssB xs then bsS xs xs.length else 0
theorem ret_xb {a s a' s' : Int} {p q : Bool} (h1 : a = a') (h2 : s = s') (k : p = q) : Ending.returned (.tuple #[.agg #[.int .i64 a, .int .i64 s], .bool p]) = .returned (.tuple #[.agg #[.int .i64 a', .int .i64 s'], .bool q]) := by rw [h1, h2, k]
set_option maxHeartbeats 400000 in
theorem plus_any (a s a' s' : Int) (w : World) (_h1 : -1000000000000000 ≤ a) (_h2 : a ≤ 1000000000000000) (_h3 : -1000000000000000 ≤ s) (_h4 : s ≤ 1000000000000000) (_h5 : -1000000000000000 ≤ a') (_h6 : a' ≤ 1000000000000000) (_h7 : -1000000000000000 ≤ s') (_h8 : s' ≤ 1000000000000000) :
    Calls Try.prog 39 #[.agg #[.int .i64 a, .int .i64 s], .agg #[.int .i64 a', .int .i64 s']] w fun e w' => e = .returned (.agg #[.int .i64 (a + a'), .int .i64 (s + s')]) ∧ Below w.heap.size w w' := by
  go_enter Try.func39, Try.ntmps39
  go_wp2
  go_returns
  exact ⟨rfl, (by repeat' (first | (with_reducible exact Below.refl _ _) | (with_reducible refine Below.alloc ?_ ?_ _) | (with_reducible refine Below.setCell ?_ ?_ _) | (with_reducible refine Below.drew ?_) | (with_reducible refine Below.trans ?_ (Below.mono (by with_reducible assumption) ?_)) | omega | (simp; done) | (simp; omega)))⟩
set_option maxHeartbeats 400000 in
theorem l2Sum_any (a s a' s' : Int) (w : World) (_h1 : -1000000000000000 ≤ a) (_h2 : a ≤ 1000000000000000) (_h3 : -1000000000000000 ≤ s) (_h4 : s ≤ 1000000000000000) (_h5 : -1000000000000000 ≤ a') (_h6 : a' ≤ 1000000000000000) (_h7 : -1000000000000000 ≤ s') (_h8 : s' ≤ 1000000000000000) :
    Calls Try.prog 43 #[.agg #[.int .i64 a, .int .i64 s], .agg #[.int .i64 a', .int .i64 s']] w fun e w' => e = .returned (.agg #[.int .i64 (a + a'), .int .i64 (s + s')]) ∧ Below w.heap.size w w' := by
  go_enter Try.func43, Try.ntmps43
  go_wp2
  go_returns
  exact ⟨rfl, (by repeat' (first | (with_reducible exact Below.refl _ _) | (with_reducible refine Below.alloc ?_ ?_ _) | (with_reducible refine Below.setCell ?_ ?_ _) | (with_reducible refine Below.drew ?_) | (with_reducible refine Below.trans ?_ (Below.mono (by with_reducible assumption) ?_)) | omega | (simp; done) | (simp; omega)))⟩
set_option maxHeartbeats 8000000 in
theorem l8Sum_any (A : Option Addr) (c : Nat) (xs : List Bsn) (w : World) (h : Rd w w.heap.size A 3 Bsn.enc xs) (hx : xs.length ≤ 8) (hv : Hid (∀ k, k < xs.length → bsnOK (el xs k).r (el xs k).a (el xs k).s = true)) :
    Calls Try.prog 37 #[.slice A xs.length c] w fun e w' => e = .returned (.agg #[.int .i64 (bsA xs xs.length), .int .i64 (bsS xs xs.length)]) ∧ Below w.heap.size w w' := by
  go_enter Try.func37, Try.ntmps37
  go_wp2
  have hb0 : Below w.heap.size w ((w.alloc (.cells #[.int .i64 0, .int .i64 0] 25)).alloc (.cells #[.int .i64 0, .int .i64 0] 25)) := (by repeat' (first | (with_reducible exact Below.refl _ _) | (with_reducible refine Below.alloc ?_ ?_ _) | (with_reducible refine Below.setCell ?_ ?_ _) | (with_reducible refine Below.drew ?_) | (with_reducible refine Below.trans ?_ (Below.mono (by with_reducible assumption) ?_)) | omega | (simp; done) | (simp; omega)))
  have hr0 : Row ((w.alloc (.cells #[.int .i64 0, .int .i64 0] 25)).alloc (.cells #[.int .i64 0, .int .i64 0] 25)) w.heap.size 25 [.int .i64 0, .int .i64 0] := (Row.new w 25 #[.int .i64 0, .int .i64 0]).alloc _
  have hr1 : Row ((w.alloc (.cells #[.int .i64 0, .int .i64 0] 25)).alloc (.cells #[.int .i64 0, .int .i64 0] 25)) (w.heap.size + 1) 25 [.int .i64 (bsA xs 0), .int .i64 (bsS xs 0)] := by
    have := Row.new (w.alloc (.cells #[.int .i64 0, .int .i64 0] 25)) 25 #[.int .i64 0, .int .i64 0]
    rw [World.size_alloc] at this
    exact this
  generalize (w.alloc (.cells #[.int .i64 0, .int .i64 0] 25)).alloc (.cells #[.int .i64 0, .int .i64 0] 25) = W1 at *
  go_loopw [4] (fun i wr => ∃ k : Nat, k ≤ xs.length ∧ i = .int .i64 k ∧ Below w.heap.size w wr ∧ Row wr w.heap.size 25 [.int .i64 0, .int .i64 0] ∧ Row wr (w.heap.size + 1) 25 [.int .i64 (bsA xs k), .int .i64 (bsS xs k)]) (fun i _ => xs.length - (intOf i).toNat)
  case atStart => exact ⟨0, Nat.zero_le _, rfl, hb0, hr0, hr1⟩
  case round =>
    clear hr0 hr1 hb0
    obtain ⟨k, hk, rfl, hb, hr0, hr1⟩ := hrel
    have hs := hb.size
    have hz0 := hr0.lt
    have hz1 := hr1.lt
    obtain ⟨p0, p1, fp⟩ := hr0.two
    obtain ⟨q0, q1, fq⟩ := hr1.two
    have hsm := bs_bd hv.out k hk
    have HR0 := Lib.hid hr0
    have HR1 := Lib.hid hr1
    clear hr0 hr1
    by_cases hlt : k < xs.length
    · obtain ⟨b, o, rfl, hB, c0, c1, c2⟩ := bsn_cells (h.below hb) hlt
      have hB1 : b < wr.heap.size := by omega
      have hI : (k : Int) < xs.length := by omega
      have hI0 : (0 : Int) ≤ k := by omega
      have hx1 := bsnOK_bd (hv.out k hlt)
      go_wp2_with fail
      refine wp_region_below_tail 7 (by kernel_rfl) (by kernel_rfl) ?_
      simp only [List.take_succ_cons, List.take_zero, List.drop_succ_cons, List.drop_zero]
      repeat (go_big_quiet_step ((go_at_call 43; exact Calls.regrown_of (l2Sum_any _ _ _ _ _ (by omega) (by omega) (by omega) (by omega) (by omega) (by omega) (by omega) (by omega)))))
      (refine wpQuiet_nil ?_; intro w1 hwq; have hb1 := of_cls hwq; clear hwq)
      (have hs1 := hb1.size; (try simp at hs1); obtain ⟨hc1, hf1, hn1⟩ := bcell hb1; (try have hz1_wr_0 : wr.heap.size < w1.heap.size := by omega); (try have hz1_wr_1 : wr.heap.size + 1 < w1.heap.size := by omega); (try have hz1_wr_2 : wr.heap.size + 2 < w1.heap.size := by omega); (try have hB1 : b < w1.heap.size := by omega); (try have hB2 : b' < w1.heap.size := by omega); (try have hz1_wr_2b : wr.heap.size + 1 + 1 < w1.heap.size := by omega); (try have hz1_w_0 : w.heap.size < w1.heap.size := by omega); (try have hz1_w_1 : w.heap.size + 1 < w1.heap.size := by omega); (try have hz1_w_2 : w.heap.size + 2 < w1.heap.size := by omega); (try have hz1_w_2b : w.heap.size + 1 + 1 < w1.heap.size := by omega))
      go_wp2_with fail
      have R1 := (((HR1.out).to (show Below wr.heap.size wr w1 from (by repeat' (first | (with_reducible exact Below.refl _ _) | (with_reducible refine Below.alloc ?_ ?_ _) | (with_reducible refine Below.setCell ?_ ?_ _) | (with_reducible refine Below.drew ?_) | (with_reducible refine Below.trans ?_ (Below.mono (by with_reducible assumption) ?_)) | omega | (simp; done) | (simp; omega))))).set (j := 0) (.int .i64 (bsA xs k + (el xs k).a))).set (j := 1) (.int .i64 (bsS xs k + (el xs k).s))
      have R0 := (((HR0.out).to (show Below wr.heap.size wr w1 from (by repeat' (first | (with_reducible exact Below.refl _ _) | (with_reducible refine Below.alloc ?_ ?_ _) | (with_reducible refine Below.setCell ?_ ?_ _) | (with_reducible refine Below.drew ?_) | (with_reducible refine Below.trans ?_ (Below.mono (by with_reducible assumption) ?_)) | omega | (simp; done) | (simp; omega))))).far (p := ⟨w.heap.size + 1, 0, none⟩) (by simp) (.int .i64 (bsA xs k + (el xs k).a))).far (p := ⟨w.heap.size + 1, 1, none⟩) (by simp) (.int .i64 (bsS xs k + (el xs k).s))
      go_roundw
      case rel => exact ⟨k + 1, by omega, by go_num, (by repeat' (first | (with_reducible exact Below.refl _ _) | (with_reducible refine Below.alloc ?_ ?_ _) | (with_reducible refine Below.setCell ?_ ?_ _) | (with_reducible refine Below.drew ?_) | (with_reducible refine Below.trans ?_ (Below.mono (by with_reducible assumption) ?_)) | omega | (simp; done) | (simp; omega))), R0, R1⟩
      case measure => simp [intOf]; omega
    · obtain rfl : k = xs.length := by omega
      go_wp2
      ((try simp only [Exit.inBlock, Exit.then]); refine bodyPost_ret (by simp [results, Try.results37, go_sem, *]; try rfl) rfl ?_)
      exact ⟨rfl, (by repeat' (first | (with_reducible exact Below.refl _ _) | (with_reducible refine Below.alloc ?_ ?_ _) | (with_reducible refine Below.setCell ?_ ?_ _) | (with_reducible refine Below.drew ?_) | (with_reducible refine Below.trans ?_ (Below.mono (by with_reducible assumption) ?_)) | omega | (simp; done) | (simp; omega)))⟩
set_option maxHeartbeats 8000000 in
theorem iSeriesSum_any (A : Option Addr) (c : Nat) (xs : List Bsn) (w : World) (h : Rd w w.heap.size A 3 Bsn.enc xs) (hx : xs.length ≤ 1048576) :
    Calls Try.prog 12 #[.slice A xs.length c] w fun e w' => e = .returned (.tuple #[.agg #[.int .i64 (ssA xs), .int .i64 (ssS xs)], .bool (ssB xs)]) ∧ Below w.heap.size w w' := by
  cases hG : serOK xs
  · have Hno := Lib.hid (show ssB xs = false by simp [ssB, hG])
    go_enter Try.func12, Try.ntmps12
    go_wp2_with fail
    (go_at_call 29; refine (isSeries_any _ _ _ _ (h.to (by repeat' (first | (with_reducible exact Below.refl _ _) | (with_reducible refine Below.alloc ?_ ?_ _) | (with_reducible refine Below.setCell ?_ ?_ _) | (with_reducible refine Below.drew ?_) | (with_reducible refine Below.trans ?_ (Below.mono (by with_reducible assumption) ?_)) | omega | (simp; done) | (simp; omega)))) hx).mono ?_; rintro e w1 ⟨rfl, hb1⟩)
    (have hs1 := hb1.size; (try simp at hs1); obtain ⟨hc1, hf1, hn1⟩ := bcell hb1; (try have hz1_w_0 : w.heap.size < w1.heap.size := by omega); (try have hz1_w_1 : w.heap.size + 1 < w1.heap.size := by omega); (try have hz1_w_2 : w.heap.size + 2 < w1.heap.size := by omega); (try have hz1_w_2b : w.heap.size + 1 + 1 < w1.heap.size := by omega))
    have hr0 : Row w1 w.heap.size 25 [.int .i64 0, .int .i64 0] := (Row.new w 25 #[.int .i64 0, .int .i64 0]).to hb1
    obtain ⟨p0, p1, fp⟩ := hr0.two
    clear hr0
    go_wp2_with fail
    ((try simp only [Exit.inBlock, Exit.then]); refine bodyPost_ret (by simp [results, Try.results12, go_sem, *]; try rfl) rfl ?_)
    exact ⟨ret_xb (by rw [ssA, Hno.out]; rfl) (by rw [ssS, Hno.out]; rfl) Hno.out.symm, (by repeat' (first | (with_reducible exact Below.refl _ _) | (with_reducible refine Below.alloc ?_ ?_ _) | (with_reducible refine Below.setCell ?_ ?_ _) | (with_reducible refine Below.drew ?_) | (with_reducible refine Below.trans ?_ (Below.mono (by with_reducible assumption) ?_)) | omega | (simp; done) | (simp; omega)))⟩
  · have hv := Lib.hid (serOK_bd hG).2
    have hn := (serOK_bd hG).1
    have HG := Lib.hid hG
    go_enter Try.func12, Try.ntmps12
    go_wp2_with fail
    (go_at_call 29; refine (isSeries_any _ _ _ _ (h.to (by repeat' (first | (with_reducible exact Below.refl _ _) | (with_reducible refine Below.alloc ?_ ?_ _) | (with_reducible refine Below.setCell ?_ ?_ _) | (with_reducible refine Below.drew ?_) | (with_reducible refine Below.trans ?_ (Below.mono (by with_reducible assumption) ?_)) | omega | (simp; done) | (simp; omega)))) hx).mono ?_; rintro e w1 ⟨rfl, hb1⟩)
    (have hs1 := hb1.size; (try simp at hs1); obtain ⟨hc1, hf1, hn1⟩ := bcell hb1; (try have hz1_w_0 : w.heap.size < w1.heap.size := by omega); (try have hz1_w_1 : w.heap.size + 1 < w1.heap.size := by omega); (try have hz1_w_2 : w.heap.size + 2 < w1.heap.size := by omega); (try have hz1_w_2b : w.heap.size + 1 + 1 < w1.heap.size := by omega))
    go_wp2_with fail
    have hb0 : Below w.heap.size w (w1.alloc (.cells #[.int .i64 0, .int .i64 0] 25)) := (by repeat' (first | (with_reducible exact Below.refl _ _) | (with_reducible refine Below.alloc ?_ ?_ _) | (with_reducible refine Below.setCell ?_ ?_ _) | (with_reducible refine Below.drew ?_) | (with_reducible refine Below.trans ?_ (Below.mono (by with_reducible assumption) ?_)) | omega | (simp; done) | (simp; omega)))
    have hr0 : Row (w1.alloc (.cells #[.int .i64 0, .int .i64 0] 25)) w.heap.size 25 [.int .i64 0, .int .i64 0] := ((Row.new w 25 #[.int .i64 0, .int .i64 0]).to hb1).alloc _
    have hr1 : Row (w1.alloc (.cells #[.int .i64 0, .int .i64 0] 25)) w1.heap.size 25 [.int .i64 (bsA xs 0), .int .i64 (bsS xs 0)] := Row.new w1 25 #[.int .i64 0, .int .i64 0]
    have hne : w.heap.size ≠ w1.heap.size := by omega
    clear hc1 hf1 hn1
    generalize w1.alloc (.cells #[.int .i64 0, .int .i64 0] 25) = W1 at *
    generalize w1.heap.size = B1 at *
    go_loopw [13] (fun i wr => ∃ k : Nat, k ≤ xs.length ∧ i = .int .i64 k ∧ Below w.heap.size w wr ∧ Row wr w.heap.size 25 [.int .i64 0, .int .i64 0] ∧ Row wr B1 25 [.int .i64 (bsA xs k), .int .i64 (bsS xs k)]) (fun i _ => xs.length - (intOf i).toNat)
    case atStart => exact ⟨0, Nat.zero_le _, rfl, hb0, hr0, hr1⟩
    case round =>
      clear hr0 hr1 hb0
      obtain ⟨k, hk, rfl, hb, hr0, hr1⟩ := hrel
      have hs := hb.size
      have hz0 := hr0.lt
      have hz1 := hr1.lt
      obtain ⟨p0, p1, fp⟩ := hr0.two
      obtain ⟨q0, q1, fq⟩ := hr1.two
      have hsm := bs_bd hv.out k hk
      have HR0 := Lib.hid hr0
      have HR1 := Lib.hid hr1
      clear hr0 hr1
      by_cases hlt : k < xs.length
      · obtain ⟨b, o, rfl, hB, c0, c1, c2⟩ := bsn_cells (h.below hb) hlt
        have hB1 : b < wr.heap.size := by omega
        have hI : (k : Int) < xs.length := by omega
        have hI0 : (0 : Int) ≤ k := by omega
        have hx1 := bsnOK_bd (hv.out k hlt)
        go_wp2_with fail
        (go_at_call 39; refine (plus_any _ _ _ _ _ (by omega) (by omega) (by omega) (by omega) (by omega) (by omega) (by omega) (by omega)).mono ?_; rintro e w1 ⟨rfl, hb1⟩)
        (have hs1 := hb1.size; (try simp at hs1); obtain ⟨hc1, hf1, hn1⟩ := bcell hb1; (try have hz1_wr_0 : wr.heap.size < w1.heap.size := by omega); (try have hz1_wr_1 : wr.heap.size + 1 < w1.heap.size := by omega); (try have hz1_wr_2 : wr.heap.size + 2 < w1.heap.size := by omega); (try have hB1 : b < w1.heap.size := by omega); (try have hB2 : b' < w1.heap.size := by omega); (try have hz1_wr_2b : wr.heap.size + 1 + 1 < w1.heap.size := by omega); (try have hz1_w_0 : w.heap.size < w1.heap.size := by omega); (try have hz1_w_1 : w.heap.size + 1 < w1.heap.size := by omega); (try have hz1_w_2 : w.heap.size + 2 < w1.heap.size := by omega); (try have hz1_w_2b : w.heap.size + 1 + 1 < w1.heap.size := by omega))
        obtain ⟨q0', q1', fq'⟩ := (HR1.out.to (show Below wr.heap.size wr w1 from (by repeat' (first | (with_reducible exact Below.refl _ _) | (with_reducible refine Below.alloc ?_ ?_ _) | (with_reducible refine Below.setCell ?_ ?_ _) | (with_reducible refine Below.drew ?_) | (with_reducible refine Below.trans ?_ (Below.mono (by with_reducible assumption) ?_)) | omega | (simp; done) | (simp; omega))))).two
        go_wp2_with fail
        have R1 := (((HR1.out).to (show Below wr.heap.size wr w1 from (by repeat' (first | (with_reducible exact Below.refl _ _) | (with_reducible refine Below.alloc ?_ ?_ _) | (with_reducible refine Below.setCell ?_ ?_ _) | (with_reducible refine Below.drew ?_) | (with_reducible refine Below.trans ?_ (Below.mono (by with_reducible assumption) ?_)) | omega | (simp; done) | (simp; omega))))).set (j := 0) (.int .i64 (bsA xs k + (el xs k).a))).set (j := 1) (.int .i64 (bsS xs k + (el xs k).s))
        have R0 := (((HR0.out).to (show Below wr.heap.size wr w1 from (by repeat' (first | (with_reducible exact Below.refl _ _) | (with_reducible refine Below.alloc ?_ ?_ _) | (with_reducible refine Below.setCell ?_ ?_ _) | (with_reducible refine Below.drew ?_) | (with_reducible refine Below.trans ?_ (Below.mono (by with_reducible assumption) ?_)) | omega | (simp; done) | (simp; omega))))).far (p := ⟨B1, 0, none⟩) (by simpa using hne) (.int .i64 (bsA xs k + (el xs k).a))).far (p := ⟨B1, 1, none⟩) (by simpa using hne) (.int .i64 (bsS xs k + (el xs k).s))
        go_roundw
        case rel => exact ⟨k + 1, by omega, by go_num, (by repeat' (first | (with_reducible exact Below.refl _ _) | (with_reducible refine Below.alloc ?_ ?_ _) | (with_reducible refine Below.setCell ?_ ?_ _) | (with_reducible refine Below.drew ?_) | (with_reducible refine Below.trans ?_ (Below.mono (by with_reducible assumption) ?_)) | omega | (simp; done) | (simp; omega))), R0, R1⟩
        case measure => simp [intOf]; omega
      · obtain rfl : k = xs.length := by omega
        cases hOK : (inB (bsA xs xs.length) 0 1000000 && inB (bsS xs xs.length) 0 1000000)
        · have Hno := Lib.hid (show ssB xs = false by rw [ssB, hOK, Bool.and_false])
          go_wp2_with fail
          (go_at_call 40; refine (isBrine_any _ _ _).mono ?_; rintro e w1 ⟨rfl, hb1⟩)
          (have hs1 := hb1.size; (try simp at hs1); obtain ⟨hc1, hf1, hn1⟩ := bcell hb1; (try have hz1_wr_0 : wr.heap.size < w1.heap.size := by omega); (try have hz1_wr_1 : wr.heap.size + 1 < w1.heap.size := by omega); (try have hz1_wr_2 : wr.heap.size + 2 < w1.heap.size := by omega); (try have hB1 : b < w1.heap.size := by omega); (try have hB2 : b' < w1.heap.size := by omega); (try have hz1_wr_2b : wr.heap.size + 1 + 1 < w1.heap.size := by omega); (try have hz1_w_0 : w.heap.size < w1.heap.size := by omega); (try have hz1_w_1 : w.heap.size + 1 < w1.heap.size := by omega); (try have hz1_w_2 : w.heap.size + 2 < w1.heap.size := by omega); (try have hz1_w_2b : w.heap.size + 1 + 1 < w1.heap.size := by omega))
          obtain ⟨p0', p1', fp'⟩ := (HR0.out.to (show Below wr.heap.size wr w1 from (by repeat' (first | (with_reducible exact Below.refl _ _) | (with_reducible refine Below.alloc ?_ ?_ _) | (with_reducible refine Below.setCell ?_ ?_ _) | (with_reducible refine Below.drew ?_) | (with_reducible refine Below.trans ?_ (Below.mono (by with_reducible assumption) ?_)) | omega | (simp; done) | (simp; omega))))).two
          go_wp2_with fail
          ((try simp only [Exit.inBlock, Exit.then]); refine bodyPost_ret (by simp [results, Try.results12, go_sem, *]; try rfl) rfl ?_)
          exact ⟨ret_xb (by rw [ssA, Hno.out]; rfl) (by rw [ssS, Hno.out]; rfl) Hno.out.symm, (by repeat' (first | (with_reducible exact Below.refl _ _) | (with_reducible refine Below.alloc ?_ ?_ _) | (with_reducible refine Below.setCell ?_ ?_ _) | (with_reducible refine Below.drew ?_) | (with_reducible refine Below.trans ?_ (Below.mono (by with_reducible assumption) ?_)) | omega | (simp; done) | (simp; omega)))⟩
        · have Hyes := Lib.hid (show ssB xs = true by rw [ssB, hOK, HG.out]; rfl)
          go_wp2_with fail
          (go_at_call 40; refine (isBrine_any _ _ _).mono ?_; rintro e w1 ⟨rfl, hb1⟩)
          (have hs1 := hb1.size; (try simp at hs1); obtain ⟨hc1, hf1, hn1⟩ := bcell hb1; (try have hz1_wr_0 : wr.heap.size < w1.heap.size := by omega); (try have hz1_wr_1 : wr.heap.size + 1 < w1.heap.size := by omega); (try have hz1_wr_2 : wr.heap.size + 2 < w1.heap.size := by omega); (try have hB1 : b < w1.heap.size := by omega); (try have hB2 : b' < w1.heap.size := by omega); (try have hz1_wr_2b : wr.heap.size + 1 + 1 < w1.heap.size := by omega); (try have hz1_w_0 : w.heap.size < w1.heap.size := by omega); (try have hz1_w_1 : w.heap.size + 1 < w1.heap.size := by omega); (try have hz1_w_2 : w.heap.size + 2 < w1.heap.size := by omega); (try have hz1_w_2b : w.heap.size + 1 + 1 < w1.heap.size := by omega))
          obtain ⟨p0', p1', fp'⟩ := (HR0.out.to (show Below wr.heap.size wr w1 from (by repeat' (first | (with_reducible exact Below.refl _ _) | (with_reducible refine Below.alloc ?_ ?_ _) | (with_reducible refine Below.setCell ?_ ?_ _) | (with_reducible refine Below.drew ?_) | (with_reducible refine Below.trans ?_ (Below.mono (by with_reducible assumption) ?_)) | omega | (simp; done) | (simp; omega))))).two
          obtain ⟨q0', q1', fq'⟩ := (HR1.out.to (show Below wr.heap.size wr w1 from (by repeat' (first | (with_reducible exact Below.refl _ _) | (with_reducible refine Below.alloc ?_ ?_ _) | (with_reducible refine Below.setCell ?_ ?_ _) | (with_reducible refine Below.drew ?_) | (with_reducible refine Below.trans ?_ (Below.mono (by with_reducible assumption) ?_)) | omega | (simp; done) | (simp; omega))))).two
          go_wp2_with fail
          ((try simp only [Exit.inBlock, Exit.then]); refine bodyPost_ret (by simp [results, Try.results12, go_sem, *]; try rfl) rfl ?_)
          exact ⟨ret_xb (by rw [ssA, if_pos Hyes.out]) (by rw [ssS, if_pos Hyes.out]) Hyes.out.symm, (by repeat' (first | (with_reducible exact Below.refl _ _) | (with_reducible refine Below.alloc ?_ ?_ _) | (with_reducible refine Below.setCell ?_ ?_ _) | (with_reducible refine Below.drew ?_) | (with_reducible refine Below.trans ?_ (Below.mono (by with_reducible assumption) ?_)) | omega | (simp; done) | (simp; omega)))⟩
set_option maxHeartbeats 8000000 in
theorem sSeriesSum_any (A : Option Addr) (c : Nat) (xs : List Bsn) (w : World) (h : Rd w w.heap.size A 3 Bsn.enc xs) (hx : xs.length ≤ 1048576) :
    Calls Try.prog 10 #[.slice A xs.length c] w fun e w' => e = .returned (.tuple #[.agg #[.int .i64 (ssA xs), .int .i64 (ssS xs)], .bool (ssB xs)]) ∧ Below w.heap.size w w' := by
  cases hG : serOK xs
  · have Hno := Lib.hid (show ssB xs = false by simp [ssB, hG])
    go_enter Try.func10, Try.ntmps10
    go_wp2_with fail
    (go_at_call 35; refine (l8Good_any _ _ _ _ (h.to (by repeat' (first | (with_reducible exact Below.refl _ _) | (with_reducible refine Below.alloc ?_ ?_ _) | (with_reducible refine Below.setCell ?_ ?_ _) | (with_reducible refine Below.drew ?_) | (with_reducible refine Below.trans ?_ (Below.mono (by with_reducible assumption) ?_)) | omega | (simp; done) | (simp; omega)))) hx).mono ?_; rintro e w1 ⟨rfl, hb1⟩)
    (have hs1 := hb1.size; (try simp at hs1); obtain ⟨hc1, hf1, hn1⟩ := bcell hb1; (try have hz1_w_0 : w.heap.size < w1.heap.size := by omega); (try have hz1_w_1 : w.heap.size + 1 < w1.heap.size := by omega); (try have hz1_w_2 : w.heap.size + 2 < w1.heap.size := by omega); (try have hz1_w_2b : w.heap.size + 1 + 1 < w1.heap.size := by omega))
    have hr0 : Row w1 w.heap.size 25 [.int .i64 0, .int .i64 0] := (Row.new w 25 #[.int .i64 0, .int .i64 0]).to hb1
    obtain ⟨p0, p1, fp⟩ := hr0.two
    clear hr0
    go_wp2_with fail
    ((try simp only [Exit.inBlock, Exit.then]); refine bodyPost_ret (by simp [results, Try.results10, go_sem, *]; try rfl) rfl ?_)
    exact ⟨ret_xb (by rw [ssA, Hno.out]; rfl) (by rw [ssS, Hno.out]; rfl) Hno.out.symm, (by repeat' (first | (with_reducible exact Below.refl _ _) | (with_reducible refine Below.alloc ?_ ?_ _) | (with_reducible refine Below.setCell ?_ ?_ _) | (with_reducible refine Below.drew ?_) | (with_reducible refine Below.trans ?_ (Below.mono (by with_reducible assumption) ?_)) | omega | (simp; done) | (simp; omega)))⟩
  · have hv := Lib.hid (serOK_bd hG).2
    have hn := (serOK_bd hG).1
    have HG := Lib.hid hG
    cases hOK : (inB (bsA xs xs.length) 0 1000000 && inB (bsS xs xs.length) 0 1000000)
    · have Hno := Lib.hid (show ssB xs = false by rw [ssB, hOK, Bool.and_false])
      go_enter Try.func10, Try.ntmps10
      go_wp2_with fail
      (go_at_call 35; refine (l8Good_any _ _ _ _ (h.to (by repeat' (first | (with_reducible exact Below.refl _ _) | (with_reducible refine Below.alloc ?_ ?_ _) | (with_reducible refine Below.setCell ?_ ?_ _) | (with_reducible refine Below.drew ?_) | (with_reducible refine Below.trans ?_ (Below.mono (by with_reducible assumption) ?_)) | omega | (simp; done) | (simp; omega)))) hx).mono ?_; rintro e w1 ⟨rfl, hb1⟩)
      (have hs1 := hb1.size; (try simp at hs1); obtain ⟨hc1, hf1, hn1⟩ := bcell hb1; (try have hz1_w_0 : w.heap.size < w1.heap.size := by omega); (try have hz1_w_1 : w.heap.size + 1 < w1.heap.size := by omega); (try have hz1_w_2 : w.heap.size + 2 < w1.heap.size := by omega); (try have hz1_w_2b : w.heap.size + 1 + 1 < w1.heap.size := by omega))
      go_wp2_with fail
      (go_at_call 37; refine (l8Sum_any _ _ _ _ (h.to (by repeat' (first | (with_reducible exact Below.refl _ _) | (with_reducible refine Below.alloc ?_ ?_ _) | (with_reducible refine Below.setCell ?_ ?_ _) | (with_reducible refine Below.drew ?_) | (with_reducible refine Below.trans ?_ (Below.mono (by with_reducible assumption) ?_)) | omega | (simp; done) | (simp; omega)))) (by omega) hv).mono ?_; rintro e w2 ⟨rfl, hb2⟩)
      (have hs2 := hb2.size; (try simp at hs2); obtain ⟨hc2, hf2, hn2⟩ := bcell hb2; (try have hz2_w_0 : w.heap.size < w2.heap.size := by omega); (try have hz2_w_1 : w.heap.size + 1 < w2.heap.size := by omega); (try have hz2_w_2 : w.heap.size + 2 < w2.heap.size := by omega); (try have hz2_w_2b : w.heap.size + 1 + 1 < w2.heap.size := by omega); (try have hz2_w1_0 : w1.heap.size < w2.heap.size := by omega); (try have hz2_w1_1 : w1.heap.size + 1 < w2.heap.size := by omega); (try have hz2_w1_2 : w1.heap.size + 2 < w2.heap.size := by omega); (try have hz2_w1_2b : w1.heap.size + 1 + 1 < w2.heap.size := by omega))
      go_wp2_with fail
      (go_at_call 36; refine (l2Brine_any _ _ _).mono ?_; rintro e w3 ⟨rfl, hb3⟩)
      (have hs3 := hb3.size; (try simp at hs3); obtain ⟨hc3, hf3, hn3⟩ := bcell hb3; (try have hz3_w_0 : w.heap.size < w3.heap.size := by omega); (try have hz3_w_1 : w.heap.size + 1 < w3.heap.size := by omega); (try have hz3_w_2 : w.heap.size + 2 < w3.heap.size := by omega); (try have hz3_w_2b : w.heap.size + 1 + 1 < w3.heap.size := by omega); (try have hz3_w1_0 : w1.heap.size < w3.heap.size := by omega); (try have hz3_w1_1 : w1.heap.size + 1 < w3.heap.size := by omega); (try have hz3_w1_2 : w1.heap.size + 2 < w3.heap.size := by omega); (try have hz3_w1_2b : w1.heap.size + 1 + 1 < w3.heap.size := by omega); (try have hz3_w2_0 : w2.heap.size < w3.heap.size := by omega); (try have hz3_w2_1 : w2.heap.size + 1 < w3.heap.size := by omega); (try have hz3_w2_2 : w2.heap.size + 2 < w3.heap.size := by omega); (try have hz3_w2_2b : w2.heap.size + 1 + 1 < w3.heap.size := by omega))
      have hr0 : Row w3 w.heap.size 25 [.int .i64 0, .int .i64 0] := (Row.new w 25 #[.int .i64 0, .int .i64 0]).to (by repeat' (first | (with_reducible exact Below.refl _ _) | (with_reducible refine Below.alloc ?_ ?_ _) | (with_reducible refine Below.setCell ?_ ?_ _) | (with_reducible refine Below.drew ?_) | (with_reducible refine Below.trans ?_ (Below.mono (by with_reducible assumption) ?_)) | omega | (simp; done) | (simp; omega)))
      obtain ⟨p0, p1, fp⟩ := hr0.two
      clear hr0
      go_wp2_with fail
      ((try simp only [Exit.inBlock, Exit.then]); refine bodyPost_ret (by simp [results, Try.results10, go_sem, *]; try rfl) rfl ?_)
      exact ⟨ret_xb (by rw [ssA, Hno.out]; rfl) (by rw [ssS, Hno.out]; rfl) Hno.out.symm, (by repeat' (first | (with_reducible exact Below.refl _ _) | (with_reducible refine Below.alloc ?_ ?_ _) | (with_reducible refine Below.setCell ?_ ?_ _) | (with_reducible refine Below.drew ?_) | (with_reducible refine Below.trans ?_ (Below.mono (by with_reducible assumption) ?_)) | omega | (simp; done) | (simp; omega)))⟩
    · have Hyes := Lib.hid (show ssB xs = true by rw [ssB, hOK, HG.out]; rfl)
      go_enter Try.func10, Try.ntmps10
      go_wp2_with fail
      (go_at_call 35; refine (l8Good_any _ _ _ _ (h.to (by repeat' (first | (with_reducible exact Below.refl _ _) | (with_reducible refine Below.alloc ?_ ?_ _) | (with_reducible refine Below.setCell ?_ ?_ _) | (with_reducible refine Below.drew ?_) | (with_reducible refine Below.trans ?_ (Below.mono (by with_reducible assumption) ?_)) | omega | (simp; done) | (simp; omega)))) hx).mono ?_; rintro e w1 ⟨rfl, hb1⟩)
      (have hs1 := hb1.size; (try simp at hs1); obtain ⟨hc1, hf1, hn1⟩ := bcell hb1; (try have hz1_w_0 : w.heap.size < w1.heap.size := by omega); (try have hz1_w_1 : w.heap.size + 1 < w1.heap.size := by omega); (try have hz1_w_2 : w.heap.size + 2 < w1.heap.size := by omega); (try have hz1_w_2b : w.heap.size + 1 + 1 < w1.heap.size := by omega))
      go_wp2_with fail
      (go_at_call 37; refine (l8Sum_any _ _ _ _ (h.to (by repeat' (first | (with_reducible exact Below.refl _ _) | (with_reducible refine Below.alloc ?_ ?_ _) | (with_reducible refine Below.setCell ?_ ?_ _) | (with_reducible refine Below.drew ?_) | (with_reducible refine Below.trans ?_ (Below.mono (by with_reducible assumption) ?_)) | omega | (simp; done) | (simp; omega)))) (by omega) hv).mono ?_; rintro e w2 ⟨rfl, hb2⟩)
      (have hs2 := hb2.size; (try simp at hs2); obtain ⟨hc2, hf2, hn2⟩ := bcell hb2; (try have hz2_w_0 : w.heap.size < w2.heap.size := by omega); (try have hz2_w_1 : w.heap.size + 1 < w2.heap.size := by omega); (try have hz2_w_2 : w.heap.size + 2 < w2.heap.size := by omega); (try have hz2_w_2b : w.heap.size + 1 + 1 < w2.heap.size := by omega); (try have hz2_w1_0 : w1.heap.size < w2.heap.size := by omega); (try have hz2_w1_1 : w1.heap.size + 1 < w2.heap.size := by omega); (try have hz2_w1_2 : w1.heap.size + 2 < w2.heap.size := by omega); (try have hz2_w1_2b : w1.heap.size + 1 + 1 < w2.heap.size := by omega))
      go_wp2_with fail
      (go_at_call 36; refine (l2Brine_any _ _ _).mono ?_; rintro e w3 ⟨rfl, hb3⟩)
      (have hs3 := hb3.size; (try simp at hs3); obtain ⟨hc3, hf3, hn3⟩ := bcell hb3; (try have hz3_w_0 : w.heap.size < w3.heap.size := by omega); (try have hz3_w_1 : w.heap.size + 1 < w3.heap.size := by omega); (try have hz3_w_2 : w.heap.size + 2 < w3.heap.size := by omega); (try have hz3_w_2b : w.heap.size + 1 + 1 < w3.heap.size := by omega); (try have hz3_w1_0 : w1.heap.size < w3.heap.size := by omega); (try have hz3_w1_1 : w1.heap.size + 1 < w3.heap.size := by omega); (try have hz3_w1_2 : w1.heap.size + 2 < w3.heap.size := by omega); (try have hz3_w1_2b : w1.heap.size + 1 + 1 < w3.heap.size := by omega); (try have hz3_w2_0 : w2.heap.size < w3.heap.size := by omega); (try have hz3_w2_1 : w2.heap.size + 1 < w3.heap.size := by omega); (try have hz3_w2_2 : w2.heap.size + 2 < w3.heap.size := by omega); (try have hz3_w2_2b : w2.heap.size + 1 + 1 < w3.heap.size := by omega))
      go_wp2_with fail
      (go_at_call 37; refine (l8Sum_any _ _ _ _ (h.to (by repeat' (first | (with_reducible exact Below.refl _ _) | (with_reducible refine Below.alloc ?_ ?_ _) | (with_reducible refine Below.setCell ?_ ?_ _) | (with_reducible refine Below.drew ?_) | (with_reducible refine Below.trans ?_ (Below.mono (by with_reducible assumption) ?_)) | omega | (simp; done) | (simp; omega)))) (by omega) hv).mono ?_; rintro e w4 ⟨rfl, hb4⟩)
      (have hs4 := hb4.size; (try simp at hs4); obtain ⟨hc4, hf4, hn4⟩ := bcell hb4; (try have hz4_w_0 : w.heap.size < w4.heap.size := by omega); (try have hz4_w_1 : w.heap.size + 1 < w4.heap.size := by omega); (try have hz4_w_2 : w.heap.size + 2 < w4.heap.size := by omega); (try have hz4_w_2b : w.heap.size + 1 + 1 < w4.heap.size := by omega); (try have hz4_w1_0 : w1.heap.size < w4.heap.size := by omega); (try have hz4_w1_1 : w1.heap.size + 1 < w4.heap.size := by omega); (try have hz4_w1_2 : w1.heap.size + 2 < w4.heap.size := by omega); (try have hz4_w1_2b : w1.heap.size + 1 + 1 < w4.heap.size := by omega); (try have hz4_w2_0 : w2.heap.size < w4.heap.size := by omega); (try have hz4_w2_1 : w2.heap.size + 1 < w4.heap.size := by omega); (try have hz4_w2_2 : w2.heap.size + 2 < w4.heap.size := by omega); (try have hz4_w2_2b : w2.heap.size + 1 + 1 < w4.heap.size := by omega); (try have hz4_w3_0 : w3.heap.size < w4.heap.size := by omega); (try have hz4_w3_1 : w3.heap.size + 1 < w4.heap.size := by omega); (try have hz4_w3_2 : w3.heap.size + 2 < w4.heap.size := by omega); (try have hz4_w3_2b : w3.heap.size + 1 + 1 < w4.heap.size := by omega))
      have hr0 : Row w4 w.heap.size 25 [.int .i64 0, .int .i64 0] := (Row.new w 25 #[.int .i64 0, .int .i64 0]).to (by repeat' (first | (with_reducible exact Below.refl _ _) | (with_reducible refine Below.alloc ?_ ?_ _) | (with_reducible refine Below.setCell ?_ ?_ _) | (with_reducible refine Below.drew ?_) | (with_reducible refine Below.trans ?_ (Below.mono (by with_reducible assumption) ?_)) | omega | (simp; done) | (simp; omega)))
      obtain ⟨p0, p1, fp⟩ := hr0.two
      clear hr0
      go_wp2_with fail
      ((try simp only [Exit.inBlock, Exit.then]); refine bodyPost_ret (by simp [results, Try.results10, go_sem, *]; try rfl) rfl ?_)
      exact ⟨ret_xb (by rw [ssA, if_pos Hyes.out]) (by rw [ssS, if_pos Hyes.out]) Hyes.out.symm, (by repeat' (first | (with_reducible exact Below.refl _ _) | (with_reducible refine Below.alloc ?_ ?_ _) | (with_reducible refine Below.setCell ?_ ?_ _) | (with_reducible refine Below.drew ?_) | (with_reducible refine Below.trans ?_ (Below.mono (by with_reducible assumption) ?_)) | omega | (simp; done) | (simp; omega)))⟩
set_option maxHeartbeats 4000000 in
theorem FnExactSeriesSum_law (A : Option Addr) (c : Nat) (xs : List Bsn) (w : World) (h : Rd w w.heap.size A 3 Bsn.enc xs) (hm : xs.length ≤ 9223372036854775807) :
    Calls Try.prog 3 #[.slice A xs.length c] w fun e w' => e = .returned (.bool true) ∧ Below w.heap.size w w' := by
  by_cases hx : xs.length ≤ 1048576
  · go_enter Try.func3, Try.ntmps3
    go_wp2_with (first | (go_at_call 9; refine (szBasinS_le _ _ _ _ hx).mono ?_; rintro e wX ⟨rfl, rfl⟩))
    (go_at_call 11; refine (toBasinS_any _ _ _ _ h hx).mono ?_; rintro e w1 ⟨g1, cap1, rfl, hg1, row1, hb1⟩)
    (have hs1 := hb1.size; (try simp at hs1); obtain ⟨hc1, hf1, hn1⟩ := bcell hb1; (try have hz1_w_0 : w.heap.size < w1.heap.size := by omega); (try have hz1_w_1 : w.heap.size + 1 < w1.heap.size := by omega); (try have hz1_w_2 : w.heap.size + 2 < w1.heap.size := by omega); (try have hz1_w_2b : w.heap.size + 1 + 1 < w1.heap.size := by omega))
    go_wp2_with (first | (go_at_call 9; refine (szBasinS_le _ _ _ _ hx).mono ?_; rintro e wX ⟨rfl, rfl⟩))
    (go_at_call 10; refine (sSeriesSum_any _ _ _ _ (row1.rdTo Bsn.enc_len (by repeat' (first | (with_reducible exact Below.refl _ _) | (with_reducible refine Below.alloc ?_ ?_ _) | (with_reducible refine Below.setCell ?_ ?_ _) | (with_reducible refine Below.drew ?_) | (with_reducible refine Below.trans ?_ (Below.mono (by with_reducible assumption) ?_)) | omega | (simp; done) | (simp; omega)))) hx).mono ?_; rintro e w2 ⟨rfl, hb2⟩)
    (have hs2 := hb2.size; (try simp at hs2); obtain ⟨hc2, hf2, hn2⟩ := bcell hb2; (try have hz2_w_0 : w.heap.size < w2.heap.size := by omega); (try have hz2_w_1 : w.heap.size + 1 < w2.heap.size := by omega); (try have hz2_w_2 : w.heap.size + 2 < w2.heap.size := by omega); (try have hz2_w_2b : w.heap.size + 1 + 1 < w2.heap.size := by omega); (try have hz2_w1_0 : w1.heap.size < w2.heap.size := by omega); (try have hz2_w1_1 : w1.heap.size + 1 < w2.heap.size := by omega); (try have hz2_w1_2 : w1.heap.size + 2 < w2.heap.size := by omega); (try have hz2_w1_2b : w1.heap.size + 1 + 1 < w2.heap.size := by omega))
    go_wp2_with (first | (go_at_call 9; refine (szBasinS_le _ _ _ _ hx).mono ?_; rintro e wX ⟨rfl, rfl⟩))
    (go_at_call 11; refine (toBasinS_any _ _ _ _ (h.to (by repeat' (first | (with_reducible exact Below.refl _ _) | (with_reducible refine Below.alloc ?_ ?_ _) | (with_reducible refine Below.setCell ?_ ?_ _) | (with_reducible refine Below.drew ?_) | (with_reducible refine Below.trans ?_ (Below.mono (by with_reducible assumption) ?_)) | omega | (simp; done) | (simp; omega)))) hx).mono ?_; rintro e w3 ⟨g3, cap3, rfl, hg3, row3, hb3⟩)
    (have hs3 := hb3.size; (try simp at hs3); obtain ⟨hc3, hf3, hn3⟩ := bcell hb3; (try have hz3_w_0 : w.heap.size < w3.heap.size := by omega); (try have hz3_w_1 : w.heap.size + 1 < w3.heap.size := by omega); (try have hz3_w_2 : w.heap.size + 2 < w3.heap.size := by omega); (try have hz3_w_2b : w.heap.size + 1 + 1 < w3.heap.size := by omega); (try have hz3_w1_0 : w1.heap.size < w3.heap.size := by omega); (try have hz3_w1_1 : w1.heap.size + 1 < w3.heap.size := by omega); (try have hz3_w1_2 : w1.heap.size + 2 < w3.heap.size := by omega); (try have hz3_w1_2b : w1.heap.size + 1 + 1 < w3.heap.size := by omega); (try have hz3_w2_0 : w2.heap.size < w3.heap.size := by omega); (try have hz3_w2_1 : w2.heap.size + 1 < w3.heap.size := by omega); (try have hz3_w2_2 : w2.heap.size + 2 < w3.heap.size := by omega); (try have hz3_w2_2b : w2.heap.size + 1 + 1 < w3.heap.size := by omega))
    go_wp2_with (first | (go_at_call 9; refine (szBasinS_le _ _ _ _ hx).mono ?_; rintro e wX ⟨rfl, rfl⟩))
    (go_at_call 12; refine (iSeriesSum_any _ _ _ _ (row3.rdTo Bsn.enc_len (by repeat' (first | (with_reducible exact Below.refl _ _) | (with_reducible refine Below.alloc ?_ ?_ _) | (with_reducible refine Below.setCell ?_ ?_ _) | (with_reducible refine Below.drew ?_) | (with_reducible refine Below.trans ?_ (Below.mono (by with_reducible assumption) ?_)) | omega | (simp; done) | (simp; omega)))) hx).mono ?_; rintro e w4 ⟨rfl, hb4⟩)
    (have hs4 := hb4.size; (try simp at hs4); obtain ⟨hc4, hf4, hn4⟩ := bcell hb4; (try have hz4_w_0 : w.heap.size < w4.heap.size := by omega); (try have hz4_w_1 : w.heap.size + 1 < w4.heap.size := by omega); (try have hz4_w_2 : w.heap.size + 2 < w4.heap.size := by omega); (try have hz4_w_2b : w.heap.size + 1 + 1 < w4.heap.size := by omega); (try have hz4_w1_0 : w1.heap.size < w4.heap.size := by omega); (try have hz4_w1_1 : w1.heap.size + 1 < w4.heap.size := by omega); (try have hz4_w1_2 : w1.heap.size + 2 < w4.heap.size := by omega); (try have hz4_w1_2b : w1.heap.size + 1 + 1 < w4.heap.size := by omega); (try have hz4_w2_0 : w2.heap.size < w4.heap.size := by omega); (try have hz4_w2_1 : w2.heap.size + 1 < w4.heap.size := by omega); (try have hz4_w2_2 : w2.heap.size + 2 < w4.heap.size := by omega); (try have hz4_w2_2b : w2.heap.size + 1 + 1 < w4.heap.size := by omega); (try have hz4_w3_0 : w3.heap.size < w4.heap.size := by omega); (try have hz4_w3_1 : w3.heap.size + 1 < w4.heap.size := by omega); (try have hz4_w3_2 : w3.heap.size + 2 < w4.heap.size := by omega); (try have hz4_w3_2b : w3.heap.size + 1 + 1 < w4.heap.size := by omega))
    go_wp2_with (first | (go_at_call 9; refine (szBasinS_le _ _ _ _ hx).mono ?_; rintro e wX ⟨rfl, rfl⟩))
    (go_at_call 13; refine (eqBrine_same _ _ _).mono ?_; rintro e w5 ⟨rfl, hb5⟩)
    (have hs5 := hb5.size; (try simp at hs5); obtain ⟨hc5, hf5, hn5⟩ := bcell hb5; (try have hz5_w_0 : w.heap.size < w5.heap.size := by omega); (try have hz5_w_1 : w.heap.size + 1 < w5.heap.size := by omega); (try have hz5_w_2 : w.heap.size + 2 < w5.heap.size := by omega); (try have hz5_w_2b : w.heap.size + 1 + 1 < w5.heap.size := by omega); (try have hz5_w1_0 : w1.heap.size < w5.heap.size := by omega); (try have hz5_w1_1 : w1.heap.size + 1 < w5.heap.size := by omega); (try have hz5_w1_2 : w1.heap.size + 2 < w5.heap.size := by omega); (try have hz5_w1_2b : w1.heap.size + 1 + 1 < w5.heap.size := by omega); (try have hz5_w2_0 : w2.heap.size < w5.heap.size := by omega); (try have hz5_w2_1 : w2.heap.size + 1 < w5.heap.size := by omega); (try have hz5_w2_2 : w2.heap.size + 2 < w5.heap.size := by omega); (try have hz5_w2_2b : w2.heap.size + 1 + 1 < w5.heap.size := by omega); (try have hz5_w3_0 : w3.heap.size < w5.heap.size := by omega); (try have hz5_w3_1 : w3.heap.size + 1 < w5.heap.size := by omega); (try have hz5_w3_2 : w3.heap.size + 2 < w5.heap.size := by omega); (try have hz5_w3_2b : w3.heap.size + 1 + 1 < w5.heap.size := by omega); (try have hz5_w4_0 : w4.heap.size < w5.heap.size := by omega); (try have hz5_w4_1 : w4.heap.size + 1 < w5.heap.size := by omega); (try have hz5_w4_2 : w4.heap.size + 2 < w5.heap.size := by omega); (try have hz5_w4_2b : w4.heap.size + 1 + 1 < w5.heap.size := by omega))
    go_wp2_with (first | (go_at_call 9; refine (szBasinS_le _ _ _ _ hx).mono ?_; rintro e wX ⟨rfl, rfl⟩))
    (go_at_call 11; refine (toBasinS_any _ _ _ _ (h.to (by repeat' (first | (with_reducible exact Below.refl _ _) | (with_reducible refine Below.alloc ?_ ?_ _) | (with_reducible refine Below.setCell ?_ ?_ _) | (with_reducible refine Below.drew ?_) | (with_reducible refine Below.trans ?_ (Below.mono (by with_reducible assumption) ?_)) | omega | (simp; done) | (simp; omega)))) hx).mono ?_; rintro e w6 ⟨g6, cap6, rfl, hg6, row6, hb6⟩)
    (have hs6 := hb6.size; (try simp at hs6); obtain ⟨hc6, hf6, hn6⟩ := bcell hb6; (try have hz6_w_0 : w.heap.size < w6.heap.size := by omega); (try have hz6_w_1 : w.heap.size + 1 < w6.heap.size := by omega); (try have hz6_w_2 : w.heap.size + 2 < w6.heap.size := by omega); (try have hz6_w_2b : w.heap.size + 1 + 1 < w6.heap.size := by omega); (try have hz6_w1_0 : w1.heap.size < w6.heap.size := by omega); (try have hz6_w1_1 : w1.heap.size + 1 < w6.heap.size := by omega); (try have hz6_w1_2 : w1.heap.size + 2 < w6.heap.size := by omega); (try have hz6_w1_2b : w1.heap.size + 1 + 1 < w6.heap.size := by omega); (try have hz6_w2_0 : w2.heap.size < w6.heap.size := by omega); (try have hz6_w2_1 : w2.heap.size + 1 < w6.heap.size := by omega); (try have hz6_w2_2 : w2.heap.size + 2 < w6.heap.size := by omega); (try have hz6_w2_2b : w2.heap.size + 1 + 1 < w6.heap.size := by omega); (try have hz6_w3_0 : w3.heap.size < w6.heap.size := by omega); (try have hz6_w3_1 : w3.heap.size + 1 < w6.heap.size := by omega); (try have hz6_w3_2 : w3.heap.size + 2 < w6.heap.size := by omega); (try have hz6_w3_2b : w3.heap.size + 1 + 1 < w6.heap.size := by omega); (try have hz6_w4_0 : w4.heap.size < w6.heap.size := by omega); (try have hz6_w4_1 : w4.heap.size + 1 < w6.heap.size := by omega); (try have hz6_w4_2 : w4.heap.size + 2 < w6.heap.size := by omega); (try have hz6_w4_2b : w4.heap.size + 1 + 1 < w6.heap.size := by omega); (try have hz6_w5_0 : w5.heap.size < w6.heap.size := by omega); (try have hz6_w5_1 : w5.heap.size + 1 < w6.heap.size := by omega); (try have hz6_w5_2 : w5.heap.size + 2 < w6.heap.size := by omega); (try have hz6_w5_2b : w5.heap.size + 1 + 1 < w6.heap.size := by omega))
    go_wp2_with (first | (go_at_call 9; refine (szBasinS_le _ _ _ _ hx).mono ?_; rintro e wX ⟨rfl, rfl⟩))
    (go_at_call 14; refine (eqBasinS_same _ _ _ _ _ _ (row3.rdTo Bsn.enc_len (by repeat' (first | (with_reducible exact Below.refl _ _) | (with_reducible refine Below.alloc ?_ ?_ _) | (with_reducible refine Below.setCell ?_ ?_ _) | (with_reducible refine Below.drew ?_) | (with_reducible refine Below.trans ?_ (Below.mono (by with_reducible assumption) ?_)) | omega | (simp; done) | (simp; omega)))) (row6.rdTo Bsn.enc_len (by repeat' (first | (with_reducible exact Below.refl _ _) | (with_reducible refine Below.alloc ?_ ?_ _) | (with_reducible refine Below.setCell ?_ ?_ _) | (with_reducible refine Below.drew ?_) | (with_reducible refine Below.trans ?_ (Below.mono (by with_reducible assumption) ?_)) | omega | (simp; done) | (simp; omega)))) hx).mono ?_; rintro e w7 ⟨rfl, hb7⟩)
    (have hs7 := hb7.size; (try simp at hs7); obtain ⟨hc7, hf7, hn7⟩ := bcell hb7; (try have hz7_w_0 : w.heap.size < w7.heap.size := by omega); (try have hz7_w_1 : w.heap.size + 1 < w7.heap.size := by omega); (try have hz7_w_2 : w.heap.size + 2 < w7.heap.size := by omega); (try have hz7_w_2b : w.heap.size + 1 + 1 < w7.heap.size := by omega); (try have hz7_w1_0 : w1.heap.size < w7.heap.size := by omega); (try have hz7_w1_1 : w1.heap.size + 1 < w7.heap.size := by omega); (try have hz7_w1_2 : w1.heap.size + 2 < w7.heap.size := by omega); (try have hz7_w1_2b : w1.heap.size + 1 + 1 < w7.heap.size := by omega); (try have hz7_w2_0 : w2.heap.size < w7.heap.size := by omega); (try have hz7_w2_1 : w2.heap.size + 1 < w7.heap.size := by omega); (try have hz7_w2_2 : w2.heap.size + 2 < w7.heap.size := by omega); (try have hz7_w2_2b : w2.heap.size + 1 + 1 < w7.heap.size := by omega); (try have hz7_w3_0 : w3.heap.size < w7.heap.size := by omega); (try have hz7_w3_1 : w3.heap.size + 1 < w7.heap.size := by omega); (try have hz7_w3_2 : w3.heap.size + 2 < w7.heap.size := by omega); (try have hz7_w3_2b : w3.heap.size + 1 + 1 < w7.heap.size := by omega); (try have hz7_w4_0 : w4.heap.size < w7.heap.size := by omega); (try have hz7_w4_1 : w4.heap.size + 1 < w7.heap.size := by omega); (try have hz7_w4_2 : w4.heap.size + 2 < w7.heap.size := by omega); (try have hz7_w4_2b : w4.heap.size + 1 + 1 < w7.heap.size := by omega); (try have hz7_w5_0 : w5.heap.size < w7.heap.size := by omega); (try have hz7_w5_1 : w5.heap.size + 1 < w7.heap.size := by omega); (try have hz7_w5_2 : w5.heap.size + 2 < w7.heap.size := by omega); (try have hz7_w5_2b : w5.heap.size + 1 + 1 < w7.heap.size := by omega); (try have hz7_w6_0 : w6.heap.size < w7.heap.size := by omega); (try have hz7_w6_1 : w6.heap.size + 1 < w7.heap.size := by omega); (try have hz7_w6_2 : w6.heap.size + 2 < w7.heap.size := by omega); (try have hz7_w6_2b : w6.heap.size + 1 + 1 < w7.heap.size := by omega))
    go_wp2_with (first | (go_at_call 9; refine (szBasinS_le _ _ _ _ hx).mono ?_; rintro e wX ⟨rfl, rfl⟩))
    go_ret
    exact ⟨rfl, (by repeat' (first | (with_reducible exact Below.refl _ _) | (with_reducible refine Below.alloc ?_ ?_ _) | (with_reducible refine Below.setCell ?_ ?_ _) | (with_reducible refine Below.drew ?_) | (with_reducible refine Below.trans ?_ (Below.mono (by with_reducible assumption) ?_)) | omega | (simp; done) | (simp; omega)))⟩
  · have hx' : 1048576 < xs.length := by omega
    go_enter Try.func3, Try.ntmps3
    go_wp2_with (first | (go_at_call 9; refine (szBasinS_gt _ _ _ _ hm hx').mono ?_; rintro e wX ⟨rfl, rfl⟩))
    go_ret
    exact ⟨rfl, (by repeat' (first | (with_reducible exact Below.refl _ _) | (with_reducible refine Below.alloc ?_ ?_ _) | (with_reducible refine Below.setCell ?_ ?_ _) | (with_reducible refine Below.drew ?_) | (with_reducible refine Below.trans ?_ (Below.mono (by with_reducible assumption) ?_)) | omega | (simp; done) | (simp; omega)))⟩
end Go.Proofs.Ytocaodoagiokjaa
