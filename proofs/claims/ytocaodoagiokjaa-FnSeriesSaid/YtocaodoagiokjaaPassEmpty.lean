/- Contracts: after how many passes a series is empty (chapter 8). -/
import Derived.Test.YtocaodoagiokjaaPassRunS
set_option linter.unusedSimpArgs false
set_option linter.unusedVariables false
namespace Go.Proofs.Ytocaodoagiokjaa
open Go.RowKit Go.Sort Go.Salt
attribute [local go_sem] cell_rg
attribute [local go_sem ↓] run_max_mx run_min_mn
/-- A part lies between nothing and all. -/
theorem pt_in {a s m : Int} (h1 : 0 ≤ a) (h3 : 0 ≤ s) (h5 : 0 ≤ m) (h6 : m ≤ a + s) : 0 ≤ ptS a s m ∧ ptS a s m ≤ s ∧ 0 ≤ ptA a s m ∧ ptA a s m ≤ a := by
  unfold ptS ptA
  by_cases hm : m = 0
  · simp only [if_pos hm]; omega
  · simp only [if_neg hm]
    have hp : 0 < a + s := by omega
    have h7 : 0 ≤ s * m := Int.mul_nonneg h3 h5
    have h8 : 0 ≤ s * m / (a + s) := Int.ediv_nonneg h7 (by omega)
    have h9 : s * m / (a + s) ≤ m := by
      apply Int.ediv_le_of_le_mul hp
      rw [Int.mul_comm s m]
      exact Int.mul_le_mul_of_nonneg_left (by omega) h5
    have h10 : s * m / (a + s) ≤ s := by
      apply Int.ediv_le_of_le_mul hp
      exact Int.mul_le_mul_of_nonneg_left h6 h3
    have h11 : m - a ≤ s * m / (a + s) := by
      apply Int.le_ediv_of_mul_le hp
      have e : s * m - (m - a) * (a + s) = a * (a + s - m) := by
        rw [Int.sub_mul, Int.mul_add, Int.mul_add, Int.mul_sub, Int.mul_add, Int.mul_comm m a, Int.mul_comm m s]; omega
      have : 0 ≤ a * (a + s - m) := Int.mul_nonneg h1 (by omega)
      omega
    omega
theorem p_in {xs : List Bsn} {n : Int} {i : Nat} (h : bsnOK (el xs i).r (el xs i).a (el xs i).s = true) (hn : 1 ≤ n) : 0 ≤ pS xs n i ∧ pS xs n i ≤ 1000000 ∧ 0 ≤ pA xs n i ∧ pA xs n i ≤ 1000000 := by
  have h1 := bsnOK_bd h
  have h2 := mn_bd hn h1.2.1.1 h1.2.2.1
  have h3 := pt_in h1.2.1.1 h1.2.2.1 h2.1 h2.2
  unfold pS pA
  omega
theorem psB_zero {xs : List Bsn} {n : Int} (h : serOK xs = true) (hn : 1 ≤ n) : psB xs n 0 0 = serOK (psL xs n 0) := by
  have h1 := serOK_bd h
  have h2 := p_in (h1.2 (xs.length - 1) (by omega)) hn
  have e1 : inB (panA xs n 0 0) 0 1000000 = true := inB_iff.2 (by rw [panA, if_neg (by omega)]; omega)
  have e2 : inB (panS xs n 0 0) 0 1000000 = true := inB_iff.2 (by rw [panS, if_neg (by omega)]; omega)
  rw [psB, e1, e2]; simp
/-- Is there a brine left? -/
def msAt (xs : List Bsn) (k : Nat) : Bool := decide (0 < (el xs k).a + (el xs k).s)
def msAny (xs : List Bsn) : Bool := (List.range xs.length).any (msAt xs)
theorem msAny_yes {xs : List Bsn} {k : Nat} (hk : k < xs.length) (h : msAt xs k = true) : msAny xs = true := List.any_eq_true.2 ⟨k, List.mem_range.2 hk, h⟩
theorem msAny_no {xs : List Bsn} (h : ∀ k, k < xs.length → msAt xs k = false) : msAny xs = false := by
  cases hq : msAny xs
  · rfl
  · obtain ⟨k, hk, h2⟩ := List.any_eq_true.1 hq
    rw [h k (List.mem_range.1 hk)] at h2; cases h2
theorem ms_sum {xs : List Bsn} (hv : ∀ k, k < xs.length → bsnOK (el xs k).r (el xs k).a (el xs k).s = true) : ∀ k, k ≤ xs.length → (bsA xs k + bsS xs k = 0 ↔ ∀ j, j < k → msAt xs j = false)
  | 0, _ => by simp [bsA, bsS]
  | k + 1, h => by
    have h1 := ms_sum hv k (by omega)
    have h2 := bsnOK_bd (hv k (by omega))
    have h3 := bs_bd hv k (by omega)
    unfold bsA bsS
    constructor
    · intro h4 j hj
      by_cases e : j = k
      · subst e; simp [msAt]; omega
      · exact h1.1 (by omega) j (by omega)
    · intro h4
      have h5 := h1.2 fun j hj => h4 j (by omega)
      have h6 := h4 k (by omega)
      simp [msAt] at h6
      omega
theorem ms_zero {xs : List Bsn} (hv : ∀ k, k < xs.length → bsnOK (el xs k).r (el xs k).a (el xs k).s = true) : (bsA xs xs.length + bsS xs xs.length == 0) = !msAny xs := by
  have h1 := ms_sum hv xs.length (Nat.le_refl _)
  cases hm : msAny xs
  · have : ∀ j, j < xs.length → msAt xs j = false := fun j hj => by
      cases hq : msAt xs j
      · rfl
      · rw [msAny_yes hj hq] at hm; cases hm
    simpa using h1.2 this
  · simp only [Bool.not_true, beq_eq_false_iff_ne, ne_eq]
    intro h2
    rw [msAny_no (h1.1 h2)] at hm; cases hm
def peRun (n : Int) : Nat → List Bsn → Int → Int × Bool
  | 0, _, _ => (0, false)
  | f + 1, xs, k => if msAny xs = true then (if serOK (psL xs n 0) = true then peRun n f (psL xs n 0) (k + 1) else (0, false)) else (k, true)
def peR (xs : List Bsn) (n : Int) : Int × Bool := if (serOK xs && decide (1 ≤ n)) = true then peRun n 1001 xs 0 else (0, false)
/-- The same, asked at the head. -/
def peH (n : Int) (f : Nat) (xs : List Bsn) (k : Int) : Int × Bool := if serOK xs = true then peRun n f xs k else (0, false)
theorem peH_no {n : Int} {f : Nat} {xs : List Bsn} {k : Int} (h : serOK xs = false) : peH n f xs k = (0, false) := by simp [peH, h]
theorem peH_end {n : Int} {xs : List Bsn} {k : Int} : peH n 0 xs k = (0, false) := by unfold peH peRun; split <;> rfl
theorem peH_stop {n : Int} {f m : Nat} {xs : List Bsn} {k : Int} (hf : m < f) (h : serOK xs = true) (h2 : msAny xs = false) : peH n (f - m) xs k = (k, true) := by
  rw [show f - m = (f - (m + 1)) + 1 by omega, peH, if_pos h, peRun, if_neg (by rw [h2]; exact Bool.false_ne_true)]
theorem peH_next {n : Int} {f m : Nat} {xs : List Bsn} {k : Int} (hf : m < f) (h : serOK xs = true) (h2 : msAny xs = true) : peH n (f - m) xs k = peH n (f - (m + 1)) (psL xs n 0) (k + 1) := by
  rw [show f - m = (f - (m + 1)) + 1 by omega, peH, if_pos h, peRun, if_pos h2]; rfl
theorem peR_no {xs : List Bsn} {n : Int} (h : (serOK xs && decide (1 ≤ n)) = false) : peR xs n = (0, false) := by simp [peR, h]
theorem peR_run {xs : List Bsn} {n : Int} (h : serOK xs = true) (h2 : 1 ≤ n) : peR xs n = peH n 1001 xs 0 := by simp [peR, peH, h, h2]
theorem ret_pe {xs : List Bsn} {n z : Int} {b : Bool} (h : peR xs n = (z, b)) : Ending.returned (.tuple #[.int .i64 z, .bool b]) = .returned (.tuple #[.int .i64 (peR xs n).1, .bool (peR xs n).2]) := by rw [h]
set_option maxHeartbeats 4000000 in
theorem msFn_any (r a s : Int) (w : World) (h : bsnOK r a s = true) :
    Calls Try.prog 48 #[.agg #[.int .i64 r, .int .i64 a, .int .i64 s]] w fun e w' => e = .returned (.bool (decide (0 < a + s))) ∧ Below w.heap.size w w' := by
  have hb := bsnOK_bd h
  clear h
  go_enter Try.func48, Try.ntmps48
  go_wp2_with fail
  (go_at_call 49; refine (mass_any _ _ _ (by omega) (by omega) (by omega) (by omega)).mono ?_; rintro e w1 ⟨rfl, hb1⟩)
  (have hs1 := hb1.size; (try simp at hs1); obtain ⟨hc1, hf1, hn1⟩ := bcell hb1; (try have hz1_w_0 : w.heap.size < w1.heap.size := by omega); (try have hz1_w_1 : w.heap.size + 1 < w1.heap.size := by omega); (try have hz1_w_2 : w.heap.size + 2 < w1.heap.size := by omega); (try have hz1_w_2b : w.heap.size + 1 + 1 < w1.heap.size := by omega))
  go_wp2_with fail
  go_ret
  exact ⟨rfl, (by repeat' (first | (with_reducible exact Below.refl _ _) | (with_reducible refine Below.alloc ?_ ?_ _) | (with_reducible refine Below.setCell ?_ ?_ _) | (with_reducible refine Below.drew ?_) | (with_reducible refine Below.trans ?_ (Below.mono (by with_reducible assumption) ?_)) | omega | (simp; done) | (simp; omega)))⟩
set_option maxHeartbeats 4000000 in
theorem msIndex_any (A : Option Addr) (c : Nat) (xs : List Bsn) (w : World) (h : Rd w w.heap.size A 3 Bsn.enc xs) (hx : xs.length ≤ 1048576) (hv : Hid (∀ k, k < xs.length → bsnOK (el xs k).r (el xs k).a (el xs k).s = true)) :
    Calls Try.prog 63 #[.slice A xs.length c, .func (.func 48) #[] #[]] w fun e w' => (∃ z : Int, e = .returned (.int .i64 z) ∧ decide (0 ≤ z) = msAny xs) ∧ Below w.heap.size w w' := by
  have eg := enters_of Try.func48 (by kernel_rfl) rfl
  go_enter Try.func63, Try.ntmps63
  go_wp2
  go_loopw [8] (fun i wr => ∃ k : Nat, k ≤ xs.length ∧ i = .int .i64 k ∧ Below w.heap.size w wr ∧ Hid (∀ j, j < k → msAt xs j = false)) (fun i _ => xs.length - (intOf i).toNat)
  case atStart => exact ⟨0, Nat.zero_le _, rfl, Below.refl _ _, fun i hi => by omega⟩
  case round =>
    obtain ⟨k, hk, rfl, hb, Hall⟩ := hrel
    by_cases hlt : k < xs.length
    · obtain ⟨b, o, rfl, hB2, c0, c1, c2⟩ := bsn_cells (h.below hb) hlt
      have hs := hb.size
      have hB1 : b < wr.heap.size := by omega
      have hI : (k : Int) < xs.length := by omega
      have hI0 : (0 : Int) ≤ k := by omega
      have hcall := msFn_any (el xs k).r (el xs k).a (el xs k).s wr (hv.out k hlt)
      cases hq : msAt xs k
      · have hq' := hq
        unfold msAt at hq'
        rw [hq'] at hcall
        clear hq'
        have Hq := Lib.hid hq
        clear hq
        go_wp2_with fail
        refine hcall.mono ?_
        rintro e w1 ⟨rfl, hb1⟩
        have hs1 := hb1.size
        go_wp2
        go_roundw
        case rel => exact ⟨k + 1, by omega, by go_num, (by repeat' (first | (with_reducible exact Below.refl _ _) | (with_reducible refine Below.alloc ?_ ?_ _) | (with_reducible refine Below.setCell ?_ ?_ _) | (with_reducible refine Below.drew ?_) | (with_reducible refine Below.trans ?_ (Below.mono (by with_reducible assumption) ?_)) | omega | (simp; done) | (simp; omega))), fun j hj => by
          by_cases e : j = k
          · subst e; exact Hq.out
          · exact Hall.out j (by omega)⟩
        case measure => simp [intOf]; omega
      · have hq' := hq
        unfold msAt at hq'
        rw [hq'] at hcall
        clear hq'
        have Hq := Lib.hid (msAny_yes hlt hq)
        clear hq
        go_wp2_with fail
        refine hcall.mono ?_
        rintro e w1 ⟨rfl, hb1⟩
        have hs1 := hb1.size
        go_wp2
        go_ret
        exact ⟨⟨_, rfl, by rw [Hq.out]; simp⟩, (by repeat' (first | (with_reducible exact Below.refl _ _) | (with_reducible refine Below.alloc ?_ ?_ _) | (with_reducible refine Below.setCell ?_ ?_ _) | (with_reducible refine Below.drew ?_) | (with_reducible refine Below.trans ?_ (Below.mono (by with_reducible assumption) ?_)) | omega | (simp; done) | (simp; omega)))⟩
    · obtain rfl : k = xs.length := by omega
      go_wp2
      go_ret
      exact ⟨⟨_, rfl, by rw [msAny_no Hall.out]; rfl⟩, hb⟩
set_option maxHeartbeats 4000000 in
theorem msContains_any (A : Option Addr) (c : Nat) (xs : List Bsn) (w : World) (h : Rd w w.heap.size A 3 Bsn.enc xs) (hx : xs.length ≤ 1048576) (hv : Hid (∀ k, k < xs.length → bsnOK (el xs k).r (el xs k).a (el xs k).s = true)) :
    Calls Try.prog 47 #[.slice A xs.length c, .func (.func 48) #[] #[]] w fun e w' => e = .returned (.bool (msAny xs)) ∧ Below w.heap.size w w' := by
  have hcall := msIndex_any A c xs w h hx hv
  go_enter Try.func47, Try.ntmps47
  go_wp2_with fail
  refine hcall.mono ?_
  rintro e w1 ⟨⟨z, rfl, hz⟩, hb1⟩
  go_wp2
  go_ret
  exact ⟨by first | rfl | exact ret_bool hz, (by repeat' (first | (with_reducible exact Below.refl _ _) | (with_reducible refine Below.alloc ?_ ?_ _) | (with_reducible refine Below.setCell ?_ ?_ _) | (with_reducible refine Below.drew ?_) | (with_reducible refine Below.trans ?_ (Below.mono (by with_reducible assumption) ?_)) | omega | (simp; done) | (simp; omega)))⟩
set_option maxRecDepth 100000 in
set_option maxHeartbeats 4000000 in
theorem iPassesToEmpty_any (ad : Addr) (c : Nat) (xs : List Bsn) (n : Int) (w : World) (h : Rd w w.heap.size (some ad) 3 Bsn.enc xs) (hx : xs.length ≤ 1048576) :
    Calls Try.prog 21 #[.slice (some ad) xs.length c, .int .i64 n] w fun e w' => e = .returned (.tuple #[.int .i64 (peR xs n).1, .bool (peR xs n).2]) ∧ Below w.heap.size w w' := by
  cases hG : serOK xs
  · have Hno := Lib.hid (peR_no (show (serOK xs && decide (1 ≤ n)) = false by rw [hG]; rfl))
    go_enter Try.func21, Try.ntmps21
    go_wp2_with fail
    (go_at_call 29; refine (isSeries_any _ _ _ _ (h.to (by repeat' (first | (with_reducible exact Below.refl _ _) | (with_reducible refine Below.alloc ?_ ?_ _) | (with_reducible refine Below.setCell ?_ ?_ _) | (with_reducible refine Below.drew ?_) | (with_reducible refine Below.trans ?_ (Below.mono (by with_reducible assumption) ?_)) | omega | (simp; done) | (simp; omega)))) hx).mono ?_; rintro e w1 ⟨rfl, hb1⟩)
    (have hs1 := hb1.size; (try simp at hs1); obtain ⟨hc1, hf1, hn1⟩ := bcell hb1; (try have hz1_w_0 : w.heap.size < w1.heap.size := by omega); (try have hz1_w_1 : w.heap.size + 1 < w1.heap.size := by omega); (try have hz1_w_2 : w.heap.size + 2 < w1.heap.size := by omega); (try have hz1_w_2b : w.heap.size + 1 + 1 < w1.heap.size := by omega))
    go_wp2_with fail
    go_ret2
    exact ⟨ret_pe Hno.out, (by repeat' (first | (with_reducible exact Below.refl _ _) | (with_reducible refine Below.alloc ?_ ?_ _) | (with_reducible refine Below.setCell ?_ ?_ _) | (with_reducible refine Below.drew ?_) | (with_reducible refine Below.trans ?_ (Below.mono (by with_reducible assumption) ?_)) | omega | (simp; done) | (simp; omega)))⟩
  · by_cases hN : 1 ≤ n
    · have hn := (serOK_bd hG).1
      have Hrun := Lib.hid (peR_run hG hN)
      go_enter Try.func21, Try.ntmps21
      go_wp2_with fail
      (go_at_call 29; refine (isSeries_any _ _ _ _ (h.to (by repeat' (first | (with_reducible exact Below.refl _ _) | (with_reducible refine Below.alloc ?_ ?_ _) | (with_reducible refine Below.setCell ?_ ?_ _) | (with_reducible refine Below.drew ?_) | (with_reducible refine Below.trans ?_ (Below.mono (by with_reducible assumption) ?_)) | omega | (simp; done) | (simp; omega)))) hx).mono ?_; rintro e w1 ⟨rfl, hb1⟩)
      (have hs1 := hb1.size; (try simp at hs1); obtain ⟨hc1, hf1, hn1⟩ := bcell hb1; (try have hz1_w_0 : w.heap.size < w1.heap.size := by omega); (try have hz1_w_1 : w.heap.size + 1 < w1.heap.size := by omega); (try have hz1_w_2 : w.heap.size + 2 < w1.heap.size := by omega); (try have hz1_w_2b : w.heap.size + 1 + 1 < w1.heap.size := by omega))
      go_wp2_with fail
      (go_at_call 44; refine (cloneBsn_own ad c xs _ (h.to (by repeat' (first | (with_reducible exact Below.refl _ _) | (with_reducible refine Below.alloc ?_ ?_ _) | (with_reducible refine Below.setCell ?_ ?_ _) | (with_reducible refine Below.drew ?_) | (with_reducible refine Below.trans ?_ (Below.mono (by with_reducible assumption) ?_)) | omega | (simp; done) | (simp; omega)))) (by omega)).mono ?_; rintro e w2 ⟨v2, rfl, own2, hb2⟩)
      (have hs2 := hb2.size; (try simp at hs2); obtain ⟨hc2, hf2, hn2⟩ := bcell hb2; (try have hz2_w_0 : w.heap.size < w2.heap.size := by omega); (try have hz2_w_1 : w.heap.size + 1 < w2.heap.size := by omega); (try have hz2_w_2 : w.heap.size + 2 < w2.heap.size := by omega); (try have hz2_w_2b : w.heap.size + 1 + 1 < w2.heap.size := by omega); (try have hz2_w1_0 : w1.heap.size < w2.heap.size := by omega); (try have hz2_w1_1 : w1.heap.size + 1 < w2.heap.size := by omega); (try have hz2_w1_2 : w1.heap.size + 2 < w2.heap.size := by omega); (try have hz2_w1_2b : w1.heap.size + 1 + 1 < w2.heap.size := by omega))
      obtain ⟨g1, cap1, rfl, hg1, hlt1⟩ := own2.form (by omega)
      (try simp at hg1)
      have row1 := (Row.of_own own2).1
      clear own2
      have hb0 : Below w.heap.size w w2 := (by repeat' (first | (with_reducible exact Below.refl _ _) | (with_reducible refine Below.alloc ?_ ?_ _) | (with_reducible refine Below.setCell ?_ ?_ _) | (with_reducible refine Below.drew ?_) | (with_reducible refine Below.trans ?_ (Below.mono (by with_reducible assumption) ?_)) | omega | (simp; done) | (simp; omega)))
      go_wp2_with fail
      clear hc1 hf1 hn1 hb1 hc2 hf2 hn2 hb2
      go_loopw [6, 17] (fun u i wr => ∃ (k : Nat) (ys : List Bsn) (g cap : Nat), k ≤ 1001 ∧ i = .int .i64 k ∧ u = .slice (some ⟨g, 0, none⟩) ys.length cap ∧ (1 ≤ ys.length ∧ ys.length ≤ 8) ∧ Hid (peR xs n = peH n (1001 - k) ys k) ∧ Below w.heap.size w wr ∧ Row wr g 62 (ys.flatMap Bsn.enc)) (fun _ i _ => 1001 - (intOf i).toNat)
      case atStart => exact ⟨0, xs, g1, cap1, Nat.zero_le _, rfl, rfl, hn, Hrun.out, hb0, row1⟩
      case round =>
        clear hb0 row1
        obtain ⟨k, ys, g, cap, hk, rfl, rfl, hny, HI, hb, hrow⟩ := hrel
        have hs := hb.size
        have hz2 := hrow.lt
        by_cases hlt : k < 1001
        · have hI : (k : Int) < 1001 := by omega
          have hA := isSeries_any (some ⟨g, 0, none⟩) cap ys wr (hrow.rd Bsn.enc_len hz2) (by omega)
          have Hrow := Lib.hid hrow
          clear hrow
          cases hG1 : serOK ys
          · have Hno := Lib.hid (HI.out.trans (peH_no hG1))
            rw [hG1] at hA
            go_wp2_with fail
            refine hA.mono ?_
            rintro e w3 ⟨rfl, hb3⟩
            (have hs3 := hb3.size; (try simp at hs3))
            go_wp2_with fail
            go_ret2
            exact ⟨ret_pe Hno.out, (by repeat' (first | (with_reducible exact Below.refl _ _) | (with_reducible refine Below.alloc ?_ ?_ _) | (with_reducible refine Below.setCell ?_ ?_ _) | (with_reducible refine Below.drew ?_) | (with_reducible refine Below.trans ?_ (Below.mono (by with_reducible assumption) ?_)) | omega | (simp; done) | (simp; omega)))⟩
          · rw [hG1] at hA
            have hv := Lib.hid (serOK_bd hG1).2
            have HM := fun (W : World) (hr : Row W g 62 (ys.flatMap Bsn.enc)) => msContains_any (some ⟨g, 0, none⟩) cap ys W (hr.rd Bsn.enc_len hr.lt) (by omega) hv
            cases hM : msAny ys
            · have Hyes := Lib.hid (HI.out.trans (peH_stop hlt hG1 hM))
              rw [hM] at HM
              replace HM := Lib.hid HM
              go_wp2_with fail
              refine hA.mono ?_
              rintro e w3 ⟨rfl, hb3⟩
              (have hs3 := hb3.size; (try simp at hs3))
              go_wp2_with fail
              refine (HM.out _ (Hrow.out.to hb3)).mono ?_
              rintro e w4 ⟨rfl, hb4⟩
              (have hs4 := hb4.size; (try simp at hs4))
              go_wp2_with fail
              go_ret2
              exact ⟨ret_pe Hyes.out, (by repeat' (first | (with_reducible exact Below.refl _ _) | (with_reducible refine Below.alloc ?_ ?_ _) | (with_reducible refine Below.setCell ?_ ?_ _) | (with_reducible refine Below.drew ?_) | (with_reducible refine Below.trans ?_ (Below.mono (by with_reducible assumption) ?_)) | omega | (simp; done) | (simp; omega)))⟩
            · have HI2 := Lib.hid (HI.out.trans (peH_next hlt hG1 hM))
              rw [hM] at HM
              replace HM := Lib.hid HM
              have Hv := hv
              go_wp2_with fail
              refine hA.mono ?_
              rintro e w3 ⟨rfl, hb3⟩
              (have hs3 := hb3.size; (try simp at hs3))
              go_wp2_with fail
              refine (HM.out _ (Hrow.out.to hb3)).mono ?_
              rintro e w4 ⟨rfl, hb4⟩
              (have hs4 := hb4.size; (try simp at hs4))
              have row4 := (Hrow.out.to hb3).to hb4
              go_wp2_with fail
              refine (pass_any ⟨g, 0, none⟩ cap ys 0 0 n _ (row4.rd Bsn.enc_len row4.lt) hny.2 hny.1 Hv (by omega) (by omega) (by omega) (by omega) hN).mono ?_
              rintro e w5 ⟨A5, c5, rfl, own5, hb5⟩
              (have hs5 := hb5.size; (try simp at hs5))
              obtain ⟨g5, rfl, hg5, row5⟩ : ∃ g5, A5 = some ⟨g5, 0, none⟩ ∧ w4.heap.size ≤ g5 ∧ Row w5 g5 62 ((psL ys n 0).flatMap Bsn.enc) := by
                rcases own5 with ⟨_, h0, _⟩ | ⟨g4, e4, h4, r4⟩
                · omega
                · exact ⟨g4, e4, h4, r4⟩
              clear own5 row4
              have Hrow5 := Lib.hid row5
              clear row5
              go_wp2_with fail
              refine ⟨⟨k + 1, psL ys n 0, g5, c5, by omega, by go_num, by rw [psL_len], by rw [psL_len]; exact hny, HI2.out, (by repeat' (first | (with_reducible exact Below.refl _ _) | (with_reducible refine Below.alloc ?_ ?_ _) | (with_reducible refine Below.setCell ?_ ?_ _) | (with_reducible refine Below.drew ?_) | (with_reducible refine Below.trans ?_ (Below.mono (by with_reducible assumption) ?_)) | omega | (simp; done) | (simp; omega))), Hrow5.out⟩, ?_⟩
              simp [intOf] <;> omega
        · obtain rfl : k = 1001 := by omega
          have Hno := Lib.hid (show peR xs n = (0, false) by rw [HI.out, Nat.sub_self]; exact peH_end)
          clear hlt
          go_wp2_with fail
          go_ret2
          exact ⟨ret_pe Hno.out, hb⟩
    · have hN2 : n < 1 := by omega
      have Hno := Lib.hid (peR_no (show (serOK xs && decide (1 ≤ n)) = false by simp [hN]))
      go_enter Try.func21, Try.ntmps21
      go_wp2_with fail
      (go_at_call 29; refine (isSeries_any _ _ _ _ (h.to (by repeat' (first | (with_reducible exact Below.refl _ _) | (with_reducible refine Below.alloc ?_ ?_ _) | (with_reducible refine Below.setCell ?_ ?_ _) | (with_reducible refine Below.drew ?_) | (with_reducible refine Below.trans ?_ (Below.mono (by with_reducible assumption) ?_)) | omega | (simp; done) | (simp; omega)))) hx).mono ?_; rintro e w1 ⟨rfl, hb1⟩)
      (have hs1 := hb1.size; (try simp at hs1); obtain ⟨hc1, hf1, hn1⟩ := bcell hb1; (try have hz1_w_0 : w.heap.size < w1.heap.size := by omega); (try have hz1_w_1 : w.heap.size + 1 < w1.heap.size := by omega); (try have hz1_w_2 : w.heap.size + 2 < w1.heap.size := by omega); (try have hz1_w_2b : w.heap.size + 1 + 1 < w1.heap.size := by omega))
      go_wp2_with fail
      go_ret2
      exact ⟨ret_pe Hno.out, (by repeat' (first | (with_reducible exact Below.refl _ _) | (with_reducible refine Below.alloc ?_ ?_ _) | (with_reducible refine Below.setCell ?_ ?_ _) | (with_reducible refine Below.drew ?_) | (with_reducible refine Below.trans ?_ (Below.mono (by with_reducible assumption) ?_)) | omega | (simp; done) | (simp; omega)))⟩
set_option maxRecDepth 100000 in
set_option maxHeartbeats 4000000 in
theorem sPassesToEmpty_any (ad : Addr) (c : Nat) (xs : List Bsn) (n : Int) (w : World) (h : Rd w w.heap.size (some ad) 3 Bsn.enc xs) (hx : xs.length ≤ 1048576) :
    Calls Try.prog 20 #[.slice (some ad) xs.length c, .int .i64 n] w fun e w' => e = .returned (.tuple #[.int .i64 (peR xs n).1, .bool (peR xs n).2]) ∧ Below w.heap.size w w' := by
  cases hG : serOK xs
  · have Hno := Lib.hid (peR_no (show (serOK xs && decide (1 ≤ n)) = false by rw [hG]; rfl))
    go_enter Try.func20, Try.ntmps20
    go_wp2_with fail
    (go_at_call 35; refine (l8Good_any _ _ _ _ (h.to (by repeat' (first | (with_reducible exact Below.refl _ _) | (with_reducible refine Below.alloc ?_ ?_ _) | (with_reducible refine Below.setCell ?_ ?_ _) | (with_reducible refine Below.drew ?_) | (with_reducible refine Below.trans ?_ (Below.mono (by with_reducible assumption) ?_)) | omega | (simp; done) | (simp; omega)))) hx).mono ?_; rintro e w1 ⟨rfl, hb1⟩)
    (have hs1 := hb1.size; (try simp at hs1); obtain ⟨hc1, hf1, hn1⟩ := bcell hb1; (try have hz1_w_0 : w.heap.size < w1.heap.size := by omega); (try have hz1_w_1 : w.heap.size + 1 < w1.heap.size := by omega); (try have hz1_w_2 : w.heap.size + 2 < w1.heap.size := by omega); (try have hz1_w_2b : w.heap.size + 1 + 1 < w1.heap.size := by omega))
    go_wp2_with fail
    go_ret2
    exact ⟨ret_pe Hno.out, (by repeat' (first | (with_reducible exact Below.refl _ _) | (with_reducible refine Below.alloc ?_ ?_ _) | (with_reducible refine Below.setCell ?_ ?_ _) | (with_reducible refine Below.drew ?_) | (with_reducible refine Below.trans ?_ (Below.mono (by with_reducible assumption) ?_)) | omega | (simp; done) | (simp; omega)))⟩
  · by_cases hN : 1 ≤ n
    · have hn := (serOK_bd hG).1
      have Hrun := Lib.hid (peR_run hG hN)
      have HG := Lib.hid hG
      go_enter Try.func20, Try.ntmps20
      go_wp2_with fail
      (go_at_call 35; refine (l8Good_any _ _ _ _ (h.to (by repeat' (first | (with_reducible exact Below.refl _ _) | (with_reducible refine Below.alloc ?_ ?_ _) | (with_reducible refine Below.setCell ?_ ?_ _) | (with_reducible refine Below.drew ?_) | (with_reducible refine Below.trans ?_ (Below.mono (by with_reducible assumption) ?_)) | omega | (simp; done) | (simp; omega)))) hx).mono ?_; rintro e w1 ⟨rfl, hb1⟩)
      (have hs1 := hb1.size; (try simp at hs1); obtain ⟨hc1, hf1, hn1⟩ := bcell hb1; (try have hz1_w_0 : w.heap.size < w1.heap.size := by omega); (try have hz1_w_1 : w.heap.size + 1 < w1.heap.size := by omega); (try have hz1_w_2 : w.heap.size + 2 < w1.heap.size := by omega); (try have hz1_w_2b : w.heap.size + 1 + 1 < w1.heap.size := by omega))
      go_wp2_with fail
      (go_at_call 42; refine (l8Own_own ad c xs _ (h.to (by repeat' (first | (with_reducible exact Below.refl _ _) | (with_reducible refine Below.alloc ?_ ?_ _) | (with_reducible refine Below.setCell ?_ ?_ _) | (with_reducible refine Below.drew ?_) | (with_reducible refine Below.trans ?_ (Below.mono (by with_reducible assumption) ?_)) | omega | (simp; done) | (simp; omega)))) (by omega)).mono ?_; rintro e w2 ⟨v2, rfl, own2, hb2⟩)
      (have hs2 := hb2.size; (try simp at hs2); obtain ⟨hc2, hf2, hn2⟩ := bcell hb2; (try have hz2_w_0 : w.heap.size < w2.heap.size := by omega); (try have hz2_w_1 : w.heap.size + 1 < w2.heap.size := by omega); (try have hz2_w_2 : w.heap.size + 2 < w2.heap.size := by omega); (try have hz2_w_2b : w.heap.size + 1 + 1 < w2.heap.size := by omega); (try have hz2_w1_0 : w1.heap.size < w2.heap.size := by omega); (try have hz2_w1_1 : w1.heap.size + 1 < w2.heap.size := by omega); (try have hz2_w1_2 : w1.heap.size + 2 < w2.heap.size := by omega); (try have hz2_w1_2b : w1.heap.size + 1 + 1 < w2.heap.size := by omega))
      obtain ⟨g1, cap1, rfl, hg1, hlt1⟩ := own2.form (by omega)
      (try simp at hg1)
      have row1 := (Row.of_own own2).1
      clear own2
      have hb0 : Below w.heap.size w w2 := (by repeat' (first | (with_reducible exact Below.refl _ _) | (with_reducible refine Below.alloc ?_ ?_ _) | (with_reducible refine Below.setCell ?_ ?_ _) | (with_reducible refine Below.drew ?_) | (with_reducible refine Below.trans ?_ (Below.mono (by with_reducible assumption) ?_)) | omega | (simp; done) | (simp; omega)))
      go_wp2_with fail
      clear hc1 hf1 hn1 hb1 hc2 hf2 hn2 hb2
      go_loopw [6, 7] (fun u i wr => ∃ (k : Nat) (ys : List Bsn) (g cap : Nat), k ≤ 1001 ∧ i = .int .i64 k ∧ u = .slice (some ⟨g, 0, none⟩) ys.length cap ∧ Hid (serOK ys = true) ∧ Hid (peR xs n = peH n (1001 - k) ys k) ∧ Below w.heap.size w wr ∧ Row wr g 62 (ys.flatMap Bsn.enc)) (fun _ i _ => 1001 - (intOf i).toNat)
      case atStart => exact ⟨0, xs, g1, cap1, Nat.zero_le _, rfl, rfl, HG.out, Hrun.out, hb0, row1⟩
      case round =>
        clear hb0 row1
        obtain ⟨k, ys, g, cap, hk, rfl, rfl, HY, HI, hb, hrow⟩ := hrel
        have hs := hb.size
        have hz2 := hrow.lt
        by_cases hlt : k < 1001
        · have hI : (k : Int) ≤ 1000 := by omega
          have hok := serOK_bd HY.out
          have hny := hok.1
          have hv := Lib.hid hok.2
          have hbb := bs_bd hok.2 ys.length (Nat.le_refl _)
          have hms := ms_zero hok.2
          clear hok
          have hA := l8Sum_any (some ⟨g, 0, none⟩) cap ys wr (hrow.rd Bsn.enc_len hz2) hny.2 hv
          have Hrow := Lib.hid hrow
          clear hrow
          cases hM : msAny ys
          · have Hyes := Lib.hid (HI.out.trans (peH_stop hlt HY.out hM))
            rw [hM] at hms
            go_wp2_with fail
            refine hA.mono ?_
            rintro e w3 ⟨rfl, hb3⟩
            (have hs3 := hb3.size; (try simp at hs3))
            go_wp2_with fail
            refine (l2Mass_any _ _ _ (by omega) (by omega) (by omega) (by omega)).mono ?_
            rintro e w4 ⟨rfl, hb4⟩
            (have hs4 := hb4.size; (try simp at hs4))
            go_wp2_with fail
            go_ret2
            exact ⟨ret_pe Hyes.out, (by repeat' (first | (with_reducible exact Below.refl _ _) | (with_reducible refine Below.alloc ?_ ?_ _) | (with_reducible refine Below.setCell ?_ ?_ _) | (with_reducible refine Below.drew ?_) | (with_reducible refine Below.trans ?_ (Below.mono (by with_reducible assumption) ?_)) | omega | (simp; done) | (simp; omega)))⟩
          · rw [hM] at hms
            have HI2 := Lib.hid (HI.out.trans (peH_next hlt HY.out hM))
            have HP := fun (W : World) (hr : Row W g 62 (ys.flatMap Bsn.enc)) => l8Pass_any ⟨g, 0, none⟩ cap ys 0 0 n W (hr.rd Bsn.enc_len hr.lt) hny.2 hny.1 hv (by omega) (by omega) (by omega) (by omega) hN
            rw [psB_zero HY.out hN] at HP
            cases hP : serOK (psL ys n 0)
            all_goals
              rw [hP] at HP
              replace HP := Lib.hid HP
              go_wp2_with fail
              refine hA.mono ?_
              rintro e w3 ⟨rfl, hb3⟩
              (have hs3 := hb3.size; (try simp at hs3))
              go_wp2_with fail
              refine (l2Mass_any _ _ _ (by omega) (by omega) (by omega) (by omega)).mono ?_
              rintro e w4 ⟨rfl, hb4⟩
              (have hs4 := hb4.size; (try simp at hs4))
              go_wp2_with fail
              refine (HP.out _ ((Hrow.out.to hb3).to hb4)).mono ?_
              rintro e w5 ⟨A5, c5, rfl, own5, hb5⟩
              (have hs5 := hb5.size; (try simp at hs5))
              obtain ⟨g5, rfl, hg5, row5⟩ : ∃ g5, A5 = some ⟨g5, 0, none⟩ ∧ w4.heap.size ≤ g5 ∧ Row w5 g5 62 ((psL ys n 0).flatMap Bsn.enc) := by
                rcases own5 with ⟨_, h0, _⟩ | ⟨g4, e4, h4, r4⟩
                · omega
                · exact ⟨g4, e4, h4, r4⟩
              clear own5
              have Hrow5 := Lib.hid row5
              clear row5
              go_wp2_with fail
            · go_ret2
              exact ⟨ret_pe (HI2.out.trans (peH_no hP)), (by repeat' (first | (with_reducible exact Below.refl _ _) | (with_reducible refine Below.alloc ?_ ?_ _) | (with_reducible refine Below.setCell ?_ ?_ _) | (with_reducible refine Below.drew ?_) | (with_reducible refine Below.trans ?_ (Below.mono (by with_reducible assumption) ?_)) | omega | (simp; done) | (simp; omega)))⟩
            · refine ⟨⟨k + 1, psL ys n 0, g5, c5, by omega, by go_num, by rw [psL_len], hP, HI2.out, (by repeat' (first | (with_reducible exact Below.refl _ _) | (with_reducible refine Below.alloc ?_ ?_ _) | (with_reducible refine Below.setCell ?_ ?_ _) | (with_reducible refine Below.drew ?_) | (with_reducible refine Below.trans ?_ (Below.mono (by with_reducible assumption) ?_)) | omega | (simp; done) | (simp; omega))), Hrow5.out.alloc _⟩, ?_⟩
              simp [intOf] <;> omega
        · obtain rfl : k = 1001 := by omega
          have Hno := Lib.hid (show peR xs n = (0, false) by rw [HI.out, Nat.sub_self]; exact peH_end)
          clear hlt
          go_wp2_with fail
          go_ret2
          exact ⟨ret_pe Hno.out, hb⟩
    · have hN2 : n < 1 := by omega
      have Hno := Lib.hid (peR_no (show (serOK xs && decide (1 ≤ n)) = false by simp [hN]))
      go_enter Try.func20, Try.ntmps20
      go_wp2_with fail
      (go_at_call 35; refine (l8Good_any _ _ _ _ (h.to (by repeat' (first | (with_reducible exact Below.refl _ _) | (with_reducible refine Below.alloc ?_ ?_ _) | (with_reducible refine Below.setCell ?_ ?_ _) | (with_reducible refine Below.drew ?_) | (with_reducible refine Below.trans ?_ (Below.mono (by with_reducible assumption) ?_)) | omega | (simp; done) | (simp; omega)))) hx).mono ?_; rintro e w1 ⟨rfl, hb1⟩)
      (have hs1 := hb1.size; (try simp at hs1); obtain ⟨hc1, hf1, hn1⟩ := bcell hb1; (try have hz1_w_0 : w.heap.size < w1.heap.size := by omega); (try have hz1_w_1 : w.heap.size + 1 < w1.heap.size := by omega); (try have hz1_w_2 : w.heap.size + 2 < w1.heap.size := by omega); (try have hz1_w_2b : w.heap.size + 1 + 1 < w1.heap.size := by omega))
      go_wp2_with fail
      go_ret2
      exact ⟨ret_pe Hno.out, (by repeat' (first | (with_reducible exact Below.refl _ _) | (with_reducible refine Below.alloc ?_ ?_ _) | (with_reducible refine Below.setCell ?_ ?_ _) | (with_reducible refine Below.drew ?_) | (with_reducible refine Below.trans ?_ (Below.mono (by with_reducible assumption) ?_)) | omega | (simp; done) | (simp; omega)))⟩
set_option maxHeartbeats 4000000 in
theorem FnExactPassesToEmpty_law (A : Option Addr) (c : Nat) (xs : List Bsn) (n : Int) (w : World) (h : Rd w w.heap.size A 3 Bsn.enc xs) (hm : xs.length ≤ 9223372036854775807) :
    Calls Try.prog 5 #[.slice A xs.length c, .int .i64 n] w fun e w' => e = .returned (.bool true) ∧ Below w.heap.size w w' := by
  by_cases hx : xs.length ≤ 1048576
  · go_enter Try.func5, Try.ntmps5
    go_wp2_with (first | (go_at_call 9; refine (szBasinS_le _ _ _ _ hx).mono ?_; rintro e wX ⟨rfl, rfl⟩))
    (go_at_call 11; refine (toBasinS_any _ _ _ _ h hx).mono ?_; rintro e w1 ⟨g1, cap1, rfl, hg1, row1, hb1⟩)
    (have hs1 := hb1.size; (try simp at hs1); obtain ⟨hc1, hf1, hn1⟩ := bcell hb1; (try have hz1_w_0 : w.heap.size < w1.heap.size := by omega); (try have hz1_w_1 : w.heap.size + 1 < w1.heap.size := by omega); (try have hz1_w_2 : w.heap.size + 2 < w1.heap.size := by omega); (try have hz1_w_2b : w.heap.size + 1 + 1 < w1.heap.size := by omega))
    go_wp2_with (first | (go_at_call 9; refine (szBasinS_le _ _ _ _ hx).mono ?_; rintro e wX ⟨rfl, rfl⟩))
    (go_at_call 20; refine (sPassesToEmpty_any _ _ _ _ _ (row1.rdTo Bsn.enc_len (by repeat' (first | (with_reducible exact Below.refl _ _) | (with_reducible refine Below.alloc ?_ ?_ _) | (with_reducible refine Below.setCell ?_ ?_ _) | (with_reducible refine Below.drew ?_) | (with_reducible refine Below.trans ?_ (Below.mono (by with_reducible assumption) ?_)) | omega | (simp; done) | (simp; omega)))) hx).mono ?_; rintro e w2 ⟨rfl, hb2⟩)
    (have hs2 := hb2.size; (try simp at hs2); obtain ⟨hc2, hf2, hn2⟩ := bcell hb2; (try have hz2_w_0 : w.heap.size < w2.heap.size := by omega); (try have hz2_w_1 : w.heap.size + 1 < w2.heap.size := by omega); (try have hz2_w_2 : w.heap.size + 2 < w2.heap.size := by omega); (try have hz2_w_2b : w.heap.size + 1 + 1 < w2.heap.size := by omega); (try have hz2_w1_0 : w1.heap.size < w2.heap.size := by omega); (try have hz2_w1_1 : w1.heap.size + 1 < w2.heap.size := by omega); (try have hz2_w1_2 : w1.heap.size + 2 < w2.heap.size := by omega); (try have hz2_w1_2b : w1.heap.size + 1 + 1 < w2.heap.size := by omega))
    go_wp2_with (first | (go_at_call 9; refine (szBasinS_le _ _ _ _ hx).mono ?_; rintro e wX ⟨rfl, rfl⟩))
    (go_at_call 11; refine (toBasinS_any _ _ _ _ (h.to (by repeat' (first | (with_reducible exact Below.refl _ _) | (with_reducible refine Below.alloc ?_ ?_ _) | (with_reducible refine Below.setCell ?_ ?_ _) | (with_reducible refine Below.drew ?_) | (with_reducible refine Below.trans ?_ (Below.mono (by with_reducible assumption) ?_)) | omega | (simp; done) | (simp; omega)))) hx).mono ?_; rintro e w3 ⟨g3, cap3, rfl, hg3, row3, hb3⟩)
    (have hs3 := hb3.size; (try simp at hs3); obtain ⟨hc3, hf3, hn3⟩ := bcell hb3; (try have hz3_w_0 : w.heap.size < w3.heap.size := by omega); (try have hz3_w_1 : w.heap.size + 1 < w3.heap.size := by omega); (try have hz3_w_2 : w.heap.size + 2 < w3.heap.size := by omega); (try have hz3_w_2b : w.heap.size + 1 + 1 < w3.heap.size := by omega); (try have hz3_w1_0 : w1.heap.size < w3.heap.size := by omega); (try have hz3_w1_1 : w1.heap.size + 1 < w3.heap.size := by omega); (try have hz3_w1_2 : w1.heap.size + 2 < w3.heap.size := by omega); (try have hz3_w1_2b : w1.heap.size + 1 + 1 < w3.heap.size := by omega); (try have hz3_w2_0 : w2.heap.size < w3.heap.size := by omega); (try have hz3_w2_1 : w2.heap.size + 1 < w3.heap.size := by omega); (try have hz3_w2_2 : w2.heap.size + 2 < w3.heap.size := by omega); (try have hz3_w2_2b : w2.heap.size + 1 + 1 < w3.heap.size := by omega))
    go_wp2_with (first | (go_at_call 9; refine (szBasinS_le _ _ _ _ hx).mono ?_; rintro e wX ⟨rfl, rfl⟩))
    (go_at_call 21; refine (iPassesToEmpty_any _ _ _ _ _ (row3.rdTo Bsn.enc_len (by repeat' (first | (with_reducible exact Below.refl _ _) | (with_reducible refine Below.alloc ?_ ?_ _) | (with_reducible refine Below.setCell ?_ ?_ _) | (with_reducible refine Below.drew ?_) | (with_reducible refine Below.trans ?_ (Below.mono (by with_reducible assumption) ?_)) | omega | (simp; done) | (simp; omega)))) hx).mono ?_; rintro e w4 ⟨rfl, hb4⟩)
    (have hs4 := hb4.size; (try simp at hs4); obtain ⟨hc4, hf4, hn4⟩ := bcell hb4; (try have hz4_w_0 : w.heap.size < w4.heap.size := by omega); (try have hz4_w_1 : w.heap.size + 1 < w4.heap.size := by omega); (try have hz4_w_2 : w.heap.size + 2 < w4.heap.size := by omega); (try have hz4_w_2b : w.heap.size + 1 + 1 < w4.heap.size := by omega); (try have hz4_w1_0 : w1.heap.size < w4.heap.size := by omega); (try have hz4_w1_1 : w1.heap.size + 1 < w4.heap.size := by omega); (try have hz4_w1_2 : w1.heap.size + 2 < w4.heap.size := by omega); (try have hz4_w1_2b : w1.heap.size + 1 + 1 < w4.heap.size := by omega); (try have hz4_w2_0 : w2.heap.size < w4.heap.size := by omega); (try have hz4_w2_1 : w2.heap.size + 1 < w4.heap.size := by omega); (try have hz4_w2_2 : w2.heap.size + 2 < w4.heap.size := by omega); (try have hz4_w2_2b : w2.heap.size + 1 + 1 < w4.heap.size := by omega); (try have hz4_w3_0 : w3.heap.size < w4.heap.size := by omega); (try have hz4_w3_1 : w3.heap.size + 1 < w4.heap.size := by omega); (try have hz4_w3_2 : w3.heap.size + 2 < w4.heap.size := by omega); (try have hz4_w3_2b : w3.heap.size + 1 + 1 < w4.heap.size := by omega))
    go_wp2_with (first | (go_at_call 9; refine (szBasinS_le _ _ _ _ hx).mono ?_; rintro e wX ⟨rfl, rfl⟩))
    (go_at_call 11; refine (toBasinS_any _ _ _ _ (h.to (by repeat' (first | (with_reducible exact Below.refl _ _) | (with_reducible refine Below.alloc ?_ ?_ _) | (with_reducible refine Below.setCell ?_ ?_ _) | (with_reducible refine Below.drew ?_) | (with_reducible refine Below.trans ?_ (Below.mono (by with_reducible assumption) ?_)) | omega | (simp; done) | (simp; omega)))) hx).mono ?_; rintro e w5 ⟨g5, cap5, rfl, hg5, row5, hb5⟩)
    (have hs5 := hb5.size; (try simp at hs5); obtain ⟨hc5, hf5, hn5⟩ := bcell hb5; (try have hz5_w_0 : w.heap.size < w5.heap.size := by omega); (try have hz5_w_1 : w.heap.size + 1 < w5.heap.size := by omega); (try have hz5_w_2 : w.heap.size + 2 < w5.heap.size := by omega); (try have hz5_w_2b : w.heap.size + 1 + 1 < w5.heap.size := by omega); (try have hz5_w1_0 : w1.heap.size < w5.heap.size := by omega); (try have hz5_w1_1 : w1.heap.size + 1 < w5.heap.size := by omega); (try have hz5_w1_2 : w1.heap.size + 2 < w5.heap.size := by omega); (try have hz5_w1_2b : w1.heap.size + 1 + 1 < w5.heap.size := by omega); (try have hz5_w2_0 : w2.heap.size < w5.heap.size := by omega); (try have hz5_w2_1 : w2.heap.size + 1 < w5.heap.size := by omega); (try have hz5_w2_2 : w2.heap.size + 2 < w5.heap.size := by omega); (try have hz5_w2_2b : w2.heap.size + 1 + 1 < w5.heap.size := by omega); (try have hz5_w3_0 : w3.heap.size < w5.heap.size := by omega); (try have hz5_w3_1 : w3.heap.size + 1 < w5.heap.size := by omega); (try have hz5_w3_2 : w3.heap.size + 2 < w5.heap.size := by omega); (try have hz5_w3_2b : w3.heap.size + 1 + 1 < w5.heap.size := by omega); (try have hz5_w4_0 : w4.heap.size < w5.heap.size := by omega); (try have hz5_w4_1 : w4.heap.size + 1 < w5.heap.size := by omega); (try have hz5_w4_2 : w4.heap.size + 2 < w5.heap.size := by omega); (try have hz5_w4_2b : w4.heap.size + 1 + 1 < w5.heap.size := by omega))
    go_wp2_with (first | (go_at_call 9; refine (szBasinS_le _ _ _ _ hx).mono ?_; rintro e wX ⟨rfl, rfl⟩))
    (go_at_call 14; refine (eqBasinS_same _ _ _ _ _ _ (row3.rdTo Bsn.enc_len (by repeat' (first | (with_reducible exact Below.refl _ _) | (with_reducible refine Below.alloc ?_ ?_ _) | (with_reducible refine Below.setCell ?_ ?_ _) | (with_reducible refine Below.drew ?_) | (with_reducible refine Below.trans ?_ (Below.mono (by with_reducible assumption) ?_)) | omega | (simp; done) | (simp; omega)))) (row5.rdTo Bsn.enc_len (by repeat' (first | (with_reducible exact Below.refl _ _) | (with_reducible refine Below.alloc ?_ ?_ _) | (with_reducible refine Below.setCell ?_ ?_ _) | (with_reducible refine Below.drew ?_) | (with_reducible refine Below.trans ?_ (Below.mono (by with_reducible assumption) ?_)) | omega | (simp; done) | (simp; omega)))) hx).mono ?_; rintro e w6 ⟨rfl, hb6⟩)
    (have hs6 := hb6.size; (try simp at hs6); obtain ⟨hc6, hf6, hn6⟩ := bcell hb6; (try have hz6_w_0 : w.heap.size < w6.heap.size := by omega); (try have hz6_w_1 : w.heap.size + 1 < w6.heap.size := by omega); (try have hz6_w_2 : w.heap.size + 2 < w6.heap.size := by omega); (try have hz6_w_2b : w.heap.size + 1 + 1 < w6.heap.size := by omega); (try have hz6_w1_0 : w1.heap.size < w6.heap.size := by omega); (try have hz6_w1_1 : w1.heap.size + 1 < w6.heap.size := by omega); (try have hz6_w1_2 : w1.heap.size + 2 < w6.heap.size := by omega); (try have hz6_w1_2b : w1.heap.size + 1 + 1 < w6.heap.size := by omega); (try have hz6_w2_0 : w2.heap.size < w6.heap.size := by omega); (try have hz6_w2_1 : w2.heap.size + 1 < w6.heap.size := by omega); (try have hz6_w2_2 : w2.heap.size + 2 < w6.heap.size := by omega); (try have hz6_w2_2b : w2.heap.size + 1 + 1 < w6.heap.size := by omega); (try have hz6_w3_0 : w3.heap.size < w6.heap.size := by omega); (try have hz6_w3_1 : w3.heap.size + 1 < w6.heap.size := by omega); (try have hz6_w3_2 : w3.heap.size + 2 < w6.heap.size := by omega); (try have hz6_w3_2b : w3.heap.size + 1 + 1 < w6.heap.size := by omega); (try have hz6_w4_0 : w4.heap.size < w6.heap.size := by omega); (try have hz6_w4_1 : w4.heap.size + 1 < w6.heap.size := by omega); (try have hz6_w4_2 : w4.heap.size + 2 < w6.heap.size := by omega); (try have hz6_w4_2b : w4.heap.size + 1 + 1 < w6.heap.size := by omega); (try have hz6_w5_0 : w5.heap.size < w6.heap.size := by omega); (try have hz6_w5_1 : w5.heap.size + 1 < w6.heap.size := by omega); (try have hz6_w5_2 : w5.heap.size + 2 < w6.heap.size := by omega); (try have hz6_w5_2b : w5.heap.size + 1 + 1 < w6.heap.size := by omega))
    go_wp2_with (first | (go_at_call 9; refine (szBasinS_le _ _ _ _ hx).mono ?_; rintro e wX ⟨rfl, rfl⟩))
    go_ret
    exact ⟨rfl, (by repeat' (first | (with_reducible exact Below.refl _ _) | (with_reducible refine Below.alloc ?_ ?_ _) | (with_reducible refine Below.setCell ?_ ?_ _) | (with_reducible refine Below.drew ?_) | (with_reducible refine Below.trans ?_ (Below.mono (by with_reducible assumption) ?_)) | omega | (simp; done) | (simp; omega)))⟩
  · have hx' : 1048576 < xs.length := by omega
    go_enter Try.func5, Try.ntmps5
    go_wp2_with (first | (go_at_call 9; refine (szBasinS_gt _ _ _ _ hm hx').mono ?_; rintro e wX ⟨rfl, rfl⟩))
    go_ret
    exact ⟨rfl, (by repeat' (first | (with_reducible exact Below.refl _ _) | (with_reducible refine Below.alloc ?_ ?_ _) | (with_reducible refine Below.setCell ?_ ?_ _) | (with_reducible refine Below.drew ?_) | (with_reducible refine Below.trans ?_ (Below.mono (by with_reducible assumption) ?_)) | omega | (simp; done) | (simp; omega)))⟩
end Go.Proofs.Ytocaodoagiokjaa
