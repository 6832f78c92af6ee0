/- Contracts of series: which are valid; copies (chapter 8). -/
import Derived.Test.YtocaodoagiokjaaBasinList
import Derived.Test.YtocaodoagiokjaaPoolMore
import Derived.Deep.RegionHeld3
import Derived.Lib.SliceRun
import Derived.Shelf.Abstract
set_option linter.unusedSimpArgs false
set_option linter.unusedVariables false
namespace Go.Proofs.Ytocaodoagiokjaa
open Go.RowKit Go.Sort Go.Salt
attribute [local go_sem] cell_rg
attribute [local go_sem ↓] run_max_mx run_min_mn
theorem Bsn.enc_one (x : Bsn) : ∀ u ∈ x.enc, u.oneCell' = true := fun u hu => by simp [Bsn.enc] at hu; rcases hu with rfl | rfl | rfl <;> rfl
def bsnOK (r a s : Int) : Bool := inB r 1 100000 && (inB a 0 1000000 && inB s 0 1000000)
def bsnBad (xs : List Bsn) (k : Nat) : Bool := !bsnOK (el xs k).r (el xs k).a (el xs k).s
theorem bsnOK_bd {r a s : Int} (h : bsnOK r a s = true) : (1 ≤ r ∧ r ≤ 100000) ∧ (0 ≤ a ∧ a ≤ 1000000) ∧ (0 ≤ s ∧ s ≤ 1000000) := by
  simp only [bsnOK, Bool.and_eq_true] at h
  simp only [inB_iff] at h
  exact h
set_option maxHeartbeats 4000000 in
theorem cloneBsn_own (ad : Addr) (c : Nat) (xs : List Bsn) (w : World) (h : Rd w w.heap.size (some ad) 3 Bsn.enc xs) (hx : xs.length ≤ 1048576) :
    Calls Try.prog 44 #[.slice (some ad) xs.length c] w fun e w' => ∃ v, e = .returned v ∧ w'.ownsRow w.heap.size 62 3 v xs.length (xs.flatMap Bsn.enc) ∧ Below w.heap.size w w' := by
  have q := fun (w : World) (a : Option Addr) (n c n' c' : Nat) => Lib.run_eql_slice_nil w 28 _ a n c n' c' Try.underlying28
  obtain ⟨i0, hi, hz0, hz1, hz2⟩ := info_parts bsn_info
  have hinfo := Lib.hid (And.intro hi (And.intro hz0 (And.intro hz1 hz2)))
  clear hi hz0 hz1 hz2
  go_enter Try.func44, Try.ntmps44
  go_wp2_with (at_builtin; refine wpList_append_own _ rfl _ _ 28 rfl w.heap.size 62 i0 _ 3 24 Try.underlying28 hinfo.out.1 hinfo.out.2.1 hinfo.out.2.2.1 hinfo.out.2.2.2 rfl (by decide) _ _ _ rfl (own_empty 3 (Nat.le_refl _) (heap_alloc_new w _)) ad _ _ (xs.flatMap Bsn.enc) rfl (flat_len Bsn.enc_len xs) ((h.to (by repeat' (first | (with_reducible exact Below.refl _ _) | (with_reducible refine Below.alloc ?_ ?_ _) | (with_reducible refine Below.setCell ?_ ?_ _) | (with_reducible refine Below.drew ?_) | (with_reducible refine Below.trans ?_ (Below.mono (by with_reducible assumption) ?_)) | omega | (simp; done) | (simp; omega)))).news Bsn.enc_len) (flat_one Bsn.enc_one) (by unfold maxLen; omega) (by omega) (by simp) ?_)
  intro v1 w1 hown1 hgrow hnil
  have hb1 : Below w.heap.size w w1 := own_grew (own_empty (W := w.alloc (.cells #[] 62)) 3 (Nat.le_refl _) (heap_alloc_new w _)) (show Below w.heap.size w (w.alloc _) from (by repeat' (first | (with_reducible exact Below.refl _ _) | (with_reducible refine Below.alloc ?_ ?_ _) | (with_reducible refine Below.setCell ?_ ?_ _) | (with_reducible refine Below.drew ?_) | (with_reducible refine Below.trans ?_ (Below.mono (by with_reducible assumption) ?_)) | omega | (simp; done) | (simp; omega)))) (by simp) hgrow
  have hown1 : w1.ownsRow w.heap.size 62 3 v1 xs.length (xs.flatMap Bsn.enc) := by simpa using hown1
  go_wp2
  go_ret
  exact ⟨v1, rfl, hown1, hb1⟩
set_option maxHeartbeats 4000000 in
theorem l8Own_own (ad : Addr) (c : Nat) (xs : List Bsn) (w : World) (h : Rd w w.heap.size (some ad) 3 Bsn.enc xs) (hx : xs.length ≤ 1048576) :
    Calls Try.prog 42 #[.slice (some ad) xs.length c] w fun e w' => ∃ v, e = .returned v ∧ w'.ownsRow w.heap.size 62 3 v xs.length (xs.flatMap Bsn.enc) ∧ Below w.heap.size w w' := by
  obtain ⟨i0, hi, hz0, hz1, hz2⟩ := info_parts bsn_info
  have hinfo := Lib.hid (And.intro hi (And.intro hz0 (And.intro hz1 hz2)))
  clear hi hz0 hz1 hz2
  go_enter Try.func42, Try.ntmps42
  go_wp2_with (at_builtin; refine wpList_append_own _ rfl _ _ 28 rfl w.heap.size 62 i0 _ 3 24 Try.underlying28 hinfo.out.1 hinfo.out.2.1 hinfo.out.2.2.1 hinfo.out.2.2.2 rfl (by decide) _ _ _ rfl (own_empty 3 (Nat.le_refl _) (heap_alloc_new w _)) ad _ _ (xs.flatMap Bsn.enc) rfl (flat_len Bsn.enc_len xs) ((h.to (by repeat' (first | (with_reducible exact Below.refl _ _) | (with_reducible refine Below.alloc ?_ ?_ _) | (with_reducible refine Below.setCell ?_ ?_ _) | (with_reducible refine Below.drew ?_) | (with_reducible refine Below.trans ?_ (Below.mono (by with_reducible assumption) ?_)) | omega | (simp; done) | (simp; omega)))).news Bsn.enc_len) (flat_one Bsn.enc_one) (by unfold maxLen; omega) (by omega) (by simp) ?_)
  intro v1 w1 hown1 hgrow hnil
  have hb1 : Below w.heap.size w w1 := own_grew (own_empty (W := w.alloc (.cells #[] 62)) 3 (Nat.le_refl _) (heap_alloc_new w _)) (show Below w.heap.size w (w.alloc _) from (by repeat' (first | (with_reducible exact Below.refl _ _) | (with_reducible refine Below.alloc ?_ ?_ _) | (with_reducible refine Below.setCell ?_ ?_ _) | (with_reducible refine Below.drew ?_) | (with_reducible refine Below.trans ?_ (Below.mono (by with_reducible assumption) ?_)) | omega | (simp; done) | (simp; omega)))) (by simp) hgrow
  have hown1 : w1.ownsRow w.heap.size 62 3 v1 xs.length (xs.flatMap Bsn.enc) := by simpa using hown1
  go_wp2
  go_ret
  exact ⟨v1, rfl, hown1, hb1⟩
set_option maxHeartbeats 400000 in
theorem isArea_any (n : Int) (w : World) :
    Calls Try.prog 57 #[.int .i64 n] w fun e w' => e = .returned (.bool (inB n 1 100000)) ∧ w = w' := by
  go_enter Try.func57, Try.ntmps57
  go_wp2_with (go_at_call 52; refine (within_any _ _ _ _).mono ?_; rintro e w1 ⟨rfl, rfl⟩)
  go_ret
  exact ⟨rfl, rfl⟩
set_option maxHeartbeats 4000000 in
theorem serFn_any (r a s : Int) (w : World) :
    Calls Try.prog 56 #[.agg #[.int .i64 r, .int .i64 a, .int .i64 s]] w fun e w' => e = .returned (.bool (!bsnOK r a s)) ∧ Below w.heap.size w w' := by
  cases h0 : inB r 1 100000
  · go_enter Try.func56, Try.ntmps56
    go_wp2_with (first | (go_at_call 57; refine (isArea_any _ _).mono ?_; rintro e wX ⟨rfl, rfl⟩))
    go_ret
    exact ⟨ret_bool (by simp [bsnOK, h0]), (by repeat' (first | (with_reducible exact Below.refl _ _) | (with_reducible refine Below.alloc ?_ ?_ _) | (with_reducible refine Below.setCell ?_ ?_ _) | (with_reducible refine Below.drew ?_) | (with_reducible refine Below.trans ?_ (Below.mono (by with_reducible assumption) ?_)) | omega | (simp; done) | (simp; omega)))⟩
  · cases h1 : (inB a 0 1000000 && inB s 0 1000000)
    · have hq := Lib.hid h1
      have hc := fun W => isBrine_any a s W
      rw [h1] at hc
      clear h1
      go_enter Try.func56, Try.ntmps56
      go_wp2_with (first | (go_at_call 57; refine (isArea_any _ _).mono ?_; rintro e wX ⟨rfl, rfl⟩))
      (go_at_call 40; refine (hc _).mono ?_; rintro e w1 ⟨rfl, hb1⟩)
      (have hs1 := hb1.size; (try simp at hs1); obtain ⟨hc1, hf1, hn1⟩ := bcell hb1; (try have hz1_w_0 : w.heap.size < w1.heap.size := by omega); (try have hz1_w_1 : w.heap.size + 1 < w1.heap.size := by omega); (try have hz1_w_2 : w.heap.size + 2 < w1.heap.size := by omega); (try have hz1_w_2b : w.heap.size + 1 + 1 < w1.heap.size := by omega))
      go_wp2_with (first | (go_at_call 57; refine (isArea_any _ _).mono ?_; rintro e wX ⟨rfl, rfl⟩))
      go_ret
      exact ⟨ret_bool (by simp [bsnOK, h0, hq.out]), (by repeat' (first | (with_reducible exact Below.refl _ _) | (with_reducible refine Below.alloc ?_ ?_ _) | (with_reducible refine Below.setCell ?_ ?_ _) | (with_reducible refine Below.drew ?_) | (with_reducible refine Below.trans ?_ (Below.mono (by with_reducible assumption) ?_)) | omega | (simp; done) | (simp; omega)))⟩
    · have hq := Lib.hid h1
      have hc := fun W => isBrine_any a s W
      rw [h1] at hc
      clear h1
      go_enter Try.func56, Try.ntmps56
      go_wp2_with (first | (go_at_call 57; refine (isArea_any _ _).mono ?_; rintro e wX ⟨rfl, rfl⟩))
      (go_at_call 40; refine (hc _).mono ?_; rintro e w1 ⟨rfl, hb1⟩)
      (have hs1 := hb1.size; (try simp at hs1); obtain ⟨hc1, hf1, hn1⟩ := bcell hb1; (try have hz1_w_0 : w.heap.size < w1.heap.size := by omega); (try have hz1_w_1 : w.heap.size + 1 < w1.heap.size := by omega); (try have hz1_w_2 : w.heap.size + 2 < w1.heap.size := by omega); (try have hz1_w_2b : w.heap.size + 1 + 1 < w1.heap.size := by omega))
      go_wp2_with (first | (go_at_call 57; refine (isArea_any _ _).mono ?_; rintro e wX ⟨rfl, rfl⟩))
      go_ret
      exact ⟨ret_bool (by simp [bsnOK, h0, hq.out]), (by repeat' (first | (with_reducible exact Below.refl _ _) | (with_reducible refine Below.alloc ?_ ?_ _) | (with_reducible refine Below.setCell ?_ ?_ _) | (with_reducible refine Below.drew ?_) | (with_reducible refine Below.trans ?_ (Below.mono (by with_reducible assumption) ?_)) | omega | (simp; done) | (simp; omega)))⟩
def bsnAny (xs : List Bsn) : Bool := (List.range xs.length).any (bsnBad xs)
theorem bsnAny_yes {xs : List Bsn} {k : Nat} (hk : k < xs.length) (h : bsnBad xs k = true) : bsnAny xs = true := List.any_eq_true.2 ⟨k, List.mem_range.2 hk, h⟩
theorem bsnAny_no {xs : List Bsn} (h : ∀ k, k < xs.length → bsnBad xs k = false) : bsnAny xs = false := by
  cases hq : bsnAny xs
  · rfl
  · obtain ⟨k, hk, h2⟩ := List.any_eq_true.1 hq
    rw [h k (List.mem_range.1 hk)] at h2; cases h2
theorem bsnAny_all {xs : List Bsn} (h : bsnAny xs = false) : ∀ k, k < xs.length → bsnBad xs k = false := fun k hk => by
  cases hq : bsnBad xs k
  · rfl
  · rw [bsnAny_yes hk hq] at h; cases h
set_option maxHeartbeats 4000000 in
theorem serIndex_any (A : Option Addr) (c : Nat) (xs : List Bsn) (w : World) (h : Rd w w.heap.size A 3 Bsn.enc xs) (hx : xs.length ≤ 1048576) :
    Calls Try.prog 63 #[.slice A xs.length c, .func (.func 56) #[] #[]] w fun e w' => (∃ z : Int, e = .returned (.int .i64 z) ∧ decide (0 ≤ z) = bsnAny xs) ∧ Below w.heap.size w w' := by
  have eg := enters_of Try.func56 (by kernel_rfl) rfl
  go_enter Try.func63, Try.ntmps63
  go_wp2
  go_loopw [8] (fun i wr => ∃ k : Nat, k ≤ xs.length ∧ i = .int .i64 k ∧ Below w.heap.size w wr ∧ Hid (∀ j, j < k → bsnBad xs j = false)) (fun i _ => xs.length - (intOf i).toNat)
  case atStart => exact ⟨0, Nat.zero_le _, rfl, Below.refl _ _, fun i hi => by omega⟩
  case round =>
    obtain ⟨k, hk, rfl, hb, Hall⟩ := hrel
    by_cases hlt : k < xs.length
    · obtain ⟨b, o, rfl, hB2, c0, c1, c2⟩ := bsn_cells (h.below hb) hlt
      have hs := hb.size
      have hB1 : b < wr.heap.size := by omega
      have hI : (k : Int) < xs.length := by omega
      have hI0 : (0 : Int) ≤ k := by omega
      have hcall := serFn_any (el xs k).r (el xs k).a (el xs k).s wr
      cases hq : bsnBad xs k
      · have hq' := hq
        unfold bsnBad at hq'
        rw [hq'] at hcall
        clear hq'
        have Hq := Lib.hid hq
        clear hq
        go_wp2_with fail
        refine hcall.mono ?_
        rintro e w1 ⟨rfl, hb1⟩
        have hs1 := hb1.size
        go_wp2
        go_roundw
        case rel => exact ⟨k + 1, by omega, by go_num, (by repeat' (first | (with_reducible exact Below.refl _ _) | (with_reducible refine Below.alloc ?_ ?_ _) | (with_reducible refine Below.setCell ?_ ?_ _) | (with_reducible refine Below.drew ?_) | (with_reducible refine Below.trans ?_ (Below.mono (by with_reducible assumption) ?_)) | omega | (simp; done) | (simp; omega))), fun j hj => by
          by_cases e : j = k
          · subst e; exact Hq.out
          · exact Hall.out j (by omega)⟩
        case measure => simp [intOf]; omega
      · have hq' := hq
        unfold bsnBad at hq'
        rw [hq'] at hcall
        clear hq'
        have Hq := Lib.hid (bsnAny_yes hlt hq)
        clear hq
        go_wp2_with fail
        refine hcall.mono ?_
        rintro e w1 ⟨rfl, hb1⟩
        have hs1 := hb1.size
        go_wp2
        go_ret
        exact ⟨⟨_, rfl, by rw [Hq.out]; simp⟩, (by repeat' (first | (with_reducible exact Below.refl _ _) | (with_reducible refine Below.alloc ?_ ?_ _) | (with_reducible refine Below.setCell ?_ ?_ _) | (with_reducible refine Below.drew ?_) | (with_reducible refine Below.trans ?_ (Below.mono (by with_reducible assumption) ?_)) | omega | (simp; done) | (simp; omega)))⟩
    · obtain rfl : k = xs.length := by omega
      go_wp2
      go_ret
      exact ⟨⟨_, rfl, by rw [bsnAny_no Hall.out]; rfl⟩, hb⟩
set_option maxHeartbeats 4000000 in
theorem serContains_any (A : Option Addr) (c : Nat) (xs : List Bsn) (w : World) (h : Rd w w.heap.size A 3 Bsn.enc xs) (hx : xs.length ≤ 1048576) :
    Calls Try.prog 47 #[.slice A xs.length c, .func (.func 56) #[] #[]] w fun e w' => e = .returned (.bool (bsnAny xs)) ∧ Below w.heap.size w w' := by
  have hcall := serIndex_any A c xs w h hx
  go_enter Try.func47, Try.ntmps47
  go_wp2_with fail
  refine hcall.mono ?_
  rintro e w1 ⟨⟨z, rfl, hz⟩, hb1⟩
  go_wp2
  go_ret
  exact ⟨by first | rfl | exact ret_bool hz, (by repeat' (first | (with_reducible exact Below.refl _ _) | (with_reducible refine Below.alloc ?_ ?_ _) | (with_reducible refine Below.setCell ?_ ?_ _) | (with_reducible refine Below.drew ?_) | (with_reducible refine Below.trans ?_ (Below.mono (by with_reducible assumption) ?_)) | omega | (simp; done) | (simp; omega)))⟩
def serOK (xs : List Bsn) : Bool := inB xs.length 1 8 && !bsnAny xs
theorem serOK_bd {xs : List Bsn} (h : serOK xs = true) : (1 ≤ xs.length ∧ xs.length ≤ 8) ∧ ∀ k, k < xs.length → bsnOK (el xs k).r (el xs k).a (el xs k).s = true := by
  simp only [serOK, Bool.and_eq_true] at h
  have h1 := inB_iff.1 h.1
  refine ⟨by omega, fun k hk => ?_⟩
  have h2 : bsnAny xs = false := by simpa using h.2
  have h3 := bsnAny_all h2 k hk
  unfold bsnBad at h3
  simpa using h3
set_option maxHeartbeats 4000000 in
theorem isSeries_any (A : Option Addr) (c : Nat) (xs : List Bsn) (w : World) (h : Rd w w.heap.size A 3 Bsn.enc xs) (hx : xs.length ≤ 1048576) :
    Calls Try.prog 29 #[.slice A xs.length c] w fun e w' => e = .returned (.bool (serOK xs)) ∧ Below w.heap.size w w' := by
  cases h0 : inB xs.length 1 8
  · go_enter Try.func29, Try.ntmps29
    go_wp2_with (first | (go_at_call 52; refine (within_any _ _ _ _).mono ?_; rintro e wX ⟨rfl, rfl⟩))
    go_ret
    exact ⟨ret_bool (by simp [serOK, h0]), (by repeat' (first | (with_reducible exact Below.refl _ _) | (with_reducible refine Below.alloc ?_ ?_ _) | (with_reducible refine Below.setCell ?_ ?_ _) | (with_reducible refine Below.drew ?_) | (with_reducible refine Below.trans ?_ (Below.mono (by with_reducible assumption) ?_)) | omega | (simp; done) | (simp; omega)))⟩
  · go_enter Try.func29, Try.ntmps29
    go_wp2_with (first | (go_at_call 52; refine (within_any _ _ _ _).mono ?_; rintro e wX ⟨rfl, rfl⟩))
    (go_at_call 47; refine (serContains_any _ _ _ _ (h.to (by repeat' (first | (with_reducible exact Below.refl _ _) | (with_reducible refine Below.alloc ?_ ?_ _) | (with_reducible refine Below.setCell ?_ ?_ _) | (with_reducible refine Below.drew ?_) | (with_reducible refine Below.trans ?_ (Below.mono (by with_reducible assumption) ?_)) | omega | (simp; done) | (simp; omega)))) hx).mono ?_; rintro e w1 ⟨rfl, hb1⟩)
    (have hs1 := hb1.size; (try simp at hs1); obtain ⟨hc1, hf1, hn1⟩ := bcell hb1; (try have hz1_w_0 : w.heap.size < w1.heap.size := by omega); (try have hz1_w_1 : w.heap.size + 1 < w1.heap.size := by omega); (try have hz1_w_2 : w.heap.size + 2 < w1.heap.size := by omega); (try have hz1_w_2b : w.heap.size + 1 + 1 < w1.heap.size := by omega))
    go_wp2_with (first | (go_at_call 52; refine (within_any _ _ _ _).mono ?_; rintro e wX ⟨rfl, rfl⟩))
    go_ret
    exact ⟨ret_bool (by simp [serOK, h0]), (by repeat' (first | (with_reducible exact Below.refl _ _) | (with_reducible refine Below.alloc ?_ ?_ _) | (with_reducible refine Below.setCell ?_ ?_ _) | (with_reducible refine Below.drew ?_) | (with_reducible refine Below.trans ?_ (Below.mono (by with_reducible assumption) ?_)) | omega | (simp; done) | (simp; omega)))⟩
set_option maxHeartbeats 4000000 in
theorem l8Good_any (A : Option Addr) (c : Nat) (xs : List Bsn) (w : World) (h : Rd w w.heap.size A 3 Bsn.enc xs) (hx : xs.length ≤ 1048576) :
    Calls Try.prog 35 #[.slice A xs.length c] w fun e w' => e = .returned (.bool (serOK xs)) ∧ Below w.heap.size w w' := by
  go_enter Try.func35, Try.ntmps35
  go_wp2
  go_loopw [3] (fun i wr => ∃ k : Nat, k ≤ xs.length ∧ i = .int .i64 k ∧ Below w.heap.size w wr ∧ Hid (∀ j, j < k → bsnBad xs j = false)) (fun i _ => xs.length - (intOf i).toNat)
  case atStart => exact ⟨0, Nat.zero_le _, rfl, Below.refl _ _, fun i hi => by omega⟩
  case round =>
    obtain ⟨k, hk, rfl, hb, Hall⟩ := hrel
    by_cases hlt : k < xs.length
    · obtain ⟨b, o, rfl, hB2, c0, c1, c2⟩ := bsn_cells (h.below hb) hlt
      have hs := hb.size
      have hB1 : b < wr.heap.size := by omega
      have hI : (k : Int) < xs.length := by omega
      have hI0 : (0 : Int) ≤ k := by omega
      cases h0 : inB (el xs k).r 1 100000
      · have Hq := Lib.hid (show serOK xs = false by simp [serOK, bsnAny_yes hlt (show bsnBad xs k = true by simp [bsnBad, bsnOK, h0])])
        go_wp2_with (first | (go_at_call 51; refine (l1In_any _ _ _ _).mono ?_; rintro e wX ⟨rfl, rfl⟩))
        go_ret
        exact ⟨ret_bool Hq.out.symm, (by repeat' (first | (with_reducible exact Below.refl _ _) | (with_reducible refine Below.alloc ?_ ?_ _) | (with_reducible refine Below.setCell ?_ ?_ _) | (with_reducible refine Below.drew ?_) | (with_reducible refine Below.trans ?_ (Below.mono (by with_reducible assumption) ?_)) | omega | (simp; done) | (simp; omega)))⟩
      · have hc := fun W => l2Brine_any (el xs k).a (el xs k).s W
        cases h1 : (inB (el xs k).a 0 1000000 && inB (el xs k).s 0 1000000)
        · have Hq := Lib.hid (show serOK xs = false by simp only [serOK, bsnAny_yes hlt (show bsnBad xs k = true by simp only [bsnBad, bsnOK, h0, h1]; rfl)]; simp)
          rw [h1] at hc
          clear h1
          go_wp2_with (first | (go_at_call 51; refine (l1In_any _ _ _ _).mono ?_; rintro e wX ⟨rfl, rfl⟩) | (go_at_call 51; refine (l1In_any _ _ _ _).mono ?_; rintro e wX ⟨rfl, rfl⟩))
          (go_at_call 36; refine (hc _).mono ?_; rintro e w1 ⟨rfl, hb1⟩)
          (have hs1 := hb1.size; (try simp at hs1); obtain ⟨hc1, hf1, hn1⟩ := bcell hb1; (try have hz1_wr_0 : wr.heap.size < w1.heap.size := by omega); (try have hz1_wr_1 : wr.heap.size + 1 < w1.heap.size := by omega); (try have hz1_wr_2 : wr.heap.size + 2 < w1.heap.size := by omega); (try have hB1 : b < w1.heap.size := by omega); (try have hB2 : b' < w1.heap.size := by omega); (try have hz1_wr_2b : wr.heap.size + 1 + 1 < w1.heap.size := by omega); (try have hz1_w_0 : w.heap.size < w1.heap.size := by omega); (try have hz1_w_1 : w.heap.size + 1 < w1.heap.size := by omega); (try have hz1_w_2 : w.heap.size + 2 < w1.heap.size := by omega); (try have hz1_w_2b : w.heap.size + 1 + 1 < w1.heap.size := by omega))
          go_wp2_with (first | (go_at_call 51; refine (l1In_any _ _ _ _).mono ?_; rintro e wX ⟨rfl, rfl⟩) | (go_at_call 51; refine (l1In_any _ _ _ _).mono ?_; rintro e wX ⟨rfl, rfl⟩))
          go_ret
          exact ⟨ret_bool Hq.out.symm, (by repeat' (first | (with_reducible exact Below.refl _ _) | (with_reducible refine Below.alloc ?_ ?_ _) | (with_reducible refine Below.setCell ?_ ?_ _) | (with_reducible refine Below.drew ?_) | (with_reducible refine Below.trans ?_ (Below.mono (by with_reducible assumption) ?_)) | omega | (simp; done) | (simp; omega)))⟩
        · have Hq := Lib.hid (show bsnBad xs k = false by simp only [bsnBad, bsnOK, h0, h1]; rfl)
          rw [h1] at hc
          clear h1
          go_wp2_with (first | (go_at_call 51; refine (l1In_any _ _ _ _).mono ?_; rintro e wX ⟨rfl, rfl⟩) | (go_at_call 51; refine (l1In_any _ _ _ _).mono ?_; rintro e wX ⟨rfl, rfl⟩) | (go_at_call 51; refine (l1In_any _ _ _ _).mono ?_; rintro e wX ⟨rfl, rfl⟩))
          (go_at_call 36; refine (hc _).mono ?_; rintro e w1 ⟨rfl, hb1⟩)
          (have hs1 := hb1.size; (try simp at hs1); obtain ⟨hc1, hf1, hn1⟩ := bcell hb1; (try have hz1_wr_0 : wr.heap.size < w1.heap.size := by omega); (try have hz1_wr_1 : wr.heap.size + 1 < w1.heap.size := by omega); (try have hz1_wr_2 : wr.heap.size + 2 < w1.heap.size := by omega); (try have hB1 : b < w1.heap.size := by omega); (try have hB2 : b' < w1.heap.size := by omega); (try have hz1_wr_2b : wr.heap.size + 1 + 1 < w1.heap.size := by omega); (try have hz1_w_0 : w.heap.size < w1.heap.size := by omega); (try have hz1_w_1 : w.heap.size + 1 < w1.heap.size := by omega); (try have hz1_w_2 : w.heap.size + 2 < w1.heap.size := by omega); (try have hz1_w_2b : w.heap.size + 1 + 1 < w1.heap.size := by omega))
          go_wp2_with (first | (go_at_call 51; refine (l1In_any _ _ _ _).mono ?_; rintro e wX ⟨rfl, rfl⟩) | (go_at_call 51; refine (l1In_any _ _ _ _).mono ?_; rintro e wX ⟨rfl, rfl⟩) | (go_at_call 51; refine (l1In_any _ _ _ _).mono ?_; rintro e wX ⟨rfl, rfl⟩))
          go_roundw
          case rel => exact ⟨k + 1, by omega, by go_num, (by repeat' (first | (with_reducible exact Below.refl _ _) | (with_reducible refine Below.alloc ?_ ?_ _) | (with_reducible refine Below.setCell ?_ ?_ _) | (with_reducible refine Below.drew ?_) | (with_reducible refine Below.trans ?_ (Below.mono (by with_reducible assumption) ?_)) | omega | (simp; done) | (simp; omega))), fun j hj => by
            by_cases e : j = k
            · subst e; exact Hq.out
            · exact Hall.out j (by omega)⟩
          case measure => simp [intOf]; omega
    · obtain rfl : k = xs.length := by omega
      have Hf := Lib.hid (show serOK xs = inB xs.length 1 8 by simp [serOK, bsnAny_no Hall.out])
      have hs := hb.size
      go_wp2_with (first | (go_at_call 51; refine (l1In_any _ _ _ _).mono ?_; rintro e wX ⟨rfl, rfl⟩) | (go_at_call 51; refine (l1In_any _ _ _ _).mono ?_; rintro e wX ⟨rfl, rfl⟩) | (go_at_call 51; refine (l1In_any _ _ _ _).mono ?_; rintro e wX ⟨rfl, rfl⟩) | (go_at_call 51; refine (l1In_any _ _ _ _).mono ?_; rintro e wX ⟨rfl, rfl⟩))
      go_ret
      exact ⟨ret_bool Hf.out.symm, (by repeat' (first | (with_reducible exact Below.refl _ _) | (with_reducible refine Below.alloc ?_ ?_ _) | (with_reducible refine Below.setCell ?_ ?_ _) | (with_reducible refine Below.drew ?_) | (with_reducible refine Below.trans ?_ (Below.mono (by with_reducible assumption) ?_)) | omega | (simp; done) | (simp; omega)))⟩
end Go.Proofs.Ytocaodoagiokjaa
