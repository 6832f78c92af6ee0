/- Contracts: the shares of a crop rounded down (chapter 22). -/
import Derived.Test.YtimdnihadhbjpaaDoorAreS
import Derived.Test.YtimdnihadhbjpaaDoorDivMath
import Derived.OwnWalk
import Derived.Laws.MakeOwn
set_option linter.unusedSimpArgs false
set_option linter.unusedVariables false
namespace Go.Proofs.YtimdnihadhbjpaaDoor
open Go.RowKit Go.Sort Go.Salt
attribute [local go_sem] cell_rg
theorem arOK_bd {xs : List Ow} (h : arB xs = true) : OwBd xs := by
  unfold arB at h
  rw [Bool.and_eq_true, Bool.and_eq_true] at h
  exact gdB_bd h.2.1
theorem arOK_len {xs : List Ow} (h : arB xs = true) : 1 ≤ xs.length ∧ xs.length ≤ 8 := by
  unfold arB at h
  rw [Bool.and_eq_true, inB_iff] at h
  omega
def lfN (xs : List Ow) (crop : Int) (k : Nat) : Int := ltD (nuO xs) (deO xs) crop k
def flN (xs : List Ow) (crop : Int) (k : Nat) : Int := flD (nuO xs) (deO xs) crop k
def rsN (xs : List Ow) (crop : Int) (k : Nat) : Int := rsD (nuO xs) (deO xs) crop k
def flL (xs : List Ow) (crop : Int) (k : Nat) : List Int := (List.range k).map (flN xs crop)
theorem flL_succ (xs : List Ow) (crop : Int) (k : Nat) : flL xs crop (k + 1) = flL xs crop k ++ [flN xs crop k] := by simp [flL, List.range_succ]
theorem flL_len (xs : List Ow) (crop : Int) (k : Nat) : (flL xs crop k).length = k := by simp [flL]
theorem wrap_in {z : Int} (h : -9223372036854775808 ≤ z ∧ z ≤ 9223372036854775807) : wrap64 z = z := by unfold wrap64; omega
/-- A share of a crop, as the code computes it. -/
theorem fl_step {xs : List Ow} (h : OwBd xs) {crop : Int} (hc : 0 ≤ crop ∧ crop ≤ 1000000) (k : Nat) :
    ∃ p q r : Int, (0 ≤ p ∧ p ≤ 1000000000) ∧ wrap64 (crop * (el xs k).n) = p ∧ ¬ (el xs k).d = 0 ∧ p.tdiv (el xs k).d = q ∧ p / (el xs k).d = q ∧ wrap64 q = q ∧ (0 ≤ q ∧ q ≤ 1000000000) ∧ flN xs crop k = q ∧
      p.tmod (el xs k).d = r ∧ p % (el xs k).d = r ∧ wrap64 r = r ∧ (0 ≤ r ∧ r < 1000) ∧ rsN xs crop k = r := by
  obtain ⟨⟨h1, h2⟩, h3, h4⟩ := h k
  have m1 := Int.mul_le_mul hc.2 h2 (by omega) (by omega)
  have m2 : 0 ≤ crop * (el xs k).n := Int.mul_nonneg hc.1 (by omega)
  have q1 : 0 ≤ crop * (el xs k).n / (el xs k).d := Int.ediv_nonneg m2 (by omega)
  have q2 : crop * (el xs k).n / (el xs k).d ≤ crop * (el xs k).n := Int.ediv_le_self _ m2
  have r1 : 0 ≤ crop * (el xs k).n % (el xs k).d := Int.emod_nonneg _ (by omega)
  have r2 : crop * (el xs k).n % (el xs k).d < (el xs k).d := Int.emod_lt_of_pos _ (by omega)
  refine ⟨crop * (el xs k).n, crop * (el xs k).n / (el xs k).d, crop * (el xs k).n % (el xs k).d, ⟨m2, by omega⟩, wrap_in ⟨by omega, by omega⟩, by omega, Int.tdiv_eq_ediv_of_nonneg m2, rfl, wrap_in ⟨by omega, by omega⟩, ⟨q1, by omega⟩, rfl, Int.tmod_eq_emod_of_nonneg m2, rfl, wrap_in ⟨by omega, by omega⟩, ⟨r1, by omega⟩, rfl⟩
theorem lf_bd {xs : List Ow} (h : OwBd xs) {crop : Int} (hc : 0 ≤ crop ∧ crop ≤ 1000000) : ∀ k : Nat, k ≤ 8 → -1000000000 * (k : Int) ≤ lfN xs crop k ∧ lfN xs crop k ≤ 1000000
  | 0, _ => by simp [lfN, ltD]; omega
  | k + 1, hk => by
    obtain ⟨p, q, r, _, _, _, _, _, _, hq, e, _⟩ := fl_step h hc k
    have ih := lf_bd h hc k (by omega)
    have e2 : lfN xs crop (k + 1) = lfN xs crop k - flN xs crop k := rfl
    rw [e2, e]; omega
set_option maxHeartbeats 400000 in
theorem isCrop_any (n : Int) (w : World) : Calls Tryd.prog 72 #[.int .i64 n] w fun e w' => e = .returned (.bool (inB n 0 1000000)) ∧ w = w' := by
  go_enter Tryd.func72, Tryd.ntmps72
  go_wp2_with (go_at_call 60; refine (within_any _ _ _ _).mono ?_; rintro e w1 ⟨rfl, rfl⟩)
  go_wp2
  go_ret
  exact ⟨rfl, rfl⟩
set_option maxHeartbeats 400000 in
theorem l22Crop_any (n : Int) (w : World) : Calls Tryd.prog 70 #[.int .i64 n] w fun e w' => e = .returned (.bool (inB n 0 1000000)) ∧ w = w' := by
  go_enter Tryd.func70, Tryd.ntmps70
  go_wp2_with (go_at_call 80; refine (l1In_any _ _ _ _).mono ?_; rintro e w1 ⟨rfl, rfl⟩)
  go_wp2
  go_ret
  exact ⟨rfl, rfl⟩
set_option maxRecDepth 10000 in
set_option maxHeartbeats 8000000 in
theorem leftTons_any (A : Option Addr) (c : Nat) (xs : List Ow) (crop : Int) (w : World) (h : Rd w w.heap.size A 3 Ow.enc xs) (hx : xs.length ≤ 8) (hbd : OwBd xs) (hc : 0 ≤ crop ∧ crop ≤ 1000000) :
    Calls Tryd.prog 73 #[.slice A xs.length c, .int .i64 crop] w fun e w' => e = .returned (.int .i64 (lfN xs crop xs.length)) ∧ Below w.heap.size w w' := by
  have HX := Lib.hid h
  have HBD := Lib.hid hbd
  clear h hbd
  go_enter Tryd.func73, Tryd.ntmps73
  go_wp2_with fail
  go_loopw [5, 11] (fun v i wr => ∃ (k : Nat) (l : Int), k ≤ xs.length ∧ v = .int .i64 l ∧ i = .int .i64 k ∧ (-1000000000 * (k : Int) ≤ l ∧ l ≤ 1000000) ∧ Hid (lfN xs crop k = l) ∧ Below w.heap.size w wr) (fun _ i _ => xs.length - (intOf i).toNat)
  case atStart => exact ⟨0, crop, by omega, rfl, rfl, by omega, Lib.hid rfl, (by repeat' (first | (with_reducible exact Below.refl _ _) | (with_reducible refine Below.alloc ?_ ?_ _) | (with_reducible refine Below.setCell ?_ ?_ _) | (with_reducible refine Below.drew ?_) | (with_reducible refine Below.trans ?_ (Below.mono (by with_reducible assumption) ?_)) | omega | (simp; done) | (simp; omega)))⟩
  case round =>
    obtain ⟨k, l, hk, rfl, rfl, hl, He, hb⟩ := hrel
    have hs := hb.size
    by_cases hlt : k < xs.length
    · obtain ⟨b, o, rfl, hB', c0, c1, c2⟩ := ow_cells (HX.out.below hb) hlt
      have hB1 : b < wr.heap.size := by omega
      have hI : (k : Int) < xs.length := by omega
      have hI0 : (0 : Int) ≤ k := by omega
      obtain ⟨p, q, r, hp, e1, e2, e3, e4, e5, hq, e6, _⟩ := fl_step HBD.out hc k
      have e7 : wrap64 (l - q) = l - q := wrap_in ⟨by omega, by omega⟩
      have He' : Hid (lfN xs crop (k + 1) = l - q) := Lib.hid (show lfN xs crop k - flN xs crop k = l - q by rw [He.out, e6])
      clear e6
      go_wp2
      go_roundw
      case rel => exact ⟨k + 1, l - q, by omega, rfl, by go_num, by omega, He', (by repeat' (first | (with_reducible exact Below.refl _ _) | (with_reducible refine Below.alloc ?_ ?_ _) | (with_reducible refine Below.setCell ?_ ?_ _) | (with_reducible refine Below.drew ?_) | (with_reducible refine Below.trans ?_ (Below.mono (by with_reducible assumption) ?_)) | omega | (simp; done) | (simp; omega)))⟩
      case measure => simp [intOf] <;> omega
    · obtain rfl : k = xs.length := by omega
      have hI : ¬ ((xs.length : Nat) : Int) < xs.length := by omega
      obtain rfl := He.out
      go_wp2
      go_ret
      exact ⟨rfl, hb⟩
set_option maxRecDepth 10000 in
set_option maxHeartbeats 8000000 in
theorem l22Floors_any (A : Option Addr) (c : Nat) (xs : List Ow) (crop : Int) (w : World) (h : Rd w w.heap.size A 3 Ow.enc xs) (hx : xs.length ≤ 8) (hbd : OwBd xs) (hc : 0 ≤ crop ∧ crop ≤ 1000000) :
    Calls Tryd.prog 71 #[.slice A xs.length c, .int .i64 crop] w fun e w' => MadeAt w 3 ((flL xs crop xs.length).flatMap ie) xs.length (fun v => .returned (.tuple #[v, .int .i64 (lfN xs crop xs.length)])) e w' := by
  have HX := Lib.hid h
  have HBD := Lib.hid hbd
  clear h hbd
  obtain ⟨i0, hi, hz0, hz1, hz2⟩ := info_parts int_info
  have hinfo := Lib.hid (And.intro hi (And.intro hz0 (And.intro hz1 hz2)))
  clear hi hz0 hz1 hz2
  go_enter Tryd.func71, Tryd.ntmps71
  go_wp2_with fail
  go_loopw [6, 7, 8] (fun v l i wr => ∃ (k : Nat) (z : Int), k ≤ xs.length ∧ l = .int .i64 z ∧ i = .int .i64 k ∧ (-1000000000 * (k : Int) ≤ z ∧ z ≤ 1000000) ∧ Hid (lfN xs crop k = z) ∧ Hid (wr.ownsRow w.heap.size 3 1 v k ((flL xs crop k).flatMap ie)) ∧ Below w.heap.size w wr) (fun _ _ i _ => xs.length - (intOf i).toNat)
  case atStart => exact ⟨0, crop, by omega, rfl, rfl, by omega, Lib.hid rfl, Lib.hid (own_empty (W := _) (base := w.heap.size) (E := 3) 1 (Nat.le_refl w.heap.size) (heap_alloc_new w _)), (by repeat' (first | (with_reducible exact Below.refl _ _) | (with_reducible refine Below.alloc ?_ ?_ _) | (with_reducible refine Below.setCell ?_ ?_ _) | (with_reducible refine Below.drew ?_) | (with_reducible refine Below.trans ?_ (Below.mono (by with_reducible assumption) ?_)) | omega | (simp; done) | (simp; omega)))⟩
  case round =>
    obtain ⟨k, z, hk, rfl, rfl, hl, He, hown, hb⟩ := hrel
    have hs := hb.size
    by_cases hlt : k < xs.length
    · obtain ⟨b, o, rfl, hB', c0, c1, c2⟩ := ow_cells (HX.out.below hb) hlt
      have hB1 : b < wr.heap.size := by omega
      have hI : (k : Int) < xs.length := by omega
      have hI0 : (0 : Int) ≤ k := by omega
      obtain ⟨p, q, r, hp, e1, e2, e3, e4, e5, hq, e6, _⟩ := fl_step HBD.out hc k
      have e7 : wrap64 (z - q) = z - q := wrap_in ⟨by omega, by omega⟩
      have He' : Hid (lfN xs crop (k + 1) = z - q) := Lib.hid (show lfN xs crop k - flN xs crop k = z - q by rw [He.out, e6])
      have hsu := Lib.hid (show flL xs crop (k + 1) = flL xs crop k ++ [q] by rw [flL_succ, e6])
      clear e6
      go_wp2_with fail
      refine wp_region_quiet_below (by kernel_rfl) (by kernel_rfl) ?_
      repeat (go_big_quiet_step (fail))
      (refine wpQuiet_nil ?_; intro w1 hwq; have hb1 := of_cls hwq; clear hwq)
      (have hs1 := hb1.size; (try simp at hs1); obtain ⟨hc1, hf1, hn1⟩ := bcell hb1; (try have hz1_wr_0 : wr.heap.size < w1.heap.size := by omega); (try have hz1_wr_1 : wr.heap.size + 1 < w1.heap.size := by omega); (try have hz1_wr_2 : wr.heap.size + 2 < w1.heap.size := by omega); (try have hB1 : b < w1.heap.size := by omega); (try have hB2 : b' < w1.heap.size := by omega); (try have hz1_wr_2b : wr.heap.size + 1 + 1 < w1.heap.size := by omega); (try have hz1_w_0 : w.heap.size < w1.heap.size := by omega); (try have hz1_w_1 : w.heap.size + 1 < w1.heap.size := by omega); (try have hz1_w_2 : w.heap.size + 2 < w1.heap.size := by omega); (try have hz1_w_2b : w.heap.size + 1 + 1 < w1.heap.size := by omega))
      go_wp2_with (at_builtin; refine wpList_append_own_at _ rfl _ _ 38 rfl w.heap.size 3 _ _ 1 8 Tryd.underlying38 hinfo.out.1 hinfo.out.2.1 hinfo.out.2.2.1 hinfo.out.2.2.2 rfl (by decide) _ _ _ rfl (own_to hown.out (by repeat' (first | (with_reducible exact Below.refl _ _) | (with_reducible refine Below.alloc ?_ ?_ _) | (with_reducible refine Below.setCell ?_ ?_ _) | (with_reducible refine Below.drew ?_) | (with_reducible refine Below.trans ?_ (Below.mono (by with_reducible assumption) ?_)) | omega | (simp; done) | (simp; omega)))) _ 1 1 [.int .i64 q] rfl rfl (news_top (cs := #[.int .i64 q]) (t := 3) (by simp)) (by simp [Value.oneCell']) (by unfold maxLen; omega) (by omega) (by simp; omega) ?_)
      intro v9 w9 hown9 hgrow9 hnil9 hat9
      have hb9 : Below w.heap.size w w9 := own_grew hown.out (by repeat' (first | (with_reducible exact Below.refl _ _) | (with_reducible refine Below.alloc ?_ ?_ _) | (with_reducible refine Below.setCell ?_ ?_ _) | (with_reducible refine Below.drew ?_) | (with_reducible refine Below.trans ?_ (Below.mono (by with_reducible assumption) ?_)) | omega | (simp; done) | (simp; omega))) (by first | omega | (simp; done) | (simp; omega)) hgrow9
      have hs9 := hb9.size
      rw [← ie_snoc, ← hsu.out] at hown9
      replace hown9 := Lib.hid hown9
      clear hgrow9 hat9 hnil9
      go_wp2_with fail
      go_roundw
      case rel => exact ⟨k + 1, z - q, by omega, rfl, by go_num, by omega, He', hown9, hb9⟩
      case measure => simp [intOf]; omega
    · obtain rfl : k = xs.length := by omega
      have hI : ¬ ((xs.length : Nat) : Int) < xs.length := by omega
      obtain ⟨A9, c9, rfl, ho⟩ := OwnAt.of_own hown.out
      obtain rfl := He.out
      go_wp2_with fail
      go_ret2
      exact ⟨A9, c9, rfl, ho, hb⟩
end Go.Proofs.YtimdnihadhbjpaaDoor
