/- Reading numbers: impl.digitsOf and spec.l2Read (chapter 2). -/
import Derived.Test.YtocaodoagiokjaaDoorBrnMath
import Derived.Test.YtocaodoagiokjaaDoorWord
set_option linter.unusedSimpArgs false
set_option linter.unusedVariables false
namespace Go.Proofs.YtocaodoagiokjaaDoor
open Go.RowKit Go.Sort Go.Salt
attribute [local go_sem] cell_rg
theorem trim_set {cs : List UInt8} {p : UInt8 → Bool} (h : ∀ b, cs.contains b = p b) (l : List UInt8) : Lib.trimS l cs = [] ↔ l.all p = true := by
  have e : (fun b => cs.contains b) = p := funext h
  unfold Lib.trimS Lib.trimLeftS Lib.trimRightS
  rw [e, dw_nil]
  constructor
  · intro h
    have h1 : l.reverse.dropWhile p = [] := by
      cases hq : l.reverse.dropWhile p with
      | nil => rfl
      | cons x t =>
        have h2 := dw_head p _ _ _ hq
        rw [hq, List.all_reverse, List.all_cons, h2] at h
        cases h
    rw [dw_nil, List.all_reverse] at h1
    exact h1
  · intro h
    have h1 : l.reverse.dropWhile p = [] := by rw [dw_nil, List.all_reverse]; exact h
    rw [h1]; rfl
/-- The digits. -/
def dg10 : ByteArray := ⟨#[48, 49, 50, 51, 52, 53, 54, 55, 56, 57]⟩
theorem dg10_has (b : UInt8) : (dg10.data.toList.contains b) = dgB b := by
  have : ∀ n : Fin 256, (dg10.data.toList.contains (UInt8.ofNat n.val)) = dgB (UInt8.ofNat n.val) := by decide +kernel
  have h := this ⟨b.toNat, b.toNat_lt⟩
  simpa using h
theorem ne_empty {s : ByteArray} (h : ¬ s.size = 0) : s.toList.isEmpty = false := by
  rw [ba_list]
  cases hl : s.data.toList with
  | nil => exact absurd (by have := congrArg List.length hl; simpa using this) h
  | cons x r => rfl
theorem sz_nil {s : ByteArray} (h : s.size = 0) : s = ⟨#[]⟩ := by
  refine ba_nil ?_
  rw [ba_list]
  exact List.eq_nil_of_length_eq_zero (by simpa using h)
theorem all_at {s : ByteArray} (h : s.data.toList.all dgB = true) {j : Nat} (hj : j < s.size) : dgB s[j] = true := List.all_eq_true.1 h _ (List.mem_of_getElem? (bt_get hj))
theorem all_no {s : ByteArray} (h : ¬ s.data.toList.all dgB = true) : rdI s = -1 := by
  unfold rdI
  rw [if_neg (fun hx => h hx.2.2)]
theorem dgB_iff {b : UInt8} : dgB b = true ↔ 48 ≤ b.toNat ∧ b.toNat ≤ 57 := by simp [dgB]
set_option maxHeartbeats 4000000 in
theorem digitsOf_any (s : ByteArray) (w : World) (hs : s.size ≤ 1000) :
    Calls Tryd.prog 26 #[.string s] w fun e w' => e = .returned (.int .i64 (rdI s)) ∧ Below w.heap.size w w' := by
  by_cases h0 : s.size = 0
  · have e0 := sz_nil h0
    subst e0
    rw [rdI_empty rfl]
    go_enter Tryd.func26, Tryd.ntmps26
    go_wp2_with fail
    go_ret
    exact ⟨rfl, (by repeat' (first | (with_reducible exact Below.refl _ _) | (with_reducible refine Below.alloc ?_ ?_ _) | (with_reducible refine Below.setCell ?_ ?_ _) | (with_reducible refine Below.drew ?_) | (with_reducible refine Below.trans ?_ (Below.mono (by with_reducible assumption) ?_)) | omega | (simp; done) | (simp; omega)))⟩
  · have hne := ne_empty h0
    by_cases h7 : 7 < s.size
    · have h7i : (7 : Int) < s.size := by omega
      rw [rdI_long h7]
      go_enter Tryd.func26, Tryd.ntmps26
      go_wp2_with fail
      go_ret
      exact ⟨rfl, (by repeat' (first | (with_reducible exact Below.refl _ _) | (with_reducible refine Below.alloc ?_ ?_ _) | (with_reducible refine Below.setCell ?_ ?_ _) | (with_reducible refine Below.drew ?_) | (with_reducible refine Below.trans ?_ (Below.mono (by with_reducible assumption) ?_)) | omega | (simp; done) | (simp; omega)))⟩
    · have h7i : ¬ (7 : Int) < s.size := by omega
      have hcon := fun W => Any.strings_Trim_laid Tryd.lays160 (by kernel_rfl) s dg10 W (by omega) (by decide) (Go.Proofs.ascii_of_all (by decide))
      obtain ⟨t, ht⟩ : ∃ t : ByteArray, (⟨(Lib.trimS s.data.toList dg10.data.toList).toArray⟩ : ByteArray) = t := ⟨_, rfl⟩
      rw [ht] at hcon
      have HC := Lib.hid hcon
      have he : t = ⟨#[]⟩ ↔ s.data.toList.all dgB = true := by rw [← ht, bytes_nil, trim_set dg10_has]
      clear hcon ht
      by_cases hq : s.data.toList.all dgB = true
      · have e1 := he.2 hq
        subst e1
        have HQ := Lib.hid hq
        have HR := Lib.hid (rdI_good (s := s) (by omega) (by omega) (fun j hj _ => all_at hq hj))
        clear he hq
        go_enter Tryd.func26, Tryd.ntmps26
        go_wp2_with fail
        (go_at_call 51; refine (HC.out _).mono ?_; rintro e w1 ⟨rfl, hb1⟩)
        (have hs1 := hb1.size; (try simp at hs1); obtain ⟨hc1, hf1, hn1⟩ := bcell hb1; (try have hz1_w_0 : w.heap.size < w1.heap.size := by omega); (try have hz1_w_1 : w.heap.size + 1 < w1.heap.size := by omega); (try have hz1_w_2 : w.heap.size + 2 < w1.heap.size := by omega); (try have hz1_w_2b : w.heap.size + 1 + 1 < w1.heap.size := by omega))
        go_wp2_with fail
        go_loopw [3, 19] (fun x i wr => ∃ k : Nat, k ≤ s.size ∧ i = .int .i64 k ∧ x = .int .i64 (vT s k) ∧ Below w.heap.size w wr) (fun _ i _ => s.size - (intOf i).toNat)
        case atStart => exact ⟨0, Nat.zero_le _, rfl, rfl, (by repeat' (first | (with_reducible exact Below.refl _ _) | (with_reducible refine Below.alloc ?_ ?_ _) | (with_reducible refine Below.setCell ?_ ?_ _) | (with_reducible refine Below.drew ?_) | (with_reducible refine Below.trans ?_ (Below.mono (by with_reducible assumption) ?_)) | omega | (simp; done) | (simp; omega)))⟩
        case round =>
          obtain ⟨k, hk, rfl, rfl, hb⟩ := hrel
          have hsw := hb.size
          by_cases hlt : k < s.size
          · have hI : (k : Int) < s.size := by omega
            have hI0 : (0 : Int) ≤ k := by omega
            have hd := dgB_iff.1 (all_at HQ.out hlt)
            have hv := vT_bd (s := s) (k := k) hk (by omega) (fun j hj _ => all_at HQ.out hj)
            have HS := Lib.hid (vT_succ hlt)
            go_wp2
            go_roundw
            case rel => exact ⟨k + 1, by omega, by go_num, by rw [HS.out], hb⟩
            case measure => simp [intOf]; omega
          · obtain rfl : k = s.size := by omega
            have hI : ¬ ((s.size : Nat) : Int) < s.size := by omega
            go_wp2
            go_ret
            exact ⟨by rw [HR.out]; rfl, hb⟩
      · rw [all_no hq]
        have hne2 : t.toList.isEmpty = false := by
          cases hm : t.toList with
          | nil => exact absurd (he.1 (ba_nil hm)) hq
          | cons x r => rfl
        clear he hq
        go_enter Tryd.func26, Tryd.ntmps26
        go_wp2_with fail
        (go_at_call 51; refine (HC.out _).mono ?_; rintro e w1 ⟨rfl, hb1⟩)
        (have hs1 := hb1.size; (try simp at hs1); obtain ⟨hc1, hf1, hn1⟩ := bcell hb1; (try have hz1_w_0 : w.heap.size < w1.heap.size := by omega); (try have hz1_w_1 : w.heap.size + 1 < w1.heap.size := by omega); (try have hz1_w_2 : w.heap.size + 2 < w1.heap.size := by omega); (try have hz1_w_2b : w.heap.size + 1 + 1 < w1.heap.size := by omega))
        go_wp2_with fail
        go_ret
        exact ⟨rfl, (by repeat' (first | (with_reducible exact Below.refl _ _) | (with_reducible refine Below.alloc ?_ ?_ _) | (with_reducible refine Below.setCell ?_ ?_ _) | (with_reducible refine Below.drew ?_) | (with_reducible refine Below.trans ?_ (Below.mono (by with_reducible assumption) ?_)) | omega | (simp; done) | (simp; omega)))⟩
set_option maxHeartbeats 4000000 in
theorem l2Read_any (s : ByteArray) (w : World) (hs : s.size ≤ 1000) :
    Calls Tryd.prog 34 #[.string s] w fun e w' => e = .returned (.int .i64 (rdI s)) ∧ Below w.heap.size w w' := by
  go_enter Tryd.func34, Tryd.ntmps34
  go_wp2
  go_loopw [3, 4] (fun x i wr => ∃ k : Nat, k ≤ s.size ∧ k ≤ 7 ∧ i = .int .i64 k ∧ x = .int .i64 (vT s k) ∧ Below w.heap.size w wr ∧ Hid (∀ j, (h : j < s.size) → j < k → dgB s[j] = true)) (fun _ i _ => s.size - (intOf i).toNat)
  case atStart => exact ⟨0, Nat.zero_le _, by omega, rfl, rfl, Below.refl _ _, fun j h hj => absurd hj (by omega)⟩
  case round =>
    obtain ⟨k, hk, hk7, rfl, rfl, hb, Hall⟩ := hrel
    have hsw := hb.size
    by_cases hlt : k < s.size
    · have hI : (k : Int) < s.size := by omega
      have hI0 : (0 : Int) ≤ k := by omega
      by_cases h1 : (s[k].toNat : Int) < 48
      · have hno := Lib.hid (rdI_bad hlt (show dgB s[k] = false by unfold dgB; rw [decide_eq_false (by omega)]; rfl))
        go_wp2
        go_ret
        exact ⟨by rw [hno.out]; rfl, hb⟩
      · by_cases h2 : 57 < (s[k].toNat : Int)
        · have hno := Lib.hid (rdI_bad hlt (show dgB s[k] = false by unfold dgB; rw [decide_eq_false (p := s[k].toNat ≤ 57) (by omega), Bool.and_false]))
          go_wp2
          go_ret
          exact ⟨by rw [hno.out]; rfl, hb⟩
        · by_cases h6 : 6 < k
          · have h6i : (6 : Int) < k := by omega
            have hno := Lib.hid (rdI_long (s := s) (by omega))
            go_wp2
            go_ret
            exact ⟨by rw [hno.out]; rfl, hb⟩
          · have h6i : ¬ (6 : Int) < k := by omega
            have hyes := Lib.hid (dgB_iff.2 (show 48 ≤ s[k].toNat ∧ s[k].toNat ≤ 57 by omega))
            have hv := vT_bd (s := s) (k := k) hk (by omega) Hall.out
            have HS := Lib.hid (vT_succ hlt)
            go_wp2
            go_roundw
            case rel => exact ⟨k + 1, by omega, by omega, by go_num, by rw [HS.out]; congr 1; omega, hb, fun j h hj => by
              by_cases e : j = k
              · subst e; exact hyes.out
              · exact Hall.out j h (by omega)⟩
            case measure => simp [intOf]; omega
    · obtain rfl : k = s.size := by omega
      have hI : ¬ ((s.size : Nat) : Int) < s.size := by omega
      by_cases h0 : s.size = 0
      · have h0i : (s.size : Int) = 0 := by omega
        have hno := Lib.hid (rdI_empty h0)
        go_wp2
        go_ret
        exact ⟨by rw [hno.out]; rfl, hb⟩
      · have h0i : ¬ (s.size : Int) = 0 := by omega
        have HR := Lib.hid (rdI_good (s := s) (by omega) (by omega) (fun j hj _ => Hall.out j hj hj))
        go_wp2
        go_ret
        exact ⟨by rw [HR.out]; rfl, hb⟩
end Go.Proofs.YtocaodoagiokjaaDoor
