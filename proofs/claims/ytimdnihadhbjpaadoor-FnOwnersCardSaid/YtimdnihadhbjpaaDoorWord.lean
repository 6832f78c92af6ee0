/- Words: one to ten letters (chapter 2). -/
import Derived.Test.YtimdnihadhbjpaaDoorLeaf
import Derived.Test.YtimdnihadhbjpaaDoorShelf
import Derived.Shelf.Strings.SlTrimAscii
import Derived.Lib.Hide
set_option linter.unusedSimpArgs false
set_option linter.unusedVariables false
namespace Go.Proofs.YtimdnihadhbjpaaDoor
open Go.RowKit Go.Sort Go.Salt
attribute [local go_sem] cell_rg
def ltB (b : UInt8) : Bool := decide (97 ≤ b.toNat) && decide (b.toNat ≤ 122)
def wdB (s : ByteArray) : Bool := inB s.size 1 10 && s.data.toList.all ltB
/-- The letters. -/
def abc : ByteArray := ⟨#[97, 98, 99, 100, 101, 102, 103, 104, 105, 106, 107, 108, 109, 110, 111, 112, 113, 114, 115, 116, 117, 118, 119, 120, 121, 122]⟩
theorem abc_lt (b : UInt8) : (abc.data.toList.contains b) = ltB b := by
  have : ∀ n : Fin 256, (abc.data.toList.contains (UInt8.ofNat n.val)) = ltB (UInt8.ofNat n.val) := by decide +kernel
  have h := this ⟨b.toNat, b.toNat_lt⟩
  simpa using h
theorem dw_nil {α : Type} (p : α → Bool) : ∀ l : List α, l.dropWhile p = [] ↔ l.all p = true
  | [] => by simp
  | x :: l => by
    rw [List.dropWhile_cons, List.all_cons]
    cases h : p x
    · simp
    · simpa using dw_nil p l
theorem dw_head {α : Type} (p : α → Bool) : ∀ (l : List α) (x : α) (t : List α), l.dropWhile p = x :: t → p x = false
  | [], x, t, h => by simp at h
  | y :: l, x, t, h => by
    rw [List.dropWhile_cons] at h
    cases hy : p y
    · rw [hy] at h; simp at h; rw [← h.1]; exact hy
    · rw [hy] at h; simp at h; exact dw_head p l x t h
theorem trim_abc (l : List UInt8) : Lib.trimS l abc.data.toList = [] ↔ l.all ltB = true := by
  have e : (fun b => abc.data.toList.contains b) = ltB := funext abc_lt
  unfold Lib.trimS Lib.trimLeftS Lib.trimRightS
  rw [e, dw_nil]
  constructor
  · intro h
    have h1 : l.reverse.dropWhile ltB = [] := by
      cases hq : l.reverse.dropWhile ltB with
      | nil => rfl
      | cons x t =>
        have h2 := dw_head ltB _ _ _ hq
        rw [hq, List.all_reverse, List.all_cons, h2] at h
        cases h
    rw [dw_nil, List.all_reverse] at h1
    exact h1
  · intro h
    have h1 : l.reverse.dropWhile ltB = [] := by rw [dw_nil, List.all_reverse]; exact h
    rw [h1]; rfl
theorem ba_list (t : ByteArray) : t.toList = t.data.toList := by first | exact Lib.toList_data t | exact ByteArray.toList_eq t
theorem ba_nil {t : ByteArray} (h : t.toList = []) : t = ⟨#[]⟩ := by
  rw [ba_list] at h
  obtain ⟨⟨l⟩⟩ := t
  simp at h; subst h; rfl
theorem wd_no {s : ByteArray} {k : Nat} (h : k < s.size) (hn : ltB s[k] = false) : wdB s = false := by
  have : s.data.toList.all ltB = false := by
    rw [List.all_eq_false]
    exact ⟨s[k], by
      have : s[k] = s.data.toList[k]'(by simpa using h) := by simp; rfl
      rw [this]; exact List.getElem_mem _, by simpa using hn⟩
  unfold wdB; rw [this, Bool.and_false]
theorem wd_all {s : ByteArray} (h : ∀ j, (hj : j < s.size) → j < s.size → ltB s[j] = true) : wdB s = inB s.size 1 10 := by
  have : s.data.toList.all ltB = true := by
    rw [List.all_eq_true]
    intro x hx
    obtain ⟨j, hj, rfl⟩ := List.mem_iff_getElem.1 hx
    exact h j (by simpa using hj) (by simpa using hj)
  unfold wdB; rw [this, Bool.and_true]
theorem bytes_nil {l : List UInt8} : ((⟨l.toArray⟩ : ByteArray) = ⟨#[]⟩) ↔ l = [] := by
  constructor
  · intro h
    have := congrArg (fun b => b.data.toList) h
    simpa using this
  · rintro rfl; rfl
set_option maxHeartbeats 1000000 in
theorem isWord_any (s : ByteArray) (w : World) (hs : s.size ≤ 9223372036854775807) :
    Calls Tryd.prog 61 #[.string s] w fun e w' => e = .returned (.bool (wdB s)) ∧ Below w.heap.size w w' := by
  have hcon := fun W => Any.strings_Trim_laid Tryd.lays160 (by kernel_rfl) s abc W hs (by decide) (Go.Proofs.ascii_of_all (by decide))
  obtain ⟨t, ht⟩ : ∃ t : ByteArray, (⟨(Lib.trimS s.data.toList abc.data.toList).toArray⟩ : ByteArray) = t := ⟨_, rfl⟩
  rw [ht] at hcon
  have HC := Lib.hid hcon
  have HE : Hid (wdB s = (inB s.size 1 10 && decide (t = ⟨#[]⟩))) := Lib.hid (by
    unfold wdB
    congr 1
    rw [Bool.eq_iff_iff, decide_eq_true_iff, ← ht, bytes_nil, trim_abc])
  clear hcon ht
  cases h : inB s.size 1 10
  · rw [show wdB s = false by rw [HE.out, h]; rfl]
    go_enter Tryd.func61, Tryd.ntmps61
    go_wp2_with (first | (go_at_call 60; refine (within_any _ _ _ _).mono ?_; rintro e wX ⟨rfl, rfl⟩))
    go_ret
    exact ⟨rfl, (by repeat' (first | (with_reducible exact Below.refl _ _) | (with_reducible refine Below.alloc ?_ ?_ _) | (with_reducible refine Below.setCell ?_ ?_ _) | (with_reducible refine Below.drew ?_) | (with_reducible refine Below.trans ?_ (Below.mono (by with_reducible assumption) ?_)) | omega | (simp; done) | (simp; omega)))⟩
  · by_cases hq : t = ⟨#[]⟩
    · rw [show wdB s = true by rw [HE.out, h, hq]; rfl]
      subst hq
      go_enter Tryd.func61, Tryd.ntmps61
      go_wp2_with (first | (go_at_call 60; refine (within_any _ _ _ _).mono ?_; rintro e wX ⟨rfl, rfl⟩))
      (go_at_call 97; refine (HC.out _).mono ?_; rintro e w1 ⟨rfl, hb1⟩)
      (have hs1 := hb1.size; (try simp at hs1); obtain ⟨hc1, hf1, hn1⟩ := bcell hb1; (try have hz1_w_0 : w.heap.size < w1.heap.size := by omega); (try have hz1_w_1 : w.heap.size + 1 < w1.heap.size := by omega); (try have hz1_w_2 : w.heap.size + 2 < w1.heap.size := by omega); (try have hz1_w_2b : w.heap.size + 1 + 1 < w1.heap.size := by omega))
      go_wp2_with (first | (go_at_call 60; refine (within_any _ _ _ _).mono ?_; rintro e wX ⟨rfl, rfl⟩))
      go_ret
      exact ⟨rfl, (by repeat' (first | (with_reducible exact Below.refl _ _) | (with_reducible refine Below.alloc ?_ ?_ _) | (with_reducible refine Below.setCell ?_ ?_ _) | (with_reducible refine Below.drew ?_) | (with_reducible refine Below.trans ?_ (Below.mono (by with_reducible assumption) ?_)) | omega | (simp; done) | (simp; omega)))⟩
    · rw [show wdB s = false by rw [HE.out, h]; simp [hq]]
      have hne : t.toList.isEmpty = false := by
        cases hm : t.toList with
        | nil => exact absurd (ba_nil hm) hq
        | cons x r => rfl
      go_enter Tryd.func61, Tryd.ntmps61
      go_wp2_with (first | (go_at_call 60; refine (within_any _ _ _ _).mono ?_; rintro e wX ⟨rfl, rfl⟩))
      (go_at_call 97; refine (HC.out _).mono ?_; rintro e w1 ⟨rfl, hb1⟩)
      (have hs1 := hb1.size; (try simp at hs1); obtain ⟨hc1, hf1, hn1⟩ := bcell hb1; (try have hz1_w_0 : w.heap.size < w1.heap.size := by omega); (try have hz1_w_1 : w.heap.size + 1 < w1.heap.size := by omega); (try have hz1_w_2 : w.heap.size + 2 < w1.heap.size := by omega); (try have hz1_w_2b : w.heap.size + 1 + 1 < w1.heap.size := by omega))
      go_wp2_with (first | (go_at_call 60; refine (within_any _ _ _ _).mono ?_; rintro e wX ⟨rfl, rfl⟩))
      go_ret
      exact ⟨rfl, (by repeat' (first | (with_reducible exact Below.refl _ _) | (with_reducible refine Below.alloc ?_ ?_ _) | (with_reducible refine Below.setCell ?_ ?_ _) | (with_reducible refine Below.drew ?_) | (with_reducible refine Below.trans ?_ (Below.mono (by with_reducible assumption) ?_)) | omega | (simp; done) | (simp; omega)))⟩
set_option maxHeartbeats 1000000 in
theorem l2Word_any (s : ByteArray) (w : World) (hs : s.size ≤ 9223372036854775807) :
    Calls Tryd.prog 96 #[.string s] w fun e w' => e = .returned (.bool (wdB s)) ∧ Below w.heap.size w w' := by
  go_enter Tryd.func96, Tryd.ntmps96
  go_wp2
  go_loopw [3] (fun i wr => ∃ k : Nat, k ≤ s.size ∧ i = .int .i64 k ∧ Below w.heap.size w wr ∧ Hid (∀ j, (h : j < s.size) → j < k → ltB s[j] = true)) (fun i _ => s.size - (intOf i).toNat)
  case atStart => exact ⟨0, Nat.zero_le _, rfl, Below.refl _ _, fun j h hj => absurd hj (by omega)⟩
  case round =>
    obtain ⟨k, hk, rfl, hb, Hall⟩ := hrel
    have hsw := hb.size
    by_cases hlt : k < s.size
    · have hI : (k : Int) < s.size := by omega
      have hI0 : (0 : Int) ≤ k := by omega
      by_cases h1 : (s[k].toNat : Int) < 97
      · have hno := Lib.hid (wd_no hlt (show ltB s[k] = false by unfold ltB; rw [decide_eq_false (by omega)]; rfl))
        go_wp2
        go_ret
        exact ⟨by rw [hno.out]; rfl, hb⟩
      · by_cases h2 : 122 < (s[k].toNat : Int)
        · have hno := Lib.hid (wd_no hlt (show ltB s[k] = false by unfold ltB; rw [decide_eq_false (p := s[k].toNat ≤ 122) (by omega), Bool.and_false]))
          go_wp2
          go_ret
          exact ⟨by rw [hno.out]; rfl, hb⟩
        · have hyes := Lib.hid (show ltB s[k] = true by unfold ltB; rw [decide_eq_true (by omega), decide_eq_true (by omega)]; rfl)
          go_wp2
          go_roundw
          case rel => exact ⟨k + 1, by omega, by go_num, hb, fun j h hj => by
            by_cases e : j = k
            · subst e; exact hyes.out
            · exact Hall.out j h (by omega)⟩
          case measure => simp [intOf]; omega
    · obtain rfl : k = s.size := by omega
      have hI : ¬ ((s.size : Nat) : Int) < s.size := by omega
      go_wp2_with (go_at_call 80; refine (l1In_any _ _ _ _).mono ?_; rintro e w1 ⟨rfl, rfl⟩)
      go_ret
      exact ⟨by rw [wd_all Hall.out]; rfl, hb⟩
end Go.Proofs.YtimdnihadhbjpaaDoor
