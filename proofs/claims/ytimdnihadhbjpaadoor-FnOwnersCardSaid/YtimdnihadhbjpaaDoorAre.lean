/- Owners: where one stands, which lists are owners (chapter 22). -/
import Derived.Test.YtimdnihadhbjpaaDoorCmpS
import Derived.Test.YtimdnihadhbjpaaDoorFrac
import Derived.Test.YtimdnihadhbjpaaDoorWord
set_option linter.unusedSimpArgs false
set_option linter.unusedVariables false
namespace Go.Proofs.YtimdnihadhbjpaaDoor
open Go.RowKit Go.Sort Go.Salt
attribute [local go_sem] cell_rg
/-- Where the first owner of that name stands among the first k; -1: none. -/
def owAtN (xs : List Ow) (s : ByteArray) : Nat → Int
  | 0 => -1
  | k + 1 => if 0 ≤ owAtN xs s k then owAtN xs s k else if (el xs k).s = s then (k : Int) else -1
theorem owAtN_none {xs : List Ow} {s : ByteArray} : ∀ {k : Nat}, (∀ j, j < k → (el xs j).s ≠ s) → owAtN xs s k = -1
  | 0, _ => rfl
  | k + 1, h => by
    rw [owAtN, owAtN_none (k := k) (fun j hj => h j (by omega)), if_neg (by omega), if_neg (h k (by omega))]
theorem owAtN_first {xs : List Ow} {s : ByteArray} {j : Nat} (h1 : (el xs j).s = s) (h2 : ∀ i, i < j → (el xs i).s ≠ s) : ∀ {k : Nat}, j < k → owAtN xs s k = j
  | 0, h => by omega
  | k + 1, h => by
    by_cases e : j = k
    · subst e; rw [owAtN, owAtN_none h2, if_neg (by omega), if_pos h1]
    · rw [owAtN, owAtN_first h1 h2 (k := k) (by omega), if_pos (by omega)]
theorem owAtN_neg {xs : List Ow} {s : ByteArray} : ∀ {k : Nat}, owAtN xs s k < 0 → owAtN xs s k = -1 ∧ ∀ j, j < k → (el xs j).s ≠ s
  | 0, _ => ⟨rfl, fun j hj => by omega⟩
  | k + 1, h => by
    rw [owAtN] at h ⊢
    split at h
    · omega
    · rename_i h0
      rw [if_neg h0]
      split at h
      · omega
      · rename_i h1
        rw [if_neg h1]
        have := (owAtN_neg (xs := xs) (s := s) (k := k) (by omega)).2
        exact ⟨rfl, fun j hj => by
          by_cases e : j = k
          · subst e; exact h1
          · exact this j (by omega)⟩
theorem owAtN_pos {xs : List Ow} {s : ByteArray} : ∀ {k : Nat}, 0 ≤ owAtN xs s k → ∃ j, j < k ∧ owAtN xs s k = j ∧ (el xs j).s = s
  | 0, h => by simp [owAtN] at h
  | k + 1, h => by
    rw [owAtN] at h ⊢
    split at h
    · rename_i h0
      obtain ⟨j, h1, h2, h3⟩ := owAtN_pos (k := k) h0
      exact ⟨j, by omega, by rw [if_pos h0]; exact h2, h3⟩
    · rename_i h0
      split at h
      · rename_i h1
        exact ⟨k, by omega, by rw [if_neg h0, if_pos h1], h1⟩
      · omega
theorem owAtN_ge {xs : List Ow} {s : ByteArray} {k : Nat} : -1 ≤ owAtN xs s k ∧ owAtN xs s k < k := by
  by_cases h : 0 ≤ owAtN xs s k
  · obtain ⟨j, h1, h2, _⟩ := owAtN_pos h; omega
  · have := (owAtN_neg (xs := xs) (s := s) (k := k) (by omega)).1; omega
theorem ba_iff {s t : ByteArray} : s.toList = t.toList ↔ s = t := by
  constructor
  · intro h
    rw [ba_list, ba_list] at h
    obtain ⟨⟨a⟩⟩ := s
    obtain ⟨⟨b⟩⟩ := t
    simp at h; subst h; rfl
  · rintro rfl; rfl
theorem ba_beq {s t : ByteArray} (h : s ≠ t) : (s.toList == t.toList) = false := by
  rw [beq_eq_false_iff_ne]; exact fun e => h (ba_iff.1 e)
theorem el_take {α : Type} [Inhabited α] {xs : List α} {i j : Nat} (h : j < i) (hi : i ≤ xs.length) : el (xs.take i) j = el xs j := by
  rw [el_get (by rw [List.length_take]; omega), el_get (by omega)]; simp
theorem owAtN_take {xs : List Ow} {s : ByteArray} {i : Nat} (hi : i ≤ xs.length) : ∀ {k : Nat}, k ≤ i → owAtN (xs.take i) s k = owAtN xs s k
  | 0, _ => rfl
  | k + 1, h => by rw [owAtN, owAtN, owAtN_take hi (k := k) (by omega), el_take (by omega) hi]
theorem rd_take {α : Type} [Inhabited α] {w : World} {B k : Nat} {A : Option Addr} {enc : α → List Value} {xs : List α} (h : Rd w B A k enc xs) {i : Nat} (hi : i ≤ xs.length) : Rd w B A k enc (xs.take i) := fun hp => by
  rw [List.length_take] at hp
  obtain ⟨b, o, e, hb, hc⟩ := h (by omega)
  refine ⟨b, o, e, hb, fun j hj => ?_⟩
  rw [List.length_take] at hj
  rw [el_take (by omega) hi]
  exact hc j (by omega)
set_option maxHeartbeats 1000000 in
theorem atFn_any (s : ByteArray) (n d : Int) (g : Nat) (t : ByteArray) (w : World) (hg : w.cell? ⟨g, 0, none⟩ = some (.string t)) (hl : g < w.heap.size) :
    Calls Tryd.prog 100 #[.agg #[.string s, .int .i64 n, .int .i64 d], .pointer (some ⟨g, 0, none⟩)] w fun e w' => e = .returned (.bool (decide (s = t))) ∧ Below w.heap.size w w' := by
  by_cases hq : s = t
  all_goals
    go_enter Tryd.func100, Tryd.ntmps100
    go_wp2
    go_ret
    exact ⟨by simp [hq, ba_iff], (by repeat' (first | (with_reducible exact Below.refl _ _) | (with_reducible refine Below.alloc ?_ ?_ _) | (with_reducible refine Below.setCell ?_ ?_ _) | (with_reducible refine Below.drew ?_) | (with_reducible refine Below.trans ?_ (Below.mono (by with_reducible assumption) ?_)) | omega | (simp; done) | (simp; omega)))⟩
set_option maxHeartbeats 4000000 in
theorem idxOw_any (A : Option Addr) (c : Nat) (xs : List Ow) (g : Nat) (t : ByteArray) (w : World) (h : Rd w w.heap.size A 3 Ow.enc xs) (hx : xs.length ≤ 1048576) (hg : Row w g 9 [.string t]) :
    Calls Tryd.prog 99 #[.slice A xs.length c, .func (.func 100) #[] #[.pointer (some ⟨g, 0, none⟩)]] w fun e w' => e = .returned (.int .i64 (owAtN xs t xs.length)) ∧ Below w.heap.size w w' := by
  have eg := enters_of Tryd.func100 (by kernel_rfl) rfl
  have HG := Lib.hid hg
  clear hg
  go_enter Tryd.func99, Tryd.ntmps99
  go_wp2
  go_loopw [8] (fun i wr => ∃ k : Nat, k ≤ xs.length ∧ i = .int .i64 k ∧ Below w.heap.size w wr ∧ Hid (∀ j, j < k → (el xs j).s ≠ t)) (fun i _ => xs.length - (intOf i).toNat)
  case atStart => exact ⟨0, Nat.zero_le _, rfl, Below.refl _ _, fun i hi => by omega⟩
  case round =>
    obtain ⟨k, hk, rfl, hb, Hall⟩ := hrel
    by_cases hlt : k < xs.length
    · obtain ⟨b, o, rfl, hB2, c0, c1, c2⟩ := ow_cells (h.below hb) hlt
      have hs := hb.size
      have hB1 : b < wr.heap.size := by omega
      have hI : (k : Int) < xs.length := by omega
      have hI0 : (0 : Int) ≤ k := by omega
      have hgr := HG.out.to hb
      have hcall := atFn_any (el xs k).s (el xs k).n (el xs k).d g t wr (hgr.cell (j := 0) (by simp)) hgr.lt
      clear hgr
      by_cases hq : (el xs k).s = t
      · rw [decide_eq_true hq] at hcall
        have Hq := Lib.hid (owAtN_first hq Hall.out hlt)
        clear hq
        go_wp2_with fail
        refine hcall.mono ?_
        rintro e w1 ⟨rfl, hb1⟩
        have hs1 := hb1.size
        go_wp2
        go_ret
        exact ⟨by rw [Hq.out]; rfl, (by repeat' (first | (with_reducible exact Below.refl _ _) | (with_reducible refine Below.alloc ?_ ?_ _) | (with_reducible refine Below.setCell ?_ ?_ _) | (with_reducible refine Below.drew ?_) | (with_reducible refine Below.trans ?_ (Below.mono (by with_reducible assumption) ?_)) | omega | (simp; done) | (simp; omega)))⟩
      · rw [decide_eq_false hq] at hcall
        have Hq := Lib.hid hq
        clear hq
        go_wp2_with fail
        refine hcall.mono ?_
        rintro e w1 ⟨rfl, hb1⟩
        have hs1 := hb1.size
        go_wp2
        go_roundw
        case rel => exact ⟨k + 1, by omega, by go_num, (by repeat' (first | (with_reducible exact Below.refl _ _) | (with_reducible refine Below.alloc ?_ ?_ _) | (with_reducible refine Below.setCell ?_ ?_ _) | (with_reducible refine Below.drew ?_) | (with_reducible refine Below.trans ?_ (Below.mono (by with_reducible assumption) ?_)) | omega | (simp; done) | (simp; omega))), fun j hj => by
          by_cases e : j = k
          · subst e; exact Hq.out
          · exact Hall.out j (by omega)⟩
        case measure => simp [intOf]; omega
    · obtain rfl : k = xs.length := by omega
      have Hq := Lib.hid (owAtN_none Hall.out)
      go_wp2
      go_ret
      exact ⟨by rw [Hq.out]; rfl, hb⟩
set_option maxHeartbeats 1000000 in
theorem ownerAt_any (A : Option Addr) (c n : Nat) (xs : List Ow) (t : ByteArray) (w : World) (h : Rd w w.heap.size A 3 Ow.enc xs) (hx : xs.length ≤ 1048576) (hn : xs.length = n) :
    Calls Tryd.prog 64 #[.slice A n c, .string t] w fun e w' => e = .returned (.int .i64 (owAtN xs t n)) ∧ Below w.heap.size w w' := by
  subst hn
  have HX := Lib.hid h
  clear h
  go_enter Tryd.func64, Tryd.ntmps64
  go_wp2_with fail
  refine (idxOw_any A c xs w.heap.size t _ (HX.out.to (by repeat' (first | (with_reducible exact Below.refl _ _) | (with_reducible refine Below.alloc ?_ ?_ _) | (with_reducible refine Below.setCell ?_ ?_ _) | (with_reducible refine Below.drew ?_) | (with_reducible refine Below.trans ?_ (Below.mono (by with_reducible assumption) ?_)) | omega | (simp; done) | (simp; omega)))) hx (by first | exact Row.new _ _ _ | exact (Row.new _ _ _).to (by repeat' (first | (with_reducible exact Below.refl _ _) | (with_reducible refine Below.alloc ?_ ?_ _) | (with_reducible refine Below.setCell ?_ ?_ _) | (with_reducible refine Below.drew ?_) | (with_reducible refine Below.trans ?_ (Below.mono (by with_reducible assumption) ?_)) | omega | (simp; done) | (simp; omega))))).mono ?_
  rintro e w1 ⟨rfl, hb1⟩
  have hs1 := hb1.size
  go_wp2
  go_ret
  exact ⟨rfl, (by repeat' (first | (with_reducible exact Below.refl _ _) | (with_reducible refine Below.alloc ?_ ?_ _) | (with_reducible refine Below.setCell ?_ ?_ _) | (with_reducible refine Below.drew ?_) | (with_reducible refine Below.trans ?_ (Below.mono (by with_reducible assumption) ?_)) | omega | (simp; done) | (simp; omega)))⟩
set_option maxHeartbeats 4000000 in
theorem l22Find_any (A : Option Addr) (c : Nat) (xs : List Ow) (t : ByteArray) (w : World) (h : Rd w w.heap.size A 3 Ow.enc xs) (hx : xs.length ≤ 1048576) :
    Calls Tryd.prog 68 #[.slice A xs.length c, .string t] w fun e w' => e = .returned (.int .i64 (owAtN xs t xs.length)) ∧ Below w.heap.size w w' := by
  go_enter Tryd.func68, Tryd.ntmps68
  go_wp2
  go_loopw [5] (fun i wr => ∃ k : Nat, k ≤ xs.length ∧ i = .int .i64 k ∧ Below w.heap.size w wr ∧ Hid (∀ j, j < k → (el xs j).s ≠ t)) (fun i _ => xs.length - (intOf i).toNat)
  case atStart => exact ⟨0, Nat.zero_le _, rfl, Below.refl _ _, fun i hi => by omega⟩
  case round =>
    obtain ⟨k, hk, rfl, hb, Hall⟩ := hrel
    have hs := hb.size
    by_cases hlt : k < xs.length
    · obtain ⟨b, o, rfl, hB2, c0, c1, c2⟩ := ow_cells (h.below hb) hlt
      have hB1 : b < wr.heap.size := by omega
      have hI : (k : Int) < xs.length := by omega
      have hI0 : (0 : Int) ≤ k := by omega
      by_cases hq : (el xs k).s = t
      · have Hq := Lib.hid (owAtN_first hq Hall.out hlt)
        have hq2 : (el xs k).s.toList = t.toList := ba_iff.2 hq
        go_wp2
        go_ret
        exact ⟨by rw [Hq.out]; rfl, hb⟩
      · have Hq := Lib.hid hq
        have hq2 : ((el xs k).s.toList == t.toList) = false := ba_beq hq
        clear hq
        go_wp2
        go_roundw
        case rel => exact ⟨k + 1, by omega, by go_num, (by repeat' (first | (with_reducible exact Below.refl _ _) | (with_reducible refine Below.alloc ?_ ?_ _) | (with_reducible refine Below.setCell ?_ ?_ _) | (with_reducible refine Below.drew ?_) | (with_reducible refine Below.trans ?_ (Below.mono (by with_reducible assumption) ?_)) | omega | (simp; done) | (simp; omega))), fun j hj => by
          by_cases e : j = k
          · subst e; exact Hq.out
          · exact Hall.out j (by omega)⟩
        case measure => simp [intOf]; omega
    · obtain rfl : k = xs.length := by omega
      have hI : ¬ ((xs.length : Nat) : Int) < xs.length := by omega
      have Hq := Lib.hid (owAtN_none Hall.out)
      go_wp2
      go_ret
      exact ⟨by rw [Hq.out]; rfl, hb⟩
end Go.Proofs.YtimdnihadhbjpaaDoor
