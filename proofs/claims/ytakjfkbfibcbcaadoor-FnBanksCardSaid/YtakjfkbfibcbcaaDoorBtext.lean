/- The text of a break (chapter 23). -/
import Derived.Test.YtakjfkbfibcbcaaDoorShelf
import Derived.Test.YtakjfkbfibcbcaaDoorNum
import Derived.Test.YtakjfkbfibcbcaaDoorBreak
set_option linter.unusedSimpArgs false
set_option linter.unusedVariables false
namespace Go.Proofs.YtakjfkbfibcbcaaDoor
open Go.RowKit Go.Sort Go.Salt
attribute [local go_sem] cell_rg
abbrev sPond : ByteArray := ⟨#[112, 111, 110, 100, 32]⟩
abbrev sCol : ByteArray := ⟨#[58, 32]⟩
abbrev sSla : ByteArray := ⟨#[47]⟩
abbrev sM : ByteArray := ⟨#[32, 109]⟩
abbrev sBang : ByteArray := ⟨#[33]⟩
def btHead (p d m : Int) : ByteArray := sPond ++ numS p ++ sCol ++ numS d ++ sSla ++ numS m ++ sM
/-- So many exclamation marks. -/
def rpS (g : Int) : ByteArray := ⟨(Lib.repeatL [33] g.toNat).toArray⟩
theorem rpS_size {g : Int} (h : g ≤ 3) : (rpS g).size ≤ 3 := by
  have := Lib.repeatL_length [33] g.toNat
  show (Lib.repeatL [33] g.toNat).toArray.size ≤ 3
  simp [this]; omega
theorem rep_succ : ∀ c, Lib.repeatL [33] c ++ [33] = Lib.repeatL [33] (c + 1)
  | 0 => rfl
  | c + 1 => by
    have := rep_succ c
    simp only [Lib.repeatL, List.append_assoc, List.cons_append, List.nil_append] at this ⊢
    rw [this]
theorem str_nil (x : ByteArray) : x = x ++ ⟨#[]⟩ := by
  apply ByteArray.ext
  simp
theorem rpS_zero : rpS 0 = ⟨#[]⟩ := rfl
theorem rpS_succ (s : ByteArray) {j : Int} (h : 0 ≤ j) : s ++ rpS j ++ sBang = s ++ rpS (j + 1) := by
  rw [ByteArray.append_assoc]
  congr 1
  unfold rpS
  rw [show (j + 1).toNat = j.toNat + 1 by omega]
  apply ByteArray.ext
  simp [← rep_succ]
def btS (p d m g : Int) : ByteArray := btHead p d m ++ rpS g
set_option maxHeartbeats 400000 in
theorem decimal_small (z : Int) (w : World) (h0 : 0 ≤ z) (h1 : z < 100) : Calls Tryd.prog 27 #[.int .i64 z] w fun e w' => e = .returned (.string (numS z)) ∧ w = w' := by
  obtain ⟨i, rfl⟩ : ∃ i : Nat, z = i := ⟨z.toNat, by omega⟩
  have h := Tryd.strconv_Itoa_small i (by omega)
  have H := Lib.hid (show (⟨(Lib.decDigits i).toArray⟩ : ByteArray) = numS (i : Int) by simp [numS])
  go_enter Tryd.func27, Tryd.ntmps27
  go_wp2_with fail
  refine (h w).mono ?_
  rintro e w1 ⟨rfl, rfl⟩
  go_wp2_with fail
  go_ret
  exact ⟨ret_str H.out, rfl⟩
set_option maxHeartbeats 4000000 in
theorem iBreakText_yes (i p m g t d : Int) (w : World) (hOK : brkOK i p m g t d = true) (hb : (1 ≤ p ∧ p ≤ 99) ∧ (1 ≤ m ∧ m ≤ 60) ∧ (1 ≤ g ∧ g ≤ 3) ∧ (0 ≤ d ∧ d ≤ m)) :
    Calls Tryd.prog 7 #[.agg #[.int .i64 i, .int .i64 p, .int .i64 m, .int .i64 g, .int .i64 t, .int .i64 d]] w fun e w' => e = .returned (.tuple #[.string (btS p d m g), .bool true]) ∧ Below w.heap.size w w' := by
  obtain ⟨⟨p0, p1⟩, ⟨m0, m1⟩, ⟨g0, g1⟩, d0, d1⟩ := hb
  have z1 := numS_size (z := p) (by omega)
  have z2 := numS_size (z := m) (by omega)
  have z3 := numS_size (z := d) (by omega)
  obtain ⟨k, hk⟩ : ∃ k : Nat, g = k := ⟨g.toNat, by omega⟩
  have hrep : ∀ W, Calls Tryd.prog 28 #[.string sBang, .int .i64 g] W fun e w' => e = .returned (.string (rpS g)) ∧ Below W.heap.size W w' := fun W => by
    rw [hk]
    exact Tryd.strings_Repeat sBang k W (by omega) (by have : sBang.size = 1 := rfl; rw [this]; omega)
  have z4 := rpS_size (g := g) (by omega)
  have HREP := Lib.hid hrep
  clear hrep hk
  have hc := fun W => isBreak_any i p m g t d W
  rw [hOK] at hc
  have HC := Lib.hid hc
  clear hc hOK
  go_enter Tryd.func7, Tryd.ntmps7
  go_wp2_with fail
  (go_at_call 24; refine (HC.out _).mono ?_; rintro e w1 ⟨rfl, hb1⟩)
  (have hs1 := hb1.size; (try simp at hs1); obtain ⟨hc1, hf1, hn1⟩ := bcell hb1; (try have hz1_w_0 : w.heap.size < w1.heap.size := by omega); (try have hz1_w_1 : w.heap.size + 1 < w1.heap.size := by omega); (try have hz1_w_2 : w.heap.size + 2 < w1.heap.size := by omega); (try have hz1_w_2b : w.heap.size + 1 + 1 < w1.heap.size := by omega))
  go_wp2_with fail
  refine wp_region_quiet_below (by kernel_rfl) (by kernel_rfl) ?_
  repeat (go_big_quiet_step ((first | (go_at_call 27; exact Calls.regrown_of (same_below (decimal_small _ _ (by omega) (by omega)))) | (go_at_call 28; exact Calls.regrown_of (HREP.out _)))))
  (refine wpQuiet_nil ?_; intro w2 hwq; have hb2 := of_cls hwq; clear hwq)
  (have hs2 := hb2.size; (try simp at hs2); obtain ⟨hc2, hf2, hn2⟩ := bcell hb2; (try have hz2_w_0 : w.heap.size < w2.heap.size := by omega); (try have hz2_w_1 : w.heap.size + 1 < w2.heap.size := by omega); (try have hz2_w_2 : w.heap.size + 2 < w2.heap.size := by omega); (try have hz2_w_2b : w.heap.size + 1 + 1 < w2.heap.size := by omega); (try have hz2_w1_0 : w1.heap.size < w2.heap.size := by omega); (try have hz2_w1_1 : w1.heap.size + 1 < w2.heap.size := by omega); (try have hz2_w1_2 : w1.heap.size + 2 < w2.heap.size := by omega); (try have hz2_w1_2b : w1.heap.size + 1 + 1 < w2.heap.size := by omega))
  go_wp2_with fail
  go_ret2
  exact ⟨rfl, (by repeat' (first | (with_reducible exact Below.refl _ _) | (with_reducible refine Below.alloc ?_ ?_ _) | (with_reducible refine Below.setCell ?_ ?_ _) | (with_reducible refine Below.drew ?_) | (with_reducible refine Below.trans ?_ (Below.mono (by with_reducible assumption) ?_)) | omega | (simp; done) | (simp; omega)))⟩
set_option maxHeartbeats 4000000 in
theorem iBreakText_no (i p m g t d : Int) (w : World) (hOK : brkOK i p m g t d = false) :
    Calls Tryd.prog 7 #[.agg #[.int .i64 i, .int .i64 p, .int .i64 m, .int .i64 g, .int .i64 t, .int .i64 d]] w fun e w' => e = .returned (.tuple #[.string ⟨#[]⟩, .bool false]) ∧ Below w.heap.size w w' := by
  have hc := fun W => isBreak_any i p m g t d W
  rw [hOK] at hc
  have HC := Lib.hid hc
  clear hc hOK
  go_enter Tryd.func7, Tryd.ntmps7
  go_wp2_with fail
  (go_at_call 24; refine (HC.out _).mono ?_; rintro e w1 ⟨rfl, hb1⟩)
  (have hs1 := hb1.size; (try simp at hs1); obtain ⟨hc1, hf1, hn1⟩ := bcell hb1; (try have hz1_w_0 : w.heap.size < w1.heap.size := by omega); (try have hz1_w_1 : w.heap.size + 1 < w1.heap.size := by omega); (try have hz1_w_2 : w.heap.size + 2 < w1.heap.size := by omega); (try have hz1_w_2b : w.heap.size + 1 + 1 < w1.heap.size := by omega))
  go_wp2_with fail
  go_ret2
  exact ⟨rfl, (by repeat' (first | (with_reducible exact Below.refl _ _) | (with_reducible refine Below.alloc ?_ ?_ _) | (with_reducible refine Below.setCell ?_ ?_ _) | (with_reducible refine Below.drew ?_) | (with_reducible refine Below.trans ?_ (Below.mono (by with_reducible assumption) ?_)) | omega | (simp; done) | (simp; omega)))⟩
set_option maxHeartbeats 4000000 in
theorem sBreakText_no (i p m g t d : Int) (w : World) (hOK : brkOK i p m g t d = false) :
    Calls Tryd.prog 5 #[.agg #[.int .i64 i, .int .i64 p, .int .i64 m, .int .i64 g, .int .i64 t, .int .i64 d]] w fun e w' => e = .returned (.tuple #[.string ⟨#[]⟩, .bool false]) ∧ Below w.heap.size w w' := by
  have hc := fun W => l23One_any i p m g t d W
  rw [hOK] at hc
  have HC := Lib.hid hc
  clear hc hOK
  go_enter Tryd.func5, Tryd.ntmps5
  go_wp2_with fail
  (go_at_call 25; refine (HC.out _).mono ?_; rintro e w1 ⟨rfl, hb1⟩)
  (have hs1 := hb1.size; (try simp at hs1); obtain ⟨hc1, hf1, hn1⟩ := bcell hb1; (try have hz1_w_0 : w.heap.size < w1.heap.size := by omega); (try have hz1_w_1 : w.heap.size + 1 < w1.heap.size := by omega); (try have hz1_w_2 : w.heap.size + 2 < w1.heap.size := by omega); (try have hz1_w_2b : w.heap.size + 1 + 1 < w1.heap.size := by omega))
  go_wp2_with fail
  go_ret2
  exact ⟨rfl, (by repeat' (first | (with_reducible exact Below.refl _ _) | (with_reducible refine Below.alloc ?_ ?_ _) | (with_reducible refine Below.setCell ?_ ?_ _) | (with_reducible refine Below.drew ?_) | (with_reducible refine Below.trans ?_ (Below.mono (by with_reducible assumption) ?_)) | omega | (simp; done) | (simp; omega)))⟩
set_option maxHeartbeats 4000000 in
theorem sBreakText_yes (i p m g t d : Int) (w : World) (hOK : brkOK i p m g t d = true) (hb : (1 ≤ p ∧ p ≤ 99) ∧ (1 ≤ m ∧ m ≤ 60) ∧ (1 ≤ g ∧ g ≤ 3) ∧ (0 ≤ d ∧ d ≤ m)) :
    Calls Tryd.prog 5 #[.agg #[.int .i64 i, .int .i64 p, .int .i64 m, .int .i64 g, .int .i64 t, .int .i64 d]] w fun e w' => e = .returned (.tuple #[.string (btS p d m g), .bool true]) ∧ Below w.heap.size w w' := by
  obtain ⟨⟨p0, p1⟩, ⟨m0, m1⟩, ⟨g0, g1⟩, d0, d1⟩ := hb
  have z1 := numS_size (z := p) (by omega)
  have z2 := numS_size (z := m) (by omega)
  have z3 := numS_size (z := d) (by omega)
  have hc := fun W => l23One_any i p m g t d W
  rw [hOK] at hc
  have HC := Lib.hid hc
  clear hc hOK
  go_enter Tryd.func5, Tryd.ntmps5
  go_wp2_with fail
  (go_at_call 25; refine (HC.out _).mono ?_; rintro e w1 ⟨rfl, hb1⟩)
  (have hs1 := hb1.size; (try simp at hs1); obtain ⟨hc1, hf1, hn1⟩ := bcell hb1; (try have hz1_w_0 : w.heap.size < w1.heap.size := by omega); (try have hz1_w_1 : w.heap.size + 1 < w1.heap.size := by omega); (try have hz1_w_2 : w.heap.size + 2 < w1.heap.size := by omega); (try have hz1_w_2b : w.heap.size + 1 + 1 < w1.heap.size := by omega))
  go_wp2_with fail
  refine wp_region_quiet_below (by kernel_rfl) (by kernel_rfl) ?_
  repeat (go_big_quiet_step ((first | (go_at_call 26; exact Calls.regrown_of (l1Num_any _ _ (by omega) (by omega))))))
  (refine wpQuiet_nil ?_; intro w2 hwq; have hb2 := of_cls hwq; clear hwq)
  (have hs2 := hb2.size; (try simp at hs2); obtain ⟨hc2, hf2, hn2⟩ := bcell hb2; (try have hz2_w_0 : w.heap.size < w2.heap.size := by omega); (try have hz2_w_1 : w.heap.size + 1 < w2.heap.size := by omega); (try have hz2_w_2 : w.heap.size + 2 < w2.heap.size := by omega); (try have hz2_w_2b : w.heap.size + 1 + 1 < w2.heap.size := by omega); (try have hz2_w1_0 : w1.heap.size < w2.heap.size := by omega); (try have hz2_w1_1 : w1.heap.size + 1 < w2.heap.size := by omega); (try have hz2_w1_2 : w1.heap.size + 2 < w2.heap.size := by omega); (try have hz2_w1_2b : w1.heap.size + 1 + 1 < w2.heap.size := by omega))
  go_wp2_with fail
  have hb0 : Below w.heap.size w w2 := (by repeat' (first | (with_reducible exact Below.refl _ _) | (with_reducible refine Below.alloc ?_ ?_ _) | (with_reducible refine Below.setCell ?_ ?_ _) | (with_reducible refine Below.drew ?_) | (with_reducible refine Below.trans ?_ (Below.mono (by with_reducible assumption) ?_)) | omega | (simp; done) | (simp; omega)))
  go_loopw [4, 5] (fun s n wr => ∃ j : Int, 0 ≤ j ∧ j ≤ g ∧ n = .int .i64 (g - j) ∧ s = .string (btHead p d m ++ rpS j) ∧ Below w.heap.size w wr) (fun _ n _ => (intOf n).toNat)
  case atStart => exact ⟨0, by omega, by omega, by simp, by rw [rpS_zero, ← str_nil]; rfl, hb0⟩
  case round =>
    clear hb0
    obtain ⟨j, j0, j1, rfl, rfl, hb⟩ := hrel
    by_cases hlt : j < g
    · have zz : (btHead p d m ++ rpS j).size ≤ 100 := by
        have := rpS_size (g := j) (by omega)
        simp [btHead, ByteArray.size_append]
        have e1 : sPond.size = 5 := rfl
        have e2 : sCol.size = 2 := rfl
        have e3 : sSla.size = 1 := rfl
        have e4 : sM.size = 2 := rfl
        omega
      obtain ⟨s, hs⟩ : ∃ s, btHead p d m ++ rpS j = s := ⟨_, rfl⟩
      have HS := Lib.hid ((rpS_succ (btHead p d m) j0).symm)
      rw [hs] at HS zz
      simp only [hs]
      clear hs
      go_wp2_with fail
      go_roundw
      case rel => exact ⟨j + 1, by omega, by omega, by go_num, by rw [HS.out], hb⟩
      case measure => simp [intOf]; omega
    · obtain rfl : j = g := by omega
      go_wp2_with fail
      go_ret2
      exact ⟨rfl, hb⟩
end Go.Proofs.YtakjfkbfibcbcaaDoor
