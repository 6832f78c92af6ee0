/- Marks, and what is held of them, over owners (the laws' own functions). -/
import Derived.Test.YtimdnihadhbjpaaDoorNum
import Derived.Test.YtimdnihadhbjpaaDoorCmpS
import Derived.Laws.BytesArg
set_option linter.unusedSimpArgs false
set_option linter.unusedVariables false
namespace Go.Proofs.YtimdnihadhbjpaaDoor
open Go.RowKit Go.Sort Go.Salt
attribute [local go_sem] cell_rg
def mkS (k : Int) : ByteArray := ⟨#[109]⟩ ++ numS k
/-- The digits that are still to come. -/
def numZ (z : Int) : ByteArray := if z = 0 then ⟨#[]⟩ else numS z
theorem numZ_step {z : Int} (h : 0 < z) : numZ z = numZ (z / 10) ++ ⟨#[UInt8.ofNat (48 + z % 10).toNat]⟩ := by
  rw [show (48 + z % 10).toNat = 48 + (z % 10).toNat by omega]
  unfold numZ
  rw [if_neg (by omega)]
  by_cases h1 : z < 10
  · rw [if_pos (by omega), show z % 10 = z by omega, numS, Lib.decDigits_one (by omega)]
    apply ByteArray.ext; simp
  · rw [if_neg (by omega), ← num_more (z := z) (by omega) h1, show (z % 10 + 1).toNat = (z % 10).toNat + 1 by omega, digit_at _ (by omega)]
theorem mkS_size {k : Int} (h : k ≤ 20000000) : (mkS k).size ≤ 20 := by
  unfold mkS
  have := numS_size (z := k) (by omega)
  rw [ByteArray.size_append]
  have q : (⟨#[109]⟩ : ByteArray).size = 1 := rfl
  omega
theorem conv_one (w : World) (b c : Nat) (z : Int) (h : w.cell? ⟨b, 0, none⟩ = some (.int .u8 z)) : (convert 48 9 (.slice (some ⟨b, 0, none⟩) 1 c)).run Tryd.prog w = .ok (.string ⟨#[UInt8.ofNat z.toNat]⟩) w :=
  run_convert_bytes_arg w _ _ Tryd.underlying48 Tryd.underlying5 b 0 1 c [z] rfl (fun i hi => match i, hi with | 0, _ => h) _ Tryd.underlying9
attribute [local go_sem] conv_one
set_option maxRecDepth 10000 in
set_option maxHeartbeats 4000000 in
theorem markText_any (k : Int) (w : World) (h0 : 1 ≤ k) (h1 : k ≤ 20000000) :
    Calls Tryd.prog 74 #[.int .i64 k] w fun e w' => e = .returned (.string (mkS k)) ∧ Below w.heap.size w w' := by
  have hN := numS_size (z := k) (by omega)
  have hk0 : ¬ k ≤ 0 := by omega
  go_enter Tryd.func74, Tryd.ntmps74
  go_wp2_with fail
  go_loopw [0, 3] (fun kk out wr => ∃ (z : Int) (s : ByteArray), kk = .int .i64 z ∧ out = .string s ∧ 0 ≤ z ∧ z ≤ 20000000 ∧ Hid (numZ z ++ s = numS k) ∧ Below w.heap.size w wr) (fun kk _ _ => (intOf kk).toNat)
  case atStart => exact ⟨k, ⟨#[]⟩, rfl, rfl, by omega, by omega, Lib.hid (by rw [numZ, if_neg (by omega)]; apply ByteArray.ext; simp), (by repeat' (first | (with_reducible exact Below.refl _ _) | (with_reducible refine Below.alloc ?_ ?_ _) | (with_reducible refine Below.setCell ?_ ?_ _) | (with_reducible refine Below.drew ?_) | (with_reducible refine Below.trans ?_ (Below.mono (by with_reducible assumption) ?_)) | omega | (simp; done) | (simp; omega)))⟩
  case round =>
    obtain ⟨z, s, rfl, rfl, hz0, hz1, He, hb⟩ := hrel
    have hs := hb.size
    have hsz : s.size ≤ 19 := by have := congrArg ByteArray.size He.out; rw [ByteArray.size_append] at this; omega
    by_cases hz : 0 < z
    · have e1 := numZ_step hz
      have He' : Hid (numZ (z / 10) ++ (⟨#[UInt8.ofNat (48 + z % 10).toNat]⟩ ++ s) = numS k) := Lib.hid (by rw [← ByteArray.append_assoc, ← e1]; exact He.out)
      clear e1
      go_wp2
      go_roundw
      case rel => exact ⟨z / 10, _, by go_num, rfl, by omega, by omega, He', (by repeat' (first | (with_reducible exact Below.refl _ _) | (with_reducible refine Below.alloc ?_ ?_ _) | (with_reducible refine Below.setCell ?_ ?_ _) | (with_reducible refine Below.drew ?_) | (with_reducible refine Below.trans ?_ (Below.mono (by with_reducible assumption) ?_)) | omega | (simp; done) | (simp; omega)))⟩
      case measure => simp [intOf] <;> omega
    · obtain rfl : z = 0 := by omega
      have e1 : s = numS k := by rw [← He.out, numZ, if_pos rfl]; apply ByteArray.ext; simp
      subst e1
      go_wp2
      go_ret
      exact ⟨rfl, (by repeat' (first | (with_reducible exact Below.refl _ _) | (with_reducible refine Below.alloc ?_ ?_ _) | (with_reducible refine Below.setCell ?_ ?_ _) | (with_reducible refine Below.drew ?_) | (with_reducible refine Below.trans ?_ (Below.mono (by with_reducible assumption) ?_)) | omega | (simp; done) | (simp; omega)))⟩
theorem grown_after {a w w' : World} {g : Nat} (h : a.grownBy w (some g)) (hb : Below w.heap.size w w') : a.grownBy w' (some g) :=
  ⟨hb.os.trans h.os, hb.tape.trans h.tape, hb.output.trans h.output, Nat.le_trans h.size hb.size, fun i hi hne => (hb.block i (Nat.lt_of_lt_of_le hi h.size)).trans (h.block i hi hne)⟩
/-- What lies in the i-th owner when it is marked. -/
def mkO (i : Nat) : Ow := ⟨mkS (1 + 3 * (i : Int)), 1 + 3 * (i : Int) + 1, 1 + 3 * (i : Int) + 2⟩
def mkL (n : Nat) : List Ow := (List.range n).map mkO
theorem mkL_len (n : Nat) : (mkL n).length = n := by simp [mkL]
theorem mkL_succ (n : Nat) : mkL (n + 1) = mkL n ++ [mkO n] := by simp [mkL, List.range_succ]
theorem mkL_el {n k : Nat} (h : k < n) : el (mkL n) k = mkO k := by rw [el_get (by rw [mkL_len]; exact h)]; simp [mkL]
set_option maxHeartbeats 400000 in
theorem markOwnerS_nil (A : Option Addr) (c : Nat) (w : World) :
    Calls Tryd.prog 31 #[.slice A 0 c, .int .i64 1] w fun e w' => e = .returned (.int .i64 1) ∧ w = w' := by
  go_enter Tryd.func31, Tryd.ntmps31
  go_wp2
  go_loopw [1, 5] (fun x i wr => x = .int .i64 1 ∧ i = .int .i64 0 ∧ w = wr) (fun _ _ _ => 0)
  case atStart => exact ⟨rfl, rfl, rfl⟩
  case round =>
    obtain ⟨rfl, rfl, rfl⟩ := hrel
    go_wp2
    go_ret
    exact ⟨rfl, rfl⟩
set_option maxRecDepth 10000 in
set_option maxHeartbeats 8000000 in
theorem markOwnerS_row (g c n : Nat) (cs : List Value) (w : World) (h : Row w g 54 cs) (hl : cs.length = n * 3) (hn : n ≤ 2097152) :
    Calls Tryd.prog 31 #[.slice (some ⟨g, 0, none⟩) n c, .int .i64 1] w fun e w' => e = .returned (.int .i64 (mkz n 3)) ∧ Row w' g 54 ((mkL n).flatMap Ow.enc) ∧ w.grownBy w' (some g) := by
  have Hl := Lib.hid hl
  clear hl
  go_enter Tryd.func31, Tryd.ntmps31
  go_wp2
  go_loopw [1, 5] (fun x i wr => ∃ k : Nat, k ≤ n ∧ i = .int .i64 k ∧ x = .int .i64 (1 + 3 * (k : Int)) ∧ Hid (Row wr g 54 ((mkL k).flatMap Ow.enc ++ cs.drop (k * 3))) ∧ Hid (w.grownBy wr (some g))) (fun _ i _ => n - (intOf i).toNat)
  case atStart => exact ⟨0, Nat.zero_le _, rfl, by simp, Lib.hid (by simpa [mkL] using h), Lib.hid (World.grownBy.refl _ _)⟩
  case round =>
    obtain ⟨k, hk, rfl, rfl, hrow, hg⟩ := hrel
    by_cases hlt : k < n
    · have hI : (k : Int) < n := by omega
      have hI0 : (0 : Int) ≤ k := by omega
      have hpl : ((mkL k).flatMap Ow.enc).length = k * 3 := by rw [flat_len Ow.enc_len, mkL_len]
      have hln : k * 3 + 3 ≤ n * 3 := by omega
      obtain ⟨v0, g0⟩ : ∃ v, wr.cell? ⟨g, k * 3, none⟩ = some v := ⟨_, hrow.out.cell (by rw [List.length_append, List.length_drop, hpl, Hl.out]; omega)⟩
      have f0 := hrow.out.frozen (k * 3)
      obtain ⟨v1, g1⟩ : ∃ v, wr.cell? ⟨g, k * 3 + 1, none⟩ = some v := ⟨_, hrow.out.cell (by rw [List.length_append, List.length_drop, hpl, Hl.out]; omega)⟩
      have f1 := hrow.out.frozen (k * 3 + 1)
      obtain ⟨v2, g2⟩ : ∃ v, wr.cell? ⟨g, k * 3 + 2, none⟩ = some v := ⟨_, hrow.out.cell (by rw [List.length_append, List.length_drop, hpl, Hl.out]; omega)⟩
      have f2 := hrow.out.frozen (k * 3 + 2)
      have hgl := hrow.out.lt
      have Hpl := Lib.hid hpl
      clear hpl
      have m1 : mkz n 3 = 1 + 3 * (n : Int) := by unfold mkz; omega
      go_wp2_with fail
      (go_at_call 74; refine (markText_any _ _ (by omega) (by omega)).mono ?_; rintro e w1 ⟨rfl, hb1⟩)
      (have hs1 := hb1.size; (try simp at hs1); obtain ⟨hc1, hf1, hn1⟩ := bcell hb1; (try have hz1_wr_0 : wr.heap.size < w1.heap.size := by omega); (try have hz1_wr_1 : wr.heap.size + 1 < w1.heap.size := by omega); (try have hz1_wr_2 : wr.heap.size + 2 < w1.heap.size := by omega); (try have hB1 : b < w1.heap.size := by omega); (try have hB2 : b' < w1.heap.size := by omega); (try have hz1_wr_2b : wr.heap.size + 1 + 1 < w1.heap.size := by omega); (try have hz1_w_0 : w.heap.size < w1.heap.size := by omega); (try have hz1_w_1 : w.heap.size + 1 < w1.heap.size := by omega); (try have hz1_w_2 : w.heap.size + 2 < w1.heap.size := by omega); (try have hz1_w_2b : w.heap.size + 1 + 1 < w1.heap.size := by omega))
      go_wp2_with fail
      have r0 := hrow.out.to hb1
      have r1 := r0.set (j := k * 3) (.string (mkS (1 + 3 * (k : Int))))
      have r2 := r1.set (j := k * 3 + 1) (.int .i64 (1 + 3 * (k : Int) + 1))
      have r3 := r2.set (j := k * 3 + 2) (.int .i64 (1 + 3 * (k : Int) + 2))
      have e1 : (((((mkL k).flatMap Ow.enc ++ cs.drop (k * 3)).set (k * 3) (.string (mkS (1 + 3 * (k : Int))))).set (k * 3 + 1) (.int .i64 (1 + 3 * (k : Int) + 1))).set (k * 3 + 2) (.int .i64 (1 + 3 * (k : Int) + 2))) = (mkL (k + 1)).flatMap Ow.enc ++ cs.drop ((k + 1) * 3) := by
        rw [set_next Hpl.out (by rw [Hl.out]; omega)]
        rw [set_next (m := k * 3 + 1) (by simp [Hpl.out]) (by rw [Hl.out]; omega)]
        rw [set_next (m := k * 3 + 2) (by simp [Hpl.out]) (by rw [Hl.out]; omega)]
        rw [mkL_succ, List.flatMap_append, show (k + 1) * 3 = k * 3 + 3 by omega]
        simp [Ow.enc, mkO]
      rw [e1] at r3
      clear e1 r0 r1 r2
      have R := Lib.hid r3
      clear r3
      have G := Lib.hid (only_setCell (only_setCell (only_setCell (grown_after hg.out hb1) (p := ⟨g, k * 3, none⟩) (.inl rfl) (.string (mkS (1 + 3 * (k : Int))))) (p := ⟨g, k * 3 + 1, none⟩) (.inl rfl) (.int .i64 (1 + 3 * (k : Int) + 1))) (p := ⟨g, k * 3 + 2, none⟩) (.inl rfl) (.int .i64 (1 + 3 * (k : Int) + 2)))
      go_roundw
      case rel => exact ⟨k + 1, by omega, by go_num, by first | go_num | (congr 1; done) | (congr 1; omega), R, G⟩
      case measure => simp [intOf]; omega
    · obtain rfl : k = n := by omega
      have hrow := hrow.out
      have hd : cs.drop (k * 3) = [] := List.drop_of_length_le (by rw [Hl.out]; omega)
      rw [hd, List.append_nil] at hrow
      go_wp2
      go_ret
      exact ⟨ret_int (by unfold mkz; omega), hrow, hg.out⟩
set_option maxHeartbeats 400000 in
theorem heldOwnerS_nil (A : Option Addr) (c : Nat) (w : World) :
    Calls Tryd.prog 38 #[.slice A 0 c, .int .i64 1] w fun e w' => e = .returned (.int .i64 1) ∧ w = w' := by
  go_enter Tryd.func38, Tryd.ntmps38
  go_wp2
  go_loopw [1, 5] (fun x i wr => x = .int .i64 1 ∧ i = .int .i64 0 ∧ w = wr) (fun _ _ _ => 0)
  case atStart => exact ⟨rfl, rfl, rfl⟩
  case round =>
    obtain ⟨rfl, rfl, rfl⟩ := hrel
    go_wp2
    go_ret
    exact ⟨rfl, rfl⟩
set_option maxRecDepth 10000 in
set_option maxHeartbeats 8000000 in
theorem heldOwnerS_row (g c n : Nat) (w : World) (h : Row w g 54 ((mkL n).flatMap Ow.enc)) (hn : n ≤ 2097152) :
    Calls Tryd.prog 38 #[.slice (some ⟨g, 0, none⟩) n c, .int .i64 1] w fun e w' => e = .returned (.int .i64 (mkz n 3)) ∧ Below w.heap.size w w' := by
  have HX := Lib.hid (show Rd w w.heap.size (some ⟨g, 0, none⟩) 3 Ow.enc (mkL n) from h.rd Ow.enc_len h.lt)
  clear h
  go_enter Tryd.func38, Tryd.ntmps38
  go_wp2
  go_loopw [1, 5] (fun x i wr => ∃ k : Nat, k ≤ n ∧ i = .int .i64 k ∧ x = .int .i64 (1 + 3 * (k : Int)) ∧ Below w.heap.size w wr) (fun _ i _ => n - (intOf i).toNat)
  case atStart => exact ⟨0, Nat.zero_le _, rfl, by simp, Below.refl _ _⟩
  case round =>
    obtain ⟨k, hk, rfl, rfl, hb⟩ := hrel
    have hs := hb.size
    by_cases hlt : k < n
    · obtain ⟨b, o, e0, hB', c0, c1, c2⟩ := ow_cells (HX.out.below hb) (i := k) (by rw [mkL_len]; exact hlt)
      obtain ⟨rfl, rfl⟩ : g = b ∧ 0 = o := by simpa using e0
      rw [mkL_el hlt] at c0 c1 c2
      simp only [mkO, Nat.zero_add] at c0 c1 c2
      have hB1 : g < wr.heap.size := by omega
      have hI : (k : Int) < n := by omega
      have hI0 : (0 : Int) ≤ k := by omega
      go_wp2_with fail
      refine wp_region_quiet_below (by kernel_rfl) (by kernel_rfl) ?_
      repeat (go_big_quiet_step ((first | (go_at_call 74; exact Calls.regrown_of (markText_any _ _ (by omega) (by omega))))))
      (refine wpQuiet_nil ?_; intro w1 hwq; have hb1 := of_cls hwq; clear hwq)
      (have hs1 := hb1.size; (try simp at hs1); obtain ⟨hc1, hf1, hn1⟩ := bcell hb1; (try have hz1_wr_0 : wr.heap.size < w1.heap.size := by omega); (try have hz1_wr_1 : wr.heap.size + 1 < w1.heap.size := by omega); (try have hz1_wr_2 : wr.heap.size + 2 < w1.heap.size := by omega); (try have hB1 : b < w1.heap.size := by omega); (try have hB2 : b' < w1.heap.size := by omega); (try have hz1_wr_2b : wr.heap.size + 1 + 1 < w1.heap.size := by omega); (try have hz1_w_0 : w.heap.size < w1.heap.size := by omega); (try have hz1_w_1 : w.heap.size + 1 < w1.heap.size := by omega); (try have hz1_w_2 : w.heap.size + 2 < w1.heap.size := by omega); (try have hz1_w_2b : w.heap.size + 1 + 1 < w1.heap.size := by omega))
      go_wp2_with fail
      go_roundw
      case rel => exact ⟨k + 1, by omega, by go_num, by first | go_num | (congr 1; done) | (congr 1; omega), (by repeat' (first | (with_reducible exact Below.refl _ _) | (with_reducible refine Below.alloc ?_ ?_ _) | (with_reducible refine Below.setCell ?_ ?_ _) | (with_reducible refine Below.drew ?_) | (with_reducible refine Below.trans ?_ (Below.mono (by with_reducible assumption) ?_)) | omega | (simp; done) | (simp; omega)))⟩
      case measure => simp [intOf]; omega
    · obtain rfl : k = n := by omega
      go_wp2
      go_ret
      exact ⟨ret_int (by unfold mkz; omega), hb⟩
set_option maxHeartbeats 400000 in
theorem markOwnerS_own (A : Option Addr) (c n : Nat) (cs : List Value) (base : Nat) (w : World) (h : OwnAt w base 54 cs n A) (hl : cs.length = n * 3) (hn : n ≤ 2097152) :
    Calls Tryd.prog 31 #[.slice A n c, .int .i64 1] w fun e w' => e = .returned (.int .i64 (mkz n 3)) ∧ OwnAt w' base 54 ((mkL n).flatMap Ow.enc) n A ∧ w.grownBy w' (A.map Addr.block) ∧ Below base w w' := by
  rcases h with ⟨rfl, rfl, rfl⟩ | ⟨g, rfl, hb, hr⟩
  · refine (markOwnerS_nil none c w).mono ?_
    rintro e w' ⟨rfl, rfl⟩
    exact ⟨by simp [mkz], .inl ⟨rfl, rfl, rfl⟩, World.grownBy.refl _ _, Below.refl _ _⟩
  · refine (markOwnerS_row g c n cs w hr hl hn).mono ?_
    rintro e w' ⟨rfl, h1, h2⟩
    have hlt := hr.lt
    exact ⟨rfl, .inr ⟨g, rfl, hb, h1⟩, h2, grown_below h2 hb (by omega)⟩
set_option maxHeartbeats 400000 in
theorem heldOwnerS_own (A : Option Addr) (c n base : Nat) (w : World) (h : OwnAt w base 54 ((mkL n).flatMap Ow.enc) n A) (hn : n ≤ 2097152) :
    Calls Tryd.prog 38 #[.slice A n c, .int .i64 1] w fun e w' => e = .returned (.int .i64 (mkz n 3)) ∧ Below w.heap.size w w' := by
  rcases h with ⟨rfl, rfl, _⟩ | ⟨g, rfl, hb, hr⟩
  · refine (heldOwnerS_nil none c w).mono ?_
    rintro e w' ⟨rfl, rfl⟩
    exact ⟨by simp [mkz], Below.refl _ _⟩
  · exact heldOwnerS_row g c n w hr hn
end Go.Proofs.YtimdnihadhbjpaaDoor
