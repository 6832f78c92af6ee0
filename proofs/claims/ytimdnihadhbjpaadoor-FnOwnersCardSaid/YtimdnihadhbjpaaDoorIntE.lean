/- Contracts over lists of ints: eq, mark, held. -/
import Derived.Test.YtimdnihadhbjpaaDoorLong
import Derived.Test.YtimdnihadhbjpaaDoorOwn
import Derived.OwnWalk
set_option linter.unusedSimpArgs false
set_option linter.unusedVariables false
namespace Go.Proofs.YtimdnihadhbjpaaDoor
open Go.RowKit Go.Sort Go.Salt
attribute [local go_sem] cell_rg
theorem row_setn (n : Nat) (hn : n ≤ 2097152) : (n * 1 : Nat) = n := by omega
set_option maxHeartbeats 4000000 in
theorem eqIntS_same (A A' : Option Addr) (c c' : Nat) (xs : List Int) (w : World) (h : Rd w w.heap.size A 1 ie xs) (h' : Rd w w.heap.size A' 1 ie xs) (hx : xs.length ≤ 1048576) :
    Calls Tryd.prog 30 #[.slice A xs.length c, .slice A' xs.length c'] w fun e w' => e = .returned (.bool true) ∧ Below w.heap.size w w' := by
  go_enter Tryd.func30, Tryd.ntmps30
  go_wp2
  go_loopw [5] (fun i wr => ∃ k : Nat, k ≤ xs.length ∧ i = .int .i64 k ∧ Below w.heap.size w wr) (fun i _ => xs.length - (intOf i).toNat)
  case atStart => exact ⟨0, Nat.zero_le _, rfl, Below.refl _ _⟩
  case round =>
    obtain ⟨k, hk, rfl, hb⟩ := hrel
    by_cases hlt : k < xs.length
    · obtain ⟨b, o, rfl, hB, c0⟩ := int_cell (h.below hb) hlt
      obtain ⟨b', o', rfl, hB', d0⟩ := int_cell (h'.below hb) hlt
      have hs := hb.size
      have hB1 : b < wr.heap.size := by omega
      have hB2 : b' < wr.heap.size := by omega
      have hI : (k : Int) < xs.length := by omega
      have hI0 : (0 : Int) ≤ k := by omega
      go_wp2_with fail
      refine wp_region_quiet_below (by kernel_rfl) (by kernel_rfl) ?_
      repeat (go_big_quiet_step (fail))
      (refine wpQuiet_nil ?_; intro w1 hwq; have hb1 := of_cls hwq; clear hwq)
      (have hs1 := hb1.size; (try simp at hs1); obtain ⟨hc1, hf1, hn1⟩ := bcell hb1; (try have hz1_wr_0 : wr.heap.size < w1.heap.size := by omega); (try have hz1_wr_1 : wr.heap.size + 1 < w1.heap.size := by omega); (try have hz1_wr_2 : wr.heap.size + 2 < w1.heap.size := by omega); (try have hB1 : b < w1.heap.size := by omega); (try have hB2 : b' < w1.heap.size := by omega); (try have hz1_wr_2b : wr.heap.size + 1 + 1 < w1.heap.size := by omega); (try have hz1_w_0 : w.heap.size < w1.heap.size := by omega); (try have hz1_w_1 : w.heap.size + 1 < w1.heap.size := by omega); (try have hz1_w_2 : w.heap.size + 2 < w1.heap.size := by omega); (try have hz1_w_2b : w.heap.size + 1 + 1 < w1.heap.size := by omega))
      go_wp2_with fail
      go_roundw
      case rel => exact ⟨k + 1, by omega, by go_num, (by repeat' (first | (with_reducible exact Below.refl _ _) | (with_reducible refine Below.alloc ?_ ?_ _) | (with_reducible refine Below.setCell ?_ ?_ _) | (with_reducible refine Below.drew ?_) | (with_reducible refine Below.trans ?_ (Below.mono (by with_reducible assumption) ?_)) | omega | (simp; done) | (simp; omega)))⟩
      case measure => simp [intOf]; omega
    · go_wp2
      go_ret
      exact ⟨rfl, hb⟩
set_option maxHeartbeats 400000 in
theorem markIntS_nil (A : Option Addr) (c : Nat) (m0 : Int) (w : World) :
    Calls Tryd.prog 32 #[.slice A 0 c, .int .i64 m0] w fun e w' => e = .returned (.int .i64 m0) ∧ w = w' := by
  go_enter Tryd.func32, Tryd.ntmps32
  go_wp2
  go_loopw [1, 5] (fun x i wr => x = .int .i64 m0 ∧ i = .int .i64 0 ∧ w = wr) (fun _ _ _ => 0)
  case atStart => exact ⟨rfl, rfl, rfl⟩
  case round =>
    obtain ⟨rfl, rfl, rfl⟩ := hrel
    go_wp2
    go_ret
    exact ⟨rfl, rfl⟩
set_option maxHeartbeats 2000000 in
theorem markIntS_row (g c n : Nat) (m0 : Int) (cs : List Value) (w : World) (h : Row w g 3 cs) (hl : cs.length = n) (hn : n ≤ 2097152) (h0 : 0 ≤ m0) (h1 : m0 ≤ 20000000) :
    Calls Tryd.prog 32 #[.slice (some ⟨g, 0, none⟩) n c, .int .i64 m0] w fun e w' => e = .returned (.int .i64 (m0 + (n : Int))) ∧ Row w' g 3 (nums m0 n) ∧ w.grownBy w' (some g) := by
  have Hl := Lib.hid hl
  clear hl
  go_enter Tryd.func32, Tryd.ntmps32
  go_wp2
  go_loopw [1, 5] (fun x i wr => ∃ k : Nat, k ≤ n ∧ i = .int .i64 k ∧ x = .int .i64 (m0 + k) ∧ Row wr g 3 (nums m0 k ++ cs.drop k) ∧ w.grownBy wr (some g)) (fun _ i _ => n - (intOf i).toNat)
  case atStart => exact ⟨0, Nat.zero_le _, rfl, by first | rfl | simp, by simpa [nums] using h, World.grownBy.refl _ _⟩
  case round =>
    obtain ⟨k, hk, rfl, rfl, hrow, hg⟩ := hrel
    by_cases hlt : k < n
    · have hI : (k : Int) < n := by omega
      have hI0 : (0 : Int) ≤ k := by omega
      obtain ⟨v0, g0⟩ : ∃ v, wr.cell? ⟨g, k, none⟩ = some v := ⟨_, hrow.cell (by rw [List.length_append, List.length_drop, nums_len, Hl.out]; omega)⟩
      have f0 := hrow.frozen k
      have r1 := hrow.set (j := k) (.int .i64 (m0 + (k : Int)))
      have e1 : (nums m0 k ++ cs.drop k).set k (.int .i64 (m0 + (k : Int))) = nums m0 (k + 1) ++ cs.drop (k + 1) := by
        rw [set_next (m := k) (by simp [nums_len]) (by rw [Hl.out]; omega), nums_succ]
      rw [e1] at r1
      have R := Lib.hid r1
      clear e1 r1 hrow
      go_wp2
      go_roundw
      case rel => exact ⟨k + 1, by omega, by go_num, by first | go_num | (congr 1; done) | (congr 1; omega), R.out, only_setCell hg (.inl rfl) _⟩
      case measure => simp [intOf]; omega
    · obtain rfl : k = n := by omega
      have hd : cs.drop k = [] := List.drop_of_length_le (by rw [Hl.out]; omega)
      rw [hd, List.append_nil] at hrow
      go_wp2
      go_ret
      exact ⟨rfl, hrow, hg⟩
set_option maxHeartbeats 400000 in
theorem heldIntS_nil (A : Option Addr) (c : Nat) (m0 : Int) (w : World) :
    Calls Tryd.prog 33 #[.slice A 0 c, .int .i64 m0] w fun e w' => e = .returned (.int .i64 m0) ∧ w = w' := by
  go_enter Tryd.func33, Tryd.ntmps33
  go_wp2
  go_loopw [1, 5] (fun x i wr => x = .int .i64 m0 ∧ i = .int .i64 0 ∧ w = wr) (fun _ _ _ => 0)
  case atStart => exact ⟨rfl, rfl, rfl⟩
  case round =>
    obtain ⟨rfl, rfl, rfl⟩ := hrel
    go_wp2
    go_ret
    exact ⟨rfl, rfl⟩
set_option maxHeartbeats 2000000 in
theorem heldIntS_row (g c n : Nat) (m0 : Int) (w : World) (h : Row w g 3 (nums m0 n)) (hn : n ≤ 2097152) (h0 : 0 ≤ m0) (h1 : m0 ≤ 20000000) :
    Calls Tryd.prog 33 #[.slice (some ⟨g, 0, none⟩) n c, .int .i64 m0] w fun e w' => e = .returned (.int .i64 (m0 + (n : Int))) ∧ w = w' := by
  go_enter Tryd.func33, Tryd.ntmps33
  go_wp2
  go_loopw [1, 5] (fun x i wr => ∃ k : Nat, k ≤ n ∧ i = .int .i64 k ∧ x = .int .i64 (m0 + k) ∧ w = wr) (fun _ i _ => n - (intOf i).toNat)
  case atStart => exact ⟨0, Nat.zero_le _, rfl, by first | rfl | simp, rfl⟩
  case round =>
    obtain ⟨k, hk, rfl, rfl, rfl⟩ := hrel
    by_cases hlt : k < n
    · have hI : (k : Int) < n := by omega
      have hI0 : (0 : Int) ≤ k := by omega
      have g0 : w.cell? ⟨g, k, none⟩ = some (.int .i64 (m0 + (k : Int))) := (h.cell (by rw [nums_len]; omega)).trans (by simp [nums])
      go_wp2
      go_roundw
      case rel => exact ⟨k + 1, by omega, by go_num, by first | go_num | (congr 1; done) | (congr 1; omega), by first | rfl | trivial⟩
      case measure => simp [intOf]; omega
    · obtain rfl : k = n := by omega
      go_wp2
      go_ret
      exact ⟨rfl, rfl⟩
set_option maxHeartbeats 400000 in
theorem markIntS_own (A : Option Addr) (c n : Nat) (cs : List Value) (base : Nat) (w : World) (h : OwnAt w base 3 cs n A) (hl : cs.length = n * 1) (hn : n ≤ 2097152) :
    Calls Tryd.prog 32 #[.slice A n c, .int .i64 1] w fun e w' => e = .returned (.int .i64 (mkz n 1)) ∧ OwnAt w' base 3 (nums 1 (n * 1)) n A ∧ w.grownBy w' (A.map Addr.block) ∧ Below base w w' := by
  rcases h with ⟨rfl, rfl, rfl⟩ | ⟨g, rfl, hb, hr⟩
  · refine (markIntS_nil none c 1 w).mono ?_
    rintro e w' ⟨rfl, rfl⟩
    exact ⟨by simp [mkz], .inl ⟨rfl, rfl, rfl⟩, World.grownBy.refl _ _, Below.refl _ _⟩
  · refine (markIntS_row g c n 1 cs w hr (by omega) hn (by omega) (by omega)).mono ?_
    rintro e w' ⟨rfl, h1, h2⟩
    have hlt := hr.lt
    exact ⟨by simp [mkz], .inr ⟨g, rfl, hb, by simpa using h1⟩, h2, grown_below h2 hb (by omega)⟩
set_option maxHeartbeats 400000 in
theorem heldIntS_own (A : Option Addr) (c n base : Nat) (w : World) (h : OwnAt w base 3 (nums 1 (n * 1)) n A) (hn : n ≤ 2097152) :
    Calls Tryd.prog 33 #[.slice A n c, .int .i64 1] w fun e w' => e = .returned (.int .i64 (mkz n 1)) ∧ w = w' := by
  rcases h with ⟨rfl, rfl, _⟩ | ⟨g, rfl, hb, hr⟩
  · refine (heldIntS_nil none c 1 w).mono ?_
    rintro e w' ⟨rfl, rfl⟩
    exact ⟨by simp [mkz], rfl⟩
  · refine (heldIntS_row g c n 1 w (by simpa using hr) hn (by omega) (by omega)).mono ?_
    rintro e w' ⟨rfl, rfl⟩
    exact ⟨by simp [mkz], rfl⟩
end Go.Proofs.YtimdnihadhbjpaaDoor
