/- Contracts of the laws' own functions over bookings and slices of them. -/
import Derived.Test.YtkhldmicejdggaaLeaf
import Derived.Test.YtkhldmicejdggaaSlice
import Derived.Lib.Hide
set_option linter.unusedSimpArgs false
set_option linter.unusedVariables false
namespace Go.Proofs.Ytkhldmicejdggaa
open Go.RowKit Go.Sort Go.Salt
attribute [local go_sem] cell_rg
/-- A Booking. -/
structure Bk where
  d : Int
  k : Int
  q : Int
instance : Inhabited Bk := ⟨⟨0, 0, 0⟩⟩
def Bk.enc (x : Bk) : List Value := [.int .i64 x.d, .int .i64 x.k, .int .i64 x.q]
theorem Bk.enc_len (x : Bk) : x.enc.length = 3 := rfl
theorem bk_cells {w : World} {B : Nat} {A : Option Addr} {xs : List Bk} (h : Rd w B A 3 Bk.enc xs) {i : Nat} (hi : i < xs.length) :
    ∃ b o, A = some ⟨b, o, none⟩ ∧ b < B ∧ w.cell? ⟨b, o + i * 3, none⟩ = some (.int .i64 (el xs i).d) ∧ w.cell? ⟨b, o + i * 3 + 1, none⟩ = some (.int .i64 (el xs i).k) ∧ w.cell? ⟨b, o + i * 3 + 2, none⟩ = some (.int .i64 (el xs i).q) := by
  obtain ⟨b, o, e, hb, hc⟩ := h (by omega)
  have h1 := hc i hi
  exact ⟨b, o, e, hb, h1 0 (by simp [Bk.enc]), h1 1 (by simp [Bk.enc]), h1 2 (by simp [Bk.enc])⟩
set_option maxHeartbeats 1000000 in
theorem toBooking_any (d k q : Int) (w : World) :
    Calls Try.prog 33 #[.agg #[.int .i64 d, .int .i64 k, .int .i64 q]] w fun e w' => e = .returned (.agg #[.int .i64 d, .int .i64 k, .int .i64 q]) ∧ Below w.heap.size w w' := by
  go_enter Try.func33, Try.ntmps33
  go_wp2
  go_returns
  exact ⟨rfl, (by repeat' (first | (with_reducible exact Below.refl _ _) | (with_reducible refine Below.alloc ?_ ?_ _) | (with_reducible refine Below.setCell ?_ ?_ _) | (with_reducible refine Below.drew ?_) | (with_reducible refine Below.trans ?_ (Below.mono (by with_reducible assumption) ?_)) | omega | (simp; done) | (simp; omega)))⟩
set_option maxHeartbeats 1000000 in
theorem eqBooking_same (d k q : Int) (w : World) :
    Calls Try.prog 54 #[.agg #[.int .i64 d, .int .i64 k, .int .i64 q], .agg #[.int .i64 d, .int .i64 k, .int .i64 q]] w fun e w' => e = .returned (.bool true) ∧ Below w.heap.size w w' := by
  go_enter Try.func54, Try.ntmps54
  go_wp2
  go_ret
  exact ⟨rfl, (by repeat' (first | (with_reducible exact Below.refl _ _) | (with_reducible refine Below.alloc ?_ ?_ _) | (with_reducible refine Below.setCell ?_ ?_ _) | (with_reducible refine Below.drew ?_) | (with_reducible refine Below.trans ?_ (Below.mono (by with_reducible assumption) ?_)) | omega | (simp; done) | (simp; omega)))⟩
set_option maxHeartbeats 2000000 in
theorem eqBookingS_same (A A' : Option Addr) (c c' : Nat) (xs : List Bk) (w : World) (h : Rd w w.heap.size A 3 Bk.enc xs) (h' : Rd w w.heap.size A' 3 Bk.enc xs) (hx : xs.length ≤ 1048576) :
    Calls Try.prog 17 #[.slice A xs.length c, .slice A' xs.length c'] w fun e w' => e = .returned (.bool true) ∧ Below w.heap.size w w' := by
  go_enter Try.func17, Try.ntmps17
  go_wp2
  go_loopw [5] (fun i wr => ∃ k : Nat, k ≤ xs.length ∧ i = .int .i64 k ∧ Below w.heap.size w wr) (fun i _ => xs.length - (intOf i).toNat)
  case atStart => exact ⟨0, Nat.zero_le _, rfl, Below.refl _ _⟩
  case round =>
    obtain ⟨k, hk, rfl, hb⟩ := hrel
    by_cases hlt : k < xs.length
    · obtain ⟨b, o, rfl, hB, c0, c1, c2⟩ := bk_cells (h.below hb) hlt
      obtain ⟨b', o', rfl, hB', d0, d1, d2⟩ := bk_cells (h'.below hb) hlt
      have hs := hb.size
      have hB1 : b < wr.heap.size := by omega
      have hB2 : b' < wr.heap.size := by omega
      have hI : (k : Int) < xs.length := by omega
      have hI0 : (0 : Int) ≤ k := by omega
      go_wp2_with fail
      refine wp_region_quiet_below (by kernel_rfl) (by kernel_rfl) ?_
      repeat (go_big_quiet_step ((go_at_call 54; exact Calls.regrown_of (eqBooking_same _ _ _ _))))
      (refine wpQuiet_nil ?_; intro w1 hwq; have hb1 := of_cls hwq; clear hwq)
      (have hs1 := hb1.size; (try simp at hs1); obtain ⟨hc1, hf1, hn1⟩ := bcell hb1; (try have hz1_wr_0 : wr.heap.size < w1.heap.size := by omega); (try have hz1_wr_1 : wr.heap.size + 1 < w1.heap.size := by omega); (try have hz1_wr_2 : wr.heap.size + 2 < w1.heap.size := by omega); (try have hB1 : b < w1.heap.size := by omega); (try have hB2 : b' < w1.heap.size := by omega); (try have hz1_wr_2b : wr.heap.size + 1 + 1 < w1.heap.size := by omega); (try have hz1_w_0 : w.heap.size < w1.heap.size := by omega); (try have hz1_w_1 : w.heap.size + 1 < w1.heap.size := by omega); (try have hz1_w_2 : w.heap.size + 2 < w1.heap.size := by omega); (try have hz1_w_2b : w.heap.size + 1 + 1 < w1.heap.size := by omega))
      go_wp2_with fail
      go_roundw
      case rel => exact ⟨k + 1, by omega, by go_num, (by repeat' (first | (with_reducible exact Below.refl _ _) | (with_reducible refine Below.alloc ?_ ?_ _) | (with_reducible refine Below.setCell ?_ ?_ _) | (with_reducible refine Below.drew ?_) | (with_reducible refine Below.trans ?_ (Below.mono (by with_reducible assumption) ?_)) | omega | (simp; done) | (simp; omega)))⟩
      case measure => simp [intOf]; omega
    · go_wp2
      go_ret
      exact ⟨rfl, hb⟩
set_option maxHeartbeats 400000 in
theorem szBookingS_le (A : Option Addr) (n c : Nat) (w : World) (h : n ≤ 1048576) :
    Calls Try.prog 13 #[.slice A n c, .int .i64 1048576] w fun e w' => e = .returned (.int .i64 (1048576 - (n : Int))) ∧ w = w' := by
  go_enter Try.func13, Try.ntmps13
  go_wp2
  go_ret
  exact ⟨rfl, rfl⟩
set_option maxHeartbeats 400000 in
theorem szBookingS_gt (A : Option Addr) (n c : Nat) (w : World) (_hn : n ≤ 9223372036854775807) (h : 1048576 < n) :
    Calls Try.prog 13 #[.slice A n c, .int .i64 1048576] w fun e w' => e = .returned (.int .i64 (-1)) ∧ w = w' := by
  go_enter Try.func13, Try.ntmps13
  go_wp2
  go_ret
  exact ⟨rfl, rfl⟩
theorem bk_info : (Try.prog.info? 45).map (fun i => (i.zero, i.size, i.bytes)) = some (some (.agg #[.int .i64 0, .int .i64 0, .int .i64 0]), 3, 24) := by kernel_rfl
set_option maxHeartbeats 4000000 in
theorem toBookingS_cap (A : Option Addr) (c : Nat) (xs : List Bk) (w : World) (h : Rd w w.heap.size A 3 Bk.enc xs) (hx : xs.length ≤ 1048576) :
    Calls Try.prog 15 #[.slice A xs.length c] w fun e w' => MadeN w 45 (xs.flatMap Bk.enc) xs.length e w' := by
  obtain ⟨i0, hi, hz0, hz1, hz2⟩ := info_parts bk_info
  have hmk := fun (W : World) => run_make (P := Try.prog) W 26 45 i0 _ Try.underlying26 hi hz0 .i64 .i64 xs.length xs.length (by omega) (by omega) (by rw [hz2]; omega) (by omega)
  simp only [hz1, Int.toNat_natCast] at hmk
  clear hi hz0 hz1 hz2
  go_enter Try.func15, Try.ntmps15
  go_wp2
  have hrow0 := Row.new w 45 (madeCells #[.int .i64 0, .int .i64 0, .int .i64 0] (xs.length * 3))
  have hb0 : Below w.heap.size w (w.alloc (.cells (madeCells #[.int .i64 0, .int .i64 0, .int .i64 0] (xs.length * 3)) 45)) := Below.alloc (Below.refl _ _) (Nat.le_refl _) _
  have hl0 : (madeCells #[.int .i64 0, .int .i64 0, .int .i64 0] (xs.length * 3)).toList.length = xs.length * 3 := by simp [madeCells]
  generalize w.alloc (.cells (madeCells #[.int .i64 0, .int .i64 0, .int .i64 0] (xs.length * 3)) 45) = W1 at *
  generalize (madeCells #[.int .i64 0, .int .i64 0, .int .i64 0] (xs.length * 3)).toList = zs at *
  have Hl := Lib.hid hl0
  clear hl0 hmk
  go_loopw [4] (fun i wr => ∃ k : Nat, k ≤ xs.length ∧ i = .int .i64 k ∧ Below w.heap.size w wr ∧ Row wr w.heap.size 45 ((xs.take k).flatMap Bk.enc ++ zs.drop (k * 3))) (fun i _ => xs.length - (intOf i).toNat)
  case atStart => exact ⟨0, Nat.zero_le _, rfl, hb0, by simpa using hrow0⟩
  case round =>
    obtain ⟨k, hk, rfl, hb, hrow⟩ := hrel
    by_cases hlt : k < xs.length
    · obtain ⟨b, o, rfl, hB, c0, c1, c2⟩ := bk_cells (h.below hb) hlt
      have hI : (k : Int) < xs.length := by omega
      have hI0 : (0 : Int) ≤ k := by omega
      have hs := hrow.lt
      have hB1 : b < wr.heap.size := by omega
      have hpl : ((xs.take k).flatMap Bk.enc).length = k * 3 := by rw [flat_len Bk.enc_len, List.length_take, Nat.min_eq_left hk]
      have hln : k * 3 + 3 ≤ xs.length * 3 := by omega
      have g0 : ∃ v, wr.cell? ⟨w.heap.size, k * 3, none⟩ = some v := ⟨_, hrow.cell (by rw [List.length_append, List.length_drop, hpl, Hl.out]; omega)⟩
      have f0 := hrow.frozen (k * 3)
      have g1 : ∃ v, wr.cell? ⟨w.heap.size, k * 3 + 1, none⟩ = some v := ⟨_, hrow.cell (by rw [List.length_append, List.length_drop, hpl, Hl.out]; omega)⟩
      have f1 := hrow.frozen (k * 3 + 1)
      have g2 : ∃ v, wr.cell? ⟨w.heap.size, k * 3 + 2, none⟩ = some v := ⟨_, hrow.cell (by rw [List.length_append, List.length_drop, hpl, Hl.out]; omega)⟩
      have f2 := hrow.frozen (k * 3 + 2)
      obtain ⟨v0, g0⟩ := g0
      obtain ⟨v1, g1⟩ := g1
      obtain ⟨v2, g2⟩ := g2
      have Hrow := Lib.hid hrow
      have Hpl := Lib.hid hpl
      clear hrow hpl
      go_wp2_with fail
      (go_at_call 33; refine (toBooking_any _ _ _ _).mono ?_; rintro e w1 ⟨rfl, hb1⟩)
      (have hs1 := hb1.size; (try simp at hs1); obtain ⟨hc1, hf1, hn1⟩ := bcell hb1; (try have hz1_wr_0 : wr.heap.size < w1.heap.size := by omega); (try have hz1_wr_1 : wr.heap.size + 1 < w1.heap.size := by omega); (try have hz1_wr_2 : wr.heap.size + 2 < w1.heap.size := by omega); (try have hB1 : b < w1.heap.size := by omega); (try have hB2 : b' < w1.heap.size := by omega); (try have hz1_wr_2b : wr.heap.size + 1 + 1 < w1.heap.size := by omega); (try have hz1_w_0 : w.heap.size < w1.heap.size := by omega); (try have hz1_w_1 : w.heap.size + 1 < w1.heap.size := by omega); (try have hz1_w_2 : w.heap.size + 2 < w1.heap.size := by omega); (try have hz1_w_2b : w.heap.size + 1 + 1 < w1.heap.size := by omega))
      go_wp2_with fail
      have r0 := Hrow.out.to hb1
      have r1 := r0.set (j := k * 3) (.int .i64 (el xs k).d)
      have r2 := r1.set (j := k * 3 + 1) (.int .i64 (el xs k).k)
      have r3 := r2.set (j := k * 3 + 2) (.int .i64 (el xs k).q)
      have e1 : (((((xs.take k).flatMap Bk.enc ++ zs.drop (k * 3)).set (k * 3) (.int .i64 (el xs k).d)).set (k * 3 + 1) (.int .i64 (el xs k).k)).set (k * 3 + 2) (.int .i64 (el xs k).q)) = (xs.take (k + 1)).flatMap Bk.enc ++ zs.drop ((k + 1) * 3) := by
        rw [set_next Hpl.out (by rw [Hl.out]; omega)]
        rw [set_next (m := k * 3 + 1) (by simp [Hpl.out]) (by rw [Hl.out]; omega)]
        rw [set_next (m := k * 3 + 2) (by simp [Hpl.out]) (by rw [Hl.out]; omega)]
        rw [take_el hlt, List.flatMap_append, show (k + 1) * 3 = k * 3 + 3 by omega]
        simp [Bk.enc]
      rw [e1] at r3
      clear e1
      go_roundw
      case rel => exact ⟨k + 1, by omega, by go_num, (by repeat' (first | (with_reducible exact Below.refl _ _) | (with_reducible refine Below.alloc ?_ ?_ _) | (with_reducible refine Below.setCell ?_ ?_ _) | (with_reducible refine Below.drew ?_) | (with_reducible refine Below.trans ?_ (Below.mono (by with_reducible assumption) ?_)) | omega | (simp; done) | (simp; omega))), r3⟩
      case measure => simp [intOf]; omega
    · obtain rfl : k = xs.length := by omega
      go_wp2
      go_ret
      refine ⟨w.heap.size, rfl, Nat.le_refl _, ?_, hb⟩
      have e : (xs.take xs.length).flatMap Bk.enc ++ zs.drop (xs.length * 3) = xs.flatMap Bk.enc := by rw [List.take_length, List.drop_of_length_le (by rw [Hl.out]; exact Nat.le_refl _), List.append_nil]
      rw [e] at hrow
      exact hrow
theorem toBookingS_any (A : Option Addr) (c : Nat) (xs : List Bk) (w : World) (h : Rd w w.heap.size A 3 Bk.enc xs) (hx : xs.length ≤ 1048576) :
    Calls Try.prog 15 #[.slice A xs.length c] w fun e w' => Made w 45 (xs.flatMap Bk.enc) xs.length e w' := (toBookingS_cap A c xs w h hx).mono fun _ _ h => h.made
set_option maxHeartbeats 400000 in
theorem markBookingS_nil (A : Option Addr) (c : Nat) (w : World) :
    Calls Try.prog 30 #[.slice A 0 c, .int .i64 1] w fun e w' => e = .returned (.int .i64 1) ∧ w = w' := by
  go_enter Try.func30, Try.ntmps30
  go_wp2
  go_loopw [1, 5] (fun x i wr => x = .int .i64 1 ∧ i = .int .i64 0 ∧ w = wr) (fun _ _ _ => 0)
  case atStart => exact ⟨rfl, rfl, rfl⟩
  case round =>
    obtain ⟨rfl, rfl, rfl⟩ := hrel
    go_wp2
    go_ret
    exact ⟨rfl, rfl⟩
set_option maxHeartbeats 2000000 in
theorem markBookingS_row (g c n : Nat) (cs : List Value) (w : World) (h : Row w g 45 cs) (hl : cs.length = n * 3) (hn : n ≤ 2097152) :
    Calls Try.prog 30 #[.slice (some ⟨g, 0, none⟩) n c, .int .i64 1] w fun e w' => e = .returned (.int .i64 (1 + ((n * 3 : Nat) : Int))) ∧ Row w' g 45 (nums 1 (n * 3)) ∧ w.grownBy w' (some g) := by
  have Hl := Lib.hid hl
  clear hl
  go_enter Try.func30, Try.ntmps30
  go_wp2
  go_loopw [1, 5] (fun x i wr => ∃ k m : Nat, k ≤ n ∧ i = .int .i64 k ∧ Hid (m = k * 3) ∧ x = .int .i64 (1 + m) ∧ Row wr g 45 (nums 1 m ++ cs.drop m) ∧ w.grownBy wr (some g)) (fun _ i _ => n - (intOf i).toNat)
  case atStart => exact ⟨0, 0, Nat.zero_le _, rfl, by unfold Hid; omega, rfl, by simpa [nums] using h, World.grownBy.refl _ _⟩
  case round =>
    obtain ⟨k, m, hk, rfl, Hm, rfl, hrow, hg⟩ := hrel
    by_cases hlt : k < n
    · have hI : (k : Int) < n := by omega
      have hI0 : (0 : Int) ≤ k := by omega
      have hmb : (m : Int) ≤ 20000000 := by have := Hm.out; omega
      have hm0 : (0 : Int) ≤ m := by omega
      have g0 : ∃ v, wr.cell? ⟨g, k * 3, none⟩ = some v := ⟨_, hrow.cell (by rw [List.length_append, List.length_drop, nums_len, Hl.out]; have := Hm.out; omega)⟩
      have f0 := hrow.frozen (k * 3)
      have g1 : ∃ v, wr.cell? ⟨g, k * 3 + 1, none⟩ = some v := ⟨_, hrow.cell (by rw [List.length_append, List.length_drop, nums_len, Hl.out]; have := Hm.out; omega)⟩
      have f1 := hrow.frozen (k * 3 + 1)
      have g2 : ∃ v, wr.cell? ⟨g, k * 3 + 2, none⟩ = some v := ⟨_, hrow.cell (by rw [List.length_append, List.length_drop, nums_len, Hl.out]; have := Hm.out; omega)⟩
      have f2 := hrow.frozen (k * 3 + 2)
      obtain ⟨v0, g0⟩ := g0
      obtain ⟨v1, g1⟩ := g1
      obtain ⟨v2, g2⟩ := g2
      have r0 := hrow
      have r1 := r0.set (j := k * 3) (.int .i64 (1 + (m : Int)))
      have r2 := r1.set (j := k * 3 + 1) (.int .i64 (1 + (m : Int) + 1))
      have r3 := r2.set (j := k * 3 + 2) (.int .i64 (1 + (m : Int) + 1 + 1))
      have e1 : ((((nums 1 m ++ cs.drop m).set (k * 3) (.int .i64 (1 + (m : Int)))).set (k * 3 + 1) (.int .i64 (1 + (m : Int) + 1))).set (k * 3 + 2) (.int .i64 (1 + (m : Int) + 1 + 1))) = nums 1 (m + 3) ++ cs.drop (m + 3) := by
        have hm := Hm.out
        rw [show k * 3 = m by omega]
        rw [set_next (m := m) (by simp [nums_len]) (by rw [Hl.out]; omega)]
        rw [set_next (m := m + 1) (by simp [nums_len]) (by rw [Hl.out]; omega)]
        rw [set_next (m := m + 2) (by simp [nums_len]) (by rw [Hl.out]; omega)]
        simp only [show m + 3 = m + 2 + 1 from rfl, show m + 2 = m + 1 + 1 from rfl, nums_succ, List.append_assoc]
        all_goals first | rfl | (congr 1; done) | (congr 1; simp; done) | (congr 1; simp; omega)
      have R := Lib.hid r3
      have E := Lib.hid e1
      clear e1 r0 r1 r2 r3 hrow
      go_wp2
      go_roundw
      case rel => exact ⟨k + 1, m + 3, by omega, by go_num, by have := Hm.out; unfold Hid; omega, by first | go_num | (congr 1; done) | (congr 1; omega), by have r := R.out; rw [E.out] at r; exact r, only_setCell (only_setCell (only_setCell (hg) (.inl rfl) _) (.inl rfl) _) (.inl rfl) _⟩
      case measure => simp [intOf]; omega
    · obtain rfl : k = n := by omega
      have hd : cs.drop m = [] := List.drop_of_length_le (by rw [Hl.out]; have := Hm.out; omega)
      rw [hd, List.append_nil] at hrow
      obtain rfl : m = k * 3 := Hm.out
      go_wp2
      go_ret
      exact ⟨rfl, hrow, hg⟩
set_option maxHeartbeats 400000 in
theorem heldBookingS_nil (A : Option Addr) (c : Nat) (w : World) :
    Calls Try.prog 31 #[.slice A 0 c, .int .i64 1] w fun e w' => e = .returned (.int .i64 1) ∧ w = w' := by
  go_enter Try.func31, Try.ntmps31
  go_wp2
  go_loopw [1, 5] (fun x i wr => x = .int .i64 1 ∧ i = .int .i64 0 ∧ w = wr) (fun _ _ _ => 0)
  case atStart => exact ⟨rfl, rfl, rfl⟩
  case round =>
    obtain ⟨rfl, rfl, rfl⟩ := hrel
    go_wp2
    go_ret
    exact ⟨rfl, rfl⟩
set_option maxHeartbeats 2000000 in
theorem heldBookingS_row (g c n : Nat) (w : World) (h : Row w g 45 (nums 1 (n * 3))) (hn : n ≤ 2097152) :
    Calls Try.prog 31 #[.slice (some ⟨g, 0, none⟩) n c, .int .i64 1] w fun e w' => e = .returned (.int .i64 (1 + ((n * 3 : Nat) : Int))) ∧ w = w' := by
  go_enter Try.func31, Try.ntmps31
  go_wp2
  go_loopw [1, 5] (fun x i wr => ∃ k m : Nat, k ≤ n ∧ i = .int .i64 k ∧ Hid (m = k * 3) ∧ x = .int .i64 (1 + m) ∧ w = wr) (fun _ i _ => n - (intOf i).toNat)
  case atStart => exact ⟨0, 0, Nat.zero_le _, rfl, by unfold Hid; omega, rfl, rfl⟩
  case round =>
    obtain ⟨k, m, hk, rfl, Hm, rfl, rfl⟩ := hrel
    by_cases hlt : k < n
    · have hI : (k : Int) < n := by omega
      have hI0 : (0 : Int) ≤ k := by omega
      have hmb : (m : Int) ≤ 20000000 := by have := Hm.out; omega
      have hm0 : (0 : Int) ≤ m := by omega
      have g0 : w.cell? ⟨g, k * 3, none⟩ = some (.int .i64 (1 + (m : Int))) := (h.cell (by rw [nums_len]; omega)).trans (by simp [nums]; have := Hm.out; omega)
      have g1 : w.cell? ⟨g, k * 3 + 1, none⟩ = some (.int .i64 (1 + (m : Int) + 1)) := (h.cell (by rw [nums_len]; omega)).trans (by simp [nums]; have := Hm.out; omega)
      have g2 : w.cell? ⟨g, k * 3 + 2, none⟩ = some (.int .i64 (1 + (m : Int) + 1 + 1)) := (h.cell (by rw [nums_len]; omega)).trans (by simp [nums]; have := Hm.out; omega)
      go_wp2
      go_roundw
      case rel => exact ⟨k + 1, m + 3, by omega, by go_num, by have := Hm.out; unfold Hid; omega, by first | go_num | (congr 1; done) | (congr 1; omega), by first | rfl | trivial⟩
      case measure => simp [intOf]; omega
    · obtain rfl : k = n := by omega
      obtain rfl : m = k * 3 := Hm.out
      go_wp2
      go_ret
      exact ⟨rfl, rfl⟩
end Go.Proofs.Ytkhldmicejdggaa
