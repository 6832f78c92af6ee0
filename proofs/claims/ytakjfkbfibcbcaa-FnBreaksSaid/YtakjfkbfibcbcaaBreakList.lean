/- Contracts of the laws' own functions over breaks and slices of them. -/
import Derived.Test.YtakjfkbfibcbcaaLeaf
import Derived.Test.YtakjfkbfibcbcaaSlice
import Derived.Lib.Hide
set_option linter.unusedSimpArgs false
set_option linter.unusedVariables false
namespace Go.Proofs.Ytakjfkbfibcbcaa
open Go.RowKit Go.Sort Go.Salt
attribute [local go_sem] cell_rg
/-- A Break. -/
structure Brk where
  i : Int
  p : Int
  m : Int
  g : Int
  t : Int
  d : Int
instance : Inhabited Brk := ⟨⟨0, 0, 0, 0, 0, 0⟩⟩
def Brk.enc (x : Brk) : List Value := [.int .i64 x.i, .int .i64 x.p, .int .i64 x.m, .int .i64 x.g, .int .i64 x.t, .int .i64 x.d]
theorem Brk.enc_len (x : Brk) : x.enc.length = 6 := rfl
theorem brk_cells {w : World} {B : Nat} {A : Option Addr} {xs : List Brk} (h : Rd w B A 6 Brk.enc xs) {i : Nat} (hi : i < xs.length) :
    ∃ b o, A = some ⟨b, o, none⟩ ∧ b < B ∧ w.cell? ⟨b, o + i * 6, none⟩ = some (.int .i64 (el xs i).i) ∧ w.cell? ⟨b, o + i * 6 + 1, none⟩ = some (.int .i64 (el xs i).p) ∧ w.cell? ⟨b, o + i * 6 + 2, none⟩ = some (.int .i64 (el xs i).m) ∧ w.cell? ⟨b, o + i * 6 + 3, none⟩ = some (.int .i64 (el xs i).g) ∧ w.cell? ⟨b, o + i * 6 + 4, none⟩ = some (.int .i64 (el xs i).t) ∧ w.cell? ⟨b, o + i * 6 + 5, none⟩ = some (.int .i64 (el xs i).d) := by
  obtain ⟨b, o, e, hb, hc⟩ := h (by omega)
  have h1 := hc i hi
  exact ⟨b, o, e, hb, h1 0 (by simp [Brk.enc]), h1 1 (by simp [Brk.enc]), h1 2 (by simp [Brk.enc]), h1 3 (by simp [Brk.enc]), h1 4 (by simp [Brk.enc]), h1 5 (by simp [Brk.enc])⟩
set_option maxHeartbeats 1000000 in
theorem toBreak_any (i p m g t d : Int) (w : World) :
    Calls Try.prog 17 #[.agg #[.int .i64 i, .int .i64 p, .int .i64 m, .int .i64 g, .int .i64 t, .int .i64 d]] w fun e w' => e = .returned (.agg #[.int .i64 i, .int .i64 p, .int .i64 m, .int .i64 g, .int .i64 t, .int .i64 d]) ∧ Below w.heap.size w w' := by
  go_enter Try.func17, Try.ntmps17
  go_wp2
  go_returns
  exact ⟨rfl, (by repeat' (first | (with_reducible exact Below.refl _ _) | (with_reducible refine Below.alloc ?_ ?_ _) | (with_reducible refine Below.setCell ?_ ?_ _) | (with_reducible refine Below.drew ?_) | (with_reducible refine Below.trans ?_ (Below.mono (by with_reducible assumption) ?_)) | omega | (simp; done) | (simp; omega)))⟩
set_option maxHeartbeats 1000000 in
theorem eqBreak_same (i p m g t d : Int) (w : World) :
    Calls Try.prog 69 #[.agg #[.int .i64 i, .int .i64 p, .int .i64 m, .int .i64 g, .int .i64 t, .int .i64 d], .agg #[.int .i64 i, .int .i64 p, .int .i64 m, .int .i64 g, .int .i64 t, .int .i64 d]] w fun e w' => e = .returned (.bool true) ∧ Below w.heap.size w w' := by
  go_enter Try.func69, Try.ntmps69
  go_wp2
  go_ret
  exact ⟨rfl, (by repeat' (first | (with_reducible exact Below.refl _ _) | (with_reducible refine Below.alloc ?_ ?_ _) | (with_reducible refine Below.setCell ?_ ?_ _) | (with_reducible refine Below.drew ?_) | (with_reducible refine Below.trans ?_ (Below.mono (by with_reducible assumption) ?_)) | omega | (simp; done) | (simp; omega)))⟩
set_option maxHeartbeats 2000000 in
theorem eqBreakS_same (A A' : Option Addr) (c c' : Nat) (xs : List Brk) (w : World) (h : Rd w w.heap.size A 6 Brk.enc xs) (h' : Rd w w.heap.size A' 6 Brk.enc xs) (hx : xs.length ≤ 1048576) :
    Calls Try.prog 26 #[.slice A xs.length c, .slice A' xs.length c'] w fun e w' => e = .returned (.bool true) ∧ Below w.heap.size w w' := by
  go_enter Try.func26, Try.ntmps26
  go_wp2
  go_loopw [5] (fun i wr => ∃ k : Nat, k ≤ xs.length ∧ i = .int .i64 k ∧ Below w.heap.size w wr) (fun i _ => xs.length - (intOf i).toNat)
  case atStart => exact ⟨0, Nat.zero_le _, rfl, Below.refl _ _⟩
  case round =>
    obtain ⟨k, hk, rfl, hb⟩ := hrel
    by_cases hlt : k < xs.length
    · obtain ⟨b, o, rfl, hB, c0, c1, c2, c3, c4, c5⟩ := brk_cells (h.below hb) hlt
      obtain ⟨b', o', rfl, hB', d0, d1, d2, d3, d4, d5⟩ := brk_cells (h'.below hb) hlt
      have hs := hb.size
      have hB1 : b < wr.heap.size := by omega
      have hB2 : b' < wr.heap.size := by omega
      have hI : (k : Int) < xs.length := by omega
      have hI0 : (0 : Int) ≤ k := by omega
      go_wp2_with fail
      refine wp_region_quiet_below (by kernel_rfl) (by kernel_rfl) ?_
      repeat (go_big_quiet_step ((go_at_call 69; exact Calls.regrown_of (eqBreak_same _ _ _ _ _ _ _))))
      (refine wpQuiet_nil ?_; intro w1 hwq; have hb1 := of_cls hwq; clear hwq)
      (have hs1 := hb1.size; (try simp at hs1); obtain ⟨hc1, hf1, hn1⟩ := bcell hb1; (try have hz1_wr_0 : wr.heap.size < w1.heap.size := by omega); (try have hz1_wr_1 : wr.heap.size + 1 < w1.heap.size := by omega); (try have hz1_wr_2 : wr.heap.size + 2 < w1.heap.size := by omega); (try have hB1 : b < w1.heap.size := by omega); (try have hB2 : b' < w1.heap.size := by omega); (try have hz1_wr_2b : wr.heap.size + 1 + 1 < w1.heap.size := by omega); (try have hz1_w_0 : w.heap.size < w1.heap.size := by omega); (try have hz1_w_1 : w.heap.size + 1 < w1.heap.size := by omega); (try have hz1_w_2 : w.heap.size + 2 < w1.heap.size := by omega); (try have hz1_w_2b : w.heap.size + 1 + 1 < w1.heap.size := by omega))
      go_wp2_with fail
      go_roundw
      case rel => exact ⟨k + 1, by omega, by go_num, (by repeat' (first | (with_reducible exact Below.refl _ _) | (with_reducible refine Below.alloc ?_ ?_ _) | (with_reducible refine Below.setCell ?_ ?_ _) | (with_reducible refine Below.drew ?_) | (with_reducible refine Below.trans ?_ (Below.mono (by with_reducible assumption) ?_)) | omega | (simp; done) | (simp; omega)))⟩
      case measure => simp [intOf]; omega
    · go_wp2
      go_ret
      exact ⟨rfl, hb⟩
set_option maxHeartbeats 400000 in
theorem szBreakS_le (A : Option Addr) (n c : Nat) (w : World) (h : n ≤ 1048576) :
    Calls Try.prog 22 #[.slice A n c, .int .i64 1048576] w fun e w' => e = .returned (.int .i64 (1048576 - (n : Int))) ∧ w = w' := by
  go_enter Try.func22, Try.ntmps22
  go_wp2
  go_ret
  exact ⟨rfl, rfl⟩
set_option maxHeartbeats 400000 in
theorem szBreakS_gt (A : Option Addr) (n c : Nat) (w : World) (_hn : n ≤ 9223372036854775807) (h : 1048576 < n) :
    Calls Try.prog 22 #[.slice A n c, .int .i64 1048576] w fun e w' => e = .returned (.int .i64 (-1)) ∧ w = w' := by
  go_enter Try.func22, Try.ntmps22
  go_wp2
  go_ret
  exact ⟨rfl, rfl⟩
theorem brk_info : (Try.prog.info? 25).map (fun i => (i.zero, i.size, i.bytes)) = some (some (.agg #[.int .i64 0, .int .i64 0, .int .i64 0, .int .i64 0, .int .i64 0, .int .i64 0]), 6, 48) := by kernel_rfl
set_option maxHeartbeats 4000000 in
theorem toBreakS_cap (A : Option Addr) (c : Nat) (xs : List Brk) (w : World) (h : Rd w w.heap.size A 6 Brk.enc xs) (hx : xs.length ≤ 1048576) :
    Calls Try.prog 24 #[.slice A xs.length c] w fun e w' => MadeN w 25 (xs.flatMap Brk.enc) xs.length e w' := by
  obtain ⟨i0, hi, hz0, hz1, hz2⟩ := info_parts brk_info
  have hmk := fun (W : World) => run_make (P := Try.prog) W 37 25 i0 _ Try.underlying37 hi hz0 .i64 .i64 xs.length xs.length (by omega) (by omega) (by rw [hz2]; omega) (by omega)
  simp only [hz1, Int.toNat_natCast] at hmk
  clear hi hz0 hz1 hz2
  go_enter Try.func24, Try.ntmps24
  go_wp2
  have hrow0 := Row.new w 25 (madeCells #[.int .i64 0, .int .i64 0, .int .i64 0, .int .i64 0, .int .i64 0, .int .i64 0] (xs.length * 6))
  have hb0 : Below w.heap.size w (w.alloc (.cells (madeCells #[.int .i64 0, .int .i64 0, .int .i64 0, .int .i64 0, .int .i64 0, .int .i64 0] (xs.length * 6)) 25)) := Below.alloc (Below.refl _ _) (Nat.le_refl _) _
  have hl0 : (madeCells #[.int .i64 0, .int .i64 0, .int .i64 0, .int .i64 0, .int .i64 0, .int .i64 0] (xs.length * 6)).toList.length = xs.length * 6 := by simp [madeCells]
  generalize w.alloc (.cells (madeCells #[.int .i64 0, .int .i64 0, .int .i64 0, .int .i64 0, .int .i64 0, .int .i64 0] (xs.length * 6)) 25) = W1 at *
  generalize (madeCells #[.int .i64 0, .int .i64 0, .int .i64 0, .int .i64 0, .int .i64 0, .int .i64 0] (xs.length * 6)).toList = zs at *
  have Hl := Lib.hid hl0
  clear hl0 hmk
  go_loopw [4] (fun i wr => ∃ k : Nat, k ≤ xs.length ∧ i = .int .i64 k ∧ Below w.heap.size w wr ∧ Row wr w.heap.size 25 ((xs.take k).flatMap Brk.enc ++ zs.drop (k * 6))) (fun i _ => xs.length - (intOf i).toNat)
  case atStart => exact ⟨0, Nat.zero_le _, rfl, hb0, by simpa using hrow0⟩
  case round =>
    obtain ⟨k, hk, rfl, hb, hrow⟩ := hrel
    by_cases hlt : k < xs.length
    · obtain ⟨b, o, rfl, hB, c0, c1, c2, c3, c4, c5⟩ := brk_cells (h.below hb) hlt
      have hI : (k : Int) < xs.length := by omega
      have hI0 : (0 : Int) ≤ k := by omega
      have hs := hrow.lt
      have hB1 : b < wr.heap.size := by omega
      have hpl : ((xs.take k).flatMap Brk.enc).length = k * 6 := by rw [flat_len Brk.enc_len, List.length_take, Nat.min_eq_left hk]
      have hln : k * 6 + 6 ≤ xs.length * 6 := by omega
      have g0 : ∃ v, wr.cell? ⟨w.heap.size, k * 6, none⟩ = some v := ⟨_, hrow.cell (by rw [List.length_append, List.length_drop, hpl, Hl.out]; omega)⟩
      have f0 := hrow.frozen (k * 6)
      have g1 : ∃ v, wr.cell? ⟨w.heap.size, k * 6 + 1, none⟩ = some v := ⟨_, hrow.cell (by rw [List.length_append, List.length_drop, hpl, Hl.out]; omega)⟩
      have f1 := hrow.frozen (k * 6 + 1)
      have g2 : ∃ v, wr.cell? ⟨w.heap.size, k * 6 + 2, none⟩ = some v := ⟨_, hrow.cell (by rw [List.length_append, List.length_drop, hpl, Hl.out]; omega)⟩
      have f2 := hrow.frozen (k * 6 + 2)
      have g3 : ∃ v, wr.cell? ⟨w.heap.size, k * 6 + 3, none⟩ = some v := ⟨_, hrow.cell (by rw [List.length_append, List.length_drop, hpl, Hl.out]; omega)⟩
      have f3 := hrow.frozen (k * 6 + 3)
      have g4 : ∃ v, wr.cell? ⟨w.heap.size, k * 6 + 4, none⟩ = some v := ⟨_, hrow.cell (by rw [List.length_append, List.length_drop, hpl, Hl.out]; omega)⟩
      have f4 := hrow.frozen (k * 6 + 4)
      have g5 : ∃ v, wr.cell? ⟨w.heap.size, k * 6 + 5, none⟩ = some v := ⟨_, hrow.cell (by rw [List.length_append, List.length_drop, hpl, Hl.out]; omega)⟩
      have f5 := hrow.frozen (k * 6 + 5)
      obtain ⟨v0, g0⟩ := g0
      obtain ⟨v1, g1⟩ := g1
      obtain ⟨v2, g2⟩ := g2
      obtain ⟨v3, g3⟩ := g3
      obtain ⟨v4, g4⟩ := g4
      obtain ⟨v5, g5⟩ := g5
      have Hrow := Lib.hid hrow
      have Hpl := Lib.hid hpl
      clear hrow hpl
      go_wp2_with fail
      (go_at_call 17; refine (toBreak_any _ _ _ _ _ _ _).mono ?_; rintro e w1 ⟨rfl, hb1⟩)
      (have hs1 := hb1.size; (try simp at hs1); obtain ⟨hc1, hf1, hn1⟩ := bcell hb1; (try have hz1_wr_0 : wr.heap.size < w1.heap.size := by omega); (try have hz1_wr_1 : wr.heap.size + 1 < w1.heap.size := by omega); (try have hz1_wr_2 : wr.heap.size + 2 < w1.heap.size := by omega); (try have hB1 : b < w1.heap.size := by omega); (try have hB2 : b' < w1.heap.size := by omega); (try have hz1_wr_2b : wr.heap.size + 1 + 1 < w1.heap.size := by omega); (try have hz1_w_0 : w.heap.size < w1.heap.size := by omega); (try have hz1_w_1 : w.heap.size + 1 < w1.heap.size := by omega); (try have hz1_w_2 : w.heap.size + 2 < w1.heap.size := by omega); (try have hz1_w_2b : w.heap.size + 1 + 1 < w1.heap.size := by omega))
      go_wp2_with fail
      have r0 := Hrow.out.to hb1
      have r1 := r0.set (j := k * 6) (.int .i64 (el xs k).i)
      have r2 := r1.set (j := k * 6 + 1) (.int .i64 (el xs k).p)
      have r3 := r2.set (j := k * 6 + 2) (.int .i64 (el xs k).m)
      have r4 := r3.set (j := k * 6 + 3) (.int .i64 (el xs k).g)
      have r5 := r4.set (j := k * 6 + 4) (.int .i64 (el xs k).t)
      have r6 := r5.set (j := k * 6 + 5) (.int .i64 (el xs k).d)
      have e1 : ((((((((xs.take k).flatMap Brk.enc ++ zs.drop (k * 6)).set (k * 6) (.int .i64 (el xs k).i)).set (k * 6 + 1) (.int .i64 (el xs k).p)).set (k * 6 + 2) (.int .i64 (el xs k).m)).set (k * 6 + 3) (.int .i64 (el xs k).g)).set (k * 6 + 4) (.int .i64 (el xs k).t)).set (k * 6 + 5) (.int .i64 (el xs k).d)) = (xs.take (k + 1)).flatMap Brk.enc ++ zs.drop ((k + 1) * 6) := by
        rw [set_next Hpl.out (by rw [Hl.out]; omega)]
        rw [set_next (m := k * 6 + 1) (by simp [Hpl.out]) (by rw [Hl.out]; omega)]
        rw [set_next (m := k * 6 + 2) (by simp [Hpl.out]) (by rw [Hl.out]; omega)]
        rw [set_next (m := k * 6 + 3) (by simp [Hpl.out]) (by rw [Hl.out]; omega)]
        rw [set_next (m := k * 6 + 4) (by simp [Hpl.out]) (by rw [Hl.out]; omega)]
        rw [set_next (m := k * 6 + 5) (by simp [Hpl.out]) (by rw [Hl.out]; omega)]
        rw [take_el hlt, List.flatMap_append, show (k + 1) * 6 = k * 6 + 6 by omega]
        simp [Brk.enc]
      rw [e1] at r6
      clear e1
      go_roundw
      case rel => exact ⟨k + 1, by omega, by go_num, (by repeat' (first | (with_reducible exact Below.refl _ _) | (with_reducible refine Below.alloc ?_ ?_ _) | (with_reducible refine Below.setCell ?_ ?_ _) | (with_reducible refine Below.drew ?_) | (with_reducible refine Below.trans ?_ (Below.mono (by with_reducible assumption) ?_)) | omega | (simp; done) | (simp; omega))), r6⟩
      case measure => simp [intOf]; omega
    · obtain rfl : k = xs.length := by omega
      go_wp2
      go_ret
      refine ⟨w.heap.size, rfl, Nat.le_refl _, ?_, hb⟩
      have e : (xs.take xs.length).flatMap Brk.enc ++ zs.drop (xs.length * 6) = xs.flatMap Brk.enc := by rw [List.take_length, List.drop_of_length_le (by rw [Hl.out]; exact Nat.le_refl _), List.append_nil]
      rw [e] at hrow
      exact hrow
theorem toBreakS_any (A : Option Addr) (c : Nat) (xs : List Brk) (w : World) (h : Rd w w.heap.size A 6 Brk.enc xs) (hx : xs.length ≤ 1048576) :
    Calls Try.prog 24 #[.slice A xs.length c] w fun e w' => Made w 25 (xs.flatMap Brk.enc) xs.length e w' := (toBreakS_cap A c xs w h hx).mono fun _ _ h => h.made
set_option maxHeartbeats 400000 in
theorem markBreakS_nil (A : Option Addr) (c : Nat) (w : World) :
    Calls Try.prog 36 #[.slice A 0 c, .int .i64 1] w fun e w' => e = .returned (.int .i64 1) ∧ w = w' := by
  go_enter Try.func36, Try.ntmps36
  go_wp2
  go_loopw [1, 5] (fun x i wr => x = .int .i64 1 ∧ i = .int .i64 0 ∧ w = wr) (fun _ _ _ => 0)
  case atStart => exact ⟨rfl, rfl, rfl⟩
  case round =>
    obtain ⟨rfl, rfl, rfl⟩ := hrel
    go_wp2
    go_ret
    exact ⟨rfl, rfl⟩
set_option maxHeartbeats 2000000 in
theorem markBreakS_row (g c n : Nat) (cs : List Value) (w : World) (h : Row w g 25 cs) (hl : cs.length = n * 6) (hn : n ≤ 2097152) :
    Calls Try.prog 36 #[.slice (some ⟨g, 0, none⟩) n c, .int .i64 1] w fun e w' => e = .returned (.int .i64 (1 + ((n * 6 : Nat) : Int))) ∧ Row w' g 25 (nums 1 (n * 6)) ∧ w.grownBy w' (some g) := by
  have Hl := Lib.hid hl
  clear hl
  go_enter Try.func36, Try.ntmps36
  go_wp2
  go_loopw [1, 5] (fun x i wr => ∃ k m : Nat, k ≤ n ∧ i = .int .i64 k ∧ Hid (m = k * 6) ∧ x = .int .i64 (1 + m) ∧ Row wr g 25 (nums 1 m ++ cs.drop m) ∧ w.grownBy wr (some g)) (fun _ i _ => n - (intOf i).toNat)
  case atStart => exact ⟨0, 0, Nat.zero_le _, rfl, by unfold Hid; omega, rfl, by simpa [nums] using h, World.grownBy.refl _ _⟩
  case round =>
    obtain ⟨k, m, hk, rfl, Hm, rfl, hrow, hg⟩ := hrel
    by_cases hlt : k < n
    · have hI : (k : Int) < n := by omega
      have hI0 : (0 : Int) ≤ k := by omega
      have hmb : (m : Int) ≤ 20000000 := by have := Hm.out; omega
      have hm0 : (0 : Int) ≤ m := by omega
      have g0 : ∃ v, wr.cell? ⟨g, k * 6, none⟩ = some v := ⟨_, hrow.cell (by rw [List.length_append, List.length_drop, nums_len, Hl.out]; have := Hm.out; omega)⟩
      have f0 := hrow.frozen (k * 6)
      have g1 : ∃ v, wr.cell? ⟨g, k * 6 + 1, none⟩ = some v := ⟨_, hrow.cell (by rw [List.length_append, List.length_drop, nums_len, Hl.out]; have := Hm.out; omega)⟩
      have f1 := hrow.frozen (k * 6 + 1)
      have g2 : ∃ v, wr.cell? ⟨g, k * 6 + 2, none⟩ = some v := ⟨_, hrow.cell (by rw [List.length_append, List.length_drop, nums_len, Hl.out]; have := Hm.out; omega)⟩
      have f2 := hrow.frozen (k * 6 + 2)
      have g3 : ∃ v, wr.cell? ⟨g, k * 6 + 3, none⟩ = some v := ⟨_, hrow.cell (by rw [List.length_append, List.length_drop, nums_len, Hl.out]; have := Hm.out; omega)⟩
      have f3 := hrow.frozen (k * 6 + 3)
      have g4 : ∃ v, wr.cell? ⟨g, k * 6 + 4, none⟩ = some v := ⟨_, hrow.cell (by rw [List.length_append, List.length_drop, nums_len, Hl.out]; have := Hm.out; omega)⟩
      have f4 := hrow.frozen (k * 6 + 4)
      have g5 : ∃ v, wr.cell? ⟨g, k * 6 + 5, none⟩ = some v := ⟨_, hrow.cell (by rw [List.length_append, List.length_drop, nums_len, Hl.out]; have := Hm.out; omega)⟩
      have f5 := hrow.frozen (k * 6 + 5)
      obtain ⟨v0, g0⟩ := g0
      obtain ⟨v1, g1⟩ := g1
      obtain ⟨v2, g2⟩ := g2
      obtain ⟨v3, g3⟩ := g3
      obtain ⟨v4, g4⟩ := g4
      obtain ⟨v5, g5⟩ := g5
      have r0 := hrow
      have r1 := r0.set (j := k * 6) (.int .i64 (1 + (m : Int)))
      have r2 := r1.set (j := k * 6 + 1) (.int .i64 (1 + (m : Int) + 1))
      have r3 := r2.set (j := k * 6 + 2) (.int .i64 (1 + (m : Int) + 1 + 1))
      have r4 := r3.set (j := k * 6 + 3) (.int .i64 (1 + (m : Int) + 1 + 1 + 1))
      have r5 := r4.set (j := k * 6 + 4) (.int .i64 (1 + (m : Int) + 1 + 1 + 1 + 1))
      have r6 := r5.set (j := k * 6 + 5) (.int .i64 (1 + (m : Int) + 1 + 1 + 1 + 1 + 1))
      have e1 : (((((((nums 1 m ++ cs.drop m).set (k * 6) (.int .i64 (1 + (m : Int)))).set (k * 6 + 1) (.int .i64 (1 + (m : Int) + 1))).set (k * 6 + 2) (.int .i64 (1 + (m : Int) + 1 + 1))).set (k * 6 + 3) (.int .i64 (1 + (m : Int) + 1 + 1 + 1))).set (k * 6 + 4) (.int .i64 (1 + (m : Int) + 1 + 1 + 1 + 1))).set (k * 6 + 5) (.int .i64 (1 + (m : Int) + 1 + 1 + 1 + 1 + 1))) = nums 1 (m + 6) ++ cs.drop (m + 6) := by
        have hm := Hm.out
        rw [show k * 6 = m by omega]
        rw [set_next (m := m) (by simp [nums_len]) (by rw [Hl.out]; omega)]
        rw [set_next (m := m + 1) (by simp [nums_len]) (by rw [Hl.out]; omega)]
        rw [set_next (m := m + 2) (by simp [nums_len]) (by rw [Hl.out]; omega)]
        rw [set_next (m := m + 3) (by simp [nums_len]) (by rw [Hl.out]; omega)]
        rw [set_next (m := m + 4) (by simp [nums_len]) (by rw [Hl.out]; omega)]
        rw [set_next (m := m + 5) (by simp [nums_len]) (by rw [Hl.out]; omega)]
        simp only [show m + 6 = m + 5 + 1 from rfl, show m + 5 = m + 4 + 1 from rfl, show m + 4 = m + 3 + 1 from rfl, show m + 3 = m + 2 + 1 from rfl, show m + 2 = m + 1 + 1 from rfl, nums_succ, List.append_assoc]
        all_goals first | rfl | (congr 1; done) | (congr 1; simp; done) | (congr 1; simp; omega)
      have R := Lib.hid r6
      have E := Lib.hid e1
      clear e1 r0 r1 r2 r3 r4 r5 r6 hrow
      go_wp2
      go_roundw
      case rel => exact ⟨k + 1, m + 6, by omega, by go_num, by have := Hm.out; unfold Hid; omega, by first | go_num | (congr 1; done) | (congr 1; omega), by have r := R.out; rw [E.out] at r; exact r, only_setCell (only_setCell (only_setCell (only_setCell (only_setCell (only_setCell (hg) (.inl rfl) _) (.inl rfl) _) (.inl rfl) _) (.inl rfl) _) (.inl rfl) _) (.inl rfl) _⟩
      case measure => simp [intOf]; omega
    · obtain rfl : k = n := by omega
      have hd : cs.drop m = [] := List.drop_of_length_le (by rw [Hl.out]; have := Hm.out; omega)
      rw [hd, List.append_nil] at hrow
      obtain rfl : m = k * 6 := Hm.out
      go_wp2
      go_ret
      exact ⟨rfl, hrow, hg⟩
set_option maxHeartbeats 400000 in
theorem heldBreakS_nil (A : Option Addr) (c : Nat) (w : World) :
    Calls Try.prog 37 #[.slice A 0 c, .int .i64 1] w fun e w' => e = .returned (.int .i64 1) ∧ w = w' := by
  go_enter Try.func37, Try.ntmps37
  go_wp2
  go_loopw [1, 5] (fun x i wr => x = .int .i64 1 ∧ i = .int .i64 0 ∧ w = wr) (fun _ _ _ => 0)
  case atStart => exact ⟨rfl, rfl, rfl⟩
  case round =>
    obtain ⟨rfl, rfl, rfl⟩ := hrel
    go_wp2
    go_ret
    exact ⟨rfl, rfl⟩
set_option maxHeartbeats 2000000 in
theorem heldBreakS_row (g c n : Nat) (w : World) (h : Row w g 25 (nums 1 (n * 6))) (hn : n ≤ 2097152) :
    Calls Try.prog 37 #[.slice (some ⟨g, 0, none⟩) n c, .int .i64 1] w fun e w' => e = .returned (.int .i64 (1 + ((n * 6 : Nat) : Int))) ∧ w = w' := by
  go_enter Try.func37, Try.ntmps37
  go_wp2
  go_loopw [1, 5] (fun x i wr => ∃ k m : Nat, k ≤ n ∧ i = .int .i64 k ∧ Hid (m = k * 6) ∧ x = .int .i64 (1 + m) ∧ w = wr) (fun _ i _ => n - (intOf i).toNat)
  case atStart => exact ⟨0, 0, Nat.zero_le _, rfl, by unfold Hid; omega, rfl, rfl⟩
  case round =>
    obtain ⟨k, m, hk, rfl, Hm, rfl, rfl⟩ := hrel
    by_cases hlt : k < n
    · have hI : (k : Int) < n := by omega
      have hI0 : (0 : Int) ≤ k := by omega
      have hmb : (m : Int) ≤ 20000000 := by have := Hm.out; omega
      have hm0 : (0 : Int) ≤ m := by omega
      have g0 : w.cell? ⟨g, k * 6, none⟩ = some (.int .i64 (1 + (m : Int))) := (h.cell (by rw [nums_len]; omega)).trans (by simp [nums]; have := Hm.out; omega)
      have g1 : w.cell? ⟨g, k * 6 + 1, none⟩ = some (.int .i64 (1 + (m : Int) + 1)) := (h.cell (by rw [nums_len]; omega)).trans (by simp [nums]; have := Hm.out; omega)
      have g2 : w.cell? ⟨g, k * 6 + 2, none⟩ = some (.int .i64 (1 + (m : Int) + 1 + 1)) := (h.cell (by rw [nums_len]; omega)).trans (by simp [nums]; have := Hm.out; omega)
      have g3 : w.cell? ⟨g, k * 6 + 3, none⟩ = some (.int .i64 (1 + (m : Int) + 1 + 1 + 1)) := (h.cell (by rw [nums_len]; omega)).trans (by simp [nums]; have := Hm.out; omega)
      have g4 : w.cell? ⟨g, k * 6 + 4, none⟩ = some (.int .i64 (1 + (m : Int) + 1 + 1 + 1 + 1)) := (h.cell (by rw [nums_len]; omega)).trans (by simp [nums]; have := Hm.out; omega)
      have g5 : w.cell? ⟨g, k * 6 + 5, none⟩ = some (.int .i64 (1 + (m : Int) + 1 + 1 + 1 + 1 + 1)) := (h.cell (by rw [nums_len]; omega)).trans (by simp [nums]; have := Hm.out; omega)
      go_wp2
      go_roundw
      case rel => exact ⟨k + 1, m + 6, by omega, by go_num, by have := Hm.out; unfold Hid; omega, by first | go_num | (congr 1; done) | (congr 1; omega), by first | rfl | trivial⟩
      case measure => simp [intOf]; omega
    · obtain rfl : k = n := by omega
      obtain rfl : m = k * 6 := Hm.out
      go_wp2
      go_ret
      exact ⟨rfl, rfl⟩
end Go.Proofs.Ytakjfkbfibcbcaa
