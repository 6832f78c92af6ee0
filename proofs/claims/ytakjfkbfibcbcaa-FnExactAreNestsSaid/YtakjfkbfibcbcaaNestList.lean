/- Contracts of the laws' own functions over nests and slices of them. -/
import Derived.Test.YtakjfkbfibcbcaaLeaf
import Derived.Test.YtakjfkbfibcbcaaSlice
import Derived.Lib.Hide
namespace Go.Proofs.Ytakjfkbfibcbcaa
open Go.RowKit Go.Sort Go.Salt
attribute [local go_sem] cell_rg
/-- A Nest. -/
structure Nst where
  i : Int
  k : Int
  p : Int
  f : Int
  b : Int
  x : Int
  y : Int
instance : Inhabited Nst := ⟨⟨0, 0, 0, 0, 0, 0, 0⟩⟩
def Nst.enc (x : Nst) : List Value := [.int .i64 x.i, .int .i64 x.k, .int .i64 x.p, .int .i64 x.f, .int .i64 x.b, .int .i64 x.x, .int .i64 x.y]
theorem Nst.enc_len (x : Nst) : x.enc.length = 7 := rfl
theorem nst_cells {w : World} {B : Nat} {A : Option Addr} {xs : List Nst} (h : Rd w B A 7 Nst.enc xs) {i : Nat} (hi : i < xs.length) :
    ∃ b o, A = some ⟨b, o, none⟩ ∧ b < B ∧ w.cell? ⟨b, o + i * 7, none⟩ = some (.int .i64 (el xs i).i) ∧ w.cell? ⟨b, o + i * 7 + 1, none⟩ = some (.int .i64 (el xs i).k) ∧ w.cell? ⟨b, o + i * 7 + 2, none⟩ = some (.int .i64 (el xs i).p) ∧ w.cell? ⟨b, o + i * 7 + 3, none⟩ = some (.int .i64 (el xs i).f) ∧ w.cell? ⟨b, o + i * 7 + 4, none⟩ = some (.int .i64 (el xs i).b) ∧ w.cell? ⟨b, o + i * 7 + 5, none⟩ = some (.int .i64 (el xs i).x) ∧ w.cell? ⟨b, o + i * 7 + 6, none⟩ = some (.int .i64 (el xs i).y) := by
  obtain ⟨b, o, e, hb, hc⟩ := h (by omega)
  have h1 := hc i hi
  exact ⟨b, o, e, hb, h1 0 (by simp [Nst.enc]), h1 1 (by simp [Nst.enc]), h1 2 (by simp [Nst.enc]), h1 3 (by simp [Nst.enc]), h1 4 (by simp [Nst.enc]), h1 5 (by simp [Nst.enc]), h1 6 (by simp [Nst.enc])⟩
set_option maxHeartbeats 1000000 in
theorem toNest_any (i k p f b x y : Int) (w : World) :
    Calls Try.prog 20 #[.agg #[.int .i64 i, .int .i64 k, .int .i64 p, .int .i64 f, .int .i64 b, .int .i64 x, .int .i64 y]] w fun e w' => e = .returned (.agg #[.int .i64 i, .int .i64 k, .int .i64 p, .int .i64 f, .int .i64 b, .int .i64 x, .int .i64 y]) ∧ Below w.heap.size w w' := by
  go_enter Try.func20, Try.ntmps20
  go_wp2
  go_returns
  exact ⟨rfl, (by repeat' (first | (with_reducible exact Below.refl _ _) | (with_reducible refine Below.alloc ?_ ?_ _) | (with_reducible refine Below.setCell ?_ ?_ _) | (with_reducible refine Below.drew ?_) | (with_reducible refine Below.trans ?_ (Below.mono (by with_reducible assumption) ?_)) | omega | (simp; done) | (simp; omega)))⟩
set_option maxHeartbeats 1000000 in
theorem eqNest_same (i k p f b x y : Int) (w : World) :
    Calls Try.prog 71 #[.agg #[.int .i64 i, .int .i64 k, .int .i64 p, .int .i64 f, .int .i64 b, .int .i64 x, .int .i64 y], .agg #[.int .i64 i, .int .i64 k, .int .i64 p, .int .i64 f, .int .i64 b, .int .i64 x, .int .i64 y]] w fun e w' => e = .returned (.bool true) ∧ Below w.heap.size w w' := by
  go_enter Try.func71, Try.ntmps71
  go_wp2
  go_ret
  exact ⟨rfl, (by repeat' (first | (with_reducible exact Below.refl _ _) | (with_reducible refine Below.alloc ?_ ?_ _) | (with_reducible refine Below.setCell ?_ ?_ _) | (with_reducible refine Below.drew ?_) | (with_reducible refine Below.trans ?_ (Below.mono (by with_reducible assumption) ?_)) | omega | (simp; done) | (simp; omega)))⟩
set_option maxHeartbeats 2000000 in
theorem eqNestS_same (A A' : Option Addr) (c c' : Nat) (xs : List Nst) (w : World) (h : Rd w w.heap.size A 7 Nst.enc xs) (h' : Rd w w.heap.size A' 7 Nst.enc xs) (hx : xs.length ≤ 1048576) :
    Calls Try.prog 31 #[.slice A xs.length c, .slice A' xs.length c'] w fun e w' => e = .returned (.bool true) ∧ Below w.heap.size w w' := by
  go_enter Try.func31, Try.ntmps31
  go_wp2
  go_loopw [5] (fun i wr => ∃ k : Nat, k ≤ xs.length ∧ i = .int .i64 k ∧ Below w.heap.size w wr) (fun i _ => xs.length - (intOf i).toNat)
  case atStart => exact ⟨0, Nat.zero_le _, rfl, Below.refl _ _⟩
  case round =>
    obtain ⟨k, hk, rfl, hb⟩ := hrel
    by_cases hlt : k < xs.length
    · obtain ⟨b, o, rfl, hB, c0, c1, c2, c3, c4, c5, c6⟩ := nst_cells (h.below hb) hlt
      obtain ⟨b', o', rfl, hB', d0, d1, d2, d3, d4, d5, d6⟩ := nst_cells (h'.below hb) hlt
      have hs := hb.size
      have hB1 : b < wr.heap.size := by omega
      have hB2 : b' < wr.heap.size := by omega
      have hI : (k : Int) < xs.length := by omega
      have hI0 : (0 : Int) ≤ k := by omega
      go_wp2_with fail
      refine wp_region_quiet_below (by kernel_rfl) (by kernel_rfl) ?_
      repeat (go_big_quiet_step ((go_at_call 71; exact Calls.regrown_of (eqNest_same _ _ _ _ _ _ _ _))))
      (refine wpQuiet_nil ?_; intro w1 hwq; have hb1 := of_cls hwq; clear hwq)
      (have hs1 := hb1.size; (try simp at hs1); obtain ⟨hc1, hf1, hn1⟩ := bcell hb1; (try have hz1_wr_0 : wr.heap.size < w1.heap.size := by omega); (try have hz1_wr_1 : wr.heap.size + 1 < w1.heap.size := by omega); (try have hz1_wr_2 : wr.heap.size + 2 < w1.heap.size := by omega); (try have hB1 : b < w1.heap.size := by omega); (try have hB2 : b' < w1.heap.size := by omega); (try have hz1_wr_2b : wr.heap.size + 1 + 1 < w1.heap.size := by omega))
      go_wp2_with fail
      go_roundw
      case rel => exact ⟨k + 1, by omega, by go_num, (by repeat' (first | (with_reducible exact Below.refl _ _) | (with_reducible refine Below.alloc ?_ ?_ _) | (with_reducible refine Below.setCell ?_ ?_ _) | (with_reducible refine Below.drew ?_) | (with_reducible refine Below.trans ?_ (Below.mono (by with_reducible assumption) ?_)) | omega | (simp; done) | (simp; omega)))⟩
      case measure => simp [intOf]; omega
    · go_wp2
      go_ret
      exact ⟨rfl, hb⟩
set_option maxHeartbeats 400000 in
theorem szNestS_le (A : Option Addr) (n c : Nat) (w : World) (h : n ≤ 1048576) :
    Calls Try.prog 27 #[.slice A n c, .int .i64 1048576] w fun e w' => e = .returned (.int .i64 (1048576 - (n : Int))) ∧ w = w' := by
  go_enter Try.func27, Try.ntmps27
  go_wp2
  go_ret
  exact ⟨rfl, rfl⟩
set_option maxHeartbeats 400000 in
theorem szNestS_gt (A : Option Addr) (n c : Nat) (w : World) (_hn : n ≤ 9223372036854775807) (h : 1048576 < n) :
    Calls Try.prog 27 #[.slice A n c, .int .i64 1048576] w fun e w' => e = .returned (.int .i64 (-1)) ∧ w = w' := by
  go_enter Try.func27, Try.ntmps27
  go_wp2
  go_ret
  exact ⟨rfl, rfl⟩
theorem nst_info : (Try.prog.info? 31).map (fun i => (i.zero, i.size, i.bytes)) = some (some (.agg #[.int .i64 0, .int .i64 0, .int .i64 0, .int .i64 0, .int .i64 0, .int .i64 0, .int .i64 0]), 7, 56) := by kernel_rfl
set_option maxHeartbeats 4000000 in
theorem toNestS_any (A : Option Addr) (c : Nat) (xs : List Nst) (w : World) (h : Rd w w.heap.size A 7 Nst.enc xs) (hx : xs.length ≤ 1048576) :
    Calls Try.prog 29 #[.slice A xs.length c] w fun e w' => Made w 31 (xs.flatMap Nst.enc) xs.length e w' := by
  obtain ⟨i0, hi, hz0, hz1, hz2⟩ := info_parts nst_info
  have hmk := fun (W : World) => run_make (P := Try.prog) W 44 31 i0 _ Try.underlying44 hi hz0 .i64 .i64 xs.length xs.length (by omega) (by omega) (by rw [hz2]; omega) (by omega)
  simp only [hz1, Int.toNat_natCast] at hmk
  clear hi hz0 hz1 hz2
  go_enter Try.func29, Try.ntmps29
  go_wp2
  have hrow0 := Row.new w 31 (madeCells #[.int .i64 0, .int .i64 0, .int .i64 0, .int .i64 0, .int .i64 0, .int .i64 0, .int .i64 0] (xs.length * 7))
  have hb0 : Below w.heap.size w (w.alloc (.cells (madeCells #[.int .i64 0, .int .i64 0, .int .i64 0, .int .i64 0, .int .i64 0, .int .i64 0, .int .i64 0] (xs.length * 7)) 31)) := Below.alloc (Below.refl _ _) (Nat.le_refl _) _
  have hl0 : (madeCells #[.int .i64 0, .int .i64 0, .int .i64 0, .int .i64 0, .int .i64 0, .int .i64 0, .int .i64 0] (xs.length * 7)).toList.length = xs.length * 7 := by simp [madeCells]
  generalize w.alloc (.cells (madeCells #[.int .i64 0, .int .i64 0, .int .i64 0, .int .i64 0, .int .i64 0, .int .i64 0, .int .i64 0] (xs.length * 7)) 31) = W1 at *
  generalize (madeCells #[.int .i64 0, .int .i64 0, .int .i64 0, .int .i64 0, .int .i64 0, .int .i64 0, .int .i64 0] (xs.length * 7)).toList = zs at *
  have Hl := Lib.hid hl0
  clear hl0 hmk
  go_loopw [4] (fun i wr => ∃ k : Nat, k ≤ xs.length ∧ i = .int .i64 k ∧ Below w.heap.size w wr ∧ Row wr w.heap.size 31 ((xs.take k).flatMap Nst.enc ++ zs.drop (k * 7))) (fun i _ => xs.length - (intOf i).toNat)
  case atStart => exact ⟨0, Nat.zero_le _, rfl, hb0, by simpa using hrow0⟩
  case round =>
    obtain ⟨k, hk, rfl, hb, hrow⟩ := hrel
    by_cases hlt : k < xs.length
    · obtain ⟨b, o, rfl, hB, c0, c1, c2, c3, c4, c5, c6⟩ := nst_cells (h.below hb) hlt
      have hI : (k : Int) < xs.length := by omega
      have hI0 : (0 : Int) ≤ k := by omega
      have hs := hrow.lt
      have hB1 : b < wr.heap.size := by omega
      have hpl : ((xs.take k).flatMap Nst.enc).length = k * 7 := by rw [flat_len Nst.enc_len, List.length_take, Nat.min_eq_left hk]
      have hln : k * 7 + 7 ≤ xs.length * 7 := by omega
      have g0 : ∃ v, wr.cell? ⟨w.heap.size, k * 7, none⟩ = some v := ⟨_, hrow.cell (by rw [List.length_append, List.length_drop, hpl, Hl.out]; omega)⟩
      have f0 := hrow.frozen (k * 7)
      have g1 : ∃ v, wr.cell? ⟨w.heap.size, k * 7 + 1, none⟩ = some v := ⟨_, hrow.cell (by rw [List.length_append, List.length_drop, hpl, Hl.out]; omega)⟩
      have f1 := hrow.frozen (k * 7 + 1)
      have g2 : ∃ v, wr.cell? ⟨w.heap.size, k * 7 + 2, none⟩ = some v := ⟨_, hrow.cell (by rw [List.length_append, List.length_drop, hpl, Hl.out]; omega)⟩
      have f2 := hrow.frozen (k * 7 + 2)
      have g3 : ∃ v, wr.cell? ⟨w.heap.size, k * 7 + 3, none⟩ = some v := ⟨_, hrow.cell (by rw [List.length_append, List.length_drop, hpl, Hl.out]; omega)⟩
      have f3 := hrow.frozen (k * 7 + 3)
      have g4 : ∃ v, wr.cell? ⟨w.heap.size, k * 7 + 4, none⟩ = some v := ⟨_, hrow.cell (by rw [List.length_append, List.length_drop, hpl, Hl.out]; omega)⟩
      have f4 := hrow.frozen (k * 7 + 4)
      have g5 : ∃ v, wr.cell? ⟨w.heap.size, k * 7 + 5, none⟩ = some v := ⟨_, hrow.cell (by rw [List.length_append, List.length_drop, hpl, Hl.out]; omega)⟩
      have f5 := hrow.frozen (k * 7 + 5)
      have g6 : ∃ v, wr.cell? ⟨w.heap.size, k * 7 + 6, none⟩ = some v := ⟨_, hrow.cell (by rw [List.length_append, List.length_drop, hpl, Hl.out]; omega)⟩
      have f6 := hrow.frozen (k * 7 + 6)
      obtain ⟨v0, g0⟩ := g0
      obtain ⟨v1, g1⟩ := g1
      obtain ⟨v2, g2⟩ := g2
      obtain ⟨v3, g3⟩ := g3
      obtain ⟨v4, g4⟩ := g4
      obtain ⟨v5, g5⟩ := g5
      obtain ⟨v6, g6⟩ := g6
      have Hrow := Lib.hid hrow
      have Hpl := Lib.hid hpl
      clear hrow hpl
      go_wp2_with fail
      (go_at_call 20; refine (toNest_any _ _ _ _ _ _ _ _).mono ?_; rintro e w1 ⟨rfl, hb1⟩)
      (have hs1 := hb1.size; (try simp at hs1); obtain ⟨hc1, hf1, hn1⟩ := bcell hb1; (try have hz1_wr_0 : wr.heap.size < w1.heap.size := by omega); (try have hz1_wr_1 : wr.heap.size + 1 < w1.heap.size := by omega); (try have hz1_wr_2 : wr.heap.size + 2 < w1.heap.size := by omega); (try have hB1 : b < w1.heap.size := by omega); (try have hB2 : b' < w1.heap.size := by omega); (try have hz1_wr_2b : wr.heap.size + 1 + 1 < w1.heap.size := by omega))
      go_wp2_with fail
      have r0 := Hrow.out.to hb1
      have r1 := r0.set (j := k * 7) (.int .i64 (el xs k).i)
      have r2 := r1.set (j := k * 7 + 1) (.int .i64 (el xs k).k)
      have r3 := r2.set (j := k * 7 + 2) (.int .i64 (el xs k).p)
      have r4 := r3.set (j := k * 7 + 3) (.int .i64 (el xs k).f)
      have r5 := r4.set (j := k * 7 + 4) (.int .i64 (el xs k).b)
      have r6 := r5.set (j := k * 7 + 5) (.int .i64 (el xs k).x)
      have r7 := r6.set (j := k * 7 + 6) (.int .i64 (el xs k).y)
      have e1 : (((((((((xs.take k).flatMap Nst.enc ++ zs.drop (k * 7)).set (k * 7) (.int .i64 (el xs k).i)).set (k * 7 + 1) (.int .i64 (el xs k).k)).set (k * 7 + 2) (.int .i64 (el xs k).p)).set (k * 7 + 3) (.int .i64 (el xs k).f)).set (k * 7 + 4) (.int .i64 (el xs k).b)).set (k * 7 + 5) (.int .i64 (el xs k).x)).set (k * 7 + 6) (.int .i64 (el xs k).y)) = (xs.take (k + 1)).flatMap Nst.enc ++ zs.drop ((k + 1) * 7) := by
        rw [set_next Hpl.out (by rw [Hl.out]; omega)]
        rw [set_next (m := k * 7 + 1) (by simp [Hpl.out]) (by rw [Hl.out]; omega)]
        rw [set_next (m := k * 7 + 2) (by simp [Hpl.out]) (by rw [Hl.out]; omega)]
        rw [set_next (m := k * 7 + 3) (by simp [Hpl.out]) (by rw [Hl.out]; omega)]
        rw [set_next (m := k * 7 + 4) (by simp [Hpl.out]) (by rw [Hl.out]; omega)]
        rw [set_next (m := k * 7 + 5) (by simp [Hpl.out]) (by rw [Hl.out]; omega)]
        rw [set_next (m := k * 7 + 6) (by simp [Hpl.out]) (by rw [Hl.out]; omega)]
        rw [take_el hlt, List.flatMap_append, show (k + 1) * 7 = k * 7 + 7 by omega]
        simp [Nst.enc]
      rw [e1] at r7
      clear e1
      go_roundw
      case rel => exact ⟨k + 1, by omega, by go_num, (by repeat' (first | (with_reducible exact Below.refl _ _) | (with_reducible refine Below.alloc ?_ ?_ _) | (with_reducible refine Below.setCell ?_ ?_ _) | (with_reducible refine Below.drew ?_) | (with_reducible refine Below.trans ?_ (Below.mono (by with_reducible assumption) ?_)) | omega | (simp; done) | (simp; omega))), r7⟩
      case measure => simp [intOf]; omega
    · obtain rfl : k = xs.length := by omega
      go_wp2
      go_ret
      refine ⟨w.heap.size, xs.length, rfl, Nat.le_refl _, ?_, hb⟩
      have e : (xs.take xs.length).flatMap Nst.enc ++ zs.drop (xs.length * 7) = xs.flatMap Nst.enc := by rw [List.take_length, List.drop_of_length_le (by rw [Hl.out]; exact Nat.le_refl _), List.append_nil]
      rw [e] at hrow
      exact hrow
end Go.Proofs.Ytakjfkbfibcbcaa
