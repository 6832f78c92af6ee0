/- Contracts of the laws' own functions over brines and slices of them. -/
import Derived.Test.YtmfahekkcgnndaaPoolMore
import Derived.Test.YtmfahekkcgnndaaSlice
import Derived.Lib.Hide
namespace Go.Proofs.Ytmfahekkcgnndaa
open Go.RowKit Go.Sort Go.Salt
attribute [local go_sem] cell_rg
/-- A Brine. -/
structure Brn where
  a : Int
  s : Int
instance : Inhabited Brn := ⟨⟨0, 0⟩⟩
def Brn.enc (x : Brn) : List Value := [.int .i64 x.a, .int .i64 x.s]
theorem Brn.enc_len (x : Brn) : x.enc.length = 2 := rfl
theorem brn_cells {w : World} {B : Nat} {A : Option Addr} {xs : List Brn} (h : Rd w B A 2 Brn.enc xs) {i : Nat} (hi : i < xs.length) :
    ∃ b o, A = some ⟨b, o, none⟩ ∧ b < B ∧ w.cell? ⟨b, o + i * 2, none⟩ = some (.int .i64 (el xs i).a) ∧ w.cell? ⟨b, o + i * 2 + 1, none⟩ = some (.int .i64 (el xs i).s) := by
  obtain ⟨b, o, e, hb, hc⟩ := h (by omega)
  have h1 := hc i hi
  exact ⟨b, o, e, hb, h1 0 (by simp [Brn.enc]), h1 1 (by simp [Brn.enc])⟩
set_option maxHeartbeats 2000000 in
theorem eqBrineS_same (A A' : Option Addr) (c c' : Nat) (xs : List Brn) (w : World) (h : Rd w w.heap.size A 2 Brn.enc xs) (h' : Rd w w.heap.size A' 2 Brn.enc xs) (hx : xs.length ≤ 1048576) :
    Calls Try.prog 29 #[.slice A xs.length c, .slice A' xs.length c'] w fun e w' => e = .returned (.bool true) ∧ Below w.heap.size w w' := by
  go_enter Try.func29, Try.ntmps29
  go_wp2
  go_loopw [5] (fun i wr => ∃ k : Nat, k ≤ xs.length ∧ i = .int .i64 k ∧ Below w.heap.size w wr) (fun i _ => xs.length - (intOf i).toNat)
  case atStart => exact ⟨0, Nat.zero_le _, rfl, Below.refl _ _⟩
  case round =>
    obtain ⟨k, hk, rfl, hb⟩ := hrel
    by_cases hlt : k < xs.length
    · obtain ⟨b, o, rfl, hB, c0, c1⟩ := brn_cells (h.below hb) hlt
      obtain ⟨b', o', rfl, hB', d0, d1⟩ := brn_cells (h'.below hb) hlt
      have hs := hb.size
      have hB1 : b < wr.heap.size := by omega
      have hB2 : b' < wr.heap.size := by omega
      have hI : (k : Int) < xs.length := by omega
      have hI0 : (0 : Int) ≤ k := by omega
      go_wp2_with fail
      refine wp_region_quiet_below (by kernel_rfl) (by kernel_rfl) ?_
      repeat (go_big_quiet_step ((go_at_call 20; exact Calls.regrown_of (eqBrine_same _ _ _))))
      (refine wpQuiet_nil ?_; intro w1 hwq; have hb1 := of_cls hwq; clear hwq)
      (have hs1 := hb1.size; (try simp at hs1); obtain ⟨hc1, hf1, hn1⟩ := bcell hb1; (try have hz1_wr_0 : wr.heap.size < w1.heap.size := by omega); (try have hz1_wr_1 : wr.heap.size + 1 < w1.heap.size := by omega); (try have hz1_wr_2 : wr.heap.size + 2 < w1.heap.size := by omega); (try have hB1 : b < w1.heap.size := by omega); (try have hB2 : b' < w1.heap.size := by omega); (try have hz1_wr_2b : wr.heap.size + 1 + 1 < w1.heap.size := by omega))
      go_wp2_with fail
      go_roundw
      case rel => exact ⟨k + 1, by omega, by go_num, (by repeat' (first | (with_reducible exact Below.refl _ _) | (with_reducible refine Below.alloc ?_ ?_ _) | (with_reducible refine Below.setCell ?_ ?_ _) | (with_reducible refine Below.drew ?_) | (with_reducible refine Below.trans ?_ (Below.mono (by with_reducible assumption) ?_)) | omega | (simp; done) | (simp; omega)))⟩
      case measure => simp [intOf]; omega
    · go_wp2
      go_ret
      exact ⟨rfl, hb⟩
set_option maxHeartbeats 400000 in
theorem szBrineS_le (A : Option Addr) (n c : Nat) (w : World) (h : n ≤ 1048576) :
    Calls Try.prog 25 #[.slice A n c, .int .i64 1048576] w fun e w' => e = .returned (.int .i64 (1048576 - (n : Int))) ∧ w = w' := by
  go_enter Try.func25, Try.ntmps25
  go_wp2
  go_ret
  exact ⟨rfl, rfl⟩
set_option maxHeartbeats 400000 in
theorem szBrineS_gt (A : Option Addr) (n c : Nat) (w : World) (_hn : n ≤ 9223372036854775807) (h : 1048576 < n) :
    Calls Try.prog 25 #[.slice A n c, .int .i64 1048576] w fun e w' => e = .returned (.int .i64 (-1)) ∧ w = w' := by
  go_enter Try.func25, Try.ntmps25
  go_wp2
  go_ret
  exact ⟨rfl, rfl⟩
theorem brn_info : (Try.prog.info? 27).map (fun i => (i.zero, i.size, i.bytes)) = some (some (.agg #[.int .i64 0, .int .i64 0]), 2, 16) := by kernel_rfl
set_option maxHeartbeats 4000000 in
theorem toBrineS_any (A : Option Addr) (c : Nat) (xs : List Brn) (w : World) (h : Rd w w.heap.size A 2 Brn.enc xs) (hx : xs.length ≤ 1048576) :
    Calls Try.prog 27 #[.slice A xs.length c] w fun e w' => Made w 27 (xs.flatMap Brn.enc) xs.length e w' := by
  obtain ⟨i0, hi, hz0, hz1, hz2⟩ := info_parts brn_info
  have hmk := fun (W : World) => run_make (P := Try.prog) W 43 27 i0 _ Try.underlying43 hi hz0 .i64 .i64 xs.length xs.length (by omega) (by omega) (by rw [hz2]; omega) (by omega)
  simp only [hz1, Int.toNat_natCast] at hmk
  clear hi hz0 hz1 hz2
  go_enter Try.func27, Try.ntmps27
  go_wp2
  have hrow0 := Row.new w 27 (madeCells #[.int .i64 0, .int .i64 0] (xs.length * 2))
  have hb0 : Below w.heap.size w (w.alloc (.cells (madeCells #[.int .i64 0, .int .i64 0] (xs.length * 2)) 27)) := Below.alloc (Below.refl _ _) (Nat.le_refl _) _
  have hl0 : (madeCells #[.int .i64 0, .int .i64 0] (xs.length * 2)).toList.length = xs.length * 2 := by simp [madeCells]
  generalize w.alloc (.cells (madeCells #[.int .i64 0, .int .i64 0] (xs.length * 2)) 27) = W1 at *
  generalize (madeCells #[.int .i64 0, .int .i64 0] (xs.length * 2)).toList = zs at *
  have Hl := Lib.hid hl0
  clear hl0 hmk
  go_loopw [4] (fun i wr => ∃ k : Nat, k ≤ xs.length ∧ i = .int .i64 k ∧ Below w.heap.size w wr ∧ Row wr w.heap.size 27 ((xs.take k).flatMap Brn.enc ++ zs.drop (k * 2))) (fun i _ => xs.length - (intOf i).toNat)
  case atStart => exact ⟨0, Nat.zero_le _, rfl, hb0, by simpa using hrow0⟩
  case round =>
    obtain ⟨k, hk, rfl, hb, hrow⟩ := hrel
    by_cases hlt : k < xs.length
    · obtain ⟨b, o, rfl, hB, c0, c1⟩ := brn_cells (h.below hb) hlt
      have hI : (k : Int) < xs.length := by omega
      have hI0 : (0 : Int) ≤ k := by omega
      have hs := hrow.lt
      have hB1 : b < wr.heap.size := by omega
      have hpl : ((xs.take k).flatMap Brn.enc).length = k * 2 := by rw [flat_len Brn.enc_len, List.length_take, Nat.min_eq_left hk]
      have hln : k * 2 + 2 ≤ xs.length * 2 := by omega
      have g0 : ∃ v, wr.cell? ⟨w.heap.size, k * 2, none⟩ = some v := ⟨_, hrow.cell (by rw [List.length_append, List.length_drop, hpl, Hl.out]; omega)⟩
      have f0 := hrow.frozen (k * 2)
      have g1 : ∃ v, wr.cell? ⟨w.heap.size, k * 2 + 1, none⟩ = some v := ⟨_, hrow.cell (by rw [List.length_append, List.length_drop, hpl, Hl.out]; omega)⟩
      have f1 := hrow.frozen (k * 2 + 1)
      obtain ⟨v0, g0⟩ := g0
      obtain ⟨v1, g1⟩ := g1
      have Hrow := Lib.hid hrow
      have Hpl := Lib.hid hpl
      clear hrow hpl
      go_wp2_with fail
      (go_at_call 18; refine (toBrine_any _ _ _).mono ?_; rintro e w1 ⟨rfl, hb1⟩)
      (have hs1 := hb1.size; (try simp at hs1); obtain ⟨hc1, hf1, hn1⟩ := bcell hb1; (try have hz1_wr_0 : wr.heap.size < w1.heap.size := by omega); (try have hz1_wr_1 : wr.heap.size + 1 < w1.heap.size := by omega); (try have hz1_wr_2 : wr.heap.size + 2 < w1.heap.size := by omega); (try have hB1 : b < w1.heap.size := by omega); (try have hB2 : b' < w1.heap.size := by omega); (try have hz1_wr_2b : wr.heap.size + 1 + 1 < w1.heap.size := by omega))
      go_wp2_with fail
      have r0 := Hrow.out.to hb1
      have r1 := r0.set (j := k * 2) (.int .i64 (el xs k).a)
      have r2 := r1.set (j := k * 2 + 1) (.int .i64 (el xs k).s)
      have e1 : ((((xs.take k).flatMap Brn.enc ++ zs.drop (k * 2)).set (k * 2) (.int .i64 (el xs k).a)).set (k * 2 + 1) (.int .i64 (el xs k).s)) = (xs.take (k + 1)).flatMap Brn.enc ++ zs.drop ((k + 1) * 2) := by
        rw [set_next Hpl.out (by rw [Hl.out]; omega)]
        rw [set_next (m := k * 2 + 1) (by simp [Hpl.out]) (by rw [Hl.out]; omega)]
        rw [take_el hlt, List.flatMap_append, show (k + 1) * 2 = k * 2 + 2 by omega]
        simp [Brn.enc]
      rw [e1] at r2
      clear e1
      go_roundw
      case rel => exact ⟨k + 1, by omega, by go_num, (by repeat' (first | (with_reducible exact Below.refl _ _) | (with_reducible refine Below.alloc ?_ ?_ _) | (with_reducible refine Below.setCell ?_ ?_ _) | (with_reducible refine Below.drew ?_) | (with_reducible refine Below.trans ?_ (Below.mono (by with_reducible assumption) ?_)) | omega | (simp; done) | (simp; omega))), r2⟩
      case measure => simp [intOf]; omega
    · obtain rfl : k = xs.length := by omega
      go_wp2
      go_ret
      refine ⟨w.heap.size, xs.length, rfl, Nat.le_refl _, ?_, hb⟩
      have e : (xs.take xs.length).flatMap Brn.enc ++ zs.drop (xs.length * 2) = xs.flatMap Brn.enc := by rw [List.take_length, List.drop_of_length_le (by rw [Hl.out]; exact Nat.le_refl _), List.append_nil]
      rw [e] at hrow
      exact hrow
end Go.Proofs.Ytmfahekkcgnndaa
