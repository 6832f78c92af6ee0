/- Contracts of the laws' own functions over steps of a pool and slices of them. -/
import Derived.Test.YtmfahekkcgnndaaLeaf
import Derived.Test.YtmfahekkcgnndaaSlice
import Derived.Lib.Hide
set_option linter.unusedSimpArgs false
set_option linter.unusedVariables false
namespace Go.Proofs.Ytmfahekkcgnndaa
open Go.RowKit Go.Sort Go.Salt
attribute [local go_sem] cell_rg
/-- A PoolStep. -/
structure PSt where
  k : Int
  v : Int
  s : Int
instance : Inhabited PSt := ⟨⟨0, 0, 0⟩⟩
def PSt.enc (x : PSt) : List Value := [.int .i64 x.k, .int .i64 x.v, .int .i64 x.s]
theorem PSt.enc_len (x : PSt) : x.enc.length = 3 := rfl
theorem pst_cells {w : World} {B : Nat} {A : Option Addr} {xs : List PSt} (h : Rd w B A 3 PSt.enc xs) {i : Nat} (hi : i < xs.length) :
    ∃ b o, A = some ⟨b, o, none⟩ ∧ b < B ∧ w.cell? ⟨b, o + i * 3, none⟩ = some (.int .i64 (el xs i).k) ∧ w.cell? ⟨b, o + i * 3 + 1, none⟩ = some (.int .i64 (el xs i).v) ∧ w.cell? ⟨b, o + i * 3 + 2, none⟩ = some (.int .i64 (el xs i).s) := by
  obtain ⟨b, o, e, hb, hc⟩ := h (by omega)
  have h1 := hc i hi
  exact ⟨b, o, e, hb, h1 0 (by simp [PSt.enc]), h1 1 (by simp [PSt.enc]), h1 2 (by simp [PSt.enc])⟩
set_option maxHeartbeats 1000000 in
theorem toPoolStep_any (k v s : Int) (w : World) :
    Calls Try.prog 31 #[.agg #[.int .i64 k, .int .i64 v, .int .i64 s]] w fun e w' => e = .returned (.agg #[.int .i64 k, .int .i64 v, .int .i64 s]) ∧ Below w.heap.size w w' := by
  go_enter Try.func31, Try.ntmps31
  go_wp2
  go_returns
  exact ⟨rfl, (by repeat' (first | (with_reducible exact Below.refl _ _) | (with_reducible refine Below.alloc ?_ ?_ _) | (with_reducible refine Below.setCell ?_ ?_ _) | (with_reducible refine Below.drew ?_) | (with_reducible refine Below.trans ?_ (Below.mono (by with_reducible assumption) ?_)) | omega | (simp; done) | (simp; omega)))⟩
set_option maxHeartbeats 1000000 in
theorem eqPoolStep_same (k v s : Int) (w : World) :
    Calls Try.prog 59 #[.agg #[.int .i64 k, .int .i64 v, .int .i64 s], .agg #[.int .i64 k, .int .i64 v, .int .i64 s]] w fun e w' => e = .returned (.bool true) ∧ Below w.heap.size w w' := by
  go_enter Try.func59, Try.ntmps59
  go_wp2
  go_ret
  exact ⟨rfl, (by repeat' (first | (with_reducible exact Below.refl _ _) | (with_reducible refine Below.alloc ?_ ?_ _) | (with_reducible refine Below.setCell ?_ ?_ _) | (with_reducible refine Below.drew ?_) | (with_reducible refine Below.trans ?_ (Below.mono (by with_reducible assumption) ?_)) | omega | (simp; done) | (simp; omega)))⟩
set_option maxHeartbeats 2000000 in
theorem eqPoolStepS_same (A A' : Option Addr) (c c' : Nat) (xs : List PSt) (w : World) (h : Rd w w.heap.size A 3 PSt.enc xs) (h' : Rd w w.heap.size A' 3 PSt.enc xs) (hx : xs.length ≤ 1048576) :
    Calls Try.prog 38 #[.slice A xs.length c, .slice A' xs.length c'] w fun e w' => e = .returned (.bool true) ∧ Below w.heap.size w w' := by
  go_enter Try.func38, Try.ntmps38
  go_wp2
  go_loopw [5] (fun i wr => ∃ k : Nat, k ≤ xs.length ∧ i = .int .i64 k ∧ Below w.heap.size w wr) (fun i _ => xs.length - (intOf i).toNat)
  case atStart => exact ⟨0, Nat.zero_le _, rfl, Below.refl _ _⟩
  case round =>
    obtain ⟨k, hk, rfl, hb⟩ := hrel
    by_cases hlt : k < xs.length
    · obtain ⟨b, o, rfl, hB, c0, c1, c2⟩ := pst_cells (h.below hb) hlt
      obtain ⟨b', o', rfl, hB', d0, d1, d2⟩ := pst_cells (h'.below hb) hlt
      have hs := hb.size
      have hB1 : b < wr.heap.size := by omega
      have hB2 : b' < wr.heap.size := by omega
      have hI : (k : Int) < xs.length := by omega
      have hI0 : (0 : Int) ≤ k := by omega
      go_wp2_with fail
      refine wp_region_quiet_below (by kernel_rfl) (by kernel_rfl) ?_
      repeat (go_big_quiet_step ((go_at_call 59; exact Calls.regrown_of (eqPoolStep_same _ _ _ _))))
      (refine wpQuiet_nil ?_; intro w1 hwq; have hb1 := of_cls hwq; clear hwq)
      (have hs1 := hb1.size; (try simp at hs1); obtain ⟨hc1, hf1, hn1⟩ := bcell hb1; (try have hz1_wr_0 : wr.heap.size < w1.heap.size := by omega); (try have hz1_wr_1 : wr.heap.size + 1 < w1.heap.size := by omega); (try have hz1_wr_2 : wr.heap.size + 2 < w1.heap.size := by omega); (try have hB1 : b < w1.heap.size := by omega); (try have hB2 : b' < w1.heap.size := by omega); (try have hz1_wr_2b : wr.heap.size + 1 + 1 < w1.heap.size := by omega); (try have hz1_w_0 : w.heap.size < w1.heap.size := by omega); (try have hz1_w_1 : w.heap.size + 1 < w1.heap.size := by omega); (try have hz1_w_2 : w.heap.size + 2 < w1.heap.size := by omega); (try have hz1_w_2b : w.heap.size + 1 + 1 < w1.heap.size := by omega))
      go_wp2_with fail
      go_roundw
      case rel => exact ⟨k + 1, by omega, by go_num, (by repeat' (first | (with_reducible exact Below.refl _ _) | (with_reducible refine Below.alloc ?_ ?_ _) | (with_reducible refine Below.setCell ?_ ?_ _) | (with_reducible refine Below.drew ?_) | (with_reducible refine Below.trans ?_ (Below.mono (by with_reducible assumption) ?_)) | omega | (simp; done) | (simp; omega)))⟩
      case measure => simp [intOf]; omega
    · go_wp2
      go_ret
      exact ⟨rfl, hb⟩
set_option maxHeartbeats 400000 in
theorem szPoolStepS_le (A : Option Addr) (n c : Nat) (w : World) (h : n ≤ 1048576) :
    Calls Try.prog 34 #[.slice A n c, .int .i64 1048576] w fun e w' => e = .returned (.int .i64 (1048576 - (n : Int))) ∧ w = w' := by
  go_enter Try.func34, Try.ntmps34
  go_wp2
  go_ret
  exact ⟨rfl, rfl⟩
set_option maxHeartbeats 400000 in
theorem szPoolStepS_gt (A : Option Addr) (n c : Nat) (w : World) (_hn : n ≤ 9223372036854775807) (h : 1048576 < n) :
    Calls Try.prog 34 #[.slice A n c, .int .i64 1048576] w fun e w' => e = .returned (.int .i64 (-1)) ∧ w = w' := by
  go_enter Try.func34, Try.ntmps34
  go_wp2
  go_ret
  exact ⟨rfl, rfl⟩
theorem pst_info : (Try.prog.info? 51).map (fun i => (i.zero, i.size, i.bytes)) = some (some (.agg #[.int .i64 0, .int .i64 0, .int .i64 0]), 3, 24) := by kernel_rfl
set_option maxHeartbeats 4000000 in
theorem toPoolStepS_cap (A : Option Addr) (c : Nat) (xs : List PSt) (w : World) (h : Rd w w.heap.size A 3 PSt.enc xs) (hx : xs.length ≤ 1048576) :
    Calls Try.prog 36 #[.slice A xs.length c] w fun e w' => MadeN w 51 (xs.flatMap PSt.enc) xs.length e w' := by
  obtain ⟨i0, hi, hz0, hz1, hz2⟩ := info_parts pst_info
  have hmk := fun (W : World) => run_make (P := Try.prog) W 59 51 i0 _ Try.underlying59 hi hz0 .i64 .i64 xs.length xs.length (by omega) (by omega) (by rw [hz2]; omega) (by omega)
  simp only [hz1, Int.toNat_natCast] at hmk
  clear hi hz0 hz1 hz2
  go_enter Try.func36, Try.ntmps36
  go_wp2
  have hrow0 := Row.new w 51 (madeCells #[.int .i64 0, .int .i64 0, .int .i64 0] (xs.length * 3))
  have hb0 : Below w.heap.size w (w.alloc (.cells (madeCells #[.int .i64 0, .int .i64 0, .int .i64 0] (xs.length * 3)) 51)) := Below.alloc (Below.refl _ _) (Nat.le_refl _) _
  have hl0 : (madeCells #[.int .i64 0, .int .i64 0, .int .i64 0] (xs.length * 3)).toList.length = xs.length * 3 := by simp [madeCells]
  generalize w.alloc (.cells (madeCells #[.int .i64 0, .int .i64 0, .int .i64 0] (xs.length * 3)) 51) = W1 at *
  generalize (madeCells #[.int .i64 0, .int .i64 0, .int .i64 0] (xs.length * 3)).toList = zs at *
  have Hl := Lib.hid hl0
  clear hl0 hmk
  go_loopw [4] (fun i wr => ∃ k : Nat, k ≤ xs.length ∧ i = .int .i64 k ∧ Below w.heap.size w wr ∧ Row wr w.heap.size 51 ((xs.take k).flatMap PSt.enc ++ zs.drop (k * 3))) (fun i _ => xs.length - (intOf i).toNat)
  case atStart => exact ⟨0, Nat.zero_le _, rfl, hb0, by simpa using hrow0⟩
  case round =>
    obtain ⟨k, hk, rfl, hb, hrow⟩ := hrel
    by_cases hlt : k < xs.length
    · obtain ⟨b, o, rfl, hB, c0, c1, c2⟩ := pst_cells (h.below hb) hlt
      have hI : (k : Int) < xs.length := by omega
      have hI0 : (0 : Int) ≤ k := by omega
      have hs := hrow.lt
      have hB1 : b < wr.heap.size := by omega
      have hpl : ((xs.take k).flatMap PSt.enc).length = k * 3 := by rw [flat_len PSt.enc_len, List.length_take, Nat.min_eq_left hk]
      have hln : k * 3 + 3 ≤ xs.length * 3 := by omega
      have g0 : ∃ v, wr.cell? ⟨w.heap.size, k * 3, none⟩ = some v := ⟨_, hrow.cell (by rw [List.length_append, List.length_drop, hpl, Hl.out]; omega)⟩
      have f0 := hrow.frozen (k * 3)
      have g1 : ∃ v, wr.cell? ⟨w.heap.size, k * 3 + 1, none⟩ = some v := ⟨_, hrow.cell (by rw [List.length_append, List.length_drop, hpl, Hl.out]; omega)⟩
      have f1 := hrow.frozen (k * 3 + 1)
      have g2 : ∃ v, wr.cell? ⟨w.heap.size, k * 3 + 2, none⟩ = some v := ⟨_, hrow.cell (by rw [List.length_append, List.length_drop, hpl, Hl.out]; omega)⟩
      have f2 := hrow.frozen (k * 3 + 2)
      obtain ⟨v0, g0⟩ := g0
      obtain ⟨v1, g1⟩ := g1
      obtain ⟨v2, g2⟩ := g2
      have Hrow := Lib.hid hrow
      have Hpl := Lib.hid hpl
      clear hrow hpl
      go_wp2_with fail
      (go_at_call 31; refine (toPoolStep_any _ _ _ _).mono ?_; rintro e w1 ⟨rfl, hb1⟩)
      (have hs1 := hb1.size; (try simp at hs1); obtain ⟨hc1, hf1, hn1⟩ := bcell hb1; (try have hz1_wr_0 : wr.heap.size < w1.heap.size := by omega); (try have hz1_wr_1 : wr.heap.size + 1 < w1.heap.size := by omega); (try have hz1_wr_2 : wr.heap.size + 2 < w1.heap.size := by omega); (try have hB1 : b < w1.heap.size := by omega); (try have hB2 : b' < w1.heap.size := by omega); (try have hz1_wr_2b : wr.heap.size + 1 + 1 < w1.heap.size := by omega); (try have hz1_w_0 : w.heap.size < w1.heap.size := by omega); (try have hz1_w_1 : w.heap.size + 1 < w1.heap.size := by omega); (try have hz1_w_2 : w.heap.size + 2 < w1.heap.size := by omega); (try have hz1_w_2b : w.heap.size + 1 + 1 < w1.heap.size := by omega))
      go_wp2_with fail
      have r0 := Hrow.out.to hb1
      have r1 := r0.set (j := k * 3) (.int .i64 (el xs k).k)
      have r2 := r1.set (j := k * 3 + 1) (.int .i64 (el xs k).v)
      have r3 := r2.set (j := k * 3 + 2) (.int .i64 (el xs k).s)
      have e1 : (((((xs.take k).flatMap PSt.enc ++ zs.drop (k * 3)).set (k * 3) (.int .i64 (el xs k).k)).set (k * 3 + 1) (.int .i64 (el xs k).v)).set (k * 3 + 2) (.int .i64 (el xs k).s)) = (xs.take (k + 1)).flatMap PSt.enc ++ zs.drop ((k + 1) * 3) := by
        rw [set_next Hpl.out (by rw [Hl.out]; omega)]
        rw [set_next (m := k * 3 + 1) (by simp [Hpl.out]) (by rw [Hl.out]; omega)]
        rw [set_next (m := k * 3 + 2) (by simp [Hpl.out]) (by rw [Hl.out]; omega)]
        rw [take_el hlt, List.flatMap_append, show (k + 1) * 3 = k * 3 + 3 by omega]
        simp [PSt.enc]
      rw [e1] at r3
      clear e1
      go_roundw
      case rel => exact ⟨k + 1, by omega, by go_num, (by repeat' (first | (with_reducible exact Below.refl _ _) | (with_reducible refine Below.alloc ?_ ?_ _) | (with_reducible refine Below.setCell ?_ ?_ _) | (with_reducible refine Below.drew ?_) | (with_reducible refine Below.trans ?_ (Below.mono (by with_reducible assumption) ?_)) | omega | (simp; done) | (simp; omega))), r3⟩
      case measure => simp [intOf]; omega
    · obtain rfl : k = xs.length := by omega
      go_wp2
      go_ret
      refine ⟨w.heap.size, rfl, Nat.le_refl _, ?_, hb⟩
      have e : (xs.take xs.length).flatMap PSt.enc ++ zs.drop (xs.length * 3) = xs.flatMap PSt.enc := by rw [List.take_length, List.drop_of_length_le (by rw [Hl.out]; exact Nat.le_refl _), List.append_nil]
      rw [e] at hrow
      exact hrow
theorem toPoolStepS_any (A : Option Addr) (c : Nat) (xs : List PSt) (w : World) (h : Rd w w.heap.size A 3 PSt.enc xs) (hx : xs.length ≤ 1048576) :
    Calls Try.prog 36 #[.slice A xs.length c] w fun e w' => Made w 51 (xs.flatMap PSt.enc) xs.length e w' := (toPoolStepS_cap A c xs w h hx).mono fun _ _ h => h.made
end Go.Proofs.Ytmfahekkcgnndaa
