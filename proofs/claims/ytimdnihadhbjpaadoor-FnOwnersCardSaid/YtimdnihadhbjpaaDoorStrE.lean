/- Slices of strings: contracts of the laws' own functions over them. -/
import Derived.Test.YtimdnihadhbjpaaDoorMarkO
import Derived.Test.YtimdnihadhbjpaaDoorIntE
import Derived.Test.YtimdnihadhbjpaaDoorAre
import Derived.SliceStrings
set_option linter.unusedSimpArgs false
set_option linter.unusedVariables false
namespace Go.Proofs.YtimdnihadhbjpaaDoor
open Go.RowKit Go.Sort Go.Salt
attribute [local go_sem] cell_rg
def se (s : ByteArray) : List Value := [.string s]
theorem se_len (s : ByteArray) : (se s).length = 1 := rfl
theorem str_cell {w : World} {B : Nat} {A : Option Addr} {xs : List ByteArray} (h : Rd w B A 1 se xs) {i : Nat} (hi : i < xs.length) :
    ∃ b o, A = some ⟨b, o, none⟩ ∧ b < B ∧ w.cell? ⟨b, o + i, none⟩ = some (.string (el xs i)) := by
  obtain ⟨b, o, e, hb, hc⟩ := h (by omega)
  have h1 := hc i hi
  exact ⟨b, o, e, hb, by simpa [se] using h1 0 (by simp [se])⟩
theorem str_info : (Tryd.prog.info? 9).map (fun i => (i.zero, i.size, i.bytes)) = some (some (.string ByteArray.empty), 1, 16) := by kernel_rfl
/-- The strings' sizes are bounded. -/
def StrSz (B : Nat) (xs : List ByteArray) : Prop := ∀ k, k < xs.length → (el xs k).size ≤ B
open Go.ChangeShapes Go.WideShapes Go.Deep in
/-- A slice of strings that came in, as a list. -/
theorem open_strl {H : Type} {encH : TypeId × Value → H} {P : Program} {w : World} {base : Nat} {sp : Nat → Bool} {held : Bool} {t e : TypeId} {n len cap : Nat} {a : Option Addr} {x : DataW H × List MemPlace} (ht : P.underlying t = some (.slice e)) (he : P.underlying e = some .string) (hc : P.cellsOf e = 1) (h : DataW.trod encH P w base sp held n t (Value.slice a len cap).cells.toList = some x) :
    len ≤ maxLen ∧ ∃ xs : List ByteArray, xs.length = len ∧ Rd w w.heap.size a 1 se xs ∧ StrSz maxLen xs := by
  rcases open_strings ht he hc h with ⟨h1, _⟩ | ⟨ad, l, c, ss, h1, _, hl, hm, hz, _, hcell, hsz⟩
  · simp [Value.cells] at h1
    obtain ⟨rfl, rfl, rfl⟩ := h1
    exact ⟨Nat.zero_le _, [], rfl, Rd.nil, fun k hk => absurd hk (by simp)⟩
  · simp [Value.cells] at h1
    obtain ⟨rfl, rfl, rfl⟩ := h1
    have hls : len ≤ ss.length := by rw [hz]; split <;> omega
    have hlt : (ss.take len).length = len := by rw [List.length_take]; omega
    refine ⟨by omega, ss.take len, hlt, fun hp => ?_, fun k hk => ?_⟩
    · have hp' : 0 < len := by omega
      have hz' : w.cell? ad = some (.string (ss.getD 0 ByteArray.empty)) := by simpa [Addr.add] using hcell 0 (by omega)
      have hsp := World.cell?_spot hz'
      obtain ⟨b, o, spot⟩ := ad
      obtain rfl : spot = none := hsp
      refine ⟨b, o, rfl, block_lt_of_cell hz', fun i hi j hj => ?_⟩
      have hi' : i < len := by omega
      have ea : (⟨b, o, none⟩ : Addr).add i = ⟨b, o + i, none⟩ := by
        unfold Addr.add
        split <;> simp <;> omega
      have hc1 := hcell i (by omega)
      rw [ea] at hc1
      obtain rfl : j = 0 := by simp [se] at hj; exact hj
      rw [show o + i * 1 + 0 = o + i by omega, hc1]
      congr 1
      simp only [se, List.getElem_cons_zero]
      rw [el_take hi' hls, el_get (by omega), List.getD_eq_getElem?_getD, List.getElem?_eq_getElem (by omega)]; rfl
    · exact hsz _ (List.mem_of_mem_take (el_mem hk))
set_option maxHeartbeats 2000000 in
theorem eqStringS_same (A A' : Option Addr) (c c' : Nat) (xs : List ByteArray) (w : World) (h : Rd w w.heap.size A 1 se xs) (h' : Rd w w.heap.size A' 1 se xs) (hx : xs.length ≤ 1048576) :
    Calls Tryd.prog 49 #[.slice A xs.length c, .slice A' xs.length c'] w fun e w' => e = .returned (.bool true) ∧ Below w.heap.size w w' := by
  go_enter Tryd.func49, Tryd.ntmps49
  go_wp2
  go_loopw [5] (fun i wr => ∃ k : Nat, k ≤ xs.length ∧ i = .int .i64 k ∧ Below w.heap.size w wr) (fun i _ => xs.length - (intOf i).toNat)
  case atStart => exact ⟨0, Nat.zero_le _, rfl, Below.refl _ _⟩
  case round =>
    obtain ⟨k, hk, rfl, hb⟩ := hrel
    by_cases hlt : k < xs.length
    · obtain ⟨b, o, rfl, hB, c0⟩ := str_cell (h.below hb) hlt
      obtain ⟨b', o', rfl, hB', d0⟩ := str_cell (h'.below hb) hlt
      have hs := hb.size
      have hB1 : b < wr.heap.size := by omega
      have hB2 : b' < wr.heap.size := by omega
      have hI : (k : Int) < xs.length := by omega
      have hI0 : (0 : Int) ≤ k := by omega
      go_wp2_with fail
      refine wp_region_quiet_below (by kernel_rfl) (by kernel_rfl) ?_
      repeat (go_big_quiet_step (fail))
      (refine wpQuiet_nil ?_; intro w1 hwq; have hb1 := of_cls hwq; clear hwq)
      (have hs1 := hb1.size; (try simp at hs1); obtain ⟨hc1, hf1, hn1⟩ := bcell hb1; (try have hz1_wr_0 : wr.heap.size < w1.heap.size := by omega); (try have hz1_wr_1 : wr.heap.size + 1 < w1.heap.size := by omega); (try have hz1_wr_2 : wr.heap.size + 2 < w1.heap.size := by omega); (try have hB1 : b < w1.heap.size := by omega); (try have hB2 : b' < w1.heap.size := by omega); (try have hz1_wr_2b : wr.heap.size + 1 + 1 < w1.heap.size := by omega); (try have hz1_w_0 : w.heap.size < w1.heap.size := by omega); (try have hz1_w_1 : w.heap.size + 1 < w1.heap.size := by omega); (try have hz1_w_2 : w.heap.size + 2 < w1.heap.size := by omega); (try have hz1_w_2b : w.heap.size + 1 + 1 < w1.heap.size := by omega))
      go_wp2_with fail
      go_roundw
      case rel => exact ⟨k + 1, by omega, by go_num, (by repeat' (first | (with_reducible exact Below.refl _ _) | (with_reducible refine Below.alloc ?_ ?_ _) | (with_reducible refine Below.setCell ?_ ?_ _) | (with_reducible refine Below.drew ?_) | (with_reducible refine Below.trans ?_ (Below.mono (by with_reducible assumption) ?_)) | omega | (simp; done) | (simp; omega)))⟩
      case measure => simp [intOf]; omega
    · go_wp2
      go_ret
      exact ⟨rfl, hb⟩
set_option maxHeartbeats 4000000 in
theorem szStringS_any (A : Option Addr) (c : Nat) (xs : List ByteArray) (l : Int) (w : World) (h : Rd w w.heap.size A 1 se xs) (hm : xs.length ≤ 9223372036854775807) (hz : StrSz maxLen xs) (h0 : 0 ≤ l) (h1 : l ≤ 1048576) :
    Calls Tryd.prog 45 #[.slice A xs.length c, .int .i64 l] w fun e w' => (∃ z : Int, e = .returned (.int .i64 z) ∧ (z = -1 ∨ (0 ≤ z ∧ xs.length ≤ 1048576 ∧ StrSz 1048576 xs))) ∧ Below w.heap.size w w' := by
  have HZ : Hid (StrSz 9223372036854775807 xs) := Lib.hid hz
  clear hz
  have w0 : wrap64 (l - (xs.length : Int)) = l - (xs.length : Int) := by unfold wrap64; omega
  by_cases hx : (xs.length : Int) ≤ l
  · have w1_ : ¬ l - (xs.length : Int) < 0 := by omega
    go_enter Tryd.func45, Tryd.ntmps45
    go_wp2
    go_loopw [1, 5] (fun l i wr => ∃ (k : Nat) (z : Int), k ≤ xs.length ∧ i = .int .i64 k ∧ l = .int .i64 z ∧ 0 ≤ z ∧ z ≤ 1048576 ∧ Below w.heap.size w wr ∧ Hid (∀ j, j < k → (el xs j).size ≤ 1048576)) (fun _ i _ => xs.length - (intOf i).toNat)
    case atStart => exact ⟨0, l - (xs.length : Int), Nat.zero_le _, rfl, rfl, by omega, by omega, Below.refl _ _, fun j hj => absurd hj (by omega)⟩
    case round =>
      obtain ⟨k, z, hk, rfl, rfl, hz0, hz1, hb, Hall⟩ := hrel
      by_cases hlt : k < xs.length
      · obtain ⟨b, o, rfl, hB, c0⟩ := str_cell (h.below hb) hlt
        have hs := hb.size
        have hB1 : b < wr.heap.size := by omega
        have hI : (k : Int) < xs.length := by omega
        have hI0 : (0 : Int) ≤ k := by omega
        have hzk := HZ.out k hlt
        have w2_ : wrap64 (z - ((el xs k).size : Int)) = z - ((el xs k).size : Int) := by unfold wrap64; omega
        by_cases hc : z < (el xs k).size
        · have w3_ : z - ((el xs k).size : Int) < 0 := by omega
          go_wp2
          go_ret
          exact ⟨⟨_, rfl, .inl rfl⟩, (by repeat' (first | (with_reducible exact Below.refl _ _) | (with_reducible refine Below.alloc ?_ ?_ _) | (with_reducible refine Below.setCell ?_ ?_ _) | (with_reducible refine Below.drew ?_) | (with_reducible refine Below.trans ?_ (Below.mono (by with_reducible assumption) ?_)) | omega | (simp; done) | (simp; omega)))⟩
        · have w3_ : ¬ z - ((el xs k).size : Int) < 0 := by omega
          have Hn : Hid ((el xs k).size ≤ 1048576) := Lib.hid (by omega)
          go_wp2
          go_roundw
          case rel => exact ⟨k + 1, z - ((el xs k).size : Int), by omega, by go_num, rfl, by omega, by omega, (by repeat' (first | (with_reducible exact Below.refl _ _) | (with_reducible refine Below.alloc ?_ ?_ _) | (with_reducible refine Below.setCell ?_ ?_ _) | (with_reducible refine Below.drew ?_) | (with_reducible refine Below.trans ?_ (Below.mono (by with_reducible assumption) ?_)) | omega | (simp; done) | (simp; omega))), fun j hj => by
            by_cases e : j = k
            · subst e; exact Hn.out
            · exact Hall.out j (by omega)⟩
          case measure => simp [intOf]; omega
      · obtain rfl : k = xs.length := by omega
        have hI : ¬ ((xs.length : Nat) : Int) < xs.length := by omega
        have hx2 : xs.length ≤ 1048576 := by omega
        go_wp2
        go_ret
        first | exact ⟨⟨_, rfl, .inr ⟨hz0, hx2, Hall.out⟩⟩, hb⟩ | exact ⟨.inr ⟨hz0, hx2, Hall.out⟩, hb⟩ | exact ⟨.inr ⟨hz0, Hall.out⟩, hb⟩ | exact ⟨⟨_, rfl, .inr ⟨hz0, Hall.out⟩⟩, hb⟩ | exact ⟨⟨_, rfl, .inr Hall.out⟩, hb⟩
  · have w1_ : l - (xs.length : Int) < 0 := by omega
    go_enter Tryd.func45, Tryd.ntmps45
    go_wp2
    go_ret
    exact ⟨⟨_, rfl, .inl rfl⟩, Below.refl _ _⟩
set_option maxHeartbeats 4000000 in
theorem toStringS_cap (A : Option Addr) (c : Nat) (xs : List ByteArray) (w : World) (h : Rd w w.heap.size A 1 se xs) (hx : xs.length ≤ 1048576) :
    Calls Tryd.prog 47 #[.slice A xs.length c] w fun e w' => MadeN w 9 (xs.flatMap se) xs.length e w' := by
  obtain ⟨i0, hi, hz0, hz1, hz2⟩ := info_parts str_info
  have hmk := fun (W : World) => run_make (P := Tryd.prog) W 58 9 i0 _ Tryd.underlying58 hi hz0 .i64 .i64 xs.length xs.length (by omega) (by omega) (by rw [hz2]; omega) (by omega)
  simp only [hz1, Int.toNat_natCast, Nat.mul_one] at hmk
  clear hi hz0 hz1 hz2
  go_enter Tryd.func47, Tryd.ntmps47
  go_wp2
  have hrow0 := Row.new w 9 (madeCells #[.string ByteArray.empty] xs.length)
  have hb0 : Below w.heap.size w (w.alloc (.cells (madeCells #[.string ByteArray.empty] xs.length) 9)) := Below.alloc (Below.refl _ _) (Nat.le_refl _) _
  have hl0 : (madeCells #[.string ByteArray.empty] xs.length).toList.length = xs.length := by simp [madeCells]
  generalize w.alloc (.cells (madeCells #[.string ByteArray.empty] xs.length) 9) = W1 at *
  generalize (madeCells #[.string ByteArray.empty] xs.length).toList = zs at *
  have Hl := Lib.hid hl0
  clear hl0 hmk
  go_loopw [4] (fun i wr => ∃ k : Nat, k ≤ xs.length ∧ i = .int .i64 k ∧ Below w.heap.size w wr ∧ Row wr w.heap.size 9 ((xs.take k).flatMap se ++ zs.drop k)) (fun i _ => xs.length - (intOf i).toNat)
  case atStart => exact ⟨0, Nat.zero_le _, rfl, hb0, by simpa using hrow0⟩
  case round =>
    obtain ⟨k, hk, rfl, hb, hrow⟩ := hrel
    by_cases hlt : k < xs.length
    · obtain ⟨b, o, rfl, hB, c0⟩ := str_cell (h.below hb) hlt
      have hI : (k : Int) < xs.length := by omega
      have hI0 : (0 : Int) ≤ k := by omega
      have hs := hrow.lt
      have hB1 : b < wr.heap.size := by omega
      have hpl : ((xs.take k).flatMap se).length = k := by rw [flat_len se_len, List.length_take, Nat.min_eq_left hk, Nat.mul_one]
      obtain ⟨v0, g0⟩ : ∃ v, wr.cell? ⟨w.heap.size, k, none⟩ = some v := ⟨_, hrow.cell (by rw [List.length_append, List.length_drop, hpl, Hl.out]; omega)⟩
      have f0 := hrow.frozen k
      have Hrow := Lib.hid hrow
      have Hpl := Lib.hid hpl
      clear hrow hpl
      go_wp2
      have r1 := Hrow.out.set (j := k) (.string (el xs k))
      have e1 : ((xs.take k).flatMap se ++ zs.drop k).set k (.string (el xs k)) = (xs.take (k + 1)).flatMap se ++ zs.drop (k + 1) := by
        rw [set_next Hpl.out (by rw [Hl.out]; omega)]
        rw [take_el hlt, List.flatMap_append]
        simp [se]
      rw [e1] at r1
      clear e1
      go_roundw
      case rel => exact ⟨k + 1, by omega, by go_num, (by repeat' (first | (with_reducible exact Below.refl _ _) | (with_reducible refine Below.alloc ?_ ?_ _) | (with_reducible refine Below.setCell ?_ ?_ _) | (with_reducible refine Below.drew ?_) | (with_reducible refine Below.trans ?_ (Below.mono (by with_reducible assumption) ?_)) | omega | (simp; done) | (simp; omega))), r1⟩
      case measure => simp [intOf]; omega
    · obtain rfl : k = xs.length := by omega
      go_wp2
      go_ret
      refine ⟨w.heap.size, rfl, Nat.le_refl _, ?_, hb⟩
      have e : (xs.take xs.length).flatMap se ++ zs.drop xs.length = xs.flatMap se := by rw [List.take_length, List.drop_of_length_le (by rw [Hl.out]; exact Nat.le_refl _), List.append_nil]
      rw [e] at hrow
      exact hrow
set_option maxRecDepth 10000 in
set_option maxHeartbeats 8000000 in
theorem markStringS_row (g c n : Nat) (m0 : Int) (cs : List Value) (w : World) (h : Row w g 9 cs) (hl : cs.length = n) (hn : n ≤ 2097152) (h0 : 1 ≤ m0) (h1 : m0 ≤ 10000000) :
    Calls Tryd.prog 50 #[.slice (some ⟨g, 0, none⟩) n c, .int .i64 m0] w fun e w' => e = .returned (.int .i64 (m0 + n)) ∧ w.grownBy w' (some g) := by
  have Hl := Lib.hid hl
  clear hl
  go_enter Tryd.func50, Tryd.ntmps50
  go_wp2
  go_loopw [1, 5] (fun x i wr => ∃ (k : Nat) (cs : List Value), k ≤ n ∧ i = .int .i64 k ∧ x = .int .i64 (m0 + (k : Int)) ∧ Hid (cs.length = n) ∧ Hid (Row wr g 9 cs) ∧ Hid (w.grownBy wr (some g))) (fun _ i _ => n - (intOf i).toNat)
  case atStart => exact ⟨0, cs, Nat.zero_le _, rfl, by simp, Hl, Lib.hid h, Lib.hid (World.grownBy.refl _ _)⟩
  case round =>
    obtain ⟨k, cs, hk, rfl, rfl, HL, hrow, hg⟩ := hrel
    by_cases hlt : k < n
    · have hI : (k : Int) < n := by omega
      have hI0 : (0 : Int) ≤ k := by omega
      obtain ⟨v0, g0⟩ : ∃ v, wr.cell? ⟨g, k, none⟩ = some v := ⟨_, hrow.out.cell (by rw [HL.out]; omega)⟩
      have f0 := hrow.out.frozen k
      have hgl := hrow.out.lt
      go_wp2_with fail
      (go_at_call 74; refine (markText_any _ _ (by omega) (by omega)).mono ?_; rintro e w1 ⟨rfl, hb1⟩)
      (have hs1 := hb1.size; (try simp at hs1); obtain ⟨hc1, hf1, hn1⟩ := bcell hb1; (try have hz1_wr_0 : wr.heap.size < w1.heap.size := by omega); (try have hz1_wr_1 : wr.heap.size + 1 < w1.heap.size := by omega); (try have hz1_wr_2 : wr.heap.size + 2 < w1.heap.size := by omega); (try have hB1 : b < w1.heap.size := by omega); (try have hB2 : b' < w1.heap.size := by omega); (try have hz1_wr_2b : wr.heap.size + 1 + 1 < w1.heap.size := by omega); (try have hz1_w_0 : w.heap.size < w1.heap.size := by omega); (try have hz1_w_1 : w.heap.size + 1 < w1.heap.size := by omega); (try have hz1_w_2 : w.heap.size + 2 < w1.heap.size := by omega); (try have hz1_w_2b : w.heap.size + 1 + 1 < w1.heap.size := by omega))
      go_wp2_with fail
      have r0 := hrow.out.to hb1
      have r1 := r0.set (j := k) (.string (mkS (m0 + (k : Int))))
      have R := Lib.hid r1
      have HL2 : Hid ((cs.set k (.string (mkS (m0 + (k : Int))))).length = n) := Lib.hid (by rw [List.length_set]; exact HL.out)
      clear r0 r1
      have G := Lib.hid (only_setCell (grown_after hg.out hb1) (p := ⟨g, k, none⟩) (.inl rfl) (.string (mkS (m0 + (k : Int)))))
      go_roundw
      case rel => exact ⟨k + 1, _, by omega, by go_num, by first | go_num | (congr 1; done) | (congr 1; omega), HL2, R, G⟩
      case measure => simp [intOf]; omega
    · obtain rfl : k = n := by omega
      go_wp2
      go_ret
      exact ⟨rfl, hg.out⟩
set_option maxHeartbeats 4000000 in
theorem szOwnerS_up (A : Option Addr) (c : Nat) (xs : List Ow) (w : World) (h : Rd w w.heap.size A 3 Ow.enc xs) (hm : xs.length ≤ 9223372036854775807) (hz : OwSz maxLen xs) :
    Calls Tryd.prog 15 #[.slice A xs.length c, .int .i64 1048576] w fun e w' => (∃ z : Int, e = .returned (.int .i64 z) ∧ (z = -1 ∨ ((0 ≤ z ∧ z ≤ 1048576) ∧ xs.length ≤ 1048576 ∧ OwSz 1048576 xs))) ∧ Below w.heap.size w w' := by
  have HZ : Hid (OwSz 9223372036854775807 xs) := Lib.hid hz
  clear hz
  by_cases hx : xs.length ≤ 1048576
  · have w0 : wrap64 (1048576 - (xs.length : Int)) = 1048576 - (xs.length : Int) := by unfold wrap64; omega
    have w1_ : ¬ 1048576 - (xs.length : Int) < 0 := by omega
    go_enter Tryd.func15, Tryd.ntmps15
    go_wp2
    go_loopw [1, 5] (fun l i wr => ∃ (k : Nat) (z : Int), k ≤ xs.length ∧ i = .int .i64 k ∧ l = .int .i64 z ∧ 0 ≤ z ∧ z ≤ 1048576 ∧ Below w.heap.size w wr ∧ Hid (∀ j, j < k → (el xs j).s.size ≤ 1048576)) (fun _ i _ => xs.length - (intOf i).toNat)
    case atStart => exact ⟨0, 1048576 - (xs.length : Int), Nat.zero_le _, rfl, rfl, by omega, by omega, Below.refl _ _, fun j hj => absurd hj (by omega)⟩
    case round =>
      obtain ⟨k, z, hk, rfl, rfl, hz0, hz1, hb, Hall⟩ := hrel
      by_cases hlt : k < xs.length
      · obtain ⟨b, o, rfl, hB, c0, c1, c2⟩ := ow_cells (h.below hb) hlt
        have hs := hb.size
        have hB1 : b < wr.heap.size := by omega
        have hI : (k : Int) < xs.length := by omega
        have hI0 : (0 : Int) ≤ k := by omega
        have hzk := HZ.out k hlt
        by_cases hc : z < (el xs k).s.size
        · have hcall := szOwner_any (el xs k).s (el xs k).n (el xs k).d z wr hzk hz0 hz1
          rw [if_pos hc] at hcall
          go_wp2_with fail
          refine hcall.mono ?_
          rintro e w1 ⟨rfl, hb1⟩
          have hs1 := hb1.size
          go_wp2
          go_ret
          exact ⟨⟨_, rfl, .inl rfl⟩, (by repeat' (first | (with_reducible exact Below.refl _ _) | (with_reducible refine Below.alloc ?_ ?_ _) | (with_reducible refine Below.setCell ?_ ?_ _) | (with_reducible refine Below.drew ?_) | (with_reducible refine Below.trans ?_ (Below.mono (by with_reducible assumption) ?_)) | omega | (simp; done) | (simp; omega)))⟩
        · have hcall := szOwner_any (el xs k).s (el xs k).n (el xs k).d z wr hzk hz0 hz1
          rw [if_neg hc] at hcall
          obtain ⟨y, hy⟩ : ∃ y, z - ((el xs k).s.size : Int) = y := ⟨_, rfl⟩
          rw [hy] at hcall
          have hy0 : ¬ y < 0 := by omega
          have Hn : Hid ((el xs k).s.size ≤ 1048576 ∧ 0 ≤ y ∧ y ≤ 1048576) := Lib.hid (by omega)
          clear hy
          go_wp2_with fail
          refine hcall.mono ?_
          rintro e w1 ⟨rfl, hb1⟩
          have hs1 := hb1.size
          go_wp2
          go_roundw
          case rel => exact ⟨k + 1, y, by omega, by go_num, rfl, Hn.out.2.1, Hn.out.2.2, (by repeat' (first | (with_reducible exact Below.refl _ _) | (with_reducible refine Below.alloc ?_ ?_ _) | (with_reducible refine Below.setCell ?_ ?_ _) | (with_reducible refine Below.drew ?_) | (with_reducible refine Below.trans ?_ (Below.mono (by with_reducible assumption) ?_)) | omega | (simp; done) | (simp; omega))), fun j hj => by
            by_cases e : j = k
            · subst e; exact Hn.out.1
            · exact Hall.out j (by omega)⟩
          case measure => simp [intOf]; omega
      · obtain rfl : k = xs.length := by omega
        have hI : ¬ ((xs.length : Nat) : Int) < xs.length := by omega
        have HH : Hid ((0 ≤ z ∧ z ≤ 1048576) ∧ xs.length ≤ 1048576 ∧ OwSz 1048576 xs) := Lib.hid ⟨⟨hz0, hz1⟩, hx, Hall.out⟩
        go_wp2
        go_ret
        first | exact ⟨⟨_, rfl, .inr HH.out⟩, hb⟩ | (refine ⟨?_, hb⟩; have := HH.out; simp_all)
  · have w0 : wrap64 (1048576 - (xs.length : Int)) = 1048576 - (xs.length : Int) := by unfold wrap64; omega
    have w1_ : 1048576 - (xs.length : Int) < 0 := by omega
    go_enter Tryd.func15, Tryd.ntmps15
    go_wp2
    go_ret
    exact ⟨⟨_, rfl, .inl rfl⟩, Below.refl _ _⟩
end Go.Proofs.YtimdnihadhbjpaaDoor
