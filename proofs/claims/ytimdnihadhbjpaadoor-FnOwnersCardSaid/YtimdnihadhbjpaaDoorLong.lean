/- Long numbers: times, plus, compare (chapter 22). -/
import Derived.Test.YtimdnihadhbjpaaDoorOwMath
import Derived.Test.YtimdnihadhbjpaaDoorLeaf
import Derived.Lib.Hide
import Derived.Deep.Cut
set_option linter.unusedSimpArgs false
set_option linter.unusedVariables false
namespace Go.Proofs.YtimdnihadhbjpaaDoor
open Go.RowKit Go.Sort Go.Salt
attribute [local go_sem] cell_rg
attribute [local go_sem ↓] run_max_mx run_min_mn
def ie (z : Int) : List Value := [.int .i64 z]
theorem ie_len (z : Int) : (ie z).length = 1 := rfl
theorem ie_snoc (l : List Int) (z : Int) : (l ++ [z]).flatMap ie = l.flatMap ie ++ [.int .i64 z] := by simp [ie]
theorem int_cell {w : World} {B : Nat} {A : Option Addr} {xs : List Int} (h : Rd w B A 1 ie xs) {i : Nat} (hi : i < xs.length) :
    ∃ b o, A = some ⟨b, o, none⟩ ∧ b < B ∧ w.cell? ⟨b, o + i, none⟩ = some (.int .i64 (el xs i)) := by
  obtain ⟨b, o, e, hb, hc⟩ := h (by omega)
  have h1 := hc i hi
  exact ⟨b, o, e, hb, by simpa [ie] using h1 0 (by simp [ie])⟩
theorem int_info : (Tryd.prog.info? 3).map (fun i => (i.zero, i.size, i.bytes)) = some (some (.int .i64 0), 1, 8) := by kernel_rfl
/-- A long number comes back, of the call's own. -/
def LongAt (w : World) (v : Int) (n : Nat) (e : Ending) (w' : World) : Prop :=
  ∃ g c ys, e = .returned (.slice (some ⟨g, 0, none⟩) n c) ∧ ys.length = n ∧ Rd w' w'.heap.size (some ⟨g, 0, none⟩) 1 ie ys ∧ limbs ys ∧ lv ys = v ∧ Below w.heap.size w w'
theorem pre_len {f : Nat → Int} {k : Nat} : ((cY f k).flatMap ie).length = k := by rw [flat_len ie_len, cY_len, Nat.mul_one]
theorem next_row {f : Nat → Int} {k n : Nat} {zs : List Value} (hk : k < n) (hz : zs.length = n) : ((cY f k).flatMap ie ++ zs.drop k).set k (.int .i64 ((cC f k + f k) % 1000000)) = (cY f (k + 1)).flatMap ie ++ zs.drop (k + 1) := by
  rw [set_next pre_len (by omega), cY, ie_snoc]
theorem mod_step {c t : Int} (h : 0 ≤ c + t) : (c + t).tmod 1000000 = (c + t) % 1000000 := Int.tmod_eq_emod_of_nonneg h
theorem div_step {c t : Int} (h : 0 ≤ c + t) : (c + t).tdiv 1000000 = (c + t) / 1000000 := Int.tdiv_eq_ediv_of_nonneg h
set_option maxRecDepth 10000 in
set_option maxHeartbeats 4000000 in
theorem times_any (A : Option Addr) (c : Nat) (xs : List Int) (m : Int) (w : World) (h : Rd w w.heap.size A 1 ie xs) (hl : limbs xs) (hx : xs.length ≤ 1000) (h0 : 0 ≤ m) (h1 : m ≤ 1000) :
    Calls Tryd.prog 101 #[.slice A xs.length c, .int .i64 m] w fun e w' => LongAt w (m * lv xs) (xs.length + 1) e w' := by
  obtain ⟨n, hn⟩ : ∃ n, xs.length + 1 = n := ⟨_, rfl⟩
  obtain ⟨i0, hi, hz0, hz1, hz2⟩ := info_parts int_info
  have hmk := fun (W : World) => run_make (P := Tryd.prog) W 104 3 i0 _ Tryd.underlying104 hi hz0 .i64 .i64 n n (by omega) (by omega) (by rw [hz2]; omega) (by omega)
  simp only [hz1, Int.toNat_natCast, Nat.mul_one] at hmk
  simp only [show (n : Int) = (xs.length : Int) + 1 by omega] at hmk
  clear hi hz0 hz1 hz2
  obtain ⟨f, hf⟩ : ∃ f, (fun j => lg xs j * m) = f := ⟨_, rfl⟩
  have HV : Hid (lv (cY f n) = m * lv xs) := Lib.hid (by rw [← hf, ← hn]; exact times_lv hl h0 h1)
  have HB : Hid (∀ j, 0 ≤ f j ∧ f j ≤ 999999000) := Lib.hid (by intro j; rw [← hf]; exact times_bd hl h0 h1 j)
  have HO : Hid (∀ k, xs.length ≤ k → f k = 0) := Lib.hid (by intro k hk; rw [← hf]; show lg xs k * m = 0; rw [lg_out hk, Int.zero_mul])
  have HI : Hid (∀ k, k < xs.length → el xs k * m = f k) := Lib.hid (by intro k hk; rw [← hf]; show el xs k * m = lg xs k * m; rw [lg_in hk])
  have HX := Lib.hid h
  clear hf hl h
  have w0_ : wrap64 ((xs.length : Int) + 1) = (n : Int) := by unfold wrap64; omega
  rw [hn]
  have hn1 : xs.length < n := by omega
  have hn2 : n ≤ 1001 := by omega
  have HN := Lib.hid hn
  clear hn
  go_enter Tryd.func101, Tryd.ntmps101
  go_wp2
  have hrow0 := Row.new w 3 (madeCells #[.int .i64 0] n)
  have hb0 : Below w.heap.size w (w.alloc (.cells (madeCells #[.int .i64 0] n) 3)) := Below.alloc (Below.refl _ _) (Nat.le_refl _) _
  have hl0 : (madeCells #[.int .i64 0] n).toList.length = n := by simp [madeCells]
  generalize w.alloc (.cells (madeCells #[.int .i64 0] n) 3) = W1 at *
  generalize (madeCells #[.int .i64 0] n).toList = zs at *
  have Hl := Lib.hid hl0
  clear hl0 hmk
  go_loopw [6, 14] (fun cv i wr => ∃ k : Nat, k ≤ n ∧ i = .int .i64 k ∧ cv = .int .i64 (cC f k) ∧ Below w.heap.size w wr ∧ Row wr w.heap.size 3 ((cY f k).flatMap ie ++ zs.drop k)) (fun _ i _ => n - (intOf i).toNat)
  case atStart => exact ⟨0, Nat.zero_le _, rfl, rfl, hb0, by simpa [cY] using hrow0⟩
  case round =>
    obtain ⟨k, hk, rfl, rfl, hb, hrow⟩ := hrel
    have hs := hrow.lt
    have hc0 := cC_bd HB.out k
    by_cases hlt : k < n
    · have hI : (k : Int) < n := by omega
      have hI0 : (0 : Int) ≤ k := by omega
      have hfk := HB.out k
      have g0 : ∃ v, wr.cell? ⟨w.heap.size, k, none⟩ = some v := ⟨_, hrow.cell (by rw [List.length_append, List.length_drop, pre_len, Hl.out]; omega)⟩
      have f0 := hrow.frozen k
      obtain ⟨v0, g0⟩ := g0
      have hst := Lib.hid (@cC.eq_2 f k)
      have hnr := Lib.hid (next_row (f := f) hlt Hl.out)
      obtain ⟨cc, hcc⟩ : ∃ cc, cC f k = cc := ⟨_, rfl⟩
      rw [hcc] at hst hnr hc0
      simp only [hcc]
      clear hcc
      obtain ⟨t, ht⟩ : ∃ t, f k = t := ⟨_, rfl⟩
      rw [ht] at hst hnr hfk
      have d1 := mod_step (c := cc) (t := t) (by omega)
      have d2 := div_step (c := cc) (t := t) (by omega)
      have d3 : wrap64 ((cc + t) / 1000000) = (cc + t) / 1000000 := by unfold wrap64; omega
      have hts : wrap64 (cc + t) = cc + t := by unfold wrap64; omega
      have Hrow := Lib.hid hrow
      clear hrow
      by_cases hkx : k < xs.length
      · obtain ⟨b, o, rfl, hB, c0⟩ := int_cell (HX.out.below hb) hkx
        have hB1 : b < wr.heap.size := by omega
        have hJ : (k : Int) < xs.length := by omega
        have e1 := HI.out k hkx
        rw [ht] at e1
        have e2 : wrap64 (el xs k * m) = t := by rw [e1]; unfold wrap64; omega
        clear e1 ht
        go_wp2
        go_roundw
        case rel => exact ⟨k + 1, by omega, by go_num, by rw [hst.out], (by repeat' (first | (with_reducible exact Below.refl _ _) | (with_reducible refine Below.alloc ?_ ?_ _) | (with_reducible refine Below.setCell ?_ ?_ _) | (with_reducible refine Below.drew ?_) | (with_reducible refine Below.trans ?_ (Below.mono (by with_reducible assumption) ?_)) | omega | (simp; done) | (simp; omega))), by have r := (Hrow.out.set (j := k) (.int .i64 ((cc + t) % 1000000))); rw [hnr.out] at r; exact r⟩
        case measure => simp [intOf]; omega
      · have hJ : ¬ (k : Int) < xs.length := by omega
        obtain rfl : t = 0 := by rw [← ht]; exact HO.out k (by omega)
        clear ht
        rw [Int.add_zero] at d1 d2 d3 hts
        replace hst := Lib.hid (show cC f (k + 1) = cc / 1000000 by rw [hst.out, Int.add_zero])
        replace hnr := hnr.out
        rw [Int.add_zero] at hnr
        replace hnr := Lib.hid hnr
        go_wp2
        go_roundw
        case rel => exact ⟨k + 1, by omega, by go_num, by rw [hst.out], (by repeat' (first | (with_reducible exact Below.refl _ _) | (with_reducible refine Below.alloc ?_ ?_ _) | (with_reducible refine Below.setCell ?_ ?_ _) | (with_reducible refine Below.drew ?_) | (with_reducible refine Below.trans ?_ (Below.mono (by with_reducible assumption) ?_)) | omega | (simp; done) | (simp; omega))), by have r := (Hrow.out.set (j := k) (.int .i64 (cc % 1000000))); rw [hnr.out] at r; exact r⟩
        case measure => simp [intOf]; omega
    · obtain rfl : k = n := by omega
      have hI : ¬ (k : Int) < k := by omega
      have hrl : (cY f k).length = k := cY_len f k
      have hrd : Rd wr wr.heap.size (some ⟨w.heap.size, 0, none⟩) 1 ie (cY f k) := by
        have e : (cY f k).flatMap ie ++ zs.drop k = (cY f k).flatMap ie := by rw [List.drop_of_length_le (by rw [Hl.out]; exact Nat.le_refl _), List.append_nil]
        rw [e] at hrow
        exact hrow.rd ie_len hs
      have Hrd := Lib.hid hrd
      clear hrd hrow
      go_wp2
      go_ret
      exact ⟨w.heap.size, _, cY f k, rfl, hrl, Hrd.out, cY_limbs f k, HV.out, hb⟩
set_option maxRecDepth 10000 in
set_option maxHeartbeats 8000000 in
theorem plus_any (A A' : Option Addr) (c c' : Nat) (xs ys : List Int) (w : World) (h : Rd w w.heap.size A 1 ie xs) (h' : Rd w w.heap.size A' 1 ie ys) (hl : limbs xs) (hl' : limbs ys) (hx : xs.length ≤ 1000) (hy : ys.length ≤ 1000) :
    Calls Tryd.prog 102 #[.slice A xs.length c, .slice A' ys.length c'] w fun e w' => LongAt w (lv xs + lv ys) (max xs.length ys.length + 1) e w' := by
  obtain ⟨M, hM⟩ : ∃ M, max xs.length ys.length = M := ⟨_, rfl⟩
  obtain ⟨n, hn⟩ : ∃ n, M + 1 = n := ⟨_, rfl⟩
  have hm1 : xs.length ≤ M ∧ ys.length ≤ M ∧ M ≤ 1000 := by omega
  have hmx : mx (xs.length : Int) (ys.length : Int) = (M : Int) := by have := mx_or (xs.length : Int) (ys.length : Int); omega
  obtain ⟨i0, hi, hz0, hz1, hz2⟩ := info_parts int_info
  have hmk := fun (W : World) => run_make (P := Tryd.prog) W 104 3 i0 _ Tryd.underlying104 hi hz0 .i64 .i64 n n (by omega) (by omega) (by rw [hz2]; omega) (by omega)
  simp only [hz1, Int.toNat_natCast, Nat.mul_one] at hmk
  clear hi hz0 hz1 hz2
  obtain ⟨f, hf⟩ : ∃ f, (fun j => lg xs j + lg ys j) = f := ⟨_, rfl⟩
  have HV : Hid (lv (cY f n) = lv xs + lv ys) := Lib.hid (by rw [← hf, ← hn]; exact plus_lv hl hl' hm1.1 hm1.2.1)
  have HB : Hid (∀ j, 0 ≤ f j ∧ f j ≤ 999999000) := Lib.hid (by intro j; rw [← hf]; exact plus_bd hl hl' j)
  have HF : Hid (∀ k, lg xs k + lg ys k = f k) := Lib.hid (by intro k; rw [← hf])
  have LX : Hid (∀ k, 0 ≤ lg xs k ∧ lg xs k < 1000000) := Lib.hid (lg_bd hl)
  have LY : Hid (∀ k, 0 ≤ lg ys k ∧ lg ys k < 1000000) := Lib.hid (lg_bd hl')
  have HX := Lib.hid h
  have HY := Lib.hid h'
  clear hf hl hl' h h'
  rw [hM, hn]
  have hn1 : xs.length < n := by omega
  have hn3 : ys.length < n := by omega
  have hn2 : n ≤ 1001 := by omega
  have hn4 : (M : Int) + 1 = n := by omega
  have HN := Lib.hid hn
  clear hn hM
  go_enter Tryd.func102, Tryd.ntmps102
  go_wp2
  have hrow0 := Row.new w 3 (madeCells #[.int .i64 0] n)
  have hb0 : Below w.heap.size w (w.alloc (.cells (madeCells #[.int .i64 0] n) 3)) := Below.alloc (Below.refl _ _) (Nat.le_refl _) _
  have hl0 : (madeCells #[.int .i64 0] n).toList.length = n := by simp [madeCells]
  generalize w.alloc (.cells (madeCells #[.int .i64 0] n) 3) = W1 at *
  generalize (madeCells #[.int .i64 0] n).toList = zs at *
  have Hl := Lib.hid hl0
  clear hl0 hmk
  go_loopw [6, 17] (fun cv i wr => ∃ k : Nat, k ≤ n ∧ i = .int .i64 k ∧ cv = .int .i64 (cC f k) ∧ Below w.heap.size w wr ∧ Row wr w.heap.size 3 ((cY f k).flatMap ie ++ zs.drop k)) (fun _ i _ => n - (intOf i).toNat)
  case atStart => exact ⟨0, Nat.zero_le _, rfl, rfl, hb0, by simpa [cY] using hrow0⟩
  case round =>
    obtain ⟨k, hk, rfl, rfl, hb, hrow⟩ := hrel
    have hs := hrow.lt
    have hc0 := cC_bd HB.out k
    by_cases hlt : k < n
    · have hI : (k : Int) < n := by omega
      have hI0 : (0 : Int) ≤ k := by omega
      have hfk := HB.out k
      have g0 : ∃ v, wr.cell? ⟨w.heap.size, k, none⟩ = some v := ⟨_, hrow.cell (by rw [List.length_append, List.length_drop, pre_len, Hl.out]; omega)⟩
      have f0 := hrow.frozen k
      obtain ⟨v0, g0⟩ := g0
      have hst := Lib.hid (@cC.eq_2 f k)
      have hnr := Lib.hid (next_row (f := f) hlt Hl.out)
      obtain ⟨cc, hcc⟩ : ∃ cc, cC f k = cc := ⟨_, rfl⟩
      rw [hcc] at hst hnr hc0
      simp only [hcc]
      clear hcc
      obtain ⟨t, ht⟩ : ∃ t, f k = t := ⟨_, rfl⟩
      rw [ht] at hst hnr hfk
      have d1 := mod_step (c := cc) (t := t) (by omega)
      have d2 := div_step (c := cc) (t := t) (by omega)
      have d3 : wrap64 ((cc + t) / 1000000) = (cc + t) / 1000000 := by unfold wrap64; omega
      have hts : wrap64 (cc + t) = cc + t := by unfold wrap64; omega
      have Hrow := Lib.hid hrow
      clear hrow
      obtain ⟨u, hu⟩ : ∃ u, lg xs k = u := ⟨_, rfl⟩
      obtain ⟨v, hv⟩ : ∃ v, lg ys k = v := ⟨_, rfl⟩
      have hut : u + v = t := by rw [← hu, ← hv, ← ht]; exact HF.out k
      have hub := LX.out k
      have hvb := LY.out k
      rw [hu] at hub
      rw [hv] at hvb
      clear ht
      by_cases hkx : k < xs.length
      · by_cases hky : k < ys.length
        · obtain ⟨b, bo, rfl, hbB, b0⟩ := int_cell (HX.out.below hb) hkx
          have hb1 : b < wr.heap.size := by omega
          have hJx : (k : Int) < xs.length := by omega
          rw [← lg_in hkx, hu] at b0
          obtain ⟨e, eo, rfl, heB, e0⟩ := int_cell (HY.out.below hb) hky
          have he1 : e < wr.heap.size := by omega
          have hJy : (k : Int) < ys.length := by omega
          rw [← lg_in hky, hv] at e0
          have hS : cc + t = (cc + u + v) := by omega
          clear hu hv  hut
          rw [hS] at d1 d2 d3 hts
          replace hst := hst.out
          rw [hS] at hst
          replace hst := Lib.hid hst
          replace hnr := hnr.out
          rw [hS] at hnr
          replace hnr := Lib.hid hnr
          have hw1 : wrap64 (cc + u) = cc + u := by unfold wrap64; omega
          clear hS
          go_wp2
          go_roundw
          case rel => exact ⟨k + 1, by omega, by go_num, by rw [hst.out], (by repeat' (first | (with_reducible exact Below.refl _ _) | (with_reducible refine Below.alloc ?_ ?_ _) | (with_reducible refine Below.setCell ?_ ?_ _) | (with_reducible refine Below.drew ?_) | (with_reducible refine Below.trans ?_ (Below.mono (by with_reducible assumption) ?_)) | omega | (simp; done) | (simp; omega))), by have r := (Hrow.out.set (j := k) (.int .i64 ((cc + u + v) % 1000000))); rw [hnr.out] at r; exact r⟩
          case measure => simp [intOf]; omega
        · obtain ⟨b, bo, rfl, hbB, b0⟩ := int_cell (HX.out.below hb) hkx
          have hb1 : b < wr.heap.size := by omega
          have hJx : (k : Int) < xs.length := by omega
          rw [← lg_in hkx, hu] at b0
          have hJy : ¬ (k : Int) < ys.length := by omega
          have zv : v = 0 := by rw [← hv]; exact lg_out (by omega)
          have hS : cc + t = (cc + u) := by omega
          clear hu hv zv hut
          rw [hS] at d1 d2 d3 hts
          replace hst := hst.out
          rw [hS] at hst
          replace hst := Lib.hid hst
          replace hnr := hnr.out
          rw [hS] at hnr
          replace hnr := Lib.hid hnr
          have hw1 : wrap64 (cc + u) = cc + u := by unfold wrap64; omega
          clear hS
          go_wp2
          go_roundw
          case rel => exact ⟨k + 1, by omega, by go_num, by rw [hst.out], (by repeat' (first | (with_reducible exact Below.refl _ _) | (with_reducible refine Below.alloc ?_ ?_ _) | (with_reducible refine Below.setCell ?_ ?_ _) | (with_reducible refine Below.drew ?_) | (with_reducible refine Below.trans ?_ (Below.mono (by with_reducible assumption) ?_)) | omega | (simp; done) | (simp; omega))), by have r := (Hrow.out.set (j := k) (.int .i64 ((cc + u) % 1000000))); rw [hnr.out] at r; exact r⟩
          case measure => simp [intOf]; omega
      · by_cases hky : k < ys.length
        · have hJx : ¬ (k : Int) < xs.length := by omega
          have zu : u = 0 := by rw [← hu]; exact lg_out (by omega)
          obtain ⟨e, eo, rfl, heB, e0⟩ := int_cell (HY.out.below hb) hky
          have he1 : e < wr.heap.size := by omega
          have hJy : (k : Int) < ys.length := by omega
          rw [← lg_in hky, hv] at e0
          have hS : cc + t = (cc + v) := by omega
          clear hu hv zu hut
          rw [hS] at d1 d2 d3 hts
          replace hst := hst.out
          rw [hS] at hst
          replace hst := Lib.hid hst
          replace hnr := hnr.out
          rw [hS] at hnr
          replace hnr := Lib.hid hnr
          clear hS
          go_wp2
          go_roundw
          case rel => exact ⟨k + 1, by omega, by go_num, by rw [hst.out], (by repeat' (first | (with_reducible exact Below.refl _ _) | (with_reducible refine Below.alloc ?_ ?_ _) | (with_reducible refine Below.setCell ?_ ?_ _) | (with_reducible refine Below.drew ?_) | (with_reducible refine Below.trans ?_ (Below.mono (by with_reducible assumption) ?_)) | omega | (simp; done) | (simp; omega))), by have r := (Hrow.out.set (j := k) (.int .i64 ((cc + v) % 1000000))); rw [hnr.out] at r; exact r⟩
          case measure => simp [intOf]; omega
        · have hJx : ¬ (k : Int) < xs.length := by omega
          have zu : u = 0 := by rw [← hu]; exact lg_out (by omega)
          have hJy : ¬ (k : Int) < ys.length := by omega
          have zv : v = 0 := by rw [← hv]; exact lg_out (by omega)
          have hS : cc + t = cc := by omega
          clear hu hv zu zv hut
          rw [hS] at d1 d2 d3 hts
          replace hst := hst.out
          rw [hS] at hst
          replace hst := Lib.hid hst
          replace hnr := hnr.out
          rw [hS] at hnr
          replace hnr := Lib.hid hnr
          clear hS
          go_wp2
          go_roundw
          case rel => exact ⟨k + 1, by omega, by go_num, by rw [hst.out], (by repeat' (first | (with_reducible exact Below.refl _ _) | (with_reducible refine Below.alloc ?_ ?_ _) | (with_reducible refine Below.setCell ?_ ?_ _) | (with_reducible refine Below.drew ?_) | (with_reducible refine Below.trans ?_ (Below.mono (by with_reducible assumption) ?_)) | omega | (simp; done) | (simp; omega))), by have r := (Hrow.out.set (j := k) (.int .i64 (cc % 1000000))); rw [hnr.out] at r; exact r⟩
          case measure => simp [intOf]; omega
    · obtain rfl : k = n := by omega
      have hI : ¬ (k : Int) < k := by omega
      have hrl : (cY f k).length = k := cY_len f k
      have hrd : Rd wr wr.heap.size (some ⟨w.heap.size, 0, none⟩) 1 ie (cY f k) := by
        have e : (cY f k).flatMap ie ++ zs.drop k = (cY f k).flatMap ie := by rw [List.drop_of_length_le (by rw [Hl.out]; exact Nat.le_refl _), List.append_nil]
        rw [e] at hrow
        exact hrow.rd ie_len hs
      have Hrd := Lib.hid hrd
      clear hrd hrow
      go_wp2
      go_ret
      exact ⟨w.heap.size, _, cY f k, rfl, hrl, Hrd.out, cY_limbs f k, HV.out, hb⟩
theorem sgn_lt {a b : Int} (h : a < b) : sgn (a - b) = -1 := by unfold sgn; rw [if_pos (by omega)]
theorem sgn_gt {a b : Int} (h : b < a) : sgn (a - b) = 1 := by unfold sgn; rw [if_neg (by omega), if_pos (by omega)]
set_option maxRecDepth 10000 in
set_option maxHeartbeats 8000000 in
theorem compareLong_any (A A' : Option Addr) (c c' : Nat) (xs ys : List Int) (w : World) (h : Rd w w.heap.size A 1 ie xs) (h' : Rd w w.heap.size A' 1 ie ys) (hl : limbs xs) (hl' : limbs ys) (hx : xs.length ≤ 1000) (hy : ys.length ≤ 1000) :
    Calls Tryd.prog 103 #[.slice A xs.length c, .slice A' ys.length c'] w fun e w' => e = .returned (.int .i64 (sgn (lv xs - lv ys))) ∧ Below w.heap.size w w' := by
  obtain ⟨M, hM⟩ : ∃ M, max xs.length ys.length = M := ⟨_, rfl⟩
  have hm1 : xs.length ≤ M ∧ ys.length ≤ M ∧ M ≤ 1000 := by omega
  have hmx : mx (xs.length : Int) (ys.length : Int) = (M : Int) := by have := mx_or (xs.length : Int) (ys.length : Int); omega
  have HL := Lib.hid hl
  have HL' := Lib.hid hl'
  have HX := Lib.hid h
  have HY := Lib.hid h'
  have HT := Lib.hid (show tl xs M = tl ys M by rw [tl_end hm1.1, tl_end hm1.2.1])
  obtain ⟨R, hR⟩ : ∃ R, sgn (lv xs - lv ys) = R := ⟨_, rfl⟩
  rw [hR]
  have HRR := Lib.hid hR
  clear hR hl hl' h h' hM
  go_enter Tryd.func103, Tryd.ntmps103
  go_wp2
  go_loopw [5] (fun i wr => ∃ z : Int, i = .int .i64 z ∧ -1 ≤ z ∧ z < M ∧ Hid (tl xs (z + 1).toNat = tl ys (z + 1).toNat) ∧ Below w.heap.size w wr) (fun i _ => (intOf i + 1).toNat)
  case atStart => exact ⟨(M : Int) - 1, by go_num, by omega, by omega, Lib.hid (by rw [show ((M : Int) - 1 + 1).toNat = M by omega]; exact HT.out), Below.refl _ _⟩
  case round =>
    obtain ⟨z, rfl, hz1, hzM, Ht, hb⟩ := hrel
    have hs := hb.size
    by_cases hz : 0 ≤ z
    · obtain ⟨p, rfl⟩ : ∃ p : Nat, z = p := ⟨z.toNat, by omega⟩
      have ht := Ht.out
      rw [show ((p : Int) + 1).toNat = p + 1 by omega] at ht
      have s1 := tl_step xs p
      have s2 := tl_step ys p
      obtain ⟨u, hu⟩ : ∃ u, lg xs p = u := ⟨_, rfl⟩
      obtain ⟨v, hv⟩ : ∃ v, lg ys p = v := ⟨_, rfl⟩
      have HC : Hid ((u < v → R = -1) ∧ (v < u → R = 1) ∧ (u = v → tl xs p = tl ys p)) := Lib.hid ⟨fun q => by rw [← HRR.out]; exact sgn_lt (lv_cmp HL.out HL'.out ht (by rw [hu, hv]; exact q)), fun q => by rw [← HRR.out]; exact sgn_gt (lv_cmp HL'.out HL.out ht.symm (by rw [hu, hv]; exact q)), fun q => by rw [s1, s2, ht, hu, hv, q]⟩
      clear ht s1 s2 Ht
      by_cases hkx : p < xs.length
      · by_cases hky : p < ys.length
        · obtain ⟨b, bo, rfl, hbB, b0⟩ := int_cell (HX.out.below hb) hkx
          have hb1 : b < wr.heap.size := by omega
          have hJx : (p : Int) < xs.length := by omega
          rw [← lg_in hkx, hu] at b0
          clear hu
          obtain ⟨e, eo, rfl, heB, e0⟩ := int_cell (HY.out.below hb) hky
          have he1 : e < wr.heap.size := by omega
          have hJy : (p : Int) < ys.length := by omega
          rw [← lg_in hky, hv] at e0
          clear hv
          by_cases hlt : u < v
          · have HR := Lib.hid (HC.out.1 hlt)
            go_wp2
            go_ret
            exact ⟨by rw [HR.out]; rfl, hb⟩
          · by_cases hgt : v < u
            · have HR := Lib.hid (HC.out.2.1 hgt)
              go_wp2
              go_ret
              exact ⟨by rw [HR.out]; rfl, hb⟩
            · have HR := Lib.hid (HC.out.2.2 (by omega))
              go_wp2
              go_roundw
              case rel => exact ⟨(p : Int) - 1, by go_num, by omega, by omega, Lib.hid (by rw [show ((p : Int) - 1 + 1).toNat = p by omega]; exact HR.out), hb⟩
              case measure => simp [intOf] <;> omega
        · obtain ⟨b, bo, rfl, hbB, b0⟩ := int_cell (HX.out.below hb) hkx
          have hb1 : b < wr.heap.size := by omega
          have hJx : (p : Int) < xs.length := by omega
          rw [← lg_in hkx, hu] at b0
          clear hu
          have hJy : ¬ (p : Int) < ys.length := by omega
          obtain rfl : v = 0 := by rw [← hv]; exact lg_out (by omega)
          clear hv
          by_cases hlt : u < (0 : Int)
          · have HR := Lib.hid (HC.out.1 hlt)
            go_wp2
            go_ret
            exact ⟨by rw [HR.out]; rfl, hb⟩
          · by_cases hgt : (0 : Int) < u
            · have HR := Lib.hid (HC.out.2.1 hgt)
              go_wp2
              go_ret
              exact ⟨by rw [HR.out]; rfl, hb⟩
            · have HR := Lib.hid (HC.out.2.2 (by omega))
              go_wp2
              go_roundw
              case rel => exact ⟨(p : Int) - 1, by go_num, by omega, by omega, Lib.hid (by rw [show ((p : Int) - 1 + 1).toNat = p by omega]; exact HR.out), hb⟩
              case measure => simp [intOf] <;> omega
      · by_cases hky : p < ys.length
        · have hJx : ¬ (p : Int) < xs.length := by omega
          obtain rfl : u = 0 := by rw [← hu]; exact lg_out (by omega)
          clear hu
          obtain ⟨e, eo, rfl, heB, e0⟩ := int_cell (HY.out.below hb) hky
          have he1 : e < wr.heap.size := by omega
          have hJy : (p : Int) < ys.length := by omega
          rw [← lg_in hky, hv] at e0
          clear hv
          by_cases hlt : (0 : Int) < v
          · have HR := Lib.hid (HC.out.1 hlt)
            go_wp2
            go_ret
            exact ⟨by rw [HR.out]; rfl, hb⟩
          · by_cases hgt : v < (0 : Int)
            · have HR := Lib.hid (HC.out.2.1 hgt)
              go_wp2
              go_ret
              exact ⟨by rw [HR.out]; rfl, hb⟩
            · have HR := Lib.hid (HC.out.2.2 (by omega))
              go_wp2
              go_roundw
              case rel => exact ⟨(p : Int) - 1, by go_num, by omega, by omega, Lib.hid (by rw [show ((p : Int) - 1 + 1).toNat = p by omega]; exact HR.out), hb⟩
              case measure => simp [intOf] <;> omega
        · have hJx : ¬ (p : Int) < xs.length := by omega
          obtain rfl : u = 0 := by rw [← hu]; exact lg_out (by omega)
          clear hu
          have hJy : ¬ (p : Int) < ys.length := by omega
          obtain rfl : v = 0 := by rw [← hv]; exact lg_out (by omega)
          clear hv
          have HR := Lib.hid (HC.out.2.2 rfl)
          go_wp2
          go_roundw
          case rel => exact ⟨(p : Int) - 1, by go_num, by omega, by omega, Lib.hid (by rw [show ((p : Int) - 1 + 1).toNat = p by omega]; exact HR.out), hb⟩
          case measure => simp [intOf] <;> omega
    · obtain rfl : z = -1 := by omega
      have he : R = 0 := by
        have ht := Ht.out
        rw [show ((-1 : Int) + 1).toNat = 0 by omega, tl_zero, tl_zero] at ht
        rw [← HRR.out, ht]; simp [sgn]
      have HE := Lib.hid he
      clear he
      go_wp2
      go_ret
      exact ⟨by rw [HE.out]; rfl, hb⟩
end Go.Proofs.YtimdnihadhbjpaaDoor
