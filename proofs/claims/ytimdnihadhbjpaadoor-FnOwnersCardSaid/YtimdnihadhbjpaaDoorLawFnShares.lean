/- Law: FnShares (chapter 22): divided crops are the whole crop. -/
import Derived.Test.YtimdnihadhbjpaaDoorShMath
import Derived.Test.YtimdnihadhbjpaaDoorOwDraw2
import Derived.Test.YtimdnihadhbjpaaDoorIntE
set_option linter.unusedSimpArgs false
set_option linter.unusedVariables false
namespace Go.Proofs.YtimdnihadhbjpaaDoor
open Go.RowKit Go.Sort Go.Salt
attribute [local go_sem] cell_rg
set_option maxHeartbeats 1000000 in
theorem rBig_any (A : Option Addr) (n c : Nat) (w : World) : Calls Tryd.prog 39 #[.slice A n c] w fun e w' => e = .returned (.bool (decide (65536 < n))) ∧ w = w' := by
  by_cases h : 65536 < n
  · have hI : (65536 : Int) < n := by omega
    rw [decide_eq_true h]
    go_enter Tryd.func39, Tryd.ntmps39
    go_wp2
    go_ret
    exact ⟨rfl, rfl⟩
  · have hI : ¬ (65536 : Int) < n := by omega
    rw [decide_eq_false h]
    go_enter Tryd.func39, Tryd.ntmps39
    go_wp2
    go_ret
    exact ⟨rfl, rfl⟩
set_option maxHeartbeats 4000000 in
theorem rInts_same (A A' : Option Addr) (c c' : Nat) (xs : List Int) (w : World) (h : Rd w w.heap.size A 1 ie xs) (h' : Rd w w.heap.size A' 1 ie xs) (hx : xs.length ≤ 1048576) :
    Calls Tryd.prog 41 #[.slice A xs.length c, .slice A' xs.length c'] w fun e w' => e = .returned (.bool true) ∧ Below w.heap.size w w' := by
  go_enter Tryd.func41, Tryd.ntmps41
  go_wp2
  go_loopw [5] (fun i wr => ∃ k : Nat, k ≤ xs.length ∧ i = .int .i64 k ∧ Below w.heap.size w wr) (fun i _ => xs.length - (intOf i).toNat)
  case atStart => exact ⟨0, Nat.zero_le _, rfl, Below.refl _ _⟩
  case round =>
    obtain ⟨k, hk, rfl, hb⟩ := hrel
    by_cases hlt : k < xs.length
    · obtain ⟨b, o, rfl, hB, c0⟩ := int_cell (h.below hb) hlt
      obtain ⟨b', o', rfl, hB', d0⟩ := int_cell (h'.below hb) hlt
      have hs := hb.size
      have hB1 : b < wr.heap.size := by omega
      have hB2 : b' < wr.heap.size := by omega
      have hI : (k : Int) < xs.length := by omega
      have hI0 : (0 : Int) ≤ k := by omega
      go_wp2_with fail
      refine wp_region_quiet_below (by kernel_rfl) (by kernel_rfl) ?_
      repeat (go_big_quiet_step (fail))
      (refine wpQuiet_nil ?_; intro w1 hwq; have hb1 := of_cls hwq; clear hwq)
      (have hs1 := hb1.size; (try simp at hs1); obtain ⟨hc1, hf1, hn1⟩ := bcell hb1; (try have hz1_wr_0 : wr.heap.size < w1.heap.size := by omega); (try have hz1_wr_1 : wr.heap.size + 1 < w1.heap.size := by omega); (try have hz1_wr_2 : wr.heap.size + 2 < w1.heap.size := by omega); (try have hB1 : b < w1.heap.size := by omega); (try have hB2 : b' < w1.heap.size := by omega); (try have hz1_wr_2b : wr.heap.size + 1 + 1 < w1.heap.size := by omega); (try have hz1_w_0 : w.heap.size < w1.heap.size := by omega); (try have hz1_w_1 : w.heap.size + 1 < w1.heap.size := by omega); (try have hz1_w_2 : w.heap.size + 2 < w1.heap.size := by omega); (try have hz1_w_2b : w.heap.size + 1 + 1 < w1.heap.size := by omega))
      go_wp2_with fail
      go_roundw
      case rel => exact ⟨k + 1, by omega, by go_num, (by repeat' (first | (with_reducible exact Below.refl _ _) | (with_reducible refine Below.alloc ?_ ?_ _) | (with_reducible refine Below.setCell ?_ ?_ _) | (with_reducible refine Below.drew ?_) | (with_reducible refine Below.trans ?_ (Below.mono (by with_reducible assumption) ?_)) | omega | (simp; done) | (simp; omega)))⟩
      case measure => simp [intOf]; omega
    · go_wp2
      go_ret
      exact ⟨rfl, hb⟩
set_option maxHeartbeats 4000000 in
theorem rSum_any (A : Option Addr) (c : Nat) (xs : List Int) (w : World) (h : Rd w w.heap.size A 1 ie xs) (hx : xs.length ≤ 1000) (hb : ∀ k, k ≤ xs.length → -1000000000000 ≤ sumI xs k ∧ sumI xs k ≤ 1000000000000) :
    Calls Tryd.prog 42 #[.slice A xs.length c] w fun e w' => e = .returned (.int .i64 (sumI xs xs.length)) ∧ Below w.heap.size w w' := by
  have HB := Lib.hid hb
  clear hb
  go_enter Tryd.func42, Tryd.ntmps42
  go_wp2
  go_loopw [3, 4] (fun n i wr => ∃ (k : Nat) (z : Int), k ≤ xs.length ∧ i = .int .i64 k ∧ n = .int .i64 z ∧ Hid (z = sumI xs k) ∧ Below w.heap.size w wr) (fun _ i _ => xs.length - (intOf i).toNat)
  case atStart => exact ⟨0, 0, Nat.zero_le _, rfl, rfl, Lib.hid rfl, Below.refl _ _⟩
  case round =>
    obtain ⟨k, z, hk, rfl, rfl, Hz, hb⟩ := hrel
    by_cases hlt : k < xs.length
    · obtain ⟨b, o, rfl, hB, c0⟩ := int_cell (h.below hb) hlt
      have hs := hb.size
      have hB1 : b < wr.heap.size := by omega
      have hI : (k : Int) < xs.length := by omega
      have hI0 : (0 : Int) ≤ k := by omega
      have h1 := HB.out (k + 1) (by omega)
      have hz1 : z + el xs k = sumI xs (k + 1) := by rw [Hz.out, sumI]
      have vz : wrap64 (z + el xs k) = z + el xs k := by rw [hz1]; exact wrap_in ⟨by omega, by omega⟩
      have Hz1 := Lib.hid hz1
      clear hz1 h1
      go_wp2
      go_roundw
      case rel => exact ⟨k + 1, z + el xs k, by omega, by go_num, by rw [vz], Hz1, (by repeat' (first | (with_reducible exact Below.refl _ _) | (with_reducible refine Below.alloc ?_ ?_ _) | (with_reducible refine Below.setCell ?_ ?_ _) | (with_reducible refine Below.drew ?_) | (with_reducible refine Below.trans ?_ (Below.mono (by with_reducible assumption) ?_)) | omega | (simp; done) | (simp; omega)))⟩
      case measure => simp [intOf]; omega
    · obtain rfl : k = xs.length := by omega
      obtain rfl := Hz.out
      have hI : ¬ ((xs.length : Nat) : Int) < xs.length := by omega
      go_wp2
      go_ret
      exact ⟨rfl, hb⟩
theorem bwide {w w' : World} {A : Option Addr} {n : Nat} (h : Byt w w.heap.size A n) (hb : Below w.heap.size w w') : Byt w' w'.heap.size A n := (h.below hb).more hb.size
theorem OwSz.more {B B' : Nat} {xs : List Ow} (h : OwSz B xs) (hB : B ≤ B') : OwSz B' xs := fun k hk => Nat.le_trans (h k hk) hB
set_option maxRecDepth 100000 in
set_option maxHeartbeats 32000000 in
theorem FnShares_law (A : Option Addr) (n c : Nat) (w : World) (h : Byt w w.heap.size A n) :
    Calls Tryd.prog 11 #[.slice A n c] w fun e w' => e = .returned (.bool true) ∧ Below w.heap.size w w' := by
  have HB := Lib.hid h
  clear h
  by_cases hbig : 65536 < n
  · go_enter Tryd.func11, Tryd.ntmps11
    go_wp2_with fail
    refine (rBig_any A n c _).mono ?_
    rintro e w1 ⟨rfl, rfl⟩
    rw [decide_eq_true hbig]
    go_wp2
    go_ret
    exact ⟨rfl, (by repeat' (first | (with_reducible exact Below.refl _ _) | (with_reducible refine Below.alloc ?_ ?_ _) | (with_reducible refine Below.setCell ?_ ?_ _) | (with_reducible refine Below.drew ?_) | (with_reducible refine Below.trans ?_ (Below.mono (by with_reducible assumption) ?_)) | omega | (simp; done) | (simp; omega)))⟩
  have hn : n ≤ 65536 := by omega
  go_enter Tryd.func11, Tryd.ntmps11
  go_wp2_with fail
  refine (rBig_any A n c _).mono ?_
  rintro e w0 ⟨rfl, rfl⟩
  rw [decide_eq_false hbig]
  clear hbig
  go_wp2_with fail
  refine (dDivideCrop_any A n c _ HB.out hn).mono ?_
  rintro e w1 ⟨⟨A1, c1, xs, crop, rfl, ho, hc1, hl1, hz1⟩, hb1⟩
  have hs1 := hb1.size
  have HX := Lib.hid (ho.rd Ow.enc_len)
  have HZ := Lib.hid (hz1.more (show 100 ≤ 1048576 by omega))
  clear ho hz1
  cases hok : dcB xs crop
  · have hlB : ltnB xs crop = false := hok
    have hlV : ltnV xs crop = 0 := by unfold ltnV; rw [hlB]; rfl
    have hyl : (dcR xs crop).length ≤ 8 := by unfold dcR; rw [hok]; simp
    go_wp2_with fail
    refine (iDivideCrop_any A1 c1 xs crop _ (HX.out.to (by repeat' (first | (with_reducible exact Below.refl _ _) | (with_reducible refine Below.alloc ?_ ?_ _) | (with_reducible refine Below.setCell ?_ ?_ _) | (with_reducible refine Below.drew ?_) | (with_reducible refine Below.trans ?_ (Below.mono (by with_reducible assumption) ?_)) | omega | (simp; done) | (simp; omega)))) (by omega) hc1 HZ.out).mono ?_
    rintro e w2 ⟨A2, c2, rfl, own2, hb2⟩
    have hs2 := hb2.size
    rw [hok]
    go_wp2_with fail
    refine (sDivideCrop_any A1 c1 xs crop _ (HX.out.to (by repeat' (first | (with_reducible exact Below.refl _ _) | (with_reducible refine Below.alloc ?_ ?_ _) | (with_reducible refine Below.setCell ?_ ?_ _) | (with_reducible refine Below.drew ?_) | (with_reducible refine Below.trans ?_ (Below.mono (by with_reducible assumption) ?_)) | omega | (simp; done) | (simp; omega)))) (by omega) HZ.out).mono ?_
    rintro e w3 ⟨A3, c3, rfl, own3, hb3⟩
    have hs3 := hb3.size
    rw [hok]
    obtain ⟨ys, hys⟩ : ∃ ys, dcR xs crop = ys := ⟨_, rfl⟩
    rw [hys] at own2 own3 hyl
    rw [hys]
    go_wp2_with fail
    refine (rInts_same _ _ _ _ ys _ ((own2.to (by repeat' (first | (with_reducible exact Below.refl _ _) | (with_reducible refine Below.alloc ?_ ?_ _) | (with_reducible refine Below.setCell ?_ ?_ _) | (with_reducible refine Below.drew ?_) | (with_reducible refine Below.trans ?_ (Below.mono (by with_reducible assumption) ?_)) | omega | (simp; done) | (simp; omega)))).rd ie_len) ((own3.to (by repeat' (first | (with_reducible exact Below.refl _ _) | (with_reducible refine Below.alloc ?_ ?_ _) | (with_reducible refine Below.setCell ?_ ?_ _) | (with_reducible refine Below.drew ?_) | (with_reducible refine Below.trans ?_ (Below.mono (by with_reducible assumption) ?_)) | omega | (simp; done) | (simp; omega)))).rd ie_len) (by omega)).mono ?_
    rintro e w4 ⟨rfl, hb4⟩
    have hs4 := hb4.size
    go_wp2_with fail
    refine (iLeftTons_any A1 c1 xs crop _ (HX.out.to (by repeat' (first | (with_reducible exact Below.refl _ _) | (with_reducible refine Below.alloc ?_ ?_ _) | (with_reducible refine Below.setCell ?_ ?_ _) | (with_reducible refine Below.drew ?_) | (with_reducible refine Below.trans ?_ (Below.mono (by with_reducible assumption) ?_)) | omega | (simp; done) | (simp; omega)))) (by omega) hc1 HZ.out).mono ?_
    rintro e w5 ⟨rfl, hb5⟩
    have hs5 := hb5.size
    rw [hlB, hlV]
    go_wp2_with fail
    refine (sLeftTons_any A1 c1 xs crop _ (HX.out.to (by repeat' (first | (with_reducible exact Below.refl _ _) | (with_reducible refine Below.alloc ?_ ?_ _) | (with_reducible refine Below.setCell ?_ ?_ _) | (with_reducible refine Below.drew ?_) | (with_reducible refine Below.trans ?_ (Below.mono (by with_reducible assumption) ?_)) | omega | (simp; done) | (simp; omega)))) (by omega) HZ.out).mono ?_
    rintro e w6 ⟨rfl, hb6⟩
    have hs6 := hb6.size
    rw [hlB, hlV]
    have HB6 : Hid (Below w.heap.size w w6) := Lib.hid (by repeat' (first | (with_reducible exact Below.refl _ _) | (with_reducible refine Below.alloc ?_ ?_ _) | (with_reducible refine Below.setCell ?_ ?_ _) | (with_reducible refine Below.drew ?_) | (with_reducible refine Below.trans ?_ (Below.mono (by with_reducible assumption) ?_)) | omega | (simp; done) | (simp; omega)))
    clear hok hlB hlV
    go_wp2_with fail
    go_loopw [13] (fun i wr => i = .int .i64 0 ∧ w6 = wr) (fun _ _ => 0)
    case atStart => exact ⟨rfl, rfl⟩
    case round =>
      obtain ⟨rfl, rfl⟩ := hrel
      rcases (show (0 : Int) < xs.length ∨ ¬ (0 : Int) < xs.length by omega) with hx0 | hx0
      · go_wp2_with fail
        refine (dExactParts_any A n c _ (bwide HB.out (by repeat' (first | (with_reducible exact Below.refl _ _) | (with_reducible refine Below.alloc ?_ ?_ _) | (with_reducible refine Below.setCell ?_ ?_ _) | (with_reducible refine Below.drew ?_) | (with_reducible refine Below.trans ?_ (Below.mono (by with_reducible assumption) ?_)) | omega | (simp; done) | (simp; omega)))) hn).mono ?_
        rintro e w20 ⟨⟨A4, c4, ls, rfl, ho4, hc4, hl4, hz4⟩, hb20⟩
        have hs20 := hb20.size
        have HL := Lib.hid (ho4.rd Ow.enc_len)
        have HLZ := Lib.hid (hz4.more (show 100 ≤ 1048576 by omega))
        clear ho4 hz4
        go_wp2_with fail
        refine (iExactParts_any A4 c4 ls _ (HL.out.to (by repeat' (first | (with_reducible exact Below.refl _ _) | (with_reducible refine Below.alloc ?_ ?_ _) | (with_reducible refine Below.setCell ?_ ?_ _) | (with_reducible refine Below.drew ?_) | (with_reducible refine Below.trans ?_ (Below.mono (by with_reducible assumption) ?_)) | omega | (simp; done) | (simp; omega)))) (by omega) hc4 HLZ.out).mono ?_
        rintro e w21 ⟨rfl, hb21⟩
        have hs21 := hb21.size
        go_wp2_with fail
        refine (sExactParts_any A4 c4 ls _ (HL.out.to (by repeat' (first | (with_reducible exact Below.refl _ _) | (with_reducible refine Below.alloc ?_ ?_ _) | (with_reducible refine Below.setCell ?_ ?_ _) | (with_reducible refine Below.drew ?_) | (with_reducible refine Below.trans ?_ (Below.mono (by with_reducible assumption) ?_)) | omega | (simp; done) | (simp; omega)))) (by omega) HLZ.out).mono ?_
        rintro e w22 ⟨rfl, hb22⟩
        have hs22 := hb22.size
        cases hep : epB ls
        · go_wp2_with fail
          refine (iLeftTons_any A4 c4 ls (epV ls) _ (HL.out.to (by repeat' (first | (with_reducible exact Below.refl _ _) | (with_reducible refine Below.alloc ?_ ?_ _) | (with_reducible refine Below.setCell ?_ ?_ _) | (with_reducible refine Below.drew ?_) | (with_reducible refine Below.trans ?_ (Below.mono (by with_reducible assumption) ?_)) | omega | (simp; done) | (simp; omega)))) (by omega) hc4 HLZ.out).mono ?_
          rintro e w23 ⟨rfl, hb23⟩
          have hs23 := hb23.size
          go_wp2_with fail
          refine (dShareOf_any A n c _ (bwide HB.out (by repeat' (first | (with_reducible exact Below.refl _ _) | (with_reducible refine Below.alloc ?_ ?_ _) | (with_reducible refine Below.setCell ?_ ?_ _) | (with_reducible refine Below.drew ?_) | (with_reducible refine Below.trans ?_ (Below.mono (by with_reducible assumption) ?_)) | omega | (simp; done) | (simp; omega)))) hn).mono ?_
          rintro e w24 ⟨⟨A5, c5, us, s5, rfl, hs5z, ho5, hc5, hl5, hz5⟩, hb24⟩
          have hs24 := hb24.size
          have HU := Lib.hid (ho5.rd Ow.enc_len)
          have HUZ := Lib.hid (hz5.more (show 100 ≤ 1048576 by omega))
          clear ho5 hz5
          go_wp2_with fail
          refine (iShareOf_any A5 c5 us s5 _ (HU.out.to (by repeat' (first | (with_reducible exact Below.refl _ _) | (with_reducible refine Below.alloc ?_ ?_ _) | (with_reducible refine Below.setCell ?_ ?_ _) | (with_reducible refine Below.drew ?_) | (with_reducible refine Below.trans ?_ (Below.mono (by with_reducible assumption) ?_)) | omega | (simp; done) | (simp; omega)))) (by omega) hc5 HUZ.out).mono ?_
          rintro e w25 ⟨rfl, hb25⟩
          have hs25 := hb25.size
          go_wp2_with fail
          refine (sShareOf_any A5 c5 us s5 _ (HU.out.to (by repeat' (first | (with_reducible exact Below.refl _ _) | (with_reducible refine Below.alloc ?_ ?_ _) | (with_reducible refine Below.setCell ?_ ?_ _) | (with_reducible refine Below.drew ?_) | (with_reducible refine Below.trans ?_ (Below.mono (by with_reducible assumption) ?_)) | omega | (simp; done) | (simp; omega)))) (by omega) HUZ.out).mono ?_
          rintro e w26 ⟨rfl, hb26⟩
          have hs26 := hb26.size
          go_wp2
          go_ret
          exact ⟨rfl, (by repeat' (first | (with_reducible exact Below.refl _ _) | (with_reducible refine Below.alloc ?_ ?_ _) | (with_reducible refine Below.setCell ?_ ?_ _) | (with_reducible refine Below.drew ?_) | (with_reducible refine Below.trans ?_ (Below.mono (by with_reducible assumption) ?_)) | omega | (simp; done) | (simp; omega)))⟩
        · have hel := ep_left hep
          go_wp2_with fail
          refine (iLeftTons_any A4 c4 ls (epV ls) _ (HL.out.to (by repeat' (first | (with_reducible exact Below.refl _ _) | (with_reducible refine Below.alloc ?_ ?_ _) | (with_reducible refine Below.setCell ?_ ?_ _) | (with_reducible refine Below.drew ?_) | (with_reducible refine Below.trans ?_ (Below.mono (by with_reducible assumption) ?_)) | omega | (simp; done) | (simp; omega)))) (by omega) hc4 HLZ.out).mono ?_
          rintro e w23 ⟨rfl, hb23⟩
          have hs23 := hb23.size
          rw [hel.1, hel.2]
          go_wp2_with fail
          refine (dShareOf_any A n c _ (bwide HB.out (by repeat' (first | (with_reducible exact Below.refl _ _) | (with_reducible refine Below.alloc ?_ ?_ _) | (with_reducible refine Below.setCell ?_ ?_ _) | (with_reducible refine Below.drew ?_) | (with_reducible refine Below.trans ?_ (Below.mono (by with_reducible assumption) ?_)) | omega | (simp; done) | (simp; omega)))) hn).mono ?_
          rintro e w24 ⟨⟨A5, c5, us, s5, rfl, hs5z, ho5, hc5, hl5, hz5⟩, hb24⟩
          have hs24 := hb24.size
          have HU := Lib.hid (ho5.rd Ow.enc_len)
          have HUZ := Lib.hid (hz5.more (show 100 ≤ 1048576 by omega))
          clear ho5 hz5
          go_wp2_with fail
          refine (iShareOf_any A5 c5 us s5 _ (HU.out.to (by repeat' (first | (with_reducible exact Below.refl _ _) | (with_reducible refine Below.alloc ?_ ?_ _) | (with_reducible refine Below.setCell ?_ ?_ _) | (with_reducible refine Below.drew ?_) | (with_reducible refine Below.trans ?_ (Below.mono (by with_reducible assumption) ?_)) | omega | (simp; done) | (simp; omega)))) (by omega) hc5 HUZ.out).mono ?_
          rintro e w25 ⟨rfl, hb25⟩
          have hs25 := hb25.size
          go_wp2_with fail
          refine (sShareOf_any A5 c5 us s5 _ (HU.out.to (by repeat' (first | (with_reducible exact Below.refl _ _) | (with_reducible refine Below.alloc ?_ ?_ _) | (with_reducible refine Below.setCell ?_ ?_ _) | (with_reducible refine Below.drew ?_) | (with_reducible refine Below.trans ?_ (Below.mono (by with_reducible assumption) ?_)) | omega | (simp; done) | (simp; omega)))) (by omega) HUZ.out).mono ?_
          rintro e w26 ⟨rfl, hb26⟩
          have hs26 := hb26.size
          go_wp2
          go_ret
          exact ⟨rfl, (by repeat' (first | (with_reducible exact Below.refl _ _) | (with_reducible refine Below.alloc ?_ ?_ _) | (with_reducible refine Below.setCell ?_ ?_ _) | (with_reducible refine Below.drew ?_) | (with_reducible refine Below.trans ?_ (Below.mono (by with_reducible assumption) ?_)) | omega | (simp; done) | (simp; omega)))⟩
      · go_wp2_with fail
        refine (dExactParts_any A n c _ (bwide HB.out (by repeat' (first | (with_reducible exact Below.refl _ _) | (with_reducible refine Below.alloc ?_ ?_ _) | (with_reducible refine Below.setCell ?_ ?_ _) | (with_reducible refine Below.drew ?_) | (with_reducible refine Below.trans ?_ (Below.mono (by with_reducible assumption) ?_)) | omega | (simp; done) | (simp; omega)))) hn).mono ?_
        rintro e w20 ⟨⟨A4, c4, ls, rfl, ho4, hc4, hl4, hz4⟩, hb20⟩
        have hs20 := hb20.size
        have HL := Lib.hid (ho4.rd Ow.enc_len)
        have HLZ := Lib.hid (hz4.more (show 100 ≤ 1048576 by omega))
        clear ho4 hz4
        go_wp2_with fail
        refine (iExactParts_any A4 c4 ls _ (HL.out.to (by repeat' (first | (with_reducible exact Below.refl _ _) | (with_reducible refine Below.alloc ?_ ?_ _) | (with_reducible refine Below.setCell ?_ ?_ _) | (with_reducible refine Below.drew ?_) | (with_reducible refine Below.trans ?_ (Below.mono (by with_reducible assumption) ?_)) | omega | (simp; done) | (simp; omega)))) (by omega) hc4 HLZ.out).mono ?_
        rintro e w21 ⟨rfl, hb21⟩
        have hs21 := hb21.size
        go_wp2_with fail
        refine (sExactParts_any A4 c4 ls _ (HL.out.to (by repeat' (first | (with_reducible exact Below.refl _ _) | (with_reducible refine Below.alloc ?_ ?_ _) | (with_reducible refine Below.setCell ?_ ?_ _) | (with_reducible refine Below.drew ?_) | (with_reducible refine Below.trans ?_ (Below.mono (by with_reducible assumption) ?_)) | omega | (simp; done) | (simp; omega)))) (by omega) HLZ.out).mono ?_
        rintro e w22 ⟨rfl, hb22⟩
        have hs22 := hb22.size
        cases hep : epB ls
        · go_wp2_with fail
          refine (iLeftTons_any A4 c4 ls (epV ls) _ (HL.out.to (by repeat' (first | (with_reducible exact Below.refl _ _) | (with_reducible refine Below.alloc ?_ ?_ _) | (with_reducible refine Below.setCell ?_ ?_ _) | (with_reducible refine Below.drew ?_) | (with_reducible refine Below.trans ?_ (Below.mono (by with_reducible assumption) ?_)) | omega | (simp; done) | (simp; omega)))) (by omega) hc4 HLZ.out).mono ?_
          rintro e w23 ⟨rfl, hb23⟩
          have hs23 := hb23.size
          go_wp2_with fail
          refine (dShareOf_any A n c _ (bwide HB.out (by repeat' (first | (with_reducible exact Below.refl _ _) | (with_reducible refine Below.alloc ?_ ?_ _) | (with_reducible refine Below.setCell ?_ ?_ _) | (with_reducible refine Below.drew ?_) | (with_reducible refine Below.trans ?_ (Below.mono (by with_reducible assumption) ?_)) | omega | (simp; done) | (simp; omega)))) hn).mono ?_
          rintro e w24 ⟨⟨A5, c5, us, s5, rfl, hs5z, ho5, hc5, hl5, hz5⟩, hb24⟩
          have hs24 := hb24.size
          have HU := Lib.hid (ho5.rd Ow.enc_len)
          have HUZ := Lib.hid (hz5.more (show 100 ≤ 1048576 by omega))
          clear ho5 hz5
          go_wp2_with fail
          refine (iShareOf_any A5 c5 us s5 _ (HU.out.to (by repeat' (first | (with_reducible exact Below.refl _ _) | (with_reducible refine Below.alloc ?_ ?_ _) | (with_reducible refine Below.setCell ?_ ?_ _) | (with_reducible refine Below.drew ?_) | (with_reducible refine Below.trans ?_ (Below.mono (by with_reducible assumption) ?_)) | omega | (simp; done) | (simp; omega)))) (by omega) hc5 HUZ.out).mono ?_
          rintro e w25 ⟨rfl, hb25⟩
          have hs25 := hb25.size
          go_wp2_with fail
          refine (sShareOf_any A5 c5 us s5 _ (HU.out.to (by repeat' (first | (with_reducible exact Below.refl _ _) | (with_reducible refine Below.alloc ?_ ?_ _) | (with_reducible refine Below.setCell ?_ ?_ _) | (with_reducible refine Below.drew ?_) | (with_reducible refine Below.trans ?_ (Below.mono (by with_reducible assumption) ?_)) | omega | (simp; done) | (simp; omega)))) (by omega) HUZ.out).mono ?_
          rintro e w26 ⟨rfl, hb26⟩
          have hs26 := hb26.size
          go_wp2
          go_ret
          exact ⟨rfl, (by repeat' (first | (with_reducible exact Below.refl _ _) | (with_reducible refine Below.alloc ?_ ?_ _) | (with_reducible refine Below.setCell ?_ ?_ _) | (with_reducible refine Below.drew ?_) | (with_reducible refine Below.trans ?_ (Below.mono (by with_reducible assumption) ?_)) | omega | (simp; done) | (simp; omega)))⟩
        · have hel := ep_left hep
          go_wp2_with fail
          refine (iLeftTons_any A4 c4 ls (epV ls) _ (HL.out.to (by repeat' (first | (with_reducible exact Below.refl _ _) | (with_reducible refine Below.alloc ?_ ?_ _) | (with_reducible refine Below.setCell ?_ ?_ _) | (with_reducible refine Below.drew ?_) | (with_reducible refine Below.trans ?_ (Below.mono (by with_reducible assumption) ?_)) | omega | (simp; done) | (simp; omega)))) (by omega) hc4 HLZ.out).mono ?_
          rintro e w23 ⟨rfl, hb23⟩
          have hs23 := hb23.size
          rw [hel.1, hel.2]
          go_wp2_with fail
          refine (dShareOf_any A n c _ (bwide HB.out (by repeat' (first | (with_reducible exact Below.refl _ _) | (with_reducible refine Below.alloc ?_ ?_ _) | (with_reducible refine Below.setCell ?_ ?_ _) | (with_reducible refine Below.drew ?_) | (with_reducible refine Below.trans ?_ (Below.mono (by with_reducible assumption) ?_)) | omega | (simp; done) | (simp; omega)))) hn).mono ?_
          rintro e w24 ⟨⟨A5, c5, us, s5, rfl, hs5z, ho5, hc5, hl5, hz5⟩, hb24⟩
          have hs24 := hb24.size
          have HU := Lib.hid (ho5.rd Ow.enc_len)
          have HUZ := Lib.hid (hz5.more (show 100 ≤ 1048576 by omega))
          clear ho5 hz5
          go_wp2_with fail
          refine (iShareOf_any A5 c5 us s5 _ (HU.out.to (by repeat' (first | (with_reducible exact Below.refl _ _) | (with_reducible refine Below.alloc ?_ ?_ _) | (with_reducible refine Below.setCell ?_ ?_ _) | (with_reducible refine Below.drew ?_) | (with_reducible refine Below.trans ?_ (Below.mono (by with_reducible assumption) ?_)) | omega | (simp; done) | (simp; omega)))) (by omega) hc5 HUZ.out).mono ?_
          rintro e w25 ⟨rfl, hb25⟩
          have hs25 := hb25.size
          go_wp2_with fail
          refine (sShareOf_any A5 c5 us s5 _ (HU.out.to (by repeat' (first | (with_reducible exact Below.refl _ _) | (with_reducible refine Below.alloc ?_ ?_ _) | (with_reducible refine Below.setCell ?_ ?_ _) | (with_reducible refine Below.drew ?_) | (with_reducible refine Below.trans ?_ (Below.mono (by with_reducible assumption) ?_)) | omega | (simp; done) | (simp; omega)))) (by omega) HUZ.out).mono ?_
          rintro e w26 ⟨rfl, hb26⟩
          have hs26 := hb26.size
          go_wp2
          go_ret
          exact ⟨rfl, (by repeat' (first | (with_reducible exact Below.refl _ _) | (with_reducible refine Below.alloc ?_ ?_ _) | (with_reducible refine Below.setCell ?_ ?_ _) | (with_reducible refine Below.drew ?_) | (with_reducible refine Below.trans ?_ (Below.mono (by with_reducible assumption) ?_)) | omega | (simp; done) | (simp; omega)))⟩
  · have hgc : arB xs = true ∧ inB crop 0 1000000 = true := by unfold dcB at hok; rwa [Bool.and_eq_true] at hok
    have hcr := inB_iff.1 hgc.2
    have hg := hgc.1
    have hbd := arOK_bd hg
    have hln := arOK_len hg
    have hlB : ltnB xs crop = true := hok
    have hlV : ltnV xs crop = lfN xs crop xs.length := by unfold ltnV; rw [hlB]; rfl
    have hdR : dcR xs crop = dcL xs crop := by unfold dcR; rw [hok]; rfl
    have HYL : Hid ((dcR xs crop).length = xs.length) := Lib.hid (by rw [hdR, dcL_len])
    have HEL : Hid (∀ k, k < xs.length → el (dcR xs crop) k = flN xs crop k + b2i (gN xs crop (lfN xs crop xs.length).toNat k)) := Lib.hid fun k hk => by rw [hdR]; exact dcL_el hk
    have HSUM : Hid (∀ k, k ≤ xs.length → sumI (dcR xs crop) k = crop - lfN xs crop k + (cntG (gN xs crop (lfN xs crop xs.length).toNat) k : Nat)) := Lib.hid fun k hk => by rw [hdR]; exact dcL_sum hk
    have HALL : Hid (sumI (dcR xs crop) xs.length = crop) := Lib.hid (by rw [hdR]; exact dcL_all hg crop)
    have HCNT := Lib.hid (cnt_all hg crop)
    have HBD := Lib.hid hbd
    have HSH := Lib.hid (fun k (hk : k < xs.length) => sh_own hg hk)
    have HLF := Lib.hid (fun k (hk : k ≤ 8) => lf_bd hbd hcr k hk)
    have HFS := Lib.hid (fun k => fl_step hbd hcr k)
    have hll := lf_left hg crop
    clear hgc hdR hbd hg
    go_wp2_with fail
    refine (iDivideCrop_any A1 c1 xs crop _ (HX.out.to (by repeat' (first | (with_reducible exact Below.refl _ _) | (with_reducible refine Below.alloc ?_ ?_ _) | (with_reducible refine Below.setCell ?_ ?_ _) | (with_reducible refine Below.drew ?_) | (with_reducible refine Below.trans ?_ (Below.mono (by with_reducible assumption) ?_)) | omega | (simp; done) | (simp; omega)))) (by omega) hc1 HZ.out).mono ?_
    rintro e w2 ⟨A2, c2, rfl, own2, hb2⟩
    have hs2 := hb2.size
    rw [hok]
    go_wp2_with fail
    refine (sDivideCrop_any A1 c1 xs crop _ (HX.out.to (by repeat' (first | (with_reducible exact Below.refl _ _) | (with_reducible refine Below.alloc ?_ ?_ _) | (with_reducible refine Below.setCell ?_ ?_ _) | (with_reducible refine Below.drew ?_) | (with_reducible refine Below.trans ?_ (Below.mono (by with_reducible assumption) ?_)) | omega | (simp; done) | (simp; omega)))) (by omega) HZ.out).mono ?_
    rintro e w3 ⟨A3, c3, rfl, own3, hb3⟩
    have hs3 := hb3.size
    rw [hok]
    obtain ⟨ys, hys⟩ : ∃ ys, dcR xs crop = ys := ⟨_, rfl⟩
    rw [hys] at own2 own3 HYL HEL HSUM HALL
    have hyA := Nat.le_of_eq HYL.out
    have hyB := Nat.le_of_eq HYL.out.symm
    rw [hys]
    go_wp2_with fail
    refine (rInts_same _ _ _ _ ys _ ((own2.to (by repeat' (first | (with_reducible exact Below.refl _ _) | (with_reducible refine Below.alloc ?_ ?_ _) | (with_reducible refine Below.setCell ?_ ?_ _) | (with_reducible refine Below.drew ?_) | (with_reducible refine Below.trans ?_ (Below.mono (by with_reducible assumption) ?_)) | omega | (simp; done) | (simp; omega)))).rd ie_len) ((own3.to (by repeat' (first | (with_reducible exact Below.refl _ _) | (with_reducible refine Below.alloc ?_ ?_ _) | (with_reducible refine Below.setCell ?_ ?_ _) | (with_reducible refine Below.drew ?_) | (with_reducible refine Below.trans ?_ (Below.mono (by with_reducible assumption) ?_)) | omega | (simp; done) | (simp; omega)))).rd ie_len) (by omega)).mono ?_
    rintro e w4 ⟨rfl, hb4⟩
    have hs4 := hb4.size
    go_wp2_with fail
    refine (rSum_any _ _ ys _ ((own2.to (by repeat' (first | (with_reducible exact Below.refl _ _) | (with_reducible refine Below.alloc ?_ ?_ _) | (with_reducible refine Below.setCell ?_ ?_ _) | (with_reducible refine Below.drew ?_) | (with_reducible refine Below.trans ?_ (Below.mono (by with_reducible assumption) ?_)) | omega | (simp; done) | (simp; omega)))).rd ie_len) (by omega) (fun k hk => by have h1 := HSUM.out k (by omega); have h2 := HLF.out k (by omega); have h3 := cntG_le (G := gN xs crop (lfN xs crop xs.length).toNat) k; omega)).mono ?_
    rintro e w7 ⟨rfl, hb7⟩
    have hs7 := hb7.size
    have HALL2 : sumI ys ys.length = crop := by rw [show ys.length = xs.length by omega]; exact HALL.out
    rw [HALL2]
    clear HALL2
    go_wp2_with fail
    refine (iLeftTons_any A1 c1 xs crop _ (HX.out.to (by repeat' (first | (with_reducible exact Below.refl _ _) | (with_reducible refine Below.alloc ?_ ?_ _) | (with_reducible refine Below.setCell ?_ ?_ _) | (with_reducible refine Below.drew ?_) | (with_reducible refine Below.trans ?_ (Below.mono (by with_reducible assumption) ?_)) | omega | (simp; done) | (simp; omega)))) (by omega) hc1 HZ.out).mono ?_
    rintro e w5 ⟨rfl, hb5⟩
    have hs5 := hb5.size
    rw [hlB, hlV]
    go_wp2_with fail
    refine (sLeftTons_any A1 c1 xs crop _ (HX.out.to (by repeat' (first | (with_reducible exact Below.refl _ _) | (with_reducible refine Below.alloc ?_ ?_ _) | (with_reducible refine Below.setCell ?_ ?_ _) | (with_reducible refine Below.drew ?_) | (with_reducible refine Below.trans ?_ (Below.mono (by with_reducible assumption) ?_)) | omega | (simp; done) | (simp; omega)))) (by omega) HZ.out).mono ?_
    rintro e w6 ⟨rfl, hb6⟩
    have hs6 := hb6.size
    rw [hlB, hlV]
    obtain ⟨L0, hL0⟩ : ∃ z, lfN xs crop xs.length = z := ⟨_, rfl⟩
    rw [hL0] at HCNT HEL hll
    rw [hL0]
    obtain ⟨G, hG⟩ : ∃ G, gN xs crop L0.toNat = G := ⟨_, rfl⟩
    rw [hG] at HCNT HEL
    have HX6 := Lib.hid (HX.out.to (show Below w1.heap.size w1 w6 from (by repeat' (first | (with_reducible exact Below.refl _ _) | (with_reducible refine Below.alloc ?_ ?_ _) | (with_reducible refine Below.setCell ?_ ?_ _) | (with_reducible refine Below.drew ?_) | (with_reducible refine Below.trans ?_ (Below.mono (by with_reducible assumption) ?_)) | omega | (simp; done) | (simp; omega)))))
    have HO6 := Lib.hid (own2.to (show Below w2.heap.size w2 w6 from (by repeat' (first | (with_reducible exact Below.refl _ _) | (with_reducible refine Below.alloc ?_ ?_ _) | (with_reducible refine Below.setCell ?_ ?_ _) | (with_reducible refine Below.drew ?_) | (with_reducible refine Below.trans ?_ (Below.mono (by with_reducible assumption) ?_)) | omega | (simp; done) | (simp; omega)))))
    have HB6 : Hid (Below w.heap.size w w6) := Lib.hid (by repeat' (first | (with_reducible exact Below.refl _ _) | (with_reducible refine Below.alloc ?_ ?_ _) | (with_reducible refine Below.setCell ?_ ?_ _) | (with_reducible refine Below.drew ?_) | (with_reducible refine Below.trans ?_ (Below.mono (by with_reducible assumption) ?_)) | omega | (simp; done) | (simp; omega)))
    clear hok hlB hlV hL0 hG HSUM HALL HLF own2 own3 hys
    go_wp2_with fail
    go_loopw [9, 13] (fun l i wr => ∃ (k : Nat) (z : Int), k ≤ xs.length ∧ i = .int .i64 k ∧ l = .int .i64 z ∧ Hid (z = L0 - (cntG G k : Nat)) ∧ Below w6.heap.size w6 wr) (fun _ i _ => xs.length - (intOf i).toNat)
    case atStart => exact ⟨0, L0, Nat.zero_le _, rfl, rfl, Lib.hid (by simp [cntG]), Below.refl _ _⟩
    case round =>
      obtain ⟨k, z, hk, rfl, rfl, Hz, hb⟩ := hrel
      have hsr := hb.size
      by_cases hlt : k < xs.length
      · have hI : (k : Int) < xs.length := by omega
        have hI0 : (0 : Int) ≤ k := by omega
        have hIy : (k : Int) < ys.length := by omega
        have hly : k < ys.length := by omega
        obtain ⟨b, o, rfl, hB, c0, c1', c2'⟩ := ow_cells (HX6.out.to hb) hlt
        have hsh := HSH.out k hlt
        have hbk := HBD.out k
        obtain ⟨p, q, r, hp, e1, e2, e3, e4, e5, hq, e6, _⟩ := HFS.out k
        have hel := HEL.out k hlt
        rw [e6] at hel
        obtain ⟨tk, htk⟩ : ∃ t, el ys k = t := ⟨_, rfl⟩
        have hcn := cntG_le (G := G) k
        have hz := Hz.out
        have hcs : cntG G (k + 1) = cntG G k + (if G k = true then 1 else 0) := rfl
        have htq : tk = q + b2i (G k) := by rw [← htk]; exact hel
        have hb01 := b2i_or (G k)
        have h1 : ¬ (el xs k).d < 1 := by omega
        have h2 : ¬ tk < q := by omega
        have h3 : ¬ q + 1 < tk := by omega
        have v1 : wrap64 (q + 1) = q + 1 := wrap_in ⟨by omega, by omega⟩
        have v2 : wrap64 (z - tk) = z - tk := wrap_in ⟨by omega, by omega⟩
        have v3 : wrap64 (z - tk + q) = z - tk + q := wrap_in ⟨by omega, by omega⟩
        have Hz' : Hid (z - tk + q = L0 - (cntG G (k + 1) : Nat)) := Lib.hid (by
          rw [hcs, htq, hz]
          cases G k <;> simp [b2i] <;> omega)
        clear hcs htq hb01 hz hel e6 c1' c2'
        go_wp2_with fail
        refine (iShareOf_any _ c1 xs (el xs k).s _ (HX6.out.to (hb.trans ((show Below wr.heap.size wr _ from (by repeat' (first | (with_reducible exact Below.refl _ _) | (with_reducible refine Below.alloc ?_ ?_ _) | (with_reducible refine Below.setCell ?_ ?_ _) | (with_reducible refine Below.drew ?_) | (with_reducible refine Below.trans ?_ (Below.mono (by with_reducible assumption) ?_)) | omega | (simp; done) | (simp; omega)))).mono hsr))) (by omega) hc1 HZ.out).mono ?_
        rintro e w8 ⟨rfl, hb8⟩
        have hs8 := hb8.size
        rw [hsh.2.1, hsh.2.2, hsh.1]
        have hb68 : Below w6.heap.size w6 w8 := hb.trans ((show Below wr.heap.size wr w8 from (by repeat' (first | (with_reducible exact Below.refl _ _) | (with_reducible refine Below.alloc ?_ ?_ _) | (with_reducible refine Below.setCell ?_ ?_ _) | (with_reducible refine Below.drew ?_) | (with_reducible refine Below.trans ?_ (Below.mono (by with_reducible assumption) ?_)) | omega | (simp; done) | (simp; omega)))).mono hsr)
        obtain ⟨b2, o2, hA2, hB2, d0⟩ := int_cell ((HO6.out.to hb68).rd ie_len) hly
        rw [htk] at d0
        subst hA2
        have hs68 := hb68.size
        go_wp2
        go_roundw
        case rel => exact ⟨k + 1, z - tk + q, by omega, by go_num, by rw [v3], Hz', hb68⟩
        case measure => simp [intOf]; omega
      · obtain rfl : k = xs.length := by omega
        have hI : ¬ ((xs.length : Nat) : Int) < xs.length := by omega
        have hz := Hz.out
        rw [HCNT.out] at hz
        obtain rfl : z = 0 := by omega
        have HBr : Hid (Below w.heap.size w wr) := Lib.hid (HB6.out.trans (hb.mono HB6.out.size))
        have hbr := HBr.out
        have hsz := hbr.size
        clear HX6 HO6 HX HCNT HEL HSH HFS HBD hz Hz hb
        go_wp2_with fail
        refine (dExactParts_any A n c _ (bwide HB.out (by repeat' (first | (with_reducible exact Below.refl _ _) | (with_reducible refine Below.alloc ?_ ?_ _) | (with_reducible refine Below.setCell ?_ ?_ _) | (with_reducible refine Below.drew ?_) | (with_reducible refine Below.trans ?_ (Below.mono (by with_reducible assumption) ?_)) | omega | (simp; done) | (simp; omega)))) hn).mono ?_
        rintro e w20 ⟨⟨A4, c4, ls, rfl, ho4, hc4, hl4, hz4⟩, hb20⟩
        have hs20 := hb20.size
        have HL := Lib.hid (ho4.rd Ow.enc_len)
        have HLZ := Lib.hid (hz4.more (show 100 ≤ 1048576 by omega))
        clear ho4 hz4
        go_wp2_with fail
        refine (iExactParts_any A4 c4 ls _ (HL.out.to (by repeat' (first | (with_reducible exact Below.refl _ _) | (with_reducible refine Below.alloc ?_ ?_ _) | (with_reducible refine Below.setCell ?_ ?_ _) | (with_reducible refine Below.drew ?_) | (with_reducible refine Below.trans ?_ (Below.mono (by with_reducible assumption) ?_)) | omega | (simp; done) | (simp; omega)))) (by omega) hc4 HLZ.out).mono ?_
        rintro e w21 ⟨rfl, hb21⟩
        have hs21 := hb21.size
        go_wp2_with fail
        refine (sExactParts_any A4 c4 ls _ (HL.out.to (by repeat' (first | (with_reducible exact Below.refl _ _) | (with_reducible refine Below.alloc ?_ ?_ _) | (with_reducible refine Below.setCell ?_ ?_ _) | (with_reducible refine Below.drew ?_) | (with_reducible refine Below.trans ?_ (Below.mono (by with_reducible assumption) ?_)) | omega | (simp; done) | (simp; omega)))) (by omega) HLZ.out).mono ?_
        rintro e w22 ⟨rfl, hb22⟩
        have hs22 := hb22.size
        cases hep : epB ls
        · go_wp2_with fail
          refine (iLeftTons_any A4 c4 ls (epV ls) _ (HL.out.to (by repeat' (first | (with_reducible exact Below.refl _ _) | (with_reducible refine Below.alloc ?_ ?_ _) | (with_reducible refine Below.setCell ?_ ?_ _) | (with_reducible refine Below.drew ?_) | (with_reducible refine Below.trans ?_ (Below.mono (by with_reducible assumption) ?_)) | omega | (simp; done) | (simp; omega)))) (by omega) hc4 HLZ.out).mono ?_
          rintro e w23 ⟨rfl, hb23⟩
          have hs23 := hb23.size
          go_wp2_with fail
          refine (dShareOf_any A n c _ (bwide HB.out (by repeat' (first | (with_reducible exact Below.refl _ _) | (with_reducible refine Below.alloc ?_ ?_ _) | (with_reducible refine Below.setCell ?_ ?_ _) | (with_reducible refine Below.drew ?_) | (with_reducible refine Below.trans ?_ (Below.mono (by with_reducible assumption) ?_)) | omega | (simp; done) | (simp; omega)))) hn).mono ?_
          rintro e w24 ⟨⟨A5, c5, us, s5, rfl, hs5z, ho5, hc5, hl5, hz5⟩, hb24⟩
          have hs24 := hb24.size
          have HU := Lib.hid (ho5.rd Ow.enc_len)
          have HUZ := Lib.hid (hz5.more (show 100 ≤ 1048576 by omega))
          clear ho5 hz5
          go_wp2_with fail
          refine (iShareOf_any A5 c5 us s5 _ (HU.out.to (by repeat' (first | (with_reducible exact Below.refl _ _) | (with_reducible refine Below.alloc ?_ ?_ _) | (with_reducible refine Below.setCell ?_ ?_ _) | (with_reducible refine Below.drew ?_) | (with_reducible refine Below.trans ?_ (Below.mono (by with_reducible assumption) ?_)) | omega | (simp; done) | (simp; omega)))) (by omega) hc5 HUZ.out).mono ?_
          rintro e w25 ⟨rfl, hb25⟩
          have hs25 := hb25.size
          go_wp2_with fail
          refine (sShareOf_any A5 c5 us s5 _ (HU.out.to (by repeat' (first | (with_reducible exact Below.refl _ _) | (with_reducible refine Below.alloc ?_ ?_ _) | (with_reducible refine Below.setCell ?_ ?_ _) | (with_reducible refine Below.drew ?_) | (with_reducible refine Below.trans ?_ (Below.mono (by with_reducible assumption) ?_)) | omega | (simp; done) | (simp; omega)))) (by omega) HUZ.out).mono ?_
          rintro e w26 ⟨rfl, hb26⟩
          have hs26 := hb26.size
          go_wp2
          go_ret
          exact ⟨rfl, (by repeat' (first | (with_reducible exact Below.refl _ _) | (with_reducible refine Below.alloc ?_ ?_ _) | (with_reducible refine Below.setCell ?_ ?_ _) | (with_reducible refine Below.drew ?_) | (with_reducible refine Below.trans ?_ (Below.mono (by with_reducible assumption) ?_)) | omega | (simp; done) | (simp; omega)))⟩
        · have hel := ep_left hep
          go_wp2_with fail
          refine (iLeftTons_any A4 c4 ls (epV ls) _ (HL.out.to (by repeat' (first | (with_reducible exact Below.refl _ _) | (with_reducible refine Below.alloc ?_ ?_ _) | (with_reducible refine Below.setCell ?_ ?_ _) | (with_reducible refine Below.drew ?_) | (with_reducible refine Below.trans ?_ (Below.mono (by with_reducible assumption) ?_)) | omega | (simp; done) | (simp; omega)))) (by omega) hc4 HLZ.out).mono ?_
          rintro e w23 ⟨rfl, hb23⟩
          have hs23 := hb23.size
          rw [hel.1, hel.2]
          go_wp2_with fail
          refine (dShareOf_any A n c _ (bwide HB.out (by repeat' (first | (with_reducible exact Below.refl _ _) | (with_reducible refine Below.alloc ?_ ?_ _) | (with_reducible refine Below.setCell ?_ ?_ _) | (with_reducible refine Below.drew ?_) | (with_reducible refine Below.trans ?_ (Below.mono (by with_reducible assumption) ?_)) | omega | (simp; done) | (simp; omega)))) hn).mono ?_
          rintro e w24 ⟨⟨A5, c5, us, s5, rfl, hs5z, ho5, hc5, hl5, hz5⟩, hb24⟩
          have hs24 := hb24.size
          have HU := Lib.hid (ho5.rd Ow.enc_len)
          have HUZ := Lib.hid (hz5.more (show 100 ≤ 1048576 by omega))
          clear ho5 hz5
          go_wp2_with fail
          refine (iShareOf_any A5 c5 us s5 _ (HU.out.to (by repeat' (first | (with_reducible exact Below.refl _ _) | (with_reducible refine Below.alloc ?_ ?_ _) | (with_reducible refine Below.setCell ?_ ?_ _) | (with_reducible refine Below.drew ?_) | (with_reducible refine Below.trans ?_ (Below.mono (by with_reducible assumption) ?_)) | omega | (simp; done) | (simp; omega)))) (by omega) hc5 HUZ.out).mono ?_
          rintro e w25 ⟨rfl, hb25⟩
          have hs25 := hb25.size
          go_wp2_with fail
          refine (sShareOf_any A5 c5 us s5 _ (HU.out.to (by repeat' (first | (with_reducible exact Below.refl _ _) | (with_reducible refine Below.alloc ?_ ?_ _) | (with_reducible refine Below.setCell ?_ ?_ _) | (with_reducible refine Below.drew ?_) | (with_reducible refine Below.trans ?_ (Below.mono (by with_reducible assumption) ?_)) | omega | (simp; done) | (simp; omega)))) (by omega) HUZ.out).mono ?_
          rintro e w26 ⟨rfl, hb26⟩
          have hs26 := hb26.size
          go_wp2
          go_ret
          exact ⟨rfl, (by repeat' (first | (with_reducible exact Below.refl _ _) | (with_reducible refine Below.alloc ?_ ?_ _) | (with_reducible refine Below.setCell ?_ ?_ _) | (with_reducible refine Below.drew ?_) | (with_reducible refine Below.trans ?_ (Below.mono (by with_reducible assumption) ?_)) | omega | (simp; done) | (simp; omega)))⟩
end Go.Proofs.YtimdnihadhbjpaaDoor
