/- The sum of some shares, compared with 1 (chapter 22). -/
import Derived.Test.YtimdnihadhbjpaaDoorLong
import Derived.Test.YtimdnihadhbjpaaDoorOwn
import Derived.Deep.Cut
import Derived.Lib.SliceRun
import Derived.Shelf.Abstract
set_option linter.unusedSimpArgs false
set_option linter.unusedVariables false
namespace Go.Proofs.YtimdnihadhbjpaaDoor
open Go.RowKit Go.Sort Go.Salt
attribute [local go_sem] cell_rg
/-- A slice that holds a long number. -/
def LongL (w : World) (u : Value) (v : Int) (L : Nat) : Prop :=
  ∃ g c ys, u = .slice (some ⟨g, 0, none⟩) (ys : List Int).length c ∧ ys.length ≤ L ∧ Rd w w.heap.size (some ⟨g, 0, none⟩) 1 ie ys ∧ limbs ys ∧ lv ys = v
theorem LongL.to {w w' : World} {u : Value} {v : Int} {L : Nat} (h : LongL w u v L) (hb : Below w.heap.size w w') : LongL w' u v L := by
  obtain ⟨g, c, ys, h1, h3, h4, h5, h6⟩ := h
  exact ⟨g, c, ys, h1, h3, h4.to hb, h5, h6⟩
theorem LongL.of_row {w : World} {g c : Nat} {z : Int} (h : Row w g 3 [.int .i64 z]) (h0 : 0 ≤ z) (h1 : z < 1000000) : LongL w (.slice (some ⟨g, 0, none⟩) 1 c) z 1 := by
  refine ⟨g, c, [z], rfl, Nat.le_refl _, ?_, fun x hx => by simp at hx; subst hx; exact ⟨h0, h1⟩, by simp [lv]⟩
  exact Row.rd (by simpa [ie] using h) ie_len h.lt
theorem LongL.mono {w : World} {u : Value} {v v' : Int} {L L' : Nat} (h : LongL w u v L) (hL : L ≤ L') (hv : v = v') : LongL w u v' L' := by
  subst hv
  obtain ⟨g, c, ys, h1, h3, h4⟩ := h
  exact ⟨g, c, ys, h1, by omega, h4⟩
theorem LongL.of_at {w w' : World} {v : Int} {n : Nat} {e : Ending} (h : LongAt w v n e w') : ∃ u, e = .returned u ∧ LongL w' u v n ∧ Below w.heap.size w w' := by
  obtain ⟨g, c, ys, rfl, rfl, h3, h4, h5, hb⟩ := h
  exact ⟨_, rfl, ⟨g, c, ys, rfl, Nat.le_refl _, h3, h4, h5⟩, hb⟩
theorem block_lt_of_rd {w : World} {g : Nat} {ys : List Int} (h : Rd w w.heap.size (some ⟨g, 0, none⟩) 1 ie ys) : 0 < ys.length → g < w.heap.size := fun hp => by
  obtain ⟨b, o, e, hb, _⟩ := h hp
  simp at e; omega
theorem row3o {w : World} {g : Nat} {E : TypeId} {x0 x1 x2 : Value} (h : Row w g E [x0, x1, x2]) : w.cell? ⟨g, 0, none⟩ = some x0 ∧ w.cell? ⟨g, 1, none⟩ = some x1 ∧ w.cell? ⟨g, 2, none⟩ = some x2 :=
  ⟨h.cell (j := 0) (by simp), h.cell (j := 1) (by simp), h.cell (j := 2) (by simp)⟩
theorem row_at_new (W : World) (E : TypeId) (arr : Array Value) (g : Nat) (h : W.heap.size = g) : Row (W.alloc (.cells arr E)) g E arr.toList := by subst h; exact Row.new W E arr
/-- Shares' numbers are within bounds. -/
def OwBd (xs : List Ow) : Prop := ∀ k, (1 ≤ (el xs k).n ∧ (el xs k).n ≤ 1000) ∧ 1 ≤ (el xs k).d ∧ (el xs k).d ≤ 1000
def nuO (xs : List Ow) (k : Nat) : Int := (el xs k).n
def deO (xs : List Ow) (k : Nat) : Int := (el xs k).d
set_option maxHeartbeats 400000 in
theorem allFn_any (i : Int) (w : World) : Calls Tryd.prog 66 #[.int .i64 i] w fun e w' => e = .returned (.bool true) ∧ Below w.heap.size w w' := by
  go_enter Tryd.func66, Tryd.ntmps66
  go_wp2
  go_ret
  exact ⟨rfl, Below.refl _ _⟩
set_option maxRecDepth 10000 in
set_option maxHeartbeats 8000000 in
theorem cmpAll_any (A : Option Addr) (c : Nat) (xs : List Ow) (w : World) (h : Rd w w.heap.size A 3 Ow.enc xs) (hx : xs.length ≤ 8) (hbd : OwBd xs) (p : Nat → Bool) (hp : ∀ k, p k = true) :
    Calls Tryd.prog 65 #[.slice A xs.length c, .func (.func 66) #[] #[], .int .i64 1] w fun e w' => e = .returned (.int .i64 (sgn (1 * sP p (nuO xs) (deO xs) xs.length - dP (deO xs) xs.length))) ∧ Below w.heap.size w w' := by
  have eg := enters_of Tryd.func66 (by kernel_rfl) rfl
  have HX := Lib.hid h
  have HD := Lib.hid hbd
  have HP := Lib.hid hp
  clear h hbd hp
  go_enter Tryd.func65, Tryd.ntmps65
  go_wp2
  go_loopw [7, 20] (fun v i wr => ∃ k : Nat, k ≤ xs.length ∧ i = .int .i64 k ∧ Hid (LongL wr v (dP (deO xs) k) (k + 1)) ∧ Hid (Row wr (w.heap.size + 1) 3 [.int .i64 0]) ∧ Below w.heap.size w wr) (fun _ i _ => xs.length - (intOf i).toNat)
  case atStart =>
    exact ⟨0, Nat.zero_le _, rfl, Lib.hid (LongL.of_row (g := w.heap.size) (c := 1) (z := 1) (by first | exact Row.new _ _ _ | exact (Row.new _ _ _).to (by repeat' (first | (with_reducible exact Below.refl _ _) | (with_reducible refine Below.alloc ?_ ?_ _) | (with_reducible refine Below.setCell ?_ ?_ _) | (with_reducible refine Below.drew ?_) | (with_reducible refine Below.trans ?_ (Below.mono (by with_reducible assumption) ?_)) | omega | (simp; done) | (simp; omega))) | exact row_at_new _ _ _ _ (by simp) | exact (row_at_new _ _ _ _ (by simp)).to (by repeat' (first | (with_reducible exact Below.refl _ _) | (with_reducible refine Below.alloc ?_ ?_ _) | (with_reducible refine Below.setCell ?_ ?_ _) | (with_reducible refine Below.drew ?_) | (with_reducible refine Below.trans ?_ (Below.mono (by with_reducible assumption) ?_)) | omega | (simp; done) | (simp; omega)))) (by omega) (by omega)), Lib.hid (by first | exact Row.new _ _ _ | exact (Row.new _ _ _).to (by repeat' (first | (with_reducible exact Below.refl _ _) | (with_reducible refine Below.alloc ?_ ?_ _) | (with_reducible refine Below.setCell ?_ ?_ _) | (with_reducible refine Below.drew ?_) | (with_reducible refine Below.trans ?_ (Below.mono (by with_reducible assumption) ?_)) | omega | (simp; done) | (simp; omega))) | exact row_at_new _ _ _ _ (by simp) | exact (row_at_new _ _ _ _ (by simp)).to (by repeat' (first | (with_reducible exact Below.refl _ _) | (with_reducible refine Below.alloc ?_ ?_ _) | (with_reducible refine Below.setCell ?_ ?_ _) | (with_reducible refine Below.drew ?_) | (with_reducible refine Below.trans ?_ (Below.mono (by with_reducible assumption) ?_)) | omega | (simp; done) | (simp; omega)))), (by repeat' (first | (with_reducible exact Below.refl _ _) | (with_reducible refine Below.alloc ?_ ?_ _) | (with_reducible refine Below.setCell ?_ ?_ _) | (with_reducible refine Below.drew ?_) | (with_reducible refine Below.trans ?_ (Below.mono (by with_reducible assumption) ?_)) | omega | (simp; done) | (simp; omega)))⟩
  case round =>
    obtain ⟨k, hk, rfl, hv, hr0, hb⟩ := hrel
    have hs := hb.size
    by_cases hlt : k < xs.length
    · obtain ⟨b, o, rfl, hB, c0, c1, c2⟩ := ow_cells (HX.out.below hb) hlt
      obtain ⟨g, cc, ys, rfl, hyl, hrd, hlim, hval⟩ := hv.out
      have hB1 : b < wr.heap.size := by omega
      have hI : (k : Int) < xs.length := by omega
      have hI0 : (0 : Int) ≤ k := by omega
      have hdk := HD.out k
      have hgs := block_lt_of_rd hrd
      clear hv
      replace hrd := Lib.hid hrd
      replace hlim := Lib.hid hlim
      go_wp2_with fail
      refine (times_any _ cc ys _ _ (hrd.out.to (by repeat' (first | (with_reducible exact Below.refl _ _) | (with_reducible refine Below.alloc ?_ ?_ _) | (with_reducible refine Below.setCell ?_ ?_ _) | (with_reducible refine Below.drew ?_) | (with_reducible refine Below.trans ?_ (Below.mono (by with_reducible assumption) ?_)) | omega | (simp; done) | (simp; omega)))) hlim.out (by omega) (by omega) (by omega)).mono ?_
      rintro e w1 hat
      obtain ⟨u, rfl, hu, hb1⟩ := LongL.of_at hat
      have hs1 := hb1.size
      (try simp at hs1)
      go_wp2
      go_roundw
      case rel => exact ⟨k + 1, by omega, by go_num, Lib.hid (hu.mono (by omega) (by rw [hval, dP, Int.mul_comm]; rfl)), Lib.hid (hr0.out.to (by repeat' (first | (with_reducible exact Below.refl _ _) | (with_reducible refine Below.alloc ?_ ?_ _) | (with_reducible refine Below.setCell ?_ ?_ _) | (with_reducible refine Below.drew ?_) | (with_reducible refine Below.trans ?_ (Below.mono (by with_reducible assumption) ?_)) | omega | (simp; done) | (simp; omega)))), (by repeat' (first | (with_reducible exact Below.refl _ _) | (with_reducible refine Below.alloc ?_ ?_ _) | (with_reducible refine Below.setCell ?_ ?_ _) | (with_reducible refine Below.drew ?_) | (with_reducible refine Below.trans ?_ (Below.mono (by with_reducible assumption) ?_)) | omega | (simp; done) | (simp; omega)))⟩
      case measure => simp [intOf]; omega
    · obtain rfl : k = xs.length := by omega
      have hI : ¬ ((xs.length : Nat) : Int) < xs.length := by omega
      go_wp2
      obtain ⟨wA, rfl⟩ : ∃ wA, wA = wr := ⟨_, rfl⟩
      have hsum0 : LongL wA (.slice (some ⟨w.heap.size + 1, 0, none⟩) 1 1) 0 1 := LongL.of_row hr0.out (by omega) (by omega)
      replace hsum0 := Lib.hid hsum0
      have HA := Lib.hid hb
      have HWh := hv
      clear hr0 hv hb
      go_loopw [8, 31] (fun v i W => ∃ k : Nat, k ≤ xs.length ∧ i = .int .i64 k ∧ Hid (LongL W v (fP p (nuO xs) (deO xs) xs.length k) (k + 10)) ∧ Below wA.heap.size wA W) (fun _ i _ => xs.length - (intOf i).toNat)
      case atStart => exact ⟨0, Nat.zero_le _, rfl, Lib.hid (hsum0.out.mono (by omega) rfl), Below.refl _ _⟩
      case round =>
        obtain ⟨k, hk, rfl, hv, hbA⟩ := hrel
        have hsA := hbA.size
        by_cases hlt : k < xs.length
        · obtain ⟨b, o, rfl, hB, c0, c1, c2⟩ := ow_cells ((HX.out.to HA.out).below hbA) hlt
          have hB1 : b < wr.heap.size := by omega
          have hI2 : (k : Int) < xs.length := by omega
          have hI0 : (0 : Int) ≤ k := by omega
          have hdk := HD.out k
          have hpk := HP.out k
          go_wp2_with fail
          refine (allFn_any _ _).mono ?_
          rintro e w1 ⟨rfl, hb1⟩
          have hs1 := hb1.size
          (try simp at hs1)
          have hbx : Row w1 wr.heap.size 54 [.string (el xs k).s, .int .i64 (el xs k).n, .int .i64 (el xs k).d] := (Row.new wr _ #[.string (el xs k).s, .int .i64 (el xs k).n, .int .i64 (el xs k).d]).to hb1
          obtain ⟨x0, x1, x2⟩ := row3o hbx
          have hbl := hbx.lt
          clear hbx
          go_wp2_with fail
          go_loopw [13, 45] (fun v j W => ∃ m : Nat, m ≤ xs.length ∧ j = .int .i64 m ∧ Hid (LongL W v ((el xs k).n * bP (deO xs) k m) (m + 1)) ∧ Below wr.heap.size wr W) (fun _ j _ => xs.length - (intOf j).toNat)
          case atStart => exact ⟨0, Nat.zero_le _, rfl, Lib.hid ((LongL.of_row (z := (el xs k).n) (by first | exact Row.new _ _ _ | exact (Row.new _ _ _).to (by repeat' (first | (with_reducible exact Below.refl _ _) | (with_reducible refine Below.alloc ?_ ?_ _) | (with_reducible refine Below.setCell ?_ ?_ _) | (with_reducible refine Below.drew ?_) | (with_reducible refine Below.trans ?_ (Below.mono (by with_reducible assumption) ?_)) | omega | (simp; done) | (simp; omega))) | exact row_at_new _ _ _ _ (by simp) | exact (row_at_new _ _ _ _ (by simp)).to (by repeat' (first | (with_reducible exact Below.refl _ _) | (with_reducible refine Below.alloc ?_ ?_ _) | (with_reducible refine Below.setCell ?_ ?_ _) | (with_reducible refine Below.drew ?_) | (with_reducible refine Below.trans ?_ (Below.mono (by with_reducible assumption) ?_)) | omega | (simp; done) | (simp; omega)))) (by omega) (by omega)).mono (by omega) (by rw [bP, Int.mul_one])), (by repeat' (first | (with_reducible exact Below.refl _ _) | (with_reducible refine Below.alloc ?_ ?_ _) | (with_reducible refine Below.setCell ?_ ?_ _) | (with_reducible refine Below.drew ?_) | (with_reducible refine Below.trans ?_ (Below.mono (by with_reducible assumption) ?_)) | omega | (simp; done) | (simp; omega)))⟩
          case round =>
            clear hb1 hs1 x0 x1 x2 hbl
            obtain ⟨wB, rfl⟩ : ∃ wB, wB = wr := ⟨_, rfl⟩
            obtain ⟨m, hm, rfl, hq, hbB⟩ := hrel
            have hsB := hbB.size
            by_cases hlm : m < xs.length
            · obtain ⟨b', o', hadr, hB', d0, d1, d2⟩ := ow_cells ((((HX.out.to HA.out).to hbA)).below hbB) hlm
              obtain ⟨rfl, rfl⟩ : b = b' ∧ o = o' := by simpa using hadr
              obtain ⟨g, cc, ys, rfl, hyl, hrd, hlim, hval⟩ := hq.out
              have hB1' : b < wr.heap.size := by omega
              have hJ : (m : Int) < xs.length := by omega
              have hJ0 : (0 : Int) ≤ m := by omega
              have hdm := HD.out m
              have hgs := block_lt_of_rd hrd
              clear hq c0 c1 c2
              replace hrd := Lib.hid hrd
              replace hlim := Lib.hid hlim
              replace hval := Lib.hid hval
              by_cases hmk : m = k
              · subst hmk
                go_wp2
                go_roundw
                case rel => exact ⟨m + 1, by omega, by go_num, Lib.hid (LongL.to ⟨g, cc, ys, rfl, by omega, hrd.out, hlim.out, by rw [hval.out, bP, if_pos rfl]⟩ (by repeat' (first | (with_reducible exact Below.refl _ _) | (with_reducible refine Below.alloc ?_ ?_ _) | (with_reducible refine Below.setCell ?_ ?_ _) | (with_reducible refine Below.drew ?_) | (with_reducible refine Below.trans ?_ (Below.mono (by with_reducible assumption) ?_)) | omega | (simp; done) | (simp; omega)))), (by repeat' (first | (with_reducible exact Below.refl _ _) | (with_reducible refine Below.alloc ?_ ?_ _) | (with_reducible refine Below.setCell ?_ ?_ _) | (with_reducible refine Below.drew ?_) | (with_reducible refine Below.trans ?_ (Below.mono (by with_reducible assumption) ?_)) | omega | (simp; done) | (simp; omega)))⟩
                case measure => simp [intOf] <;> omega
              · have hne : ¬ (m : Int) = k := by omega
                go_wp2_with fail
                refine (times_any _ cc ys _ _ (hrd.out.to (by repeat' (first | (with_reducible exact Below.refl _ _) | (with_reducible refine Below.alloc ?_ ?_ _) | (with_reducible refine Below.setCell ?_ ?_ _) | (with_reducible refine Below.drew ?_) | (with_reducible refine Below.trans ?_ (Below.mono (by with_reducible assumption) ?_)) | omega | (simp; done) | (simp; omega)))) hlim.out (by omega) (by omega) (by omega)).mono ?_
                rintro e w1 hat
                obtain ⟨u, rfl, hu, hb1⟩ := LongL.of_at hat
                have hs1 := hb1.size
                (try simp at hs1)
                go_wp2
                go_roundw
                case rel => exact ⟨m + 1, by omega, by go_num, Lib.hid (LongL.to (hu.mono (by omega) (by rw [hval.out, bP, if_neg hmk, Int.mul_comm, Int.mul_assoc]; rfl)) (by repeat' (first | (with_reducible exact Below.refl _ _) | (with_reducible refine Below.alloc ?_ ?_ _) | (with_reducible refine Below.setCell ?_ ?_ _) | (with_reducible refine Below.drew ?_) | (with_reducible refine Below.trans ?_ (Below.mono (by with_reducible assumption) ?_)) | omega | (simp; done) | (simp; omega)))), (by repeat' (first | (with_reducible exact Below.refl _ _) | (with_reducible refine Below.alloc ?_ ?_ _) | (with_reducible refine Below.setCell ?_ ?_ _) | (with_reducible refine Below.drew ?_) | (with_reducible refine Below.trans ?_ (Below.mono (by with_reducible assumption) ?_)) | omega | (simp; done) | (simp; omega)))⟩
                case measure => simp [intOf] <;> omega
            · obtain rfl : m = xs.length := by omega
              have hJ : ¬ ((xs.length : Nat) : Int) < xs.length := by omega
              obtain ⟨g, cc, ys, rfl, hyl, hrd, hlim, hval⟩ := hq.out
              obtain ⟨g', cc', zs, rfl, hzl, hrd', hlim', hval'⟩ := hv.out.to hbB
              have hgs := block_lt_of_rd hrd
              have hgs' := block_lt_of_rd hrd'
              clear hq hv c0 c1 c2
              replace hrd := Lib.hid hrd
              replace hlim := Lib.hid hlim
              replace hval := Lib.hid hval
              replace hrd' := Lib.hid hrd'
              replace hlim' := Lib.hid hlim'
              replace hval' := Lib.hid hval'
              go_wp2_with fail
              refine (plus_any _ _ cc' cc zs ys _ (hrd'.out.to (by repeat' (first | (with_reducible exact Below.refl _ _) | (with_reducible refine Below.alloc ?_ ?_ _) | (with_reducible refine Below.setCell ?_ ?_ _) | (with_reducible refine Below.drew ?_) | (with_reducible refine Below.trans ?_ (Below.mono (by with_reducible assumption) ?_)) | omega | (simp; done) | (simp; omega)))) (hrd.out.to (by repeat' (first | (with_reducible exact Below.refl _ _) | (with_reducible refine Below.alloc ?_ ?_ _) | (with_reducible refine Below.setCell ?_ ?_ _) | (with_reducible refine Below.drew ?_) | (with_reducible refine Below.trans ?_ (Below.mono (by with_reducible assumption) ?_)) | omega | (simp; done) | (simp; omega)))) hlim'.out hlim.out (by omega) (by omega)).mono ?_
              rintro e w1 hat
              obtain ⟨u, rfl, hu, hb1⟩ := LongL.of_at hat
              have hs1 := hb1.size
              (try simp at hs1)
              go_wp2
              go_roundw
              case rel => exact ⟨k + 1, by omega, by go_num, Lib.hid (LongL.to (hu.mono (by omega) (by rw [hval.out, hval'.out, fP, if_pos hpk]; rfl)) (by repeat' (first | (with_reducible exact Below.refl _ _) | (with_reducible refine Below.alloc ?_ ?_ _) | (with_reducible refine Below.setCell ?_ ?_ _) | (with_reducible refine Below.drew ?_) | (with_reducible refine Below.trans ?_ (Below.mono (by with_reducible assumption) ?_)) | omega | (simp; done) | (simp; omega)))), hbA.trans (Below.mono (hbB.trans (Below.mono (show Below wB.heap.size wB _ from (by repeat' (first | (with_reducible exact Below.refl _ _) | (with_reducible refine Below.alloc ?_ ?_ _) | (with_reducible refine Below.setCell ?_ ?_ _) | (with_reducible refine Below.drew ?_) | (with_reducible refine Below.trans ?_ (Below.mono (by with_reducible assumption) ?_)) | omega | (simp; done) | (simp; omega)))) hbB.size)) hbA.size)⟩
              case measure => simp [intOf] <;> omega
        · obtain rfl : k = xs.length := by omega
          obtain ⟨g, cc, ys, rfl, hyl, hrd, hlim, hval⟩ := hv.out
          obtain ⟨g', cc', zs, rfl, hzl, hrd', hlim', hval'⟩ := (HWh.out.to hbA)
          have hgs := block_lt_of_rd hrd
          have hgs' := block_lt_of_rd hrd'
          clear hv HWh
          replace hrd := Lib.hid hrd
          replace hlim := Lib.hid hlim
          replace hrd' := Lib.hid hrd'
          replace hlim' := Lib.hid hlim'
          replace hval := Lib.hid hval
          replace hval' := Lib.hid hval'
          go_wp2_with fail
          refine (times_any _ cc ys _ _ (hrd.out.to (by repeat' (first | (with_reducible exact Below.refl _ _) | (with_reducible refine Below.alloc ?_ ?_ _) | (with_reducible refine Below.setCell ?_ ?_ _) | (with_reducible refine Below.drew ?_) | (with_reducible refine Below.trans ?_ (Below.mono (by with_reducible assumption) ?_)) | omega | (simp; done) | (simp; omega)))) hlim.out (by omega) (by omega) (by omega)).mono ?_
          rintro e w1 hat
          obtain ⟨u, rfl, hu, hb1⟩ := LongL.of_at hat
          obtain ⟨g2, c2, us, rfl, hul, hrd2, hlim2, hval2⟩ := hu
          replace hval2 := Lib.hid hval2
          have hs1 := hb1.size
          (try simp at hs1)
          go_wp2_with fail
          refine (compareLong_any _ _ c2 cc' us zs _ (hrd2.to (by repeat' (first | (with_reducible exact Below.refl _ _) | (with_reducible refine Below.alloc ?_ ?_ _) | (with_reducible refine Below.setCell ?_ ?_ _) | (with_reducible refine Below.drew ?_) | (with_reducible refine Below.trans ?_ (Below.mono (by with_reducible assumption) ?_)) | omega | (simp; done) | (simp; omega)))) (hrd'.out.to (by repeat' (first | (with_reducible exact Below.refl _ _) | (with_reducible refine Below.alloc ?_ ?_ _) | (with_reducible refine Below.setCell ?_ ?_ _) | (with_reducible refine Below.drew ?_) | (with_reducible refine Below.trans ?_ (Below.mono (by with_reducible assumption) ?_)) | omega | (simp; done) | (simp; omega)))) hlim2 hlim'.out (by omega) (by omega)).mono ?_
          rintro e w2 ⟨rfl, hb2⟩
          have hs2 := hb2.size
          (try simp at hs2)
          have HE := Lib.hid (show sgn (lv us - lv zs) = sgn (1 * sP p (nuO xs) (deO xs) xs.length - dP (deO xs) xs.length) by rw [hval2.out, hval.out, hval'.out, fP_all])
          go_wp2
          go_ret
          exact ⟨by rw [HE.out]; rfl, HA.out.trans (Below.mono (show Below wA.heap.size wA _ from (by repeat' (first | (with_reducible exact Below.refl _ _) | (with_reducible refine Below.alloc ?_ ?_ _) | (with_reducible refine Below.setCell ?_ ?_ _) | (with_reducible refine Below.drew ?_) | (with_reducible refine Below.trans ?_ (Below.mono (by with_reducible assumption) ?_)) | omega | (simp; done) | (simp; omega)))) HA.out.size)⟩
end Go.Proofs.YtimdnihadhbjpaaDoor
