/- The sum of some shares, twice, compared with 1: a majority (chapter 22). -/
import Derived.Test.YtimdnihadhbjpaaDoorCmpS
import Derived.Test.YtimdnihadhbjpaaDoorMajSum
import Derived.Test.YtimdnihadhbjpaaDoorShelf
set_option linter.unusedSimpArgs false
set_option linter.unusedVariables false
namespace Go.Proofs.YtimdnihadhbjpaaDoor
open Go.RowKit Go.Sort Go.Salt
attribute [local go_sem] cell_rg
theorem own_keep {w w' : World} {B E k n : Nat} {v : Value} {cs : List Value} (h : w.ownsRow B E k v n cs) (hk : ∀ g, B ≤ g → g < w.heap.size → w'.heap[g]? = w.heap[g]?) : w'.ownsRow B E k v n cs := by
  refine ⟨h.1, ?_⟩
  rcases h.2 with h2 | ⟨g, cap, cur, hv, hB, hh, rest⟩
  · exact .inl h2
  · refine .inr ⟨g, cap, cur, hv, hB, (hk g hB ?_).trans hh, rest⟩
    rcases Nat.lt_or_ge g w.heap.size with hlt | hge
    · exact hlt
    · rw [Array.getElem?_eq_none hge] at hh; cases hh
theorem own_base {w : World} {B B' E k n : Nat} {v : Value} {cs : List Value} (h : w.ownsRow B E k v n cs) (hB : B' ≤ B) : w.ownsRow B' E k v n cs := by
  refine ⟨h.1, ?_⟩
  rcases h.2 with h2 | ⟨g, cap, cur, hv, hg, rest⟩
  · exact .inl h2
  · exact .inr ⟨g, cap, cur, hv, by omega, rest⟩
def nv (j : Nat) : Value := .int .i64 (j : Int)
/-- v holds the numbers ids, in a row of the call's own from block B on; it is nil just where there are none. -/
def NIds (w : World) (B : Nat) (v : Value) (ids : List Nat) : Prop := w.ownsRow B 3 1 v ids.length (ids.map nv) ∧ (v = .slice none 0 0 ↔ ids = [])
theorem NIds.below {w w' : World} {B : Nat} {v : Value} {ids : List Nat} (h : NIds w B v ids) (hb : Below w.heap.size w w') : NIds w' B v ids := ⟨own_keep h.1 fun g _ hl => hb.block g hl, h.2⟩
theorem NIds.grown {w w' : World} {B gb : Nat} {v : Value} {ids : List Nat} (h : NIds w B v ids) (hg : w.grownBy w' (some gb)) (hb : gb < B) : NIds w' B v ids :=
  ⟨own_keep h.1 fun g hB hl => hg.block g hl (by simp; omega), h.2⟩
theorem NIds.base {w : World} {B B' : Nat} {v : Value} {ids : List Nat} (h : NIds w B v ids) (hB : B' ≤ B) : NIds w B' v ids := ⟨own_base h.1 hB, h.2⟩
theorem NIds.nil (w : World) (B : Nat) : NIds w B (.slice none 0 0) [] := ⟨World.ownsRow_nil .., by simp⟩
theorem NIds.shape {w : World} {B : Nat} {v : Value} {ids : List Nat} (h : NIds w B v ids) : (v = .slice none 0 0 ∧ ids = []) ∨ ∃ g c, v = .slice (some ⟨g, 0, none⟩) ids.length c ∧ ids ≠ [] ∧ B ≤ g ∧ Row w g 3 (ids.map nv) := by
  rcases h.1.2 with h2 | ⟨g, cap, cur, hv, hB, hh, _, _, _, ht⟩
  · exact .inl ⟨h2.1, h.2.1 h2.1⟩
  · exact .inr ⟨g, cap, hv, (fun e => by have := h.2.2 e; rw [hv] at this; cases this), hB, cur, hh, by rw [h.1.1]; exact ht⟩
theorem nids_cells {w : World} {g : Nat} {ids : List Nat} (h : Row w g 3 (ids.map nv)) : ∀ j, j < (ids.map fun (j : Nat) => (j : Int)).length → w.cell? ⟨g, 0 + j, none⟩ = some (.int .i64 ((ids.map fun (j : Nat) => (j : Int)).getD j 0)) := fun j hj => by
  rw [List.length_map] at hj
  rw [Nat.zero_add, h.cell (j := j) (by simpa using hj), List.getElem_map, List.getD_eq_getElem?_getD, List.getElem?_eq_getElem (by simpa using hj), Option.getD_some, List.getElem_map]; rfl
theorem contains_int (ids : List Nat) (i : Nat) : (ids.map fun (j : Nat) => (j : Int)).contains (i : Int) = ids.contains i := by
  induction ids with
  | nil => rfl
  | cons a ids ih =>
    rw [List.map_cons, List.contains_cons, List.contains_cons, ih]
    congr 1
    by_cases e : i = a
    · subst e; simp
    · rw [beq_eq_false_iff_ne.2 e]; simpa using (by omega : ¬ (i : Int) = a)
set_option maxHeartbeats 1000000 in
theorem majFn_any (ids : List Nat) (i : Nat) (v : Value) (g B : Nat) (w : World) (hg : Row w g 38 [v]) (hv : NIds w B v ids) (hl : ids.length ≤ 8) :
    Calls Tryd.prog 77 #[.int .i64 i, .pointer (some ⟨g, 0, none⟩)] w fun e w' => e = .returned (.bool (ids.contains i)) ∧ Below w.heap.size w w' := by
  have hc := hg.cell (j := 0) (by simp)
  simp only [List.getElem_cons_zero] at hc
  have hgl := hg.lt
  rcases hv.shape with ⟨rfl, rfl⟩ | ⟨b, c, rfl, hne, hB, hrow⟩
  · go_enter Tryd.func77, Tryd.ntmps77
    go_wp2_with fail
    refine (Tryd.slices_Contains_int_empty none 0 _ _).mono ?_
    rintro e w1 ⟨rfl, rfl⟩
    go_wp2
    go_ret
    exact ⟨rfl, (by repeat' (first | (with_reducible exact Below.refl _ _) | (with_reducible refine Below.alloc ?_ ?_ _) | (with_reducible refine Below.setCell ?_ ?_ _) | (with_reducible refine Below.drew ?_) | (with_reducible refine Below.trans ?_ (Below.mono (by with_reducible assumption) ?_)) | omega | (simp; done) | (simp; omega)))⟩
  · have hcall := Tryd.slices_Contains_int b 0 ids.length c (ids.map fun (j : Nat) => (j : Int)) i w (by simp) (by omega) (nids_cells hrow)
    rw [List.take_of_length_le (by simp), contains_int] at hcall
    clear hv hrow
    go_enter Tryd.func77, Tryd.ntmps77
    go_wp2_with fail
    refine hcall.mono ?_
    rintro e w1 ⟨rfl, rfl⟩
    go_wp2
    go_ret
    exact ⟨by simp, (by repeat' (first | (with_reducible exact Below.refl _ _) | (with_reducible refine Below.alloc ?_ ?_ _) | (with_reducible refine Below.setCell ?_ ?_ _) | (with_reducible refine Below.drew ?_) | (with_reducible refine Below.trans ?_ (Below.mono (by with_reducible assumption) ?_)) | omega | (simp; done) | (simp; omega)))⟩
set_option maxRecDepth 10000 in
set_option maxHeartbeats 8000000 in
theorem cmpMaj_any (A : Option Addr) (c : Nat) (xs : List Ow) (ids : List Nat) (v : Value) (g0 B : Nat) (w : World) (h : Rd w w.heap.size A 3 Ow.enc xs) (hx : xs.length ≤ 8) (hbd : OwBd xs) (hg : Row w g0 38 [v]) (hv : NIds w B v ids) (hl : ids.length ≤ 8) :
    Calls Tryd.prog 65 #[.slice A xs.length c, .func (.func 77) #[] #[.pointer (some ⟨g0, 0, none⟩)], .int .i64 2] w fun e w' => e = .returned (.int .i64 (sgn (2 * sP (fun j => ids.contains j) (nuO xs) (deO xs) xs.length - dP (deO xs) xs.length))) ∧ Below w.heap.size w w' := by
  have eg := enters_of Tryd.func77 (by kernel_rfl) rfl
  have HF : Hid (∀ (k : Nat) (W : World), Below w.heap.size w W → Calls Tryd.prog 77 #[.int .i64 k, .pointer (some ⟨g0, 0, none⟩)] W fun e w' => e = .returned (.bool (ids.contains k)) ∧ Below W.heap.size W w') := Lib.hid fun k W hb => majFn_any ids k v g0 B W (hg.to hb) (hv.below hb) hl
  clear hg hv
  obtain ⟨p, hp⟩ : ∃ p : Nat → Bool, (fun j => ids.contains j) = p := ⟨_, rfl⟩
  have hpk' : ∀ j, ids.contains j = p j := fun j => by rw [← hp]
  simp only [hpk'] at HF
  rw [hp]
  clear hp hpk'
  have HX := Lib.hid h
  have HD := Lib.hid hbd
  clear h hbd
  go_enter Tryd.func65, Tryd.ntmps65
  go_wp2
  go_loopw [7, 20] (fun v i wr => ∃ k : Nat, k ≤ xs.length ∧ i = .int .i64 k ∧ Hid (LongL wr v (dP (deO xs) k) (k + 1)) ∧ Hid (Row wr (w.heap.size + 1) 3 [.int .i64 0]) ∧ Below w.heap.size w wr) (fun _ i _ => xs.length - (intOf i).toNat)
  case atStart =>
    exact ⟨0, Nat.zero_le _, rfl, Lib.hid (LongL.of_row (g := w.heap.size) (c := 1) (z := 1) (by first | exact Row.new _ _ _ | exact (Row.new _ _ _).to (by repeat' (first | (with_reducible exact Below.refl _ _) | (with_reducible refine Below.alloc ?_ ?_ _) | (with_reducible refine Below.setCell ?_ ?_ _) | (with_reducible refine Below.drew ?_) | (with_reducible refine Below.trans ?_ (Below.mono (by with_reducible assumption) ?_)) | omega | (simp; done) | (simp; omega))) | exact row_at_new _ _ _ _ (by simp) | exact (row_at_new _ _ _ _ (by simp)).to (by repeat' (first | (with_reducible exact Below.refl _ _) | (with_reducible refine Below.alloc ?_ ?_ _) | (with_reducible refine Below.setCell ?_ ?_ _) | (with_reducible refine Below.drew ?_) | (with_reducible refine Below.trans ?_ (Below.mono (by with_reducible assumption) ?_)) | omega | (simp; done) | (simp; omega)))) (by omega) (by omega)), Lib.hid (by first | exact Row.new _ _ _ | exact (Row.new _ _ _).to (by repeat' (first | (with_reducible exact Below.refl _ _) | (with_reducible refine Below.alloc ?_ ?_ _) | (with_reducible refine Below.setCell ?_ ?_ _) | (with_reducible refine Below.drew ?_) | (with_reducible refine Below.trans ?_ (Below.mono (by with_reducible assumption) ?_)) | omega | (simp; done) | (simp; omega))) | exact row_at_new _ _ _ _ (by simp) | exact (row_at_new _ _ _ _ (by simp)).to (by repeat' (first | (with_reducible exact Below.refl _ _) | (with_reducible refine Below.alloc ?_ ?_ _) | (with_reducible refine Below.setCell ?_ ?_ _) | (with_reducible refine Below.drew ?_) | (with_reducible refine Below.trans ?_ (Below.mono (by with_reducible assumption) ?_)) | omega | (simp; done) | (simp; omega)))), (by repeat' (first | (with_reducible exact Below.refl _ _) | (with_reducible refine Below.alloc ?_ ?_ _) | (with_reducible refine Below.setCell ?_ ?_ _) | (with_reducible refine Below.drew ?_) | (with_reducible refine Below.trans ?_ (Below.mono (by with_reducible assumption) ?_)) | omega | (simp; done) | (simp; omega)))⟩
  case round =>
    obtain ⟨k, hk, rfl, hv, hr0, hb⟩ := hrel
    have hs := hb.size
    by_cases hlt : k < xs.length
    · obtain ⟨b, o, rfl, hB, c0, c1, c2⟩ := ow_cells (HX.out.below hb) hlt
      obtain ⟨g, cc, ys, rfl, hyl, hrd, hlim, hval⟩ := hv.out
      have hB1 : b < wr.heap.size := by omega
      have hI : (k : Int) < xs.length := by omega
      have hI0 : (0 : Int) ≤ k := by omega
      have hdk := HD.out k
      have hgs := block_lt_of_rd hrd
      clear hv
      replace hrd := Lib.hid hrd
      replace hlim := Lib.hid hlim
      go_wp2_with fail
      refine (times_any _ cc ys _ _ (hrd.out.to (by repeat' (first | (with_reducible exact Below.refl _ _) | (with_reducible refine Below.alloc ?_ ?_ _) | (with_reducible refine Below.setCell ?_ ?_ _) | (with_reducible refine Below.drew ?_) | (with_reducible refine Below.trans ?_ (Below.mono (by with_reducible assumption) ?_)) | omega | (simp; done) | (simp; omega)))) hlim.out (by omega) (by omega) (by omega)).mono ?_
      rintro e w1 hat
      obtain ⟨u, rfl, hu, hb1⟩ := LongL.of_at hat
      have hs1 := hb1.size
      (try simp at hs1)
      go_wp2
      go_roundw
      case rel => exact ⟨k + 1, by omega, by go_num, Lib.hid (hu.mono (by omega) (by rw [hval, dP, Int.mul_comm]; rfl)), Lib.hid (hr0.out.to (by repeat' (first | (with_reducible exact Below.refl _ _) | (with_reducible refine Below.alloc ?_ ?_ _) | (with_reducible refine Below.setCell ?_ ?_ _) | (with_reducible refine Below.drew ?_) | (with_reducible refine Below.trans ?_ (Below.mono (by with_reducible assumption) ?_)) | omega | (simp; done) | (simp; omega)))), (by repeat' (first | (with_reducible exact Below.refl _ _) | (with_reducible refine Below.alloc ?_ ?_ _) | (with_reducible refine Below.setCell ?_ ?_ _) | (with_reducible refine Below.drew ?_) | (with_reducible refine Below.trans ?_ (Below.mono (by with_reducible assumption) ?_)) | omega | (simp; done) | (simp; omega)))⟩
      case measure => simp [intOf]; omega
    · obtain rfl : k = xs.length := by omega
      have hI : ¬ ((xs.length : Nat) : Int) < xs.length := by omega
      go_wp2
      obtain ⟨wA, rfl⟩ : ∃ wA, wA = wr := ⟨_, rfl⟩
      have hsum0 : LongL wA (.slice (some ⟨w.heap.size + 1, 0, none⟩) 1 1) 0 1 := LongL.of_row hr0.out (by omega) (by omega)
      replace hsum0 := Lib.hid hsum0
      have HA := Lib.hid hb
      have HWh := hv
      clear hr0 hv hb
      go_loopw [8, 31] (fun v i W => ∃ k : Nat, k ≤ xs.length ∧ i = .int .i64 k ∧ Hid (LongL W v (fP p (nuO xs) (deO xs) xs.length k) (k + 10)) ∧ Below wA.heap.size wA W) (fun _ i _ => xs.length - (intOf i).toNat)
      case atStart => exact ⟨0, Nat.zero_le _, rfl, Lib.hid (hsum0.out.mono (by omega) rfl), Below.refl _ _⟩
      case round =>
        obtain ⟨k, hk, rfl, hv, hbA⟩ := hrel
        have hsA := hbA.size
        by_cases hlt : k < xs.length
        · obtain ⟨b, o, rfl, hB, c0, c1, c2⟩ := ow_cells ((HX.out.to HA.out).below hbA) hlt
          have hB1 : b < wr.heap.size := by omega
          have hI2 : (k : Int) < xs.length := by omega
          have hI0 : (0 : Int) ≤ k := by omega
          have hdk := HD.out k
          have hbF : Below w.heap.size w wr := HA.out.trans (Below.mono hbA HA.out.size)
          have hF := HF.out k
          have HFk := Lib.hid hF
          clear hF
          cases hpk : p k
          · rw [hpk] at HFk
            go_wp2_with fail
            refine (HFk.out _ (by repeat' (first | (with_reducible exact Below.refl _ _) | (with_reducible refine Below.alloc ?_ ?_ _) | (with_reducible refine Below.setCell ?_ ?_ _) | (with_reducible refine Below.drew ?_) | (with_reducible refine Below.trans ?_ (Below.mono (by with_reducible assumption) ?_)) | omega | (simp; done) | (simp; omega)))).mono ?_
            rintro e w1 ⟨rfl, hb1⟩
            have hs1 := hb1.size
            (try simp at hs1)
            have HV := hv.out.to (show Below wr.heap.size wr w1 from (by repeat' (first | (with_reducible exact Below.refl _ _) | (with_reducible refine Below.alloc ?_ ?_ _) | (with_reducible refine Below.setCell ?_ ?_ _) | (with_reducible refine Below.drew ?_) | (with_reducible refine Below.trans ?_ (Below.mono (by with_reducible assumption) ?_)) | omega | (simp; done) | (simp; omega))))
            replace HV := Lib.hid HV
            clear hv
            go_wp2
            go_roundw
            case rel => exact ⟨k + 1, by omega, by go_num, Lib.hid ((HV.out.to (by repeat' (first | (with_reducible exact Below.refl _ _) | (with_reducible refine Below.alloc ?_ ?_ _) | (with_reducible refine Below.setCell ?_ ?_ _) | (with_reducible refine Below.drew ?_) | (with_reducible refine Below.trans ?_ (Below.mono (by with_reducible assumption) ?_)) | omega | (simp; done) | (simp; omega)))).mono (by omega) (by rw [fP, hpk]; simp)), hbA.trans (Below.mono (show Below wr.heap.size wr _ from (by repeat' (first | (with_reducible exact Below.refl _ _) | (with_reducible refine Below.alloc ?_ ?_ _) | (with_reducible refine Below.setCell ?_ ?_ _) | (with_reducible refine Below.drew ?_) | (with_reducible refine Below.trans ?_ (Below.mono (by with_reducible assumption) ?_)) | omega | (simp; done) | (simp; omega)))) hbA.size)⟩
            case measure => simp [intOf] <;> omega
          rw [hpk] at HFk
          go_wp2_with fail
          refine (HFk.out _ (by repeat' (first | (with_reducible exact Below.refl _ _) | (with_reducible refine Below.alloc ?_ ?_ _) | (with_reducible refine Below.setCell ?_ ?_ _) | (with_reducible refine Below.drew ?_) | (with_reducible refine Below.trans ?_ (Below.mono (by with_reducible assumption) ?_)) | omega | (simp; done) | (simp; omega)))).mono ?_
          rintro e w1 ⟨rfl, hb1⟩
          have hs1 := hb1.size
          (try simp at hs1)
          have hbx : Row w1 wr.heap.size 54 [.string (el xs k).s, .int .i64 (el xs k).n, .int .i64 (el xs k).d] := (Row.new wr _ #[.string (el xs k).s, .int .i64 (el xs k).n, .int .i64 (el xs k).d]).to hb1
          obtain ⟨x0, x1, x2⟩ := row3o hbx
          have hbl := hbx.lt
          clear hbx
          go_wp2_with fail
          go_loopw [13, 45] (fun v j W => ∃ m : Nat, m ≤ xs.length ∧ j = .int .i64 m ∧ Hid (LongL W v ((el xs k).n * bP (deO xs) k m) (m + 1)) ∧ Below wr.heap.size wr W) (fun _ j _ => xs.length - (intOf j).toNat)
          case atStart => exact ⟨0, Nat.zero_le _, rfl, Lib.hid ((LongL.of_row (z := (el xs k).n) (by first | exact Row.new _ _ _ | exact (Row.new _ _ _).to (by repeat' (first | (with_reducible exact Below.refl _ _) | (with_reducible refine Below.alloc ?_ ?_ _) | (with_reducible refine Below.setCell ?_ ?_ _) | (with_reducible refine Below.drew ?_) | (with_reducible refine Below.trans ?_ (Below.mono (by with_reducible assumption) ?_)) | omega | (simp; done) | (simp; omega))) | exact row_at_new _ _ _ _ (by simp) | exact (row_at_new _ _ _ _ (by simp)).to (by repeat' (first | (with_reducible exact Below.refl _ _) | (with_reducible refine Below.alloc ?_ ?_ _) | (with_reducible refine Below.setCell ?_ ?_ _) | (with_reducible refine Below.drew ?_) | (with_reducible refine Below.trans ?_ (Below.mono (by with_reducible assumption) ?_)) | omega | (simp; done) | (simp; omega)))) (by omega) (by omega)).mono (by omega) (by rw [bP, Int.mul_one])), (by repeat' (first | (with_reducible exact Below.refl _ _) | (with_reducible refine Below.alloc ?_ ?_ _) | (with_reducible refine Below.setCell ?_ ?_ _) | (with_reducible refine Below.drew ?_) | (with_reducible refine Below.trans ?_ (Below.mono (by with_reducible assumption) ?_)) | omega | (simp; done) | (simp; omega)))⟩
          case round =>
            clear hb1 hs1 x0 x1 x2 hbl
            obtain ⟨wB, rfl⟩ : ∃ wB, wB = wr := ⟨_, rfl⟩
            obtain ⟨m, hm, rfl, hq, hbB⟩ := hrel
            have hsB := hbB.size
            by_cases hlm : m < xs.length
            · obtain ⟨b', o', hadr, hB', d0, d1, d2⟩ := ow_cells ((((HX.out.to HA.out).to hbA)).below hbB) hlm
              obtain ⟨rfl, rfl⟩ : b = b' ∧ o = o' := by simpa using hadr
              obtain ⟨g, cc, ys, rfl, hyl, hrd, hlim, hval⟩ := hq.out
              have hB1' : b < wr.heap.size := by omega
              have hJ : (m : Int) < xs.length := by omega
              have hJ0 : (0 : Int) ≤ m := by omega
              have hdm := HD.out m
              have hgs := block_lt_of_rd hrd
              clear hq c0 c1 c2
              replace hrd := Lib.hid hrd
              replace hlim := Lib.hid hlim
              replace hval := Lib.hid hval
              by_cases hmk : m = k
              · subst hmk
                go_wp2
                go_roundw
                case rel => exact ⟨m + 1, by omega, by go_num, Lib.hid (LongL.to ⟨g, cc, ys, rfl, by omega, hrd.out, hlim.out, by rw [hval.out, bP, if_pos rfl]⟩ (by repeat' (first | (with_reducible exact Below.refl _ _) | (with_reducible refine Below.alloc ?_ ?_ _) | (with_reducible refine Below.setCell ?_ ?_ _) | (with_reducible refine Below.drew ?_) | (with_reducible refine Below.trans ?_ (Below.mono (by with_reducible assumption) ?_)) | omega | (simp; done) | (simp; omega)))), (by repeat' (first | (with_reducible exact Below.refl _ _) | (with_reducible refine Below.alloc ?_ ?_ _) | (with_reducible refine Below.setCell ?_ ?_ _) | (with_reducible refine Below.drew ?_) | (with_reducible refine Below.trans ?_ (Below.mono (by with_reducible assumption) ?_)) | omega | (simp; done) | (simp; omega)))⟩
                case measure => simp [intOf] <;> omega
              · have hne : ¬ (m : Int) = k := by omega
                go_wp2_with fail
                refine (times_any _ cc ys _ _ (hrd.out.to (by repeat' (first | (with_reducible exact Below.refl _ _) | (with_reducible refine Below.alloc ?_ ?_ _) | (with_reducible refine Below.setCell ?_ ?_ _) | (with_reducible refine Below.drew ?_) | (with_reducible refine Below.trans ?_ (Below.mono (by with_reducible assumption) ?_)) | omega | (simp; done) | (simp; omega)))) hlim.out (by omega) (by omega) (by omega)).mono ?_
                rintro e w1 hat
                obtain ⟨u, rfl, hu, hb1⟩ := LongL.of_at hat
                have hs1 := hb1.size
                (try simp at hs1)
                go_wp2
                go_roundw
                case rel => exact ⟨m + 1, by omega, by go_num, Lib.hid (LongL.to (hu.mono (by omega) (by rw [hval.out, bP, if_neg hmk, Int.mul_comm, Int.mul_assoc]; rfl)) (by repeat' (first | (with_reducible exact Below.refl _ _) | (with_reducible refine Below.alloc ?_ ?_ _) | (with_reducible refine Below.setCell ?_ ?_ _) | (with_reducible refine Below.drew ?_) | (with_reducible refine Below.trans ?_ (Below.mono (by with_reducible assumption) ?_)) | omega | (simp; done) | (simp; omega)))), (by repeat' (first | (with_reducible exact Below.refl _ _) | (with_reducible refine Below.alloc ?_ ?_ _) | (with_reducible refine Below.setCell ?_ ?_ _) | (with_reducible refine Below.drew ?_) | (with_reducible refine Below.trans ?_ (Below.mono (by with_reducible assumption) ?_)) | omega | (simp; done) | (simp; omega)))⟩
                case measure => simp [intOf] <;> omega
            · obtain rfl : m = xs.length := by omega
              have hJ : ¬ ((xs.length : Nat) : Int) < xs.length := by omega
              obtain ⟨g, cc, ys, rfl, hyl, hrd, hlim, hval⟩ := hq.out
              obtain ⟨g', cc', zs, rfl, hzl, hrd', hlim', hval'⟩ := hv.out.to hbB
              have hgs := block_lt_of_rd hrd
              have hgs' := block_lt_of_rd hrd'
              clear hq hv c0 c1 c2
              replace hrd := Lib.hid hrd
              replace hlim := Lib.hid hlim
              replace hval := Lib.hid hval
              replace hrd' := Lib.hid hrd'
              replace hlim' := Lib.hid hlim'
              replace hval' := Lib.hid hval'
              go_wp2_with fail
              refine (plus_any _ _ cc' cc zs ys _ (hrd'.out.to (by repeat' (first | (with_reducible exact Below.refl _ _) | (with_reducible refine Below.alloc ?_ ?_ _) | (with_reducible refine Below.setCell ?_ ?_ _) | (with_reducible refine Below.drew ?_) | (with_reducible refine Below.trans ?_ (Below.mono (by with_reducible assumption) ?_)) | omega | (simp; done) | (simp; omega)))) (hrd.out.to (by repeat' (first | (with_reducible exact Below.refl _ _) | (with_reducible refine Below.alloc ?_ ?_ _) | (with_reducible refine Below.setCell ?_ ?_ _) | (with_reducible refine Below.drew ?_) | (with_reducible refine Below.trans ?_ (Below.mono (by with_reducible assumption) ?_)) | omega | (simp; done) | (simp; omega)))) hlim'.out hlim.out (by omega) (by omega)).mono ?_
              rintro e w1 hat
              obtain ⟨u, rfl, hu, hb1⟩ := LongL.of_at hat
              have hs1 := hb1.size
              (try simp at hs1)
              go_wp2
              go_roundw
              case rel => exact ⟨k + 1, by omega, by go_num, Lib.hid (LongL.to (hu.mono (by omega) (by rw [hval.out, hval'.out, fP, if_pos hpk]; rfl)) (by repeat' (first | (with_reducible exact Below.refl _ _) | (with_reducible refine Below.alloc ?_ ?_ _) | (with_reducible refine Below.setCell ?_ ?_ _) | (with_reducible refine Below.drew ?_) | (with_reducible refine Below.trans ?_ (Below.mono (by with_reducible assumption) ?_)) | omega | (simp; done) | (simp; omega)))), hbA.trans (Below.mono (hbB.trans (Below.mono (show Below wB.heap.size wB _ from (by repeat' (first | (with_reducible exact Below.refl _ _) | (with_reducible refine Below.alloc ?_ ?_ _) | (with_reducible refine Below.setCell ?_ ?_ _) | (with_reducible refine Below.drew ?_) | (with_reducible refine Below.trans ?_ (Below.mono (by with_reducible assumption) ?_)) | omega | (simp; done) | (simp; omega)))) hbB.size)) hbA.size)⟩
              case measure => simp [intOf] <;> omega
        · obtain rfl : k = xs.length := by omega
          obtain ⟨g, cc, ys, rfl, hyl, hrd, hlim, hval⟩ := hv.out
          obtain ⟨g', cc', zs, rfl, hzl, hrd', hlim', hval'⟩ := (HWh.out.to hbA)
          have hgs := block_lt_of_rd hrd
          have hgs' := block_lt_of_rd hrd'
          clear hv HWh
          replace hrd := Lib.hid hrd
          replace hlim := Lib.hid hlim
          replace hrd' := Lib.hid hrd'
          replace hlim' := Lib.hid hlim'
          replace hval := Lib.hid hval
          replace hval' := Lib.hid hval'
          go_wp2_with fail
          refine (times_any _ cc ys _ _ (hrd.out.to (by repeat' (first | (with_reducible exact Below.refl _ _) | (with_reducible refine Below.alloc ?_ ?_ _) | (with_reducible refine Below.setCell ?_ ?_ _) | (with_reducible refine Below.drew ?_) | (with_reducible refine Below.trans ?_ (Below.mono (by with_reducible assumption) ?_)) | omega | (simp; done) | (simp; omega)))) hlim.out (by omega) (by omega) (by omega)).mono ?_
          rintro e w1 hat
          obtain ⟨u, rfl, hu, hb1⟩ := LongL.of_at hat
          obtain ⟨g2, c2, us, rfl, hul, hrd2, hlim2, hval2⟩ := hu
          replace hval2 := Lib.hid hval2
          have hs1 := hb1.size
          (try simp at hs1)
          go_wp2_with fail
          refine (compareLong_any _ _ c2 cc' us zs _ (hrd2.to (by repeat' (first | (with_reducible exact Below.refl _ _) | (with_reducible refine Below.alloc ?_ ?_ _) | (with_reducible refine Below.setCell ?_ ?_ _) | (with_reducible refine Below.drew ?_) | (with_reducible refine Below.trans ?_ (Below.mono (by with_reducible assumption) ?_)) | omega | (simp; done) | (simp; omega)))) (hrd'.out.to (by repeat' (first | (with_reducible exact Below.refl _ _) | (with_reducible refine Below.alloc ?_ ?_ _) | (with_reducible refine Below.setCell ?_ ?_ _) | (with_reducible refine Below.drew ?_) | (with_reducible refine Below.trans ?_ (Below.mono (by with_reducible assumption) ?_)) | omega | (simp; done) | (simp; omega)))) hlim2 hlim'.out (by omega) (by omega)).mono ?_
          rintro e w2 ⟨rfl, hb2⟩
          have hs2 := hb2.size
          (try simp at hs2)
          have HE := Lib.hid (show sgn (lv us - lv zs) = sgn (2 * sP p (nuO xs) (deO xs) xs.length - dP (deO xs) xs.length) by rw [hval2.out, hval.out, hval'.out, fP_all])
          go_wp2
          go_ret
          exact ⟨by rw [HE.out]; rfl, HA.out.trans (Below.mono (show Below wA.heap.size wA _ from (by repeat' (first | (with_reducible exact Below.refl _ _) | (with_reducible refine Below.alloc ?_ ?_ _) | (with_reducible refine Below.setCell ?_ ?_ _) | (with_reducible refine Below.drew ?_) | (with_reducible refine Below.trans ?_ (Below.mono (by with_reducible assumption) ?_)) | omega | (simp; done) | (simp; omega)))) HA.out.size)⟩
end Go.Proofs.YtimdnihadhbjpaaDoor
