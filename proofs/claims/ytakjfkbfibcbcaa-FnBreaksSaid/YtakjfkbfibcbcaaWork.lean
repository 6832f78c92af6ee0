/- Contracts: how many workers go to each break (chapter 23). -/
import Derived.Test.YtakjfkbfibcbcaaOrder
import Derived.Laws.MakeOwn
set_option linter.unusedSimpArgs false
set_option linter.unusedVariables false
namespace Go.Proofs.Ytakjfkbfibcbcaa
open Go.RowKit Go.Sort Go.Salt
attribute [local go_sem] cell_rg
attribute [local go_sem ↓] run_max_mx run_min_mn
theorem madeCells_one (z : Value) (n : Nat) : (madeCells #[z] n).toList = List.replicate n z := by
  apply List.ext_getElem
  · simp [madeCells]
  · intro i h1 h2
    simp [madeCells, Nat.mod_one]
def intVals (l : List Int) : List Value := l.map (Value.int .i64)
theorem intVals_len (l : List Int) : (intVals l).length = l.length := by simp [intVals]
theorem intVals_cell {w : World} {g : Nat} {E : TypeId} {l : List Int} (h : Row w g E (intVals l)) {j : Nat} (hj : j < l.length) : w.cell? ⟨g, j, none⟩ = some (.int .i64 (el l j)) := by
  have := h.cell (j := j) (by rw [intVals_len]; exact hj)
  rw [this]; simp [intVals, el, hj]
theorem intVals_set (l : List Int) (j : Nat) (z : Int) : (intVals l).set j (.int .i64 z) = intVals (l.set j z) := by simp [intVals, List.map_set]
theorem el_set (l : List Int) {i : Nat} (h : i < l.length) (z : Int) : el (l.set i z) i = z := by simp [el, h]
theorem cut_calls {P : Program} {f : FuncId} {args : Array Value} {W : World} {post : Ending → World → Prop} (R : World → Prop) (h1 : R W) (h2 : ∀ W, R W → Calls P f args W post) : Calls P f args W post := h2 W h1
/-- What a break is like. -/
def Ok6 (x : Brk) : Prop := 0 ≤ x.d ∧ x.d ≤ x.m ∧ x.m ≤ 60 ∧ 1 ≤ x.g ∧ x.g ≤ 3
def wkQ (x : Brk) : Int := (x.m - x.d + 4 - 1) / 4
theorem wkQ_bd {x : Brk} (h : Ok6 x) : 0 ≤ wkQ x ∧ wkQ x ≤ 15 := by unfold Ok6 at h; unfold wkQ; omega
def wkSt (xs : List Brk) (os : List Nat) (W : Int) : Nat → List Int × Int
  | 0 => (List.replicate xs.length 0, W)
  | t + 1 => ((wkSt xs os W t).1.set (el os t) (mn (wkQ (el xs (el os t))) (wkSt xs os W t).2), (wkSt xs os W t).2 - mn (wkQ (el xs (el os t))) (wkSt xs os W t).2)
theorem wkSt_len (xs : List Brk) (os : List Nat) (W : Int) : ∀ t, (wkSt xs os W t).1.length = xs.length
  | 0 => by simp [wkSt]
  | t + 1 => by rw [wkSt, List.length_set, wkSt_len xs os W t]
theorem wkSt_bd {xs : List Brk} {os : List Nat} {W : Int} (hv : ∀ i, i < xs.length → Ok6 (el xs i)) (ho : ∀ i, i < os.length → el os i < xs.length) (h0 : 0 ≤ W) (h1 : W ≤ 40) : ∀ t, t ≤ os.length → (0 ≤ (wkSt xs os W t).2 ∧ (wkSt xs os W t).2 ≤ 40) ∧ ∀ z ∈ (wkSt xs os W t).1, 0 ≤ z ∧ z ≤ 40
  | 0, _ => ⟨⟨h0, h1⟩, fun z hz => by simp [wkSt] at hz; omega⟩
  | t + 1, ht => by
    obtain ⟨⟨a, b⟩, hz⟩ := wkSt_bd hv ho h0 h1 t (by omega)
    have hq := wkQ_bd (hv _ (ho t (by omega)))
    rw [wkSt]
    have hm := mn_or (wkQ (el xs (el os t))) (wkSt xs os W t).2
    refine ⟨by simp only []; omega, fun z hzm => ?_⟩
    rcases List.mem_or_eq_of_mem_set hzm with h | h
    · exact hz z h
    · omega
def wkL (xs : List Brk) (W : Int) : List Int := (wkSt xs (needO xs xs.length) W (needO xs xs.length).length).1
theorem wkL_len (xs : List Brk) (W : Int) : (wkL xs W).length = xs.length := wkSt_len _ _ _ _
theorem needO_el (xs : List Brk) : ∀ i, i < (needO xs xs.length).length → el (needO xs xs.length) i < xs.length := fun i hi => needO_lt _ (el_mem hi)
theorem wkL_bd {xs : List Brk} {W : Int} (hv : ∀ i, i < xs.length → Ok6 (el xs i)) (h0 : 0 ≤ W) (h1 : W ≤ 40) : ∀ i, i < xs.length → 0 ≤ el (wkL xs W) i ∧ el (wkL xs W) i ≤ 40 := fun i hi =>
  (wkSt_bd hv (needO_el xs) h0 h1 _ (Nat.le_refl _)).2 _ (el_mem (by rw [← wkL, wkL_len]; exact hi))
set_option maxHeartbeats 400000 in
theorem ceilDiv4_any (a : Int) (w : World) (_h0 : 0 ≤ a) (_h1 : a ≤ 1000) :
    Calls Try.prog 99 #[.int .i64 a, .int .i64 4] w fun e w' => e = .returned (.int .i64 ((a + 4 - 1) / 4)) ∧ w = w' := by
  go_enter Try.func99, Try.ntmps99
  go_wp2
  go_ret
  exact ⟨ret_int (by omega), rfl⟩
theorem own_nat {w : World} {base n : Nat} {E : TypeId} {os : List Nat} {A : Option Addr} (h : OwnAt w base E (natVals os) n A) (hn : n = os.length) {k : Nat} (hk : k < os.length) : ∃ g, A = some ⟨g, 0, none⟩ ∧ base ≤ g ∧ g < w.heap.size ∧ w.cell? ⟨g, k, none⟩ = some (.int .i64 ((el os k : Nat) : Int)) := by
  rcases h with ⟨_, h, _⟩ | ⟨g, rfl, hg, hr⟩
  · omega
  · exact ⟨g, rfl, hg, hr.lt, natVals_cell hr hk⟩
theorem _root_.Go.Salt.OwnAt.far' {w : World} {base : Nat} {E : TypeId} {cs : List Value} {n : Nat} {A : Option Addr} (h : OwnAt w base E cs n A) {p : Addr} (hp : p.block < base) (u : Value) : OwnAt (w.setCell p u) base E cs n A := by
  rcases h with h | ⟨g, e, hg, hr⟩
  · exact .inl h
  · exact .inr ⟨g, e, hg, hr.far (by omega) u⟩
set_option maxRecDepth 100000 in
set_option maxHeartbeats 16000000 in
theorem iWork_any (A : Option Addr) (c : Nat) (xs : List Brk) (W : Int) (w : World) (h : Rd w w.heap.size A 6 Brk.enc xs) (hx : xs.length ≤ 19) (hv : Hid (∀ i, i < xs.length → Ok6 (el xs i))) (h0 : 0 ≤ W) (h1 : W ≤ 40) :
    Calls Try.prog 86 #[.slice A xs.length c, .int .i64 W] w fun e w' => MadeN w 3 (intVals (wkL xs W)) xs.length e w' := by
  obtain ⟨i0, hi, hz0, hz1, hz2⟩ := info_parts int_info
  have hmk := fun (W : World) => run_make (P := Try.prog) W 56 3 i0 _ Try.underlying56 hi hz0 .i64 .i64 xs.length xs.length (by omega) (by omega) (by rw [hz2]; omega) (by omega)
  simp only [hz1, Int.toNat_natCast] at hmk
  clear hi hz0 hz1 hz2
  go_enter Try.func86, Try.ntmps86
  go_wp2_with fail
  have hrow0 : Row (w.alloc (.cells (madeCells #[.int .i64 0] xs.length) 3)) w.heap.size 3 (madeCells #[.int .i64 0] xs.length).toList := Row.new w 3 _
  have hl0 : (madeCells #[.int .i64 0] xs.length).toList = intVals (wkSt xs (needO xs xs.length) W 0).1 := by rw [madeCells_one]; simp [intVals, wkSt]
  rw [hl0] at hrow0
  refine cut_calls (fun X => Row X w.heap.size 3 (intVals (wkSt xs (needO xs xs.length) W 0).1) ∧ Below w.heap.size w X) ⟨hrow0, (by repeat' (first | (with_reducible exact Below.refl _ _) | (with_reducible refine Below.alloc ?_ ?_ _) | (with_reducible refine Below.setCell ?_ ?_ _) | (with_reducible refine Below.drew ?_) | (with_reducible refine Below.trans ?_ (Below.mono (by with_reducible assumption) ?_)) | omega | (simp; done) | (simp; omega)))⟩ ?_
  clear hrow0 hl0 hmk
  rintro w0 ⟨hrow0, hb0⟩
  have hg0 := hrow0.lt
  have hs0 := hb0.size
  replace hrow0 := Lib.hid hrow0
  refine (iNeed_any A c xs w0 ((h.below hb0).more hs0) hx).mono ?_
  rintro e w1 ⟨A1, c1, rfl, own1, hb1⟩
  have hs1 := hb1.size
  have hrow1 := hrow0.out.to hb1
  have hbw1 := hb0.trans (hb1.mono hs0)
  replace hrow1 := Lib.hid hrow1
  replace own1 := Lib.hid own1
  replace hbw1 := Lib.hid hbw1
  have hoe := Lib.hid (needO_el xs)
  have hol := needO_len xs xs.length
  obtain ⟨os, hos⟩ : ∃ os, needO xs xs.length = os := ⟨_, rfl⟩
  have hW : wkL xs W = (wkSt xs os W os.length).1 := by rw [wkL, hos]
  simp only [hos] at hrow1 own1 hoe hol ⊢
  replace hW := Lib.hid hW
  clear hos hrow0 hb0 hb1
  go_wp2_with fail
  go_loopw [1, 7, 14] (fun wv _ ix wr => ∃ t : Nat, t ≤ os.length ∧ ix = .int .i64 t ∧ wv = .int .i64 (wkSt xs os W t).2 ∧ Hid (Row wr w.heap.size 3 (intVals (wkSt xs os W t).1)) ∧ Hid (OwnAt wr w0.heap.size 3 (natVals os) os.length A1) ∧ Below w.heap.size w wr) (fun _ _ ix _ => os.length - (intOf ix).toNat)
  case atStart => exact ⟨0, Nat.zero_le _, rfl, rfl, hrow1, own1, hbw1.out⟩
  case round =>
    clear hrow1 own1 hbw1 hs1
    obtain ⟨t, ht, rfl, rfl, hrow, hown, hb⟩ := hrel
    have hs := hb.size
    have hbd := wkSt_bd hv.out hoe.out h0 h1 t ht
    have hlen := wkSt_len xs os W t
    have hst := @wkSt.eq_2 xs os W t
    obtain ⟨⟨l, r⟩, hl⟩ : ∃ Q, wkSt xs os W t = Q := ⟨_, rfl⟩
    rw [hl] at hbd hlen hst hrow
    simp only [hl]
    simp only at hbd hlen hst hrow
    by_cases hlt : t < os.length
    · obtain ⟨g1, rfl, hgl, hg1, o0⟩ := own_nat hown.out rfl hlt
      have hi := hoe.out t hlt
      obtain ⟨i, hi0⟩ : ∃ i, el os t = i := ⟨_, rfl⟩
      rw [hi0] at o0 hi hst
      clear hi0
      have hok := hv.out i hi
      obtain ⟨b, o, rfl, hB, e0, e1, e2, e3, e4, e5⟩ := brk_cells (h.below hb) hi
      have hq : wkQ (el xs i) = ((el xs i).m - (el xs i).d + 4 - 1) / 4 := rfl
      rw [hq] at hst
      unfold Ok6 at hok
      have hmn := mn_or (((el xs i).m - (el xs i).d + 4 - 1) / 4) r
      have hB1 : b < wr.heap.size := by omega
      have hI : (t : Int) < os.length := by omega
      have hI0 : (0 : Int) ≤ t := by omega
      have hiI : (i : Int) < xs.length := by omega
      have hiI0 : (0 : Int) ≤ i := by omega
      have hgs : w.heap.size < wr.heap.size := hrow.out.lt
      have HS := Lib.hid hst
      clear hst hl
      go_wp2_with fail
      refine wp_region_below_tail 16 (by kernel_rfl) (by kernel_rfl) ?_
      simp only [List.take_succ_cons, List.take_zero, List.drop_succ_cons, List.drop_zero]
      repeat (go_big_quiet_step ((go_at_call 99; exact Calls.regrown_of (same_below (ceilDiv4_any _ _ (by omega) (by omega))))))
      (refine wpQuiet_nil ?_; intro w1 hwq; have hb1 := of_cls hwq; clear hwq)
      (have hs1 := hb1.size; (try simp at hs1); obtain ⟨hc1, hf1, hn1⟩ := bcell hb1; (try have hz1_wr_0 : wr.heap.size < w1.heap.size := by omega); (try have hz1_wr_1 : wr.heap.size + 1 < w1.heap.size := by omega); (try have hz1_wr_2 : wr.heap.size + 2 < w1.heap.size := by omega); (try have hB1 : b < w1.heap.size := by omega); (try have hB2 : b' < w1.heap.size := by omega); (try have hz1_wr_2b : wr.heap.size + 1 + 1 < w1.heap.size := by omega); (try have hz1_w_0 : w.heap.size < w1.heap.size := by omega); (try have hz1_w_1 : w.heap.size + 1 < w1.heap.size := by omega); (try have hz1_w_2 : w.heap.size + 2 < w1.heap.size := by omega); (try have hz1_w_2b : w.heap.size + 1 + 1 < w1.heap.size := by omega))
      have hr2 := Lib.hid (hrow.out.to hb1)
      have ho2 := Lib.hid (hown.out.to hb1)
      have f0 := intVals_cell hrow.out (j := i) (by omega)
      have ff := hrow.out.frozen
      have fl := hr2.out.lt
      obtain ⟨v, hvv⟩ : ∃ v, mn (((el xs i).m - (el xs i).d + 4 - 1) / 4) r = v := ⟨_, rfl⟩
      simp only [hvv]
      rw [hvv] at HS hmn
      have hr3 := Lib.hid (hr2.out.set (j := i) (.int .i64 v))
      have ho3 := Lib.hid (ho2.out.far' (p := ⟨w.heap.size, i, none⟩) (by show w.heap.size < w0.heap.size; omega) (.int .i64 v))
      have hbw2 := Lib.hid ((hb.trans (hb1.mono hs)).setCell (p := ⟨w.heap.size, i, none⟩) (Nat.le_refl _) (.int .i64 v))
      clear hvv
      go_wp2_with fail
      go_roundw
      case rel => exact ⟨t + 1, by omega, by go_num, by rw [HS.out], by rw [HS.out, ← intVals_set]; exact hr3.out, ho3.out, hbw2.out⟩
      case measure => simp [intOf]; omega
    · obtain rfl : t = os.length := by omega
      go_wp2_with fail
      go_ret
      exact ⟨w.heap.size, rfl, Nat.le_refl _, by rw [hW.out, hl]; exact hrow.out, hb⟩
set_option maxRecDepth 100000 in
set_option maxHeartbeats 16000000 in
theorem sWork_any (A : Option Addr) (c : Nat) (xs : List Brk) (W : Int) (w : World) (h : Rd w w.heap.size A 6 Brk.enc xs) (hx : xs.length ≤ 19) (hv : Hid (∀ i, i < xs.length → Ok6 (el xs i))) (h0 : 0 ≤ W) (h1 : W ≤ 40) :
    Calls Try.prog 85 #[.slice A xs.length c, .int .i64 W] w fun e w' => MadeN w 3 (intVals (wkL xs W)) xs.length e w' := by
  obtain ⟨i0, hi, hz0, hz1, hz2⟩ := info_parts int_info
  have hmk := fun (W : World) => run_make (P := Try.prog) W 56 3 i0 _ Try.underlying56 hi hz0 .i64 .i64 xs.length xs.length (by omega) (by omega) (by rw [hz2]; omega) (by omega)
  simp only [hz1, Int.toNat_natCast] at hmk
  clear hi hz0 hz1 hz2
  go_enter Try.func85, Try.ntmps85
  go_wp2_with fail
  have hrow0 : Row (w.alloc (.cells (madeCells #[.int .i64 0] xs.length) 3)) w.heap.size 3 (madeCells #[.int .i64 0] xs.length).toList := Row.new w 3 _
  have hl0 : (madeCells #[.int .i64 0] xs.length).toList = intVals (wkSt xs (needO xs xs.length) W 0).1 := by rw [madeCells_one]; simp [intVals, wkSt]
  rw [hl0] at hrow0
  refine cut_calls (fun X => Row X w.heap.size 3 (intVals (wkSt xs (needO xs xs.length) W 0).1) ∧ Below w.heap.size w X) ⟨hrow0, (by repeat' (first | (with_reducible exact Below.refl _ _) | (with_reducible refine Below.alloc ?_ ?_ _) | (with_reducible refine Below.setCell ?_ ?_ _) | (with_reducible refine Below.drew ?_) | (with_reducible refine Below.trans ?_ (Below.mono (by with_reducible assumption) ?_)) | omega | (simp; done) | (simp; omega)))⟩ ?_
  clear hrow0 hl0 hmk
  rintro w0 ⟨hrow0, hb0⟩
  have hg0 := hrow0.lt
  have hs0 := hb0.size
  replace hrow0 := Lib.hid hrow0
  refine (sOrder_any A c xs w0 ((h.below hb0).more hs0) hx (Lib.hid fun i hi => (hv.out i hi).2.1)).mono ?_
  rintro e w1 ⟨A1, c1, rfl, own1, hb1⟩
  have hs1 := hb1.size
  have hrow1 := hrow0.out.to hb1
  have hbw1 := hb0.trans (hb1.mono hs0)
  replace hrow1 := Lib.hid hrow1
  replace own1 := Lib.hid own1
  replace hbw1 := Lib.hid hbw1
  have hoe := Lib.hid (needO_el xs)
  have hol := needO_len xs xs.length
  obtain ⟨os, hos⟩ : ∃ os, needO xs xs.length = os := ⟨_, rfl⟩
  have hW : wkL xs W = (wkSt xs os W os.length).1 := by rw [wkL, hos]
  simp only [hos] at hrow1 own1 hoe hol ⊢
  replace hW := Lib.hid hW
  clear hos hrow0 hb0 hb1
  go_wp2_with fail
  go_loopw [1, 7] (fun wv ix wr => ∃ t : Nat, t ≤ os.length ∧ ix = .int .i64 t ∧ wv = .int .i64 (wkSt xs os W t).2 ∧ Hid (Row wr w.heap.size 3 (intVals (wkSt xs os W t).1)) ∧ Hid (OwnAt wr w0.heap.size 3 (natVals os) os.length A1) ∧ Below w.heap.size w wr) (fun _ ix _ => os.length - (intOf ix).toNat)
  case atStart => exact ⟨0, Nat.zero_le _, rfl, rfl, hrow1, own1, hbw1.out⟩
  case round =>
    clear hrow1 own1 hbw1 hs1
    obtain ⟨t, ht, rfl, rfl, hrow, hown, hb⟩ := hrel
    have hs := hb.size
    have hbd := wkSt_bd hv.out hoe.out h0 h1 t ht
    have hlen := wkSt_len xs os W t
    have hst := @wkSt.eq_2 xs os W t
    obtain ⟨⟨l, r⟩, hl⟩ : ∃ Q, wkSt xs os W t = Q := ⟨_, rfl⟩
    rw [hl] at hbd hlen hst hrow
    simp only [hl]
    simp only at hbd hlen hst hrow
    by_cases hlt : t < os.length
    · obtain ⟨g1, rfl, hgl, hg1, o0⟩ := own_nat hown.out rfl hlt
      have hi := hoe.out t hlt
      obtain ⟨i, hi0⟩ : ∃ i, el os t = i := ⟨_, rfl⟩
      rw [hi0] at o0 hi hst
      clear hi0
      have hok := hv.out i hi
      obtain ⟨b, o, rfl, hB, e0, e1, e2, e3, e4, e5⟩ := brk_cells (h.below hb) hi
      have hq : wkQ (el xs i) = ((el xs i).m - (el xs i).d + 4 - 1) / 4 := rfl
      rw [hq] at hst
      unfold Ok6 at hok
      have hmn := mn_or (((el xs i).m - (el xs i).d + 4 - 1) / 4) r
      have hB1 : b < wr.heap.size := by omega
      have hI : (t : Int) < os.length := by omega
      have hI0 : (0 : Int) ≤ t := by omega
      have hiI : (i : Int) < xs.length := by omega
      have hiI0 : (0 : Int) ≤ i := by omega
      have hgs : w.heap.size < wr.heap.size := hrow.out.lt
      have HS := Lib.hid hst
      clear hst hl
      have hve : mn (((el xs i).m - (el xs i).d + 4 - 1) / 4) r = mn r (((el xs i).m - (el xs i).d + 3) / 4) := by
        rw [show ((el xs i).m - (el xs i).d + 4 - 1) / 4 = ((el xs i).m - (el xs i).d + 3) / 4 by omega]; have h1 := mn_or (((el xs i).m - (el xs i).d + 3) / 4) r; have h2 := mn_or r (((el xs i).m - (el xs i).d + 3) / 4); omega
      rw [hve] at HS hmn
      obtain ⟨v, hvv⟩ : ∃ v, mn r (((el xs i).m - (el xs i).d + 3) / 4) = v := ⟨_, rfl⟩
      rw [hvv] at HS hmn
      have hle : ∀ X, Calls Try.prog 98 #[.int .i64 r, .int .i64 (((el xs i).m - (el xs i).d + 3) / 4)] X fun e w' => e = .returned (.int .i64 v) ∧ X = w' := fun X => by rw [← hvv]; exact l1Least_any _ _ X
      replace hle := Lib.hid hle
      clear hvv hve
      have f0 := intVals_cell hrow.out (j := i) (by omega)
      have ff := hrow.out.frozen
      have hr3 := Lib.hid (hrow.out.set (j := i) (.int .i64 v))
      have ho3 := Lib.hid (hown.out.far' (p := ⟨w.heap.size, i, none⟩) (by show w.heap.size < w0.heap.size; omega) (.int .i64 v))
      have hbw2 := Lib.hid (hb.setCell (p := ⟨w.heap.size, i, none⟩) (Nat.le_refl _) (.int .i64 v))
      go_wp2_with (first | (go_at_call 98; refine (hle.out _).mono ?_; rintro e wX ⟨rfl, rfl⟩))
      go_roundw
      case rel => exact ⟨t + 1, by omega, by go_num, by rw [HS.out], by rw [HS.out, ← intVals_set]; exact hr3.out.to (by repeat' (first | (with_reducible exact Below.refl _ _) | (with_reducible refine Below.alloc ?_ ?_ _) | (with_reducible refine Below.setCell ?_ ?_ _) | (with_reducible refine Below.drew ?_) | (with_reducible refine Below.trans ?_ (Below.mono (by with_reducible assumption) ?_)) | omega | (simp; done) | (simp; omega))), ho3.out.to (by repeat' (first | (with_reducible exact Below.refl _ _) | (with_reducible refine Below.alloc ?_ ?_ _) | (with_reducible refine Below.setCell ?_ ?_ _) | (with_reducible refine Below.drew ?_) | (with_reducible refine Below.trans ?_ (Below.mono (by with_reducible assumption) ?_)) | omega | (simp; done) | (simp; omega))), hbw2.out.alloc (by simp [World.setCell]; omega) _⟩
      case measure => simp [intOf]; omega
    · obtain rfl : t = os.length := by omega
      go_wp2_with fail
      go_ret
      exact ⟨w.heap.size, rfl, Nat.le_refl _, by rw [hW.out, hl]; exact hrow.out, hb⟩
end Go.Proofs.Ytakjfkbfibcbcaa
