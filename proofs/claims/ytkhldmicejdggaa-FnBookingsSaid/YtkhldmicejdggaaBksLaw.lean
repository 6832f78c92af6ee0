/- The law FnBookings: a booking that is put and dropped again; sums of all kinds; the lowest stock. -/
import Derived.Test.YtkhldmicejdggaaDrBk
import Derived.Test.YtkhldmicejdggaaSok
import Derived.Test.YtkhldmicejdggaaDropLaw
set_option linter.unusedSimpArgs false
set_option linter.unusedVariables false
namespace Go.Proofs.Ytkhldmicejdggaa
open Go.RowKit Go.Sort Go.Salt
attribute [local go_sem] cell_rg
def bkEq (a b : Bk) : Bool := (a.d == b.d) && (a.k == b.k) && (a.q == b.q)
/-- The last of the first n that is x, or -1. -/
def laE (ys : List Bk) (x : Bk) : Nat → Int
  | 0 => -1
  | n + 1 => if bkEq (el ys n) x = true then (n : Int) else laE ys x n
theorem laE_yes {ys : List Bk} {x : Bk} {n : Nat} (h : bkEq (el ys n) x = true) : laE ys x (n + 1) = n := if_pos h
theorem laE_no {ys : List Bk} {x : Bk} {n : Nat} (h : bkEq (el ys n) x = false) : laE ys x (n + 1) = laE ys x n := if_neg (by simp [h])
theorem pbK_aft {xs : List Bk} {x : Bk} (h : pbK xs x < xs.length) : aft xs x (pbK xs x) = true := by
  unfold pbK at h ⊢
  cases hq : (List.range xs.length).find? (aft xs x) with
  | none => rw [hq] at h; simp at h
  | some i => simpa using List.find?_some hq
theorem el_putL_gt {xs : List Bk} {k j : Nat} {x : Bk} (hk : k ≤ xs.length) (hj : k ≤ j) (hl : j < xs.length) : el (putL xs k x) (j + 1) = el xs j := by
  have h1 : j + 1 < (putL xs k x).length := by rw [putL_len hk]; omega
  have h2 : (putL xs k x)[j + 1]? = xs[j]? := by
    unfold putL
    rw [List.getElem?_append_right (by simp; omega)]
    simp only [List.length_take, Nat.min_eq_left hk]
    rw [show j + 1 - k = (j - k) + 1 by omega, List.getElem?_cons_succ, List.getElem?_drop]
    congr 1; omega
  rw [el_get h1, el_get hl]
  rw [List.getElem?_eq_getElem h1, List.getElem?_eq_getElem hl] at h2
  exact Option.some.inj h2
theorem laE_put {xs : List Bk} {x : Bk} (h0 : bksOK xs = true) : ∀ n, pbK xs x < n → n ≤ xs.length + 1 → laE (putL xs (pbK xs x) x) x n = pbK xs x
  | 0, h, _ => by omega
  | n + 1, h, hn => by
    by_cases e : n = pbK xs x
    · rw [e]
      refine laE_yes ?_
      rw [el_putL (pbK_le xs x)]
      simp [bkEq]
    · rw [laE_no ?_, laE_put h0 n (by omega) (by omega)]
      obtain ⟨j, rfl⟩ : ∃ j, n = j + 1 := ⟨n - 1, by omega⟩
      rw [el_putL_gt (pbK_le xs x) (by omega) (by omega)]
      have ha := aft_mono h0 j (pbK xs x) (by omega) (by omega) (pbK_aft (by omega))
      cases hq : bkEq (el xs j) x with
      | false => rfl
      | true =>
        simp only [bkEq, Bool.and_eq_true, beq_iff_eq] at hq
        simp [aft, bkAft, hq.1.1, hq.1.2] at ha
theorem dbX_putL {xs : List Bk} {k : Nat} {x : Bk} (hk : k ≤ xs.length) : dbX (putL xs k x) k = xs := by
  unfold dbX putL
  have hl : (xs.take k).length = k := by simp [Nat.min_eq_left hk]
  rw [List.take_left' hl, show k + 1 = (xs.take k ++ [x]).length by simp [Nat.min_eq_left hk], show xs.take k ++ x :: xs.drop k = (xs.take k ++ [x]) ++ xs.drop k by simp, List.drop_left' rfl, List.take_append_drop]
theorem put_law {xs : List Bk} {x : Bk} (h : pbB xs x = true) : laE (pbL xs x) x (pbL xs x).length = (pbK xs x : Int) ∧ dbB (pbL xs x) (pbK xs x : Int) = true ∧ dbL (pbL xs x) (pbK xs x : Int) = xs ∧ bksOK (pbL xs x) = true ∧ (pbL xs x).length ≠ 0 := by
  have e1 : pbL xs x = putL xs (pbK xs x) x := by simp [pbL, h]
  have h' := h
  simp only [pbB, Bool.and_eq_true] at h'
  have hk := pbK_le xs x
  have hdb : dbB (putL xs (pbK xs x) x) (pbK xs x : Int) = true := by
    simp only [dbB, Bool.and_eq_true]
    exact ⟨h'.2, inB_iff.2 ⟨by omega, by rw [putL_len hk]; omega⟩⟩
  rw [e1]
  refine ⟨by rw [putL_len hk]; exact laE_put h'.1 _ (by omega) (by omega), hdb, ?_, h'.2, by rw [putL_len hk]; omega⟩
  rw [dbL, if_pos hdb, Int.toNat_natCast, dbX_putL hk]
theorem sum_law {ys : List Bk} (h : bksOK ys = true) : stoB ys 0 4000 = true ∧ stoV ys 0 4000 = sokV ys 1 0 4000 - sokV ys 2 0 4000 - sokV ys 3 0 4000 - sokV ys 4 0 4000 ∧ (∀ j : Int, 1 ≤ j → j ≤ 4 → sokB ys j 0 4000 = true) ∧ ∀ j : Int, 0 ≤ sokV ys j 0 4000 ∧ sokV ys j 0 4000 ≤ 2000000 := by
  have hb := bksOK_bd h
  have hB : ∀ j : Int, 1 ≤ j → j ≤ 4 → sokB ys j 0 4000 = true := fun j h1 h2 => by
    simp only [sokB, h, inB_iff.2 (show (1 : Int) ≤ j ∧ j ≤ 4 from ⟨h1, h2⟩), inB_iff.2 (show (0 : Int) ≤ 0 ∧ (0 : Int) ≤ 4000 by omega), inB_iff.2 (show (0 : Int) ≤ 4000 ∧ (4000 : Int) ≤ 4000 by omega), Bool.and_self]
  have hS : stoB ys 0 4000 = true := by
    simp only [stoB, h, inB_iff.2 (show (0 : Int) ≤ 0 ∧ (0 : Int) ≤ 1000000 by omega), inB_iff.2 (show (0 : Int) ≤ 4000 ∧ (4000 : Int) ≤ 4000 by omega), Bool.and_self]
  refine ⟨hS, ?_, hB, fun j => ?_⟩
  · rw [stoV, if_pos hS, sokV, sokV, sokV, sokV, if_pos (hB 1 (by omega) (by omega)), if_pos (hB 2 (by omega) (by omega)), if_pos (hB 3 (by omega) (by omega)), if_pos (hB 4 (by omega) (by omega))]
    exact sok_all hb.2 _ (Nat.le_refl _)
  · unfold sokV
    split
    · have := sokTo_bd (kind := j) (a := 0) (b := 4000) hb.2 ys.length (Nat.le_refl _)
      omega
    · omega
theorem own_some {w : World} {base : Nat} {E : TypeId} {cs : List Value} {n : Nat} {A : Option Addr} (h0 : n ≠ 0) (h : OwnAt w base E cs n A) : ∃ ad, A = some ad := by
  rcases h with ⟨_, h, _⟩ | ⟨g, h, _⟩
  · exact absurd h h0
  · exact ⟨_, h⟩
theorem sPutBooking_at (b o c : Nat) (xs : List Bk) (d k q : Int) (w : World) (h : Rd w w.heap.size (some ⟨b, o, none⟩) 3 Bk.enc xs) (hx : xs.length ≤ 1048576) (hcc : xs.length ≤ c) (hw : IntV (.int .i64 d) ∧ IntV (.int .i64 k) ∧ IntV (.int .i64 q)) :
    Calls Try.prog 32 #[.slice (some ⟨b, o, none⟩) xs.length c, .agg #[.int .i64 d, .int .i64 k, .int .i64 q]] w fun e w' => PbAt w xs ⟨d, k, q⟩ e w' := (sPutBooking_any b o c xs d k q w h hx hcc hw).mono fun _ _ h => h.at
theorem iDropBooking_at {ys zs : List Bk} {i : Int} {b : Bool} (hv : dbL ys i = zs ∧ dbB ys i = b) (ad : Addr) (c : Nat) (w : World) (h : Rd w w.heap.size (some ad) 3 Bk.enc ys) (hx : ys.length ≤ 1048576) :
    Calls Try.prog 29 #[.slice (some ad) ys.length c, .int .i64 i] w fun e w' => MadeAt w 45 (zs.flatMap Bk.enc) zs.length (fun v => .returned (.tuple #[v, .bool b])) e w' := by
  obtain ⟨rfl, rfl⟩ := hv; exact iDropBooking_any ad c ys i w h hx
theorem iSumOfKind_at {xs : List Bk} {kind a b v : Int} {t : Bool} (hv : sokV xs kind a b = v ∧ sokB xs kind a b = t) (A : Option Addr) (c : Nat) (w : World) (h : Rd w w.heap.size A 3 Bk.enc xs) (hx : xs.length ≤ 1048576) :
    Calls Try.prog 43 #[.slice A xs.length c, .int .i64 kind, .int .i64 a, .int .i64 b] w fun e w' => e = .returned (.tuple #[.int .i64 v, .bool t]) ∧ Below w.heap.size w w' := by
  obtain ⟨rfl, rfl⟩ := hv; exact iSumOfKind_any A c xs kind a b w h hx
theorem iStockOn_at {s d v : Int} {xs : List Bk} {b : Bool} (hv : stoV xs s d = v ∧ stoB xs s d = b) (A : Option Addr) (c : Nat) (w : World) (h : Rd w w.heap.size A 3 Bk.enc xs) (hx : xs.length ≤ 1048576) :
    Calls Try.prog 16 #[.slice A xs.length c, .int .i64 s, .int .i64 d] w fun e w' => e = .returned (.tuple #[.int .i64 v, .bool b]) ∧ Below w.heap.size w w' := by
  obtain ⟨rfl, rfl⟩ := hv; exact iStockOn_any A c xs s d w h hx
/-- Draws of lists: where they lie. -/
theorem rows_at {base : Nat} {g q : Option Dr.CI} {w : World} {own : Bool} {T : TypeId} {lo hi cl : Nat} {tb : Dr.Tab} {A : Option Addr} {n c : Nat} (h1 : 1 ≤ cl) (h : Dr.AVok tb base g q w (.sl own T lo hi cl) (.slice A n c)) : (∃ b o, A = some ⟨b, o, none⟩) ∧ n ≤ c := by
  obtain ⟨A', len, cap, e, _, _, h3, _, h5, h6⟩ := h
  obtain ⟨rfl, rfl, rfl⟩ : A = A' ∧ n = len ∧ c = cap := by simpa using e
  refine ⟨?_, h3⟩
  cases A with
  | none => have := (h5 rfl).2; omega
  | some ad =>
    obtain ⟨b, m, i, d, rfl, _⟩ := h6 ad rfl
    exact ⟨_, _, rfl⟩
open Go.Dr in
theorem dPutBooking_any (A : Option Addr) (n c : Nat) (w : World) (hn : n ≤ 65536) (hB : Byt w w.heap.size A n) :
    Calls Try.prog 41 #[.slice A n c] w fun e w' => ∃ (b o : Nat) (xs : List Bk) (c : Nat) (d k q : Int), e = .returned (.tuple #[.slice (some ⟨b, o, none⟩) xs.length c, .agg #[.int .i64 d, .int .i64 k, .int .i64 q]]) ∧ xs.length ≤ 42 ∧ xs.length ≤ c ∧ Rd w' w'.heap.size (some ⟨b, o, none⟩) 3 Bk.enc xs ∧ Hid (IntV (.int .i64 d) ∧ IntV (.int .i64 k) ∧ IntV (.int .i64 q)) ∧ Below w.heap.size w w' := by
  refine (Dr.draw_calls dPutBooking_con rfl rfl (by decide) A n c w hn hB).mono ?_
  rintro e w' ⟨v, rfl, hv, hb⟩
  obtain ⟨u1, u2, rfl, a1, a2⟩ := tup2 hv
  obtain ⟨A1, xs1, c1, rfl, _, hl1, hr1, hn1, hx1⟩ := rows_of (k := 3) (tb := bkTab) (T := 45) bkTab_bk rfl (by omega) Bk.enc (fun g => ⟨g 0, g 1, g 2⟩) (fun _ => rfl) a1
  obtain ⟨⟨b, o, rfl⟩, hc⟩ := rows_at (by decide) a1
  obtain ⟨g2, rfl, hg2⟩ := agg_of (k := 3) a2
  exact ⟨b, o, xs1, c1, g2 0, g2 1, g2 2, rfl, hl1, hc, hr1, Lib.hid ⟨⟨_, rfl, hg2 0 (by omega)⟩, ⟨_, rfl, hg2 1 (by omega)⟩, ⟨_, rfl, hg2 2 (by omega)⟩⟩, hb⟩
open Go.Dr in
theorem dDropBooking_any (A : Option Addr) (n c : Nat) (w : World) (hn : n ≤ 65536) (hB : Byt w w.heap.size A n) :
    Calls Try.prog 44 #[.slice A n c] w fun e w' => ∃ (b o : Nat) (xs : List Bk) (c : Nat) (i : Int), e = .returned (.tuple #[.slice (some ⟨b, o, none⟩) xs.length c, .int .i64 i]) ∧ xs.length ≤ 42 ∧ xs.length ≤ c ∧ Rd w' w'.heap.size (some ⟨b, o, none⟩) 3 Bk.enc xs ∧ Below w.heap.size w w' := by
  refine (Dr.draw_calls dDropBooking_con rfl rfl (by decide) A n c w hn hB).mono ?_
  rintro e w' ⟨v, rfl, hv, hb⟩
  obtain ⟨u1, u2, rfl, a1, a2⟩ := tup2 hv
  obtain ⟨A1, xs1, c1, rfl, _, hl1, hr1, hn1, hx1⟩ := rows_of (k := 3) (tb := bkTab) (T := 45) bkTab_bk rfl (by omega) Bk.enc (fun g => ⟨g 0, g 1, g 2⟩) (fun _ => rfl) a1
  obtain ⟨⟨b, o, rfl⟩, hc⟩ := rows_at (by decide) a1
  obtain ⟨z2, rfl, hz2a, hz2b⟩ := int_of a2
  exact ⟨b, o, xs1, c1, z2, rfl, hl1, hc, hr1, hb⟩
theorem low_stock {xs : List Bk} {s : Int} {k : Nat} (h : losB xs s = true) (hk : k < xs.length) : stoB xs s (el xs k).d = true ∧ losV xs s ≤ stoV xs s (el xs k).d := by
  simp only [losB, Bool.and_eq_true, decide_eq_true_eq] at h
  obtain ⟨⟨h1, h2⟩, h3⟩ := h
  have hb := bkAt_bd ((bksOK_bd h1).2 k hk)
  have hS : stoB xs s (el xs k).d = true := by
    simp only [stoB, h1, h2, inB_iff.2 (show 0 ≤ (el xs k).d ∧ (el xs k).d ≤ 4000 from ⟨hb.1, hb.2.1⟩), Bool.and_self]
  refine ⟨hS, ?_⟩
  rw [losV, if_pos (by rw [h1, h2]; rfl), stoV, if_pos hS]
  exact (loD_min (xs := xs) (s := s) xs.length h3).2 k hk
open Go.Dr in
theorem dLowestStock_any (A : Option Addr) (n c : Nat) (w : World) (hn : n ≤ 65536) (hB : Byt w w.heap.size A n) :
    Calls Try.prog 45 #[.slice A n c] w fun e w' => ∃ (ad1 : Addr) (xs1 : List Bk) (c1 : Nat) (z2 : Int), e = .returned (.tuple #[.slice (some ad1) xs1.length c1, .int .i64 z2]) ∧ xs1.length ≤ 42 ∧ Rd w' w'.heap.size (some ad1) 3 Bk.enc xs1 ∧ Below w.heap.size w w' := by
  refine (Dr.draw_calls dLowestStock_con rfl rfl (by decide) A n c w hn hB).mono ?_
  rintro e w' ⟨v, rfl, hv, hb⟩
  obtain ⟨u1, u2, rfl, a1, a2⟩ := tup2 hv
  obtain ⟨A1, xs1, c1, rfl, _, hl1, hr1, hn1, hx1⟩ := rows_of (k := 3) (tb := bkTab) (T := 45) bkTab_bk rfl (by omega) Bk.enc (fun g => ⟨g 0, g 1, g 2⟩) (fun _ => rfl) a1
  obtain ⟨ad1, rfl⟩ := hn1 (by omega)
  obtain ⟨z2, rfl, hz2a, hz2b⟩ := int_of a2
  exact ⟨ad1, xs1, c1, z2, rfl, hl1, hr1, hb⟩
open Go.Dr in
theorem dSumOfKind_any (A : Option Addr) (n c : Nat) (w : World) (hn : n ≤ 65536) (hB : Byt w w.heap.size A n) :
    Calls Try.prog 46 #[.slice A n c] w fun e w' => ∃ (ad1 : Addr) (xs1 : List Bk) (c1 : Nat) (z2 : Int) (z3 : Int) (z4 : Int), e = .returned (.tuple #[.slice (some ad1) xs1.length c1, .int .i64 z2, .int .i64 z3, .int .i64 z4]) ∧ xs1.length ≤ 42 ∧ Rd w' w'.heap.size (some ad1) 3 Bk.enc xs1 ∧ Below w.heap.size w w' := by
  refine (Dr.draw_calls dSumOfKind_con rfl rfl (by decide) A n c w hn hB).mono ?_
  rintro e w' ⟨v, rfl, hv, hb⟩
  obtain ⟨u1, u2, u3, u4, rfl, a1, a2, a3, a4⟩ := tup4 hv
  obtain ⟨A1, xs1, c1, rfl, _, hl1, hr1, hn1, hx1⟩ := rows_of (k := 3) (tb := bkTab) (T := 45) bkTab_bk rfl (by omega) Bk.enc (fun g => ⟨g 0, g 1, g 2⟩) (fun _ => rfl) a1
  obtain ⟨ad1, rfl⟩ := hn1 (by omega)
  obtain ⟨z2, rfl, hz2a, hz2b⟩ := int_of a2
  obtain ⟨z3, rfl, hz3a, hz3b⟩ := int_of a3
  obtain ⟨z4, rfl, hz4a, hz4b⟩ := int_of a4
  exact ⟨ad1, xs1, c1, z2, z3, z4, rfl, hl1, hr1, hb⟩
set_option maxHeartbeats 4000000 in
theorem vBookings_same (A A' : Option Addr) (c c' : Nat) (xs : List Bk) (w : World) (h : Rd w w.heap.size A 3 Bk.enc xs) (h' : Rd w w.heap.size A' 3 Bk.enc xs) (hx : xs.length ≤ 1048576) :
    Calls Try.prog 42 #[.slice A xs.length c, .slice A' xs.length c'] w fun e w' => e = .returned (.bool true) ∧ Below w.heap.size w w' := by
  go_enter Try.func42, Try.ntmps42
  go_wp2
  go_loopw [5] (fun i wr => ∃ k : Nat, k ≤ xs.length ∧ i = .int .i64 k ∧ Below w.heap.size w wr) (fun i _ => xs.length - (intOf i).toNat)
  case atStart => exact ⟨0, Nat.zero_le _, rfl, Below.refl _ _⟩
  case round =>
    obtain ⟨k, hk, rfl, hb⟩ := hrel
    by_cases hlt : k < xs.length
    · obtain ⟨b, o, rfl, hB, c0, c1, c2⟩ := bk_cells (h.below hb) hlt
      obtain ⟨b', o', rfl, hB', d0, d1, d2⟩ := bk_cells (h'.below hb) hlt
      have hs := hb.size
      have hB1 : b < wr.heap.size := by omega
      have hB2 : b' < wr.heap.size := by omega
      have hI : (k : Int) < xs.length := by omega
      have hI0 : (0 : Int) ≤ k := by omega
      go_wp2_with fail
      refine wp_region_quiet_below (by kernel_rfl) (by kernel_rfl) ?_
      repeat (go_big_quiet_step (fail))
      (refine wpQuiet_nil ?_; intro w1 hwq; have hb1 := of_cls hwq; clear hwq)
      (have hs1 := hb1.size; (try simp at hs1); obtain ⟨hc1, hf1, hn1⟩ := bcell hb1; (try have hz1_wr_0 : wr.heap.size < w1.heap.size := by omega); (try have hz1_wr_1 : wr.heap.size + 1 < w1.heap.size := by omega); (try have hz1_wr_2 : wr.heap.size + 2 < w1.heap.size := by omega); (try have hB1 : b < w1.heap.size := by omega); (try have hB2 : b' < w1.heap.size := by omega); (try have hz1_wr_2b : wr.heap.size + 1 + 1 < w1.heap.size := by omega); (try have hz1_w_0 : w.heap.size < w1.heap.size := by omega); (try have hz1_w_1 : w.heap.size + 1 < w1.heap.size := by omega); (try have hz1_w_2 : w.heap.size + 2 < w1.heap.size := by omega); (try have hz1_w_2b : w.heap.size + 1 + 1 < w1.heap.size := by omega))
      go_wp2_with fail
      go_roundw
      case rel => exact ⟨k + 1, by omega, by go_num, (by repeat' (first | (with_reducible exact Below.refl _ _) | (with_reducible refine Below.alloc ?_ ?_ _) | (with_reducible refine Below.setCell ?_ ?_ _) | (with_reducible refine Below.drew ?_) | (with_reducible refine Below.trans ?_ (Below.mono (by with_reducible assumption) ?_)) | omega | (simp; done) | (simp; omega)))⟩
      case measure => simp [intOf]; omega
    · have hI : ¬ (k : Int) < xs.length := by omega
      go_wp2
      go_ret
      exact ⟨rfl, hb⟩
set_option maxRecDepth 100000 in
set_option maxHeartbeats 40000000 in
theorem FnBookings_p13 {u1 u2 u3 u4 u5 u6 u7 u8 u9 u10 u11 u12 u13 u14 u15 u16 u17 u18 u19 u20 u21 u22 u23 u24 u25 u26 u27 u28 u29 u30 u31 u32 u33 u34 u35 u36 u37 u38 u39 u40 u41 u42 u43 u44 u45 u46 u47 u48 u49 u50 u51 u52 u53 u54 u55 u56 u57 u58 u59 u60 u61 u62 u63 u64 u65 u66 u67 u68 u69 u70 u71 u72 u73 u74 u75 u76 u77 u78 u79 u80 u81 u82 u83 u84 u85 u86 u87 u88 u89 u90 u91 u92 u93 u94 u95 u96 u97 u98 u99 u100 u101 u102 u103 u104 u105 u106 u107 u108 u109 u110 u111 u112 u113 u114 u115 u116 u117 u118 u119 u120 u121 u122 u123 u124 u125 u126 u127 u128 u129 u130 u131 u132 u133 u134 u135 u136 u137 u138 u139 u140 u141 u142 u143 u144 u145 u146 u147 u148 u149 u150 u151 u152 u153 u154 u155 u156 u157 u158 u159 u160 u161 u162 u163 u164 u165 u166 u167 u168 u169 u170 u171 u172 u173 u174 u175 u176 u177 u178 u179 u180 u181 u182 u183 u184 u185 u186 u187 u188 u189 u190 u191 u192 u193 u194 u195 u196 u197 u198 u199 u200 u201 u202 u203 u204 u205 u206 u207 u208 u209 u210 u211 u212 u213 u214 u215 u216 u217 u218 u219 u220 u221 u222 u223 u224 u225 u226 u227 u228 u229 u230 u231 u232 u233 u234 u235 u236 u237 u238 u239 u240 u241 u242 u243 u244 u245 u246 u247 u248 u249 u250 u251 u252 u253 u254 u255 u256 u257 u258 u259 u260 u261 u262 u263 u264 u265 u266 u267 u268 u269 u270 u271 u272 u273 : Value} (A : Option Addr) (n c : Nat) (w wc : World) (hn : n ≤ 65536) (hB : Byt w w.heap.size A n) (h_below : Below w.heap.size w wc) (K : Act → World → Prop) (hK : ∀ a w1, (tailOf 14 (Try.f12.body.getD .skip)).wp Try.prog (bodyPost Try.prog Try.f12 fun e w' => e = .returned (.bool true) ∧ Below w.heap.size w w') a w1 → K a w1) :
    (headOf (tailOf 13 (Try.f12.body.getD .skip))).wp Try.prog (Exit.then K (bodyPost Try.prog Try.f12 fun e w' => e = .returned (.bool true) ∧ Below w.heap.size w w')) ⟨#[.slice A n c, u1, u2, u3, u4, u5, u6, u7, u8, u9, u10, u11, u12, u13, u14, u15, u16, u17, u18, u19, u20, u21, u22, u23, u24, u25, u26, u27, u28, u29, u30, u31, u32, u33, u34, u35, u36, u37, u38, u39, u40, u41, u42, u43, u44, u45, u46, u47, u48, u49, u50, u51, u52, u53, u54, u55, u56, u57, u58, u59, u60, u61, u62, u63, u64, u65, u66, u67, u68, u69, u70, u71, u72, u73, u74, u75, u76, u77, u78, u79, u80, u81, u82, u83, u84, u85, u86, u87, u88, u89, u90, u91, u92, u93, u94, u95, u96, u97, u98, u99, u100, u101, u102, u103, u104, u105, u106, u107, u108, u109, u110, u111, u112, u113, u114, u115, u116, u117, u118, u119, u120, u121, u122, u123, u124, u125, u126, u127, u128, u129, u130, u131, u132, u133, u134, u135, u136, u137, u138, u139, u140, u141, u142, u143, u144, u145, u146, u147, u148, u149, u150, u151, u152, u153, u154, u155, u156, u157, u158, u159, u160, u161, u162, u163, u164, u165, u166, u167, u168, u169, u170, u171, u172, u173, u174, u175, u176, u177, u178, u179, u180, u181, u182, u183, u184, u185, u186, u187, u188, u189, u190, u191, u192, u193, u194, u195, u196, u197, u198, u199, u200, u201, u202, u203, u204, u205, u206, u207, u208, u209, u210, u211, u212, u213, u214, u215, u216, u217, u218, u219, u220, u221, u222, u223, u224, u225, u226, u227, u228, u229, u230, u231, u232, u233, u234, u235, u236, u237, u238, u239, u240, u241, u242, u243, u244, u245, u246, u247, u248, u249, u250, u251, u252, u253, u254, u255, u256, u257, u258, u259, u260, u261, u262, u263, u264, u265, u266, u267, u268, u269, u270, u271, u272, u273], []⟩ wc := by
  have s_below := h_below.size
  simp only [tailOf, headOf, Option.getD, Try.f12] at hK ⊢
  go_wp2_with fail
  refine Dr.cut_calls (fun X => (Below w.heap.size w X)) ((by repeat' (first | (with_reducible exact Below.refl _ _) | (with_reducible refine Below.alloc ?_ ?_ _) | (with_reducible refine Below.setCell ?_ ?_ _) | (with_reducible refine Below.drew ?_) | (with_reducible refine Below.trans ?_ (Below.mono (by with_reducible assumption) ?_)) | omega | (simp; done) | (simp; omega)))) ?_
  clear h_below s_below
  intro Y1 h_below
  refine (dSumOfKind_any _ _ _ _ hn (Dr.byt_more (hB.below h_below) h_below.size)).mono ?_
  rintro e X1 ⟨ad4, xs4, c4, k4, a4, b4, rfl, hl4, hr4, hb1⟩
  have h_below0 := h_below
  replace h_below := h_below.trans (hb1.mono h_below.size)
  clear hb1
  have h_x4 := hr4
  clear h_below0
  have s_below := h_below.size
  go_wp2_with fail
  refine Dr.cut_calls (fun X => (Below w.heap.size w X) ∧ (Rd X X.heap.size (some ad4) 3 Bk.enc xs4)) ⟨(by repeat' (first | (with_reducible exact Below.refl _ _) | (with_reducible refine Below.alloc ?_ ?_ _) | (with_reducible refine Below.setCell ?_ ?_ _) | (with_reducible refine Below.drew ?_) | (with_reducible refine Below.trans ?_ (Below.mono (by with_reducible assumption) ?_)) | omega | (simp; done) | (simp; omega))), (h_x4.to (by repeat' (first | (with_reducible exact Below.refl _ _) | (with_reducible refine Below.alloc ?_ ?_ _) | (with_reducible refine Below.setCell ?_ ?_ _) | (with_reducible refine Below.drew ?_) | (with_reducible refine Below.trans ?_ (Below.mono (by with_reducible assumption) ?_)) | omega | (simp; done) | (simp; omega))))⟩ ?_
  clear h_below s_below h_x4
  rintro Y2 ⟨h_below, h_x4⟩
  refine (iSumOfKind_any _ _ _ _ _ _ _ h_x4 (by omega)).mono ?_
  rintro e X2 ⟨rfl, hb2⟩
  have h_below0 := h_below
  replace h_below := h_below.trans (hb2.mono h_below.size)
  replace h_x4 := h_x4.to hb2
  clear hb2
  clear h_below0
  have s_below := h_below.size
  go_wp2_with fail
  refine Dr.cut_calls (fun X => (Below w.heap.size w X) ∧ (Rd X X.heap.size (some ad4) 3 Bk.enc xs4)) ⟨(by repeat' (first | (with_reducible exact Below.refl _ _) | (with_reducible refine Below.alloc ?_ ?_ _) | (with_reducible refine Below.setCell ?_ ?_ _) | (with_reducible refine Below.drew ?_) | (with_reducible refine Below.trans ?_ (Below.mono (by with_reducible assumption) ?_)) | omega | (simp; done) | (simp; omega))), (h_x4.to (by repeat' (first | (with_reducible exact Below.refl _ _) | (with_reducible refine Below.alloc ?_ ?_ _) | (with_reducible refine Below.setCell ?_ ?_ _) | (with_reducible refine Below.drew ?_) | (with_reducible refine Below.trans ?_ (Below.mono (by with_reducible assumption) ?_)) | omega | (simp; done) | (simp; omega))))⟩ ?_
  clear h_below s_below h_x4
  rintro Y3 ⟨h_below, h_x4⟩
  refine (sSumOfKind_any _ _ _ _ _ _ _ h_x4 (by omega)).mono ?_
  rintro e X3 ⟨rfl, hb3⟩
  have h_below0 := h_below
  replace h_below := h_below.trans (hb3.mono h_below.size)
  replace h_x4 := h_x4.to hb3
  clear hb3
  clear h_below0
  have s_below := h_below.size
  go_wp2_with fail
  go_ret
  exact ⟨rfl, h_below.trans (by repeat' (first | (with_reducible exact Below.refl _ _) | (with_reducible refine Below.alloc ?_ ?_ _) | (with_reducible refine Below.setCell ?_ ?_ _) | (with_reducible refine Below.drew ?_) | (with_reducible refine Below.trans ?_ (Below.mono (by with_reducible assumption) ?_)) | omega | (simp; done) | (simp; omega)))⟩
set_option maxRecDepth 100000 in
set_option maxHeartbeats 40000000 in
theorem FnBookings_p9 {u1 u2 u3 u4 u5 u6 u7 u8 u9 u10 u11 u12 u13 u14 u15 u16 u17 u18 u19 u20 u21 u22 u23 u24 u25 u26 u27 u28 u29 u30 u31 u32 u33 u34 u35 u36 u37 u38 u39 u40 u41 u42 u43 u44 u45 u46 u47 u48 u49 u50 u51 u52 u53 u54 u55 u56 u57 u58 u59 u60 u61 u62 u63 u64 u65 u66 u67 u68 u69 u70 u71 u72 u73 u74 u75 u76 u77 u78 u79 u80 u81 u82 u83 u84 u85 u86 u87 u88 u89 u90 u91 u92 u93 u94 u95 u96 u97 u98 u99 u100 u101 u102 u103 u104 u105 u106 u107 u108 u109 u110 u111 u112 u113 u114 u115 u116 u117 u118 u119 u120 u121 u122 u123 u124 u125 u126 u127 u128 u129 u130 u131 u132 u133 u134 u135 u136 u137 u138 u139 u140 u141 u142 u143 u144 u145 u146 u147 u148 u149 u150 u151 u152 u153 u154 u155 u156 u157 u158 u159 u160 u161 u162 u163 u164 u165 u166 u167 u168 u169 u170 u171 u172 u173 u174 u175 u176 u177 u178 u179 u180 u181 u182 u183 u184 u185 u186 u187 u188 u189 u190 u191 u192 u193 u194 u195 u196 u197 u198 u199 u200 u201 u202 u203 u204 u205 u206 u207 u208 u209 u210 u211 u212 u213 u214 u215 u216 u217 u218 u219 u220 u221 u222 u223 u224 u225 u226 u227 u228 u229 u230 u231 u232 u233 u234 u235 u236 u237 u238 u239 u240 u241 u242 u243 u244 u245 u246 u247 u248 u249 u250 u251 u252 u253 u254 u255 u256 u257 u258 u259 u260 u261 u262 u263 u264 u265 u266 u267 u268 u269 u270 u271 u272 u273 : Value} (A : Option Addr) (n c : Nat) (w wc : World) (hn : n ≤ 65536) (hB : Byt w w.heap.size A n) (h_below : Below w.heap.size w wc) (K : Act → World → Prop) (hK : ∀ a w1, (tailOf 10 (Try.f12.body.getD .skip)).wp Try.prog (bodyPost Try.prog Try.f12 fun e w' => e = .returned (.bool true) ∧ Below w.heap.size w w') a w1 → K a w1) :
    (headOf (tailOf 9 (Try.f12.body.getD .skip))).wp Try.prog (Exit.then K (bodyPost Try.prog Try.f12 fun e w' => e = .returned (.bool true) ∧ Below w.heap.size w w')) ⟨#[.slice A n c, u1, u2, u3, u4, u5, u6, u7, u8, u9, u10, u11, u12, u13, u14, u15, u16, u17, u18, u19, u20, u21, u22, u23, u24, u25, u26, u27, u28, u29, u30, u31, u32, u33, u34, u35, u36, u37, u38, u39, u40, u41, u42, u43, u44, u45, u46, u47, u48, u49, u50, u51, u52, u53, u54, u55, u56, u57, u58, u59, u60, u61, u62, u63, u64, u65, u66, u67, u68, u69, u70, u71, u72, u73, u74, u75, u76, u77, u78, u79, u80, u81, u82, u83, u84, u85, u86, u87, u88, u89, u90, u91, u92, u93, u94, u95, u96, u97, u98, u99, u100, u101, u102, u103, u104, u105, u106, u107, u108, u109, u110, u111, u112, u113, u114, u115, u116, u117, u118, u119, u120, u121, u122, u123, u124, u125, u126, u127, u128, u129, u130, u131, u132, u133, u134, u135, u136, u137, u138, u139, u140, u141, u142, u143, u144, u145, u146, u147, u148, u149, u150, u151, u152, u153, u154, u155, u156, u157, u158, u159, u160, u161, u162, u163, u164, u165, u166, u167, u168, u169, u170, u171, u172, u173, u174, u175, u176, u177, u178, u179, u180, u181, u182, u183, u184, u185, u186, u187, u188, u189, u190, u191, u192, u193, u194, u195, u196, u197, u198, u199, u200, u201, u202, u203, u204, u205, u206, u207, u208, u209, u210, u211, u212, u213, u214, u215, u216, u217, u218, u219, u220, u221, u222, u223, u224, u225, u226, u227, u228, u229, u230, u231, u232, u233, u234, u235, u236, u237, u238, u239, u240, u241, u242, u243, u244, u245, u246, u247, u248, u249, u250, u251, u252, u253, u254, u255, u256, u257, u258, u259, u260, u261, u262, u263, u264, u265, u266, u267, u268, u269, u270, u271, u272, u273], []⟩ wc := by
  have s_below := h_below.size
  simp only [tailOf, headOf, Option.getD, Try.f12] at hK ⊢
  go_wp2_with fail
  refine Dr.cut_calls (fun X => (Below w.heap.size w X)) ((by repeat' (first | (with_reducible exact Below.refl _ _) | (with_reducible refine Below.alloc ?_ ?_ _) | (with_reducible refine Below.setCell ?_ ?_ _) | (with_reducible refine Below.drew ?_) | (with_reducible refine Below.trans ?_ (Below.mono (by with_reducible assumption) ?_)) | omega | (simp; done) | (simp; omega)))) ?_
  clear h_below s_below
  intro Y1 h_below
  refine (dLowestStock_any _ _ _ _ hn (Dr.byt_more (hB.below h_below) h_below.size)).mono ?_
  rintro e X1 ⟨ad3, xs3, c3, s3, rfl, hl3, hr3, hb1⟩
  have h_below0 := h_below
  replace h_below := h_below.trans (hb1.mono h_below.size)
  clear hb1
  have h_x3 := hr3
  clear h_below0
  have s_below := h_below.size
  go_wp2_with fail
  refine Dr.cut_calls (fun X => (Below w.heap.size w X) ∧ (Rd X X.heap.size (some ad3) 3 Bk.enc xs3)) ⟨(by repeat' (first | (with_reducible exact Below.refl _ _) | (with_reducible refine Below.alloc ?_ ?_ _) | (with_reducible refine Below.setCell ?_ ?_ _) | (with_reducible refine Below.drew ?_) | (with_reducible refine Below.trans ?_ (Below.mono (by with_reducible assumption) ?_)) | omega | (simp; done) | (simp; omega))), (h_x3.to (by repeat' (first | (with_reducible exact Below.refl _ _) | (with_reducible refine Below.alloc ?_ ?_ _) | (with_reducible refine Below.setCell ?_ ?_ _) | (with_reducible refine Below.drew ?_) | (with_reducible refine Below.trans ?_ (Below.mono (by with_reducible assumption) ?_)) | omega | (simp; done) | (simp; omega))))⟩ ?_
  clear h_below s_below h_x3
  rintro Y2 ⟨h_below, h_x3⟩
  refine (iLowestStock_any _ _ _ _ _ h_x3 (by omega)).mono ?_
  rintro e X2 ⟨rfl, hb2⟩
  have h_below0 := h_below
  replace h_below := h_below.trans (hb2.mono h_below.size)
  replace h_x3 := h_x3.to hb2
  clear hb2
  clear h_below0
  have s_below := h_below.size
  go_wp2_with fail
  refine Dr.cut_calls (fun X => (Below w.heap.size w X) ∧ (Rd X X.heap.size (some ad3) 3 Bk.enc xs3)) ⟨(by repeat' (first | (with_reducible exact Below.refl _ _) | (with_reducible refine Below.alloc ?_ ?_ _) | (with_reducible refine Below.setCell ?_ ?_ _) | (with_reducible refine Below.drew ?_) | (with_reducible refine Below.trans ?_ (Below.mono (by with_reducible assumption) ?_)) | omega | (simp; done) | (simp; omega))), (h_x3.to (by repeat' (first | (with_reducible exact Below.refl _ _) | (with_reducible refine Below.alloc ?_ ?_ _) | (with_reducible refine Below.setCell ?_ ?_ _) | (with_reducible refine Below.drew ?_) | (with_reducible refine Below.trans ?_ (Below.mono (by with_reducible assumption) ?_)) | omega | (simp; done) | (simp; omega))))⟩ ?_
  clear h_below s_below h_x3
  rintro Y3 ⟨h_below, h_x3⟩
  refine (sLowestStock_any _ _ _ _ _ h_x3 (by omega)).mono ?_
  rintro e X3 ⟨rfl, hb3⟩
  have h_below0 := h_below
  replace h_below := h_below.trans (hb3.mono h_below.size)
  replace h_x3 := h_x3.to hb3
  clear hb3
  clear h_below0
  have s_below := h_below.size
  cases hk : losB xs3 s3
  · go_wp2_with fail
    go_loopw [37] (fun i wr => i = .int .i64 0 ∧ Hid (Below w.heap.size w wr)) (fun _ _ => 0)
    case atStart => exact ⟨rfl, Lib.hid (h_below.trans (by repeat' (first | (with_reducible exact Below.refl _ _) | (with_reducible refine Below.alloc ?_ ?_ _) | (with_reducible refine Below.setCell ?_ ?_ _) | (with_reducible refine Below.drew ?_) | (with_reducible refine Below.trans ?_ (Below.mono (by with_reducible assumption) ?_)) | omega | (simp; done) | (simp; omega))))⟩
    case round =>
      clear h_below s_below
      obtain ⟨rfl, hbw⟩ := hrel
      have h_below := hbw.out
      have s_below := h_below.size
      by_cases h0 : 0 < xs3.length
      · have hI : (0 : Int) < xs3.length := by omega
        go_upto_region 41 with (fail)
        exact FnBookings_p13 A n c w _ hn hB (h_below.trans (by repeat' (first | (with_reducible exact Below.refl _ _) | (with_reducible refine Below.alloc ?_ ?_ _) | (with_reducible refine Below.setCell ?_ ?_ _) | (with_reducible refine Below.drew ?_) | (with_reducible refine Below.trans ?_ (Below.mono (by with_reducible assumption) ?_)) | omega | (simp; done) | (simp; omega)))) _ (by assumption)
      · have hI : ¬ (0 : Int) < xs3.length := by omega
        go_upto_region 41 with (fail)
        exact FnBookings_p13 A n c w _ hn hB (h_below.trans (by repeat' (first | (with_reducible exact Below.refl _ _) | (with_reducible refine Below.alloc ?_ ?_ _) | (with_reducible refine Below.setCell ?_ ?_ _) | (with_reducible refine Below.drew ?_) | (with_reducible refine Below.trans ?_ (Below.mono (by with_reducible assumption) ?_)) | omega | (simp; done) | (simp; omega)))) _ (by assumption)
  · go_wp2_with fail
    have HX3 := Lib.hid h_x3
    have HB0 := Lib.hid h_below
    have HK := Lib.hid hk
    clear h_x3 h_below
    go_loopw [37] (fun i wr => ∃ m : Nat, m ≤ xs3.length ∧ i = .int .i64 m ∧ Hid (Below X3.heap.size X3 wr)) (fun i _ => xs3.length - (intOf i).toNat)
    case atStart => exact ⟨0, Nat.zero_le _, rfl, Lib.hid (by repeat' (first | (with_reducible exact Below.refl _ _) | (with_reducible refine Below.alloc ?_ ?_ _) | (with_reducible refine Below.setCell ?_ ?_ _) | (with_reducible refine Below.drew ?_) | (with_reducible refine Below.trans ?_ (Below.mono (by with_reducible assumption) ?_)) | omega | (simp; done) | (simp; omega)))⟩
    case round =>
      obtain ⟨m, hm1, rfl, hbw⟩ := hrel
      have h_x3 := HX3.out.to hbw.out
      have hsX := hbw.out.size
      by_cases hlt : m < xs3.length
      · obtain ⟨b, o, hA, hBo, f0, f1, f2⟩ := bk_cells h_x3 hlt
        obtain rfl := Option.some.inj hA
        clear hA
        have hI : (m : Int) < xs3.length := by omega
        have hI0 : (0 : Int) ≤ m := by omega
        have hlow := low_stock HK.out hlt
        obtain ⟨v, hv⟩ : ∃ v, stoV xs3 s3 (el xs3 m).d = v := ⟨_, rfl⟩
        rw [hv] at hlow
        have hq := Lib.hid (And.intro hv hlow.1)
        have hle := hlow.2
        clear hv hlow
        have HX := Lib.hid h_x3
        clear h_x3
        go_wp2_with fail
        refine (iStockOn_at hq.out _ _ _ (HX.out.to (by repeat' (first | (with_reducible exact Below.refl _ _) | (with_reducible refine Below.alloc ?_ ?_ _) | (with_reducible refine Below.setCell ?_ ?_ _) | (with_reducible refine Below.drew ?_) | (with_reducible refine Below.trans ?_ (Below.mono (by with_reducible assumption) ?_)) | omega | (simp; done) | (simp; omega)))) (by omega)).mono ?_
        rintro e w1 ⟨rfl, hb1⟩
        go_wp2_with fail
        go_roundw
        case rel => exact ⟨m + 1, by omega, by go_num, Lib.hid (hbw.out.trans ((show Below wr.heap.size wr _ from (by repeat' (first | (with_reducible exact Below.refl _ _) | (with_reducible refine Below.alloc ?_ ?_ _) | (with_reducible refine Below.setCell ?_ ?_ _) | (with_reducible refine Below.drew ?_) | (with_reducible refine Below.trans ?_ (Below.mono (by with_reducible assumption) ?_)) | omega | (simp; done) | (simp; omega)))).mono hsX))⟩
        case measure => simp [intOf]; omega
      · have hI : ¬ (m : Int) < xs3.length := by omega
        have h_below := HB0.out.trans (hbw.out.mono s_below)
        replace s_below := h_below.size
        go_upto_region 41 with (fail)
        exact FnBookings_p13 A n c w _ hn hB (h_below.trans (by repeat' (first | (with_reducible exact Below.refl _ _) | (with_reducible refine Below.alloc ?_ ?_ _) | (with_reducible refine Below.setCell ?_ ?_ _) | (with_reducible refine Below.drew ?_) | (with_reducible refine Below.trans ?_ (Below.mono (by with_reducible assumption) ?_)) | omega | (simp; done) | (simp; omega)))) _ (by assumption)
set_option maxRecDepth 100000 in
set_option maxHeartbeats 40000000 in
theorem FnBookings_p6 {u1 u2 u3 u4 u5 u6 u7 u8 u9 u10 u11 u12 u13 u14 u15 u16 u17 u18 u19 u20 u21 u22 u23 u24 u25 u26 u27 u28 u29 u30 u31 u32 u33 u34 u35 u36 u37 u38 u39 u40 u41 u42 u43 u44 u45 u46 u47 u48 u49 u50 u51 u52 u53 u54 u55 u56 u57 u58 u59 u60 u61 u62 u63 u64 u65 u66 u67 u68 u69 u70 u71 u72 u73 u74 u75 u76 u77 u78 u79 u80 u81 u82 u83 u84 u85 u86 u87 u88 u89 u90 u91 u92 u93 u94 u95 u96 u97 u98 u99 u100 u101 u102 u103 u104 u105 u106 u107 u108 u109 u110 u111 u112 u113 u114 u115 u116 u117 u118 u119 u120 u121 u122 u123 u124 u125 u126 u127 u128 u129 u130 u131 u132 u133 u134 u135 u136 u137 u138 u139 u140 u141 u142 u143 u144 u145 u146 u147 u148 u149 u150 u151 u152 u153 u154 u155 u156 u157 u158 u159 u160 u161 u162 u163 u164 u165 u166 u167 u168 u169 u170 u171 u172 u173 u174 u175 u176 u177 u178 u179 u180 u181 u182 u183 u184 u185 u186 u187 u188 u189 u190 u191 u192 u193 u194 u195 u196 u197 u198 u199 u200 u201 u202 u203 u204 u205 u206 u207 u208 u209 u210 u211 u212 u213 u214 u215 u216 u217 u218 u219 u220 u221 u222 u223 u224 u225 u226 u227 u228 u229 u230 u231 u232 u233 u234 u235 u236 u237 u238 u239 u240 u241 u242 u243 u244 u245 u246 u247 u248 u249 u250 u251 u252 u253 u254 u255 u256 u257 u258 u259 u260 u261 u262 u263 u264 u265 u266 u267 u268 u269 u270 u271 u272 u273 : Value} (A : Option Addr) (n c : Nat) (w wc : World) (hn : n ≤ 65536) (hB : Byt w w.heap.size A n) (h_below : Below w.heap.size w wc) (K : Act → World → Prop) (hK : ∀ a w1, (tailOf 7 (Try.f12.body.getD .skip)).wp Try.prog (bodyPost Try.prog Try.f12 fun e w' => e = .returned (.bool true) ∧ Below w.heap.size w w') a w1 → K a w1) :
    (headOf (tailOf 6 (Try.f12.body.getD .skip))).wp Try.prog (Exit.then K (bodyPost Try.prog Try.f12 fun e w' => e = .returned (.bool true) ∧ Below w.heap.size w w')) ⟨#[.slice A n c, u1, u2, u3, u4, u5, u6, u7, u8, u9, u10, u11, u12, u13, u14, u15, u16, u17, u18, u19, u20, u21, u22, u23, u24, u25, u26, u27, u28, u29, u30, u31, u32, u33, u34, u35, u36, u37, u38, u39, u40, u41, u42, u43, u44, u45, u46, u47, u48, u49, u50, u51, u52, u53, u54, u55, u56, u57, u58, u59, u60, u61, u62, u63, u64, u65, u66, u67, u68, u69, u70, u71, u72, u73, u74, u75, u76, u77, u78, u79, u80, u81, u82, u83, u84, u85, u86, u87, u88, u89, u90, u91, u92, u93, u94, u95, u96, u97, u98, u99, u100, u101, u102, u103, u104, u105, u106, u107, u108, u109, u110, u111, u112, u113, u114, u115, u116, u117, u118, u119, u120, u121, u122, u123, u124, u125, u126, u127, u128, u129, u130, u131, u132, u133, u134, u135, u136, u137, u138, u139, u140, u141, u142, u143, u144, u145, u146, u147, u148, u149, u150, u151, u152, u153, u154, u155, u156, u157, u158, u159, u160, u161, u162, u163, u164, u165, u166, u167, u168, u169, u170, u171, u172, u173, u174, u175, u176, u177, u178, u179, u180, u181, u182, u183, u184, u185, u186, u187, u188, u189, u190, u191, u192, u193, u194, u195, u196, u197, u198, u199, u200, u201, u202, u203, u204, u205, u206, u207, u208, u209, u210, u211, u212, u213, u214, u215, u216, u217, u218, u219, u220, u221, u222, u223, u224, u225, u226, u227, u228, u229, u230, u231, u232, u233, u234, u235, u236, u237, u238, u239, u240, u241, u242, u243, u244, u245, u246, u247, u248, u249, u250, u251, u252, u253, u254, u255, u256, u257, u258, u259, u260, u261, u262, u263, u264, u265, u266, u267, u268, u269, u270, u271, u272, u273], []⟩ wc := by
  have s_below := h_below.size
  simp only [tailOf, headOf, Option.getD, Try.f12] at hK ⊢
  go_wp2_with fail
  refine Dr.cut_calls (fun X => (Below w.heap.size w X)) ((by repeat' (first | (with_reducible exact Below.refl _ _) | (with_reducible refine Below.alloc ?_ ?_ _) | (with_reducible refine Below.setCell ?_ ?_ _) | (with_reducible refine Below.drew ?_) | (with_reducible refine Below.trans ?_ (Below.mono (by with_reducible assumption) ?_)) | omega | (simp; done) | (simp; omega)))) ?_
  clear h_below s_below
  intro Y1 h_below
  refine (dDropBooking_any _ _ _ _ hn (Dr.byt_more (hB.below h_below) h_below.size)).mono ?_
  rintro e X1 ⟨b2, o2, xs2, c2, i2, rfl, hl2, hlc2, hr2, hb1⟩
  have h_below0 := h_below
  replace h_below := h_below.trans (hb1.mono h_below.size)
  clear hb1
  have h_x2 := hr2
  clear h_below0
  have s_below := h_below.size
  go_wp2_with fail
  refine Dr.cut_calls (fun X => (Below w.heap.size w X) ∧ (Rd X X.heap.size (some ⟨b2, o2, none⟩) 3 Bk.enc xs2)) ⟨(by repeat' (first | (with_reducible exact Below.refl _ _) | (with_reducible refine Below.alloc ?_ ?_ _) | (with_reducible refine Below.setCell ?_ ?_ _) | (with_reducible refine Below.drew ?_) | (with_reducible refine Below.trans ?_ (Below.mono (by with_reducible assumption) ?_)) | omega | (simp; done) | (simp; omega))), (h_x2.to (by repeat' (first | (with_reducible exact Below.refl _ _) | (with_reducible refine Below.alloc ?_ ?_ _) | (with_reducible refine Below.setCell ?_ ?_ _) | (with_reducible refine Below.drew ?_) | (with_reducible refine Below.trans ?_ (Below.mono (by with_reducible assumption) ?_)) | omega | (simp; done) | (simp; omega))))⟩ ?_
  clear h_below s_below h_x2
  rintro Y2 ⟨h_below, h_x2⟩
  refine (iDropBooking_any _ _ xs2 i2 _ h_x2 (by omega)).mono ?_
  rintro e X2 ⟨A5, c5, rfl, ho5, hb2⟩
  have h_below0 := h_below
  replace h_below := h_below.trans (hb2.mono h_below.size)
  replace h_x2 := h_x2.to hb2
  clear hb2
  have h_o5 := ho5.mono h_below0.size
  clear h_below0
  have s_below := h_below.size
  have hdl := dbL_len xs2 i2
  go_wp2_with fail
  refine Dr.cut_calls (fun X => (Below w.heap.size w X) ∧ (Rd X X.heap.size (some ⟨b2, o2, none⟩) 3 Bk.enc xs2) ∧ (OwnAt X w.heap.size 45 ((dbL xs2 i2).flatMap Bk.enc) (dbL xs2 i2).length A5)) ⟨(by repeat' (first | (with_reducible exact Below.refl _ _) | (with_reducible refine Below.alloc ?_ ?_ _) | (with_reducible refine Below.setCell ?_ ?_ _) | (with_reducible refine Below.drew ?_) | (with_reducible refine Below.trans ?_ (Below.mono (by with_reducible assumption) ?_)) | omega | (simp; done) | (simp; omega))), (h_x2.to (by repeat' (first | (with_reducible exact Below.refl _ _) | (with_reducible refine Below.alloc ?_ ?_ _) | (with_reducible refine Below.setCell ?_ ?_ _) | (with_reducible refine Below.drew ?_) | (with_reducible refine Below.trans ?_ (Below.mono (by with_reducible assumption) ?_)) | omega | (simp; done) | (simp; omega)))), (h_o5.to (by repeat' (first | (with_reducible exact Below.refl _ _) | (with_reducible refine Below.alloc ?_ ?_ _) | (with_reducible refine Below.setCell ?_ ?_ _) | (with_reducible refine Below.drew ?_) | (with_reducible refine Below.trans ?_ (Below.mono (by with_reducible assumption) ?_)) | omega | (simp; done) | (simp; omega))))⟩ ?_
  clear h_below s_below h_x2 h_o5
  rintro Y3 ⟨h_below, h_x2, h_o5⟩
  refine (sDropBooking_any _ _ xs2 i2 _ h_x2 (by omega) hlc2).mono ?_
  rintro e X3 ⟨A6, c6, rfl, ho6, hb3⟩
  have h_below0 := h_below
  replace h_below := h_below.trans (hb3.mono h_below.size)
  replace h_o5 := h_o5.to hb3
  clear hb3
  have h_o6 := ho6.mono h_below0.size
  clear h_below0
  have s_below := h_below.size
  clear h_x2
  go_wp2_with fail
  refine Dr.cut_calls (fun X => (Below w.heap.size w X) ∧ (OwnAt X w.heap.size 45 ((dbL xs2 i2).flatMap Bk.enc) (dbL xs2 i2).length A5) ∧ (OwnAt X w.heap.size 45 ((dbL xs2 i2).flatMap Bk.enc) (dbL xs2 i2).length A6)) ⟨(by repeat' (first | (with_reducible exact Below.refl _ _) | (with_reducible refine Below.alloc ?_ ?_ _) | (with_reducible refine Below.setCell ?_ ?_ _) | (with_reducible refine Below.drew ?_) | (with_reducible refine Below.trans ?_ (Below.mono (by with_reducible assumption) ?_)) | omega | (simp; done) | (simp; omega))), (h_o5.to (by repeat' (first | (with_reducible exact Below.refl _ _) | (with_reducible refine Below.alloc ?_ ?_ _) | (with_reducible refine Below.setCell ?_ ?_ _) | (with_reducible refine Below.drew ?_) | (with_reducible refine Below.trans ?_ (Below.mono (by with_reducible assumption) ?_)) | omega | (simp; done) | (simp; omega)))), (h_o6.to (by repeat' (first | (with_reducible exact Below.refl _ _) | (with_reducible refine Below.alloc ?_ ?_ _) | (with_reducible refine Below.setCell ?_ ?_ _) | (with_reducible refine Below.drew ?_) | (with_reducible refine Below.trans ?_ (Below.mono (by with_reducible assumption) ?_)) | omega | (simp; done) | (simp; omega))))⟩ ?_
  clear h_below s_below h_o5 h_o6
  rintro Y4 ⟨h_below, h_o5, h_o6⟩
  refine (vBookings_same _ _ _ _ _ _ (h_o5.rd Bk.enc_len) (h_o6.rd Bk.enc_len) (by omega)).mono ?_
  rintro e X4 ⟨rfl, hb4⟩
  have h_below0 := h_below
  replace h_below := h_below.trans (hb4.mono h_below.size)
  clear hb4
  clear h_below0
  have s_below := h_below.size
  clear h_o5
  clear h_o6
  go_upto_region 30 with (fail)
  exact FnBookings_p9 A n c w _ hn hB (h_below.trans (by repeat' (first | (with_reducible exact Below.refl _ _) | (with_reducible refine Below.alloc ?_ ?_ _) | (with_reducible refine Below.setCell ?_ ?_ _) | (with_reducible refine Below.drew ?_) | (with_reducible refine Below.trans ?_ (Below.mono (by with_reducible assumption) ?_)) | omega | (simp; done) | (simp; omega))))  _ (by assumption)
set_option maxRecDepth 100000 in
set_option maxHeartbeats 40000000 in
theorem FnBookings_law (A : Option Addr) (n c : Nat) (w : World) (hB : Byt w w.heap.size A n) :
    Calls Try.prog 12 #[.slice A n c] w fun e w' => e = .returned (.bool true) ∧ Below w.heap.size w w' := by
  by_cases hn : n ≤ 65536
  · have hn' : ¬ 65536 < n := by omega
    go_enter Try.func12, Try.ntmps12
    go_wp2_with (first | (go_at_call 35; refine (vBig_any _ _ _ _).mono ?_; rintro e wX ⟨rfl, rfl⟩))
    refine Dr.cut_calls (fun X => (Below w.heap.size w X)) ((by repeat' (first | (with_reducible exact Below.refl _ _) | (with_reducible refine Below.alloc ?_ ?_ _) | (with_reducible refine Below.setCell ?_ ?_ _) | (with_reducible refine Below.drew ?_) | (with_reducible refine Below.trans ?_ (Below.mono (by with_reducible assumption) ?_)) | omega | (simp; done) | (simp; omega)))) ?_
    intro Y1 h_below
    refine (dPutBooking_any _ _ _ _ hn (Dr.byt_more (hB.below h_below) h_below.size)).mono ?_
    rintro e X1 ⟨b1, o1, xs1, c1, d, k, q, rfl, hl1, hlc, hr1, hz1, hb1⟩
    have h_below0 := h_below
    replace h_below := h_below.trans (hb1.mono h_below.size)
    clear hb1
    have h_x1 := hr1
    clear h_below0
    have s_below := h_below.size
    go_wp2_with fail
    refine Dr.cut_calls (fun X => (Below w.heap.size w X) ∧ (Rd X X.heap.size (some ⟨b1, o1, none⟩) 3 Bk.enc xs1) ∧ (Row X (X1.heap.size) 45 [.int .i64 d, .int .i64 k, .int .i64 q])) ⟨(by repeat' (first | (with_reducible exact Below.refl _ _) | (with_reducible refine Below.alloc ?_ ?_ _) | (with_reducible refine Below.setCell ?_ ?_ _) | (with_reducible refine Below.drew ?_) | (with_reducible refine Below.trans ?_ (Below.mono (by with_reducible assumption) ?_)) | omega | (simp; done) | (simp; omega))), (h_x1.to (by repeat' (first | (with_reducible exact Below.refl _ _) | (with_reducible refine Below.alloc ?_ ?_ _) | (with_reducible refine Below.setCell ?_ ?_ _) | (with_reducible refine Below.drew ?_) | (with_reducible refine Below.trans ?_ (Below.mono (by with_reducible assumption) ?_)) | omega | (simp; done) | (simp; omega)))), (by first | exact Row.new _ _ _ | exact (Row.new _ _ _).to (by repeat' (first | (with_reducible exact Below.refl _ _) | (with_reducible refine Below.alloc ?_ ?_ _) | (with_reducible refine Below.setCell ?_ ?_ _) | (with_reducible refine Below.drew ?_) | (with_reducible refine Below.trans ?_ (Below.mono (by with_reducible assumption) ?_)) | omega | (simp; done) | (simp; omega))) | exact row_new_at _ _ _ _ (by simp) | exact (row_new_at _ _ _ _ (by simp)).to (by repeat' (first | (with_reducible exact Below.refl _ _) | (with_reducible refine Below.alloc ?_ ?_ _) | (with_reducible refine Below.setCell ?_ ?_ _) | (with_reducible refine Below.drew ?_) | (with_reducible refine Below.trans ?_ (Below.mono (by with_reducible assumption) ?_)) | omega | (simp; done) | (simp; omega))))⟩ ?_
    clear h_below s_below h_x1
    obtain ⟨BX2, hBX2⟩ : ∃ B, X1.heap.size = B := ⟨_, rfl⟩
    simp only [hBX2]
    clear hBX2
    rintro Y2 ⟨h_below, h_x1, h_pb⟩
    refine (iPutBooking_any _ _ xs1 d k q _ h_x1 (by omega)).mono ?_
    rintro e X2 ⟨A1, c2, rfl, hoP, hb2⟩
    have h_below0 := h_below
    replace h_below := h_below.trans (hb2.mono h_below.size)
    replace h_x1 := h_x1.to hb2
    replace h_pb := Row.to h_pb hb2
    clear hb2
    have h_o1 := hoP.mono h_below0.size
    clear h_below0
    have s_below := h_below.size
    have hpl := pbL_len xs1 ⟨d, k, q⟩
    have l_pb := Row.lt h_pb
    have z_pb := Row.frozen h_pb
    obtain ⟨c_pb0, c_pb1, c_pb2⟩ := row3c h_pb
    go_wp2_with fail
    refine Dr.cut_calls (fun X => (Below w.heap.size w X) ∧ (Rd X X.heap.size (some ⟨b1, o1, none⟩) 3 Bk.enc xs1) ∧ (Row X (BX2) 45 [.int .i64 d, .int .i64 k, .int .i64 q]) ∧ (OwnAt X w.heap.size 45 (((pbL xs1 ⟨d, k, q⟩)).flatMap Bk.enc) ((pbL xs1 ⟨d, k, q⟩)).length A1)) ⟨(by repeat' (first | (with_reducible exact Below.refl _ _) | (with_reducible refine Below.alloc ?_ ?_ _) | (with_reducible refine Below.setCell ?_ ?_ _) | (with_reducible refine Below.drew ?_) | (with_reducible refine Below.trans ?_ (Below.mono (by with_reducible assumption) ?_)) | omega | (simp; done) | (simp; omega))), (h_x1.to (by repeat' (first | (with_reducible exact Below.refl _ _) | (with_reducible refine Below.alloc ?_ ?_ _) | (with_reducible refine Below.setCell ?_ ?_ _) | (with_reducible refine Below.drew ?_) | (with_reducible refine Below.trans ?_ (Below.mono (by with_reducible assumption) ?_)) | omega | (simp; done) | (simp; omega)))), (Row.to h_pb (by repeat' (first | (with_reducible exact Below.refl _ _) | (with_reducible refine Below.alloc ?_ ?_ _) | (with_reducible refine Below.setCell ?_ ?_ _) | (with_reducible refine Below.drew ?_) | (with_reducible refine Below.trans ?_ (Below.mono (by with_reducible assumption) ?_)) | omega | (simp; done) | (simp; omega)))), (h_o1.to (by repeat' (first | (with_reducible exact Below.refl _ _) | (with_reducible refine Below.alloc ?_ ?_ _) | (with_reducible refine Below.setCell ?_ ?_ _) | (with_reducible refine Below.drew ?_) | (with_reducible refine Below.trans ?_ (Below.mono (by with_reducible assumption) ?_)) | omega | (simp; done) | (simp; omega))))⟩ ?_
    clear h_below s_below h_x1 h_pb l_pb z_pb c_pb0 c_pb1 c_pb2 h_o1
    rintro Y3 ⟨h_below, h_x1, h_pb, h_o1⟩
    refine (sPutBooking_at _ _ _ xs1 d k q _ h_x1 (by omega) hlc hz1.out).mono ?_
    rintro e X3 ⟨A2, c3, rfl, hoQ, hb3⟩
    have h_below0 := h_below
    replace h_below := h_below.trans (hb3.mono h_below.size)
    replace h_x1 := h_x1.to hb3
    replace h_pb := Row.to h_pb hb3
    replace h_o1 := h_o1.to hb3
    clear hb3
    have h_o2 := hoQ.mono h_below0.size
    clear h_below0
    have s_below := h_below.size
    have l_pb := Row.lt h_pb
    have z_pb := Row.frozen h_pb
    obtain ⟨c_pb0, c_pb1, c_pb2⟩ := row3c h_pb
    go_wp2_with fail
    refine Dr.cut_calls (fun X => (Below w.heap.size w X) ∧ (Rd X X.heap.size (some ⟨b1, o1, none⟩) 3 Bk.enc xs1) ∧ (Row X (BX2) 45 [.int .i64 d, .int .i64 k, .int .i64 q]) ∧ (OwnAt X w.heap.size 45 (((pbL xs1 ⟨d, k, q⟩)).flatMap Bk.enc) ((pbL xs1 ⟨d, k, q⟩)).length A1) ∧ (OwnAt X w.heap.size 45 (((pbL xs1 ⟨d, k, q⟩)).flatMap Bk.enc) ((pbL xs1 ⟨d, k, q⟩)).length A2)) ⟨(by repeat' (first | (with_reducible exact Below.refl _ _) | (with_reducible refine Below.alloc ?_ ?_ _) | (with_reducible refine Below.setCell ?_ ?_ _) | (with_reducible refine Below.drew ?_) | (with_reducible refine Below.trans ?_ (Below.mono (by with_reducible assumption) ?_)) | omega | (simp; done) | (simp; omega))), (h_x1.to (by repeat' (first | (with_reducible exact Below.refl _ _) | (with_reducible refine Below.alloc ?_ ?_ _) | (with_reducible refine Below.setCell ?_ ?_ _) | (with_reducible refine Below.drew ?_) | (with_reducible refine Below.trans ?_ (Below.mono (by with_reducible assumption) ?_)) | omega | (simp; done) | (simp; omega)))), (Row.to h_pb (by repeat' (first | (with_reducible exact Below.refl _ _) | (with_reducible refine Below.alloc ?_ ?_ _) | (with_reducible refine Below.setCell ?_ ?_ _) | (with_reducible refine Below.drew ?_) | (with_reducible refine Below.trans ?_ (Below.mono (by with_reducible assumption) ?_)) | omega | (simp; done) | (simp; omega)))), (h_o1.to (by repeat' (first | (with_reducible exact Below.refl _ _) | (with_reducible refine Below.alloc ?_ ?_ _) | (with_reducible refine Below.setCell ?_ ?_ _) | (with_reducible refine Below.drew ?_) | (with_reducible refine Below.trans ?_ (Below.mono (by with_reducible assumption) ?_)) | omega | (simp; done) | (simp; omega)))), (h_o2.to (by repeat' (first | (with_reducible exact Below.refl _ _) | (with_reducible refine Below.alloc ?_ ?_ _) | (with_reducible refine Below.setCell ?_ ?_ _) | (with_reducible refine Below.drew ?_) | (with_reducible refine Below.trans ?_ (Below.mono (by with_reducible assumption) ?_)) | omega | (simp; done) | (simp; omega))))⟩ ?_
    clear h_below s_below h_x1 h_pb l_pb z_pb c_pb0 c_pb1 c_pb2 h_o1 h_o2
    rintro Y4 ⟨h_below, h_x1, h_pb, h_o1, h_o2⟩
    refine (vBookings_same _ _ _ _ _ _ (h_o1.rd Bk.enc_len) (h_o2.rd Bk.enc_len) (by omega)).mono ?_
    rintro e X4 ⟨rfl, hb4⟩
    have h_below0 := h_below
    replace h_below := h_below.trans (hb4.mono h_below.size)
    replace h_x1 := h_x1.to hb4
    replace h_pb := Row.to h_pb hb4
    replace h_o1 := h_o1.to hb4
    clear hb4
    clear h_below0
    have s_below := h_below.size
    clear h_o2
    have l_pb := Row.lt h_pb
    have z_pb := Row.frozen h_pb
    obtain ⟨c_pb0, c_pb1, c_pb2⟩ := row3c h_pb
    cases hk : pbB xs1 ⟨d, k, q⟩
    · go_upto_region 25 with (fail)
      exact FnBookings_p6 A n c w _ hn hB (h_below.trans (by repeat' (first | (with_reducible exact Below.refl _ _) | (with_reducible refine Below.alloc ?_ ?_ _) | (with_reducible refine Below.setCell ?_ ?_ _) | (with_reducible refine Below.drew ?_) | (with_reducible refine Below.trans ?_ (Below.mono (by with_reducible assumption) ?_)) | omega | (simp; done) | (simp; omega))))  _ (by assumption)
    · obtain ⟨e1, e2, e3, e4, e5⟩ := put_law hk
      obtain ⟨ad1, rfl⟩ := own_some e5 h_o1
      obtain ⟨s1, s2, s3, s4⟩ := sum_law e4
      have E1 := Lib.hid e1
      have E23 := Lib.hid (And.intro e3 e2)
      have S12 := Lib.hid (And.intro s2 s1)
      have S3 := Lib.hid s3
      have S4 := Lib.hid s4
      clear e1 e2 e3 e4 e5 s1 s2 s3 s4
      have HX1 := Lib.hid h_x1
      have HO1 := Lib.hid h_o1
      have HPB := Lib.hid h_pb
      have HB0 := Lib.hid h_below
      clear h_x1 h_o1 h_pb c_pb0 c_pb1 c_pb2 z_pb l_pb h_below
      have hpn : (pbL xs1 ⟨d, k, q⟩).length ≤ 20 := hpl
      go_wp2_with fail
      go_loopw [9, 10] (fun v i wr => ∃ m : Nat, m ≤ (pbL xs1 ⟨d, k, q⟩).length ∧ i = .int .i64 m ∧ v = .int .i64 (laE (pbL xs1 ⟨d, k, q⟩) ⟨d, k, q⟩ m) ∧ Hid (Below X4.heap.size X4 wr)) (fun _ i _ => (pbL xs1 ⟨d, k, q⟩).length - (intOf i).toNat)
      case atStart => exact ⟨0, Nat.zero_le _, rfl, rfl, Lib.hid (by repeat' (first | (with_reducible exact Below.refl _ _) | (with_reducible refine Below.alloc ?_ ?_ _) | (with_reducible refine Below.setCell ?_ ?_ _) | (with_reducible refine Below.drew ?_) | (with_reducible refine Below.trans ?_ (Below.mono (by with_reducible assumption) ?_)) | omega | (simp; done) | (simp; omega)))⟩
      case round =>
        obtain ⟨m, hm1, rfl, rfl, hbw⟩ := hrel
        have h_o1 := OwnAt.to HO1.out hbw.out
        have h_pb := Row.to HPB.out hbw.out
        have hsX := hbw.out.size
        obtain ⟨c_pb0, c_pb1, c_pb2⟩ := row3c h_pb
        have l_pb := h_pb.lt
        by_cases hlt : m < (pbL xs1 ⟨d, k, q⟩).length
        · obtain ⟨b, o, hA, hBo, f0, f1, f2⟩ := bk_cells (h_o1.rd Bk.enc_len) hlt
          obtain rfl := Option.some.inj hA
          clear h_o1 h_pb hA
          have hI : (m : Int) < (pbL xs1 ⟨d, k, q⟩).length := by omega
          have hI0 : (0 : Int) ≤ m := by omega
          cases gd : ((el (pbL xs1 ⟨d, k, q⟩) m).d == d)
          · have HE := Lib.hid (laE_no (ys := (pbL xs1 ⟨d, k, q⟩)) (x := ⟨d, k, q⟩) (n := m) (by simp [bkEq, gd]))
            go_wp2_with (first | (go_at_call 35; refine (vBig_any _ _ _ _).mono ?_; rintro e wX ⟨rfl, rfl⟩))
            refine wp_region_quiet_below (by kernel_rfl) (by kernel_rfl) ?_
            repeat (go_big_quiet_step (fail))
            (refine wpQuiet_nil ?_; intro w1 hwq; have hb1 := of_cls hwq; clear hwq)
            (have hs1 := hb1.size; (try simp at hs1); obtain ⟨hc1, hf1, hn1⟩ := bcell hb1; (try have hz1_wr_0 : wr.heap.size < w1.heap.size := by omega); (try have hz1_wr_1 : wr.heap.size + 1 < w1.heap.size := by omega); (try have hz1_wr_2 : wr.heap.size + 2 < w1.heap.size := by omega); (try have hB1 : b < w1.heap.size := by omega); (try have hB2 : b' < w1.heap.size := by omega); (try have hz1_wr_2b : wr.heap.size + 1 + 1 < w1.heap.size := by omega); (try have hz1_w_0 : w.heap.size < w1.heap.size := by omega); (try have hz1_w_1 : w.heap.size + 1 < w1.heap.size := by omega); (try have hz1_w_2 : w.heap.size + 2 < w1.heap.size := by omega); (try have hz1_w_2b : w.heap.size + 1 + 1 < w1.heap.size := by omega))
            go_wp2_with fail
            go_roundw
            case rel => exact ⟨m + 1, by omega, by go_num, by rw [HE.out], Lib.hid (hbw.out.trans (hb1.mono hsX))⟩
            case measure => simp [intOf]; omega
          · cases gk : ((el (pbL xs1 ⟨d, k, q⟩) m).k == k)
            · have HE := Lib.hid (laE_no (ys := (pbL xs1 ⟨d, k, q⟩)) (x := ⟨d, k, q⟩) (n := m) (by simp [bkEq, gd, gk]))
              go_wp2_with (first | (go_at_call 35; refine (vBig_any _ _ _ _).mono ?_; rintro e wX ⟨rfl, rfl⟩))
              refine wp_region_quiet_below (by kernel_rfl) (by kernel_rfl) ?_
              repeat (go_big_quiet_step (fail))
              (refine wpQuiet_nil ?_; intro w1 hwq; have hb1 := of_cls hwq; clear hwq)
              (have hs1 := hb1.size; (try simp at hs1); obtain ⟨hc1, hf1, hn1⟩ := bcell hb1; (try have hz1_wr_0 : wr.heap.size < w1.heap.size := by omega); (try have hz1_wr_1 : wr.heap.size + 1 < w1.heap.size := by omega); (try have hz1_wr_2 : wr.heap.size + 2 < w1.heap.size := by omega); (try have hB1 : b < w1.heap.size := by omega); (try have hB2 : b' < w1.heap.size := by omega); (try have hz1_wr_2b : wr.heap.size + 1 + 1 < w1.heap.size := by omega); (try have hz1_w_0 : w.heap.size < w1.heap.size := by omega); (try have hz1_w_1 : w.heap.size + 1 < w1.heap.size := by omega); (try have hz1_w_2 : w.heap.size + 2 < w1.heap.size := by omega); (try have hz1_w_2b : w.heap.size + 1 + 1 < w1.heap.size := by omega))
              go_wp2_with fail
              go_roundw
              case rel => exact ⟨m + 1, by omega, by go_num, by rw [HE.out], Lib.hid (hbw.out.trans (hb1.mono hsX))⟩
              case measure => simp [intOf]; omega
            · cases gq : ((el (pbL xs1 ⟨d, k, q⟩) m).q == q)
              · have HE := Lib.hid (laE_no (ys := (pbL xs1 ⟨d, k, q⟩)) (x := ⟨d, k, q⟩) (n := m) (by simp [bkEq, gd, gk, gq]))
                go_wp2_with (first | (go_at_call 35; refine (vBig_any _ _ _ _).mono ?_; rintro e wX ⟨rfl, rfl⟩))
                refine wp_region_quiet_below (by kernel_rfl) (by kernel_rfl) ?_
                repeat (go_big_quiet_step (fail))
                (refine wpQuiet_nil ?_; intro w1 hwq; have hb1 := of_cls hwq; clear hwq)
                (have hs1 := hb1.size; (try simp at hs1); obtain ⟨hc1, hf1, hn1⟩ := bcell hb1; (try have hz1_wr_0 : wr.heap.size < w1.heap.size := by omega); (try have hz1_wr_1 : wr.heap.size + 1 < w1.heap.size := by omega); (try have hz1_wr_2 : wr.heap.size + 2 < w1.heap.size := by omega); (try have hB1 : b < w1.heap.size := by omega); (try have hB2 : b' < w1.heap.size := by omega); (try have hz1_wr_2b : wr.heap.size + 1 + 1 < w1.heap.size := by omega); (try have hz1_w_0 : w.heap.size < w1.heap.size := by omega); (try have hz1_w_1 : w.heap.size + 1 < w1.heap.size := by omega); (try have hz1_w_2 : w.heap.size + 2 < w1.heap.size := by omega); (try have hz1_w_2b : w.heap.size + 1 + 1 < w1.heap.size := by omega))
                go_wp2_with fail
                go_roundw
                case rel => exact ⟨m + 1, by omega, by go_num, by rw [HE.out], Lib.hid (hbw.out.trans (hb1.mono hsX))⟩
                case measure => simp [intOf]; omega
              · have HE := Lib.hid (laE_yes (ys := (pbL xs1 ⟨d, k, q⟩)) (x := ⟨d, k, q⟩) (n := m) (by simp [bkEq, gd, gk, gq]))
                go_wp2_with (first | (go_at_call 35; refine (vBig_any _ _ _ _).mono ?_; rintro e wX ⟨rfl, rfl⟩))
                refine wp_region_quiet_below (by kernel_rfl) (by kernel_rfl) ?_
                repeat (go_big_quiet_step (fail))
                (refine wpQuiet_nil ?_; intro w1 hwq; have hb1 := of_cls hwq; clear hwq)
                (have hs1 := hb1.size; (try simp at hs1); obtain ⟨hc1, hf1, hn1⟩ := bcell hb1; (try have hz1_wr_0 : wr.heap.size < w1.heap.size := by omega); (try have hz1_wr_1 : wr.heap.size + 1 < w1.heap.size := by omega); (try have hz1_wr_2 : wr.heap.size + 2 < w1.heap.size := by omega); (try have hB1 : b < w1.heap.size := by omega); (try have hB2 : b' < w1.heap.size := by omega); (try have hz1_wr_2b : wr.heap.size + 1 + 1 < w1.heap.size := by omega); (try have hz1_w_0 : w.heap.size < w1.heap.size := by omega); (try have hz1_w_1 : w.heap.size + 1 < w1.heap.size := by omega); (try have hz1_w_2 : w.heap.size + 2 < w1.heap.size := by omega); (try have hz1_w_2b : w.heap.size + 1 + 1 < w1.heap.size := by omega))
                go_wp2_with fail
                go_roundw
                case rel => exact ⟨m + 1, by omega, by go_num, by rw [HE.out], Lib.hid (hbw.out.trans (hb1.mono hsX))⟩
                case measure => simp [intOf]; omega
        · obtain rfl : m = (pbL xs1 ⟨d, k, q⟩).length := by omega
          have hI : ¬ (((pbL xs1 ⟨d, k, q⟩).length : Nat) : Int) < (pbL xs1 ⟨d, k, q⟩).length := by omega
          have h_below := HB0.out.trans (hbw.out.mono s_below)
          replace s_below := h_below.size
          have h_x1 := HX1.out.to hbw.out
          obtain ⟨v1, hv1⟩ : ∃ v, sokV (pbL xs1 ⟨d, k, q⟩) 1 0 4000 = v := ⟨_, rfl⟩
          obtain ⟨v2, hv2⟩ : ∃ v, sokV (pbL xs1 ⟨d, k, q⟩) 2 0 4000 = v := ⟨_, rfl⟩
          obtain ⟨v3, hv3⟩ : ∃ v, sokV (pbL xs1 ⟨d, k, q⟩) 3 0 4000 = v := ⟨_, rfl⟩
          obtain ⟨v4, hv4⟩ : ∃ v, sokV (pbL xs1 ⟨d, k, q⟩) 4 0 4000 = v := ⟨_, rfl⟩
          have q1 := S4.out 1
          have q2 := S4.out 2
          have q3 := S4.out 3
          have q4 := S4.out 4
          have q5 := S12.out
          rw [hv1] at q1 q5
          rw [hv2] at q2 q5
          rw [hv3] at q3 q5
          rw [hv4] at q4 q5
          have q5 := Lib.hid q5
          have k1 := Lib.hid (And.intro hv1 (S3.out 1 (by omega) (by omega)))
          have k2 := Lib.hid (And.intro hv2 (S3.out 2 (by omega) (by omega)))
          have k3 := Lib.hid (And.intro hv3 (S3.out 3 (by omega) (by omega)))
          have k4 := Lib.hid (And.intro hv4 (S3.out 4 (by omega) (by omega)))
          clear hv1 hv2 hv3 hv4 S3 S4 S12 h_pb c_pb0 c_pb1 c_pb2 l_pb hbw HB0 HX1 HO1 HPB hsX
          simp only [E1.out]
          go_wp2_with fail
          refine Dr.cut_calls (fun X => (Below w.heap.size w X) ∧ (Rd X X.heap.size (some ⟨b1, o1, none⟩) 3 Bk.enc xs1) ∧ (OwnAt X w.heap.size 45 (((pbL xs1 ⟨d, k, q⟩)).flatMap Bk.enc) ((pbL xs1 ⟨d, k, q⟩)).length (some ad1))) ⟨(by repeat' (first | (with_reducible exact Below.refl _ _) | (with_reducible refine Below.alloc ?_ ?_ _) | (with_reducible refine Below.setCell ?_ ?_ _) | (with_reducible refine Below.drew ?_) | (with_reducible refine Below.trans ?_ (Below.mono (by with_reducible assumption) ?_)) | omega | (simp; done) | (simp; omega))), (h_x1.to (by repeat' (first | (with_reducible exact Below.refl _ _) | (with_reducible refine Below.alloc ?_ ?_ _) | (with_reducible refine Below.setCell ?_ ?_ _) | (with_reducible refine Below.drew ?_) | (with_reducible refine Below.trans ?_ (Below.mono (by with_reducible assumption) ?_)) | omega | (simp; done) | (simp; omega)))), (h_o1.to (by repeat' (first | (with_reducible exact Below.refl _ _) | (with_reducible refine Below.alloc ?_ ?_ _) | (with_reducible refine Below.setCell ?_ ?_ _) | (with_reducible refine Below.drew ?_) | (with_reducible refine Below.trans ?_ (Below.mono (by with_reducible assumption) ?_)) | omega | (simp; done) | (simp; omega))))⟩ ?_
          clear h_below s_below h_x1 h_o1
          rintro Y5 ⟨h_below, h_x1, h_o1⟩
          refine (iDropBooking_at E23.out _ _ _ (h_o1.rd Bk.enc_len) (by omega)).mono ?_
          rintro e X5 ⟨A4, c4, rfl, hoD, hb5⟩
          have h_below0 := h_below
          replace h_below := h_below.trans (hb5.mono h_below.size)
          replace h_x1 := h_x1.to hb5
          replace h_o1 := h_o1.to hb5
          clear hb5
          have h_od := hoD.mono h_below0.size
          clear h_below0
          have s_below := h_below.size
          go_wp2_with fail
          refine Dr.cut_calls (fun X => (Below w.heap.size w X) ∧ (Rd X X.heap.size (some ⟨b1, o1, none⟩) 3 Bk.enc xs1) ∧ (OwnAt X w.heap.size 45 (((pbL xs1 ⟨d, k, q⟩)).flatMap Bk.enc) ((pbL xs1 ⟨d, k, q⟩)).length (some ad1)) ∧ (OwnAt X w.heap.size 45 ((xs1).flatMap Bk.enc) (xs1).length A4)) ⟨(by repeat' (first | (with_reducible exact Below.refl _ _) | (with_reducible refine Below.alloc ?_ ?_ _) | (with_reducible refine Below.setCell ?_ ?_ _) | (with_reducible refine Below.drew ?_) | (with_reducible refine Below.trans ?_ (Below.mono (by with_reducible assumption) ?_)) | omega | (simp; done) | (simp; omega))), (h_x1.to (by repeat' (first | (with_reducible exact Below.refl _ _) | (with_reducible refine Below.alloc ?_ ?_ _) | (with_reducible refine Below.setCell ?_ ?_ _) | (with_reducible refine Below.drew ?_) | (with_reducible refine Below.trans ?_ (Below.mono (by with_reducible assumption) ?_)) | omega | (simp; done) | (simp; omega)))), (h_o1.to (by repeat' (first | (with_reducible exact Below.refl _ _) | (with_reducible refine Below.alloc ?_ ?_ _) | (with_reducible refine Below.setCell ?_ ?_ _) | (with_reducible refine Below.drew ?_) | (with_reducible refine Below.trans ?_ (Below.mono (by with_reducible assumption) ?_)) | omega | (simp; done) | (simp; omega)))), (h_od.to (by repeat' (first | (with_reducible exact Below.refl _ _) | (with_reducible refine Below.alloc ?_ ?_ _) | (with_reducible refine Below.setCell ?_ ?_ _) | (with_reducible refine Below.drew ?_) | (with_reducible refine Below.trans ?_ (Below.mono (by with_reducible assumption) ?_)) | omega | (simp; done) | (simp; omega))))⟩ ?_
          clear h_below s_below h_x1 h_o1 h_od
          rintro Y6 ⟨h_below, h_x1, h_o1, h_od⟩
          refine (vBookings_same _ _ _ _ _ _ (h_od.rd Bk.enc_len) h_x1 (by omega)).mono ?_
          rintro e X6 ⟨rfl, hb6⟩
          have h_below0 := h_below
          replace h_below := h_below.trans (hb6.mono h_below.size)
          replace h_o1 := h_o1.to hb6
          clear hb6
          clear h_below0
          have s_below := h_below.size
          clear h_od
          clear h_x1
          go_wp2_with fail
          refine Dr.cut_calls (fun X => (Below w.heap.size w X) ∧ (OwnAt X w.heap.size 45 (((pbL xs1 ⟨d, k, q⟩)).flatMap Bk.enc) ((pbL xs1 ⟨d, k, q⟩)).length (some ad1))) ⟨(by repeat' (first | (with_reducible exact Below.refl _ _) | (with_reducible refine Below.alloc ?_ ?_ _) | (with_reducible refine Below.setCell ?_ ?_ _) | (with_reducible refine Below.drew ?_) | (with_reducible refine Below.trans ?_ (Below.mono (by with_reducible assumption) ?_)) | omega | (simp; done) | (simp; omega))), (h_o1.to (by repeat' (first | (with_reducible exact Below.refl _ _) | (with_reducible refine Below.alloc ?_ ?_ _) | (with_reducible refine Below.setCell ?_ ?_ _) | (with_reducible refine Below.drew ?_) | (with_reducible refine Below.trans ?_ (Below.mono (by with_reducible assumption) ?_)) | omega | (simp; done) | (simp; omega))))⟩ ?_
          clear h_below s_below h_o1
          rintro Y7 ⟨h_below, h_o1⟩
          refine (iSumOfKind_at k1.out _ _ _ (h_o1.rd Bk.enc_len) (by omega)).mono ?_
          rintro e X7 ⟨rfl, hb7⟩
          have h_below0 := h_below
          replace h_below := h_below.trans (hb7.mono h_below.size)
          replace h_o1 := h_o1.to hb7
          clear hb7
          clear h_below0
          have s_below := h_below.size
          go_wp2_with fail
          refine Dr.cut_calls (fun X => (Below w.heap.size w X) ∧ (OwnAt X w.heap.size 45 (((pbL xs1 ⟨d, k, q⟩)).flatMap Bk.enc) ((pbL xs1 ⟨d, k, q⟩)).length (some ad1))) ⟨(by repeat' (first | (with_reducible exact Below.refl _ _) | (with_reducible refine Below.alloc ?_ ?_ _) | (with_reducible refine Below.setCell ?_ ?_ _) | (with_reducible refine Below.drew ?_) | (with_reducible refine Below.trans ?_ (Below.mono (by with_reducible assumption) ?_)) | omega | (simp; done) | (simp; omega))), (h_o1.to (by repeat' (first | (with_reducible exact Below.refl _ _) | (with_reducible refine Below.alloc ?_ ?_ _) | (with_reducible refine Below.setCell ?_ ?_ _) | (with_reducible refine Below.drew ?_) | (with_reducible refine Below.trans ?_ (Below.mono (by with_reducible assumption) ?_)) | omega | (simp; done) | (simp; omega))))⟩ ?_
          clear h_below s_below h_o1
          rintro Y8 ⟨h_below, h_o1⟩
          refine (iSumOfKind_at k2.out _ _ _ (h_o1.rd Bk.enc_len) (by omega)).mono ?_
          rintro e X8 ⟨rfl, hb8⟩
          have h_below0 := h_below
          replace h_below := h_below.trans (hb8.mono h_below.size)
          replace h_o1 := h_o1.to hb8
          clear hb8
          clear h_below0
          have s_below := h_below.size
          go_wp2_with fail
          refine Dr.cut_calls (fun X => (Below w.heap.size w X) ∧ (OwnAt X w.heap.size 45 (((pbL xs1 ⟨d, k, q⟩)).flatMap Bk.enc) ((pbL xs1 ⟨d, k, q⟩)).length (some ad1))) ⟨(by repeat' (first | (with_reducible exact Below.refl _ _) | (with_reducible refine Below.alloc ?_ ?_ _) | (with_reducible refine Below.setCell ?_ ?_ _) | (with_reducible refine Below.drew ?_) | (with_reducible refine Below.trans ?_ (Below.mono (by with_reducible assumption) ?_)) | omega | (simp; done) | (simp; omega))), (h_o1.to (by repeat' (first | (with_reducible exact Below.refl _ _) | (with_reducible refine Below.alloc ?_ ?_ _) | (with_reducible refine Below.setCell ?_ ?_ _) | (with_reducible refine Below.drew ?_) | (with_reducible refine Below.trans ?_ (Below.mono (by with_reducible assumption) ?_)) | omega | (simp; done) | (simp; omega))))⟩ ?_
          clear h_below s_below h_o1
          rintro Y9 ⟨h_below, h_o1⟩
          refine (iSumOfKind_at k3.out _ _ _ (h_o1.rd Bk.enc_len) (by omega)).mono ?_
          rintro e X9 ⟨rfl, hb9⟩
          have h_below0 := h_below
          replace h_below := h_below.trans (hb9.mono h_below.size)
          replace h_o1 := h_o1.to hb9
          clear hb9
          clear h_below0
          have s_below := h_below.size
          go_wp2_with fail
          refine Dr.cut_calls (fun X => (Below w.heap.size w X) ∧ (OwnAt X w.heap.size 45 (((pbL xs1 ⟨d, k, q⟩)).flatMap Bk.enc) ((pbL xs1 ⟨d, k, q⟩)).length (some ad1))) ⟨(by repeat' (first | (with_reducible exact Below.refl _ _) | (with_reducible refine Below.alloc ?_ ?_ _) | (with_reducible refine Below.setCell ?_ ?_ _) | (with_reducible refine Below.drew ?_) | (with_reducible refine Below.trans ?_ (Below.mono (by with_reducible assumption) ?_)) | omega | (simp; done) | (simp; omega))), (h_o1.to (by repeat' (first | (with_reducible exact Below.refl _ _) | (with_reducible refine Below.alloc ?_ ?_ _) | (with_reducible refine Below.setCell ?_ ?_ _) | (with_reducible refine Below.drew ?_) | (with_reducible refine Below.trans ?_ (Below.mono (by with_reducible assumption) ?_)) | omega | (simp; done) | (simp; omega))))⟩ ?_
          clear h_below s_below h_o1
          rintro Y10 ⟨h_below, h_o1⟩
          refine (iSumOfKind_at k4.out _ _ _ (h_o1.rd Bk.enc_len) (by omega)).mono ?_
          rintro e X10 ⟨rfl, hb10⟩
          have h_below0 := h_below
          replace h_below := h_below.trans (hb10.mono h_below.size)
          replace h_o1 := h_o1.to hb10
          clear hb10
          clear h_below0
          have s_below := h_below.size
          go_wp2_with fail
          refine Dr.cut_calls (fun X => (Below w.heap.size w X) ∧ (OwnAt X w.heap.size 45 (((pbL xs1 ⟨d, k, q⟩)).flatMap Bk.enc) ((pbL xs1 ⟨d, k, q⟩)).length (some ad1))) ⟨(by repeat' (first | (with_reducible exact Below.refl _ _) | (with_reducible refine Below.alloc ?_ ?_ _) | (with_reducible refine Below.setCell ?_ ?_ _) | (with_reducible refine Below.drew ?_) | (with_reducible refine Below.trans ?_ (Below.mono (by with_reducible assumption) ?_)) | omega | (simp; done) | (simp; omega))), (h_o1.to (by repeat' (first | (with_reducible exact Below.refl _ _) | (with_reducible refine Below.alloc ?_ ?_ _) | (with_reducible refine Below.setCell ?_ ?_ _) | (with_reducible refine Below.drew ?_) | (with_reducible refine Below.trans ?_ (Below.mono (by with_reducible assumption) ?_)) | omega | (simp; done) | (simp; omega))))⟩ ?_
          clear h_below s_below h_o1
          rintro Y11 ⟨h_below, h_o1⟩
          refine (iStockOn_at q5.out _ _ _ (h_o1.rd Bk.enc_len) (by omega)).mono ?_
          rintro e X11 ⟨rfl, hb11⟩
          have h_below0 := h_below
          replace h_below := h_below.trans (hb11.mono h_below.size)
          clear hb11
          clear h_below0
          have s_below := h_below.size
          clear h_o1
          go_upto_region 25 with (fail)
          exact FnBookings_p6 A n c w _ hn hB (h_below.trans (by repeat' (first | (with_reducible exact Below.refl _ _) | (with_reducible refine Below.alloc ?_ ?_ _) | (with_reducible refine Below.setCell ?_ ?_ _) | (with_reducible refine Below.drew ?_) | (with_reducible refine Below.trans ?_ (Below.mono (by with_reducible assumption) ?_)) | omega | (simp; done) | (simp; omega))))  _ (by assumption)
  · have hn' : 65536 < n := by omega
    go_enter Try.func12, Try.ntmps12
    go_wp2_with (first | (go_at_call 35; refine (vBig_any _ _ _ _).mono ?_; rintro e wX ⟨rfl, rfl⟩))
    go_ret
    exact ⟨rfl, (by repeat' (first | (with_reducible exact Below.refl _ _) | (with_reducible refine Below.alloc ?_ ?_ _) | (with_reducible refine Below.setCell ?_ ?_ _) | (with_reducible refine Below.drew ?_) | (with_reducible refine Below.trans ?_ (Below.mono (by with_reducible assumption) ?_)) | omega | (simp; done) | (simp; omega)))⟩
end Go.Proofs.Ytkhldmicejdggaa
