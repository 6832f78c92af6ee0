/- Contracts of StockOn, Unexplained, LowestStock, FirstShort, StartNeeded, AreSound (chapter 20), of the program and of the reference. -/
import Derived.Test.YtkhldmicejdggaaStk
set_option linter.unusedSimpArgs false
set_option linter.unusedVariables false
namespace Go.Proofs.Ytkhldmicejdggaa
open Go.RowKit Go.Sort Go.Salt
attribute [local go_sem] cell_rg
attribute [local go_sem ↓] run_max_mx run_min_mn
/-- The stock at the end of the day of booking i. -/
def sti (xs : List Bk) (s : Int) (i : Nat) : Int := stk xs s (el xs i).d
/-- The first booking with the lowest stock among the first k: its day and the stock. -/
def loD (xs : List Bk) (s : Int) : Nat → Int × Int
  | 0 => (0, 0)
  | k + 1 => if k = 0 ∨ sti xs s k < (loD xs s k).2 then ((el xs k).d, sti xs s k) else loD xs s k
theorem loD_zero (xs : List Bk) (s : Int) : loD xs s 0 = (0, 0) := rfl
theorem loD_take {xs : List Bk} {s : Int} {k : Nat} (h : k = 0 ∨ sti xs s k < (loD xs s k).2) : loD xs s (k + 1) = ((el xs k).d, sti xs s k) := by rw [loD, if_pos h]
theorem loD_leave {xs : List Bk} {s : Int} {k : Nat} (h : ¬(k = 0 ∨ sti xs s k < (loD xs s k).2)) : loD xs s (k + 1) = loD xs s k := by rw [loD, if_neg h]
theorem loD_min {xs : List Bk} {s : Int} : ∀ k, 0 < k → (∃ i, i < k ∧ (loD xs s k).1 = (el xs i).d ∧ (loD xs s k).2 = sti xs s i) ∧ ∀ i, i < k → (loD xs s k).2 ≤ sti xs s i
  | 0, h => by omega
  | k + 1, _ => by
    by_cases h : k = 0 ∨ sti xs s k < (loD xs s k).2
    · rw [loD_take h]
      refine ⟨⟨k, by omega, rfl, rfl⟩, fun i hi => ?_⟩
      by_cases hik : i = k
      · subst hik; exact Int.le_refl _
      · rcases h with h | h
        · omega
        · have := (loD_min (xs := xs) (s := s) k (by omega)).2 i (by omega)
          show sti xs s k ≤ sti xs s i
          omega
    · rw [loD_leave h]
      have h1 := loD_min (xs := xs) (s := s) k (by omega)
      refine ⟨?_, fun i hi => ?_⟩
      · obtain ⟨i, hi, h2⟩ := h1.1
        exact ⟨i, by omega, h2⟩
      · by_cases hik : i = k
        · subst hik; omega
        · exact h1.2 i (by omega)
/-- No short day among the first k. -/
def okTo (xs : List Bk) (s : Int) (k : Nat) : Prop := ∀ i, i < k → 0 ≤ sti xs s i
/-- The first booking with too little stock: its day, and by how much; -1 if there is none. -/
def fsF (xs : List Bk) (s : Int) : Nat → Option Nat
  | 0 => none
  | k + 1 => match fsF xs s k with
    | some i => some i
    | none => if sti xs s k < 0 then some k else none
theorem fsF_none {xs : List Bk} {s : Int} : ∀ {k : Nat}, fsF xs s k = none → okTo xs s k
  | 0, _ => fun i hi => by omega
  | k + 1, h => fun i hi => by
    rw [fsF] at h
    cases h1 : fsF xs s k with
    | some j => rw [h1] at h; simp at h
    | none =>
      rw [h1] at h
      by_cases h2 : sti xs s k < 0
      · simp [h2] at h
      · by_cases hik : i = k
        · subst hik; omega
        · exact fsF_none h1 i (by omega)
theorem fsF_of_ok {xs : List Bk} {s : Int} : ∀ {k : Nat}, okTo xs s k → fsF xs s k = none
  | 0, _ => rfl
  | k + 1, h => by
    rw [fsF, fsF_of_ok (fun i hi => h i (by omega))]
    have := h k (by omega)
    simp; omega
theorem fsF_some {xs : List Bk} {s : Int} {k n : Nat} (h : okTo xs s k) (h2 : sti xs s k < 0) (hk : k < n) : fsF xs s n = some k := by
  induction n with
  | zero => omega
  | succ n ih =>
    rw [fsF]
    by_cases hkn : k = n
    · subst hkn
      rw [fsF_of_ok h]; simp [h2]
    · rw [ih (by omega)]
def shD (xs : List Bk) (s : Int) : Int := match fsF xs s xs.length with | some i => (el xs i).d | none => -1
def shB (xs : List Bk) (s : Int) : Bool := (fsF xs s xs.length).isSome
def shV (xs : List Bk) (s : Int) : Int := match fsF xs s xs.length with | some i => -sti xs s i | none => 0
def nd (xs : List Bk) : Nat → Int
  | 0 => 0
  | k + 1 => mx (nd xs k) (-sti xs 0 k)
theorem nd_lo {xs : List Bk} : ∀ k, nd xs k = mx (-(loD xs 0 k).2) 0
  | 0 => by simp [nd, loD, mx]
  | k + 1 => by
    rw [nd, nd_lo k]
    by_cases h : k = 0 ∨ sti xs 0 k < (loD xs 0 k).2
    · rw [loD_take h]
      by_cases hk : k = 0
      · subst hk; simp [loD, mx]; split <;> split <;> omega
      · rcases h with h | h
        · omega
        · rcases mx_or (-(loD xs 0 k).2) 0 with h1 | h1 <;> rcases mx_or (-sti xs 0 k) 0 with h2 | h2 <;> rcases mx_or (mx (-(loD xs 0 k).2) 0) (-sti xs 0 k) with h3 | h3 <;> simp only [] at * <;> omega
    · rw [loD_leave h]
      rcases mx_or (-(loD xs 0 k).2) 0 with h1 | h1 <;> rcases mx_or (mx (-(loD xs 0 k).2) 0) (-sti xs 0 k) with h3 | h3 <;> omega
def soB (xs : List Bk) (s : Int) : Bool := bksOK xs && inB s 0 1000000
def stoB (xs : List Bk) (s d : Int) : Bool := bksOK xs && inB s 0 1000000 && inB d 0 4000
def stoV (xs : List Bk) (s d : Int) : Int := if stoB xs s d then stk xs s d else 0
def unxB (xs : List Bk) (s d n : Int) : Bool := bksOK xs && inB s 0 1000000 && inB d 0 4000 && inB n 0 1000000000
def unxV (xs : List Bk) (s d n : Int) : Int := if unxB xs s d n then n - stk xs s d else 0
def losB (xs : List Bk) (s : Int) : Bool := bksOK xs && inB s 0 1000000 && decide (0 < xs.length)
def losD (xs : List Bk) (s : Int) : Int := if bksOK xs && inB s 0 1000000 then (loD xs s xs.length).1 else 0
def losV (xs : List Bk) (s : Int) : Int := if bksOK xs && inB s 0 1000000 then (loD xs s xs.length).2 else 0
def fshB (xs : List Bk) (s : Int) : Bool := bksOK xs && inB s 0 1000000 && shB xs s
def fshD (xs : List Bk) (s : Int) : Int := if fshB xs s then shD xs s else 0
def fshV (xs : List Bk) (s : Int) : Int := if fshB xs s then shV xs s else 0
def stnV (xs : List Bk) : Int := if bksOK xs then mx (-(loD xs 0 xs.length).2) 0 else 0
def souV (xs : List Bk) (s : Int) : Bool := bksOK xs && inB s 0 1000000 && !shB xs s
theorem ret_ib {x y : Int} {p q : Bool} (h : x = y) (k : p = q) : Ending.returned (.tuple #[.int .i64 x, .bool p]) = .returned (.tuple #[.int .i64 y, .bool q]) := by rw [h, k]
theorem ret_bb {x y : Bool} {p q : Bool} (h : x = y) (k : p = q) : Ending.returned (.tuple #[.bool x, .bool p]) = .returned (.tuple #[.bool y, .bool q]) := by rw [h, k]
theorem ret_iib {x y x' y' : Int} {p q : Bool} (h : x = y) (h' : x' = y') (k : p = q) : Ending.returned (.tuple #[.int .i64 x, .int .i64 x', .bool p]) = .returned (.tuple #[.int .i64 y, .int .i64 y', .bool q]) := by rw [h, h', k]
set_option maxHeartbeats 4000000 in
theorem lowest_any (A : Option Addr) (c : Nat) (xs : List Bk) (s : Int) (w : World) (h : Rd w w.heap.size A 3 Bk.enc xs) (hv : Hid (∀ i, i < xs.length → bkAt xs i = true)) (hn : xs.length ≤ 20) (hs1 : -1000000000 ≤ s) (hs2 : s ≤ 1000000000) :
    Calls Try.prog 57 #[.slice A xs.length c, .int .i64 s] w fun e w' => e = .returned (.tuple #[.int .i64 (loD xs s xs.length).1, .int .i64 (loD xs s xs.length).2, .bool (decide (0 < xs.length))]) ∧ Below w.heap.size w w' := by
  go_enter Try.func57, Try.ntmps57
  go_wp2
  go_loopw [7, 8, 14] (fun x y i wr => ∃ k : Nat, k ≤ xs.length ∧ i = .int .i64 k ∧ x = .int .i64 (loD xs s k).1 ∧ y = .int .i64 (loD xs s k).2 ∧ Below w.heap.size w wr) (fun _ _ i _ => xs.length - (intOf i).toNat)
  case atStart => exact ⟨0, Nat.zero_le _, rfl, rfl, rfl, Below.refl _ _⟩
  case round =>
    obtain ⟨k, hk, rfl, rfl, rfl, hb⟩ := hrel
    by_cases hlt : k < xs.length
    · obtain ⟨b, o, eA, hB, c0, c1, c2⟩ := bk_cells (h.below hb) hlt
      have HA := Lib.hid eA
      have hr := h.to hb
      subst eA
      have hs := hb.size
      have hB1 : b < wr.heap.size := by omega
      have hI : (k : Int) < xs.length := by omega
      have hI0 : (0 : Int) ≤ k := by omega
      clear HA
      have hr' := fun o => (hr.below (Below.alloc (Below.refl _ _) (Nat.le_refl _) o)).more (B' := (wr.alloc o).heap.size) (by simp)
      have Hr := Lib.hid hr'
      clear hr hr' h
      by_cases h0 : k = 0
      · have Hl := Lib.hid (@loD_take xs s k (.inl h0))
        have hd0 : ((k : Int) == 0) = true := by simpa using h0
        clear h0
        go_wp2_with fail
        (go_at_call 53; refine (stockOn_any _ _ _ _ _ _ (Hr.out _) hv hn hs1 hs2).mono ?_; rintro e w1 ⟨rfl, hb1⟩)
        (have hs1 := hb1.size; (try simp at hs1); obtain ⟨hc1, hf1, hn1⟩ := bcell hb1; (try have hz1_wr_0 : wr.heap.size < w1.heap.size := by omega); (try have hz1_wr_1 : wr.heap.size + 1 < w1.heap.size := by omega); (try have hz1_wr_2 : wr.heap.size + 2 < w1.heap.size := by omega); (try have hB1 : b < w1.heap.size := by omega); (try have hB2 : b' < w1.heap.size := by omega); (try have hz1_wr_2b : wr.heap.size + 1 + 1 < w1.heap.size := by omega); (try have hz1_w_0 : w.heap.size < w1.heap.size := by omega); (try have hz1_w_1 : w.heap.size + 1 < w1.heap.size := by omega); (try have hz1_w_2 : w.heap.size + 2 < w1.heap.size := by omega); (try have hz1_w_2b : w.heap.size + 1 + 1 < w1.heap.size := by omega))
        go_wp2_with fail
        go_roundw
        case rel => exact ⟨k + 1, by omega, by go_num, by rw [Hl.out], by rw [Hl.out]; rfl, (by repeat' (first | (with_reducible exact Below.refl _ _) | (with_reducible refine Below.alloc ?_ ?_ _) | (with_reducible refine Below.setCell ?_ ?_ _) | (with_reducible refine Below.drew ?_) | (with_reducible refine Below.trans ?_ (Below.mono (by with_reducible assumption) ?_)) | omega | (simp; done) | (simp; omega)))⟩
        case measure => simp [intOf]; omega
      · have hd0 : ((k : Int) == 0) = false := by simpa using h0
        by_cases hm : sti xs s k < (loD xs s k).2
        · have Hl := Lib.hid (@loD_take xs s k (.inr hm))
          unfold sti at hm
          clear h0
          go_wp2_with fail
          (go_at_call 53; refine (stockOn_any _ _ _ _ _ _ (Hr.out _) hv hn hs1 hs2).mono ?_; rintro e w1 ⟨rfl, hb1⟩)
          (have hs1 := hb1.size; (try simp at hs1); obtain ⟨hc1, hf1, hn1⟩ := bcell hb1; (try have hz1_wr_0 : wr.heap.size < w1.heap.size := by omega); (try have hz1_wr_1 : wr.heap.size + 1 < w1.heap.size := by omega); (try have hz1_wr_2 : wr.heap.size + 2 < w1.heap.size := by omega); (try have hB1 : b < w1.heap.size := by omega); (try have hB2 : b' < w1.heap.size := by omega); (try have hz1_wr_2b : wr.heap.size + 1 + 1 < w1.heap.size := by omega); (try have hz1_w_0 : w.heap.size < w1.heap.size := by omega); (try have hz1_w_1 : w.heap.size + 1 < w1.heap.size := by omega); (try have hz1_w_2 : w.heap.size + 2 < w1.heap.size := by omega); (try have hz1_w_2b : w.heap.size + 1 + 1 < w1.heap.size := by omega))
          go_wp2_with fail
          go_roundw
          case rel => exact ⟨k + 1, by omega, by go_num, by rw [Hl.out], by rw [Hl.out]; rfl, (by repeat' (first | (with_reducible exact Below.refl _ _) | (with_reducible refine Below.alloc ?_ ?_ _) | (with_reducible refine Below.setCell ?_ ?_ _) | (with_reducible refine Below.drew ?_) | (with_reducible refine Below.trans ?_ (Below.mono (by with_reducible assumption) ?_)) | omega | (simp; done) | (simp; omega)))⟩
          case measure => simp [intOf]; omega
        · have Hl := Lib.hid (@loD_leave xs s k (by omega))
          unfold sti at hm
          clear h0
          go_wp2_with fail
          (go_at_call 53; refine (stockOn_any _ _ _ _ _ _ (Hr.out _) hv hn hs1 hs2).mono ?_; rintro e w1 ⟨rfl, hb1⟩)
          (have hs1 := hb1.size; (try simp at hs1); obtain ⟨hc1, hf1, hn1⟩ := bcell hb1; (try have hz1_wr_0 : wr.heap.size < w1.heap.size := by omega); (try have hz1_wr_1 : wr.heap.size + 1 < w1.heap.size := by omega); (try have hz1_wr_2 : wr.heap.size + 2 < w1.heap.size := by omega); (try have hB1 : b < w1.heap.size := by omega); (try have hB2 : b' < w1.heap.size := by omega); (try have hz1_wr_2b : wr.heap.size + 1 + 1 < w1.heap.size := by omega); (try have hz1_w_0 : w.heap.size < w1.heap.size := by omega); (try have hz1_w_1 : w.heap.size + 1 < w1.heap.size := by omega); (try have hz1_w_2 : w.heap.size + 2 < w1.heap.size := by omega); (try have hz1_w_2b : w.heap.size + 1 + 1 < w1.heap.size := by omega))
          go_wp2_with fail
          go_roundw
          case rel => exact ⟨k + 1, by omega, by go_num, by rw [Hl.out], by rw [Hl.out], (by repeat' (first | (with_reducible exact Below.refl _ _) | (with_reducible refine Below.alloc ?_ ?_ _) | (with_reducible refine Below.setCell ?_ ?_ _) | (with_reducible refine Below.drew ?_) | (with_reducible refine Below.trans ?_ (Below.mono (by with_reducible assumption) ?_)) | omega | (simp; done) | (simp; omega)))⟩
          case measure => simp [intOf]; omega
    · obtain rfl : k = xs.length := by omega
      go_wp2
      go_ret3
      exact ⟨ret_iib rfl rfl (by simp), hb⟩
set_option maxHeartbeats 4000000 in
theorem l20Start_any (A : Option Addr) (c : Nat) (xs : List Bk) (s : Int) (w : World) (h : Rd w w.heap.size A 3 Bk.enc xs) (hx : xs.length ≤ 1048576) :
    Calls Try.prog 48 #[.slice A xs.length c, .int .i64 s] w fun e w' => e = .returned (.bool (soB xs s)) ∧ Below w.heap.size w w' := by
  cases hG0 : bksOK xs
  all_goals
    go_enter Try.func48, Try.ntmps48
    go_wp2_with (first | (go_at_call 55; refine (l1In_any _ _ _ _).mono ?_; rintro e wX ⟨rfl, rfl⟩))
    (go_at_call 59; refine (l20Good_any _ _ _ _ h hx).mono ?_; rintro e w1 ⟨rfl, hb1⟩)
    (have hs1 := hb1.size; (try simp at hs1); obtain ⟨hc1, hf1, hn1⟩ := bcell hb1; (try have hz1_w_0 : w.heap.size < w1.heap.size := by omega); (try have hz1_w_1 : w.heap.size + 1 < w1.heap.size := by omega); (try have hz1_w_2 : w.heap.size + 2 < w1.heap.size := by omega); (try have hz1_w_2b : w.heap.size + 1 + 1 < w1.heap.size := by omega))
    go_wp2_with (first | (go_at_call 55; refine (l1In_any _ _ _ _).mono ?_; rintro e wX ⟨rfl, rfl⟩))
    go_ret
    exact ⟨ret_bool (by simp [soB, hG0]), (by repeat' (first | (with_reducible exact Below.refl _ _) | (with_reducible refine Below.alloc ?_ ?_ _) | (with_reducible refine Below.setCell ?_ ?_ _) | (with_reducible refine Below.drew ?_) | (with_reducible refine Below.trans ?_ (Below.mono (by with_reducible assumption) ?_)) | omega | (simp; done) | (simp; omega)))⟩
set_option maxHeartbeats 4000000 in
theorem iStockOn_any (A : Option Addr) (c : Nat) (xs : List Bk) (s d : Int) (w : World) (h : Rd w w.heap.size A 3 Bk.enc xs) (hx : xs.length ≤ 1048576) :
    Calls Try.prog 16 #[.slice A xs.length c, .int .i64 s, .int .i64 d] w fun e w' => e = .returned (.tuple #[.int .i64 (stoV xs s d), .bool (stoB xs s d)]) ∧ Below w.heap.size w w' := by
  cases hG0 : bksOK xs
  · have hq : stoB xs s d = false := by simp [stoB, hG0]
    go_enter Try.func16, Try.ntmps16
    go_wp2_with fail
    (go_at_call 37; refine (areBookings_any _ _ _ _ h hx).mono ?_; rintro e w1 ⟨rfl, hb1⟩)
    (have hs1 := hb1.size; (try simp at hs1); obtain ⟨hc1, hf1, hn1⟩ := bcell hb1; (try have hz1_w_0 : w.heap.size < w1.heap.size := by omega); (try have hz1_w_1 : w.heap.size + 1 < w1.heap.size := by omega); (try have hz1_w_2 : w.heap.size + 2 < w1.heap.size := by omega); (try have hz1_w_2b : w.heap.size + 1 + 1 < w1.heap.size := by omega))
    go_wp2_with fail
    go_ret2
    exact ⟨ret_ib (by simp [stoV, hq]) hq.symm, (by repeat' (first | (with_reducible exact Below.refl _ _) | (with_reducible refine Below.alloc ?_ ?_ _) | (with_reducible refine Below.setCell ?_ ?_ _) | (with_reducible refine Below.drew ?_) | (with_reducible refine Below.trans ?_ (Below.mono (by with_reducible assumption) ?_)) | omega | (simp; done) | (simp; omega)))⟩
  · skip
    cases hG1 : inB s 0 1000000
    · have hq : stoB xs s d = false := by simp [stoB, hG1]
      go_enter Try.func16, Try.ntmps16
      go_wp2_with (first | (go_at_call 51; refine (isStart_any _ _).mono ?_; rintro e wX ⟨rfl, rfl⟩))
      (go_at_call 37; refine (areBookings_any _ _ _ _ h hx).mono ?_; rintro e w1 ⟨rfl, hb1⟩)
      (have hs1 := hb1.size; (try simp at hs1); obtain ⟨hc1, hf1, hn1⟩ := bcell hb1; (try have hz1_w_0 : w.heap.size < w1.heap.size := by omega); (try have hz1_w_1 : w.heap.size + 1 < w1.heap.size := by omega); (try have hz1_w_2 : w.heap.size + 2 < w1.heap.size := by omega); (try have hz1_w_2b : w.heap.size + 1 + 1 < w1.heap.size := by omega))
      go_wp2_with (first | (go_at_call 51; refine (isStart_any _ _).mono ?_; rintro e wX ⟨rfl, rfl⟩))
      go_ret2
      exact ⟨ret_ib (by simp [stoV, hq]) hq.symm, (by repeat' (first | (with_reducible exact Below.refl _ _) | (with_reducible refine Below.alloc ?_ ?_ _) | (with_reducible refine Below.setCell ?_ ?_ _) | (with_reducible refine Below.drew ?_) | (with_reducible refine Below.trans ?_ (Below.mono (by with_reducible assumption) ?_)) | omega | (simp; done) | (simp; omega)))⟩
    · skip
      cases hG2 : inB d 0 4000
      · have hq : stoB xs s d = false := by simp [stoB, hG2]
        go_enter Try.func16, Try.ntmps16
        go_wp2_with (first | (go_at_call 51; refine (isStart_any _ _).mono ?_; rintro e wX ⟨rfl, rfl⟩) | (go_at_call 52; refine (isDay_any _ _).mono ?_; rintro e wX ⟨rfl, rfl⟩))
        (go_at_call 37; refine (areBookings_any _ _ _ _ h hx).mono ?_; rintro e w1 ⟨rfl, hb1⟩)
        (have hs1 := hb1.size; (try simp at hs1); obtain ⟨hc1, hf1, hn1⟩ := bcell hb1; (try have hz1_w_0 : w.heap.size < w1.heap.size := by omega); (try have hz1_w_1 : w.heap.size + 1 < w1.heap.size := by omega); (try have hz1_w_2 : w.heap.size + 2 < w1.heap.size := by omega); (try have hz1_w_2b : w.heap.size + 1 + 1 < w1.heap.size := by omega))
        go_wp2_with (first | (go_at_call 51; refine (isStart_any _ _).mono ?_; rintro e wX ⟨rfl, rfl⟩) | (go_at_call 52; refine (isDay_any _ _).mono ?_; rintro e wX ⟨rfl, rfl⟩))
        go_ret2
        exact ⟨ret_ib (by simp [stoV, hq]) hq.symm, (by repeat' (first | (with_reducible exact Below.refl _ _) | (with_reducible refine Below.alloc ?_ ?_ _) | (with_reducible refine Below.setCell ?_ ?_ _) | (with_reducible refine Below.drew ?_) | (with_reducible refine Below.trans ?_ (Below.mono (by with_reducible assumption) ?_)) | omega | (simp; done) | (simp; omega)))⟩
      · skip
        have hbd := bksOK_bd hG0
        have hv := Lib.hid hbd.2
        have hn := hbd.1
        have hst := inB_iff.1 hG1
        clear hbd
        have Hq := Lib.hid (show stoB xs s d = true by simp [stoB, hG0, hG1, hG2])
        go_enter Try.func16, Try.ntmps16
        go_wp2_with (first | (go_at_call 51; refine (isStart_any _ _).mono ?_; rintro e wX ⟨rfl, rfl⟩) | (go_at_call 52; refine (isDay_any _ _).mono ?_; rintro e wX ⟨rfl, rfl⟩))
        (go_at_call 37; refine (areBookings_any _ _ _ _ h hx).mono ?_; rintro e w1 ⟨rfl, hb1⟩)
        (have hs1 := hb1.size; (try simp at hs1); obtain ⟨hc1, hf1, hn1⟩ := bcell hb1; (try have hz1_w_0 : w.heap.size < w1.heap.size := by omega); (try have hz1_w_1 : w.heap.size + 1 < w1.heap.size := by omega); (try have hz1_w_2 : w.heap.size + 2 < w1.heap.size := by omega); (try have hz1_w_2b : w.heap.size + 1 + 1 < w1.heap.size := by omega))
        go_wp2_with (first | (go_at_call 51; refine (isStart_any _ _).mono ?_; rintro e wX ⟨rfl, rfl⟩) | (go_at_call 52; refine (isDay_any _ _).mono ?_; rintro e wX ⟨rfl, rfl⟩))
        (go_at_call 53; refine (stockOn_any _ _ _ _ _ _ (h.to hb1) hv hn (by omega) (by omega)).mono ?_; rintro e w2 ⟨rfl, hb2⟩)
        (have hs2 := hb2.size; (try simp at hs2); obtain ⟨hc2, hf2, hn2⟩ := bcell hb2; (try have hz2_w_0 : w.heap.size < w2.heap.size := by omega); (try have hz2_w_1 : w.heap.size + 1 < w2.heap.size := by omega); (try have hz2_w_2 : w.heap.size + 2 < w2.heap.size := by omega); (try have hz2_w_2b : w.heap.size + 1 + 1 < w2.heap.size := by omega); (try have hz2_w1_0 : w1.heap.size < w2.heap.size := by omega); (try have hz2_w1_1 : w1.heap.size + 1 < w2.heap.size := by omega); (try have hz2_w1_2 : w1.heap.size + 2 < w2.heap.size := by omega); (try have hz2_w1_2b : w1.heap.size + 1 + 1 < w2.heap.size := by omega))
        go_wp2_with (first | (go_at_call 51; refine (isStart_any _ _).mono ?_; rintro e wX ⟨rfl, rfl⟩) | (go_at_call 52; refine (isDay_any _ _).mono ?_; rintro e wX ⟨rfl, rfl⟩))
        go_ret2
        exact ⟨ret_ib (by rw [stoV, if_pos Hq.out]) Hq.out.symm, (by repeat' (first | (with_reducible exact Below.refl _ _) | (with_reducible refine Below.alloc ?_ ?_ _) | (with_reducible refine Below.setCell ?_ ?_ _) | (with_reducible refine Below.drew ?_) | (with_reducible refine Below.trans ?_ (Below.mono (by with_reducible assumption) ?_)) | omega | (simp; done) | (simp; omega)))⟩
set_option maxHeartbeats 4000000 in
theorem sStockOn_any (A : Option Addr) (c : Nat) (xs : List Bk) (s d : Int) (w : World) (h : Rd w w.heap.size A 3 Bk.enc xs) (hx : xs.length ≤ 1048576) :
    Calls Try.prog 14 #[.slice A xs.length c, .int .i64 s, .int .i64 d] w fun e w' => e = .returned (.tuple #[.int .i64 (stoV xs s d), .bool (stoB xs s d)]) ∧ Below w.heap.size w w' := by
  cases hG : soB xs s
  · have hq : stoB xs s d = false := by unfold stoB; unfold soB at hG; rw [hG]; rfl
    go_enter Try.func14, Try.ntmps14
    go_wp2_with fail
    (go_at_call 48; refine (l20Start_any _ _ _ _ _ h hx).mono ?_; rintro e w1 ⟨rfl, hb1⟩)
    (have hs1 := hb1.size; (try simp at hs1); obtain ⟨hc1, hf1, hn1⟩ := bcell hb1; (try have hz1_w_0 : w.heap.size < w1.heap.size := by omega); (try have hz1_w_1 : w.heap.size + 1 < w1.heap.size := by omega); (try have hz1_w_2 : w.heap.size + 2 < w1.heap.size := by omega); (try have hz1_w_2b : w.heap.size + 1 + 1 < w1.heap.size := by omega))
    go_wp2_with fail
    go_ret2
    exact ⟨ret_ib (by simp [stoV, hq]) hq.symm, (by repeat' (first | (with_reducible exact Below.refl _ _) | (with_reducible refine Below.alloc ?_ ?_ _) | (with_reducible refine Below.setCell ?_ ?_ _) | (with_reducible refine Below.drew ?_) | (with_reducible refine Below.trans ?_ (Below.mono (by with_reducible assumption) ?_)) | omega | (simp; done) | (simp; omega)))⟩
  · have hG' := hG
    unfold soB at hG'
    rw [Bool.and_eq_true] at hG'
    obtain ⟨hG0, hG1⟩ := hG'
    have hbd := bksOK_bd hG0
    have hv := Lib.hid hbd.2
    have hn := hbd.1
    have hst := inB_iff.1 hG1
    clear hbd
    clear hG0 hG1
    cases hD : inB d 0 4000
    · have hq : stoB xs s d = false := by simp [stoB, hD]
      go_enter Try.func14, Try.ntmps14
      go_wp2_with (first | (go_at_call 49; refine (l2Day_any _ _).mono ?_; rintro e wX ⟨rfl, rfl⟩))
      (go_at_call 48; refine (l20Start_any _ _ _ _ _ h hx).mono ?_; rintro e w1 ⟨rfl, hb1⟩)
      (have hs1 := hb1.size; (try simp at hs1); obtain ⟨hc1, hf1, hn1⟩ := bcell hb1; (try have hz1_w_0 : w.heap.size < w1.heap.size := by omega); (try have hz1_w_1 : w.heap.size + 1 < w1.heap.size := by omega); (try have hz1_w_2 : w.heap.size + 2 < w1.heap.size := by omega); (try have hz1_w_2b : w.heap.size + 1 + 1 < w1.heap.size := by omega))
      go_wp2_with (first | (go_at_call 49; refine (l2Day_any _ _).mono ?_; rintro e wX ⟨rfl, rfl⟩))
      go_ret2
      exact ⟨ret_ib (by simp [stoV, hq]) hq.symm, (by repeat' (first | (with_reducible exact Below.refl _ _) | (with_reducible refine Below.alloc ?_ ?_ _) | (with_reducible refine Below.setCell ?_ ?_ _) | (with_reducible refine Below.drew ?_) | (with_reducible refine Below.trans ?_ (Below.mono (by with_reducible assumption) ?_)) | omega | (simp; done) | (simp; omega)))⟩
    · have Hq := Lib.hid (show stoB xs s d = true by unfold stoB; unfold soB at hG; rw [hG, hD]; rfl)
      go_enter Try.func14, Try.ntmps14
      go_wp2_with (first | (go_at_call 49; refine (l2Day_any _ _).mono ?_; rintro e wX ⟨rfl, rfl⟩))
      (go_at_call 48; refine (l20Start_any _ _ _ _ _ h hx).mono ?_; rintro e w1 ⟨rfl, hb1⟩)
      (have hs1 := hb1.size; (try simp at hs1); obtain ⟨hc1, hf1, hn1⟩ := bcell hb1; (try have hz1_w_0 : w.heap.size < w1.heap.size := by omega); (try have hz1_w_1 : w.heap.size + 1 < w1.heap.size := by omega); (try have hz1_w_2 : w.heap.size + 2 < w1.heap.size := by omega); (try have hz1_w_2b : w.heap.size + 1 + 1 < w1.heap.size := by omega))
      go_wp2_with (first | (go_at_call 49; refine (l2Day_any _ _).mono ?_; rintro e wX ⟨rfl, rfl⟩) | (go_at_call 50; refine (l20Stock_any _ _ _ _ _ _ (h.to hb1) hv hn (by omega) (by omega)).mono ?_; rintro e wX ⟨rfl, rfl⟩))
      go_ret2
      exact ⟨ret_ib (by rw [stoV, if_pos Hq.out]) Hq.out.symm, (by repeat' (first | (with_reducible exact Below.refl _ _) | (with_reducible refine Below.alloc ?_ ?_ _) | (with_reducible refine Below.setCell ?_ ?_ _) | (with_reducible refine Below.drew ?_) | (with_reducible refine Below.trans ?_ (Below.mono (by with_reducible assumption) ?_)) | omega | (simp; done) | (simp; omega)))⟩
end Go.Proofs.Ytkhldmicejdggaa
