/- Contracts of SaltIn, SettledBrine, SunToCrop, RainToMelt and of the laws over them (chapter 21). -/
import Derived.Test.YtmfahekkcgnndaaPoolStep
import Derived.Lib.Hide
set_option linter.unusedSimpArgs false
set_option linter.unusedVariables false
namespace Go.Proofs.Ytmfahekkcgnndaa
open Go.RowKit Go.Sort Go.Salt
attribute [local go_sem] cell_rg
attribute [local go_sem ↓] run_max_mx run_min_mn
theorem poolOK_bd {st a s c i r l : Int} (h : poolOK st a s c i r l = true) : 0 ≤ a ∧ a ≤ 1000000 ∧ 0 ≤ s ∧ s ≤ 1000000 ∧ 0 ≤ c ∧ c ≤ 1000000 ∧ 0 ≤ i ∧ i ≤ 1000000 ∧ 0 ≤ r ∧ r ≤ 1000000 ∧ 0 ≤ l ∧ l ≤ 1000000 := by
  simp [poolOK, inB] at h; omega
theorem poolOK_st {st a s c i r l : Int} (h : poolOK st a s c i r l = true) : st = stB a s c ∧ i = s + c + r + l := by
  simp [poolOK, inB] at h; exact ⟨by omega, by omega⟩
def satV (st a s c i r l : Int) : Int := if poolOK st a s c i r l then s + c else 0
def rtmB (st a s c i r l : Int) : Bool := poolOK st a s c i r l && st == 2
def rtmV (st a s c i r l : Int) : Int := if rtmB st a s c i r l then mx ((1000 * (s + c) + 355) / 356 - a) 1 else 0
def stcB (st a s c i r l : Int) : Bool := poolOK st a s c i r l && st == 1 && !(s == 0)
def stcV (st a s c i r l : Int) : Int := if stcB st a s c i r l then mx (a - (1000 * s - 1) / 356) 1 else 0
theorem mx_comm (a b : Int) : mx a b = mx b a := by unfold mx; split <;> split <;> omega
theorem ret_ib {x y : Int} {p q : Bool} (h : x = y) (k : p = q) : Ending.returned (.tuple #[.int .i64 x, .bool p]) = .returned (.tuple #[.int .i64 y, .bool q]) := by rw [h, k]
theorem ret_bib {a s c a' s' c' : Int} {p q : Bool} (h1 : a = a') (h2 : s = s') (h3 : c = c') (k : p = q) : Ending.returned (.tuple #[.agg #[.int .i64 a, .int .i64 s], .int .i64 c, .bool p]) = .returned (.tuple #[.agg #[.int .i64 a', .int .i64 s'], .int .i64 c', .bool q]) := by rw [h1, h2, h3, k]
set_option maxHeartbeats 400000 in
theorem saltIn_any (st a s c i r l : Int) (w : World) :
    Calls Try.prog 16 #[.agg #[.int .i64 st, .int .i64 a, .int .i64 s, .int .i64 c, .int .i64 i, .int .i64 r, .int .i64 l]] w fun e w' => e = .returned (.tuple #[.int .i64 (satV st a s c i r l), .bool (poolOK st a s c i r l)]) ∧ Below w.heap.size w w' := by
  cases hp : poolOK st a s c i r l
  · go_enter Try.func16, Try.ntmps16
    go_wp2_with (go_at_call 14; refine (isPool_any _ _ _ _ _ _ _ _).mono ?_; rintro e w1 ⟨rfl, hb⟩; have hs := hb.size; (try simp at hs); obtain ⟨hc, hf, hn⟩ := bcell hb)
    go_ret2
    exact ⟨ret_ib (by simp [satV, hp]) rfl, (by repeat' (first | (with_reducible exact Below.refl _ _) | (with_reducible refine Below.alloc ?_ ?_ _) | (with_reducible refine Below.setCell ?_ ?_ _) | (with_reducible refine Below.drew ?_) | (with_reducible refine Below.trans ?_ (Below.mono (by with_reducible assumption) ?_)) | omega | (simp; done) | (simp; omega)))⟩
  · have hbd := poolOK_bd hp
    go_enter Try.func16, Try.ntmps16
    go_wp2_with (go_at_call 14; refine (isPool_any _ _ _ _ _ _ _ _).mono ?_; rintro e w1 ⟨rfl, hb⟩; have hs := hb.size; (try simp at hs); obtain ⟨hc, hf, hn⟩ := bcell hb)
    go_ret2
    exact ⟨ret_ib (by simp [satV, hp]) rfl, (by repeat' (first | (with_reducible exact Below.refl _ _) | (with_reducible refine Below.alloc ?_ ?_ _) | (with_reducible refine Below.setCell ?_ ?_ _) | (with_reducible refine Below.drew ?_) | (with_reducible refine Below.trans ?_ (Below.mono (by with_reducible assumption) ?_)) | omega | (simp; done) | (simp; omega)))⟩
set_option maxHeartbeats 400000 in
theorem sSaltIn_any (st a s c i r l : Int) (w : World) :
    Calls Try.prog 15 #[.agg #[.int .i64 st, .int .i64 a, .int .i64 s, .int .i64 c, .int .i64 i, .int .i64 r, .int .i64 l]] w fun e w' => e = .returned (.tuple #[.int .i64 (satV st a s c i r l), .bool (poolOK st a s c i r l)]) ∧ Below w.heap.size w w' := by
  cases hp : poolOK st a s c i r l
  · go_enter Try.func15, Try.ntmps15
    go_wp2_with (go_at_call 43; refine (l21Good_any _ _ _ _ _ _ _ _).mono ?_; rintro e w1 ⟨rfl, hb⟩; have hs := hb.size; (try simp at hs); obtain ⟨hc, hf, hn⟩ := bcell hb)
    go_ret2
    exact ⟨ret_ib (by simp [satV, hp]) rfl, (by repeat' (first | (with_reducible exact Below.refl _ _) | (with_reducible refine Below.alloc ?_ ?_ _) | (with_reducible refine Below.setCell ?_ ?_ _) | (with_reducible refine Below.drew ?_) | (with_reducible refine Below.trans ?_ (Below.mono (by with_reducible assumption) ?_)) | omega | (simp; done) | (simp; omega)))⟩
  · have hbd := poolOK_bd hp
    go_enter Try.func15, Try.ntmps15
    go_wp2_with (go_at_call 43; refine (l21Good_any _ _ _ _ _ _ _ _).mono ?_; rintro e w1 ⟨rfl, hb⟩; have hs := hb.size; (try simp at hs); obtain ⟨hc, hf, hn⟩ := bcell hb)
    go_ret2
    exact ⟨ret_ib (by simp [satV, hp]) rfl, (by repeat' (first | (with_reducible exact Below.refl _ _) | (with_reducible refine Below.alloc ?_ ?_ _) | (with_reducible refine Below.setCell ?_ ?_ _) | (with_reducible refine Below.drew ?_) | (with_reducible refine Below.trans ?_ (Below.mono (by with_reducible assumption) ?_)) | omega | (simp; done) | (simp; omega)))⟩
set_option maxHeartbeats 1000000 in
theorem FnExactSaltIn_law (st a s c i r l : Int) (w : World) :
    Calls Try.prog 4 #[.agg #[.int .i64 st, .int .i64 a, .int .i64 s, .int .i64 c, .int .i64 i, .int .i64 r, .int .i64 l]] w fun e w' => e = .returned (.bool true) ∧ Below w.heap.size w w' := by
  go_enter Try.func4, Try.ntmps4
  go_wp2_with (first | (go_at_call 13; refine (toPool_any _ _ _ _ _ _ _ _).mono ?_; rintro e w1 ⟨rfl, hb⟩; have hs := hb.size; (try simp at hs); obtain ⟨hc, hf, hn⟩ := bcell hb) | (go_at_call 15; refine (sSaltIn_any _ _ _ _ _ _ _ _).mono ?_; rintro e w1 ⟨rfl, hb⟩; have hs := hb.size; (try simp at hs); obtain ⟨hc, hf, hn⟩ := bcell hb) | (go_at_call 16; refine (saltIn_any _ _ _ _ _ _ _ _).mono ?_; rintro e w1 ⟨rfl, hb⟩; have hs := hb.size; (try simp at hs); obtain ⟨hc, hf, hn⟩ := bcell hb))
  go_ret
  exact ⟨rfl, (by repeat' (first | (with_reducible exact Below.refl _ _) | (with_reducible refine Below.alloc ?_ ?_ _) | (with_reducible refine Below.setCell ?_ ?_ _) | (with_reducible refine Below.drew ?_) | (with_reducible refine Below.trans ?_ (Below.mono (by with_reducible assumption) ?_)) | omega | (simp; done) | (simp; omega)))⟩
set_option maxHeartbeats 400000 in
theorem ceilDiv_any (a b : Int) (w : World) (_h0 : 0 ≤ a) (_h1 : a ≤ 1000000000000000) (_h2 : 1 ≤ b) (_h3 : b ≤ 1000000000000000) :
    Calls Try.prog 52 #[.int .i64 a, .int .i64 b] w fun e w' => e = .returned (.int .i64 ((a + b - 1) / b)) ∧ w = w' := by
  go_enter Try.func52, Try.ntmps52
  go_wp2
  go_ret
  exact ⟨rfl, rfl⟩
set_option maxHeartbeats 1000000 in
theorem rainToMelt_any (st a s c i r l : Int) (w : World) :
    Calls Try.prog 22 #[.agg #[.int .i64 st, .int .i64 a, .int .i64 s, .int .i64 c, .int .i64 i, .int .i64 r, .int .i64 l]] w fun e w' => e = .returned (.tuple #[.int .i64 (rtmV st a s c i r l), .bool (rtmB st a s c i r l)]) ∧ Below w.heap.size w w' := by
  cases hp : poolOK st a s c i r l
  · have hq : rtmB st a s c i r l = false := by simp [rtmB, hp]
    go_enter Try.func22, Try.ntmps22
    go_wp2_with (go_at_call 14; refine (isPool_any _ _ _ _ _ _ _ _).mono ?_; rintro e w1 ⟨rfl, hb⟩; have hs := hb.size; (try simp at hs); obtain ⟨hc, hf, hn⟩ := bcell hb)
    go_ret2
    exact ⟨ret_ib (by simp [rtmV, hq]) hq.symm, (by repeat' (first | (with_reducible exact Below.refl _ _) | (with_reducible refine Below.alloc ?_ ?_ _) | (with_reducible refine Below.setCell ?_ ?_ _) | (with_reducible refine Below.drew ?_) | (with_reducible refine Below.trans ?_ (Below.mono (by with_reducible assumption) ?_)) | omega | (simp; done) | (simp; omega)))⟩
  · cases h2 : (st == 2)
    · have hq : rtmB st a s c i r l = false := by simp [rtmB, h2]
      go_enter Try.func22, Try.ntmps22
      go_wp2_with (go_at_call 14; refine (isPool_any _ _ _ _ _ _ _ _).mono ?_; rintro e w1 ⟨rfl, hb⟩; have hs := hb.size; (try simp at hs); obtain ⟨hc, hf, hn⟩ := bcell hb)
      go_ret2
      exact ⟨ret_ib (by simp [rtmV, hq]) hq.symm, (by repeat' (first | (with_reducible exact Below.refl _ _) | (with_reducible refine Below.alloc ?_ ?_ _) | (with_reducible refine Below.setCell ?_ ?_ _) | (with_reducible refine Below.drew ?_) | (with_reducible refine Below.trans ?_ (Below.mono (by with_reducible assumption) ?_)) | omega | (simp; done) | (simp; omega)))⟩
    · have hbd := poolOK_bd hp
      have hq : rtmB st a s c i r l = true := by simp [rtmB, hp, h2]
      have Hq := Lib.hid hq; clear hq
      go_enter Try.func22, Try.ntmps22
      go_wp2_with (go_at_call 14; refine (isPool_any _ _ _ _ _ _ _ _).mono ?_; rintro e w1 ⟨rfl, hb⟩; have hs := hb.size; (try simp at hs); obtain ⟨hc, hf, hn⟩ := bcell hb)
      refine wp_region_quiet_below (by kernel_rfl) (by kernel_rfl) ?_
      repeat (go_big_quiet_step (first | (go_at_call 52; exact Calls.regrown_of (same_below (ceilDiv_any _ _ _ (by omega) (by omega) (by omega) (by omega))))))
      (refine wpQuiet_nil ?_; intro wq hwq; have hb := of_cls hwq; clear hwq; have hs := hb.size; (try simp at hs); obtain ⟨hc, hf, hn⟩ := bcell hb)
      go_wp2
      go_ret2
      exact ⟨ret_ib (by rw [rtmV, if_pos Hq.out]; congr 1; omega) Hq.out.symm, (by repeat' (first | (with_reducible exact Below.refl _ _) | (with_reducible refine Below.alloc ?_ ?_ _) | (with_reducible refine Below.setCell ?_ ?_ _) | (with_reducible refine Below.drew ?_) | (with_reducible refine Below.trans ?_ (Below.mono (by with_reducible assumption) ?_)) | omega | (simp; done) | (simp; omega)))⟩
set_option maxHeartbeats 1000000 in
theorem sRainToMelt_any (st a s c i r l : Int) (w : World) :
    Calls Try.prog 21 #[.agg #[.int .i64 st, .int .i64 a, .int .i64 s, .int .i64 c, .int .i64 i, .int .i64 r, .int .i64 l]] w fun e w' => e = .returned (.tuple #[.int .i64 (rtmV st a s c i r l), .bool (rtmB st a s c i r l)]) ∧ Below w.heap.size w w' := by
  cases hp : poolOK st a s c i r l
  · have hq : rtmB st a s c i r l = false := by simp [rtmB, hp]
    go_enter Try.func21, Try.ntmps21
    go_wp2_with (go_at_call 43; refine (l21Good_any _ _ _ _ _ _ _ _).mono ?_; rintro e w1 ⟨rfl, hb⟩; have hs := hb.size; (try simp at hs); obtain ⟨hc, hf, hn⟩ := bcell hb)
    go_ret2
    exact ⟨ret_ib (by simp [rtmV, hq]) hq.symm, (by repeat' (first | (with_reducible exact Below.refl _ _) | (with_reducible refine Below.alloc ?_ ?_ _) | (with_reducible refine Below.setCell ?_ ?_ _) | (with_reducible refine Below.drew ?_) | (with_reducible refine Below.trans ?_ (Below.mono (by with_reducible assumption) ?_)) | omega | (simp; done) | (simp; omega)))⟩
  · cases h2 : (st == 2)
    · have hq : rtmB st a s c i r l = false := by simp [rtmB, h2]
      go_enter Try.func21, Try.ntmps21
      go_wp2_with (go_at_call 43; refine (l21Good_any _ _ _ _ _ _ _ _).mono ?_; rintro e w1 ⟨rfl, hb⟩; have hs := hb.size; (try simp at hs); obtain ⟨hc, hf, hn⟩ := bcell hb)
      go_ret2
      exact ⟨ret_ib (by simp [rtmV, hq]) hq.symm, (by repeat' (first | (with_reducible exact Below.refl _ _) | (with_reducible refine Below.alloc ?_ ?_ _) | (with_reducible refine Below.setCell ?_ ?_ _) | (with_reducible refine Below.drew ?_) | (with_reducible refine Below.trans ?_ (Below.mono (by with_reducible assumption) ?_)) | omega | (simp; done) | (simp; omega)))⟩
    · have hbd := poolOK_bd hp
      have hq : rtmB st a s c i r l = true := by simp [rtmB, hp, h2]
      have Hq := Lib.hid hq; clear hq
      go_enter Try.func21, Try.ntmps21
      go_wp2_with (first | (go_at_call 43; refine (l21Good_any _ _ _ _ _ _ _ _).mono ?_; rintro e w1 ⟨rfl, hb⟩; have hs := hb.size; (try simp at hs); obtain ⟨hc, hf, hn⟩ := bcell hb) | (go_at_call 51; refine (l1Most_any _ _ _).mono ?_; rintro e w1 ⟨rfl, rfl⟩))
      go_ret2
      exact ⟨ret_ib (by rw [rtmV, if_pos Hq.out, mx_comm]) Hq.out.symm, (by repeat' (first | (with_reducible exact Below.refl _ _) | (with_reducible refine Below.alloc ?_ ?_ _) | (with_reducible refine Below.setCell ?_ ?_ _) | (with_reducible refine Below.drew ?_) | (with_reducible refine Below.trans ?_ (Below.mono (by with_reducible assumption) ?_)) | omega | (simp; done) | (simp; omega)))⟩
set_option maxHeartbeats 1000000 in
theorem FnExactRainToMelt_law (st a s c i r l : Int) (w : World) :
    Calls Try.prog 6 #[.agg #[.int .i64 st, .int .i64 a, .int .i64 s, .int .i64 c, .int .i64 i, .int .i64 r, .int .i64 l]] w fun e w' => e = .returned (.bool true) ∧ Below w.heap.size w w' := by
  go_enter Try.func6, Try.ntmps6
  go_wp2_with (first | (go_at_call 13; refine (toPool_any _ _ _ _ _ _ _ _).mono ?_; rintro e w1 ⟨rfl, hb⟩; have hs := hb.size; (try simp at hs); obtain ⟨hc, hf, hn⟩ := bcell hb) | (go_at_call 21; refine (sRainToMelt_any _ _ _ _ _ _ _ _).mono ?_; rintro e w1 ⟨rfl, hb⟩; have hs := hb.size; (try simp at hs); obtain ⟨hc, hf, hn⟩ := bcell hb) | (go_at_call 22; refine (rainToMelt_any _ _ _ _ _ _ _ _).mono ?_; rintro e w1 ⟨rfl, hb⟩; have hs := hb.size; (try simp at hs); obtain ⟨hc, hf, hn⟩ := bcell hb))
  go_ret
  exact ⟨rfl, (by repeat' (first | (with_reducible exact Below.refl _ _) | (with_reducible refine Below.alloc ?_ ?_ _) | (with_reducible refine Below.setCell ?_ ?_ _) | (with_reducible refine Below.drew ?_) | (with_reducible refine Below.trans ?_ (Below.mono (by with_reducible assumption) ?_)) | omega | (simp; done) | (simp; omega)))⟩
set_option maxHeartbeats 1000000 in
theorem sunToCrop_any (st a s c i r l : Int) (w : World) :
    Calls Try.prog 24 #[.agg #[.int .i64 st, .int .i64 a, .int .i64 s, .int .i64 c, .int .i64 i, .int .i64 r, .int .i64 l]] w fun e w' => e = .returned (.tuple #[.int .i64 (stcV st a s c i r l), .bool (stcB st a s c i r l)]) ∧ Below w.heap.size w w' := by
  cases hp : poolOK st a s c i r l
  · have hq : stcB st a s c i r l = false := by simp [stcB, hp]
    go_enter Try.func24, Try.ntmps24
    go_wp2_with (go_at_call 14; refine (isPool_any _ _ _ _ _ _ _ _).mono ?_; rintro e w1 ⟨rfl, hb⟩; have hs := hb.size; (try simp at hs); obtain ⟨hc, hf, hn⟩ := bcell hb)
    go_ret2
    exact ⟨ret_ib (by simp [stcV, hq]) hq.symm, (by repeat' (first | (with_reducible exact Below.refl _ _) | (with_reducible refine Below.alloc ?_ ?_ _) | (with_reducible refine Below.setCell ?_ ?_ _) | (with_reducible refine Below.drew ?_) | (with_reducible refine Below.trans ?_ (Below.mono (by with_reducible assumption) ?_)) | omega | (simp; done) | (simp; omega)))⟩
  · cases h2 : (st == 1)
    · have hq : stcB st a s c i r l = false := by simp [stcB, h2]
      go_enter Try.func24, Try.ntmps24
      go_wp2_with (go_at_call 14; refine (isPool_any _ _ _ _ _ _ _ _).mono ?_; rintro e w1 ⟨rfl, hb⟩; have hs := hb.size; (try simp at hs); obtain ⟨hc, hf, hn⟩ := bcell hb)
      go_ret2
      exact ⟨ret_ib (by simp [stcV, hq]) hq.symm, (by repeat' (first | (with_reducible exact Below.refl _ _) | (with_reducible refine Below.alloc ?_ ?_ _) | (with_reducible refine Below.setCell ?_ ?_ _) | (with_reducible refine Below.drew ?_) | (with_reducible refine Below.trans ?_ (Below.mono (by with_reducible assumption) ?_)) | omega | (simp; done) | (simp; omega)))⟩
    · cases h3 : (s == 0)
      · have hbd := poolOK_bd hp
        have h2' : (st != 1) = false := by simpa using h2
        have h3' : 1 ≤ s := by have := beq_eq_false_iff_ne.1 h3; omega
        have hq : stcB st a s c i r l = true := by simp [stcB, hp, h2, h3]
        have Hq := Lib.hid hq; clear hq
        go_enter Try.func24, Try.ntmps24
        go_wp2_with (go_at_call 14; refine (isPool_any _ _ _ _ _ _ _ _).mono ?_; rintro e w1 ⟨rfl, hb⟩; have hs := hb.size; (try simp at hs); obtain ⟨hc, hf, hn⟩ := bcell hb)
        refine wp_region_quiet_below (by kernel_rfl) (by kernel_rfl) ?_
        repeat (go_big_quiet_step (first | (go_at_call 52; exact Calls.regrown_of (same_below (ceilDiv_any _ _ _ (by omega) (by omega) (by omega) (by omega))))))
        (refine wpQuiet_nil ?_; intro wq hwq; have hb := of_cls hwq; clear hwq; have hs := hb.size; (try simp at hs); obtain ⟨hc, hf, hn⟩ := bcell hb)
        go_wp2
        go_ret2
        exact ⟨ret_ib (by rw [stcV, if_pos Hq.out]; first | (congr 1; omega; done) | (rw [mx_comm]; done) | (rw [mx_comm]; congr 1; omega)) Hq.out.symm, (by repeat' (first | (with_reducible exact Below.refl _ _) | (with_reducible refine Below.alloc ?_ ?_ _) | (with_reducible refine Below.setCell ?_ ?_ _) | (with_reducible refine Below.drew ?_) | (with_reducible refine Below.trans ?_ (Below.mono (by with_reducible assumption) ?_)) | omega | (simp; done) | (simp; omega)))⟩
      · have h2' : (st != 1) = false := by simpa using h2
        have hq : stcB st a s c i r l = false := by simp [stcB, h3]
        go_enter Try.func24, Try.ntmps24
        go_wp2_with (go_at_call 14; refine (isPool_any _ _ _ _ _ _ _ _).mono ?_; rintro e w1 ⟨rfl, hb⟩; have hs := hb.size; (try simp at hs); obtain ⟨hc, hf, hn⟩ := bcell hb)
        go_ret2
        exact ⟨ret_ib (by simp [stcV, hq]) hq.symm, (by repeat' (first | (with_reducible exact Below.refl _ _) | (with_reducible refine Below.alloc ?_ ?_ _) | (with_reducible refine Below.setCell ?_ ?_ _) | (with_reducible refine Below.drew ?_) | (with_reducible refine Below.trans ?_ (Below.mono (by with_reducible assumption) ?_)) | omega | (simp; done) | (simp; omega)))⟩
set_option maxHeartbeats 1000000 in
theorem sSunToCrop_any (st a s c i r l : Int) (w : World) :
    Calls Try.prog 23 #[.agg #[.int .i64 st, .int .i64 a, .int .i64 s, .int .i64 c, .int .i64 i, .int .i64 r, .int .i64 l]] w fun e w' => e = .returned (.tuple #[.int .i64 (stcV st a s c i r l), .bool (stcB st a s c i r l)]) ∧ Below w.heap.size w w' := by
  cases hp : poolOK st a s c i r l
  · have hq : stcB st a s c i r l = false := by simp [stcB, hp]
    go_enter Try.func23, Try.ntmps23
    go_wp2_with (first | (go_at_call 43; refine (l21Good_any _ _ _ _ _ _ _ _).mono ?_; rintro e w1 ⟨rfl, hb⟩; have hs := hb.size; (try simp at hs); obtain ⟨hc, hf, hn⟩ := bcell hb) | (go_at_call 51; refine (l1Most_any _ _ _).mono ?_; rintro e w1 ⟨rfl, rfl⟩))
    go_ret2
    exact ⟨ret_ib (by simp [stcV, hq]) hq.symm, (by repeat' (first | (with_reducible exact Below.refl _ _) | (with_reducible refine Below.alloc ?_ ?_ _) | (with_reducible refine Below.setCell ?_ ?_ _) | (with_reducible refine Below.drew ?_) | (with_reducible refine Below.trans ?_ (Below.mono (by with_reducible assumption) ?_)) | omega | (simp; done) | (simp; omega)))⟩
  · cases h2 : (st == 1)
    · have hq : stcB st a s c i r l = false := by simp [stcB, h2]
      go_enter Try.func23, Try.ntmps23
      go_wp2_with (first | (go_at_call 43; refine (l21Good_any _ _ _ _ _ _ _ _).mono ?_; rintro e w1 ⟨rfl, hb⟩; have hs := hb.size; (try simp at hs); obtain ⟨hc, hf, hn⟩ := bcell hb) | (go_at_call 51; refine (l1Most_any _ _ _).mono ?_; rintro e w1 ⟨rfl, rfl⟩))
      go_ret2
      exact ⟨ret_ib (by simp [stcV, hq]) hq.symm, (by repeat' (first | (with_reducible exact Below.refl _ _) | (with_reducible refine Below.alloc ?_ ?_ _) | (with_reducible refine Below.setCell ?_ ?_ _) | (with_reducible refine Below.drew ?_) | (with_reducible refine Below.trans ?_ (Below.mono (by with_reducible assumption) ?_)) | omega | (simp; done) | (simp; omega)))⟩
    · cases h3 : (s == 0)
      · have hbd := poolOK_bd hp
        have h2' : (st != 1) = false := by simpa using h2
        have h3' : 1 ≤ s := by have := beq_eq_false_iff_ne.1 h3; omega
        have hq : stcB st a s c i r l = true := by simp [stcB, hp, h2, h3]
        have Hq := Lib.hid hq; clear hq
        go_enter Try.func23, Try.ntmps23
        go_wp2_with (first | (go_at_call 43; refine (l21Good_any _ _ _ _ _ _ _ _).mono ?_; rintro e w1 ⟨rfl, hb⟩; have hs := hb.size; (try simp at hs); obtain ⟨hc, hf, hn⟩ := bcell hb) | (go_at_call 51; refine (l1Most_any _ _ _).mono ?_; rintro e w1 ⟨rfl, rfl⟩))
  
        go_ret2
        exact ⟨ret_ib (by rw [stcV, if_pos Hq.out]; first | (congr 1; omega; done) | (rw [mx_comm]; done) | (rw [mx_comm]; congr 1; omega)) Hq.out.symm, (by repeat' (first | (with_reducible exact Below.refl _ _) | (with_reducible refine Below.alloc ?_ ?_ _) | (with_reducible refine Below.setCell ?_ ?_ _) | (with_reducible refine Below.drew ?_) | (with_reducible refine Below.trans ?_ (Below.mono (by with_reducible assumption) ?_)) | omega | (simp; done) | (simp; omega)))⟩
      · have h2' : (st != 1) = false := by simpa using h2
        have hq : stcB st a s c i r l = false := by simp [stcB, h3]
        go_enter Try.func23, Try.ntmps23
        go_wp2_with (first | (go_at_call 43; refine (l21Good_any _ _ _ _ _ _ _ _).mono ?_; rintro e w1 ⟨rfl, hb⟩; have hs := hb.size; (try simp at hs); obtain ⟨hc, hf, hn⟩ := bcell hb) | (go_at_call 51; refine (l1Most_any _ _ _).mono ?_; rintro e w1 ⟨rfl, rfl⟩))
        go_ret2
        exact ⟨ret_ib (by simp [stcV, hq]) hq.symm, (by repeat' (first | (with_reducible exact Below.refl _ _) | (with_reducible refine Below.alloc ?_ ?_ _) | (with_reducible refine Below.setCell ?_ ?_ _) | (with_reducible refine Below.drew ?_) | (with_reducible refine Below.trans ?_ (Below.mono (by with_reducible assumption) ?_)) | omega | (simp; done) | (simp; omega)))⟩
set_option maxHeartbeats 1000000 in
theorem FnExactSunToCrop_law (st a s c i r l : Int) (w : World) :
    Calls Try.prog 7 #[.agg #[.int .i64 st, .int .i64 a, .int .i64 s, .int .i64 c, .int .i64 i, .int .i64 r, .int .i64 l]] w fun e w' => e = .returned (.bool true) ∧ Below w.heap.size w w' := by
  go_enter Try.func7, Try.ntmps7
  go_wp2_with (first | (go_at_call 13; refine (toPool_any _ _ _ _ _ _ _ _).mono ?_; rintro e w1 ⟨rfl, hb⟩; have hs := hb.size; (try simp at hs); obtain ⟨hc, hf, hn⟩ := bcell hb) | (go_at_call 23; refine (sSunToCrop_any _ _ _ _ _ _ _ _).mono ?_; rintro e w1 ⟨rfl, hb⟩; have hs := hb.size; (try simp at hs); obtain ⟨hc, hf, hn⟩ := bcell hb) | (go_at_call 24; refine (sunToCrop_any _ _ _ _ _ _ _ _).mono ?_; rintro e w1 ⟨rfl, hb⟩; have hs := hb.size; (try simp at hs); obtain ⟨hc, hf, hn⟩ := bcell hb))
  go_ret
  exact ⟨rfl, (by repeat' (first | (with_reducible exact Below.refl _ _) | (with_reducible refine Below.alloc ?_ ?_ _) | (with_reducible refine Below.setCell ?_ ?_ _) | (with_reducible refine Below.drew ?_) | (with_reducible refine Below.trans ?_ (Below.mono (by with_reducible assumption) ?_)) | omega | (simp; done) | (simp; omega)))⟩
def stlB (a s c : Int) : Bool := inB a 0 1000000 && inB s 0 1000000 && inB c 0 1000000 && (inB a 0 1000000 && inB (s + imN a s c) 0 1000000) && inB (c - imN a s c) 0 1000000
def stlA (a s c : Int) : Int := if stlB a s c then a else 0
def stlS (a s c : Int) : Int := if stlB a s c then s + imN a s c else 0
def stlC (a s c : Int) : Int := if stlB a s c then c - imN a s c else 0
set_option maxHeartbeats 1000000 in
theorem settledBrine_any (a s c : Int) (w : World) :
    Calls Try.prog 19 #[.agg #[.int .i64 a, .int .i64 s], .int .i64 c] w fun e w' => e = .returned (.tuple #[.agg #[.int .i64 (stlA a s c), .int .i64 (stlS a s c)], .int .i64 (stlC a s c), .bool (stlB a s c)]) ∧ Below w.heap.size w w' := by
  cases h1 : (inB a 0 1000000 && inB s 0 1000000)
  · have hq : stlB a s c = false := by simp only [stlB, h1, Bool.false_and]
    go_enter Try.func19, Try.ntmps19
    go_wp2_with fail
    (go_at_call 44; refine (isBrine_any _ _ _).mono ?_; rintro e w1 ⟨rfl, hb1⟩)
    (have hs1 := hb1.size; (try simp at hs1); obtain ⟨hc1, hf1, hn1⟩ := bcell hb1; (try have hz1_w_0 : w.heap.size < w1.heap.size := by omega); (try have hz1_w_1 : w.heap.size + 1 < w1.heap.size := by omega); (try have hz1_w_2 : w.heap.size + 2 < w1.heap.size := by omega); (try have hz1_w_2b : w.heap.size + 1 + 1 < w1.heap.size := by omega))
    go_wp2_with fail
    ((try simp only [Exit.inBlock, Exit.then]); refine bodyPost_ret (by simp [results, Try.results19, go_sem, *]; try rfl) rfl ?_)
    exact ⟨ret_bib (by simp [stlA, hq]) (by simp [stlS, hq]) (by simp [stlC, hq]) hq.symm, (by repeat' (first | (with_reducible exact Below.refl _ _) | (with_reducible refine Below.alloc ?_ ?_ _) | (with_reducible refine Below.setCell ?_ ?_ _) | (with_reducible refine Below.drew ?_) | (with_reducible refine Below.trans ?_ (Below.mono (by with_reducible assumption) ?_)) | omega | (simp; done) | (simp; omega)))⟩
  · cases h2 : inB c 0 1000000
    · have hq : stlB a s c = false := by simp only [stlB, h1, h2, Bool.false_and, Bool.and_false]
      go_enter Try.func19, Try.ntmps19
      go_wp2_with (first | (go_at_call 45; refine (isKilos_any _ _).mono ?_; rintro e wX ⟨rfl, rfl⟩))
      (go_at_call 44; refine (isBrine_any _ _ _).mono ?_; rintro e w1 ⟨rfl, hb1⟩)
      (have hs1 := hb1.size; (try simp at hs1); obtain ⟨hc1, hf1, hn1⟩ := bcell hb1; (try have hz1_w_0 : w.heap.size < w1.heap.size := by omega); (try have hz1_w_1 : w.heap.size + 1 < w1.heap.size := by omega); (try have hz1_w_2 : w.heap.size + 2 < w1.heap.size := by omega); (try have hz1_w_2b : w.heap.size + 1 + 1 < w1.heap.size := by omega))
      go_wp2_with (first | (go_at_call 45; refine (isKilos_any _ _).mono ?_; rintro e wX ⟨rfl, rfl⟩))
      ((try simp only [Exit.inBlock, Exit.then]); refine bodyPost_ret (by simp [results, Try.results19, go_sem, *]; try rfl) rfl ?_)
      exact ⟨ret_bib (by simp [stlA, hq]) (by simp [stlS, hq]) (by simp [stlC, hq]) hq.symm, (by repeat' (first | (with_reducible exact Below.refl _ _) | (with_reducible refine Below.alloc ?_ ?_ _) | (with_reducible refine Below.setCell ?_ ?_ _) | (with_reducible refine Below.drew ?_) | (with_reducible refine Below.trans ?_ (Below.mono (by with_reducible assumption) ?_)) | omega | (simp; done) | (simp; omega)))⟩
    · have hx : (0 ≤ a ∧ a ≤ 1000000) ∧ (0 ≤ s ∧ s ≤ 1000000) := by simpa [inB] using h1
      have hy := inB_iff.1 h2
      have hm := @imN_bd a s c
      have hk := kp_bd a (by omega) (by omega)
      cases h3 : (inB a 0 1000000 && inB (s + imN a s c) 0 1000000)
      · have hq : stlB a s c = false := by simp only [stlB, h3, Bool.false_and, Bool.and_false]
        go_enter Try.func19, Try.ntmps19
        go_wp2_with (first | (go_at_call 45; refine (isKilos_any _ _).mono ?_; rintro e wX ⟨rfl, rfl⟩))
        (go_at_call 44; refine (isBrine_any _ _ _).mono ?_; rintro e w1 ⟨rfl, hb1⟩)
        (have hs1 := hb1.size; (try simp at hs1); obtain ⟨hc1, hf1, hn1⟩ := bcell hb1; (try have hz1_w_0 : w.heap.size < w1.heap.size := by omega); (try have hz1_w_1 : w.heap.size + 1 < w1.heap.size := by omega); (try have hz1_w_2 : w.heap.size + 2 < w1.heap.size := by omega); (try have hz1_w_2b : w.heap.size + 1 + 1 < w1.heap.size := by omega))
        go_wp2_with (first | (go_at_call 45; refine (isKilos_any _ _).mono ?_; rintro e wX ⟨rfl, rfl⟩))
        (go_at_call 50; refine (settled_any _ _ _ _ (by omega) (by omega) (by omega) (by omega) (by omega) (by omega)).mono ?_; rintro e w2 ⟨rfl, hb2⟩)
        (have hs2 := hb2.size; (try simp at hs2); obtain ⟨hc2, hf2, hn2⟩ := bcell hb2; (try have hz2_w_0 : w.heap.size < w2.heap.size := by omega); (try have hz2_w_1 : w.heap.size + 1 < w2.heap.size := by omega); (try have hz2_w_2 : w.heap.size + 2 < w2.heap.size := by omega); (try have hz2_w_2b : w.heap.size + 1 + 1 < w2.heap.size := by omega); (try have hz2_w1_0 : w1.heap.size < w2.heap.size := by omega); (try have hz2_w1_1 : w1.heap.size + 1 < w2.heap.size := by omega); (try have hz2_w1_2 : w1.heap.size + 2 < w2.heap.size := by omega); (try have hz2_w1_2b : w1.heap.size + 1 + 1 < w2.heap.size := by omega))
        go_wp2_with (first | (go_at_call 45; refine (isKilos_any _ _).mono ?_; rintro e wX ⟨rfl, rfl⟩))
        (go_at_call 44; refine (isBrine_any _ _ _).mono ?_; rintro e w3 ⟨rfl, hb3⟩)
        (have hs3 := hb3.size; (try simp at hs3); obtain ⟨hc3, hf3, hn3⟩ := bcell hb3; (try have hz3_w_0 : w.heap.size < w3.heap.size := by omega); (try have hz3_w_1 : w.heap.size + 1 < w3.heap.size := by omega); (try have hz3_w_2 : w.heap.size + 2 < w3.heap.size := by omega); (try have hz3_w_2b : w.heap.size + 1 + 1 < w3.heap.size := by omega); (try have hz3_w1_0 : w1.heap.size < w3.heap.size := by omega); (try have hz3_w1_1 : w1.heap.size + 1 < w3.heap.size := by omega); (try have hz3_w1_2 : w1.heap.size + 2 < w3.heap.size := by omega); (try have hz3_w1_2b : w1.heap.size + 1 + 1 < w3.heap.size := by omega); (try have hz3_w2_0 : w2.heap.size < w3.heap.size := by omega); (try have hz3_w2_1 : w2.heap.size + 1 < w3.heap.size := by omega); (try have hz3_w2_2 : w2.heap.size + 2 < w3.heap.size := by omega); (try have hz3_w2_2b : w2.heap.size + 1 + 1 < w3.heap.size := by omega))
        go_wp2_with (first | (go_at_call 45; refine (isKilos_any _ _).mono ?_; rintro e wX ⟨rfl, rfl⟩))
        ((try simp only [Exit.inBlock, Exit.then]); refine bodyPost_ret (by simp [results, Try.results19, go_sem, *]; try rfl) rfl ?_)
        exact ⟨ret_bib (by simp [stlA, hq]) (by simp [stlS, hq]) (by simp [stlC, hq]) hq.symm, (by repeat' (first | (with_reducible exact Below.refl _ _) | (with_reducible refine Below.alloc ?_ ?_ _) | (with_reducible refine Below.setCell ?_ ?_ _) | (with_reducible refine Below.drew ?_) | (with_reducible refine Below.trans ?_ (Below.mono (by with_reducible assumption) ?_)) | omega | (simp; done) | (simp; omega)))⟩
      · cases h4 : inB (c - imN a s c) 0 1000000
        · have hq : stlB a s c = false := by simp only [stlB, h4, Bool.and_false]
          go_enter Try.func19, Try.ntmps19
          go_wp2_with (first | (go_at_call 45; refine (isKilos_any _ _).mono ?_; rintro e wX ⟨rfl, rfl⟩))
          (go_at_call 44; refine (isBrine_any _ _ _).mono ?_; rintro e w1 ⟨rfl, hb1⟩)
          (have hs1 := hb1.size; (try simp at hs1); obtain ⟨hc1, hf1, hn1⟩ := bcell hb1; (try have hz1_w_0 : w.heap.size < w1.heap.size := by omega); (try have hz1_w_1 : w.heap.size + 1 < w1.heap.size := by omega); (try have hz1_w_2 : w.heap.size + 2 < w1.heap.size := by omega); (try have hz1_w_2b : w.heap.size + 1 + 1 < w1.heap.size := by omega))
          go_wp2_with (first | (go_at_call 45; refine (isKilos_any _ _).mono ?_; rintro e wX ⟨rfl, rfl⟩))
          (go_at_call 50; refine (settled_any _ _ _ _ (by omega) (by omega) (by omega) (by omega) (by omega) (by omega)).mono ?_; rintro e w2 ⟨rfl, hb2⟩)
          (have hs2 := hb2.size; (try simp at hs2); obtain ⟨hc2, hf2, hn2⟩ := bcell hb2; (try have hz2_w_0 : w.heap.size < w2.heap.size := by omega); (try have hz2_w_1 : w.heap.size + 1 < w2.heap.size := by omega); (try have hz2_w_2 : w.heap.size + 2 < w2.heap.size := by omega); (try have hz2_w_2b : w.heap.size + 1 + 1 < w2.heap.size := by omega); (try have hz2_w1_0 : w1.heap.size < w2.heap.size := by omega); (try have hz2_w1_1 : w1.heap.size + 1 < w2.heap.size := by omega); (try have hz2_w1_2 : w1.heap.size + 2 < w2.heap.size := by omega); (try have hz2_w1_2b : w1.heap.size + 1 + 1 < w2.heap.size := by omega))
          go_wp2_with (first | (go_at_call 45; refine (isKilos_any _ _).mono ?_; rintro e wX ⟨rfl, rfl⟩))
          (go_at_call 44; refine (isBrine_any _ _ _).mono ?_; rintro e w3 ⟨rfl, hb3⟩)
          (have hs3 := hb3.size; (try simp at hs3); obtain ⟨hc3, hf3, hn3⟩ := bcell hb3; (try have hz3_w_0 : w.heap.size < w3.heap.size := by omega); (try have hz3_w_1 : w.heap.size + 1 < w3.heap.size := by omega); (try have hz3_w_2 : w.heap.size + 2 < w3.heap.size := by omega); (try have hz3_w_2b : w.heap.size + 1 + 1 < w3.heap.size := by omega); (try have hz3_w1_0 : w1.heap.size < w3.heap.size := by omega); (try have hz3_w1_1 : w1.heap.size + 1 < w3.heap.size := by omega); (try have hz3_w1_2 : w1.heap.size + 2 < w3.heap.size := by omega); (try have hz3_w1_2b : w1.heap.size + 1 + 1 < w3.heap.size := by omega); (try have hz3_w2_0 : w2.heap.size < w3.heap.size := by omega); (try have hz3_w2_1 : w2.heap.size + 1 < w3.heap.size := by omega); (try have hz3_w2_2 : w2.heap.size + 2 < w3.heap.size := by omega); (try have hz3_w2_2b : w2.heap.size + 1 + 1 < w3.heap.size := by omega))
          go_wp2_with (first | (go_at_call 45; refine (isKilos_any _ _).mono ?_; rintro e wX ⟨rfl, rfl⟩))
          ((try simp only [Exit.inBlock, Exit.then]); refine bodyPost_ret (by simp [results, Try.results19, go_sem, *]; try rfl) rfl ?_)
          exact ⟨ret_bib (by simp [stlA, hq]) (by simp [stlS, hq]) (by simp [stlC, hq]) hq.symm, (by repeat' (first | (with_reducible exact Below.refl _ _) | (with_reducible refine Below.alloc ?_ ?_ _) | (with_reducible refine Below.setCell ?_ ?_ _) | (with_reducible refine Below.drew ?_) | (with_reducible refine Below.trans ?_ (Below.mono (by with_reducible assumption) ?_)) | omega | (simp; done) | (simp; omega)))⟩
        · have hq : stlB a s c = true := by simp only [stlB, h1, h2, h3, h4, Bool.and_self]
          go_enter Try.func19, Try.ntmps19
          go_wp2_with (first | (go_at_call 45; refine (isKilos_any _ _).mono ?_; rintro e wX ⟨rfl, rfl⟩))
          (go_at_call 44; refine (isBrine_any _ _ _).mono ?_; rintro e w1 ⟨rfl, hb1⟩)
          (have hs1 := hb1.size; (try simp at hs1); obtain ⟨hc1, hf1, hn1⟩ := bcell hb1; (try have hz1_w_0 : w.heap.size < w1.heap.size := by omega); (try have hz1_w_1 : w.heap.size + 1 < w1.heap.size := by omega); (try have hz1_w_2 : w.heap.size + 2 < w1.heap.size := by omega); (try have hz1_w_2b : w.heap.size + 1 + 1 < w1.heap.size := by omega))
          go_wp2_with (first | (go_at_call 45; refine (isKilos_any _ _).mono ?_; rintro e wX ⟨rfl, rfl⟩))
          (go_at_call 50; refine (settled_any _ _ _ _ (by omega) (by omega) (by omega) (by omega) (by omega) (by omega)).mono ?_; rintro e w2 ⟨rfl, hb2⟩)
          (have hs2 := hb2.size; (try simp at hs2); obtain ⟨hc2, hf2, hn2⟩ := bcell hb2; (try have hz2_w_0 : w.heap.size < w2.heap.size := by omega); (try have hz2_w_1 : w.heap.size + 1 < w2.heap.size := by omega); (try have hz2_w_2 : w.heap.size + 2 < w2.heap.size := by omega); (try have hz2_w_2b : w.heap.size + 1 + 1 < w2.heap.size := by omega); (try have hz2_w1_0 : w1.heap.size < w2.heap.size := by omega); (try have hz2_w1_1 : w1.heap.size + 1 < w2.heap.size := by omega); (try have hz2_w1_2 : w1.heap.size + 2 < w2.heap.size := by omega); (try have hz2_w1_2b : w1.heap.size + 1 + 1 < w2.heap.size := by omega))
          go_wp2_with (first | (go_at_call 45; refine (isKilos_any _ _).mono ?_; rintro e wX ⟨rfl, rfl⟩))
          (go_at_call 44; refine (isBrine_any _ _ _).mono ?_; rintro e w3 ⟨rfl, hb3⟩)
          (have hs3 := hb3.size; (try simp at hs3); obtain ⟨hc3, hf3, hn3⟩ := bcell hb3; (try have hz3_w_0 : w.heap.size < w3.heap.size := by omega); (try have hz3_w_1 : w.heap.size + 1 < w3.heap.size := by omega); (try have hz3_w_2 : w.heap.size + 2 < w3.heap.size := by omega); (try have hz3_w_2b : w.heap.size + 1 + 1 < w3.heap.size := by omega); (try have hz3_w1_0 : w1.heap.size < w3.heap.size := by omega); (try have hz3_w1_1 : w1.heap.size + 1 < w3.heap.size := by omega); (try have hz3_w1_2 : w1.heap.size + 2 < w3.heap.size := by omega); (try have hz3_w1_2b : w1.heap.size + 1 + 1 < w3.heap.size := by omega); (try have hz3_w2_0 : w2.heap.size < w3.heap.size := by omega); (try have hz3_w2_1 : w2.heap.size + 1 < w3.heap.size := by omega); (try have hz3_w2_2 : w2.heap.size + 2 < w3.heap.size := by omega); (try have hz3_w2_2b : w2.heap.size + 1 + 1 < w3.heap.size := by omega))
          go_wp2_with (first | (go_at_call 45; refine (isKilos_any _ _).mono ?_; rintro e wX ⟨rfl, rfl⟩))
          ((try simp only [Exit.inBlock, Exit.then]); refine bodyPost_ret (by simp [results, Try.results19, go_sem, *]; try rfl) rfl ?_)
          exact ⟨ret_bib (by simp [stlA, hq]) (by simp [stlS, hq]) (by simp [stlC, hq]) hq.symm, (by repeat' (first | (with_reducible exact Below.refl _ _) | (with_reducible refine Below.alloc ?_ ?_ _) | (with_reducible refine Below.setCell ?_ ?_ _) | (with_reducible refine Below.drew ?_) | (with_reducible refine Below.trans ?_ (Below.mono (by with_reducible assumption) ?_)) | omega | (simp; done) | (simp; omega)))⟩
theorem l21Settle_im (a s c : Int) (w : World) (h0 : 0 ≤ a) (h1 : a ≤ 1000000000000000) (h2 : -1000000000000000 ≤ s) (h3 : s ≤ 1000000000000000) (h4 : 0 ≤ c) (h5 : c ≤ 1000000000000000) :
    Calls Try.prog 49 #[.agg #[.int .i64 a, .int .i64 s], .int .i64 c] w fun e w' => e = .returned (.tuple #[.agg #[.int .i64 a, .int .i64 (s + imN a s c)], .int .i64 (c - imN a s c)]) ∧ Below w.heap.size w w' := by
  have h := l21Settle_any a s c w h0 h1 h2 h3 (by omega) h5
  rw [spN_im h4] at h
  rw [show s - -imN a s c = s + imN a s c by omega, show c + -imN a s c = c - imN a s c by omega] at h
  exact h
set_option maxHeartbeats 1000000 in
theorem sSettledBrine_any (a s c : Int) (w : World) :
    Calls Try.prog 17 #[.agg #[.int .i64 a, .int .i64 s], .int .i64 c] w fun e w' => e = .returned (.tuple #[.agg #[.int .i64 (stlA a s c), .int .i64 (stlS a s c)], .int .i64 (stlC a s c), .bool (stlB a s c)]) ∧ Below w.heap.size w w' := by
  cases h1 : (inB a 0 1000000 && inB s 0 1000000)
  · have hq : stlB a s c = false := by simp only [stlB, h1, Bool.false_and]
    go_enter Try.func17, Try.ntmps17
    go_wp2_with fail
    (go_at_call 47; refine (l2Brine_any _ _ _).mono ?_; rintro e w1 ⟨rfl, hb1⟩)
    (have hs1 := hb1.size; (try simp at hs1); obtain ⟨hc1, hf1, hn1⟩ := bcell hb1; (try have hz1_w_0 : w.heap.size < w1.heap.size := by omega); (try have hz1_w_1 : w.heap.size + 1 < w1.heap.size := by omega); (try have hz1_w_2 : w.heap.size + 2 < w1.heap.size := by omega); (try have hz1_w_2b : w.heap.size + 1 + 1 < w1.heap.size := by omega))
    go_wp2_with fail
    ((try simp only [Exit.inBlock, Exit.then]); refine bodyPost_ret (by simp [results, Try.results17, go_sem, *]; try rfl) rfl ?_)
    exact ⟨ret_bib (by simp [stlA, hq]) (by simp [stlS, hq]) (by simp [stlC, hq]) hq.symm, (by repeat' (first | (with_reducible exact Below.refl _ _) | (with_reducible refine Below.alloc ?_ ?_ _) | (with_reducible refine Below.setCell ?_ ?_ _) | (with_reducible refine Below.drew ?_) | (with_reducible refine Below.trans ?_ (Below.mono (by with_reducible assumption) ?_)) | omega | (simp; done) | (simp; omega)))⟩
  · cases h2 : inB c 0 1000000
    · have hq : stlB a s c = false := by simp only [stlB, h1, h2, Bool.false_and, Bool.and_false]
      go_enter Try.func17, Try.ntmps17
      go_wp2_with (first | (go_at_call 48; refine (l21Kilos_any _ _).mono ?_; rintro e wX ⟨rfl, rfl⟩))
      (go_at_call 47; refine (l2Brine_any _ _ _).mono ?_; rintro e w1 ⟨rfl, hb1⟩)
      (have hs1 := hb1.size; (try simp at hs1); obtain ⟨hc1, hf1, hn1⟩ := bcell hb1; (try have hz1_w_0 : w.heap.size < w1.heap.size := by omega); (try have hz1_w_1 : w.heap.size + 1 < w1.heap.size := by omega); (try have hz1_w_2 : w.heap.size + 2 < w1.heap.size := by omega); (try have hz1_w_2b : w.heap.size + 1 + 1 < w1.heap.size := by omega))
      go_wp2_with (first | (go_at_call 48; refine (l21Kilos_any _ _).mono ?_; rintro e wX ⟨rfl, rfl⟩))
      ((try simp only [Exit.inBlock, Exit.then]); refine bodyPost_ret (by simp [results, Try.results17, go_sem, *]; try rfl) rfl ?_)
      exact ⟨ret_bib (by simp [stlA, hq]) (by simp [stlS, hq]) (by simp [stlC, hq]) hq.symm, (by repeat' (first | (with_reducible exact Below.refl _ _) | (with_reducible refine Below.alloc ?_ ?_ _) | (with_reducible refine Below.setCell ?_ ?_ _) | (with_reducible refine Below.drew ?_) | (with_reducible refine Below.trans ?_ (Below.mono (by with_reducible assumption) ?_)) | omega | (simp; done) | (simp; omega)))⟩
    · have hx : (0 ≤ a ∧ a ≤ 1000000) ∧ (0 ≤ s ∧ s ≤ 1000000) := by simpa [inB] using h1
      have hy := inB_iff.1 h2
      have hm := @imN_bd a s c
      have hk := kp_bd a (by omega) (by omega)
      cases h3 : (inB a 0 1000000 && inB (s + imN a s c) 0 1000000)
      · have hq : stlB a s c = false := by simp only [stlB, h3, Bool.false_and, Bool.and_false]
        go_enter Try.func17, Try.ntmps17
        go_wp2_with (first | (go_at_call 48; refine (l21Kilos_any _ _).mono ?_; rintro e wX ⟨rfl, rfl⟩))
        (go_at_call 47; refine (l2Brine_any _ _ _).mono ?_; rintro e w1 ⟨rfl, hb1⟩)
        (have hs1 := hb1.size; (try simp at hs1); obtain ⟨hc1, hf1, hn1⟩ := bcell hb1; (try have hz1_w_0 : w.heap.size < w1.heap.size := by omega); (try have hz1_w_1 : w.heap.size + 1 < w1.heap.size := by omega); (try have hz1_w_2 : w.heap.size + 2 < w1.heap.size := by omega); (try have hz1_w_2b : w.heap.size + 1 + 1 < w1.heap.size := by omega))
        go_wp2_with (first | (go_at_call 48; refine (l21Kilos_any _ _).mono ?_; rintro e wX ⟨rfl, rfl⟩))
        (go_at_call 49; refine (l21Settle_im _ _ _ _ (by omega) (by omega) (by omega) (by omega) (by omega) (by omega)).mono ?_; rintro e w2 ⟨rfl, hb2⟩)
        (have hs2 := hb2.size; (try simp at hs2); obtain ⟨hc2, hf2, hn2⟩ := bcell hb2; (try have hz2_w_0 : w.heap.size < w2.heap.size := by omega); (try have hz2_w_1 : w.heap.size + 1 < w2.heap.size := by omega); (try have hz2_w_2 : w.heap.size + 2 < w2.heap.size := by omega); (try have hz2_w_2b : w.heap.size + 1 + 1 < w2.heap.size := by omega); (try have hz2_w1_0 : w1.heap.size < w2.heap.size := by omega); (try have hz2_w1_1 : w1.heap.size + 1 < w2.heap.size := by omega); (try have hz2_w1_2 : w1.heap.size + 2 < w2.heap.size := by omega); (try have hz2_w1_2b : w1.heap.size + 1 + 1 < w2.heap.size := by omega))
        go_wp2_with (first | (go_at_call 48; refine (l21Kilos_any _ _).mono ?_; rintro e wX ⟨rfl, rfl⟩))
        (go_at_call 47; refine (l2Brine_any _ _ _).mono ?_; rintro e w3 ⟨rfl, hb3⟩)
        (have hs3 := hb3.size; (try simp at hs3); obtain ⟨hc3, hf3, hn3⟩ := bcell hb3; (try have hz3_w_0 : w.heap.size < w3.heap.size := by omega); (try have hz3_w_1 : w.heap.size + 1 < w3.heap.size := by omega); (try have hz3_w_2 : w.heap.size + 2 < w3.heap.size := by omega); (try have hz3_w_2b : w.heap.size + 1 + 1 < w3.heap.size := by omega); (try have hz3_w1_0 : w1.heap.size < w3.heap.size := by omega); (try have hz3_w1_1 : w1.heap.size + 1 < w3.heap.size := by omega); (try have hz3_w1_2 : w1.heap.size + 2 < w3.heap.size := by omega); (try have hz3_w1_2b : w1.heap.size + 1 + 1 < w3.heap.size := by omega); (try have hz3_w2_0 : w2.heap.size < w3.heap.size := by omega); (try have hz3_w2_1 : w2.heap.size + 1 < w3.heap.size := by omega); (try have hz3_w2_2 : w2.heap.size + 2 < w3.heap.size := by omega); (try have hz3_w2_2b : w2.heap.size + 1 + 1 < w3.heap.size := by omega))
        go_wp2_with (first | (go_at_call 48; refine (l21Kilos_any _ _).mono ?_; rintro e wX ⟨rfl, rfl⟩))
        ((try simp only [Exit.inBlock, Exit.then]); refine bodyPost_ret (by simp [results, Try.results17, go_sem, *]; try rfl) rfl ?_)
        exact ⟨ret_bib (by simp [stlA, hq]) (by simp [stlS, hq]) (by simp [stlC, hq]) hq.symm, (by repeat' (first | (with_reducible exact Below.refl _ _) | (with_reducible refine Below.alloc ?_ ?_ _) | (with_reducible refine Below.setCell ?_ ?_ _) | (with_reducible refine Below.drew ?_) | (with_reducible refine Below.trans ?_ (Below.mono (by with_reducible assumption) ?_)) | omega | (simp; done) | (simp; omega)))⟩
      · cases h4 : inB (c - imN a s c) 0 1000000
        · have hq : stlB a s c = false := by simp only [stlB, h4, Bool.and_false]
          go_enter Try.func17, Try.ntmps17
          go_wp2_with (first | (go_at_call 48; refine (l21Kilos_any _ _).mono ?_; rintro e wX ⟨rfl, rfl⟩))
          (go_at_call 47; refine (l2Brine_any _ _ _).mono ?_; rintro e w1 ⟨rfl, hb1⟩)
          (have hs1 := hb1.size; (try simp at hs1); obtain ⟨hc1, hf1, hn1⟩ := bcell hb1; (try have hz1_w_0 : w.heap.size < w1.heap.size := by omega); (try have hz1_w_1 : w.heap.size + 1 < w1.heap.size := by omega); (try have hz1_w_2 : w.heap.size + 2 < w1.heap.size := by omega); (try have hz1_w_2b : w.heap.size + 1 + 1 < w1.heap.size := by omega))
          go_wp2_with (first | (go_at_call 48; refine (l21Kilos_any _ _).mono ?_; rintro e wX ⟨rfl, rfl⟩))
          (go_at_call 49; refine (l21Settle_im _ _ _ _ (by omega) (by omega) (by omega) (by omega) (by omega) (by omega)).mono ?_; rintro e w2 ⟨rfl, hb2⟩)
          (have hs2 := hb2.size; (try simp at hs2); obtain ⟨hc2, hf2, hn2⟩ := bcell hb2; (try have hz2_w_0 : w.heap.size < w2.heap.size := by omega); (try have hz2_w_1 : w.heap.size + 1 < w2.heap.size := by omega); (try have hz2_w_2 : w.heap.size + 2 < w2.heap.size := by omega); (try have hz2_w_2b : w.heap.size + 1 + 1 < w2.heap.size := by omega); (try have hz2_w1_0 : w1.heap.size < w2.heap.size := by omega); (try have hz2_w1_1 : w1.heap.size + 1 < w2.heap.size := by omega); (try have hz2_w1_2 : w1.heap.size + 2 < w2.heap.size := by omega); (try have hz2_w1_2b : w1.heap.size + 1 + 1 < w2.heap.size := by omega))
          go_wp2_with (first | (go_at_call 48; refine (l21Kilos_any _ _).mono ?_; rintro e wX ⟨rfl, rfl⟩))
          (go_at_call 47; refine (l2Brine_any _ _ _).mono ?_; rintro e w3 ⟨rfl, hb3⟩)
          (have hs3 := hb3.size; (try simp at hs3); obtain ⟨hc3, hf3, hn3⟩ := bcell hb3; (try have hz3_w_0 : w.heap.size < w3.heap.size := by omega); (try have hz3_w_1 : w.heap.size + 1 < w3.heap.size := by omega); (try have hz3_w_2 : w.heap.size + 2 < w3.heap.size := by omega); (try have hz3_w_2b : w.heap.size + 1 + 1 < w3.heap.size := by omega); (try have hz3_w1_0 : w1.heap.size < w3.heap.size := by omega); (try have hz3_w1_1 : w1.heap.size + 1 < w3.heap.size := by omega); (try have hz3_w1_2 : w1.heap.size + 2 < w3.heap.size := by omega); (try have hz3_w1_2b : w1.heap.size + 1 + 1 < w3.heap.size := by omega); (try have hz3_w2_0 : w2.heap.size < w3.heap.size := by omega); (try have hz3_w2_1 : w2.heap.size + 1 < w3.heap.size := by omega); (try have hz3_w2_2 : w2.heap.size + 2 < w3.heap.size := by omega); (try have hz3_w2_2b : w2.heap.size + 1 + 1 < w3.heap.size := by omega))
          go_wp2_with (first | (go_at_call 48; refine (l21Kilos_any _ _).mono ?_; rintro e wX ⟨rfl, rfl⟩))
          ((try simp only [Exit.inBlock, Exit.then]); refine bodyPost_ret (by simp [results, Try.results17, go_sem, *]; try rfl) rfl ?_)
          exact ⟨ret_bib (by simp [stlA, hq]) (by simp [stlS, hq]) (by simp [stlC, hq]) hq.symm, (by repeat' (first | (with_reducible exact Below.refl _ _) | (with_reducible refine Below.alloc ?_ ?_ _) | (with_reducible refine Below.setCell ?_ ?_ _) | (with_reducible refine Below.drew ?_) | (with_reducible refine Below.trans ?_ (Below.mono (by with_reducible assumption) ?_)) | omega | (simp; done) | (simp; omega)))⟩
        · have hq : stlB a s c = true := by simp only [stlB, h1, h2, h3, h4, Bool.and_self]
          go_enter Try.func17, Try.ntmps17
          go_wp2_with (first | (go_at_call 48; refine (l21Kilos_any _ _).mono ?_; rintro e wX ⟨rfl, rfl⟩))
          (go_at_call 47; refine (l2Brine_any _ _ _).mono ?_; rintro e w1 ⟨rfl, hb1⟩)
          (have hs1 := hb1.size; (try simp at hs1); obtain ⟨hc1, hf1, hn1⟩ := bcell hb1; (try have hz1_w_0 : w.heap.size < w1.heap.size := by omega); (try have hz1_w_1 : w.heap.size + 1 < w1.heap.size := by omega); (try have hz1_w_2 : w.heap.size + 2 < w1.heap.size := by omega); (try have hz1_w_2b : w.heap.size + 1 + 1 < w1.heap.size := by omega))
          go_wp2_with (first | (go_at_call 48; refine (l21Kilos_any _ _).mono ?_; rintro e wX ⟨rfl, rfl⟩))
          (go_at_call 49; refine (l21Settle_im _ _ _ _ (by omega) (by omega) (by omega) (by omega) (by omega) (by omega)).mono ?_; rintro e w2 ⟨rfl, hb2⟩)
          (have hs2 := hb2.size; (try simp at hs2); obtain ⟨hc2, hf2, hn2⟩ := bcell hb2; (try have hz2_w_0 : w.heap.size < w2.heap.size := by omega); (try have hz2_w_1 : w.heap.size + 1 < w2.heap.size := by omega); (try have hz2_w_2 : w.heap.size + 2 < w2.heap.size := by omega); (try have hz2_w_2b : w.heap.size + 1 + 1 < w2.heap.size := by omega); (try have hz2_w1_0 : w1.heap.size < w2.heap.size := by omega); (try have hz2_w1_1 : w1.heap.size + 1 < w2.heap.size := by omega); (try have hz2_w1_2 : w1.heap.size + 2 < w2.heap.size := by omega); (try have hz2_w1_2b : w1.heap.size + 1 + 1 < w2.heap.size := by omega))
          go_wp2_with (first | (go_at_call 48; refine (l21Kilos_any _ _).mono ?_; rintro e wX ⟨rfl, rfl⟩))
          (go_at_call 47; refine (l2Brine_any _ _ _).mono ?_; rintro e w3 ⟨rfl, hb3⟩)
          (have hs3 := hb3.size; (try simp at hs3); obtain ⟨hc3, hf3, hn3⟩ := bcell hb3; (try have hz3_w_0 : w.heap.size < w3.heap.size := by omega); (try have hz3_w_1 : w.heap.size + 1 < w3.heap.size := by omega); (try have hz3_w_2 : w.heap.size + 2 < w3.heap.size := by omega); (try have hz3_w_2b : w.heap.size + 1 + 1 < w3.heap.size := by omega); (try have hz3_w1_0 : w1.heap.size < w3.heap.size := by omega); (try have hz3_w1_1 : w1.heap.size + 1 < w3.heap.size := by omega); (try have hz3_w1_2 : w1.heap.size + 2 < w3.heap.size := by omega); (try have hz3_w1_2b : w1.heap.size + 1 + 1 < w3.heap.size := by omega); (try have hz3_w2_0 : w2.heap.size < w3.heap.size := by omega); (try have hz3_w2_1 : w2.heap.size + 1 < w3.heap.size := by omega); (try have hz3_w2_2 : w2.heap.size + 2 < w3.heap.size := by omega); (try have hz3_w2_2b : w2.heap.size + 1 + 1 < w3.heap.size := by omega))
          go_wp2_with (first | (go_at_call 48; refine (l21Kilos_any _ _).mono ?_; rintro e wX ⟨rfl, rfl⟩))
          ((try simp only [Exit.inBlock, Exit.then]); refine bodyPost_ret (by simp [results, Try.results17, go_sem, *]; try rfl) rfl ?_)
          exact ⟨ret_bib (by simp [stlA, hq]) (by simp [stlS, hq]) (by simp [stlC, hq]) hq.symm, (by repeat' (first | (with_reducible exact Below.refl _ _) | (with_reducible refine Below.alloc ?_ ?_ _) | (with_reducible refine Below.setCell ?_ ?_ _) | (with_reducible refine Below.drew ?_) | (with_reducible refine Below.trans ?_ (Below.mono (by with_reducible assumption) ?_)) | omega | (simp; done) | (simp; omega)))⟩
set_option maxHeartbeats 400000 in
theorem eqBrine_same (a s : Int) (w : World) :
    Calls Try.prog 20 #[.agg #[.int .i64 a, .int .i64 s], .agg #[.int .i64 a, .int .i64 s]] w fun e w' => e = .returned (.bool true) ∧ Below w.heap.size w w' := by
  go_enter Try.func20, Try.ntmps20
  go_wp2
  go_ret
  exact ⟨rfl, (by repeat' (first | (with_reducible exact Below.refl _ _) | (with_reducible refine Below.alloc ?_ ?_ _) | (with_reducible refine Below.setCell ?_ ?_ _) | (with_reducible refine Below.drew ?_) | (with_reducible refine Below.trans ?_ (Below.mono (by with_reducible assumption) ?_)) | omega | (simp; done) | (simp; omega)))⟩
set_option maxHeartbeats 1000000 in
theorem FnExactSettledBrine_law (a s c : Int) (w : World) :
    Calls Try.prog 5 #[.agg #[.int .i64 a, .int .i64 s], .int .i64 c] w fun e w' => e = .returned (.bool true) ∧ Below w.heap.size w w' := by
  go_enter Try.func5, Try.ntmps5
  go_wp2_with fail
  (go_at_call 18; refine (toBrine_any _ _ _).mono ?_; rintro e w1 ⟨rfl, hb1⟩)
  (have hs1 := hb1.size; (try simp at hs1); obtain ⟨hc1, hf1, hn1⟩ := bcell hb1; (try have hz1_w_0 : w.heap.size < w1.heap.size := by omega); (try have hz1_w_1 : w.heap.size + 1 < w1.heap.size := by omega); (try have hz1_w_2 : w.heap.size + 2 < w1.heap.size := by omega); (try have hz1_w_2b : w.heap.size + 1 + 1 < w1.heap.size := by omega))
  go_wp2_with fail
  (go_at_call 17; refine (sSettledBrine_any _ _ _ _).mono ?_; rintro e w2 ⟨rfl, hb2⟩)
  (have hs2 := hb2.size; (try simp at hs2); obtain ⟨hc2, hf2, hn2⟩ := bcell hb2; (try have hz2_w_0 : w.heap.size < w2.heap.size := by omega); (try have hz2_w_1 : w.heap.size + 1 < w2.heap.size := by omega); (try have hz2_w_2 : w.heap.size + 2 < w2.heap.size := by omega); (try have hz2_w_2b : w.heap.size + 1 + 1 < w2.heap.size := by omega); (try have hz2_w1_0 : w1.heap.size < w2.heap.size := by omega); (try have hz2_w1_1 : w1.heap.size + 1 < w2.heap.size := by omega); (try have hz2_w1_2 : w1.heap.size + 2 < w2.heap.size := by omega); (try have hz2_w1_2b : w1.heap.size + 1 + 1 < w2.heap.size := by omega))
  go_wp2_with fail
  (go_at_call 18; refine (toBrine_any _ _ _).mono ?_; rintro e w3 ⟨rfl, hb3⟩)
  (have hs3 := hb3.size; (try simp at hs3); obtain ⟨hc3, hf3, hn3⟩ := bcell hb3; (try have hz3_w_0 : w.heap.size < w3.heap.size := by omega); (try have hz3_w_1 : w.heap.size + 1 < w3.heap.size := by omega); (try have hz3_w_2 : w.heap.size + 2 < w3.heap.size := by omega); (try have hz3_w_2b : w.heap.size + 1 + 1 < w3.heap.size := by omega); (try have hz3_w1_0 : w1.heap.size < w3.heap.size := by omega); (try have hz3_w1_1 : w1.heap.size + 1 < w3.heap.size := by omega); (try have hz3_w1_2 : w1.heap.size + 2 < w3.heap.size := by omega); (try have hz3_w1_2b : w1.heap.size + 1 + 1 < w3.heap.size := by omega); (try have hz3_w2_0 : w2.heap.size < w3.heap.size := by omega); (try have hz3_w2_1 : w2.heap.size + 1 < w3.heap.size := by omega); (try have hz3_w2_2 : w2.heap.size + 2 < w3.heap.size := by omega); (try have hz3_w2_2b : w2.heap.size + 1 + 1 < w3.heap.size := by omega))
  go_wp2_with fail
  (go_at_call 19; refine (settledBrine_any _ _ _ _).mono ?_; rintro e w4 ⟨rfl, hb4⟩)
  (have hs4 := hb4.size; (try simp at hs4); obtain ⟨hc4, hf4, hn4⟩ := bcell hb4; (try have hz4_w_0 : w.heap.size < w4.heap.size := by omega); (try have hz4_w_1 : w.heap.size + 1 < w4.heap.size := by omega); (try have hz4_w_2 : w.heap.size + 2 < w4.heap.size := by omega); (try have hz4_w_2b : w.heap.size + 1 + 1 < w4.heap.size := by omega); (try have hz4_w1_0 : w1.heap.size < w4.heap.size := by omega); (try have hz4_w1_1 : w1.heap.size + 1 < w4.heap.size := by omega); (try have hz4_w1_2 : w1.heap.size + 2 < w4.heap.size := by omega); (try have hz4_w1_2b : w1.heap.size + 1 + 1 < w4.heap.size := by omega); (try have hz4_w2_0 : w2.heap.size < w4.heap.size := by omega); (try have hz4_w2_1 : w2.heap.size + 1 < w4.heap.size := by omega); (try have hz4_w2_2 : w2.heap.size + 2 < w4.heap.size := by omega); (try have hz4_w2_2b : w2.heap.size + 1 + 1 < w4.heap.size := by omega); (try have hz4_w3_0 : w3.heap.size < w4.heap.size := by omega); (try have hz4_w3_1 : w3.heap.size + 1 < w4.heap.size := by omega); (try have hz4_w3_2 : w3.heap.size + 2 < w4.heap.size := by omega); (try have hz4_w3_2b : w3.heap.size + 1 + 1 < w4.heap.size := by omega))
  go_wp2_with fail
  (go_at_call 20; refine (eqBrine_same _ _ _).mono ?_; rintro e w5 ⟨rfl, hb5⟩)
  (have hs5 := hb5.size; (try simp at hs5); obtain ⟨hc5, hf5, hn5⟩ := bcell hb5; (try have hz5_w_0 : w.heap.size < w5.heap.size := by omega); (try have hz5_w_1 : w.heap.size + 1 < w5.heap.size := by omega); (try have hz5_w_2 : w.heap.size + 2 < w5.heap.size := by omega); (try have hz5_w_2b : w.heap.size + 1 + 1 < w5.heap.size := by omega); (try have hz5_w1_0 : w1.heap.size < w5.heap.size := by omega); (try have hz5_w1_1 : w1.heap.size + 1 < w5.heap.size := by omega); (try have hz5_w1_2 : w1.heap.size + 2 < w5.heap.size := by omega); (try have hz5_w1_2b : w1.heap.size + 1 + 1 < w5.heap.size := by omega); (try have hz5_w2_0 : w2.heap.size < w5.heap.size := by omega); (try have hz5_w2_1 : w2.heap.size + 1 < w5.heap.size := by omega); (try have hz5_w2_2 : w2.heap.size + 2 < w5.heap.size := by omega); (try have hz5_w2_2b : w2.heap.size + 1 + 1 < w5.heap.size := by omega); (try have hz5_w3_0 : w3.heap.size < w5.heap.size := by omega); (try have hz5_w3_1 : w3.heap.size + 1 < w5.heap.size := by omega); (try have hz5_w3_2 : w3.heap.size + 2 < w5.heap.size := by omega); (try have hz5_w3_2b : w3.heap.size + 1 + 1 < w5.heap.size := by omega); (try have hz5_w4_0 : w4.heap.size < w5.heap.size := by omega); (try have hz5_w4_1 : w4.heap.size + 1 < w5.heap.size := by omega); (try have hz5_w4_2 : w4.heap.size + 2 < w5.heap.size := by omega); (try have hz5_w4_2b : w4.heap.size + 1 + 1 < w5.heap.size := by omega))
  go_wp2_with fail
  go_ret
  exact ⟨rfl, (by repeat' (first | (with_reducible exact Below.refl _ _) | (with_reducible refine Below.alloc ?_ ?_ _) | (with_reducible refine Below.setCell ?_ ?_ _) | (with_reducible refine Below.drew ?_) | (with_reducible refine Below.trans ?_ (Below.mono (by with_reducible assumption) ?_)) | omega | (simp; done) | (simp; omega)))⟩
end Go.Proofs.Ytmfahekkcgnndaa
