/- Contracts of SaltIn, SettledBrine, SunToCrop, RainToMelt and of the laws over them (chapter 21). -/
import Derived.Test.YtmfahekkcgnndaaDoorPoolStep
import Derived.Lib.Hide
set_option linter.unusedSimpArgs false
set_option linter.unusedVariables false
namespace Go.Proofs.YtmfahekkcgnndaaDoor
open Go.RowKit Go.Sort Go.Salt
attribute [local go_sem] cell_rg
attribute [local go_sem ↓] run_max_mx run_min_mn
theorem poolOK_bd {st a s c i r l : Int} (h : poolOK st a s c i r l = true) : 0 ≤ a ∧ a ≤ 1000000 ∧ 0 ≤ s ∧ s ≤ 1000000 ∧ 0 ≤ c ∧ c ≤ 1000000 ∧ 0 ≤ i ∧ i ≤ 1000000 ∧ 0 ≤ r ∧ r ≤ 1000000 ∧ 0 ≤ l ∧ l ≤ 1000000 := by
  simp [poolOK, inB] at h; omega
theorem poolOK_st {st a s c i r l : Int} (h : poolOK st a s c i r l = true) : st = stB a s c ∧ i = s + c + r + l := by
  simp [poolOK, inB] at h; exact ⟨by omega, by omega⟩
def satV (st a s c i r l : Int) : Int := if poolOK st a s c i r l then s + c else 0
def rtmB (st a s c i r l : Int) : Bool := poolOK st a s c i r l && st == 2
def rtmV (st a s c i r l : Int) : Int := if rtmB st a s c i r l then mx ((1000 * (s + c) + 355) / 356 - a) 1 else 0
def stcB (st a s c i r l : Int) : Bool := poolOK st a s c i r l && st == 1 && !(s == 0)
def stcV (st a s c i r l : Int) : Int := if stcB st a s c i r l then mx (a - (1000 * s - 1) / 356) 1 else 0
theorem mx_comm (a b : Int) : mx a b = mx b a := by unfold mx; split <;> split <;> omega
theorem ret_ib {x y : Int} {p q : Bool} (h : x = y) (k : p = q) : Ending.returned (.tuple #[.int .i64 x, .bool p]) = .returned (.tuple #[.int .i64 y, .bool q]) := by rw [h, k]
theorem ret_bib {a s c a' s' c' : Int} {p q : Bool} (h1 : a = a') (h2 : s = s') (h3 : c = c') (k : p = q) : Ending.returned (.tuple #[.agg #[.int .i64 a, .int .i64 s], .int .i64 c, .bool p]) = .returned (.tuple #[.agg #[.int .i64 a', .int .i64 s'], .int .i64 c', .bool q]) := by rw [h1, h2, h3, k]
set_option maxHeartbeats 400000 in
theorem saltIn_any (st a s c i r l : Int) (w : World) :
    Calls Tryd.prog 17 #[.agg #[.int .i64 st, .int .i64 a, .int .i64 s, .int .i64 c, .int .i64 i, .int .i64 r, .int .i64 l]] w fun e w' => e = .returned (.tuple #[.int .i64 (satV st a s c i r l), .bool (poolOK st a s c i r l)]) ∧ Below w.heap.size w w' := by
  cases hp : poolOK st a s c i r l
  · go_enter Tryd.func17, Tryd.ntmps17
    go_wp2_with (go_at_call 20; refine (isPool_any _ _ _ _ _ _ _ _).mono ?_; rintro e w1 ⟨rfl, hb⟩; have hs := hb.size; (try simp at hs); obtain ⟨hc, hf, hn⟩ := bcell hb)
    go_ret2
    exact ⟨ret_ib (by simp [satV, hp]) rfl, (by repeat' (first | (with_reducible exact Below.refl _ _) | (with_reducible refine Below.alloc ?_ ?_ _) | (with_reducible refine Below.setCell ?_ ?_ _) | (with_reducible refine Below.drew ?_) | (with_reducible refine Below.trans ?_ (Below.mono (by with_reducible assumption) ?_)) | omega | (simp; done) | (simp; omega)))⟩
  · have hbd := poolOK_bd hp
    go_enter Tryd.func17, Tryd.ntmps17
    go_wp2_with (go_at_call 20; refine (isPool_any _ _ _ _ _ _ _ _).mono ?_; rintro e w1 ⟨rfl, hb⟩; have hs := hb.size; (try simp at hs); obtain ⟨hc, hf, hn⟩ := bcell hb)
    go_ret2
    exact ⟨ret_ib (by simp [satV, hp]) rfl, (by repeat' (first | (with_reducible exact Below.refl _ _) | (with_reducible refine Below.alloc ?_ ?_ _) | (with_reducible refine Below.setCell ?_ ?_ _) | (with_reducible refine Below.drew ?_) | (with_reducible refine Below.trans ?_ (Below.mono (by with_reducible assumption) ?_)) | omega | (simp; done) | (simp; omega)))⟩
set_option maxHeartbeats 400000 in
theorem sSaltIn_any (st a s c i r l : Int) (w : World) :
    Calls Tryd.prog 18 #[.agg #[.int .i64 st, .int .i64 a, .int .i64 s, .int .i64 c, .int .i64 i, .int .i64 r, .int .i64 l]] w fun e w' => e = .returned (.tuple #[.int .i64 (satV st a s c i r l), .bool (poolOK st a s c i r l)]) ∧ Below w.heap.size w w' := by
  cases hp : poolOK st a s c i r l
  · go_enter Tryd.func18, Tryd.ntmps18
    go_wp2_with (go_at_call 21; refine (l21Good_any _ _ _ _ _ _ _ _).mono ?_; rintro e w1 ⟨rfl, hb⟩; have hs := hb.size; (try simp at hs); obtain ⟨hc, hf, hn⟩ := bcell hb)
    go_ret2
    exact ⟨ret_ib (by simp [satV, hp]) rfl, (by repeat' (first | (with_reducible exact Below.refl _ _) | (with_reducible refine Below.alloc ?_ ?_ _) | (with_reducible refine Below.setCell ?_ ?_ _) | (with_reducible refine Below.drew ?_) | (with_reducible refine Below.trans ?_ (Below.mono (by with_reducible assumption) ?_)) | omega | (simp; done) | (simp; omega)))⟩
  · have hbd := poolOK_bd hp
    go_enter Tryd.func18, Tryd.ntmps18
    go_wp2_with (go_at_call 21; refine (l21Good_any _ _ _ _ _ _ _ _).mono ?_; rintro e w1 ⟨rfl, hb⟩; have hs := hb.size; (try simp at hs); obtain ⟨hc, hf, hn⟩ := bcell hb)
    go_ret2
    exact ⟨ret_ib (by simp [satV, hp]) rfl, (by repeat' (first | (with_reducible exact Below.refl _ _) | (with_reducible refine Below.alloc ?_ ?_ _) | (with_reducible refine Below.setCell ?_ ?_ _) | (with_reducible refine Below.drew ?_) | (with_reducible refine Below.trans ?_ (Below.mono (by with_reducible assumption) ?_)) | omega | (simp; done) | (simp; omega)))⟩
set_option maxHeartbeats 400000 in
theorem ceilDiv_any (a b : Int) (w : World) (_h0 : 0 ≤ a) (_h1 : a ≤ 1000000000000000) (_h2 : 1 ≤ b) (_h3 : b ≤ 1000000000000000) :
    Calls Tryd.prog 28 #[.int .i64 a, .int .i64 b] w fun e w' => e = .returned (.int .i64 ((a + b - 1) / b)) ∧ w = w' := by
  go_enter Tryd.func28, Tryd.ntmps28
  go_wp2
  go_ret
  exact ⟨rfl, rfl⟩
set_option maxHeartbeats 1000000 in
theorem rainToMelt_any (st a s c i r l : Int) (w : World) :
    Calls Tryd.prog 14 #[.agg #[.int .i64 st, .int .i64 a, .int .i64 s, .int .i64 c, .int .i64 i, .int .i64 r, .int .i64 l]] w fun e w' => e = .returned (.tuple #[.int .i64 (rtmV st a s c i r l), .bool (rtmB st a s c i r l)]) ∧ Below w.heap.size w w' := by
  cases hp : poolOK st a s c i r l
  · have hq : rtmB st a s c i r l = false := by simp [rtmB, hp]
    go_enter Tryd.func14, Tryd.ntmps14
    go_wp2_with (go_at_call 20; refine (isPool_any _ _ _ _ _ _ _ _).mono ?_; rintro e w1 ⟨rfl, hb⟩; have hs := hb.size; (try simp at hs); obtain ⟨hc, hf, hn⟩ := bcell hb)
    go_ret2
    exact ⟨ret_ib (by simp [rtmV, hq]) hq.symm, (by repeat' (first | (with_reducible exact Below.refl _ _) | (with_reducible refine Below.alloc ?_ ?_ _) | (with_reducible refine Below.setCell ?_ ?_ _) | (with_reducible refine Below.drew ?_) | (with_reducible refine Below.trans ?_ (Below.mono (by with_reducible assumption) ?_)) | omega | (simp; done) | (simp; omega)))⟩
  · cases h2 : (st == 2)
    · have hq : rtmB st a s c i r l = false := by simp [rtmB, h2]
      go_enter Tryd.func14, Tryd.ntmps14
      go_wp2_with (go_at_call 20; refine (isPool_any _ _ _ _ _ _ _ _).mono ?_; rintro e w1 ⟨rfl, hb⟩; have hs := hb.size; (try simp at hs); obtain ⟨hc, hf, hn⟩ := bcell hb)
      go_ret2
      exact ⟨ret_ib (by simp [rtmV, hq]) hq.symm, (by repeat' (first | (with_reducible exact Below.refl _ _) | (with_reducible refine Below.alloc ?_ ?_ _) | (with_reducible refine Below.setCell ?_ ?_ _) | (with_reducible refine Below.drew ?_) | (with_reducible refine Below.trans ?_ (Below.mono (by with_reducible assumption) ?_)) | omega | (simp; done) | (simp; omega)))⟩
    · have hbd := poolOK_bd hp
      have hq : rtmB st a s c i r l = true := by simp [rtmB, hp, h2]
      have Hq := Lib.hid hq; clear hq
      go_enter Tryd.func14, Tryd.ntmps14
      go_wp2_with (go_at_call 20; refine (isPool_any _ _ _ _ _ _ _ _).mono ?_; rintro e w1 ⟨rfl, hb⟩; have hs := hb.size; (try simp at hs); obtain ⟨hc, hf, hn⟩ := bcell hb)
      refine wp_region_quiet_below (by kernel_rfl) (by kernel_rfl) ?_
      repeat (go_big_quiet_step (first | (go_at_call 28; exact Calls.regrown_of (same_below (ceilDiv_any _ _ _ (by omega) (by omega) (by omega) (by omega))))))
      (refine wpQuiet_nil ?_; intro wq hwq; have hb := of_cls hwq; clear hwq; have hs := hb.size; (try simp at hs); obtain ⟨hc, hf, hn⟩ := bcell hb)
      go_wp2
      go_ret2
      exact ⟨ret_ib (by rw [rtmV, if_pos Hq.out]; congr 1; omega) Hq.out.symm, (by repeat' (first | (with_reducible exact Below.refl _ _) | (with_reducible refine Below.alloc ?_ ?_ _) | (with_reducible refine Below.setCell ?_ ?_ _) | (with_reducible refine Below.drew ?_) | (with_reducible refine Below.trans ?_ (Below.mono (by with_reducible assumption) ?_)) | omega | (simp; done) | (simp; omega)))⟩
set_option maxHeartbeats 1000000 in
theorem sRainToMelt_any (st a s c i r l : Int) (w : World) :
    Calls Tryd.prog 15 #[.agg #[.int .i64 st, .int .i64 a, .int .i64 s, .int .i64 c, .int .i64 i, .int .i64 r, .int .i64 l]] w fun e w' => e = .returned (.tuple #[.int .i64 (rtmV st a s c i r l), .bool (rtmB st a s c i r l)]) ∧ Below w.heap.size w w' := by
  cases hp : poolOK st a s c i r l
  · have hq : rtmB st a s c i r l = false := by simp [rtmB, hp]
    go_enter Tryd.func15, Tryd.ntmps15
    go_wp2_with (go_at_call 21; refine (l21Good_any _ _ _ _ _ _ _ _).mono ?_; rintro e w1 ⟨rfl, hb⟩; have hs := hb.size; (try simp at hs); obtain ⟨hc, hf, hn⟩ := bcell hb)
    go_ret2
    exact ⟨ret_ib (by simp [rtmV, hq]) hq.symm, (by repeat' (first | (with_reducible exact Below.refl _ _) | (with_reducible refine Below.alloc ?_ ?_ _) | (with_reducible refine Below.setCell ?_ ?_ _) | (with_reducible refine Below.drew ?_) | (with_reducible refine Below.trans ?_ (Below.mono (by with_reducible assumption) ?_)) | omega | (simp; done) | (simp; omega)))⟩
  · cases h2 : (st == 2)
    · have hq : rtmB st a s c i r l = false := by simp [rtmB, h2]
      go_enter Tryd.func15, Tryd.ntmps15
      go_wp2_with (go_at_call 21; refine (l21Good_any _ _ _ _ _ _ _ _).mono ?_; rintro e w1 ⟨rfl, hb⟩; have hs := hb.size; (try simp at hs); obtain ⟨hc, hf, hn⟩ := bcell hb)
      go_ret2
      exact ⟨ret_ib (by simp [rtmV, hq]) hq.symm, (by repeat' (first | (with_reducible exact Below.refl _ _) | (with_reducible refine Below.alloc ?_ ?_ _) | (with_reducible refine Below.setCell ?_ ?_ _) | (with_reducible refine Below.drew ?_) | (with_reducible refine Below.trans ?_ (Below.mono (by with_reducible assumption) ?_)) | omega | (simp; done) | (simp; omega)))⟩
    · have hbd := poolOK_bd hp
      have hq : rtmB st a s c i r l = true := by simp [rtmB, hp, h2]
      have Hq := Lib.hid hq; clear hq
      go_enter Tryd.func15, Tryd.ntmps15
      go_wp2_with (first | (go_at_call 21; refine (l21Good_any _ _ _ _ _ _ _ _).mono ?_; rintro e w1 ⟨rfl, hb⟩; have hs := hb.size; (try simp at hs); obtain ⟨hc, hf, hn⟩ := bcell hb) | (go_at_call 29; refine (l1Most_any _ _ _).mono ?_; rintro e w1 ⟨rfl, rfl⟩))
      go_ret2
      exact ⟨ret_ib (by rw [rtmV, if_pos Hq.out, mx_comm]) Hq.out.symm, (by repeat' (first | (with_reducible exact Below.refl _ _) | (with_reducible refine Below.alloc ?_ ?_ _) | (with_reducible refine Below.setCell ?_ ?_ _) | (with_reducible refine Below.drew ?_) | (with_reducible refine Below.trans ?_ (Below.mono (by with_reducible assumption) ?_)) | omega | (simp; done) | (simp; omega)))⟩
set_option maxHeartbeats 1000000 in
theorem sunToCrop_any (st a s c i r l : Int) (w : World) :
    Calls Tryd.prog 10 #[.agg #[.int .i64 st, .int .i64 a, .int .i64 s, .int .i64 c, .int .i64 i, .int .i64 r, .int .i64 l]] w fun e w' => e = .returned (.tuple #[.int .i64 (stcV st a s c i r l), .bool (stcB st a s c i r l)]) ∧ Below w.heap.size w w' := by
  cases hp : poolOK st a s c i r l
  · have hq : stcB st a s c i r l = false := by simp [stcB, hp]
    go_enter Tryd.func10, Tryd.ntmps10
    go_wp2_with (go_at_call 20; refine (isPool_any _ _ _ _ _ _ _ _).mono ?_; rintro e w1 ⟨rfl, hb⟩; have hs := hb.size; (try simp at hs); obtain ⟨hc, hf, hn⟩ := bcell hb)
    go_ret2
    exact ⟨ret_ib (by simp [stcV, hq]) hq.symm, (by repeat' (first | (with_reducible exact Below.refl _ _) | (with_reducible refine Below.alloc ?_ ?_ _) | (with_reducible refine Below.setCell ?_ ?_ _) | (with_reducible refine Below.drew ?_) | (with_reducible refine Below.trans ?_ (Below.mono (by with_reducible assumption) ?_)) | omega | (simp; done) | (simp; omega)))⟩
  · cases h2 : (st == 1)
    · have hq : stcB st a s c i r l = false := by simp [stcB, h2]
      go_enter Tryd.func10, Tryd.ntmps10
      go_wp2_with (go_at_call 20; refine (isPool_any _ _ _ _ _ _ _ _).mono ?_; rintro e w1 ⟨rfl, hb⟩; have hs := hb.size; (try simp at hs); obtain ⟨hc, hf, hn⟩ := bcell hb)
      go_ret2
      exact ⟨ret_ib (by simp [stcV, hq]) hq.symm, (by repeat' (first | (with_reducible exact Below.refl _ _) | (with_reducible refine Below.alloc ?_ ?_ _) | (with_reducible refine Below.setCell ?_ ?_ _) | (with_reducible refine Below.drew ?_) | (with_reducible refine Below.trans ?_ (Below.mono (by with_reducible assumption) ?_)) | omega | (simp; done) | (simp; omega)))⟩
    · cases h3 : (s == 0)
      · have hbd := poolOK_bd hp
        have h2' : (st != 1) = false := by simpa using h2
        have h3' : 1 ≤ s := by have := beq_eq_false_iff_ne.1 h3; omega
        have hq : stcB st a s c i r l = true := by simp [stcB, hp, h2, h3]
        have Hq := Lib.hid hq; clear hq
        go_enter Tryd.func10, Tryd.ntmps10
        go_wp2_with (go_at_call 20; refine (isPool_any _ _ _ _ _ _ _ _).mono ?_; rintro e w1 ⟨rfl, hb⟩; have hs := hb.size; (try simp at hs); obtain ⟨hc, hf, hn⟩ := bcell hb)
        refine wp_region_quiet_below (by kernel_rfl) (by kernel_rfl) ?_
        repeat (go_big_quiet_step (first | (go_at_call 28; exact Calls.regrown_of (same_below (ceilDiv_any _ _ _ (by omega) (by omega) (by omega) (by omega))))))
        (refine wpQuiet_nil ?_; intro wq hwq; have hb := of_cls hwq; clear hwq; have hs := hb.size; (try simp at hs); obtain ⟨hc, hf, hn⟩ := bcell hb)
        go_wp2
        go_ret2
        exact ⟨ret_ib (by rw [stcV, if_pos Hq.out]; first | (congr 1; omega; done) | (rw [mx_comm]; done) | (rw [mx_comm]; congr 1; omega)) Hq.out.symm, (by repeat' (first | (with_reducible exact Below.refl _ _) | (with_reducible refine Below.alloc ?_ ?_ _) | (with_reducible refine Below.setCell ?_ ?_ _) | (with_reducible refine Below.drew ?_) | (with_reducible refine Below.trans ?_ (Below.mono (by with_reducible assumption) ?_)) | omega | (simp; done) | (simp; omega)))⟩
      · have h2' : (st != 1) = false := by simpa using h2
        have hq : stcB st a s c i r l = false := by simp [stcB, h3]
        go_enter Tryd.func10, Tryd.ntmps10
        go_wp2_with (go_at_call 20; refine (isPool_any _ _ _ _ _ _ _ _).mono ?_; rintro e w1 ⟨rfl, hb⟩; have hs := hb.size; (try simp at hs); obtain ⟨hc, hf, hn⟩ := bcell hb)
        go_ret2
        exact ⟨ret_ib (by simp [stcV, hq]) hq.symm, (by repeat' (first | (with_reducible exact Below.refl _ _) | (with_reducible refine Below.alloc ?_ ?_ _) | (with_reducible refine Below.setCell ?_ ?_ _) | (with_reducible refine Below.drew ?_) | (with_reducible refine Below.trans ?_ (Below.mono (by with_reducible assumption) ?_)) | omega | (simp; done) | (simp; omega)))⟩
set_option maxHeartbeats 1000000 in
theorem sSunToCrop_any (st a s c i r l : Int) (w : World) :
    Calls Tryd.prog 11 #[.agg #[.int .i64 st, .int .i64 a, .int .i64 s, .int .i64 c, .int .i64 i, .int .i64 r, .int .i64 l]] w fun e w' => e = .returned (.tuple #[.int .i64 (stcV st a s c i r l), .bool (stcB st a s c i r l)]) ∧ Below w.heap.size w w' := by
  cases hp : poolOK st a s c i r l
  · have hq : stcB st a s c i r l = false := by simp [stcB, hp]
    go_enter Tryd.func11, Tryd.ntmps11
    go_wp2_with (first | (go_at_call 21; refine (l21Good_any _ _ _ _ _ _ _ _).mono ?_; rintro e w1 ⟨rfl, hb⟩; have hs := hb.size; (try simp at hs); obtain ⟨hc, hf, hn⟩ := bcell hb) | (go_at_call 29; refine (l1Most_any _ _ _).mono ?_; rintro e w1 ⟨rfl, rfl⟩))
    go_ret2
    exact ⟨ret_ib (by simp [stcV, hq]) hq.symm, (by repeat' (first | (with_reducible exact Below.refl _ _) | (with_reducible refine Below.alloc ?_ ?_ _) | (with_reducible refine Below.setCell ?_ ?_ _) | (with_reducible refine Below.drew ?_) | (with_reducible refine Below.trans ?_ (Below.mono (by with_reducible assumption) ?_)) | omega | (simp; done) | (simp; omega)))⟩
  · cases h2 : (st == 1)
    · have hq : stcB st a s c i r l = false := by simp [stcB, h2]
      go_enter Tryd.func11, Tryd.ntmps11
      go_wp2_with (first | (go_at_call 21; refine (l21Good_any _ _ _ _ _ _ _ _).mono ?_; rintro e w1 ⟨rfl, hb⟩; have hs := hb.size; (try simp at hs); obtain ⟨hc, hf, hn⟩ := bcell hb) | (go_at_call 29; refine (l1Most_any _ _ _).mono ?_; rintro e w1 ⟨rfl, rfl⟩))
      go_ret2
      exact ⟨ret_ib (by simp [stcV, hq]) hq.symm, (by repeat' (first | (with_reducible exact Below.refl _ _) | (with_reducible refine Below.alloc ?_ ?_ _) | (with_reducible refine Below.setCell ?_ ?_ _) | (with_reducible refine Below.drew ?_) | (with_reducible refine Below.trans ?_ (Below.mono (by with_reducible assumption) ?_)) | omega | (simp; done) | (simp; omega)))⟩
    · cases h3 : (s == 0)
      · have hbd := poolOK_bd hp
        have h2' : (st != 1) = false := by simpa using h2
        have h3' : 1 ≤ s := by have := beq_eq_false_iff_ne.1 h3; omega
        have hq : stcB st a s c i r l = true := by simp [stcB, hp, h2, h3]
        have Hq := Lib.hid hq; clear hq
        go_enter Tryd.func11, Tryd.ntmps11
        go_wp2_with (first | (go_at_call 21; refine (l21Good_any _ _ _ _ _ _ _ _).mono ?_; rintro e w1 ⟨rfl, hb⟩; have hs := hb.size; (try simp at hs); obtain ⟨hc, hf, hn⟩ := bcell hb) | (go_at_call 29; refine (l1Most_any _ _ _).mono ?_; rintro e w1 ⟨rfl, rfl⟩))
  
        go_ret2
        exact ⟨ret_ib (by rw [stcV, if_pos Hq.out]; first | (congr 1; omega; done) | (rw [mx_comm]; done) | (rw [mx_comm]; congr 1; omega)) Hq.out.symm, (by repeat' (first | (with_reducible exact Below.refl _ _) | (with_reducible refine Below.alloc ?_ ?_ _) | (with_reducible refine Below.setCell ?_ ?_ _) | (with_reducible refine Below.drew ?_) | (with_reducible refine Below.trans ?_ (Below.mono (by with_reducible assumption) ?_)) | omega | (simp; done) | (simp; omega)))⟩
      · have h2' : (st != 1) = false := by simpa using h2
        have hq : stcB st a s c i r l = false := by simp [stcB, h3]
        go_enter Tryd.func11, Tryd.ntmps11
        go_wp2_with (first | (go_at_call 21; refine (l21Good_any _ _ _ _ _ _ _ _).mono ?_; rintro e w1 ⟨rfl, hb⟩; have hs := hb.size; (try simp at hs); obtain ⟨hc, hf, hn⟩ := bcell hb) | (go_at_call 29; refine (l1Most_any _ _ _).mono ?_; rintro e w1 ⟨rfl, rfl⟩))
        go_ret2
        exact ⟨ret_ib (by simp [stcV, hq]) hq.symm, (by repeat' (first | (with_reducible exact Below.refl _ _) | (with_reducible refine Below.alloc ?_ ?_ _) | (with_reducible refine Below.setCell ?_ ?_ _) | (with_reducible refine Below.drew ?_) | (with_reducible refine Below.trans ?_ (Below.mono (by with_reducible assumption) ?_)) | omega | (simp; done) | (simp; omega)))⟩
def stlB (a s c : Int) : Bool := inB a 0 1000000 && inB s 0 1000000 && inB c 0 1000000 && (inB a 0 1000000 && inB (s + imN a s c) 0 1000000) && inB (c - imN a s c) 0 1000000
def stlA (a s c : Int) : Int := if stlB a s c then a else 0
def stlS (a s c : Int) : Int := if stlB a s c then s + imN a s c else 0
def stlC (a s c : Int) : Int := if stlB a s c then c - imN a s c else 0
theorem l21Settle_im (a s c : Int) (w : World) (h0 : 0 ≤ a) (h1 : a ≤ 1000000000000000) (h2 : -1000000000000000 ≤ s) (h3 : s ≤ 1000000000000000) (h4 : 0 ≤ c) (h5 : c ≤ 1000000000000000) :
    Calls Tryd.prog 69 #[.agg #[.int .i64 a, .int .i64 s], .int .i64 c] w fun e w' => e = .returned (.tuple #[.agg #[.int .i64 a, .int .i64 (s + imN a s c)], .int .i64 (c - imN a s c)]) ∧ Below w.heap.size w w' := by
  have h := l21Settle_any a s c w h0 h1 h2 h3 (by omega) h5
  rw [spN_im h4] at h
  rw [show s - -imN a s c = s + imN a s c by omega, show c + -imN a s c = c - imN a s c by omega] at h
  exact h
end Go.Proofs.YtmfahekkcgnndaaDoor
