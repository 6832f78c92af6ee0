/- Greatest common divisors, fractions in lowest terms (chapters 1, 2, 22). -/
import Derived.Test.YtimdnihadhbjpaaDoorLeaf
import Derived.Lib.Hide
set_option linter.unusedSimpArgs false
set_option linter.unusedVariables false
namespace Go.Proofs.YtimdnihadhbjpaaDoor
open Go.RowKit Go.Sort Go.Salt
attribute [local go_sem] cell_rg
theorem tmod_nat (x y : Nat) : ((x : Nat) : Int).tmod (y : Int) = ((x % y : Nat) : Int) := rfl
theorem gcd_step {x y g : Nat} (h : Nat.gcd x y = g) : Nat.gcd y (x % y) = g := by rw [← h, Nat.gcd_comm x y, Nat.gcd_rec y x, Nat.gcd_comm]
set_option maxHeartbeats 400000 in
theorem abs_pos (n : Int) (w : World) (h : 0 ≤ n) :
    Calls Tryd.prog 98 #[.int .i64 n] w fun e w' => e = .returned (.int .i64 n) ∧ w = w' := by
  go_enter Tryd.func98, Tryd.ntmps98
  go_wp2
  go_ret
  exact ⟨rfl, rfl⟩
set_option maxHeartbeats 400000 in
theorem isPart_any (n d : Int) (w : World) :
    Calls Tryd.prog 62 #[.int .i64 n, .int .i64 d] w fun e w' => e = .returned (.bool (inB n 1 1000 && inB d 1 1000)) ∧ w = w' := by
  cases h : inB n 1 1000
  all_goals
    go_enter Tryd.func62, Tryd.ntmps62
    go_wp2_with (go_at_call 60; refine (within_any _ _ _ _).mono ?_; rintro e w1 ⟨rfl, rfl⟩)
    go_ret
    exact ⟨by simp, rfl⟩
set_option maxHeartbeats 2000000 in
theorem gcd_any (a b : Nat) (w : World) (ha : (a : Int) ≤ 9223372036854775807) (hb : (b : Int) ≤ 9223372036854775807) :
    Calls Tryd.prog 63 #[.int .i64 a, .int .i64 b] w fun e w' => e = .returned (.int .i64 (Nat.gcd a b)) ∧ Below w.heap.size w w' := by
  obtain ⟨G, hG⟩ : ∃ G, Nat.gcd a b = G := ⟨_, rfl⟩
  rw [hG]
  have HG := Lib.hid hG
  clear hG
  have hn1 : (0 : Int) ≤ a := by omega
  have hn2 : (0 : Int) ≤ b := by omega
  go_enter Tryd.func63, Tryd.ntmps63
  go_wp2
  go_loopw [0, 1] (fun s t wr => ∃ x y : Nat, s = .int .i64 x ∧ t = .int .i64 y ∧ Hid (Nat.gcd x y = G) ∧ Below w.heap.size w wr) (fun _ t _ => (intOf t).toNat)
  case atStart => exact ⟨a, b, rfl, rfl, HG, Below.refl _ _⟩
  case round =>
    obtain ⟨x, y, rfl, rfl, Hg, hbw⟩ := hrel
    by_cases hy : y = 0
    · subst hy
      have hx : x = G := by have := Hg.out; simpa using this
      subst hx
      go_wp2
      go_ret
      exact ⟨rfl, hbw⟩
    · have hy1 : ¬ (y : Int) = 0 := by omega
      have hsw := hbw.size
      have hm := tmod_nat x y
      have Hn := Lib.hid (gcd_step Hg.out)
      have hlt : x % y < y := Nat.mod_lt _ (by omega)
      go_wp2_with fail
      go_wp2_with (first | (go_at_call 98; refine (abs_pos _ _ (by omega)).mono ?_; rintro e wX ⟨rfl, rfl⟩) | (go_at_call 98; refine (abs_pos _ _ (by omega)).mono ?_; rintro e wX ⟨rfl, rfl⟩))
      refine wp_region_quiet_below (by kernel_rfl) (by kernel_rfl) ?_
      repeat (go_big_quiet_step (fail))
      (refine wpQuiet_nil ?_; intro w1 hwq; have hb1 := of_cls hwq; clear hwq)
      (have hs1 := hb1.size; (try simp at hs1); obtain ⟨hc1, hf1, hn1⟩ := bcell hb1; (try have hz1_w_0 : w.heap.size < w1.heap.size := by omega); (try have hz1_w_1 : w.heap.size + 1 < w1.heap.size := by omega); (try have hz1_w_2 : w.heap.size + 2 < w1.heap.size := by omega); (try have hz1_w_2b : w.heap.size + 1 + 1 < w1.heap.size := by omega))
      go_wp2_with (first | (go_at_call 98; refine (abs_pos _ _ (by omega)).mono ?_; rintro e wX ⟨rfl, rfl⟩) | (go_at_call 98; refine (abs_pos _ _ (by omega)).mono ?_; rintro e wX ⟨rfl, rfl⟩))
      go_roundw
      case rel => exact ⟨y, x % y, rfl, by first | rfl | (simp; done) | rw [hm], Hn, (by repeat' (first | (with_reducible exact Below.refl _ _) | (with_reducible refine Below.alloc ?_ ?_ _) | (with_reducible refine Below.setCell ?_ ?_ _) | (with_reducible refine Below.drew ?_) | (with_reducible refine Below.trans ?_ (Below.mono (by with_reducible assumption) ?_)) | omega | (simp; done) | (simp; omega)))⟩
      case measure => simp [intOf]; omega
/-- A fraction in lowest terms, the reference's way: both are divided by the greatest common divisor. -/
theorem l2Reduce_any (a b : Nat) (w : World) (hb0 : 0 < b) (ha : (a : Int) ≤ 9223372036854775807) (hb : (b : Int) ≤ 9223372036854775807) :
    Calls Tryd.prog 69 #[.int .i64 a, .int .i64 b] w fun e w' => e = .returned (.tuple #[.int .i64 ((a / Nat.gcd a b : Nat) : Int), .int .i64 ((b / Nat.gcd a b : Nat) : Int)]) ∧ Below w.heap.size w w' := by
  obtain ⟨G, hG⟩ : ∃ G, Nat.gcd a b = G := ⟨_, rfl⟩
  have hG0 : G ≠ 0 := by rw [← hG]; exact Nat.ne_of_gt (Nat.gcd_pos_of_pos_right _ hb0)
  rw [hG]
  have HG := Lib.hid hG
  obtain ⟨p, hp⟩ : ∃ p, a / G = p := ⟨_, rfl⟩
  obtain ⟨q, hq⟩ : ∃ p, b / G = p := ⟨_, rfl⟩
  have l1 : p ≤ a := by rw [← hp]; exact Nat.div_le_self _ _
  have l2 : q ≤ b := by rw [← hq]; exact Nat.div_le_self _ _
  have d1 : (a : Int).tdiv (G : Int) = (p : Int) := by rw [← hp]; rfl
  have d2 : (b : Int).tdiv (G : Int) = (q : Int) := by rw [← hq]; rfl
  have w1_ : wrap64 (p : Int) = (p : Int) := by unfold wrap64; omega
  have w2_ : wrap64 (q : Int) = (q : Int) := by unfold wrap64; omega
  have d3 : (a : Int) / (G : Int) = (p : Int) := by rw [← hp]; rfl
  have d4 : (b : Int) / (G : Int) = (q : Int) := by rw [← hq]; rfl
  rw [hp, hq]
  have D1 := Lib.hid d1
  have D2 := Lib.hid d2
  have D3 := Lib.hid d3
  have D4 := Lib.hid d4
  clear hG hp hq d1 d2 d3 d4
  have hn1 : (0 : Int) ≤ a := by omega
  have hn2 : (0 : Int) ≤ b := by omega
  have hw1 : wrap64 (-(a : Int)) = -(a : Int) := by unfold wrap64; omega
  have hmx : mx (a : Int) (-(a : Int)) = a := by have := mx_or (a : Int) (-(a : Int)); omega
  have HM := Lib.hid hmx
  clear hmx
  go_enter Tryd.func69, Tryd.ntmps69
  go_wp2_with fail
  (go_at_call 104; refine (l1Most_any _ _ _).mono ?_; rintro e w1 ⟨rfl, rfl⟩)
  rw [HM.out]
  go_wp2
  go_loopw [6, 7] (fun s t wr => ∃ x y : Nat, s = .int .i64 x ∧ t = .int .i64 y ∧ Hid (Nat.gcd x y = G) ∧ Below w.heap.size w wr) (fun _ t _ => (intOf t).toNat)
  case atStart => exact ⟨a, b, rfl, rfl, HG, (by repeat' (first | (with_reducible exact Below.refl _ _) | (with_reducible refine Below.alloc ?_ ?_ _) | (with_reducible refine Below.setCell ?_ ?_ _) | (with_reducible refine Below.drew ?_) | (with_reducible refine Below.trans ?_ (Below.mono (by with_reducible assumption) ?_)) | omega | (simp; done) | (simp; omega)))⟩
  case round =>
    obtain ⟨x, y, rfl, rfl, Hg, hbw⟩ := hrel
    have hsw := hbw.size
    by_cases hy : y = 0
    · subst hy
      have hx : x = G := by have := Hg.out; simpa using this
      subst hx
      have hx1 : ¬ (x : Int) = 0 := by omega
      have d1 := D1.out
      have d2 := D2.out
      have d3 := D3.out
      have d4 := D4.out
      go_wp2_with fail
      go_wp2_with fail
      refine wp_region_quiet_below (by kernel_rfl) (by kernel_rfl) ?_
      repeat (go_big_quiet_step (fail))
      (refine wpQuiet_nil ?_; intro w1 hwq; have hb1 := of_cls hwq; clear hwq)
      (have hs1 := hb1.size; (try simp at hs1); obtain ⟨hc1, hf1, hn1⟩ := bcell hb1; (try have hz1_w_0 : w.heap.size < w1.heap.size := by omega); (try have hz1_w_1 : w.heap.size + 1 < w1.heap.size := by omega); (try have hz1_w_2 : w.heap.size + 2 < w1.heap.size := by omega); (try have hz1_w_2b : w.heap.size + 1 + 1 < w1.heap.size := by omega))
      go_wp2_with fail
      go_ret2
      exact ⟨rfl, (by repeat' (first | (with_reducible exact Below.refl _ _) | (with_reducible refine Below.alloc ?_ ?_ _) | (with_reducible refine Below.setCell ?_ ?_ _) | (with_reducible refine Below.drew ?_) | (with_reducible refine Below.trans ?_ (Below.mono (by with_reducible assumption) ?_)) | omega | (simp; done) | (simp; omega)))⟩
    · have hy1 : ¬ (y : Int) = 0 := by omega
      have hm := tmod_nat x y
      have Hn := Lib.hid (gcd_step Hg.out)
      have hlt : x % y < y := Nat.mod_lt _ (by omega)
      go_wp2
      go_roundw
      case rel => exact ⟨y, x % y, rfl, by first | rfl | (simp; done) | rw [hm], Hn, (by repeat' (first | (with_reducible exact Below.refl _ _) | (with_reducible refine Below.alloc ?_ ?_ _) | (with_reducible refine Below.setCell ?_ ?_ _) | (with_reducible refine Below.drew ?_) | (with_reducible refine Below.trans ?_ (Below.mono (by with_reducible assumption) ?_)) | omega | (simp; done) | (simp; omega)))⟩
      case measure => simp [intOf]; omega
/-- The sum of two fractions in lowest terms. -/
theorem l22Sum_any (a b c d : Nat) (w : World) (hb0 : 0 < b) (hd0 : 0 < d) (h1 : a * d + c * b ≤ 4000000000000000000) (h2 : b * d ≤ 4000000000000000000) :
    Calls Tryd.prog 75 #[.int .i64 a, .int .i64 b, .int .i64 c, .int .i64 d] w fun e w' => e = .returned (.tuple #[.int .i64 (((a * d + c * b) / Nat.gcd (a * d + c * b) (b * d) : Nat) : Int), .int .i64 ((b * d / Nat.gcd (a * d + c * b) (b * d) : Nat) : Int)]) ∧ Below w.heap.size w w' := by
  have hm0 : 0 < b * d := Nat.mul_pos hb0 hd0
  obtain ⟨m1, e1⟩ : ∃ m, a * d = m := ⟨_, rfl⟩
  obtain ⟨m2, e2⟩ : ∃ m, c * b = m := ⟨_, rfl⟩
  obtain ⟨m3, e3⟩ : ∃ m, b * d = m := ⟨_, rfl⟩
  have g1 : (a : Int) * (d : Int) = (m1 : Int) := by rw [← e1]; rfl
  have g2 : (c : Int) * (b : Int) = (m2 : Int) := by rw [← e2]; rfl
  have g3 : (b : Int) * (d : Int) = (m3 : Int) := by rw [← e3]; rfl
  rw [e1, e2] at h1 ⊢
  rw [e3] at h2 hm0 ⊢
  have w1_ : wrap64 ((a : Int) * (d : Int)) = (m1 : Int) := by rw [g1]; unfold wrap64; omega
  have w2_ : wrap64 ((c : Int) * (b : Int)) = (m2 : Int) := by rw [g2]; unfold wrap64; omega
  have w3_ : wrap64 ((b : Int) * (d : Int)) = (m3 : Int) := by rw [g3]; unfold wrap64; omega
  have w4_ : wrap64 ((m1 : Int) + (m2 : Int)) = ((m1 + m2 : Nat) : Int) := by unfold wrap64; omega
  clear g1 g2 g3 e1 e2 e3
  have hc := fun W => l2Reduce_any (m1 + m2) m3 W hm0 (by omega) (by omega)
  obtain ⟨p, hp⟩ : ∃ p, (m1 + m2) / Nat.gcd (m1 + m2) m3 = p := ⟨_, rfl⟩
  obtain ⟨q, hq⟩ : ∃ q, m3 / Nat.gcd (m1 + m2) m3 = q := ⟨_, rfl⟩
  rw [hp, hq] at hc ⊢
  have HC := Lib.hid hc
  clear hc hp hq
  go_enter Tryd.func75, Tryd.ntmps75
  go_wp2_with fail
  refine (HC.out _).mono ?_
  rintro e w1 ⟨rfl, hb1⟩
  go_wp2_with fail
  go_ret2
  exact ⟨rfl, hb1⟩
end Go.Proofs.YtimdnihadhbjpaaDoor
