/- Which lists are owners: the reference's answer (chapter 22). -/
import Derived.Test.YtimdnihadhbjpaaDoorAreI
set_option linter.unusedSimpArgs false
set_option linter.unusedVariables false
namespace Go.Proofs.YtimdnihadhbjpaaDoor
open Go.RowKit Go.Sort Go.Salt
attribute [local go_sem] cell_rg
/-- The sum of the first j shares is a / b, in lowest terms. -/
def Sum1 (xs : List Ow) (a b : Nat) (j : Nat) : Prop := 1 ≤ b ∧ Nat.gcd a b = 1 ∧ (a : Int) * dP (deO xs) j = b * sP allP (nuO xs) (deO xs) j
def InvS (xs : List Ow) (k a b : Nat) : Prop := 1 ≤ b ∧ b ≤ 1000000000000000 ∧ a ≤ b ∧ ∃ j, j ≤ k ∧ j ≤ 8 ∧ Sum1 xs a b j ∧ (1000000000000 < b ∨ j = min k 8)
theorem Sum1.zero (xs : List Ow) : Sum1 xs 0 1 0 := ⟨by decide, by decide, by simp [dP, sP]⟩
theorem Sum1.next {xs : List Ow} {a b j n d : Nat} (h : Sum1 xs a b j) (hn : (el xs j).n = n) (hd : (el xs j).d = d) (hd0 : 0 < d) :
    Sum1 xs ((a * d + n * b) / Nat.gcd (a * d + n * b) (b * d)) (b * d / Nat.gcd (a * d + n * b) (b * d)) (j + 1) := by
  obtain ⟨hb, hg, he⟩ := h
  have hB : 0 < b * d := Nat.mul_pos (by omega) hd0
  obtain ⟨S, hS⟩ : ∃ S, a * d + n * b = S := ⟨_, rfl⟩
  obtain ⟨B, hBB⟩ : ∃ B, b * d = B := ⟨_, rfl⟩
  rw [hS, hBB]
  rw [hBB] at hB
  have hg0 : 0 < Nat.gcd S B := Nat.gcd_pos_of_pos_right _ hB
  obtain ⟨G, hG⟩ : ∃ G, Nat.gcd S B = G := ⟨_, rfl⟩
  have d1 : G ∣ S := by rw [← hG]; exact Nat.gcd_dvd_left _ _
  have d2 : G ∣ B := by rw [← hG]; exact Nat.gcd_dvd_right _ _
  refine ⟨?_, ?_, ?_⟩
  · rw [hG]; exact Nat.div_pos (Nat.le_of_dvd hB d2) (by rw [← hG]; exact hg0)
  · exact Nat.coprime_div_gcd_div_gcd hg0
  · rw [hG]
    rw [hG] at hg0
    obtain ⟨p, hp⟩ := d1
    obtain ⟨q, hq⟩ := d2
    rw [hp, hq, Nat.mul_div_cancel_left _ hg0, Nat.mul_div_cancel_left _ hg0]
    have hgi : (0 : Int) < (G : Int) := by omega
    refine Int.eq_of_mul_eq_mul_left (a := (G : Int)) (by omega) ?_
    have s1 : (G : Int) * (p : Int) = (a : Int) * (d : Int) + (n : Int) * (b : Int) := by
      have : ((G * p : Nat) : Int) = ((a * d + n * b : Nat) : Int) := by rw [hS, hp]
      simpa using this
    have s2 : (G : Int) * (q : Int) = (b : Int) * (d : Int) := by
      have : ((G * q : Nat) : Int) = ((b * d : Nat) : Int) := by rw [hBB, hq]
      simpa using this
    rw [← Int.mul_assoc, ← Int.mul_assoc, s1, s2, dP, sP]
    have e0 : nuO xs j = (n : Int) := hn
    have e1 : deO xs j = (d : Int) := hd
    rw [e0, e1, if_pos (show allP j = true from rfl)]
    generalize dP (deO xs) j = D at *
    generalize sP allP (nuO xs) (deO xs) j = s at *
    have f1 : (a : Int) * d * (D * d) = a * D * (d * d) := by ac_rfl
    have f2 : (b : Int) * d * (s * d) = b * s * (d * d) := by ac_rfl
    have f3 : (n : Int) * b * (D * d) = b * d * (n * D) := by ac_rfl
    rw [Int.add_mul, Int.mul_add, f1, f2, f3, he]
theorem gcd_div_ne {n g : Nat} (h0 : 0 < n) (h1 : g ∣ n) (h2 : g ≠ 1) : n / g ≠ n := by
  obtain ⟨q, rfl⟩ := h1
  have hg : 0 < g := Nat.pos_of_mul_pos_right h0
  rw [Nat.mul_div_cancel_left _ hg]
  intro h
  have hq : 0 < q := Nat.pos_of_mul_pos_left h0
  have : 2 * q ≤ g * q := Nat.mul_le_mul_right q (by omega)
  omega
theorem arB_over {xs : List Ow} {a b k : Nat} (h : Sum1 xs a b k) (hk : k ≤ xs.length) (hab : b < a) : arB xs = false := by
  cases hg : gdB xs xs.length
  · unfold arB; rw [hg]; simp
  · have hb := gdB_bd hg
    have := sum_over (p := allP) (nu := nuO xs) (de := deO xs) (fun i => (hb i).2.1) (fun i => (hb i).1.1) hk h.2.2 (by have := h.1; omega) (by omega)
    unfold arB; rw [decide_eq_false this]; simp
theorem arB_end {xs : List Ow} {a b : Nat} (hl : inB xs.length 1 8 = true) (hg : gdB xs xs.length = true) (h : InvS xs xs.length a b) : arB xs = (decide (a = 1) && decide (b = 1)) := by
  have hb := gdB_bd hg
  have hl' := hl
  rw [inB_iff] at hl'
  unfold arB
  rw [hl, hg, Bool.true_and, Bool.true_and]
  obtain ⟨h1, h2, h3, j, hj, hj8, ⟨g1, g2, g3⟩, hor⟩ := h
  rw [← Bool.decide_and]
  apply decide_eq_decide.2
  have hgi : Int.gcd (a : Int) (b : Int) = 1 := by simpa using g2
  rcases hor with hf | hf
  · have := sum_far (p := allP) (nu := nuO xs) (de := deO xs) (fun i => (hb i).2) hj (by omega) g3 (by omega) hgi
    constructor
    · intro q; exact absurd q this
    · intro q; omega
  · obtain rfl : j = xs.length := by omega
    have hD := dP_one (de := deO xs) (fun i => (hb i).2.1) xs.length
    have := sum_one (by omega) (by omega) g3 hgi
    constructor
    · intro q; have := this.2 q; omega
    · intro q; exact this.1 ⟨by omega, by omega⟩
set_option maxRecDepth 10000 in
set_option maxHeartbeats 16000000 in
theorem l22Good_any (A : Option Addr) (c : Nat) (xs : List Ow) (w : World) (h : Rd w w.heap.size A 3 Ow.enc xs) (hx : xs.length ≤ 1048576) (hz : OwSz 1048576 xs) :
    Calls Tryd.prog 58 #[.slice A xs.length c] w fun e w' => e = .returned (.bool (arB xs)) ∧ Below w.heap.size w w' := by
  have HX := Lib.hid h
  have HZ := Lib.hid hz
  clear h hz
  go_enter Tryd.func58, Tryd.ntmps58
  go_wp2
  go_loopw [3, 4, 5] (fun nv dv i wr => ∃ k a b : Nat, k ≤ xs.length ∧ k ≤ 9 ∧ nv = .int .i64 a ∧ dv = .int .i64 b ∧ i = .int .i64 k ∧ Hid (gdB xs k = true ∧ InvS xs k a b) ∧ Below w.heap.size w wr) (fun _ _ i _ => xs.length - (intOf i).toNat)
  case atStart => exact ⟨0, 0, 1, Nat.zero_le _, by omega, rfl, rfl, rfl, Lib.hid ⟨rfl, by omega, by omega, by omega, 0, by omega, by omega, Sum1.zero xs, .inr (by omega)⟩, Below.refl _ _⟩
  case round =>
    obtain ⟨k, a, b, hk, hk9, rfl, rfl, rfl, HI, hb⟩ := hrel
    have hs := hb.size
    by_cases hin : k < xs.length ∧ k ≤ 8
    · obtain ⟨hlt, hk8⟩ := hin
      obtain ⟨b0, o, rfl, hB, c0, c1, c2⟩ := ow_cells (HX.out.below hb) hlt
      have hB1 : b0 < wr.heap.size := by omega
      have hI : (k : Int) < xs.length := by omega
      have hI8 : (k : Int) ≤ 8 := by omega
      have hI0 : (0 : Int) ≤ k := by omega
      go_upto_region 6 with (fail)
      refine cut_world (fun W => Row W wr.heap.size 54 [.string (el xs k).s, .int .i64 (el xs k).n, .int .i64 (el xs k).d] ∧ Below wr.heap.size wr W) ⟨by first | exact Row.new _ _ _ | exact (Row.new _ _ _).to (by repeat' (first | (with_reducible exact Below.refl _ _) | (with_reducible refine Below.alloc ?_ ?_ _) | (with_reducible refine Below.setCell ?_ ?_ _) | (with_reducible refine Below.drew ?_) | (with_reducible refine Below.trans ?_ (Below.mono (by with_reducible assumption) ?_)) | omega | (simp; done) | (simp; omega))), (by repeat' (first | (with_reducible exact Below.refl _ _) | (with_reducible refine Below.alloc ?_ ?_ _) | (with_reducible refine Below.setCell ?_ ?_ _) | (with_reducible refine Below.drew ?_) | (with_reducible refine Below.trans ?_ (Below.mono (by with_reducible assumption) ?_)) | omega | (simp; done) | (simp; omega)))⟩ ?_
      clear c0 c1 c2
      rintro w2 ⟨hbx2, hb2⟩
      obtain ⟨x0, x1, x2⟩ := row3o hbx2
      have hbl := hbx2.lt
      have hs2 := hb2.size
      have hzk := HZ.out k hlt
      cases h1 : wdB (el xs k).s
      · have HA := Lib.hid (arB_no hlt (owOK_word h1))
        have hcw := fun W => l2Word_any (el xs k).s W (by omega)
        rw [h1] at hcw
        have HW := Lib.hid hcw
        clear hcw h1
        go_wp2_with fail
        refine (HW.out _).mono ?_
        rintro e w3 ⟨rfl, hb3⟩
        have hs3 := hb3.size
        go_wp2
        go_ret
        exact ⟨by rw [HA.out]; rfl, (by repeat' (first | (with_reducible exact Below.refl _ _) | (with_reducible refine Below.alloc ?_ ?_ _) | (with_reducible refine Below.setCell ?_ ?_ _) | (with_reducible refine Below.drew ?_) | (with_reducible refine Below.trans ?_ (Below.mono (by with_reducible assumption) ?_)) | omega | (simp; done) | (simp; omega)))⟩
      · have hcw := fun W => l2Word_any (el xs k).s W (by omega)
        rw [h1] at hcw
        have HW := Lib.hid hcw
        have H1 := Lib.hid h1
        clear hcw h1
        go_wp2_with fail
        refine (HW.out _).mono ?_
        rintro e w3 ⟨rfl, hb3⟩
        have hs3 := hb3.size
        clear x0 x1 x2
        have hbx3 := hbx2.to hb3
        obtain ⟨x0, x1, x2⟩ := row3o hbx3
        have hbl3 := hbx3.lt
        cases h2 : inB (el xs k).n 1 1000
        · have HA := Lib.hid (arB_no hlt (owOK_part (by rw [h2]; rfl)))
          go_wp2_with (go_at_call 80; refine (l1In_any _ _ _ _).mono ?_; rintro e w1 ⟨rfl, rfl⟩)
          go_ret
          exact ⟨by rw [HA.out]; rfl, (by repeat' (first | (with_reducible exact Below.refl _ _) | (with_reducible refine Below.alloc ?_ ?_ _) | (with_reducible refine Below.setCell ?_ ?_ _) | (with_reducible refine Below.drew ?_) | (with_reducible refine Below.trans ?_ (Below.mono (by with_reducible assumption) ?_)) | omega | (simp; done) | (simp; omega)))⟩
        · cases h3 : inB (el xs k).d 1 1000
          · have HA := Lib.hid (arB_no hlt (owOK_part (by rw [h3, Bool.and_false])))
            go_wp2_with (go_at_call 80; refine (l1In_any _ _ _ _).mono ?_; rintro e w1 ⟨rfl, rfl⟩)
            go_ret
            exact ⟨by rw [HA.out]; rfl, (by repeat' (first | (with_reducible exact Below.refl _ _) | (with_reducible refine Below.alloc ?_ ?_ _) | (with_reducible refine Below.setCell ?_ ?_ _) | (with_reducible refine Below.drew ?_) | (with_reducible refine Below.trans ?_ (Below.mono (by with_reducible assumption) ?_)) | omega | (simp; done) | (simp; omega)))⟩
          · have H23 := Lib.hid (show (inB (el xs k).n 1 1000 && inB (el xs k).d 1 1000) = true by rw [h2, h3]; rfl)
            have h2' := h2
            have h3' := h3
            rw [inB_iff] at h2' h3'
            obtain ⟨n, hn⟩ : ∃ n : Nat, (el xs k).n = n := ⟨(el xs k).n.toNat, by omega⟩
            obtain ⟨d, hd⟩ : ∃ d : Nat, (el xs k).d = d := ⟨(el xs k).d.toNat, by omega⟩
            rw [hn] at x1 h2 h2'
            rw [hd] at x2 h3 h3'
            have hcr := fun W => l2Reduce_any n d W (by omega) (by omega) (by omega)
            have HND := Lib.hid (And.intro hn hd)
            have hgg : Nat.gcd (el xs k).n.toNat (el xs k).d.toNat = Nat.gcd n d := by rw [hn, hd]; rfl
            clear hn hd
            by_cases h4 : Nat.gcd n d = 1
            · rw [h4, Nat.div_one, Nat.div_one] at hcr
              have HR := Lib.hid hcr
              have HOK := Lib.hid (owOK_yes H1.out H23.out (hgg.trans h4))
              clear hcr h4 hgg
              go_wp2_with (go_at_call 80; refine (l1In_any _ _ _ _).mono ?_; rintro e w1 ⟨rfl, rfl⟩)
              refine (HR.out _).mono ?_
              rintro e w4 ⟨rfl, hb4⟩
              have hs4 := hb4.size
              clear x0 x1 x2
              have hbx4 := hbx3.to hb4
              obtain ⟨x0, x1, x2⟩ := row3o hbx4
              have hbl4 := hbx4.lt
              rw [HND.out.1] at x1
              rw [HND.out.2] at x2
              have hbW4 : Below w.heap.size w w4 := hb.trans ((hb2.trans ((hb3.trans (hb4.mono hs3)).mono hs2)).mono hs)
              have HX4 := Lib.hid (HX.out.to hbW4)
              clear hb2 hb3 hb4 hbx2 hbx3
              go_wp2_with fail
              go_loopw [9] (fun i W => ∃ j : Nat, j ≤ k ∧ i = .int .i64 j ∧ Hid (∀ m, m < j → (el xs m).s ≠ (el xs k).s) ∧ Below w4.heap.size w4 W) (fun i _ => k - (intOf i).toNat)
              case atStart => exact ⟨0, Nat.zero_le _, rfl, Lib.hid (fun m hm => absurd hm (by omega)), Below.refl _ _⟩
              case round =>
                clear x0 x1 x2
                obtain ⟨j, hj, rfl, Hj, hbj⟩ := hrel
                have hsj := hbj.size
                have hbx5 := hbx4.to hbj
                obtain ⟨x0, x1, x2⟩ := row3o hbx5
                have hbl5 := hbx5.lt
                rw [HND.out.1] at x1
                rw [HND.out.2] at x2
                by_cases hjk : j < k
                · obtain ⟨b', o', hadr, hB', d0, d1, d2⟩ := ow_cells (HX4.out.below hbj) (i := j) (by omega)
                  obtain ⟨rfl, rfl⟩ : b0 = b' ∧ o = o' := by simpa using hadr
                  have hJ : (j : Int) < k := by omega
                  have hJl : (j : Int) < xs.length := by omega
                  have hJ0 : (0 : Int) ≤ j := by omega
                  have hB2 : b0 < wr.heap.size := by omega
                  by_cases hq : (el xs j).s = (el xs k).s
                  · have HA := Lib.hid (arB_twice hlt (by rw [owAtN_first hq Hj.out hjk]; omega))
                    have hq2 : (el xs j).s.toList = (el xs k).s.toList := ba_iff.2 hq
                    clear hq
                    go_wp2_with fail
                    go_wp2_with fail
                    refine wp_region_quiet_below (by kernel_rfl) (by kernel_rfl) ?_
                    repeat (go_big_quiet_step (fail))
                    (refine wpQuiet_nil ?_; intro w1 hwq; have hb1 := of_cls hwq; clear hwq)
                    (have hs1 := hb1.size; (try simp at hs1); obtain ⟨hc1, hf1, hn1⟩ := bcell hb1; (try have hz1_w_0 : w.heap.size < w1.heap.size := by omega); (try have hz1_w_1 : w.heap.size + 1 < w1.heap.size := by omega); (try have hz1_w_2 : w.heap.size + 2 < w1.heap.size := by omega); (try have hz1_w_2b : w.heap.size + 1 + 1 < w1.heap.size := by omega))
                    go_wp2_with fail
                    go_ret
                    exact ⟨by rw [HA.out]; rfl, hbW4.trans (Below.mono (show Below w4.heap.size w4 _ from (by repeat' (first | (with_reducible exact Below.refl _ _) | (with_reducible refine Below.alloc ?_ ?_ _) | (with_reducible refine Below.setCell ?_ ?_ _) | (with_reducible refine Below.drew ?_) | (with_reducible refine Below.trans ?_ (Below.mono (by with_reducible assumption) ?_)) | omega | (simp; done) | (simp; omega)))) hbW4.size)⟩
                  · have hq2 : ((el xs j).s.toList == (el xs k).s.toList) = false := ba_beq hq
                    have HQ := Lib.hid hq
                    clear hq
                    go_wp2_with fail
                    go_wp2_with fail
                    refine wp_region_quiet_below (by kernel_rfl) (by kernel_rfl) ?_
                    repeat (go_big_quiet_step (fail))
                    (refine wpQuiet_nil ?_; intro w2 hwq; have hb2 := of_cls hwq; clear hwq)
                    (have hs2 := hb2.size; (try simp at hs2); obtain ⟨hc2, hf2, hn2⟩ := bcell hb2; (try have hz2_w_0 : w.heap.size < w2.heap.size := by omega); (try have hz2_w_1 : w.heap.size + 1 < w2.heap.size := by omega); (try have hz2_w_2 : w.heap.size + 2 < w2.heap.size := by omega); (try have hz2_w_2b : w.heap.size + 1 + 1 < w2.heap.size := by omega); (try have hz2_w1_0 : w1.heap.size < w2.heap.size := by omega); (try have hz2_w1_1 : w1.heap.size + 1 < w2.heap.size := by omega); (try have hz2_w1_2 : w1.heap.size + 2 < w2.heap.size := by omega); (try have hz2_w1_2b : w1.heap.size + 1 + 1 < w2.heap.size := by omega))
                    go_wp2_with fail
                    go_roundw
                    case rel => exact ⟨j + 1, by omega, by go_num, Lib.hid (fun m hm => by
                      by_cases e : m = j
                      · subst e; exact HQ.out
                      · exact Hj.out m (by omega)), (by repeat' (first | (with_reducible exact Below.refl _ _) | (with_reducible refine Below.alloc ?_ ?_ _) | (with_reducible refine Below.setCell ?_ ?_ _) | (with_reducible refine Below.drew ?_) | (with_reducible refine Below.trans ?_ (Below.mono (by with_reducible assumption) ?_)) | omega | (simp; done) | (simp; omega)))⟩
                    case measure => simp [intOf] <;> omega
                · obtain rfl : j = k := by omega
                  have hJ : ¬ (j : Int) < j := by omega
                  obtain ⟨hgd, i1, i2, i3, jj, j1, j2, j3, j4⟩ := HI.out
                  have HN := Lib.hid (show gdB xs (j + 1) = true by rw [gdB, hgd, HOK.out, owAtN_none Hj.out]; rfl)
                  have HS := Lib.hid j3
                  have hab : ¬ (b : Int) < a := by omega
                  clear hgd HI j3
                  by_cases hj8 : j < 8
                  · have hJ8 : (j : Int) < 8 := by omega
                    by_cases hbig : b ≤ 1000000000000
                    · have hbg : (b : Int) ≤ 1000000000000 := by omega
                      obtain rfl : jj = j := by omega
                      have m1 : a * d ≤ 1000000000000 * 1000 := Nat.mul_le_mul (by omega) (by omega)
                      have m2 : n * b ≤ 1000 * 1000000000000 := Nat.mul_le_mul (by omega) (by omega)
                      have m3 : b * d ≤ 1000000000000 * 1000 := Nat.mul_le_mul (by omega) (by omega)
                      have hcs := fun W => l22Sum_any a b n d W (by omega) (by omega) (by omega) (by omega)
                      have hnx := HS.out.next HND.out.1 HND.out.2 (by omega)
                      have hq0 : b * d / Nat.gcd (a * d + n * b) (b * d) ≤ 1000000000000000 := Nat.le_trans (Nat.div_le_self _ _) (by omega)
                      obtain ⟨p, hp⟩ : ∃ p, (a * d + n * b) / Nat.gcd (a * d + n * b) (b * d) = p := ⟨_, rfl⟩
                      obtain ⟨q, hq⟩ : ∃ q, b * d / Nat.gcd (a * d + n * b) (b * d) = q := ⟨_, rfl⟩
                      rw [hp, hq] at hcs hnx
                      rw [hq] at hq0
                      have HC := Lib.hid hcs
                      have HNX := Lib.hid hnx
                      clear hcs hnx hp hq m1 m2 m3 HS
                      by_cases hov : q < p
                      · have HA := Lib.hid (arB_over HNX.out (by omega) hov)
                        have hovi : (q : Int) < p := by omega
                        go_wp2_with fail
                        refine (HC.out _).mono ?_
                        rintro e w5 ⟨rfl, hb5⟩
                        have hs5 := hb5.size
                        go_wp2
                        go_ret
                        exact ⟨by rw [HA.out]; rfl, hbW4.trans (Below.mono (hbj.trans (Below.mono (show Below wr.heap.size wr _ from (by repeat' (first | (with_reducible exact Below.refl _ _) | (with_reducible refine Below.alloc ?_ ?_ _) | (with_reducible refine Below.setCell ?_ ?_ _) | (with_reducible refine Below.drew ?_) | (with_reducible refine Below.trans ?_ (Below.mono (by with_reducible assumption) ?_)) | omega | (simp; done) | (simp; omega)))) hsj)) hbW4.size)⟩
                      · have hovi : ¬ (q : Int) < p := by omega
                        have HIN := Lib.hid (show InvS xs (jj + 1) p q from ⟨HNX.out.1, hq0, by omega, jj + 1, by omega, by omega, HNX.out, .inr (by omega)⟩)
                        go_wp2_with fail
                        refine (HC.out _).mono ?_
                        rintro e w5 ⟨rfl, hb5⟩
                        have hs5 := hb5.size
                        go_wp2
                        go_roundw
                        case rel => exact ⟨jj + 1, p, q, by omega, by omega, rfl, rfl, by go_num, Lib.hid ⟨HN.out, HIN.out⟩, hbW4.trans (Below.mono (hbj.trans (Below.mono (show Below wr.heap.size wr _ from (by repeat' (first | (with_reducible exact Below.refl _ _) | (with_reducible refine Below.alloc ?_ ?_ _) | (with_reducible refine Below.setCell ?_ ?_ _) | (with_reducible refine Below.drew ?_) | (with_reducible refine Below.trans ?_ (Below.mono (by with_reducible assumption) ?_)) | omega | (simp; done) | (simp; omega)))) hsj)) hbW4.size)⟩
                        case measure => simp [intOf] <;> omega
                    · have hbg : ¬ (b : Int) ≤ 1000000000000 := by omega
                      have HIN := Lib.hid (show InvS xs (j + 1) a b from ⟨i1, i2, i3, jj, by omega, j2, HS.out, .inl (by omega)⟩)
                      go_wp2
                      go_roundw
                      case rel => exact ⟨j + 1, a, b, by omega, by omega, rfl, rfl, by go_num, Lib.hid ⟨HN.out, HIN.out⟩, hbW4.trans (Below.mono hbj hbW4.size)⟩
                      case measure => simp [intOf] <;> omega
                  · have hJ8 : ¬ (j : Int) < 8 := by omega
                    have HIN := Lib.hid (show InvS xs (j + 1) a b from ⟨i1, i2, i3, jj, by omega, j2, HS.out, by omega⟩)
                    go_wp2
                    go_roundw
                    case rel => exact ⟨j + 1, a, b, by omega, by omega, rfl, rfl, by go_num, Lib.hid ⟨HN.out, HIN.out⟩, hbW4.trans (Below.mono hbj hbW4.size)⟩
                    case measure => simp [intOf] <;> omega
            · have hg0 : 0 < Nat.gcd n d := Nat.gcd_pos_of_pos_left _ (by omega)
              have hne := gcd_div_ne (n := n) (by omega) (Nat.gcd_dvd_left n d) h4
              have HA := Lib.hid (arB_no hlt (owOK_gcd (by rw [hgg]; exact h4)))
              obtain ⟨p, hp⟩ : ∃ p, n / Nat.gcd n d = p := ⟨_, rfl⟩
              obtain ⟨q, hq⟩ : ∃ q, d / Nat.gcd n d = q := ⟨_, rfl⟩
              rw [hp, hq] at hcr
              rw [hp] at hne
              have hpn : ¬ (p : Int) = n := by omega
              have hpe : ((p : Int) == n) = false := by simpa using hpn
              have hpx : ((p : Int) != n) = true := by simpa using hpn
              have HR := Lib.hid hcr
              clear hcr h4 hgg hp hq hne hg0
              go_wp2_with (go_at_call 80; refine (l1In_any _ _ _ _).mono ?_; rintro e w1 ⟨rfl, rfl⟩)
              refine (HR.out _).mono ?_
              rintro e w4 ⟨rfl, hb4⟩
              have hs4 := hb4.size
              clear x0 x1 x2
              have hbx4 := hbx3.to hb4
              obtain ⟨x0, x1, x2⟩ := row3o hbx4
              have hbl4 := hbx4.lt
              rw [HND.out.1] at x1
              rw [HND.out.2] at x2
              go_wp2
              go_ret
              exact ⟨by rw [HA.out]; rfl, (by repeat' (first | (with_reducible exact Below.refl _ _) | (with_reducible refine Below.alloc ?_ ?_ _) | (with_reducible refine Below.setCell ?_ ?_ _) | (with_reducible refine Below.drew ?_) | (with_reducible refine Below.trans ?_ (Below.mono (by with_reducible assumption) ?_)) | omega | (simp; done) | (simp; omega)))⟩
    · have hcond : ¬ (k : Int) < xs.length ∨ ¬ (k : Int) ≤ 8 := by omega
      cases hl : inB xs.length 1 8
      · have HA := Lib.hid (show arB xs = false by unfold arB; rw [hl]; rfl)
        by_cases hc1 : (k : Int) < xs.length
        · have hc2 : ¬ (k : Int) ≤ 8 := by omega
          go_wp2_with (go_at_call 80; refine (l1In_any _ _ _ _).mono ?_; rintro e w1 ⟨rfl, rfl⟩)
          go_ret
          exact ⟨by rw [HA.out]; rfl, (by repeat' (first | (with_reducible exact Below.refl _ _) | (with_reducible refine Below.alloc ?_ ?_ _) | (with_reducible refine Below.setCell ?_ ?_ _) | (with_reducible refine Below.drew ?_) | (with_reducible refine Below.trans ?_ (Below.mono (by with_reducible assumption) ?_)) | omega | (simp; done) | (simp; omega)))⟩
        · go_wp2_with (go_at_call 80; refine (l1In_any _ _ _ _).mono ?_; rintro e w1 ⟨rfl, rfl⟩)
          go_ret
          exact ⟨by rw [HA.out]; rfl, (by repeat' (first | (with_reducible exact Below.refl _ _) | (with_reducible refine Below.alloc ?_ ?_ _) | (with_reducible refine Below.setCell ?_ ?_ _) | (with_reducible refine Below.drew ?_) | (with_reducible refine Below.trans ?_ (Below.mono (by with_reducible assumption) ?_)) | omega | (simp; done) | (simp; omega)))⟩
      · have hl' := hl
        rw [inB_iff] at hl'
        obtain rfl : k = xs.length := by omega
        have hc1 : ¬ ((xs.length : Nat) : Int) < xs.length := by omega
        have HA := Lib.hid (arB_end hl HI.out.1 HI.out.2)
        by_cases ha : a = 1
        · subst ha
          by_cases hb1 : b = 1
          · subst hb1
            go_wp2_with (go_at_call 80; refine (l1In_any _ _ _ _).mono ?_; rintro e w1 ⟨rfl, rfl⟩)
            go_ret
            exact ⟨by rw [HA.out]; rfl, (by repeat' (first | (with_reducible exact Below.refl _ _) | (with_reducible refine Below.alloc ?_ ?_ _) | (with_reducible refine Below.setCell ?_ ?_ _) | (with_reducible refine Below.drew ?_) | (with_reducible refine Below.trans ?_ (Below.mono (by with_reducible assumption) ?_)) | omega | (simp; done) | (simp; omega)))⟩
          · have hbi : ¬ (b : Int) = 1 := by omega
            have hbe : ((b : Int) == 1) = false := by simpa using hbi
            have HA2 := Lib.hid (show arB xs = false by rw [HA.out, decide_eq_false hb1, Bool.and_false])
            clear hb1
            go_wp2_with (go_at_call 80; refine (l1In_any _ _ _ _).mono ?_; rintro e w1 ⟨rfl, rfl⟩)
            go_ret
            exact ⟨by rw [HA2.out]; rfl, (by repeat' (first | (with_reducible exact Below.refl _ _) | (with_reducible refine Below.alloc ?_ ?_ _) | (with_reducible refine Below.setCell ?_ ?_ _) | (with_reducible refine Below.drew ?_) | (with_reducible refine Below.trans ?_ (Below.mono (by with_reducible assumption) ?_)) | omega | (simp; done) | (simp; omega)))⟩
        · have hai : ¬ (a : Int) = 1 := by omega
          have hae : ((a : Int) == 1) = false := by simpa using hai
          have HA2 := Lib.hid (show arB xs = false by rw [HA.out, decide_eq_false ha, Bool.false_and])
          clear ha
          go_wp2_with (go_at_call 80; refine (l1In_any _ _ _ _).mono ?_; rintro e w1 ⟨rfl, rfl⟩)
          go_ret
          exact ⟨by rw [HA2.out]; rfl, (by repeat' (first | (with_reducible exact Below.refl _ _) | (with_reducible refine Below.alloc ?_ ?_ _) | (with_reducible refine Below.setCell ?_ ?_ _) | (with_reducible refine Below.drew ?_) | (with_reducible refine Below.trans ?_ (Below.mono (by with_reducible assumption) ?_)) | omega | (simp; done) | (simp; omega)))⟩
end Go.Proofs.YtimdnihadhbjpaaDoor
