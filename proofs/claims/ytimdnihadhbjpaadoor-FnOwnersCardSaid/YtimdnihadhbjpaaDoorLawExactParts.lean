/- Law: ExactParts (chapter 22). -/
import Derived.Test.YtimdnihadhbjpaaDoorLawLargestOwner
set_option linter.unusedSimpArgs false
set_option linter.unusedVariables false
namespace Go.Proofs.YtimdnihadhbjpaaDoor
open Go.RowKit Go.Sort Go.Salt
attribute [local go_sem] cell_rg
def epN (xs : List Ow) : Nat → Nat
  | 0 => 1
  | k + 1 => epN xs k * ((el xs k).d.toNat / Nat.gcd (epN xs k) (el xs k).d.toNat)
def epB (xs : List Ow) : Bool := arB xs && decide (epN xs xs.length ≤ 1000000)
def epV (xs : List Ow) : Int := if epB xs = true then (epN xs xs.length : Int) else 0
theorem epN_mono {xs : List Ow} (h : OwBd xs) {k : Nat} : ∀ {n : Nat}, k ≤ n → epN xs k ≤ epN xs n
  | 0, hk => by obtain rfl : k = 0 := by omega
                exact Nat.le_refl _
  | n + 1, hk => by
    by_cases e : k = n + 1
    · subst e; exact Nat.le_refl _
    · have h1 := epN_mono h (n := n) (k := k) (by omega)
      have hd := (h n).2.1
      have hp : 0 < (el xs n).d.toNat := by omega
      have h2 : 0 < (el xs n).d.toNat / Nat.gcd (epN xs n) (el xs n).d.toNat := Nat.div_pos (Nat.le_of_dvd hp (Nat.gcd_dvd_right _ _)) (Nat.gcd_pos_of_pos_right _ hp)
      rw [epN]
      exact Nat.le_trans h1 (Nat.le_mul_of_pos_right _ h2)
theorem epB_over {xs : List Ow} (h : OwBd xs) {k : Nat} (hk : k ≤ xs.length) (ho : 1000000 < epN xs k) : epB xs = false := by
  have := epN_mono h hk
  unfold epB; rw [decide_eq_false (show ¬ epN xs xs.length ≤ 1000000 by omega), Bool.and_false]
theorem div_swap {n d G : Nat} (h1 : G ∣ n) (h2 : G ∣ d) (h0 : 0 < G) : n / G * d = n * (d / G) := by
  obtain ⟨a, rfl⟩ := h1
  obtain ⟨b, rfl⟩ := h2
  rw [Nat.mul_div_cancel_left _ h0, Nat.mul_div_cancel_left _ h0]
  ac_rfl
theorem wrap_id {z : Int} (h : -9223372036854775808 ≤ z ∧ z ≤ 9223372036854775807) : wrap64 z = z := by unfold wrap64; omega
theorem nat_bd {m : Nat} (h0 : 0 < m) (h : m ≤ 1000000 * 1000) : 1 ≤ (m : Int) ∧ (m : Int) ≤ 1000000000 := by omega
/-- What a round of the reference's loop computes. -/
theorem ep_spec {xs : List Ow} (h : OwBd xs) {k : Nat} {nI : Int} (he : (epN xs k : Int) = nI) (h1 : 1 ≤ nI) (h2 : nI ≤ 1000000) :
    ∃ qI pI mI : Int, (1 ≤ mI ∧ mI ≤ 1000000000) ∧ wrap64 (nI * pI) = mI ∧ (epN xs (k + 1) : Int) = mI ∧
      ∀ W, Calls Tryd.prog 69 #[.int .i64 nI, .int .i64 (el xs k).d] W fun e w' => e = .returned (.tuple #[.int .i64 qI, .int .i64 pI]) ∧ Below W.heap.size W w' := by
  subst he
  have hd := (h k).2
  have hst := @epN.eq_2 xs k
  obtain ⟨d, hd'⟩ : ∃ d : Nat, (el xs k).d = d := ⟨(el xs k).d.toNat, by omega⟩
  rw [hd'] at hd hst ⊢
  rw [Int.toNat_natCast] at hst
  obtain ⟨n, hn⟩ : ∃ n, epN xs k = n := ⟨_, rfl⟩
  rw [hn] at h1 h2 hst ⊢
  have hn0 : 0 < n := by omega
  have hd0 : 0 < d := by omega
  have hn6 : n ≤ 1000000 := by omega
  have hd3 : d ≤ 1000 := by omega
  have hp0 : 0 < d / Nat.gcd n d := Nat.div_pos (Nat.le_of_dvd hd0 (Nat.gcd_dvd_right _ _)) (Nat.gcd_pos_of_pos_right _ hd0)
  have hpd : d / Nat.gcd n d ≤ d := Nat.div_le_self _ _
  have hm := nat_bd (Nat.mul_pos hn0 hp0) (Nat.mul_le_mul hn6 (Nat.le_trans hpd hd3))
  refine ⟨_, _, _, hm, ?_, by rw [hst], fun W => l2Reduce_any n d W hd0 (by omega) (by omega)⟩
  rw [← Int.natCast_mul]
  exact wrap_id ⟨by omega, by omega⟩
/-- What a round of the program's loop computes. -/
theorem ep_impl {xs : List Ow} (h : OwBd xs) {k : Nat} {nI : Int} (he : (epN xs k : Int) = nI) (h1 : 1 ≤ nI) (h2 : nI ≤ 1000000) :
    ∃ gI qI mI : Int, (1 ≤ mI ∧ mI ≤ 1000000000) ∧ ¬ gI = 0 ∧ nI.tdiv gI = qI ∧ nI / gI = qI ∧ wrap64 qI = qI ∧ wrap64 (qI * (el xs k).d) = mI ∧ (epN xs (k + 1) : Int) = mI ∧
      ∀ W, Calls Tryd.prog 63 #[.int .i64 nI, .int .i64 (el xs k).d] W fun e w' => e = .returned (.int .i64 gI) ∧ Below W.heap.size W w' := by
  subst he
  have hd := (h k).2
  have hst := @epN.eq_2 xs k
  obtain ⟨d, hd'⟩ : ∃ d : Nat, (el xs k).d = d := ⟨(el xs k).d.toNat, by omega⟩
  rw [hd'] at hd hst ⊢
  rw [Int.toNat_natCast] at hst
  obtain ⟨n, hn⟩ : ∃ n, epN xs k = n := ⟨_, rfl⟩
  rw [hn] at h1 h2 hst ⊢
  have hn0 : 0 < n := by omega
  have hd0 : 0 < d := by omega
  have hn6 : n ≤ 1000000 := by omega
  have hd3 : d ≤ 1000 := by omega
  have hg0 : 0 < Nat.gcd n d := Nat.gcd_pos_of_pos_right _ hd0
  have hp0 : 0 < d / Nat.gcd n d := Nat.div_pos (Nat.le_of_dvd hd0 (Nat.gcd_dvd_right _ _)) hg0
  have hpd : d / Nat.gcd n d ≤ d := Nat.div_le_self _ _
  have hq : n / Nat.gcd n d ≤ n := Nat.div_le_self _ _
  have hm := nat_bd (Nat.mul_pos hn0 hp0) (Nat.mul_le_mul hn6 (Nat.le_trans hpd hd3))
  have hsw := div_swap (Nat.gcd_dvd_left n d) (Nat.gcd_dvd_right n d) hg0
  refine ⟨(Nat.gcd n d : Int), ((n / Nat.gcd n d : Nat) : Int), _, hm, by omega, rfl, rfl, ?_, ?_, by rw [hst], fun W => gcd_any n d W (by omega) (by omega)⟩
  · exact wrap_id ⟨Int.le_trans (by decide) (Int.natCast_nonneg _), Int.le_trans (Int.ofNat_le.2 hq) (by omega)⟩
  · rw [← Int.natCast_mul, hsw]
    exact wrap_id ⟨by omega, by omega⟩
set_option maxRecDepth 10000 in
set_option maxHeartbeats 8000000 in
theorem sExactParts_any (A : Option Addr) (c : Nat) (xs : List Ow) (w : World) (h : Rd w w.heap.size A 3 Ow.enc xs) (hx : xs.length ≤ 1048576) (hz : OwSz 1048576 xs) :
    Calls Tryd.prog 24 #[.slice A xs.length c] w fun e w' => e = .returned (.tuple #[.int .i64 (epV xs), .bool (epB xs)]) ∧ Below w.heap.size w w' := by
  have HX := Lib.hid h
  have HZ := Lib.hid hz
  clear h hz
  cases hg : arB xs
  · have Hg := Lib.hid hg
    have hB : epB xs = false := by unfold epB; rw [hg]; rfl
    rw [epV, hB]
    clear hg hB
    simp only [Bool.false_eq_true, if_false]
    go_enter Tryd.func24, Tryd.ntmps24
    go_wp2_with fail
    refine (l22Good_any A c xs _ (HX.out.to (by repeat' (first | (with_reducible exact Below.refl _ _) | (with_reducible refine Below.alloc ?_ ?_ _) | (with_reducible refine Below.setCell ?_ ?_ _) | (with_reducible refine Below.drew ?_) | (with_reducible refine Below.trans ?_ (Below.mono (by with_reducible assumption) ?_)) | omega | (simp; done) | (simp; omega)))) hx HZ.out).mono ?_
    rintro e w1 ⟨rfl, hb1⟩
    have hs1 := hb1.size
    rw [Hg.out]
    go_wp2
    go_ret2
    exact ⟨rfl, (by repeat' (first | (with_reducible exact Below.refl _ _) | (with_reducible refine Below.alloc ?_ ?_ _) | (with_reducible refine Below.setCell ?_ ?_ _) | (with_reducible refine Below.drew ?_) | (with_reducible refine Below.trans ?_ (Below.mono (by with_reducible assumption) ?_)) | omega | (simp; done) | (simp; omega)))⟩
  · have Hg := Lib.hid hg
    have HBD := Lib.hid (arB_bd hg)
    have hl := arB_len hg
    clear hg
    go_enter Tryd.func24, Tryd.ntmps24
    go_wp2_with fail
    refine (l22Good_any A c xs _ (HX.out.to (by repeat' (first | (with_reducible exact Below.refl _ _) | (with_reducible refine Below.alloc ?_ ?_ _) | (with_reducible refine Below.setCell ?_ ?_ _) | (with_reducible refine Below.drew ?_) | (with_reducible refine Below.trans ?_ (Below.mono (by with_reducible assumption) ?_)) | omega | (simp; done) | (simp; omega)))) hx HZ.out).mono ?_
    rintro e w1 ⟨rfl, hb1⟩
    have hs1 := hb1.size
    rw [Hg.out]
    have HX1 := Lib.hid (HX.out.to hb1)
    go_wp2_with fail
    go_loopw [4, 5] (fun nv i wr => ∃ (k : Nat) (nI : Int), k ≤ xs.length ∧ nI ≤ 1000000 ∧ 1 ≤ nI ∧ nv = .int .i64 nI ∧ i = .int .i64 k ∧ Hid ((epN xs k : Int) = nI) ∧ Below w1.heap.size w1 wr) (fun _ i _ => xs.length - (intOf i).toNat)
    case atStart => exact ⟨0, 1, by omega, by omega, by omega, rfl, rfl, Lib.hid rfl, (by repeat' (first | (with_reducible exact Below.refl _ _) | (with_reducible refine Below.alloc ?_ ?_ _) | (with_reducible refine Below.setCell ?_ ?_ _) | (with_reducible refine Below.drew ?_) | (with_reducible refine Below.trans ?_ (Below.mono (by with_reducible assumption) ?_)) | omega | (simp; done) | (simp; omega)))⟩
    case round =>
      obtain ⟨k, nI, hk, hn6, hn1, rfl, rfl, He, hb⟩ := hrel
      have hs := hb.size
      by_cases hlt : k < xs.length
      · obtain ⟨b, o, rfl, hB', c0, c1, c2⟩ := ow_cells (HX1.out.below hb) hlt
        have hB1 : b < wr.heap.size := by omega
        have hI : (k : Int) < xs.length := by omega
        have hI0 : (0 : Int) ≤ k := by omega
        obtain ⟨qI, pI, mI, hm, wm, hst, hcr⟩ := ep_spec HBD.out He.out hn1 hn6
        have HC := Lib.hid hcr
        have HN := Lib.hid hst
        clear hcr hst
        by_cases hov : mI ≤ 1000000
        · have hovi : ¬ (1000000 : Int) < mI := by omega
          go_wp2_with fail
          refine (HC.out _).mono ?_
          rintro e w2 ⟨rfl, hb2⟩
          have hs2 := hb2.size
          go_wp2
          go_roundw
          case rel => exact ⟨k + 1, mI, by omega, hov, hm.1, by first | rfl | rw [wm], by go_num, HN, (by repeat' (first | (with_reducible exact Below.refl _ _) | (with_reducible refine Below.alloc ?_ ?_ _) | (with_reducible refine Below.setCell ?_ ?_ _) | (with_reducible refine Below.drew ?_) | (with_reducible refine Below.trans ?_ (Below.mono (by with_reducible assumption) ?_)) | omega | (simp; done) | (simp; omega)))⟩
          case measure => simp [intOf] <;> omega
        · have hovi : (1000000 : Int) < mI := by omega
          have HB : Hid (epB xs = false) := Lib.hid (epB_over HBD.out (k := k + 1) (Nat.succ_le_of_lt hlt) (by have := HN.out; omega))
          go_wp2_with fail
          refine (HC.out _).mono ?_
          rintro e w2 ⟨rfl, hb2⟩
          have hs2 := hb2.size
          go_wp2
          go_ret2
          exact ⟨by rw [epV, HB.out]; rfl, hb1.trans (Below.mono (hb.trans (Below.mono (show Below wr.heap.size wr _ from (by repeat' (first | (with_reducible exact Below.refl _ _) | (with_reducible refine Below.alloc ?_ ?_ _) | (with_reducible refine Below.setCell ?_ ?_ _) | (with_reducible refine Below.drew ?_) | (with_reducible refine Below.trans ?_ (Below.mono (by with_reducible assumption) ?_)) | omega | (simp; done) | (simp; omega)))) hs)) hs1)⟩
      · obtain rfl : k = xs.length := by omega
        have hI : ¬ ((xs.length : Nat) : Int) < xs.length := by omega
        have HB : Hid (epB xs = true) := Lib.hid (by unfold epB; rw [Hg.out, decide_eq_true (show epN xs xs.length ≤ 1000000 by have := He.out; omega)]; rfl)
        go_wp2
        go_ret2
        exact ⟨by rw [epV, HB.out, ← He.out]; rfl, hb1.trans (Below.mono (hb.trans (Below.mono (show Below wr.heap.size wr _ from (by repeat' (first | (with_reducible exact Below.refl _ _) | (with_reducible refine Below.alloc ?_ ?_ _) | (with_reducible refine Below.setCell ?_ ?_ _) | (with_reducible refine Below.drew ?_) | (with_reducible refine Below.trans ?_ (Below.mono (by with_reducible assumption) ?_)) | omega | (simp; done) | (simp; omega)))) hs)) hs1)⟩
set_option maxRecDepth 10000 in
set_option maxHeartbeats 8000000 in
theorem iExactParts_any (A : Option Addr) (c : Nat) (xs : List Ow) (w : World) (h : Rd w w.heap.size A 3 Ow.enc xs) (hx : xs.length ≤ 1048576) (hc : xs.length ≤ c) (hz : OwSz 1048576 xs) :
    Calls Tryd.prog 25 #[.slice A xs.length c] w fun e w' => e = .returned (.tuple #[.int .i64 (epV xs), .bool (epB xs)]) ∧ Below w.heap.size w w' := by
  have HX := Lib.hid h
  have HZ := Lib.hid hz
  clear h hz
  cases hg : arB xs
  · have Hg := Lib.hid hg
    have hB : epB xs = false := by unfold epB; rw [hg]; rfl
    rw [epV, hB]
    clear hg hB
    simp only [Bool.false_eq_true, if_false]
    go_enter Tryd.func25, Tryd.ntmps25
    go_wp2_with fail
    refine (iAreOwners_any A c xs _ (HX.out.to (by repeat' (first | (with_reducible exact Below.refl _ _) | (with_reducible refine Below.alloc ?_ ?_ _) | (with_reducible refine Below.setCell ?_ ?_ _) | (with_reducible refine Below.drew ?_) | (with_reducible refine Below.trans ?_ (Below.mono (by with_reducible assumption) ?_)) | omega | (simp; done) | (simp; omega)))) hx hc HZ.out).mono ?_
    rintro e w1 ⟨rfl, hb1⟩
    have hs1 := hb1.size
    rw [Hg.out]
    go_wp2
    go_ret2
    exact ⟨rfl, (by repeat' (first | (with_reducible exact Below.refl _ _) | (with_reducible refine Below.alloc ?_ ?_ _) | (with_reducible refine Below.setCell ?_ ?_ _) | (with_reducible refine Below.drew ?_) | (with_reducible refine Below.trans ?_ (Below.mono (by with_reducible assumption) ?_)) | omega | (simp; done) | (simp; omega)))⟩
  · have Hg := Lib.hid hg
    have HBD := Lib.hid (arB_bd hg)
    have hl := arB_len hg
    clear hg
    go_enter Tryd.func25, Tryd.ntmps25
    go_wp2_with fail
    refine (iAreOwners_any A c xs _ (HX.out.to (by repeat' (first | (with_reducible exact Below.refl _ _) | (with_reducible refine Below.alloc ?_ ?_ _) | (with_reducible refine Below.setCell ?_ ?_ _) | (with_reducible refine Below.drew ?_) | (with_reducible refine Below.trans ?_ (Below.mono (by with_reducible assumption) ?_)) | omega | (simp; done) | (simp; omega)))) hx hc HZ.out).mono ?_
    rintro e w1 ⟨rfl, hb1⟩
    have hs1 := hb1.size
    rw [Hg.out]
    have HX1 := Lib.hid (HX.out.to hb1)
    go_wp2_with fail
    go_loopw [4, 12] (fun nv i wr => ∃ (k : Nat) (nI : Int), k ≤ xs.length ∧ nI ≤ 1000000 ∧ 1 ≤ nI ∧ nv = .int .i64 nI ∧ i = .int .i64 k ∧ Hid ((epN xs k : Int) = nI) ∧ Below w1.heap.size w1 wr) (fun _ i _ => xs.length - (intOf i).toNat)
    case atStart => exact ⟨0, 1, by omega, by omega, by omega, rfl, rfl, Lib.hid rfl, (by repeat' (first | (with_reducible exact Below.refl _ _) | (with_reducible refine Below.alloc ?_ ?_ _) | (with_reducible refine Below.setCell ?_ ?_ _) | (with_reducible refine Below.drew ?_) | (with_reducible refine Below.trans ?_ (Below.mono (by with_reducible assumption) ?_)) | omega | (simp; done) | (simp; omega)))⟩
    case round =>
      obtain ⟨k, nI, hk, hn6, hn1, rfl, rfl, He, hb⟩ := hrel
      have hs := hb.size
      by_cases hlt : k < xs.length
      · obtain ⟨b, o, rfl, hB', c0, c1, c2⟩ := ow_cells (HX1.out.below hb) hlt
        have hB1 : b < wr.heap.size := by omega
        have hI : (k : Int) < xs.length := by omega
        have hI0 : (0 : Int) ≤ k := by omega
        obtain ⟨gI, qI, mI, hm, d4, d1, d2, d3, wm, hst, hcr⟩ := ep_impl HBD.out He.out hn1 hn6
        have HC := Lib.hid hcr
        have HN := Lib.hid hst
        clear hcr hst
        by_cases hov : mI ≤ 1000000
        · have hovi : ¬ (1000000 : Int) < mI := by omega
          go_upto_region 7 with (fail)
          refine cut_world (fun W => Row W wr.heap.size 54 [.string (el xs k).s, .int .i64 (el xs k).n, .int .i64 (el xs k).d] ∧ Below wr.heap.size wr W) ⟨by first | exact Row.new _ _ _ | exact (Row.new _ _ _).to (by repeat' (first | (with_reducible exact Below.refl _ _) | (with_reducible refine Below.alloc ?_ ?_ _) | (with_reducible refine Below.setCell ?_ ?_ _) | (with_reducible refine Below.drew ?_) | (with_reducible refine Below.trans ?_ (Below.mono (by with_reducible assumption) ?_)) | omega | (simp; done) | (simp; omega))), (by repeat' (first | (with_reducible exact Below.refl _ _) | (with_reducible refine Below.alloc ?_ ?_ _) | (with_reducible refine Below.setCell ?_ ?_ _) | (with_reducible refine Below.drew ?_) | (with_reducible refine Below.trans ?_ (Below.mono (by with_reducible assumption) ?_)) | omega | (simp; done) | (simp; omega)))⟩ ?_
          clear c0 c1 c2
          rintro w2 ⟨hbx, hb2⟩
          obtain ⟨x0, x1, x2⟩ := row3o hbx
          have hbl := hbx.lt
          have hs2 := hb2.size
          clear hbx
          go_wp2_with fail
          refine wp_region_quiet_below (by kernel_rfl) (by kernel_rfl) ?_
          repeat (go_big_quiet_step ((first | (go_at_call 63; exact Calls.regrown_of (HC.out _)))))
          (refine wpQuiet_nil ?_; intro w1 hwq; have hb1 := of_cls hwq; clear hwq)
          (have hs1 := hb1.size; (try simp at hs1); obtain ⟨hc1, hf1, hn1⟩ := bcell hb1; (try have hz1_w_0 : w.heap.size < w1.heap.size := by omega); (try have hz1_w_1 : w.heap.size + 1 < w1.heap.size := by omega); (try have hz1_w_2 : w.heap.size + 2 < w1.heap.size := by omega); (try have hz1_w_2b : w.heap.size + 1 + 1 < w1.heap.size := by omega))
          go_wp2_with fail
          go_roundw
          case rel => exact ⟨k + 1, mI, by omega, hov, hm.1, by first | rfl | rw [wm], by go_num, HN, (by repeat' (first | (with_reducible exact Below.refl _ _) | (with_reducible refine Below.alloc ?_ ?_ _) | (with_reducible refine Below.setCell ?_ ?_ _) | (with_reducible refine Below.drew ?_) | (with_reducible refine Below.trans ?_ (Below.mono (by with_reducible assumption) ?_)) | omega | (simp; done) | (simp; omega)))⟩
          case measure => simp [intOf] <;> omega
        · have hovi : (1000000 : Int) < mI := by omega
          have HB : Hid (epB xs = false) := Lib.hid (epB_over HBD.out (k := k + 1) (Nat.succ_le_of_lt hlt) (by have := HN.out; omega))
          go_upto_region 7 with (fail)
          refine cut_world (fun W => Row W wr.heap.size 54 [.string (el xs k).s, .int .i64 (el xs k).n, .int .i64 (el xs k).d] ∧ Below wr.heap.size wr W) ⟨by first | exact Row.new _ _ _ | exact (Row.new _ _ _).to (by repeat' (first | (with_reducible exact Below.refl _ _) | (with_reducible refine Below.alloc ?_ ?_ _) | (with_reducible refine Below.setCell ?_ ?_ _) | (with_reducible refine Below.drew ?_) | (with_reducible refine Below.trans ?_ (Below.mono (by with_reducible assumption) ?_)) | omega | (simp; done) | (simp; omega))), (by repeat' (first | (with_reducible exact Below.refl _ _) | (with_reducible refine Below.alloc ?_ ?_ _) | (with_reducible refine Below.setCell ?_ ?_ _) | (with_reducible refine Below.drew ?_) | (with_reducible refine Below.trans ?_ (Below.mono (by with_reducible assumption) ?_)) | omega | (simp; done) | (simp; omega)))⟩ ?_
          clear c0 c1 c2
          rintro w2 ⟨hbx, hb2⟩
          obtain ⟨x0, x1, x2⟩ := row3o hbx
          have hbl := hbx.lt
          have hs2 := hb2.size
          clear hbx
          go_wp2_with fail
          refine wp_region_quiet_below (by kernel_rfl) (by kernel_rfl) ?_
          repeat (go_big_quiet_step ((first | (go_at_call 63; exact Calls.regrown_of (HC.out _)))))
          (refine wpQuiet_nil ?_; intro w2 hwq; have hb2 := of_cls hwq; clear hwq)
          (have hs2 := hb2.size; (try simp at hs2); obtain ⟨hc2, hf2, hn2⟩ := bcell hb2; (try have hz2_w_0 : w.heap.size < w2.heap.size := by omega); (try have hz2_w_1 : w.heap.size + 1 < w2.heap.size := by omega); (try have hz2_w_2 : w.heap.size + 2 < w2.heap.size := by omega); (try have hz2_w_2b : w.heap.size + 1 + 1 < w2.heap.size := by omega); (try have hz2_w1_0 : w1.heap.size < w2.heap.size := by omega); (try have hz2_w1_1 : w1.heap.size + 1 < w2.heap.size := by omega); (try have hz2_w1_2 : w1.heap.size + 2 < w2.heap.size := by omega); (try have hz2_w1_2b : w1.heap.size + 1 + 1 < w2.heap.size := by omega))
          go_wp2_with fail
          go_ret2
          exact ⟨by rw [epV, HB.out]; rfl, hb1.trans (Below.mono (hb.trans (Below.mono (show Below wr.heap.size wr _ from (by repeat' (first | (with_reducible exact Below.refl _ _) | (with_reducible refine Below.alloc ?_ ?_ _) | (with_reducible refine Below.setCell ?_ ?_ _) | (with_reducible refine Below.drew ?_) | (with_reducible refine Below.trans ?_ (Below.mono (by with_reducible assumption) ?_)) | omega | (simp; done) | (simp; omega)))) hs)) hs1)⟩
      · obtain rfl : k = xs.length := by omega
        have hI : ¬ ((xs.length : Nat) : Int) < xs.length := by omega
        have HB : Hid (epB xs = true) := Lib.hid (by unfold epB; rw [Hg.out, decide_eq_true (show epN xs xs.length ≤ 1000000 by have := He.out; omega)]; rfl)
        go_wp2
        go_ret2
        exact ⟨by rw [epV, HB.out, ← He.out]; rfl, hb1.trans (Below.mono (hb.trans (Below.mono (show Below wr.heap.size wr _ from (by repeat' (first | (with_reducible exact Below.refl _ _) | (with_reducible refine Below.alloc ?_ ?_ _) | (with_reducible refine Below.setCell ?_ ?_ _) | (with_reducible refine Below.drew ?_) | (with_reducible refine Below.trans ?_ (Below.mono (by with_reducible assumption) ?_)) | omega | (simp; done) | (simp; omega)))) hs)) hs1)⟩
set_option maxRecDepth 10000 in
set_option maxHeartbeats 8000000 in
theorem FnExactExactParts_law (A : Option Addr) (c : Nat) (xs : List Ow)  (w : World) (h : Rd w w.heap.size A 3 Ow.enc xs) (hm : xs.length ≤ maxLen) (hz : OwSz maxLen xs) :
    Calls Tryd.prog 6 #[.slice A xs.length c] w fun e w' => e = .returned (.bool true) ∧ Below w.heap.size w w' := by
  have HZ := Lib.hid hz
  clear hz
  have hI := fun (A : Option Addr) (c : Nat) (w : World) (h : Rd w w.heap.size A 3 Ow.enc xs) (hx : xs.length ≤ 1048576) (hc : xs.length ≤ c) (hz : OwSz 1048576 xs) => iExactParts_any A c xs  w h hx hc hz
  have hS := fun (A : Option Addr) (c : Nat) (w : World) (h : Rd w w.heap.size A 3 Ow.enc xs) (hx : xs.length ≤ 1048576) (hz : OwSz 1048576 xs) => sExactParts_any A c xs  w h hx hz
  obtain ⟨r0, hr0⟩ : ∃ r, epV xs = r := ⟨_, rfl⟩
  obtain ⟨r1, hr1⟩ : ∃ r, epB xs = r := ⟨_, rfl⟩
  rw [hr0, hr1] at hI hS
  have HI := Lib.hid hI
  have HS := Lib.hid hS
  clear hI hS hr0 hr1
  go_enter Tryd.func6, Tryd.ntmps6
  go_wp2_with fail
  refine (szOwnerS_any A c xs _ (h.to (by repeat' (first | (with_reducible exact Below.refl _ _) | (with_reducible refine Below.alloc ?_ ?_ _) | (with_reducible refine Below.setCell ?_ ?_ _) | (with_reducible refine Below.drew ?_) | (with_reducible refine Below.trans ?_ (Below.mono (by with_reducible assumption) ?_)) | omega | (simp; done) | (simp; omega)))) hm HZ.out).mono ?_
  rintro e w1 ⟨⟨z, rfl, hzz⟩, hb1⟩
  have hs1 := hb1.size
  rcases hzz with rfl | ⟨hz0, hx, hsz⟩
  · go_wp2
    go_ret
    exact ⟨rfl, (by repeat' (first | (with_reducible exact Below.refl _ _) | (with_reducible refine Below.alloc ?_ ?_ _) | (with_reducible refine Below.setCell ?_ ?_ _) | (with_reducible refine Below.drew ?_) | (with_reducible refine Below.trans ?_ (Below.mono (by with_reducible assumption) ?_)) | omega | (simp; done) | (simp; omega)))⟩
  · have hz1 : ¬ z < 0 := by omega
    have HSZ := Lib.hid hsz
    clear hsz HZ
    go_wp2_with fail
    refine (toOwnerS_cap A c xs _ (h.to (by repeat' (first | (with_reducible exact Below.refl _ _) | (with_reducible refine Below.alloc ?_ ?_ _) | (with_reducible refine Below.setCell ?_ ?_ _) | (with_reducible refine Below.drew ?_) | (with_reducible refine Below.trans ?_ (Below.mono (by with_reducible assumption) ?_)) | omega | (simp; done) | (simp; omega)))) hx).mono ?_
    rintro e w2 ⟨g2, rfl, hg2, row2, hb2⟩
    have hs2 := hb2.size
    go_wp2_with fail
    refine (HS.out _ _ _ (row2.rdTo Ow.enc_len (by repeat' (first | (with_reducible exact Below.refl _ _) | (with_reducible refine Below.alloc ?_ ?_ _) | (with_reducible refine Below.setCell ?_ ?_ _) | (with_reducible refine Below.drew ?_) | (with_reducible refine Below.trans ?_ (Below.mono (by with_reducible assumption) ?_)) | omega | (simp; done) | (simp; omega)))) hx HSZ.out).mono ?_
    rintro e w3 ⟨rfl, hb3⟩
    have hs3 := hb3.size
    go_wp2_with fail
    refine (toOwnerS_cap A c xs _ (h.to (by repeat' (first | (with_reducible exact Below.refl _ _) | (with_reducible refine Below.alloc ?_ ?_ _) | (with_reducible refine Below.setCell ?_ ?_ _) | (with_reducible refine Below.drew ?_) | (with_reducible refine Below.trans ?_ (Below.mono (by with_reducible assumption) ?_)) | omega | (simp; done) | (simp; omega)))) hx).mono ?_
    rintro e w4 ⟨g4, rfl, hg4, row4, hb4⟩
    have hs4 := hb4.size
    go_wp2_with fail
    refine (HI.out _ _ _ (row4.rdTo Ow.enc_len (by repeat' (first | (with_reducible exact Below.refl _ _) | (with_reducible refine Below.alloc ?_ ?_ _) | (with_reducible refine Below.setCell ?_ ?_ _) | (with_reducible refine Below.drew ?_) | (with_reducible refine Below.trans ?_ (Below.mono (by with_reducible assumption) ?_)) | omega | (simp; done) | (simp; omega)))) hx (Nat.le_refl _) HSZ.out).mono ?_
    rintro e w5 ⟨rfl, hb5⟩
    have hs5 := hb5.size
    go_wp2_with fail
    refine (toOwnerS_cap A c xs _ (h.to (by repeat' (first | (with_reducible exact Below.refl _ _) | (with_reducible refine Below.alloc ?_ ?_ _) | (with_reducible refine Below.setCell ?_ ?_ _) | (with_reducible refine Below.drew ?_) | (with_reducible refine Below.trans ?_ (Below.mono (by with_reducible assumption) ?_)) | omega | (simp; done) | (simp; omega)))) hx).mono ?_
    rintro e w6 ⟨g6, rfl, hg6, row6, hb6⟩
    have hs6 := hb6.size
    go_wp2_with fail
    refine (eqOwnerS_same _ _ _ _ xs _ (row4.rdTo Ow.enc_len (by repeat' (first | (with_reducible exact Below.refl _ _) | (with_reducible refine Below.alloc ?_ ?_ _) | (with_reducible refine Below.setCell ?_ ?_ _) | (with_reducible refine Below.drew ?_) | (with_reducible refine Below.trans ?_ (Below.mono (by with_reducible assumption) ?_)) | omega | (simp; done) | (simp; omega)))) (row6.rdTo Ow.enc_len (by repeat' (first | (with_reducible exact Below.refl _ _) | (with_reducible refine Below.alloc ?_ ?_ _) | (with_reducible refine Below.setCell ?_ ?_ _) | (with_reducible refine Below.drew ?_) | (with_reducible refine Below.trans ?_ (Below.mono (by with_reducible assumption) ?_)) | omega | (simp; done) | (simp; omega)))) hx).mono ?_
    rintro e w7 ⟨rfl, hb7⟩
    have hs7 := hb7.size
    go_wp2
    go_ret
    exact ⟨rfl, (by repeat' (first | (with_reducible exact Below.refl _ _) | (with_reducible refine Below.alloc ?_ ?_ _) | (with_reducible refine Below.setCell ?_ ?_ _) | (with_reducible refine Below.drew ?_) | (with_reducible refine Below.trans ?_ (Below.mono (by with_reducible assumption) ?_)) | omega | (simp; done) | (simp; omega)))⟩
end Go.Proofs.YtimdnihadhbjpaaDoor
