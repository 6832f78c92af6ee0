/- Which lists are owners: the program's answer (chapter 22). -/
import Derived.Test.YtimdnihadhbjpaaDoorAre
set_option linter.unusedSimpArgs false
set_option linter.unusedVariables false
namespace Go.Proofs.YtimdnihadhbjpaaDoor
open Go.RowKit Go.Sort Go.Salt
attribute [local go_sem] cell_rg
theorem cut_world {α : Type} {G : α → World → Prop} {a : α} {W : World} (R : World → Prop) (h1 : R W) (h2 : ∀ W, R W → G a W) : G a W := h2 W h1
def owOK (x : Ow) : Bool := wdB x.s && ((inB x.n 1 1000 && inB x.d 1 1000) && decide (Nat.gcd x.n.toNat x.d.toNat = 1))
def gdB (xs : List Ow) : Nat → Bool
  | 0 => true
  | k + 1 => gdB xs k && (owOK (el xs k) && decide (owAtN xs (el xs k).s k < 0))
def allP (_ : Nat) : Bool := true
/-- Whether a list are owners. -/
def arB (xs : List Ow) : Bool := inB xs.length 1 8 && (gdB xs xs.length && decide (sP allP (nuO xs) (deO xs) xs.length = dP (deO xs) xs.length))
theorem gdB_no {xs : List Ow} {k : Nat} (h : gdB xs k = false) : ∀ {n : Nat}, k ≤ n → gdB xs n = false
  | 0, hn => by obtain rfl : k = 0 := by omega
                exact h
  | n + 1, hn => by
    by_cases e : k = n + 1
    · subst e; exact h
    · rw [gdB, gdB_no h (n := n) (by omega)]; rfl
theorem gdB_el {xs : List Ow} : ∀ {n : Nat}, gdB xs n = true → ∀ k, k < n → owOK (el xs k) = true ∧ owAtN xs (el xs k).s k < 0
  | 0, _, k, hk => by omega
  | n + 1, h, k, hk => by
    rw [gdB, Bool.and_eq_true, Bool.and_eq_true, decide_eq_true_iff] at h
    by_cases e : k = n
    · subst e; exact h.2
    · exact gdB_el h.1 k (by omega)
theorem el_out {α : Type} [Inhabited α] {xs : List α} {k : Nat} (h : xs.length ≤ k) : el xs k = default := by
  simp [el, List.getElem?_eq_none h]
theorem owOK_bd {x : Ow} (h : owOK x = true) : (1 ≤ x.n ∧ x.n ≤ 1000) ∧ 1 ≤ x.d ∧ x.d ≤ 1000 := by
  simp only [owOK, Bool.and_eq_true, inB_iff] at h
  exact h.2.1
theorem gdB_bd {xs : List Ow} (h : gdB xs xs.length = true) : OwBd xs := fun k => by
  by_cases hk : k < xs.length
  · exact owOK_bd (gdB_el h k hk).1
  · rw [el_out (by omega)]; exact ⟨⟨by decide, by decide⟩, by decide, by decide⟩
theorem arB_no {xs : List Ow} {k : Nat} (hk : k < xs.length) (h : owOK (el xs k) = false) : arB xs = false := by
  have : gdB xs (k + 1) = false := by rw [gdB, h]; simp
  unfold arB; rw [gdB_no this (by omega)]; simp
theorem arB_twice {xs : List Ow} {k : Nat} (hk : k < xs.length) (h : 0 ≤ owAtN xs (el xs k).s k) : arB xs = false := by
  have : gdB xs (k + 1) = false := by rw [gdB, decide_eq_false (show ¬ owAtN xs (el xs k).s k < 0 by omega)]; simp
  unfold arB; rw [gdB_no this (by omega)]; simp
theorem owOK_word {x : Ow} (h : wdB x.s = false) : owOK x = false := by unfold owOK; rw [h]; rfl
theorem owOK_part {x : Ow} (h : (inB x.n 1 1000 && inB x.d 1 1000) = false) : owOK x = false := by unfold owOK; rw [h]; simp
theorem owOK_gcd {x : Ow} (h : Nat.gcd x.n.toNat x.d.toNat ≠ 1) : owOK x = false := by unfold owOK; rw [decide_eq_false h]; simp
theorem owOK_yes {x : Ow} (h1 : wdB x.s = true) (h2 : (inB x.n 1 1000 && inB x.d 1 1000) = true) (h3 : Nat.gcd x.n.toNat x.d.toNat = 1) : owOK x = true := by unfold owOK; rw [h1, h2, decide_eq_true h3]; rfl
set_option maxRecDepth 10000 in
set_option maxHeartbeats 16000000 in
theorem iAreOwners_any (A : Option Addr) (c : Nat) (xs : List Ow) (w : World) (h : Rd w w.heap.size A 3 Ow.enc xs) (hx : xs.length ≤ 1048576) (hc : xs.length ≤ c) (hz : OwSz 1048576 xs) :
    Calls Tryd.prog 18 #[.slice A xs.length c] w fun e w' => e = .returned (.bool (arB xs)) ∧ Below w.heap.size w w' := by
  have HX := Lib.hid h
  have HZ := Lib.hid hz
  clear h hz
  cases hlen : inB xs.length 1 8
  · have HA := Lib.hid (show arB xs = false by unfold arB; rw [hlen]; rfl)
    go_enter Tryd.func18, Tryd.ntmps18
    go_wp2_with (first | (go_at_call 60; refine (within_any _ _ _ _).mono ?_; rintro e wX ⟨rfl, rfl⟩))
    go_ret
    exact ⟨by rw [HA.out]; rfl, (by repeat' (first | (with_reducible exact Below.refl _ _) | (with_reducible refine Below.alloc ?_ ?_ _) | (with_reducible refine Below.setCell ?_ ?_ _) | (with_reducible refine Below.drew ?_) | (with_reducible refine Below.trans ?_ (Below.mono (by with_reducible assumption) ?_)) | omega | (simp; done) | (simp; omega)))⟩
  · have hl8 := hlen
    rw [inB_iff] at hl8
    have HL := Lib.hid hlen
    go_enter Tryd.func18, Tryd.ntmps18
    go_wp2
    clear hlen
    go_loopw [11] (fun i wr => ∃ k : Nat, k ≤ xs.length ∧ i = .int .i64 k ∧ Hid (gdB xs k = true) ∧ Below w.heap.size w wr) (fun i _ => xs.length - (intOf i).toNat)
    case atStart => exact ⟨0, Nat.zero_le _, rfl, Lib.hid rfl, Below.refl _ _⟩
    case round =>
      obtain ⟨k, hk, rfl, Hg, hb⟩ := hrel
      have hs := hb.size
      by_cases hlt : k < xs.length
      · obtain ⟨b, o, rfl, hB, c0, c1, c2⟩ := ow_cells (HX.out.below hb) hlt
        have hB1 : b < wr.heap.size := by omega
        have hI : (k : Int) < xs.length := by omega
        have hI0 : (0 : Int) ≤ k := by omega
        go_upto_region 6 with (fail)
        refine cut_world (fun W => Row W wr.heap.size 54 [.string (el xs k).s, .int .i64 (el xs k).n, .int .i64 (el xs k).d] ∧ Below wr.heap.size wr W) ⟨by first | exact Row.new _ _ _ | exact (Row.new _ _ _).to (by repeat' (first | (with_reducible exact Below.refl _ _) | (with_reducible refine Below.alloc ?_ ?_ _) | (with_reducible refine Below.setCell ?_ ?_ _) | (with_reducible refine Below.drew ?_) | (with_reducible refine Below.trans ?_ (Below.mono (by with_reducible assumption) ?_)) | omega | (simp; done) | (simp; omega))), (by repeat' (first | (with_reducible exact Below.refl _ _) | (with_reducible refine Below.alloc ?_ ?_ _) | (with_reducible refine Below.setCell ?_ ?_ _) | (with_reducible refine Below.drew ?_) | (with_reducible refine Below.trans ?_ (Below.mono (by with_reducible assumption) ?_)) | omega | (simp; done) | (simp; omega)))⟩ ?_
        clear c0 c1 c2
        rintro w2 ⟨hbx, hb2⟩
        obtain ⟨x0, x1, x2⟩ := row3o hbx
        have hbl := hbx.lt
        have hs2 := hb2.size
        have hbw := hb.trans (hb2.mono hs)
        have HT : Hid (Rd w2 w2.heap.size (some ⟨b, o, none⟩) 3 Ow.enc (xs.take k)) := Lib.hid (rd_take (HX.out.to hbw) (by omega))
        have hzk := HZ.out k hlt
        have hkc : k ≤ c := by omega
        have hkl : (xs.take k).length = k := by rw [List.length_take]; omega
        have HOT := Lib.hid (owAtN_take (s := (el xs k).s) (xs := xs) (i := k) (by omega) (k := k) (Nat.le_refl _))
        clear hbx
        cases h1 : wdB (el xs k).s
        · have HA := Lib.hid (arB_no hlt (owOK_word h1))
          have hcw := fun W => isWord_any (el xs k).s W (by omega)
          rw [h1] at hcw
          have HW := Lib.hid hcw
          clear hcw h1
          go_wp2_with (first | (go_at_call 60; refine (within_any _ _ _ _).mono ?_; rintro e wX ⟨rfl, rfl⟩))
          refine wp_region_quiet_below (by kernel_rfl) (by kernel_rfl) ?_
          repeat (go_big_quiet_step ((first | (go_at_call 61; exact Calls.regrown_of (HW.out _)))))
          (refine wpQuiet_nil ?_; intro w1 hwq; have hb1 := of_cls hwq; clear hwq)
          (have hs1 := hb1.size; (try simp at hs1); obtain ⟨hc1, hf1, hn1⟩ := bcell hb1; (try have hz1_w_0 : w.heap.size < w1.heap.size := by omega); (try have hz1_w_1 : w.heap.size + 1 < w1.heap.size := by omega); (try have hz1_w_2 : w.heap.size + 2 < w1.heap.size := by omega); (try have hz1_w_2b : w.heap.size + 1 + 1 < w1.heap.size := by omega))
          go_wp2_with (first | (go_at_call 60; refine (within_any _ _ _ _).mono ?_; rintro e wX ⟨rfl, rfl⟩))
          go_ret
          exact ⟨by rw [HA.out]; rfl, (by repeat' (first | (with_reducible exact Below.refl _ _) | (with_reducible refine Below.alloc ?_ ?_ _) | (with_reducible refine Below.setCell ?_ ?_ _) | (with_reducible refine Below.drew ?_) | (with_reducible refine Below.trans ?_ (Below.mono (by with_reducible assumption) ?_)) | omega | (simp; done) | (simp; omega)))⟩
        · have hcw := fun W => isWord_any (el xs k).s W (by omega)
          rw [h1] at hcw
          have HW := Lib.hid hcw
          have H1 := Lib.hid h1
          clear hcw h1
          cases h2 : (inB (el xs k).n 1 1000 && inB (el xs k).d 1 1000)
          · have HA := Lib.hid (arB_no hlt (owOK_part h2))
            have hcp := fun W => isPart_any (el xs k).n (el xs k).d W
            rw [h2] at hcp
            have HP := Lib.hid hcp
            clear hcp h2
            go_wp2_with (first | (go_at_call 60; refine (within_any _ _ _ _).mono ?_; rintro e wX ⟨rfl, rfl⟩))
            refine wp_region_quiet_below (by kernel_rfl) (by kernel_rfl) ?_
            repeat (go_big_quiet_step ((first | (go_at_call 61; exact Calls.regrown_of (HW.out _)) | (go_at_call 62; exact Calls.regrown_of (same_below (HP.out _))))))
            (refine wpQuiet_nil ?_; intro w2 hwq; have hb2 := of_cls hwq; clear hwq)
            (have hs2 := hb2.size; (try simp at hs2); obtain ⟨hc2, hf2, hn2⟩ := bcell hb2; (try have hz2_w_0 : w.heap.size < w2.heap.size := by omega); (try have hz2_w_1 : w.heap.size + 1 < w2.heap.size := by omega); (try have hz2_w_2 : w.heap.size + 2 < w2.heap.size := by omega); (try have hz2_w_2b : w.heap.size + 1 + 1 < w2.heap.size := by omega); (try have hz2_w1_0 : w1.heap.size < w2.heap.size := by omega); (try have hz2_w1_1 : w1.heap.size + 1 < w2.heap.size := by omega); (try have hz2_w1_2 : w1.heap.size + 2 < w2.heap.size := by omega); (try have hz2_w1_2b : w1.heap.size + 1 + 1 < w2.heap.size := by omega))
            go_wp2_with (first | (go_at_call 60; refine (within_any _ _ _ _).mono ?_; rintro e wX ⟨rfl, rfl⟩))
            go_ret
            exact ⟨by rw [HA.out]; rfl, (by repeat' (first | (with_reducible exact Below.refl _ _) | (with_reducible refine Below.alloc ?_ ?_ _) | (with_reducible refine Below.setCell ?_ ?_ _) | (with_reducible refine Below.drew ?_) | (with_reducible refine Below.trans ?_ (Below.mono (by with_reducible assumption) ?_)) | omega | (simp; done) | (simp; omega)))⟩
          · have hcp := fun W => isPart_any (el xs k).n (el xs k).d W
            rw [h2] at hcp
            have HP := Lib.hid hcp
            have H2 := Lib.hid h2
            rw [Bool.and_eq_true, inB_iff, inB_iff] at h2
            obtain ⟨p, hp⟩ : ∃ p : Nat, (el xs k).n = p := ⟨(el xs k).n.toNat, by omega⟩
            obtain ⟨q, hq⟩ : ∃ q : Nat, (el xs k).d = q := ⟨(el xs k).d.toNat, by omega⟩
            have hcg := fun W => gcd_any p q W (by omega) (by omega)
            obtain ⟨r, hr⟩ : ∃ r, Nat.gcd p q = r := ⟨_, rfl⟩
            rw [hr] at hcg
            have HG := Lib.hid hcg
            have hrr : Nat.gcd (el xs k).n.toNat (el xs k).d.toNat = r := by rw [hp, hq]; exact hr
            have HRR := Lib.hid hrr
            rw [hp] at x1
            rw [hq] at x2
            have HP2 : Hid (∀ W, Calls Tryd.prog 62 #[.int .i64 p, .int .i64 q] W fun e w' => e = .returned (.bool true) ∧ W = w') := Lib.hid (by intro W; rw [← hp, ← hq]; exact HP.out W)
            clear hcp h2 hcg hr hrr HP hp hq
            by_cases h3 : r = 1
            · subst h3
              have hco := fun W (hW : Below w2.heap.size w2 W) => ownerAt_any (some ⟨b, o, none⟩) c k (xs.take k) (el xs k).s W (HT.out.to hW) (by omega) hkl
              rw [HOT.out] at hco
              by_cases h4 : 0 ≤ owAtN xs (el xs k).s k
              · have HA := Lib.hid (arB_twice hlt h4)
                obtain ⟨z, hz⟩ : ∃ z, owAtN xs (el xs k).s k = z := ⟨_, rfl⟩
                rw [hz] at hco h4
                have HO := Lib.hid hco
                clear hco hz
                go_wp2_with (first | (go_at_call 60; refine (within_any _ _ _ _).mono ?_; rintro e wX ⟨rfl, rfl⟩))
                refine wp_region_quiet_below (by kernel_rfl) (by kernel_rfl) ?_
                repeat (go_big_quiet_step ((first | (go_at_call 61; exact Calls.regrown_of (HW.out _)) | (go_at_call 62; exact Calls.regrown_of (same_below (HP2.out _))) | (go_at_call 63; exact Calls.regrown_of (HG.out _)) | (go_at_call 64; exact Calls.regrown_of (HO.out _ (below_regrown _ _ _))))))
                (refine wpQuiet_nil ?_; intro w3 hwq; have hb3 := of_cls hwq; clear hwq)
                (have hs3 := hb3.size; (try simp at hs3); obtain ⟨hc3, hf3, hn3⟩ := bcell hb3; (try have hz3_w_0 : w.heap.size < w3.heap.size := by omega); (try have hz3_w_1 : w.heap.size + 1 < w3.heap.size := by omega); (try have hz3_w_2 : w.heap.size + 2 < w3.heap.size := by omega); (try have hz3_w_2b : w.heap.size + 1 + 1 < w3.heap.size := by omega); (try have hz3_w1_0 : w1.heap.size < w3.heap.size := by omega); (try have hz3_w1_1 : w1.heap.size + 1 < w3.heap.size := by omega); (try have hz3_w1_2 : w1.heap.size + 2 < w3.heap.size := by omega); (try have hz3_w1_2b : w1.heap.size + 1 + 1 < w3.heap.size := by omega); (try have hz3_w2_0 : w2.heap.size < w3.heap.size := by omega); (try have hz3_w2_1 : w2.heap.size + 1 < w3.heap.size := by omega); (try have hz3_w2_2 : w2.heap.size + 2 < w3.heap.size := by omega); (try have hz3_w2_2b : w2.heap.size + 1 + 1 < w3.heap.size := by omega))
                go_wp2_with (first | (go_at_call 60; refine (within_any _ _ _ _).mono ?_; rintro e wX ⟨rfl, rfl⟩))
                go_ret
                exact ⟨by rw [HA.out]; rfl, (by repeat' (first | (with_reducible exact Below.refl _ _) | (with_reducible refine Below.alloc ?_ ?_ _) | (with_reducible refine Below.setCell ?_ ?_ _) | (with_reducible refine Below.drew ?_) | (with_reducible refine Below.trans ?_ (Below.mono (by with_reducible assumption) ?_)) | omega | (simp; done) | (simp; omega)))⟩
              · have HN := Lib.hid (show gdB xs (k + 1) = true by rw [gdB, Hg.out, owOK_yes H1.out H2.out HRR.out, decide_eq_true (by omega)]; rfl)
                obtain ⟨z, hz⟩ : ∃ z, owAtN xs (el xs k).s k = z := ⟨_, rfl⟩
                rw [hz] at hco h4
                have HO := Lib.hid hco
                clear hco hz
                go_wp2_with (first | (go_at_call 60; refine (within_any _ _ _ _).mono ?_; rintro e wX ⟨rfl, rfl⟩))
                refine wp_region_quiet_below (by kernel_rfl) (by kernel_rfl) ?_
                repeat (go_big_quiet_step ((first | (go_at_call 61; exact Calls.regrown_of (HW.out _)) | (go_at_call 62; exact Calls.regrown_of (same_below (HP2.out _))) | (go_at_call 63; exact Calls.regrown_of (HG.out _)) | (go_at_call 64; exact Calls.regrown_of (HO.out _ (below_regrown _ _ _))))))
                (refine wpQuiet_nil ?_; intro w4 hwq; have hb4 := of_cls hwq; clear hwq)
                (have hs4 := hb4.size; (try simp at hs4); obtain ⟨hc4, hf4, hn4⟩ := bcell hb4; (try have hz4_w_0 : w.heap.size < w4.heap.size := by omega); (try have hz4_w_1 : w.heap.size + 1 < w4.heap.size := by omega); (try have hz4_w_2 : w.heap.size + 2 < w4.heap.size := by omega); (try have hz4_w_2b : w.heap.size + 1 + 1 < w4.heap.size := by omega); (try have hz4_w1_0 : w1.heap.size < w4.heap.size := by omega); (try have hz4_w1_1 : w1.heap.size + 1 < w4.heap.size := by omega); (try have hz4_w1_2 : w1.heap.size + 2 < w4.heap.size := by omega); (try have hz4_w1_2b : w1.heap.size + 1 + 1 < w4.heap.size := by omega); (try have hz4_w2_0 : w2.heap.size < w4.heap.size := by omega); (try have hz4_w2_1 : w2.heap.size + 1 < w4.heap.size := by omega); (try have hz4_w2_2 : w2.heap.size + 2 < w4.heap.size := by omega); (try have hz4_w2_2b : w2.heap.size + 1 + 1 < w4.heap.size := by omega); (try have hz4_w3_0 : w3.heap.size < w4.heap.size := by omega); (try have hz4_w3_1 : w3.heap.size + 1 < w4.heap.size := by omega); (try have hz4_w3_2 : w3.heap.size + 2 < w4.heap.size := by omega); (try have hz4_w3_2b : w3.heap.size + 1 + 1 < w4.heap.size := by omega))
                go_wp2_with (first | (go_at_call 60; refine (within_any _ _ _ _).mono ?_; rintro e wX ⟨rfl, rfl⟩))
                have hbf : Below w.heap.size w w4 := (by repeat' (first | (with_reducible exact Below.refl _ _) | (with_reducible refine Below.alloc ?_ ?_ _) | (with_reducible refine Below.setCell ?_ ?_ _) | (with_reducible refine Below.drew ?_) | (with_reducible refine Below.trans ?_ (Below.mono (by with_reducible assumption) ?_)) | omega | (simp; done) | (simp; omega)))
                refine ⟨?_, ?measure⟩
                (repeat apply Exists.intro)
                refine ⟨?rel, rfl⟩
                case rel => exact ⟨k + 1, by omega, by go_num, HN, hbf⟩
                case measure => simp [intOf]; omega
            · have HA := Lib.hid (arB_no hlt (owOK_gcd (by rw [HRR.out]; exact h3)))
              have h3' : ¬ (r : Int) = 1 := by omega
              have h3e : ((r : Int) == 1) = false := by simpa using h3'
              have h3n : ((r : Int) != 1) = true := by simpa using h3'
              clear h3
              go_wp2_with (first | (go_at_call 60; refine (within_any _ _ _ _).mono ?_; rintro e wX ⟨rfl, rfl⟩))
              refine wp_region_quiet_below (by kernel_rfl) (by kernel_rfl) ?_
              repeat (go_big_quiet_step ((first | (go_at_call 61; exact Calls.regrown_of (HW.out _)) | (go_at_call 62; exact Calls.regrown_of (same_below (HP2.out _))) | (go_at_call 63; exact Calls.regrown_of (HG.out _)))))
              (refine wpQuiet_nil ?_; intro w5 hwq; have hb5 := of_cls hwq; clear hwq)
              (have hs5 := hb5.size; (try simp at hs5); obtain ⟨hc5, hf5, hn5⟩ := bcell hb5; (try have hz5_w_0 : w.heap.size < w5.heap.size := by omega); (try have hz5_w_1 : w.heap.size + 1 < w5.heap.size := by omega); (try have hz5_w_2 : w.heap.size + 2 < w5.heap.size := by omega); (try have hz5_w_2b : w.heap.size + 1 + 1 < w5.heap.size := by omega); (try have hz5_w1_0 : w1.heap.size < w5.heap.size := by omega); (try have hz5_w1_1 : w1.heap.size + 1 < w5.heap.size := by omega); (try have hz5_w1_2 : w1.heap.size + 2 < w5.heap.size := by omega); (try have hz5_w1_2b : w1.heap.size + 1 + 1 < w5.heap.size := by omega); (try have hz5_w2_0 : w2.heap.size < w5.heap.size := by omega); (try have hz5_w2_1 : w2.heap.size + 1 < w5.heap.size := by omega); (try have hz5_w2_2 : w2.heap.size + 2 < w5.heap.size := by omega); (try have hz5_w2_2b : w2.heap.size + 1 + 1 < w5.heap.size := by omega); (try have hz5_w3_0 : w3.heap.size < w5.heap.size := by omega); (try have hz5_w3_1 : w3.heap.size + 1 < w5.heap.size := by omega); (try have hz5_w3_2 : w3.heap.size + 2 < w5.heap.size := by omega); (try have hz5_w3_2b : w3.heap.size + 1 + 1 < w5.heap.size := by omega); (try have hz5_w4_0 : w4.heap.size < w5.heap.size := by omega); (try have hz5_w4_1 : w4.heap.size + 1 < w5.heap.size := by omega); (try have hz5_w4_2 : w4.heap.size + 2 < w5.heap.size := by omega); (try have hz5_w4_2b : w4.heap.size + 1 + 1 < w5.heap.size := by omega))
              go_wp2_with (first | (go_at_call 60; refine (within_any _ _ _ _).mono ?_; rintro e wX ⟨rfl, rfl⟩))
              go_ret
              exact ⟨by rw [HA.out]; rfl, (by repeat' (first | (with_reducible exact Below.refl _ _) | (with_reducible refine Below.alloc ?_ ?_ _) | (with_reducible refine Below.setCell ?_ ?_ _) | (with_reducible refine Below.drew ?_) | (with_reducible refine Below.trans ?_ (Below.mono (by with_reducible assumption) ?_)) | omega | (simp; done) | (simp; omega)))⟩
      · obtain rfl : k = xs.length := by omega
        have hI : ¬ ((xs.length : Nat) : Int) < xs.length := by omega
        go_wp2_with fail
        refine (cmpAll_any A c xs _ (HX.out.to hb) (by omega) (gdB_bd Hg.out) allP (fun _ => rfl)).mono ?_
        rintro e w1 ⟨rfl, hb1⟩
        have hs1 := hb1.size
        by_cases hq : sP allP (nuO xs) (deO xs) xs.length = dP (deO xs) xs.length
        · have hsg : sgn (1 * sP allP (nuO xs) (deO xs) xs.length - dP (deO xs) xs.length) = 0 := by rw [hq]; simp [sgn]
          have HA := Lib.hid (show arB xs = true by unfold arB; rw [HL.out, Hg.out, decide_eq_true hq]; rfl)
          rw [hsg]
          clear hsg hq
          go_wp2
          go_ret
          exact ⟨by rw [HA.out]; rfl, (by repeat' (first | (with_reducible exact Below.refl _ _) | (with_reducible refine Below.alloc ?_ ?_ _) | (with_reducible refine Below.setCell ?_ ?_ _) | (with_reducible refine Below.drew ?_) | (with_reducible refine Below.trans ?_ (Below.mono (by with_reducible assumption) ?_)) | omega | (simp; done) | (simp; omega)))⟩
        · have hsg : sgn (1 * sP allP (nuO xs) (deO xs) xs.length - dP (deO xs) xs.length) ≠ 0 := by
            unfold sgn; split
            · omega
            · split <;> omega
          have HA := Lib.hid (show arB xs = false by unfold arB; rw [decide_eq_false hq]; simp)
          obtain ⟨z, hz⟩ : ∃ z, sgn (1 * sP allP (nuO xs) (deO xs) xs.length - dP (deO xs) xs.length) = z := ⟨_, rfl⟩
          rw [hz] at hsg ⊢
          have hzb : (z == 0) = false := by simpa using hsg
          clear hz hq
          go_wp2
          go_ret
          exact ⟨by rw [HA.out]; rfl, (by repeat' (first | (with_reducible exact Below.refl _ _) | (with_reducible refine Below.alloc ?_ ?_ _) | (with_reducible refine Below.setCell ?_ ?_ _) | (with_reducible refine Below.drew ?_) | (with_reducible refine Below.trans ?_ (Below.mono (by with_reducible assumption) ?_)) | omega | (simp; done) | (simp; omega)))⟩
end Go.Proofs.YtimdnihadhbjpaaDoor
