/- Contracts of a pass, of the program (chapter 8). -/
import Derived.Test.YtocaodoagiokjaaPassList
set_option linter.unusedSimpArgs false
set_option linter.unusedVariables false
namespace Go.Proofs.Ytocaodoagiokjaa
open Go.RowKit Go.Sort Go.Salt
attribute [local go_sem] cell_rg
attribute [local go_sem ↓] run_max_mx run_min_mn
def panA (xs : List Bsn) (n a : Int) (j : Nat) : Int := if j = xs.length then a else a + pA xs n (xs.length - 1)
def panS (xs : List Bsn) (n s : Int) (j : Nat) : Int := if j = xs.length then s else s + pS xs n (xs.length - 1)
theorem cut_world {α : Type} {G : α → World → Prop} {a : α} {W : World} (R : World → Prop) (h1 : R W) (h2 : ∀ W, R W → G a W) : G a W := h2 W h1
theorem hne_of {a b : Nat} (h : a ≠ b) : b ≠ a := fun e => h e.symm
set_option maxRecDepth 100000 in
set_option maxHeartbeats 4000000 in
theorem pass_any (ad : Addr) (c : Nat) (xs : List Bsn) (a s n : Int) (w : World) (h : Rd w w.heap.size (some ad) 3 Bsn.enc xs) (hx : xs.length ≤ 8) (hx0 : 1 ≤ xs.length) (hv : Hid (∀ k, k < xs.length → bsnOK (el xs k).r (el xs k).a (el xs k).s = true)) (h1 : 0 ≤ a) (h2 : a ≤ 1000000) (h3 : 0 ≤ s) (h4 : s ≤ 1000000) (h5 : 1 ≤ n) :
    Calls Try.prog 50 #[.slice (some ad) xs.length c, .agg #[.int .i64 a, .int .i64 s], .int .i64 n] w fun e w' => MadeAt w 62 ((psL xs n 0).flatMap Bsn.enc) xs.length (fun v => .returned (.tuple #[v, .agg #[.int .i64 (panA xs n a 0), .int .i64 (panS xs n s 0)]])) e w' := by
  go_enter Try.func50, Try.ntmps50
  go_wp2_with fail
  (go_at_call 44; refine (cloneBsn_own ad c xs _ (h.to (by repeat' (first | (with_reducible exact Below.refl _ _) | (with_reducible refine Below.alloc ?_ ?_ _) | (with_reducible refine Below.setCell ?_ ?_ _) | (with_reducible refine Below.drew ?_) | (with_reducible refine Below.trans ?_ (Below.mono (by with_reducible assumption) ?_)) | omega | (simp; done) | (simp; omega)))) (by omega)).mono ?_; rintro e w1 ⟨v1, rfl, own1, hb1⟩)
  (have hs1 := hb1.size; (try simp at hs1); obtain ⟨hc1, hf1, hn1⟩ := bcell hb1; (try have hz1_w_0 : w.heap.size < w1.heap.size := by omega); (try have hz1_w_1 : w.heap.size + 1 < w1.heap.size := by omega); (try have hz1_w_2 : w.heap.size + 2 < w1.heap.size := by omega); (try have hz1_w_2b : w.heap.size + 1 + 1 < w1.heap.size := by omega))
  obtain ⟨g1, cap1, rfl, hg1, hlt1⟩ := own1.form (by omega)
  simp at hg1
  have row1 := (Row.of_own own1).1
  clear own1
  have hb0 : Below w.heap.size w w1 := (by repeat' (first | (with_reducible exact Below.refl _ _) | (with_reducible refine Below.alloc ?_ ?_ _) | (with_reducible refine Below.setCell ?_ ?_ _) | (with_reducible refine Below.drew ?_) | (with_reducible refine Below.trans ?_ (Below.mono (by with_reducible assumption) ?_)) | omega | (simp; done) | (simp; omega)))
  have hr0 : Row w1 w.heap.size 25 [.int .i64 a, .int .i64 s] := ((Row.new w 25 #[.int .i64 a, .int .i64 s]).alloc _).to hb1
  have hr1 : Row w1 (w.heap.size + 1) 25 [.int .i64 0, .int .i64 0] := by
    have := (Row.new (w.alloc (.cells #[.int .i64 a, .int .i64 s] 25)) 25 #[.int .i64 0, .int .i64 0]).to hb1
    rw [World.size_alloc] at this
    exact this
  have hI00 : (0 : Int) ≤ (xs.length : Int) - 1 := by omega
  go_wp2_with fail
  clear hc1 hf1 hn1 hb1
  go_loopw [9] (fun i wr => ∃ j : Nat, j ≤ xs.length ∧ i = .int .i64 ((j : Int) - 1) ∧ Below w.heap.size w wr ∧ Row wr w.heap.size 25 [.int .i64 (panA xs n a j), .int .i64 (panS xs n s j)] ∧ Row wr (w.heap.size + 1) 25 [.int .i64 0, .int .i64 0] ∧ Row wr g1 62 ((psL xs n j).flatMap Bsn.enc)) (fun i _ => (intOf i + 1).toNat)
  case atStart => exact ⟨xs.length, Nat.le_refl _, rfl, hb0, by simpa [panA, panS] using hr0, hr1, by rw [psL_top]; exact row1⟩
  case round =>
    clear hr0 hr1 hb0 row1
    obtain ⟨j, hj, rfl, hb, hr0, hr1, hrow⟩ := hrel
    have hs := hb.size
    have hz0 := hr0.lt
    have hz1 := hr1.lt
    have hz2 := hrow.lt
    by_cases hj0 : j = 0
    · subst hj0
      have HRow := Lib.hid hrow
      clear hrow
      obtain ⟨p0, p1, pf⟩ := hr0.two
      obtain ⟨t0, t1, tf⟩ := hr1.two
      have HR0 := Lib.hid hr0
      have HR1 := Lib.hid hr1
      clear hr0 hr1
      go_wp2_with fail
      refine wp_region_below_tail 3 (by kernel_rfl) (by kernel_rfl) ?_
      simp only [List.take_succ_cons, List.take_zero, List.drop_succ_cons, List.drop_zero]
      repeat (go_big_quiet_step (fail))
      (refine wpQuiet_nil ?_; intro w1 hwq; have hb1 := of_cls hwq; clear hwq)
      (have hs1 := hb1.size; (try simp at hs1); obtain ⟨hc1, hf1, hn1⟩ := bcell hb1; (try have hz1_wr_0 : wr.heap.size < w1.heap.size := by omega); (try have hz1_wr_1 : wr.heap.size + 1 < w1.heap.size := by omega); (try have hz1_wr_2 : wr.heap.size + 2 < w1.heap.size := by omega); (try have hB1 : b < w1.heap.size := by omega); (try have hB2 : b' < w1.heap.size := by omega); (try have hz1_wr_2b : wr.heap.size + 1 + 1 < w1.heap.size := by omega); (try have hz1_w_0 : w.heap.size < w1.heap.size := by omega); (try have hz1_w_1 : w.heap.size + 1 < w1.heap.size := by omega); (try have hz1_w_2 : w.heap.size + 2 < w1.heap.size := by omega); (try have hz1_w_2b : w.heap.size + 1 + 1 < w1.heap.size := by omega))
      go_wp2_with fail
      ((try simp only [Exit.inBlock, Exit.then]); refine bodyPost_ret (by simp [results, Try.results50, go_sem, *]; try rfl) rfl ?_)
      exact ⟨_, cap1, rfl, OwnAt.row (by omega) (((HRow.out.to hb1).far (p := ⟨w.heap.size + 1, 0, none⟩) (show g1 ≠ w.heap.size + 1 by omega) _).far (p := ⟨w.heap.size + 1, 1, none⟩) (show g1 ≠ w.heap.size + 1 by omega) _), (by repeat' (first | (with_reducible exact Below.refl _ _) | (with_reducible refine Below.alloc ?_ ?_ _) | (with_reducible refine Below.setCell ?_ ?_ _) | (with_reducible refine Below.drew ?_) | (with_reducible refine Below.trans ?_ (Below.mono (by with_reducible assumption) ?_)) | omega | (simp; done) | (simp; omega)))⟩
    · obtain ⟨k, rfl⟩ : ∃ k, j = k + 1 := ⟨j - 1, by omega⟩
      obtain ⟨b', o', eA, -, d0, d1, d2⟩ := bsn_cells (hrow.rd Bsn.enc_len hz2) (show k < (psL xs n (k + 1)).length by rw [psL_len]; omega)
      obtain ⟨rfl, rfl⟩ : g1 = b' ∧ 0 = o' := by simpa using eA
      clear eA
      rw [el_psL (by omega), psAt_lo (by omega)] at d0 d1 d2
      have hI : (k : Int) < xs.length := by omega
      have hI0 : (0 : Int) ≤ k := by omega
      simp only [Nat.zero_add] at d0 d1 d2
      have hki : ((k + 1 : Nat) : Int) - 1 = k := by omega
      rw [hki]
      have HR0 := Lib.hid hr0
      have HR1 := Lib.hid hr1
      have HR := Lib.hid hrow
      clear hr0 hr1 hrow hki
      go_wp2_with fail
      have hmb := mn_bd h5 (bsnOK_bd (hv.out k (by omega))).2.1.1 (bsnOK_bd (hv.out k (by omega))).2.2.1
      have hxk := bsnOK_bd (hv.out k (by omega))
      have HS := And.intro d1 d2
      go_region_held3 (fun w' => w'.cell? ⟨g1, k * 3 + 1, none⟩ = some (.int .i64 (el xs k).a) ∧ w'.cell? ⟨g1, k * 3 + 2, none⟩ = some (.int .i64 (el xs k).s)) (first | (exact ⟨((show Below wr.heap.size wr _ from (by repeat' (first | (with_reducible exact Below.refl _ _) | (with_reducible refine Below.alloc ?_ ?_ _) | (with_reducible refine Below.setCell ?_ ?_ _) | (with_reducible refine Below.drew ?_) | (with_reducible refine Below.trans ?_ (Below.mono (by with_reducible assumption) ?_)) | omega | (simp; done) | (simp; omega)))).cell (p := ⟨g1, k * 3 + 1, none⟩) hz2).trans d1, ((show Below wr.heap.size wr _ from (by repeat' (first | (with_reducible exact Below.refl _ _) | (with_reducible refine Below.alloc ?_ ?_ _) | (with_reducible refine Below.setCell ?_ ?_ _) | (with_reducible refine Below.drew ?_) | (with_reducible refine Below.trans ?_ (Below.mono (by with_reducible assumption) ?_)) | omega | (simp; done) | (simp; omega)))).cell (p := ⟨g1, k * 3 + 2, none⟩) hz2).trans d2⟩) | go_keep) (first | (go_at_call 49; refine (mass_any _ _ _ (by omega) (by omega) (by omega) (by omega)).mono ?_; rintro e w1 ⟨rfl, hb1⟩; have hs1 := hb1.size; (try simp at hs1); obtain ⟨hc1, hf1, hn1⟩ := bcell hb1; (try have hz1_wr_0 : wr.heap.size < w1.heap.size := by omega); (try have hz1_wr_1 : wr.heap.size + 1 < w1.heap.size := by omega); (try have hz1_wr_2 : wr.heap.size + 2 < w1.heap.size := by omega); (try have hB1 : b < w1.heap.size := by omega); (try have hB2 : b' < w1.heap.size := by omega); (try have hz1_wr_2b : wr.heap.size + 1 + 1 < w1.heap.size := by omega); (try have hz1_w_0 : w.heap.size < w1.heap.size := by omega); (try have hz1_w_1 : w.heap.size + 1 < w1.heap.size := by omega); (try have hz1_w_2 : w.heap.size + 2 < w1.heap.size := by omega); (try have hz1_w_2b : w.heap.size + 1 + 1 < w1.heap.size := by omega)) | (go_at_call 64; refine (part_any _ _ _ _ (by omega) (by omega) (by omega) (by omega) (by omega) (by omega)).mono ?_; rintro e w2 ⟨rfl, hb2⟩; have hs2 := hb2.size; (try simp at hs2); obtain ⟨hc2, hf2, hn2⟩ := bcell hb2; (try have hz2_wr_0 : wr.heap.size < w2.heap.size := by omega); (try have hz2_wr_1 : wr.heap.size + 1 < w2.heap.size := by omega); (try have hz2_wr_2 : wr.heap.size + 2 < w2.heap.size := by omega); (try have hB1 : b < w2.heap.size := by omega); (try have hB2 : b' < w2.heap.size := by omega); (try have hz2_wr_2b : wr.heap.size + 1 + 1 < w2.heap.size := by omega); (try have hz2_w_0 : w.heap.size < w2.heap.size := by omega); (try have hz2_w_1 : w.heap.size + 1 < w2.heap.size := by omega); (try have hz2_w_2 : w.heap.size + 2 < w2.heap.size := by omega); (try have hz2_w_2b : w.heap.size + 1 + 1 < w2.heap.size := by omega); (try have hz2_w1_0 : w1.heap.size < w2.heap.size := by omega); (try have hz2_w1_1 : w1.heap.size + 1 < w2.heap.size := by omega); (try have hz2_w1_2 : w1.heap.size + 2 < w2.heap.size := by omega); (try have hz2_w1_2b : w1.heap.size + 1 + 1 < w2.heap.size := by omega)))
      all_goals (first | (refine cut_world (fun W => Below wr.heap.size wr W ∧ wr.heap.size ≤ w2.heap.size ∧ Row W w2.heap.size 25 [.int .i64 (pA xs n k), .int .i64 (pS xs n k)]) ⟨(by repeat' (first | (with_reducible exact Below.refl _ _) | (with_reducible refine Below.alloc ?_ ?_ _) | (with_reducible refine Below.setCell ?_ ?_ _) | (with_reducible refine Below.drew ?_) | (with_reducible refine Below.trans ?_ (Below.mono (by with_reducible assumption) ?_)) | omega | (simp; done) | (simp; omega))), by omega, Row.new w2 _ #[.int .i64 (pA xs n k), .int .i64 (pS xs n k)]⟩ ?_; rintro W3 ⟨hbc, hB3, row3⟩; generalize hBe : w2.heap.size = B3 at row3 ⊢; have hB3 : wr.heap.size ≤ B3 := (by omega); clear hBe) | (refine cut_world (fun W => Below wr.heap.size wr W ∧ wr.heap.size ≤ w1.heap.size ∧ Row W w1.heap.size 25 [.int .i64 (pA xs n k), .int .i64 (pS xs n k)]) ⟨(by repeat' (first | (with_reducible exact Below.refl _ _) | (with_reducible refine Below.alloc ?_ ?_ _) | (with_reducible refine Below.setCell ?_ ?_ _) | (with_reducible refine Below.drew ?_) | (with_reducible refine Below.trans ?_ (Below.mono (by with_reducible assumption) ?_)) | omega | (simp; done) | (simp; omega))), by omega, (((Row.new w1 _ #[.int .i64 0, .int .i64 0]).to (show Below _ _ w2 from (by repeat' (first | (with_reducible exact Below.refl _ _) | (with_reducible refine Below.alloc ?_ ?_ _) | (with_reducible refine Below.setCell ?_ ?_ _) | (with_reducible refine Below.drew ?_) | (with_reducible refine Below.trans ?_ (Below.mono (by with_reducible assumption) ?_)) | omega | (simp; done) | (simp; omega))))).set (j := 0) (.int .i64 (pA xs n k))).set (j := 1) (.int .i64 (pS xs n k))⟩ ?_; rintro W3 ⟨hbc, hB3, row3⟩; generalize hBe : w1.heap.size = B3 at row3 ⊢; have hB3 : wr.heap.size ≤ B3 := (by omega); clear hBe) | (refine cut_world (fun W => Below wr.heap.size wr W ∧ wr.heap.size ≤ wr.heap.size ∧ Row W wr.heap.size 25 [.int .i64 (pA xs n k), .int .i64 (pS xs n k)]) ⟨(by repeat' (first | (with_reducible exact Below.refl _ _) | (with_reducible refine Below.alloc ?_ ?_ _) | (with_reducible refine Below.setCell ?_ ?_ _) | (with_reducible refine Below.drew ?_) | (with_reducible refine Below.trans ?_ (Below.mono (by with_reducible assumption) ?_)) | omega | (simp; done) | (simp; omega))), by omega, (((Row.new wr _ #[.int .i64 0, .int .i64 0]).to (show Below _ _ w2 from (by repeat' (first | (with_reducible exact Below.refl _ _) | (with_reducible refine Below.alloc ?_ ?_ _) | (with_reducible refine Below.setCell ?_ ?_ _) | (with_reducible refine Below.drew ?_) | (with_reducible refine Below.trans ?_ (Below.mono (by with_reducible assumption) ?_)) | omega | (simp; done) | (simp; omega))))).set (j := 0) (.int .i64 (pA xs n k))).set (j := 1) (.int .i64 (pS xs n k))⟩ ?_; rintro W3 ⟨hbc, hB3, row3⟩; generalize hBe : wr.heap.size = B3 at row3 ⊢; have hB3 : wr.heap.size ≤ B3 := (by omega); clear hBe))
      all_goals
        have hpb := p_bd (hv.out k (by omega)) h5
        have hsc := hbc.size
        have hz3 := row3.lt
        obtain ⟨e0, e1, fe⟩ := row3.two
        have D1 := (hbc.cell (p := ⟨g1, k * 3 + 1, none⟩) hz2).trans d1
        have D2 := (hbc.cell (p := ⟨g1, k * 3 + 2, none⟩) hz2).trans d2
        have R2 := HR.out.to hbc
        have F2 := R2.frozen
        have hg3 : g1 < W3.heap.size := by omega
        have hne3 : B3 ≠ g1 := by omega
        obtain ⟨q0, q1, fq⟩ := (HR0.out.to hbc).two
        have hzw : w.heap.size < W3.heap.size := by omega
        have hne4 : g1 ≠ w.heap.size := by omega
        have hne5 : B3 ≠ w.heap.size := by omega
        have HR2 := Lib.hid R2
        clear R2 d0 d1 d2
        by_cases hk : k + 1 = xs.length
        · have hkc : ((k : Int) == (xs.length : Int) - 1) = true := by simp; omega
          go_wp2_with fail
          refine wp_region_below_tail 9 (by kernel_rfl) (by kernel_rfl) ?_
          simp only [List.take_succ_cons, List.take_zero, List.drop_succ_cons, List.drop_zero]
          repeat (go_big_quiet_step ((go_at_call 65; exact Calls.regrown_of (minus_any _ _ _ _ _ (by omega) (by omega) (by omega) (by omega) (by omega) (by omega) (by omega) (by omega)))))
          (refine wpQuiet_nil ?_; intro w3 hwq; have hb3 := of_cls hwq; clear hwq)
          (have hs3 := hb3.size; (try simp at hs3); obtain ⟨hc3, hf3, hn3⟩ := bcell hb3; (try have hz3_wr_0 : wr.heap.size < w3.heap.size := by omega); (try have hz3_wr_1 : wr.heap.size + 1 < w3.heap.size := by omega); (try have hz3_wr_2 : wr.heap.size + 2 < w3.heap.size := by omega); (try have hB1 : b < w3.heap.size := by omega); (try have hB2 : b' < w3.heap.size := by omega); (try have hz3_wr_2b : wr.heap.size + 1 + 1 < w3.heap.size := by omega); (try have hz3_w_0 : w.heap.size < w3.heap.size := by omega); (try have hz3_w_1 : w.heap.size + 1 < w3.heap.size := by omega); (try have hz3_w_2 : w.heap.size + 2 < w3.heap.size := by omega); (try have hz3_w_2b : w.heap.size + 1 + 1 < w3.heap.size := by omega); (try have hz3_w1_0 : w1.heap.size < w3.heap.size := by omega); (try have hz3_w1_1 : w1.heap.size + 1 < w3.heap.size := by omega); (try have hz3_w1_2 : w1.heap.size + 2 < w3.heap.size := by omega); (try have hz3_w1_2b : w1.heap.size + 1 + 1 < w3.heap.size := by omega); (try have hz3_w2_0 : w2.heap.size < w3.heap.size := by omega); (try have hz3_w2_1 : w2.heap.size + 1 < w3.heap.size := by omega); (try have hz3_w2_2 : w2.heap.size + 2 < w3.heap.size := by omega); (try have hz3_w2_2b : w2.heap.size + 1 + 1 < w3.heap.size := by omega))
          have hp0 : panA xs n a (k + 1) = a := by rw [panA, if_pos hk]
          have hp1 : panS xs n s (k + 1) = s := by rw [panS, if_pos hk]
          rw [hp0] at q0
          rw [hp1] at q1
          go_wp2_with fail
          (go_at_call 39; refine (plus_any _ _ _ _ _ (by omega) (by omega) (by omega) (by omega) (by omega) (by omega) (by omega) (by omega)).mono ?_; rintro e w4 ⟨rfl, hb4⟩)
          (have hs4 := hb4.size; (try simp at hs4); obtain ⟨hc4, hf4, hn4⟩ := bcell hb4; (try have hz4_wr_0 : wr.heap.size < w4.heap.size := by omega); (try have hz4_wr_1 : wr.heap.size + 1 < w4.heap.size := by omega); (try have hz4_wr_2 : wr.heap.size + 2 < w4.heap.size := by omega); (try have hB1 : b < w4.heap.size := by omega); (try have hB2 : b' < w4.heap.size := by omega); (try have hz4_wr_2b : wr.heap.size + 1 + 1 < w4.heap.size := by omega); (try have hz4_w_0 : w.heap.size < w4.heap.size := by omega); (try have hz4_w_1 : w.heap.size + 1 < w4.heap.size := by omega); (try have hz4_w_2 : w.heap.size + 2 < w4.heap.size := by omega); (try have hz4_w_2b : w.heap.size + 1 + 1 < w4.heap.size := by omega); (try have hz4_w1_0 : w1.heap.size < w4.heap.size := by omega); (try have hz4_w1_1 : w1.heap.size + 1 < w4.heap.size := by omega); (try have hz4_w1_2 : w1.heap.size + 2 < w4.heap.size := by omega); (try have hz4_w1_2b : w1.heap.size + 1 + 1 < w4.heap.size := by omega); (try have hz4_w2_0 : w2.heap.size < w4.heap.size := by omega); (try have hz4_w2_1 : w2.heap.size + 1 < w4.heap.size := by omega); (try have hz4_w2_2 : w2.heap.size + 2 < w4.heap.size := by omega); (try have hz4_w2_2b : w2.heap.size + 1 + 1 < w4.heap.size := by omega); (try have hz4_w3_0 : w3.heap.size < w4.heap.size := by omega); (try have hz4_w3_1 : w3.heap.size + 1 < w4.heap.size := by omega); (try have hz4_w3_2 : w3.heap.size + 2 < w4.heap.size := by omega); (try have hz4_w3_2b : w3.heap.size + 1 + 1 < w4.heap.size := by omega))
          go_wp2_with fail
          have Rg := ((((HR2.out.to hb3).set (j := k * 3 + 1) (.int .i64 ((el xs k).a - pA xs n k))).set (j := k * 3 + 2) (.int .i64 ((el xs k).s - pS xs n k))).to hb4)
          rw [set_brine (r := (el xs k).r) (psL xs n (k + 1)) k (by rw [psL_len]; omega) (by rw [el_psL (by omega), psAt_lo (by omega)]), ← psL_last hk] at Rg
          have Rp := (((((HR0.out.to hbc).to hb3).far (p := ⟨g1, k * 3 + 1, none⟩) (hne_of hne4) (.int .i64 ((el xs k).a - pA xs n k))).far (p := ⟨g1, k * 3 + 2, none⟩) (hne_of hne4) (.int .i64 ((el xs k).s - pS xs n k))).to hb4)
          have Rp := (Rp.set (j := 0) (.int .i64 (a + pA xs n k))).set (j := 1) (.int .i64 (s + pS xs n k))
          have Rr := (((((HR1.out.to hbc).to hb3).far (p := ⟨g1, k * 3 + 1, none⟩) (show w.heap.size + 1 ≠ g1 by omega) (.int .i64 ((el xs k).a - pA xs n k))).far (p := ⟨g1, k * 3 + 2, none⟩) (show w.heap.size + 1 ≠ g1 by omega) (.int .i64 ((el xs k).s - pS xs n k))).to hb4)
          have Rr := (Rr.far (p := ⟨w.heap.size, 0, none⟩) (by simp) (.int .i64 (a + pA xs n k))).far (p := ⟨w.heap.size, 1, none⟩) (by simp) (.int .i64 (s + pS xs n k))
          have Rg := (Rg.far (p := ⟨w.heap.size, 0, none⟩) hne4 (.int .i64 (a + pA xs n k))).far (p := ⟨w.heap.size, 1, none⟩) hne4 (.int .i64 (s + pS xs n k))
          have hbW : Below w.heap.size w W3 := hb.trans (hbc.mono hs)
          refine ⟨⟨k, by omega, rfl, (by repeat' (first | (with_reducible exact Below.refl _ _) | (with_reducible refine Below.alloc ?_ ?_ _) | (with_reducible refine Below.setCell ?_ ?_ _) | (with_reducible refine Below.drew ?_) | (with_reducible refine Below.trans ?_ (Below.mono (by with_reducible assumption) ?_)) | omega | (simp; done) | (simp; omega))), ?_, Rr, Rg⟩, ?_⟩
          · rw [show panA xs n a k = a + pA xs n k by rw [panA, if_neg (by omega), show xs.length - 1 = k by omega], show panS xs n s k = s + pS xs n k by rw [panS, if_neg (by omega), show xs.length - 1 = k by omega]]
            exact Rp
          · simp [intOf] <;> omega
        · have hkc : ((k : Int) == (xs.length : Int) - 1) = false := by simp; omega
          have hkl : k + 1 < xs.length := by omega
          go_wp2_with fail
          refine wp_region_below_tail 9 (by kernel_rfl) (by kernel_rfl) ?_
          simp only [List.take_succ_cons, List.take_zero, List.drop_succ_cons, List.drop_zero]
          repeat (go_big_quiet_step ((go_at_call 65; exact Calls.regrown_of (minus_any _ _ _ _ _ (by omega) (by omega) (by omega) (by omega) (by omega) (by omega) (by omega) (by omega)))))
          (refine wpQuiet_nil ?_; intro w5 hwq; have hb5 := of_cls hwq; clear hwq)
          (have hs5 := hb5.size; (try simp at hs5); obtain ⟨hc5, hf5, hn5⟩ := bcell hb5; (try have hz5_wr_0 : wr.heap.size < w5.heap.size := by omega); (try have hz5_wr_1 : wr.heap.size + 1 < w5.heap.size := by omega); (try have hz5_wr_2 : wr.heap.size + 2 < w5.heap.size := by omega); (try have hB1 : b < w5.heap.size := by omega); (try have hB2 : b' < w5.heap.size := by omega); (try have hz5_wr_2b : wr.heap.size + 1 + 1 < w5.heap.size := by omega); (try have hz5_w_0 : w.heap.size < w5.heap.size := by omega); (try have hz5_w_1 : w.heap.size + 1 < w5.heap.size := by omega); (try have hz5_w_2 : w.heap.size + 2 < w5.heap.size := by omega); (try have hz5_w_2b : w.heap.size + 1 + 1 < w5.heap.size := by omega); (try have hz5_w1_0 : w1.heap.size < w5.heap.size := by omega); (try have hz5_w1_1 : w1.heap.size + 1 < w5.heap.size := by omega); (try have hz5_w1_2 : w1.heap.size + 2 < w5.heap.size := by omega); (try have hz5_w1_2b : w1.heap.size + 1 + 1 < w5.heap.size := by omega); (try have hz5_w2_0 : w2.heap.size < w5.heap.size := by omega); (try have hz5_w2_1 : w2.heap.size + 1 < w5.heap.size := by omega); (try have hz5_w2_2 : w2.heap.size + 2 < w5.heap.size := by omega); (try have hz5_w2_2b : w2.heap.size + 1 + 1 < w5.heap.size := by omega); (try have hz5_w3_0 : w3.heap.size < w5.heap.size := by omega); (try have hz5_w3_1 : w3.heap.size + 1 < w5.heap.size := by omega); (try have hz5_w3_2 : w3.heap.size + 2 < w5.heap.size := by omega); (try have hz5_w3_2b : w3.heap.size + 1 + 1 < w5.heap.size := by omega); (try have hz5_w4_0 : w4.heap.size < w5.heap.size := by omega); (try have hz5_w4_1 : w4.heap.size + 1 < w5.heap.size := by omega); (try have hz5_w4_2 : w4.heap.size + 2 < w5.heap.size := by omega); (try have hz5_w4_2b : w4.heap.size + 1 + 1 < w5.heap.size := by omega))
          go_wp2_with fail
          have Rg := (((HR2.out.to hb5).set (j := k * 3 + 1) (.int .i64 ((el xs k).a - pA xs n k))).set (j := k * 3 + 2) (.int .i64 ((el xs k).s - pS xs n k)))
          rw [set_brine (r := (el xs k).r) (psL xs n (k + 1)) k (by rw [psL_len]; omega) (by rw [el_psL (by omega), psAt_lo (by omega)])] at Rg
          have Rb := ((row3.to hb5).far (p := ⟨g1, k * 3 + 1, none⟩) hne3 (.int .i64 ((el xs k).a - pA xs n k))).far (p := ⟨g1, k * 3 + 2, none⟩) hne3 (.int .i64 ((el xs k).s - pS xs n k))
          have Rp := ((((HR0.out.to hbc).to hb5).far (p := ⟨g1, k * 3 + 1, none⟩) (hne_of hne4) (.int .i64 ((el xs k).a - pA xs n k))).far (p := ⟨g1, k * 3 + 2, none⟩) (hne_of hne4) (.int .i64 ((el xs k).s - pS xs n k)))
          have Rr := ((((HR1.out.to hbc).to hb5).far (p := ⟨g1, k * 3 + 1, none⟩) (show w.heap.size + 1 ≠ g1 by omega) (.int .i64 ((el xs k).a - pA xs n k))).far (p := ⟨g1, k * 3 + 2, none⟩) (show w.heap.size + 1 ≠ g1 by omega) (.int .i64 ((el xs k).s - pS xs n k)))
          have hbW : Below w.heap.size w W3 := hb.trans (hbc.mono hs)
          refine cut_world (fun W => Below w.heap.size w W ∧ Row W g1 62 (((psL xs n (k + 1)).set k ⟨(el xs k).r, (el xs k).a - pA xs n k, (el xs k).s - pS xs n k⟩).flatMap Bsn.enc) ∧ Row W B3 25 [.int .i64 (pA xs n k), .int .i64 (pS xs n k)] ∧ Row W w.heap.size 25 [.int .i64 (panA xs n a (k + 1)), .int .i64 (panS xs n s (k + 1))] ∧ Row W (w.heap.size + 1) 25 [.int .i64 0, .int .i64 0]) ⟨(by repeat' (first | (with_reducible exact Below.refl _ _) | (with_reducible refine Below.alloc ?_ ?_ _) | (with_reducible refine Below.setCell ?_ ?_ _) | (with_reducible refine Below.drew ?_) | (with_reducible refine Below.trans ?_ (Below.mono (by with_reducible assumption) ?_)) | omega | (simp; done) | (simp; omega))), Rg, Rb, Rp, Rr⟩ ?_
          clear Rg Rb Rp Rr hc5 hf5 hn5 hb5 hs5 hz5_wr_0 e0 e1 fe D1 D2 F2 q0 q1 fq HR2 row3
          rintro W6 ⟨hb6, Rg6, Rb6, Rp6, Rr6⟩
          have hs6 := hb6.size
          have hg6 := Rg6.lt
          have hB6 := Rb6.lt
          have hw6 := Rp6.lt
          obtain ⟨e0, e1, fe⟩ := Rb6.two
          obtain ⟨b', o', eA, -, d0, d1, d2⟩ := bsn_cells (Rg6.rd Bsn.enc_len hg6) (show k + 1 < ((psL xs n (k + 1)).set k ⟨(el xs k).r, (el xs k).a - pA xs n k, (el xs k).s - pS xs n k⟩).length by rw [List.length_set, psL_len]; omega)
          obtain ⟨rfl, rfl⟩ : g1 = b' ∧ 0 = o' := by simpa using eA
          clear eA
          rw [el_set (by rw [psL_len]; omega), if_neg (by omega), el_psL (by omega)] at d0 d1 d2
          have hps : psAt xs n (k + 1) (k + 1) = ⟨(el xs (k + 1)).r, (el xs (k + 1)).a - pA xs n (k + 1), (el xs (k + 1)).s - pS xs n (k + 1)⟩ := by
            simp [psAt, show ¬ (k + 1 + 1 ≤ k + 1) by omega]
          rw [hps] at d0 d1 d2
          simp only [Nat.zero_add] at d0 d1 d2
          clear hps
          have F6 := Rg6.frozen
          have hx2 := bsnOK_bd (hv.out (k + 1) (by omega))
          have hpb2 := p_bd (hv.out (k + 1) (by omega)) h5
          have hIk : ((k : Int) + 1).toNat = k + 1 := by omega
          have hI1 : (k : Int) + 1 < xs.length := by omega
          have hI2 : (0 : Int) ≤ (k : Int) + 1 := by omega
          have HG6 := Lib.hid Rg6
          clear Rg6
          refine wp_region_below_tail 11 (by kernel_rfl) (by kernel_rfl) ?_
          simp only [List.take_succ_cons, List.take_zero, List.drop_succ_cons, List.drop_zero]
          repeat (go_big_quiet_step ((go_at_call 39; exact Calls.regrown_of (plus_any _ _ _ _ _ (by omega) (by omega) (by omega) (by omega) (by omega) (by omega) (by omega) (by omega)))))
          (refine wpQuiet_nil ?_; intro w7 hwq; have hb7 := of_cls hwq; clear hwq)
          obtain ⟨hc7, hf7, hn7⟩ := bcell hb7
          have hs7 := hb7.size
          clear hIk
          go_wp2_with fail
          have Rg := (((HG6.out.to hb7).set (j := (k + 1) * 3 + 1) (.int .i64 ((el xs (k + 1)).a - pA xs n (k + 1) + pA xs n k))).set (j := (k + 1) * 3 + 2) (.int .i64 ((el xs (k + 1)).s - pS xs n (k + 1) + pS xs n k)))
          rw [set_brine (r := (el xs (k + 1)).r) _ (k + 1) (by rw [List.length_set, psL_len]; omega) (by rw [el_set (by rw [psL_len]; omega), if_neg (by omega), el_psL (by omega)]; rfl), ← psL_step hkl] at Rg
          have Rp := ((Rp6.to hb7).far (p := ⟨g1, (k + 1) * 3 + 1, none⟩) (hne_of hne4) (.int .i64 ((el xs (k + 1)).a - pA xs n (k + 1) + pA xs n k))).far (p := ⟨g1, (k + 1) * 3 + 2, none⟩) (hne_of hne4) (.int .i64 ((el xs (k + 1)).s - pS xs n (k + 1) + pS xs n k))
          have Rr := ((Rr6.to hb7).far (p := ⟨g1, (k + 1) * 3 + 1, none⟩) (show w.heap.size + 1 ≠ g1 by omega) (.int .i64 ((el xs (k + 1)).a - pA xs n (k + 1) + pA xs n k))).far (p := ⟨g1, (k + 1) * 3 + 2, none⟩) (show w.heap.size + 1 ≠ g1 by omega) (.int .i64 ((el xs (k + 1)).s - pS xs n (k + 1) + pS xs n k))
          rw [show panA xs n a (k + 1) = panA xs n a k by rw [panA, panA, if_neg (by omega), if_neg (by omega)], show panS xs n s (k + 1) = panS xs n s k by rw [panS, panS, if_neg (by omega), if_neg (by omega)]] at Rp
          refine ⟨⟨k, by omega, rfl, (by repeat' (first | (with_reducible exact Below.refl _ _) | (with_reducible refine Below.alloc ?_ ?_ _) | (with_reducible refine Below.setCell ?_ ?_ _) | (with_reducible refine Below.drew ?_) | (with_reducible refine Below.trans ?_ (Below.mono (by with_reducible assumption) ?_)) | omega | (simp; done) | (simp; omega))), Rp, Rr, Rg⟩, ?_⟩
          simp [intOf] <;> omega
end Go.Proofs.Ytocaodoagiokjaa
