/- Contracts of several passes, of the reference (chapter 8). -/
import Derived.Test.YtocaodoagiokjaaPassRun
set_option linter.unusedSimpArgs false
set_option linter.unusedVariables false
namespace Go.Proofs.Ytocaodoagiokjaa
open Go.RowKit Go.Sort Go.Salt
attribute [local go_sem] cell_rg
attribute [local go_sem ↓] run_max_mx run_min_mn
theorem heap_new2 {W : World} {o : Obj} {p q : Addr} {u v : Value} (hp : W.heap.size ≠ p.block) (hq : W.heap.size ≠ q.block) : (((W.alloc o).setCell p u).setCell q v).heap[W.heap.size]? = some o :=
  (Below.heap_setCell _ q v _ hq).trans ((Below.heap_setCell _ p u _ hp).trans (heap_alloc_new W o))
theorem heap_new_at {W : World} {o : Obj} {g : Nat} (h : W.heap.size = g) : (W.alloc o).heap[g]? = some o := by subst h; exact heap_alloc_new W o
set_option maxRecDepth 100000 in
set_option maxHeartbeats 4000000 in
theorem sAfterPasses_any (ad : Addr) (c : Nat) (xs : List Bsn) (a s n t : Int) (w : World) (h : Rd w w.heap.size (some ad) 3 Bsn.enc xs) (hx : xs.length ≤ 1048576) :
    Calls Try.prog 24 #[.slice (some ad) xs.length c, .agg #[.int .i64 a, .int .i64 s], .int .i64 n, .int .i64 t] w fun e w' => ApAt w (apO xs a s n t) e w' := by
  cases hG : serOK xs
  · have Hno := Lib.hid (apO_no (show apV xs a s n t = false by simp [apV, hG]))
    go_enter Try.func24, Try.ntmps24
    go_wp2_with fail
    (go_at_call 35; refine (l8Good_any _ _ _ _ (h.to (by repeat' (first | (with_reducible exact Below.refl _ _) | (with_reducible refine Below.alloc ?_ ?_ _) | (with_reducible refine Below.setCell ?_ ?_ _) | (with_reducible refine Below.drew ?_) | (with_reducible refine Below.trans ?_ (Below.mono (by with_reducible assumption) ?_)) | omega | (simp; done) | (simp; omega)))) hx).mono ?_; rintro e w1 ⟨rfl, hb1⟩)
    (have hs1 := hb1.size; (try simp at hs1); obtain ⟨hc1, hf1, hn1⟩ := bcell hb1; (try have hz1_w_0 : w.heap.size < w1.heap.size := by omega); (try have hz1_w_1 : w.heap.size + 1 < w1.heap.size := by omega); (try have hz1_w_2 : w.heap.size + 2 < w1.heap.size := by omega); (try have hz1_w_2b : w.heap.size + 1 + 1 < w1.heap.size := by omega))
    go_wp2_with fail
    ((try simp only [Exit.inBlock, Exit.then]); refine bodyPost_ret (by simp [results, Try.results24, go_sem, *]; try rfl) rfl ?_)
    exact ap_no Hno.out (MadeAt.empty (fun v => .returned (.tuple #[v, .agg #[.int .i64 0, .int .i64 0], .bool false])) (by omega) (by first | exact heap_new_at (by simp) | exact heap_new2 (by simp; omega) (by simp; omega)) (by repeat' (first | (with_reducible exact Below.refl _ _) | (with_reducible refine Below.alloc ?_ ?_ _) | (with_reducible refine Below.setCell ?_ ?_ _) | (with_reducible refine Below.drew ?_) | (with_reducible refine Below.trans ?_ (Below.mono (by with_reducible assumption) ?_)) | omega | (simp; done) | (simp; omega))))
  · have hv := Lib.hid (serOK_bd hG).2
    have hn := (serOK_bd hG).1
    have hc := fun W => l2Brine_any a s W
    cases hB : (inB a 0 1000000 && inB s 0 1000000)
    · have Hno := Lib.hid (apO_no (show apV xs a s n t = false by rw [apV, hB, Bool.false_and, Bool.and_false]))
      rw [hB] at hc; replace hc := Lib.hid hc
      clear hB
      go_enter Try.func24, Try.ntmps24
      go_wp2_with fail
      (go_at_call 35; refine (l8Good_any _ _ _ _ (h.to (by repeat' (first | (with_reducible exact Below.refl _ _) | (with_reducible refine Below.alloc ?_ ?_ _) | (with_reducible refine Below.setCell ?_ ?_ _) | (with_reducible refine Below.drew ?_) | (with_reducible refine Below.trans ?_ (Below.mono (by with_reducible assumption) ?_)) | omega | (simp; done) | (simp; omega)))) hx).mono ?_; rintro e w1 ⟨rfl, hb1⟩)
      (have hs1 := hb1.size; (try simp at hs1); obtain ⟨hc1, hf1, hn1⟩ := bcell hb1; (try have hz1_w_0 : w.heap.size < w1.heap.size := by omega); (try have hz1_w_1 : w.heap.size + 1 < w1.heap.size := by omega); (try have hz1_w_2 : w.heap.size + 2 < w1.heap.size := by omega); (try have hz1_w_2b : w.heap.size + 1 + 1 < w1.heap.size := by omega))
      go_wp2_with fail
      (go_at_call 36; refine (hc.out _).mono ?_; rintro e w2 ⟨rfl, hb2⟩)
      (have hs2 := hb2.size; (try simp at hs2); obtain ⟨hc2, hf2, hn2⟩ := bcell hb2; (try have hz2_w_0 : w.heap.size < w2.heap.size := by omega); (try have hz2_w_1 : w.heap.size + 1 < w2.heap.size := by omega); (try have hz2_w_2 : w.heap.size + 2 < w2.heap.size := by omega); (try have hz2_w_2b : w.heap.size + 1 + 1 < w2.heap.size := by omega); (try have hz2_w1_0 : w1.heap.size < w2.heap.size := by omega); (try have hz2_w1_1 : w1.heap.size + 1 < w2.heap.size := by omega); (try have hz2_w1_2 : w1.heap.size + 2 < w2.heap.size := by omega); (try have hz2_w1_2b : w1.heap.size + 1 + 1 < w2.heap.size := by omega))
      go_wp2_with fail
      ((try simp only [Exit.inBlock, Exit.then]); refine bodyPost_ret (by simp [results, Try.results24, go_sem, *]; try rfl) rfl ?_)
      exact ap_no Hno.out (MadeAt.empty (fun v => .returned (.tuple #[v, .agg #[.int .i64 0, .int .i64 0], .bool false])) (by omega) (by first | exact heap_new_at (by simp) | exact heap_new2 (by simp; omega) (by simp; omega)) (by repeat' (first | (with_reducible exact Below.refl _ _) | (with_reducible refine Below.alloc ?_ ?_ _) | (with_reducible refine Below.setCell ?_ ?_ _) | (with_reducible refine Below.drew ?_) | (with_reducible refine Below.trans ?_ (Below.mono (by with_reducible assumption) ?_)) | omega | (simp; done) | (simp; omega))))
    · by_cases hN : 1 ≤ n
      · cases hT : inB t 0 100
        · have Hno := Lib.hid (apO_no (show apV xs a s n t = false by rw [apV, hT, Bool.and_false, Bool.and_false, Bool.and_false]))
          rw [hB] at hc; replace hc := Lib.hid hc
          clear hB
          go_enter Try.func24, Try.ntmps24
          go_wp2_with (first | (go_at_call 51; refine (l1In_any _ _ _ _).mono ?_; rintro e wX ⟨rfl, rfl⟩))
          (go_at_call 35; refine (l8Good_any _ _ _ _ (h.to (by repeat' (first | (with_reducible exact Below.refl _ _) | (with_reducible refine Below.alloc ?_ ?_ _) | (with_reducible refine Below.setCell ?_ ?_ _) | (with_reducible refine Below.drew ?_) | (with_reducible refine Below.trans ?_ (Below.mono (by with_reducible assumption) ?_)) | omega | (simp; done) | (simp; omega)))) hx).mono ?_; rintro e w1 ⟨rfl, hb1⟩)
          (have hs1 := hb1.size; (try simp at hs1); obtain ⟨hc1, hf1, hn1⟩ := bcell hb1; (try have hz1_w_0 : w.heap.size < w1.heap.size := by omega); (try have hz1_w_1 : w.heap.size + 1 < w1.heap.size := by omega); (try have hz1_w_2 : w.heap.size + 2 < w1.heap.size := by omega); (try have hz1_w_2b : w.heap.size + 1 + 1 < w1.heap.size := by omega))
          go_wp2_with (first | (go_at_call 51; refine (l1In_any _ _ _ _).mono ?_; rintro e wX ⟨rfl, rfl⟩))
          (go_at_call 36; refine (hc.out _).mono ?_; rintro e w2 ⟨rfl, hb2⟩)
          (have hs2 := hb2.size; (try simp at hs2); obtain ⟨hc2, hf2, hn2⟩ := bcell hb2; (try have hz2_w_0 : w.heap.size < w2.heap.size := by omega); (try have hz2_w_1 : w.heap.size + 1 < w2.heap.size := by omega); (try have hz2_w_2 : w.heap.size + 2 < w2.heap.size := by omega); (try have hz2_w_2b : w.heap.size + 1 + 1 < w2.heap.size := by omega); (try have hz2_w1_0 : w1.heap.size < w2.heap.size := by omega); (try have hz2_w1_1 : w1.heap.size + 1 < w2.heap.size := by omega); (try have hz2_w1_2 : w1.heap.size + 2 < w2.heap.size := by omega); (try have hz2_w1_2b : w1.heap.size + 1 + 1 < w2.heap.size := by omega))
          go_wp2_with (first | (go_at_call 51; refine (l1In_any _ _ _ _).mono ?_; rintro e wX ⟨rfl, rfl⟩))
          ((try simp only [Exit.inBlock, Exit.then]); refine bodyPost_ret (by simp [results, Try.results24, go_sem, *]; try rfl) rfl ?_)
          exact ap_no Hno.out (MadeAt.empty (fun v => .returned (.tuple #[v, .agg #[.int .i64 0, .int .i64 0], .bool false])) (by omega) (by first | exact heap_new_at (by simp) | exact heap_new2 (by simp; omega) (by simp; omega)) (by repeat' (first | (with_reducible exact Below.refl _ _) | (with_reducible refine Below.alloc ?_ ?_ _) | (with_reducible refine Below.setCell ?_ ?_ _) | (with_reducible refine Below.drew ?_) | (with_reducible refine Below.trans ?_ (Below.mono (by with_reducible assumption) ?_)) | omega | (simp; done) | (simp; omega))))
        · have htb := inB_iff.1 hT
          obtain ⟨T, rfl⟩ : ∃ T : Nat, t = T := ⟨t.toNat, by omega⟩
          have Hrun := Lib.hid (apO_run (show apV xs a s n T = true by rw [apV, hG, hB, hT, decide_eq_true hN]; rfl))
          have HB := Lib.hid (And.intro hG hB)
          rw [hB] at hc; replace hc := Lib.hid hc
          clear hB
          go_enter Try.func24, Try.ntmps24
          go_wp2_with (first | (go_at_call 51; refine (l1In_any _ _ _ _).mono ?_; rintro e wX ⟨rfl, rfl⟩))
          (go_at_call 35; refine (l8Good_any _ _ _ _ (h.to (by repeat' (first | (with_reducible exact Below.refl _ _) | (with_reducible refine Below.alloc ?_ ?_ _) | (with_reducible refine Below.setCell ?_ ?_ _) | (with_reducible refine Below.drew ?_) | (with_reducible refine Below.trans ?_ (Below.mono (by with_reducible assumption) ?_)) | omega | (simp; done) | (simp; omega)))) hx).mono ?_; rintro e w1 ⟨rfl, hb1⟩)
          (have hs1 := hb1.size; (try simp at hs1); obtain ⟨hc1, hf1, hn1⟩ := bcell hb1; (try have hz1_w_0 : w.heap.size < w1.heap.size := by omega); (try have hz1_w_1 : w.heap.size + 1 < w1.heap.size := by omega); (try have hz1_w_2 : w.heap.size + 2 < w1.heap.size := by omega); (try have hz1_w_2b : w.heap.size + 1 + 1 < w1.heap.size := by omega))
          go_wp2_with (first | (go_at_call 51; refine (l1In_any _ _ _ _).mono ?_; rintro e wX ⟨rfl, rfl⟩))
          (go_at_call 36; refine (hc.out _).mono ?_; rintro e w2 ⟨rfl, hb2⟩)
          (have hs2 := hb2.size; (try simp at hs2); obtain ⟨hc2, hf2, hn2⟩ := bcell hb2; (try have hz2_w_0 : w.heap.size < w2.heap.size := by omega); (try have hz2_w_1 : w.heap.size + 1 < w2.heap.size := by omega); (try have hz2_w_2 : w.heap.size + 2 < w2.heap.size := by omega); (try have hz2_w_2b : w.heap.size + 1 + 1 < w2.heap.size := by omega); (try have hz2_w1_0 : w1.heap.size < w2.heap.size := by omega); (try have hz2_w1_1 : w1.heap.size + 1 < w2.heap.size := by omega); (try have hz2_w1_2 : w1.heap.size + 2 < w2.heap.size := by omega); (try have hz2_w1_2b : w1.heap.size + 1 + 1 < w2.heap.size := by omega))
          go_wp2_with (first | (go_at_call 51; refine (l1In_any _ _ _ _).mono ?_; rintro e wX ⟨rfl, rfl⟩))
          (go_at_call 42; refine (l8Own_own ad c xs _ (h.to (by repeat' (first | (with_reducible exact Below.refl _ _) | (with_reducible refine Below.alloc ?_ ?_ _) | (with_reducible refine Below.setCell ?_ ?_ _) | (with_reducible refine Below.drew ?_) | (with_reducible refine Below.trans ?_ (Below.mono (by with_reducible assumption) ?_)) | omega | (simp; done) | (simp; omega)))) (by omega)).mono ?_; rintro e w3 ⟨v3, rfl, own3, hb3⟩)
          (have hs3 := hb3.size; (try simp at hs3); obtain ⟨hc3, hf3, hn3⟩ := bcell hb3; (try have hz3_w_0 : w.heap.size < w3.heap.size := by omega); (try have hz3_w_1 : w.heap.size + 1 < w3.heap.size := by omega); (try have hz3_w_2 : w.heap.size + 2 < w3.heap.size := by omega); (try have hz3_w_2b : w.heap.size + 1 + 1 < w3.heap.size := by omega); (try have hz3_w1_0 : w1.heap.size < w3.heap.size := by omega); (try have hz3_w1_1 : w1.heap.size + 1 < w3.heap.size := by omega); (try have hz3_w1_2 : w1.heap.size + 2 < w3.heap.size := by omega); (try have hz3_w1_2b : w1.heap.size + 1 + 1 < w3.heap.size := by omega); (try have hz3_w2_0 : w2.heap.size < w3.heap.size := by omega); (try have hz3_w2_1 : w2.heap.size + 1 < w3.heap.size := by omega); (try have hz3_w2_2 : w2.heap.size + 2 < w3.heap.size := by omega); (try have hz3_w2_2b : w2.heap.size + 1 + 1 < w3.heap.size := by omega))
          obtain ⟨g1, cap1, rfl, hg1, hlt1⟩ := own3.form (by omega)
          (try simp at hg1)
          have row1 := (Row.of_own own3).1
          clear own3
          have hb0 : Below w.heap.size w w3 := (by repeat' (first | (with_reducible exact Below.refl _ _) | (with_reducible refine Below.alloc ?_ ?_ _) | (with_reducible refine Below.setCell ?_ ?_ _) | (with_reducible refine Below.drew ?_) | (with_reducible refine Below.trans ?_ (Below.mono (by with_reducible assumption) ?_)) | omega | (simp; done) | (simp; omega)))
          have hb03 := (hb1.trans (hb2.mono hb1.size)).trans (hb3.mono (Nat.le_trans hb1.size hb2.size))
          have hr0 : Row w3 w.heap.size 25 [.int .i64 a, .int .i64 s] := ((Row.new w 25 #[.int .i64 a, .int .i64 s]).alloc _).to hb03
          have hr1 : Row w3 (w.heap.size + 1) 25 [.int .i64 0, .int .i64 0] := by
            have := (Row.new (w.alloc (.cells #[.int .i64 a, .int .i64 s] 25)) 25 #[.int .i64 0, .int .i64 0]).to hb03
            rw [World.size_alloc] at this
            exact this
          have hgw : w.heap.size + 2 ≤ g1 := by omega
          go_wp2_with (first | (go_at_call 51; refine (l1In_any _ _ _ _).mono ?_; rintro e wX ⟨rfl, rfl⟩))
          clear hc1 hf1 hn1 hb1 hc2 hf2 hn2 hb2 hc3 hf3 hn3 hb3 hb03
          go_loopw [11, 12] (fun u i wr => ∃ (k : Nat) (ys : List Bsn) (a' s' : Int) (g cap : Nat), k ≤ T ∧ i = .int .i64 k ∧ u = .slice (some ⟨g, 0, none⟩) ys.length cap ∧ Hid ((serOK ys = true ∧ (inB a' 0 1000000 && inB s' 0 1000000) = true) ∧ apRun n T xs a s = apRun n (T - k) ys a' s') ∧ Below w.heap.size w wr ∧ w.heap.size + 2 ≤ g ∧ Row wr g 62 (ys.flatMap Bsn.enc) ∧ Row wr w.heap.size 25 [.int .i64 a', .int .i64 s'] ∧ Row wr (w.heap.size + 1) 25 [.int .i64 0, .int .i64 0]) (fun _ i _ => T - (intOf i).toNat)
          case atStart => exact ⟨0, xs, a, s, g1, cap1, Nat.zero_le _, rfl, rfl, ⟨HB.out, rfl⟩, hb0, hgw, row1, hr0, hr1⟩
          case round =>
            clear hr0 hr1 hb0 row1
            obtain ⟨k, ys, a', s', g, cap, hk, rfl, rfl, HI, hb, hg, hrow, hr0, hr1⟩ := hrel
            have hs := hb.size
            have hz0 := hr0.lt
            have hz1 := hr1.lt
            have hz2 := hrow.lt
            by_cases hlt : k < T
            · have hI : (k : Int) < T := by omega
              obtain ⟨p0, p1, pf⟩ := hr0.two
              have hok := serOK_bd HI.out.1.1
              have hvy := Lib.hid hok.2
              have hny := hok.1
              have hab : (0 ≤ a' ∧ a' ≤ 1000000) ∧ (0 ≤ s' ∧ s' ≤ 1000000) := by simpa [inB] using HI.out.1.2
              clear hok
              have HR0 := Lib.hid hr0
              have HR1 := Lib.hid hr1
              have HP := l8Pass_any ⟨g, 0, none⟩ cap ys a' s' n wr (hrow.rd Bsn.enc_len hz2) hny.2 hny.1 hvy hab.1.1 hab.1.2 hab.2.1 hab.2.2 hN
              clear hr0 hr1 hrow
              cases hP : psB ys n a' s'
              · have Hno := Lib.hid (show apO xs a s n T = none by rw [Hrun.out, Int.toNat_natCast, HI.out.2, apRun_stop hlt hP])
                rw [hP] at HP
                go_wp2_with fail
                refine HP.mono ?_
                rintro e w4 ⟨A4, c4, rfl, own4, hb4⟩
                clear HP
                obtain ⟨g4, rfl, hg4, row4⟩ : ∃ g4, A4 = some ⟨g4, 0, none⟩ ∧ wr.heap.size ≤ g4 ∧ Row w4 g4 62 ((psL ys n 0).flatMap Bsn.enc) := by
                  rcases own4 with ⟨_, h0, _⟩ | ⟨g4, e4, h4, r4⟩
                  · omega
                  · exact ⟨g4, e4, h4, r4⟩
                clear own4
                have hs4 := hb4.size
                have Rp := HR0.out.to hb4
                have Rr := HR1.out.to hb4
                clear p0 p1 pf
                obtain ⟨p0, p1, pf⟩ := Rp.two
                obtain ⟨t0, t1, tf⟩ := Rr.two
                have hl0 := Rp.lt
                have hl1 := Rr.lt
                have Hrow4 := Lib.hid row4
                have HRp := Lib.hid Rp
                have HRr := Lib.hid Rr
                clear row4 Rp Rr
                have hne4 : g4 ≠ w.heap.size := by omega
                have hbw4 : Below w.heap.size w w4 := hb.trans (hb4.mono hs)
                have hl4 : g4 < w4.heap.size := Hrow4.out.lt
                go_wp2_with (first | (go_at_call 51; refine (l1In_any _ _ _ _).mono ?_; rintro e wX ⟨rfl, rfl⟩))
                ((try simp only [Exit.inBlock, Exit.then]); refine bodyPost_ret (by simp [results, Try.results24, go_sem, *]; try rfl) rfl ?_)
                exact ap_no Hno.out (MadeAt.empty (fun v => .returned (.tuple #[v, .agg #[.int .i64 0, .int .i64 0], .bool false])) (by omega) (by first | exact heap_new_at (by simp) | exact heap_new2 (by simp; omega) (by simp; omega)) (by repeat' (first | (with_reducible exact Below.refl _ _) | (with_reducible refine Below.alloc ?_ ?_ _) | (with_reducible refine Below.setCell ?_ ?_ _) | (with_reducible refine Below.drew ?_) | (with_reducible refine Below.trans ?_ (Below.mono (by with_reducible assumption) ?_)) | omega | (simp; done) | (simp; omega))))
              · have HI2 := Lib.hid (show (serOK (psL ys n 0) = true ∧ (inB (panA ys n a' 0) 0 1000000 && inB (panS ys n s' 0) 0 1000000) = true) ∧ apRun n T xs a s = apRun n (T - (k + 1)) (psL ys n 0) (panA ys n a' 0) (panS ys n s' 0) from ⟨by
                  have h0 := hP
                  rw [psB, Bool.and_eq_true] at h0
                  exact h0, by rw [HI.out.2, apRun_step hlt hP]⟩)
                rw [hP] at HP
                go_wp2_with fail
                refine HP.mono ?_
                rintro e w4 ⟨A4, c4, rfl, own4, hb4⟩
                clear HP
                obtain ⟨g4, rfl, hg4, row4⟩ : ∃ g4, A4 = some ⟨g4, 0, none⟩ ∧ wr.heap.size ≤ g4 ∧ Row w4 g4 62 ((psL ys n 0).flatMap Bsn.enc) := by
                  rcases own4 with ⟨_, h0, _⟩ | ⟨g4, e4, h4, r4⟩
                  · omega
                  · exact ⟨g4, e4, h4, r4⟩
                clear own4
                have hs4 := hb4.size
                have Rp := HR0.out.to hb4
                have Rr := HR1.out.to hb4
                clear p0 p1 pf
                obtain ⟨p0, p1, pf⟩ := Rp.two
                obtain ⟨t0, t1, tf⟩ := Rr.two
                have hl0 := Rp.lt
                have hl1 := Rr.lt
                have Hrow4 := Lib.hid row4
                have HRp := Lib.hid Rp
                have HRr := Lib.hid Rr
                clear row4 Rp Rr
                have hne4 : g4 ≠ w.heap.size := by omega
                have hbw4 : Below w.heap.size w w4 := hb.trans (hb4.mono hs)
                have hl4 : g4 < w4.heap.size := Hrow4.out.lt
                go_wp2_with (first | (go_at_call 51; refine (l1In_any _ _ _ _).mono ?_; rintro e wX ⟨rfl, rfl⟩))
                refine ⟨⟨k + 1, psL ys n 0, panA ys n a' 0, panS ys n s' 0, g4, c4, by omega, by go_num, by rw [psL_len], HI2.out, (by repeat' (first | (with_reducible exact Below.refl _ _) | (with_reducible refine Below.alloc ?_ ?_ _) | (with_reducible refine Below.setCell ?_ ?_ _) | (with_reducible refine Below.drew ?_) | (with_reducible refine Below.trans ?_ (Below.mono (by with_reducible assumption) ?_)) | omega | (simp; done) | (simp; omega))), by omega, ((Hrow4.out.far (p := ⟨w.heap.size, 0, none⟩) hne4 _).far (p := ⟨w.heap.size, 1, none⟩) hne4 _).alloc _, (((HRp.out).set (j := 0) (.int .i64 (panA ys n a' 0))).set (j := 1) (.int .i64 (panS ys n s' 0))).alloc _, (((HRr.out).far (p := ⟨w.heap.size, 0, none⟩) (by simp) _).far (p := ⟨w.heap.size, 1, none⟩) (by simp) _).alloc _⟩, ?_⟩
                simp [intOf] <;> omega
            · obtain rfl : k = T := by omega
              obtain ⟨p0, p1, pf⟩ := hr0.two
              obtain ⟨t0, t1, tf⟩ := hr1.two
              have Hyes := Lib.hid (show apO xs a s n k = some (ys, a', s') by rw [Hrun.out, Int.toNat_natCast, HI.out.2, Nat.sub_self]; rfl)
              have Hrow := Lib.hid hrow
              clear hr0 hr1 hrow
              go_wp2_with (first | (go_at_call 51; refine (l1In_any _ _ _ _).mono ?_; rintro e wX ⟨rfl, rfl⟩))
              refine wp_region_below_tail 3 (by kernel_rfl) (by kernel_rfl) ?_
              simp only [List.take_succ_cons, List.take_zero, List.drop_succ_cons, List.drop_zero]
              repeat (go_big_quiet_step (fail))
              (refine wpQuiet_nil ?_; intro w1 hwq; have hb1 := of_cls hwq; clear hwq)
              (have hs1 := hb1.size; (try simp at hs1); obtain ⟨hc1, hf1, hn1⟩ := bcell hb1; (try have hz1_wr_0 : wr.heap.size < w1.heap.size := by omega); (try have hz1_wr_1 : wr.heap.size + 1 < w1.heap.size := by omega); (try have hz1_wr_2 : wr.heap.size + 2 < w1.heap.size := by omega); (try have hB1 : b < w1.heap.size := by omega); (try have hB2 : b' < w1.heap.size := by omega); (try have hz1_wr_2b : wr.heap.size + 1 + 1 < w1.heap.size := by omega); (try have hz1_w_0 : w.heap.size < w1.heap.size := by omega); (try have hz1_w_1 : w.heap.size + 1 < w1.heap.size := by omega); (try have hz1_w_2 : w.heap.size + 2 < w1.heap.size := by omega); (try have hz1_w_2b : w.heap.size + 1 + 1 < w1.heap.size := by omega))
              go_wp2_with (first | (go_at_call 51; refine (l1In_any _ _ _ _).mono ?_; rintro e wX ⟨rfl, rfl⟩))
              ((try simp only [Exit.inBlock, Exit.then]); refine bodyPost_ret (by simp [results, Try.results24, go_sem, *]; try rfl) rfl ?_)
              exact ap_yes Hyes.out (by omega) (((Hrow.out.to hb1).far (p := ⟨w.heap.size + 1, 0, none⟩) (show g ≠ w.heap.size + 1 by omega) _).far (p := ⟨w.heap.size + 1, 1, none⟩) (show g ≠ w.heap.size + 1 by omega) _) (by repeat' (first | (with_reducible exact Below.refl _ _) | (with_reducible refine Below.alloc ?_ ?_ _) | (with_reducible refine Below.setCell ?_ ?_ _) | (with_reducible refine Below.drew ?_) | (with_reducible refine Below.trans ?_ (Below.mono (by with_reducible assumption) ?_)) | omega | (simp; done) | (simp; omega)))
      · have hN' : decide (1 ≤ n) = false := by simpa using hN
        have hN2 : n < 1 := by omega
        have Hno := Lib.hid (apO_no (show apV xs a s n t = false by rw [apV, hN', Bool.false_and, Bool.and_false, Bool.and_false]))
        clear hN'
        rw [hB] at hc; replace hc := Lib.hid hc
        clear hB
        go_enter Try.func24, Try.ntmps24
        go_wp2_with fail
        (go_at_call 35; refine (l8Good_any _ _ _ _ (h.to (by repeat' (first | (with_reducible exact Below.refl _ _) | (with_reducible refine Below.alloc ?_ ?_ _) | (with_reducible refine Below.setCell ?_ ?_ _) | (with_reducible refine Below.drew ?_) | (with_reducible refine Below.trans ?_ (Below.mono (by with_reducible assumption) ?_)) | omega | (simp; done) | (simp; omega)))) hx).mono ?_; rintro e w1 ⟨rfl, hb1⟩)
        (have hs1 := hb1.size; (try simp at hs1); obtain ⟨hc1, hf1, hn1⟩ := bcell hb1; (try have hz1_w_0 : w.heap.size < w1.heap.size := by omega); (try have hz1_w_1 : w.heap.size + 1 < w1.heap.size := by omega); (try have hz1_w_2 : w.heap.size + 2 < w1.heap.size := by omega); (try have hz1_w_2b : w.heap.size + 1 + 1 < w1.heap.size := by omega))
        go_wp2_with fail
        (go_at_call 36; refine (hc.out _).mono ?_; rintro e w2 ⟨rfl, hb2⟩)
        (have hs2 := hb2.size; (try simp at hs2); obtain ⟨hc2, hf2, hn2⟩ := bcell hb2; (try have hz2_w_0 : w.heap.size < w2.heap.size := by omega); (try have hz2_w_1 : w.heap.size + 1 < w2.heap.size := by omega); (try have hz2_w_2 : w.heap.size + 2 < w2.heap.size := by omega); (try have hz2_w_2b : w.heap.size + 1 + 1 < w2.heap.size := by omega); (try have hz2_w1_0 : w1.heap.size < w2.heap.size := by omega); (try have hz2_w1_1 : w1.heap.size + 1 < w2.heap.size := by omega); (try have hz2_w1_2 : w1.heap.size + 2 < w2.heap.size := by omega); (try have hz2_w1_2b : w1.heap.size + 1 + 1 < w2.heap.size := by omega))
        go_wp2_with fail
        ((try simp only [Exit.inBlock, Exit.then]); refine bodyPost_ret (by simp [results, Try.results24, go_sem, *]; try rfl) rfl ?_)
        exact ap_no Hno.out (MadeAt.empty (fun v => .returned (.tuple #[v, .agg #[.int .i64 0, .int .i64 0], .bool false])) (by omega) (by first | exact heap_new_at (by simp) | exact heap_new2 (by simp; omega) (by simp; omega)) (by repeat' (first | (with_reducible exact Below.refl _ _) | (with_reducible refine Below.alloc ?_ ?_ _) | (with_reducible refine Below.setCell ?_ ?_ _) | (with_reducible refine Below.drew ?_) | (with_reducible refine Below.trans ?_ (Below.mono (by with_reducible assumption) ?_)) | omega | (simp; done) | (simp; omega))))
set_option maxRecDepth 100000 in
set_option maxHeartbeats 4000000 in
theorem sAfterPass_any (ad : Addr) (c : Nat) (xs : List Bsn) (a s n : Int) (w : World) (h : Rd w w.heap.size (some ad) 3 Bsn.enc xs) (hx : xs.length ≤ 1048576) :
    Calls Try.prog 22 #[.slice (some ad) xs.length c, .agg #[.int .i64 a, .int .i64 s], .int .i64 n] w fun e w' => ApAt w (apO xs a s n 1) e w' := by
  cases hG : serOK xs
  · have Hno := Lib.hid (apO_no (show apV xs a s n 1 = false by simp [apV, hG]))
    go_enter Try.func22, Try.ntmps22
    go_wp2_with fail
    (go_at_call 35; refine (l8Good_any _ _ _ _ (h.to (by repeat' (first | (with_reducible exact Below.refl _ _) | (with_reducible refine Below.alloc ?_ ?_ _) | (with_reducible refine Below.setCell ?_ ?_ _) | (with_reducible refine Below.drew ?_) | (with_reducible refine Below.trans ?_ (Below.mono (by with_reducible assumption) ?_)) | omega | (simp; done) | (simp; omega)))) hx).mono ?_; rintro e w1 ⟨rfl, hb1⟩)
    (have hs1 := hb1.size; (try simp at hs1); obtain ⟨hc1, hf1, hn1⟩ := bcell hb1; (try have hz1_w_0 : w.heap.size < w1.heap.size := by omega); (try have hz1_w_1 : w.heap.size + 1 < w1.heap.size := by omega); (try have hz1_w_2 : w.heap.size + 2 < w1.heap.size := by omega); (try have hz1_w_2b : w.heap.size + 1 + 1 < w1.heap.size := by omega))
    go_wp2_with fail
    ((try simp only [Exit.inBlock, Exit.then]); refine bodyPost_ret (by simp [results, Try.results22, go_sem, *]; try rfl) rfl ?_)
    exact ap_no Hno.out (MadeAt.empty (fun v => .returned (.tuple #[v, .agg #[.int .i64 0, .int .i64 0], .bool false])) (by omega) (by first | exact heap_new_at (by simp) | exact heap_new2 (by simp; omega) (by simp; omega)) (by repeat' (first | (with_reducible exact Below.refl _ _) | (with_reducible refine Below.alloc ?_ ?_ _) | (with_reducible refine Below.setCell ?_ ?_ _) | (with_reducible refine Below.drew ?_) | (with_reducible refine Below.trans ?_ (Below.mono (by with_reducible assumption) ?_)) | omega | (simp; done) | (simp; omega))))
  · have hv := Lib.hid (serOK_bd hG).2
    have hn := (serOK_bd hG).1
    have hc := fun W => l2Brine_any a s W
    cases hB : (inB a 0 1000000 && inB s 0 1000000)
    · have Hno := Lib.hid (apO_no (show apV xs a s n 1 = false by rw [apV, hB, Bool.false_and, Bool.and_false]))
      rw [hB] at hc; replace hc := Lib.hid hc
      clear hB
      go_enter Try.func22, Try.ntmps22
      go_wp2_with fail
      (go_at_call 35; refine (l8Good_any _ _ _ _ (h.to (by repeat' (first | (with_reducible exact Below.refl _ _) | (with_reducible refine Below.alloc ?_ ?_ _) | (with_reducible refine Below.setCell ?_ ?_ _) | (with_reducible refine Below.drew ?_) | (with_reducible refine Below.trans ?_ (Below.mono (by with_reducible assumption) ?_)) | omega | (simp; done) | (simp; omega)))) hx).mono ?_; rintro e w1 ⟨rfl, hb1⟩)
      (have hs1 := hb1.size; (try simp at hs1); obtain ⟨hc1, hf1, hn1⟩ := bcell hb1; (try have hz1_w_0 : w.heap.size < w1.heap.size := by omega); (try have hz1_w_1 : w.heap.size + 1 < w1.heap.size := by omega); (try have hz1_w_2 : w.heap.size + 2 < w1.heap.size := by omega); (try have hz1_w_2b : w.heap.size + 1 + 1 < w1.heap.size := by omega))
      go_wp2_with fail
      (go_at_call 36; refine (hc.out _).mono ?_; rintro e w2 ⟨rfl, hb2⟩)
      (have hs2 := hb2.size; (try simp at hs2); obtain ⟨hc2, hf2, hn2⟩ := bcell hb2; (try have hz2_w_0 : w.heap.size < w2.heap.size := by omega); (try have hz2_w_1 : w.heap.size + 1 < w2.heap.size := by omega); (try have hz2_w_2 : w.heap.size + 2 < w2.heap.size := by omega); (try have hz2_w_2b : w.heap.size + 1 + 1 < w2.heap.size := by omega); (try have hz2_w1_0 : w1.heap.size < w2.heap.size := by omega); (try have hz2_w1_1 : w1.heap.size + 1 < w2.heap.size := by omega); (try have hz2_w1_2 : w1.heap.size + 2 < w2.heap.size := by omega); (try have hz2_w1_2b : w1.heap.size + 1 + 1 < w2.heap.size := by omega))
      go_wp2_with fail
      ((try simp only [Exit.inBlock, Exit.then]); refine bodyPost_ret (by simp [results, Try.results22, go_sem, *]; try rfl) rfl ?_)
      exact ap_no Hno.out (MadeAt.empty (fun v => .returned (.tuple #[v, .agg #[.int .i64 0, .int .i64 0], .bool false])) (by omega) (by first | exact heap_new_at (by simp) | exact heap_new2 (by simp; omega) (by simp; omega)) (by repeat' (first | (with_reducible exact Below.refl _ _) | (with_reducible refine Below.alloc ?_ ?_ _) | (with_reducible refine Below.setCell ?_ ?_ _) | (with_reducible refine Below.drew ?_) | (with_reducible refine Below.trans ?_ (Below.mono (by with_reducible assumption) ?_)) | omega | (simp; done) | (simp; omega))))
    · by_cases hN : 1 ≤ n
      · have Hrun := Lib.hid (apO_run (show apV xs a s n 1 = true by rw [apV, hG, hB, decide_eq_true hN]; rfl))
        have hab : (0 ≤ a ∧ a ≤ 1000000) ∧ (0 ≤ s ∧ s ≤ 1000000) := by simpa [inB] using hB
        rw [hB] at hc; replace hc := Lib.hid hc
        clear hB
        cases hP : psB xs n a s
        · have Hno := Lib.hid (show apO xs a s n 1 = none by rw [Hrun.out]; exact apRun_stop (k := 0) (m := 1) (by omega) hP)
          go_enter Try.func22, Try.ntmps22
          go_wp2_with fail
          (go_at_call 35; refine (l8Good_any _ _ _ _ (h.to (by repeat' (first | (with_reducible exact Below.refl _ _) | (with_reducible refine Below.alloc ?_ ?_ _) | (with_reducible refine Below.setCell ?_ ?_ _) | (with_reducible refine Below.drew ?_) | (with_reducible refine Below.trans ?_ (Below.mono (by with_reducible assumption) ?_)) | omega | (simp; done) | (simp; omega)))) hx).mono ?_; rintro e w1 ⟨rfl, hb1⟩)
          (have hs1 := hb1.size; (try simp at hs1); obtain ⟨hc1, hf1, hn1⟩ := bcell hb1; (try have hz1_w_0 : w.heap.size < w1.heap.size := by omega); (try have hz1_w_1 : w.heap.size + 1 < w1.heap.size := by omega); (try have hz1_w_2 : w.heap.size + 2 < w1.heap.size := by omega); (try have hz1_w_2b : w.heap.size + 1 + 1 < w1.heap.size := by omega))
          go_wp2_with fail
          (go_at_call 36; refine (hc.out _).mono ?_; rintro e w2 ⟨rfl, hb2⟩)
          (have hs2 := hb2.size; (try simp at hs2); obtain ⟨hc2, hf2, hn2⟩ := bcell hb2; (try have hz2_w_0 : w.heap.size < w2.heap.size := by omega); (try have hz2_w_1 : w.heap.size + 1 < w2.heap.size := by omega); (try have hz2_w_2 : w.heap.size + 2 < w2.heap.size := by omega); (try have hz2_w_2b : w.heap.size + 1 + 1 < w2.heap.size := by omega); (try have hz2_w1_0 : w1.heap.size < w2.heap.size := by omega); (try have hz2_w1_1 : w1.heap.size + 1 < w2.heap.size := by omega); (try have hz2_w1_2 : w1.heap.size + 2 < w2.heap.size := by omega); (try have hz2_w1_2b : w1.heap.size + 1 + 1 < w2.heap.size := by omega))
          have HP := l8Pass_any ad c xs a s n w2 (h.to (by repeat' (first | (with_reducible exact Below.refl _ _) | (with_reducible refine Below.alloc ?_ ?_ _) | (with_reducible refine Below.setCell ?_ ?_ _) | (with_reducible refine Below.drew ?_) | (with_reducible refine Below.trans ?_ (Below.mono (by with_reducible assumption) ?_)) | omega | (simp; done) | (simp; omega)))) hn.2 hn.1 hv hab.1.1 hab.1.2 hab.2.1 hab.2.2 hN
          rw [hP] at HP
          go_wp2_with fail
          refine HP.mono ?_
          rintro e w3 ⟨A3, c3, rfl, own3, hb3⟩
          clear HP
          (have hs3 := hb3.size; (try simp at hs3); obtain ⟨hc3, hf3, hn3⟩ := bcell hb3; have hz3 : w.heap.size + 1 < w3.heap.size := by omega)
          go_wp2_with fail
          ((try simp only [Exit.inBlock, Exit.then]); refine bodyPost_ret (by simp [results, Try.results22, go_sem, *]; try rfl) rfl ?_)
          exact ap_no Hno.out (MadeAt.empty (fun v => .returned (.tuple #[v, .agg #[.int .i64 0, .int .i64 0], .bool false])) (by omega) (by first | exact heap_new_at (by simp) | exact heap_new2 (by simp; omega) (by simp; omega)) (by repeat' (first | (with_reducible exact Below.refl _ _) | (with_reducible refine Below.alloc ?_ ?_ _) | (with_reducible refine Below.setCell ?_ ?_ _) | (with_reducible refine Below.drew ?_) | (with_reducible refine Below.trans ?_ (Below.mono (by with_reducible assumption) ?_)) | omega | (simp; done) | (simp; omega))))
        · have Hyes := Lib.hid (show apO xs a s n 1 = some (psL xs n 0, panA xs n a 0, panS xs n s 0) by rw [Hrun.out]; exact (apRun_step (k := 0) (m := 1) (by omega) hP).trans rfl)
          go_enter Try.func22, Try.ntmps22
          go_wp2_with fail
          (go_at_call 35; refine (l8Good_any _ _ _ _ (h.to (by repeat' (first | (with_reducible exact Below.refl _ _) | (with_reducible refine Below.alloc ?_ ?_ _) | (with_reducible refine Below.setCell ?_ ?_ _) | (with_reducible refine Below.drew ?_) | (with_reducible refine Below.trans ?_ (Below.mono (by with_reducible assumption) ?_)) | omega | (simp; done) | (simp; omega)))) hx).mono ?_; rintro e w1 ⟨rfl, hb1⟩)
          (have hs1 := hb1.size; (try simp at hs1); obtain ⟨hc1, hf1, hn1⟩ := bcell hb1; (try have hz1_w_0 : w.heap.size < w1.heap.size := by omega); (try have hz1_w_1 : w.heap.size + 1 < w1.heap.size := by omega); (try have hz1_w_2 : w.heap.size + 2 < w1.heap.size := by omega); (try have hz1_w_2b : w.heap.size + 1 + 1 < w1.heap.size := by omega))
          go_wp2_with fail
          (go_at_call 36; refine (hc.out _).mono ?_; rintro e w2 ⟨rfl, hb2⟩)
          (have hs2 := hb2.size; (try simp at hs2); obtain ⟨hc2, hf2, hn2⟩ := bcell hb2; (try have hz2_w_0 : w.heap.size < w2.heap.size := by omega); (try have hz2_w_1 : w.heap.size + 1 < w2.heap.size := by omega); (try have hz2_w_2 : w.heap.size + 2 < w2.heap.size := by omega); (try have hz2_w_2b : w.heap.size + 1 + 1 < w2.heap.size := by omega); (try have hz2_w1_0 : w1.heap.size < w2.heap.size := by omega); (try have hz2_w1_1 : w1.heap.size + 1 < w2.heap.size := by omega); (try have hz2_w1_2 : w1.heap.size + 2 < w2.heap.size := by omega); (try have hz2_w1_2b : w1.heap.size + 1 + 1 < w2.heap.size := by omega))
          have HP := l8Pass_any ad c xs a s n w2 (h.to (by repeat' (first | (with_reducible exact Below.refl _ _) | (with_reducible refine Below.alloc ?_ ?_ _) | (with_reducible refine Below.setCell ?_ ?_ _) | (with_reducible refine Below.drew ?_) | (with_reducible refine Below.trans ?_ (Below.mono (by with_reducible assumption) ?_)) | omega | (simp; done) | (simp; omega)))) hn.2 hn.1 hv hab.1.1 hab.1.2 hab.2.1 hab.2.2 hN
          rw [hP] at HP
          go_wp2_with fail
          refine HP.mono ?_
          rintro e w3 ⟨A3, c3, rfl, own3, hb3⟩
          clear HP
          obtain ⟨g3, rfl, hg3, row3⟩ : ∃ g3, A3 = some ⟨g3, 0, none⟩ ∧ w2.heap.size ≤ g3 ∧ Row w3 g3 62 ((psL xs n 0).flatMap Bsn.enc) := by
            rcases own3 with ⟨_, h0, _⟩ | ⟨g4, e4, h4, r4⟩
            · omega
            · exact ⟨g4, e4, h4, r4⟩
          clear own3
          (have hs3 := hb3.size; (try simp at hs3); obtain ⟨hc3, hf3, hn3⟩ := bcell hb3; have hz3 : w.heap.size + 1 < w3.heap.size := by omega)
          have Hrow3 := Lib.hid row3
          have Hln := Lib.hid (psL_len xs n 0)
          clear row3
          have hbw3 : Below w.heap.size w w3 := (by repeat' (first | (with_reducible exact Below.refl _ _) | (with_reducible refine Below.alloc ?_ ?_ _) | (with_reducible refine Below.setCell ?_ ?_ _) | (with_reducible refine Below.drew ?_) | (with_reducible refine Below.trans ?_ (Below.mono (by with_reducible assumption) ?_)) | omega | (simp; done) | (simp; omega)))
          go_wp2_with fail
          refine cut_world (fun W => Below w3.heap.size w3 W ∧ Row W w3.heap.size 25 [.int .i64 (panA xs n a 0), .int .i64 (panS xs n s 0)]) ⟨(by repeat' (first | (with_reducible exact Below.refl _ _) | (with_reducible refine Below.alloc ?_ ?_ _) | (with_reducible refine Below.setCell ?_ ?_ _) | (with_reducible refine Below.drew ?_) | (with_reducible refine Below.trans ?_ (Below.mono (by with_reducible assumption) ?_)) | omega | (simp; done) | (simp; omega))), Row.new w3 _ #[.int .i64 (panA xs n a 0), .int .i64 (panS xs n s 0)]⟩ ?_
          rintro W4 ⟨hb4, row4⟩
          have hz5 : w.heap.size + 1 < w3.heap.size := hz3
          have cz : ∀ j, W4.cell? ⟨w.heap.size + 1, j, none⟩ = w3.cell? ⟨w.heap.size + 1, j, none⟩ := fun j => hb4.cell (p := ⟨w.heap.size + 1, j, none⟩) hz5
          have cf : ∀ j, W4.frozen? ⟨w.heap.size + 1, j, none⟩ = w3.frozen? ⟨w.heap.size + 1, j, none⟩ := fun j => hb4.frozen (p := ⟨w.heap.size + 1, j, none⟩) hz5
          obtain ⟨q0, q1, qf⟩ := row4.two
          have hs4 := hb4.size
          have hz6 : w.heap.size + 1 < W4.heap.size := by omega
          have hq6 := row4.lt
          clear row4
          go_wp2_with fail
          refine wp_region_below_tail 3 (by kernel_rfl) (by kernel_rfl) ?_
          simp only [List.take_succ_cons, List.take_zero, List.drop_succ_cons, List.drop_zero]
          repeat (go_big_quiet_step (fail))
          (refine wpQuiet_nil ?_; intro w3 hwq; have hb3 := of_cls hwq; clear hwq)
          (have hs3 := hb3.size; (try simp at hs3); obtain ⟨hc3, hf3, hn3⟩ := bcell hb3; (try have hz3_w_0 : w.heap.size < w3.heap.size := by omega); (try have hz3_w_1 : w.heap.size + 1 < w3.heap.size := by omega); (try have hz3_w_2 : w.heap.size + 2 < w3.heap.size := by omega); (try have hz3_w_2b : w.heap.size + 1 + 1 < w3.heap.size := by omega); (try have hz3_w1_0 : w1.heap.size < w3.heap.size := by omega); (try have hz3_w1_1 : w1.heap.size + 1 < w3.heap.size := by omega); (try have hz3_w1_2 : w1.heap.size + 2 < w3.heap.size := by omega); (try have hz3_w1_2b : w1.heap.size + 1 + 1 < w3.heap.size := by omega); (try have hz3_w2_0 : w2.heap.size < w3.heap.size := by omega); (try have hz3_w2_1 : w2.heap.size + 1 < w3.heap.size := by omega); (try have hz3_w2_2 : w2.heap.size + 2 < w3.heap.size := by omega); (try have hz3_w2_2b : w2.heap.size + 1 + 1 < w3.heap.size := by omega))
          go_wp2_with fail
          ((try simp only [Exit.inBlock, Exit.then]); refine bodyPost_ret (by simp [results, Try.results22, go_sem, *]; try rfl) rfl ?_)
          rw [← Hln.out]
          exact ap_yes Hyes.out (by omega) ((((Hrow3.out.to hb4).to hb3).far (p := ⟨w.heap.size + 1, 0, none⟩) (show g3 ≠ w.heap.size + 1 by omega) _).far (p := ⟨w.heap.size + 1, 1, none⟩) (show g3 ≠ w.heap.size + 1 by omega) _) (by repeat' (first | (with_reducible exact Below.refl _ _) | (with_reducible refine Below.alloc ?_ ?_ _) | (with_reducible refine Below.setCell ?_ ?_ _) | (with_reducible refine Below.drew ?_) | (with_reducible refine Below.trans ?_ (Below.mono (by with_reducible assumption) ?_)) | omega | (simp; done) | (simp; omega)))
      · have hN' : decide (1 ≤ n) = false := by simpa using hN
        have hN2 : n < 1 := by omega
        have Hno := Lib.hid (apO_no (show apV xs a s n 1 = false by rw [apV, hN', Bool.false_and, Bool.and_false, Bool.and_false]))
        clear hN'
        rw [hB] at hc; replace hc := Lib.hid hc
        clear hB
        go_enter Try.func22, Try.ntmps22
        go_wp2_with fail
        (go_at_call 35; refine (l8Good_any _ _ _ _ (h.to (by repeat' (first | (with_reducible exact Below.refl _ _) | (with_reducible refine Below.alloc ?_ ?_ _) | (with_reducible refine Below.setCell ?_ ?_ _) | (with_reducible refine Below.drew ?_) | (with_reducible refine Below.trans ?_ (Below.mono (by with_reducible assumption) ?_)) | omega | (simp; done) | (simp; omega)))) hx).mono ?_; rintro e w1 ⟨rfl, hb1⟩)
        (have hs1 := hb1.size; (try simp at hs1); obtain ⟨hc1, hf1, hn1⟩ := bcell hb1; (try have hz1_w_0 : w.heap.size < w1.heap.size := by omega); (try have hz1_w_1 : w.heap.size + 1 < w1.heap.size := by omega); (try have hz1_w_2 : w.heap.size + 2 < w1.heap.size := by omega); (try have hz1_w_2b : w.heap.size + 1 + 1 < w1.heap.size := by omega))
        go_wp2_with fail
        (go_at_call 36; refine (hc.out _).mono ?_; rintro e w2 ⟨rfl, hb2⟩)
        (have hs2 := hb2.size; (try simp at hs2); obtain ⟨hc2, hf2, hn2⟩ := bcell hb2; (try have hz2_w_0 : w.heap.size < w2.heap.size := by omega); (try have hz2_w_1 : w.heap.size + 1 < w2.heap.size := by omega); (try have hz2_w_2 : w.heap.size + 2 < w2.heap.size := by omega); (try have hz2_w_2b : w.heap.size + 1 + 1 < w2.heap.size := by omega); (try have hz2_w1_0 : w1.heap.size < w2.heap.size := by omega); (try have hz2_w1_1 : w1.heap.size + 1 < w2.heap.size := by omega); (try have hz2_w1_2 : w1.heap.size + 2 < w2.heap.size := by omega); (try have hz2_w1_2b : w1.heap.size + 1 + 1 < w2.heap.size := by omega))
        go_wp2_with fail
        ((try simp only [Exit.inBlock, Exit.then]); refine bodyPost_ret (by simp [results, Try.results22, go_sem, *]; try rfl) rfl ?_)
        exact ap_no Hno.out (MadeAt.empty (fun v => .returned (.tuple #[v, .agg #[.int .i64 0, .int .i64 0], .bool false])) (by omega) (by first | exact heap_new_at (by simp) | exact heap_new2 (by simp; omega) (by simp; omega)) (by repeat' (first | (with_reducible exact Below.refl _ _) | (with_reducible refine Below.alloc ?_ ?_ _) | (with_reducible refine Below.setCell ?_ ?_ _) | (with_reducible refine Below.drew ?_) | (with_reducible refine Below.trans ?_ (Below.mono (by with_reducible assumption) ?_)) | omega | (simp; done) | (simp; omega))))
end Go.Proofs.Ytocaodoagiokjaa
