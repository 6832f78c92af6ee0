/- A pool's run of steps (chapter 21): the reference model. -/
import Derived.Test.YtmfahekkcgnndaaStepRef
import Derived.Test.YtmfahekkcgnndaaPoolRun
import Derived.Test.YtmfahekkcgnndaaFree
set_option linter.unusedSimpArgs false
set_option linter.unusedVariables false
namespace Go.Proofs.Ytmfahekkcgnndaa
open Go.RowKit Go.Sort Go.Salt
attribute [local go_sem] cell_rg
theorem fold_way' {G : Nat → World → Prop} {goal : Prop} (R : Nat → World → Prop) (h1 : (∀ B W, R B W → G B W) → goal) (h2 : ∀ B W, R B W → G B W) : goal := h1 h2
set_option maxRecDepth 100000 in
set_option maxHeartbeats 40000000 in
theorem sRunPool_any (A : Option Addr) (cp : Nat) (xs : List PSt) (st a s c i r l : Int) (w : World) (h : Rd w w.heap.size A 3 PSt.enc xs) (hm : xs.length ≤ 9223372036854775807) (hv : Hid (∀ k, k < xs.length → (el xs k).v ≤ 9223372036854775807)) :
    Calls Try.prog 35 #[.agg #[.int .i64 st, .int .i64 a, .int .i64 s, .int .i64 c, .int .i64 i, .int .i64 r, .int .i64 l], .slice A xs.length cp] w fun e w' => e = .returned (.tuple #[.agg (rpO ⟨st, a, s, c, i, r, l⟩ xs).1.enc.toArray, .int .i64 (rpO ⟨st, a, s, c, i, r, l⟩ xs).2, .bool (rpB ⟨st, a, s, c, i, r, l⟩ xs)]) ∧ Below w.heap.size w w' := by
  cases hG : Pl.ok ⟨st, a, s, c, i, r, l⟩
  · have HB := Lib.hid (show rpB ⟨st, a, s, c, i, r, l⟩ xs = false by simp [rpB, hG])
    have HO := Lib.hid (show rpO ⟨st, a, s, c, i, r, l⟩ xs = (Pl.zero, 0) by simp [rpO, HB.out])
    have hc := fun W => l21Good_any st a s c i r l W
    rw [show poolOK st a s c i r l = false from hG] at hc
    replace hc := Lib.hid hc
    go_enter Try.func35, Try.ntmps35
    go_wp2_with fail
    (go_at_call 43; refine (hc.out _).mono ?_; rintro e w1 ⟨rfl, hb1⟩)
    (have hs1 := hb1.size; (try simp at hs1); obtain ⟨hc1, hf1, hn1⟩ := bcell hb1; (try have hz1_w_0 : w.heap.size < w1.heap.size := by omega); (try have hz1_w_1 : w.heap.size + 1 < w1.heap.size := by omega); (try have hz1_w_2 : w.heap.size + 2 < w1.heap.size := by omega); (try have hz1_w_2b : w.heap.size + 1 + 1 < w1.heap.size := by omega))
    go_wp2_with fail
    ((try simp only [Exit.inBlock, Exit.then]); refine bodyPost_ret (by simp [results, Try.results35, go_sem, *]; try rfl) rfl ?_)
    exact ⟨by rw [HB.out, HO.out]; rfl, (by repeat' (first | (with_reducible exact Below.refl _ _) | (with_reducible refine Below.alloc ?_ ?_ _) | (with_reducible refine Below.setCell ?_ ?_ _) | (with_reducible refine Below.drew ?_) | (with_reducible refine Below.trans ?_ (Below.mono (by with_reducible assumption) ?_)) | omega | (simp; done) | (simp; omega)))⟩
  · have hc := fun W => l21Good_any st a s c i r l W
    rw [show poolOK st a s c i r l = true from hG] at hc
    replace hc := Lib.hid hc
    by_cases hx : xs.length ≤ 40
    · have HB := Lib.hid (show rpB ⟨st, a, s, c, i, r, l⟩ xs = true by simp [rpB, hG, hx])
      have HO := Lib.hid (show rpO ⟨st, a, s, c, i, r, l⟩ xs = rpS ⟨st, a, s, c, i, r, l⟩ xs xs.length by simp [rpO, HB.out])
      have HG := Lib.hid hG
      have hxi : (xs.length : Int) ≤ 40 := by omega
      go_enter Try.func35, Try.ntmps35
      go_wp2_with fail
      (go_at_call 43; refine (hc.out _).mono ?_; rintro e w1 ⟨rfl, hb1⟩)
      (have hs1 := hb1.size; (try simp at hs1); obtain ⟨hc1, hf1, hn1⟩ := bcell hb1; (try have hz1_w_0 : w.heap.size < w1.heap.size := by omega); (try have hz1_w_1 : w.heap.size + 1 < w1.heap.size := by omega); (try have hz1_w_2 : w.heap.size + 2 < w1.heap.size := by omega); (try have hz1_w_2b : w.heap.size + 1 + 1 < w1.heap.size := by omega))
      have hb0 : Below w.heap.size w w1 := (by repeat' (first | (with_reducible exact Below.refl _ _) | (with_reducible refine Below.alloc ?_ ?_ _) | (with_reducible refine Below.setCell ?_ ?_ _) | (with_reducible refine Below.drew ?_) | (with_reducible refine Below.trans ?_ (Below.mono (by with_reducible assumption) ?_)) | omega | (simp; done) | (simp; omega)))
      have hr1 : Row w1 (w.heap.size + 1) 29 (Pl.enc Pl.zero) := by
        have := (Row.new (w.alloc (.cells #[.int .i64 st, .int .i64 a, .int .i64 s, .int .i64 c, .int .i64 i, .int .i64 r, .int .i64 l] 29)) 29 #[.int .i64 0, .int .i64 0, .int .i64 0, .int .i64 0, .int .i64 0, .int .i64 0, .int .i64 0]).to hb1
        rw [World.size_alloc] at this
        exact this
      go_wp2_with fail
      generalize hg2 : w1.heap.size = g2
      have hgs : w.heap.size + 2 ≤ g2 := by omega
      have hb0 : Below w.heap.size w (w1.alloc (.cells #[.int .i64 st, .int .i64 a, .int .i64 s, .int .i64 c, .int .i64 i, .int .i64 r, .int .i64 l] 29)) := (by repeat' (first | (with_reducible exact Below.refl _ _) | (with_reducible refine Below.alloc ?_ ?_ _) | (with_reducible refine Below.setCell ?_ ?_ _) | (with_reducible refine Below.drew ?_) | (with_reducible refine Below.trans ?_ (Below.mono (by with_reducible assumption) ?_)) | omega | (simp; done) | (simp; omega)))
      have hr1 : Row (w1.alloc (.cells #[.int .i64 st, .int .i64 a, .int .i64 s, .int .i64 c, .int .i64 i, .int .i64 r, .int .i64 l] 29)) (w.heap.size + 1) 29 (Pl.enc Pl.zero) := hr1.to (by repeat' (first | (with_reducible exact Below.refl _ _) | (with_reducible refine Below.alloc ?_ ?_ _) | (with_reducible refine Below.setCell ?_ ?_ _) | (with_reducible refine Below.drew ?_) | (with_reducible refine Below.trans ?_ (Below.mono (by with_reducible assumption) ?_)) | omega | (simp; done) | (simp; omega)))
      have hr2 : Row (w1.alloc (.cells #[.int .i64 st, .int .i64 a, .int .i64 s, .int .i64 c, .int .i64 i, .int .i64 r, .int .i64 l] 29)) g2 29 (Pl.enc ⟨st, a, s, c, i, r, l⟩) := row_new_at w1 29 #[.int .i64 st, .int .i64 a, .int .i64 s, .int .i64 c, .int .i64 i, .int .i64 r, .int .i64 l] g2 hg2
      clear hc1 hf1 hn1 hb1
      go_loopw [8, 9] (fun cn ix wr => ∃ k : Nat, k ≤ xs.length ∧ ix = .int .i64 k ∧ cn = .int .i64 (rpS ⟨st, a, s, c, i, r, l⟩ xs k).2 ∧ Below w.heap.size w wr ∧ Row wr g2 29 (Pl.enc (rpS ⟨st, a, s, c, i, r, l⟩ xs k).1) ∧ Row wr (w.heap.size + 1) 29 (Pl.enc Pl.zero)) (fun _ ix _ => xs.length - (intOf ix).toNat)
      case atStart => exact ⟨0, Nat.zero_le _, rfl, rfl, hb0, hr2, hr1⟩
      case round =>
        clear hr1 hr2 hb0 hg2
        obtain ⟨k, hk, rfl, rfl, hb, hr0, hr1⟩ := hrel
        have hs := hb.size
        have hz0 := hr0.lt
        have hz1 := hr1.lt
        have hnn := rpS_bd ⟨st, a, s, c, i, r, l⟩ xs k
        by_cases hlt : k < xs.length
        · obtain ⟨b, o, rfl, hB, c0, c1, c2⟩ := pst_cells (h.below hb) hlt
          have hBr : b < wr.heap.size := by omega
          have hI : (k : Int) < xs.length := by omega
          have hI0 : (0 : Int) ≤ k := by omega
          have hS := @rpS.eq_2 ⟨st, a, s, c, i, r, l⟩ xs k
          have hok := rpS_ok xs HG.out k
          obtain ⟨⟨⟨q1, q2, q3, q4, q5, q6, q7⟩, n⟩, hQ⟩ : ∃ Q, rpS ⟨st, a, s, c, i, r, l⟩ xs k = Q := ⟨_, rfl⟩
          rw [hQ] at hr0 hS hnn hok
          simp only [hQ]
          simp only [] at hnn hS hok
          have hvk := hv.out k hlt
          have HR0 := Lib.hid hr0
          have HR1 := Lib.hid hr1
          obtain ⟨p0, p1, p2, p3, p4, p5, p6⟩ := row7r (show Row wr g2 29 [.int .i64 q1, .int .i64 q2, .int .i64 q3, .int .i64 q4, .int .i64 q5, .int .i64 q6, .int .i64 q7] from hr0)
          clear hr0 hr1
          have hps := fun W => l21Step_any (el xs k).k (el xs k).v (el xs k).s W
          cases hPS : psOK (el xs k).k (el xs k).v (el xs k).s
          · rw [hPS] at hps
            replace hps := Lib.hid hps
            have hT : Pl.stepB ⟨q1, q2, q3, q4, q5, q6, q7⟩ (el xs k).k (el xs k).v (el xs k).s = false := by simp [Pl.stepB, hPS]
            rw [hT] at hS
            have HS' := Lib.hid hS
            clear hS hT hPS hok hvk
            go_wp2_with fail
            (go_at_call 55; refine (hps.out _).mono ?_; rintro e w1 ⟨rfl, hb1⟩)
            (have hs1 := hb1.size; (try simp at hs1); obtain ⟨hc1, hf1, hn1⟩ := bcell hb1; (try have hz1_wr_0 : wr.heap.size < w1.heap.size := by omega); (try have hz1_wr_1 : wr.heap.size + 1 < w1.heap.size := by omega); (try have hz1_wr_2 : wr.heap.size + 2 < w1.heap.size := by omega); (try have hB1 : b < w1.heap.size := by omega); (try have hB2 : b' < w1.heap.size := by omega); (try have hz1_wr_2b : wr.heap.size + 1 + 1 < w1.heap.size := by omega); (try have hz1_w_0 : w.heap.size < w1.heap.size := by omega); (try have hz1_w_1 : w.heap.size + 1 < w1.heap.size := by omega); (try have hz1_w_2 : w.heap.size + 2 < w1.heap.size := by omega); (try have hz1_w_2b : w.heap.size + 1 + 1 < w1.heap.size := by omega))
            go_wp2_with fail
            go_roundw
            case rel => exact ⟨k + 1, by omega, by go_num, by rw [HS'.out]; rfl, (by repeat' (first | (with_reducible exact Below.refl _ _) | (with_reducible refine Below.alloc ?_ ?_ _) | (with_reducible refine Below.setCell ?_ ?_ _) | (with_reducible refine Below.drew ?_) | (with_reducible refine Below.trans ?_ (Below.mono (by with_reducible assumption) ?_)) | omega | (simp; done) | (simp; omega))), by rw [HS'.out]; exact HR0.out.to (by repeat' (first | (with_reducible exact Below.refl _ _) | (with_reducible refine Below.alloc ?_ ?_ _) | (with_reducible refine Below.setCell ?_ ?_ _) | (with_reducible refine Below.drew ?_) | (with_reducible refine Below.trans ?_ (Below.mono (by with_reducible assumption) ?_)) | omega | (simp; done) | (simp; omega))), HR1.out.to (by repeat' (first | (with_reducible exact Below.refl _ _) | (with_reducible refine Below.alloc ?_ ?_ _) | (with_reducible refine Below.setCell ?_ ?_ _) | (with_reducible refine Below.drew ?_) | (with_reducible refine Below.trans ?_ (Below.mono (by with_reducible assumption) ?_)) | omega | (simp; done) | (simp; omega)))⟩
            case measure => simp [intOf]; omega
          · rw [hPS] at hps
            replace hps := Lib.hid hps
            have hE := make_eq hok hPS
            have hst0 := fun W => l21Make_any q1 q2 q3 q4 q5 q6 q7 (el xs k).k (el xs k).v (el xs k).s W hok hPS hvk
            rw [hE.1] at hst0
            obtain ⟨⟨r1, r2, r3, r4, r5, r6, r7⟩, hR⟩ : ∃ Q, Pl.ssettle (Pl.sraw ⟨q1, q2, q3, q4, q5, q6, q7⟩ (el xs k).k (el xs k).v (el xs k).s) = Q := ⟨_, rfl⟩
            rw [hR] at hst0 hE
            have hst : ∀ W : World, Calls Try.prog 56 #[.agg #[.int .i64 q1, .int .i64 q2, .int .i64 q3, .int .i64 q4, .int .i64 q5, .int .i64 q6, .int .i64 q7], .agg #[.int .i64 (el xs k).k, .int .i64 (el xs k).v, .int .i64 (el xs k).s]] W fun e w' => e = .returned (.tuple #[.agg #[.int .i64 r1, .int .i64 r2, .int .i64 r3, .int .i64 r4, .int .i64 r5, .int .i64 r6, .int .i64 r7], .bool (Pl.stepB ⟨q1, q2, q3, q4, q5, q6, q7⟩ (el xs k).k (el xs k).v (el xs k).s)]) ∧ Below W.heap.size W w' := hst0
            clear hst0 hR hPS hok hvk
            have hE2 := hE.2
            clear hE
            have hst := Lib.hid hst
            replace hS := Lib.hid hS
            replace hE2 := Lib.hid hE2
            go_wp2_with fail
            (go_at_call 55; refine (hps.out _).mono ?_; rintro e w1 ⟨rfl, hb1⟩)
            (have hs1 := hb1.size; (try simp at hs1); obtain ⟨hc1, hf1, hn1⟩ := bcell hb1; (try have hz1_wr_0 : wr.heap.size < w1.heap.size := by omega); (try have hz1_wr_1 : wr.heap.size + 1 < w1.heap.size := by omega); (try have hz1_wr_2 : wr.heap.size + 2 < w1.heap.size := by omega); (try have hB1 : b < w1.heap.size := by omega); (try have hB2 : b' < w1.heap.size := by omega); (try have hz1_wr_2b : wr.heap.size + 1 + 1 < w1.heap.size := by omega); (try have hz1_w_0 : w.heap.size < w1.heap.size := by omega); (try have hz1_w_1 : w.heap.size + 1 < w1.heap.size := by omega); (try have hz1_w_2 : w.heap.size + 2 < w1.heap.size := by omega); (try have hz1_w_2b : w.heap.size + 1 + 1 < w1.heap.size := by omega))
            go_wp2_with fail
            have hx1 : Below wr.heap.size wr w1 := (by repeat' (first | (with_reducible exact Below.refl _ _) | (with_reducible refine Below.alloc ?_ ?_ _) | (with_reducible refine Below.setCell ?_ ?_ _) | (with_reducible refine Below.drew ?_) | (with_reducible refine Below.trans ?_ (Below.mono (by with_reducible assumption) ?_)) | omega | (simp; done) | (simp; omega)))
            refine cut_world (fun W => Below wr.heap.size wr W) hx1 ?_
            clear hb1 hs1 hc1 hf1 hn1 hx1
            (try clear hz1_wr_0); (try clear hz1_wr_1); (try clear hz1_wr_2); (try clear hz1_wr_2b); (try clear hz1_w_0); (try clear hz1_w_1); (try clear hz1_w_2); (try clear hz1_w_2b)
            intro w0 hb0
            have hs0 := hb0.size
            have hbw0 : Below w.heap.size w w0 := (by repeat' (first | (with_reducible exact Below.refl _ _) | (with_reducible refine Below.alloc ?_ ?_ _) | (with_reducible refine Below.setCell ?_ ?_ _) | (with_reducible refine Below.drew ?_) | (with_reducible refine Below.trans ?_ (Below.mono (by with_reducible assumption) ?_)) | omega | (simp; done) | (simp; omega)))
            have hR0 : Row w0 g2 29 [.int .i64 q1, .int .i64 q2, .int .i64 q3, .int .i64 q4, .int .i64 q5, .int .i64 q6, .int .i64 q7] := HR0.out.to hb0
            have hR1 : Row w0 (w.heap.size + 1) 29 (Pl.enc Pl.zero) := HR1.out.to hb0
            have hBl : b < w0.heap.size := by omega
            clear p0 p1 p2 p3 p4 p5 p6
            obtain ⟨p0, p1, p2, p3, p4, p5, p6⟩ := row7r hR0
            have d0 := (hb0.cell (p := ⟨b, o + k * 3, none⟩) hBr).trans c0
            have d1 := (hb0.cell (p := ⟨b, o + k * 3 + 1, none⟩) hBr).trans c1
            have d2 := (hb0.cell (p := ⟨b, o + k * 3 + 2, none⟩) hBr).trans c2
            have hz0' := hR0.lt
            clear c0 c1 c2
            apply wp_region_chain 10 [8] [] noJ (fun W W' => Below W.heap.size W W') [Sum.inl _, Sum.inl _, Sum.inl _, Sum.inl _, Sum.inl _, Sum.inl _, Sum.inl _, Sum.inl _, Sum.inl _, Sum.inr (fun u W => ∃ B, u = .pointer (some ⟨B, 0, none⟩) ∧ w0.heap.size ≤ B ∧ Row W B 29 [.int .i64 0, .int .i64 0, .int .i64 0, .int .i64 0, .int .i64 0, .int .i64 0, .int .i64 0])] (by kernel_rfl) (by kernel_rfl) (fun _ _ _ => below_trans) (below_draw _) trivial ?_
            rotate_left 9
            simp only [List.take_succ_cons, List.take_zero, List.drop_succ_cons, List.drop_zero]
            apply free_val (by rfl)
            · intro W hE hp hF; obtain ⟨hcE, hfE, hnE⟩ := bcell hE; have hsE := hE.size; unfold opOb; go_wp2_with fail; exact ⟨rfl, _, rfl, rfl, ⟨Below.refl _ _, noJ_post _ _ _⟩⟩
            simp only [Act.put, List.setIfInBounds_toArray, List.set_cons_succ, List.set_cons_zero]
            apply free_val (by rfl)
            · intro W hE hp hF; obtain ⟨hcE, hfE, hnE⟩ := bcell hE; have hsE := hE.size; unfold opOb; go_wp2_with fail; exact ⟨rfl, _, rfl, rfl, ⟨Below.refl _ _, noJ_post _ _ _⟩⟩
            simp only [Act.put, List.setIfInBounds_toArray, List.set_cons_succ, List.set_cons_zero]
            apply free_val (by rfl)
            · intro W hE hp hF; obtain ⟨hcE, hfE, hnE⟩ := bcell hE; have hsE := hE.size; unfold opOb; go_wp2_with fail; exact ⟨rfl, _, rfl, rfl, ⟨Below.refl _ _, noJ_post _ _ _⟩⟩
            simp only [Act.put, List.setIfInBounds_toArray, List.set_cons_succ, List.set_cons_zero]
            apply free_val (by rfl)
            · intro W hE hp hF; obtain ⟨hcE, hfE, hnE⟩ := bcell hE; have hsE := hE.size; unfold opOb; go_wp2_with fail; exact ⟨rfl, _, rfl, rfl, ⟨Below.refl _ _, noJ_post _ _ _⟩⟩
            simp only [Act.put, List.setIfInBounds_toArray, List.set_cons_succ, List.set_cons_zero]
            apply free_val (by rfl)
            · intro W hE hp hF; obtain ⟨hcE, hfE, hnE⟩ := bcell hE; have hsE := hE.size; unfold opOb; go_wp2_with fail; exact ⟨rfl, _, rfl, rfl, ⟨Below.refl _ _, noJ_post _ _ _⟩⟩
            simp only [Act.put, List.setIfInBounds_toArray, List.set_cons_succ, List.set_cons_zero]
            apply free_val (by rfl)
            · intro W hE hp hF; obtain ⟨hcE, hfE, hnE⟩ := bcell hE; have hsE := hE.size; unfold opOb; go_wp2_with fail; (go_at_call 56; refine (hst.out _).mono ?_; rintro e WX ⟨rfl, hbX⟩); go_wp2_with fail; exact ⟨rfl, _, rfl, rfl, ⟨hbX, noJ_post _ _ _⟩⟩
            simp only [Act.put, List.setIfInBounds_toArray, List.set_cons_succ, List.set_cons_zero]
            apply free_val (by rfl)
            · intro W hE hp hF; obtain ⟨hcE, hfE, hnE⟩ := bcell hE; have hsE := hE.size; unfold opOb; go_wp2_with fail; exact ⟨rfl, _, rfl, rfl, ⟨Below.refl _ _, noJ_post _ _ _⟩⟩
            simp only [Act.put, List.setIfInBounds_toArray, List.set_cons_succ, List.set_cons_zero]
            apply free_val (by rfl)
            · intro W hE hp hF; obtain ⟨hcE, hfE, hnE⟩ := bcell hE; have hsE := hE.size; unfold opOb; go_wp2_with fail; exact ⟨rfl, _, rfl, rfl, ⟨Below.refl _ _, noJ_post _ _ _⟩⟩
            simp only [Act.put, List.setIfInBounds_toArray, List.set_cons_succ, List.set_cons_zero]
            apply free_late (by rfl) (by rfl)
            · intro W; unfold opOb; go_wp2_with fail; exact ⟨rfl, _, rfl, rfl, rfl⟩
            simp only [Act.put, List.setIfInBounds_toArray, List.set_cons_succ, List.set_cons_zero]
            apply free_has (by rfl)
            · exact (fun u W W' hb ⟨B, e, h1, h2⟩ => ⟨B, e, h1, h2.to hb⟩)
            · intro W hE hp hF; obtain ⟨hcE, hfE, hnE⟩ := bcell hE; have hsE := hE.size; unfold opOb; go_wp2_with fail; exact ⟨rfl, _, rfl, ⟨_, rfl, (by first | omega | (simp; omega)), Row.new _ _ _⟩, ⟨(Below.refl _ _).alloc (Nat.le_refl _) _, noJ_post _ _ _⟩⟩
            intro uX1
            simp only [Act.put, List.setIfInBounds_toArray, List.set_cons_succ, List.set_cons_zero]
            apply free_end
            intro w5 hEw5 hJF hGF
            clear hJF
            obtain ⟨BX1, rfl, hlX1, rowX1⟩ := hGF.2
            clear hGF
            obtain ⟨y0, y1, y2, y3, y4, y5, y6⟩ := row7r rowX1
            have yf := rowX1.frozen
            have hzx := rowX1.lt
            have hs5 := hEw5.size
            have hne1 : g2 ≠ BX1 := by omega
            have hne2 : w.heap.size + 1 ≠ BX1 := by omega
            have HX := Lib.hid rowX1
            clear rowX1
            go_wp2_with fail
            refine normal_of ?_
            refine cut_world (fun W => Row W BX1 29 [.int .i64 r1, .int .i64 r2, .int .i64 r3, .int .i64 r4, .int .i64 r5, .int .i64 r6, .int .i64 r7] ∧ Row W g2 29 [.int .i64 q1, .int .i64 q2, .int .i64 q3, .int .i64 q4, .int .i64 q5, .int .i64 q6, .int .i64 q7] ∧ Row W (w.heap.size + 1) 29 (Pl.enc Pl.zero) ∧ Below w.heap.size w W) ⟨(((((((HX.out.set (j := 0) (.int .i64 r1)).set (j := 1) (.int .i64 r2)).set (j := 2) (.int .i64 r3)).set (j := 3) (.int .i64 r4)).set (j := 4) (.int .i64 r5)).set (j := 5) (.int .i64 r6)).set (j := 6) (.int .i64 r7)), ((((((((hR0.to hEw5).far (p := ⟨BX1, 0, none⟩) hne1 (.int .i64 r1)).far (p := ⟨BX1, 1, none⟩) hne1 (.int .i64 r2)).far (p := ⟨BX1, 2, none⟩) hne1 (.int .i64 r3)).far (p := ⟨BX1, 3, none⟩) hne1 (.int .i64 r4)).far (p := ⟨BX1, 4, none⟩) hne1 (.int .i64 r5)).far (p := ⟨BX1, 5, none⟩) hne1 (.int .i64 r6)).far (p := ⟨BX1, 6, none⟩) hne1 (.int .i64 r7)), ((((((((hR1.to hEw5).far (p := ⟨BX1, 0, none⟩) hne2 (.int .i64 r1)).far (p := ⟨BX1, 1, none⟩) hne2 (.int .i64 r2)).far (p := ⟨BX1, 2, none⟩) hne2 (.int .i64 r3)).far (p := ⟨BX1, 3, none⟩) hne2 (.int .i64 r4)).far (p := ⟨BX1, 4, none⟩) hne2 (.int .i64 r5)).far (p := ⟨BX1, 5, none⟩) hne2 (.int .i64 r6)).far (p := ⟨BX1, 6, none⟩) hne2 (.int .i64 r7)), (by repeat' (first | (with_reducible exact Below.refl _ _) | (with_reducible refine Below.alloc ?_ ?_ _) | (with_reducible refine Below.setCell ?_ ?_ _) | (with_reducible refine Below.drew ?_) | (with_reducible refine Below.trans ?_ (Below.mono (by with_reducible assumption) ?_)) | omega | (simp; done) | (simp; omega)))⟩ ?_
            clear HX y0 y1 y2 y3 y4 y5 y6 yf hzx hs5 hEw5 hR0 hR1 hbw0 hs0 hb0 hBl p0 p1 p2 p3 p4 p5 p6 d0 d1 d2 hz0' w5
            have hne3 : w.heap.size + 1 ≠ g2 := by omega
            rintro w6 ⟨hX, hR0, hR1, hbw6⟩
            have hs6 := hbw6.size
            cases hT : Pl.stepB ⟨q1, q2, q3, q4, q5, q6, q7⟩ (el xs k).k (el xs k).v (el xs k).s
            · have HS' := hS.out
              rw [hT] at HS'
              replace HS' := Lib.hid HS'
              have HR0' := Lib.hid hR0
              have HR1' := Lib.hid hR1
              clear hT hX hR0 hR1
              go_wp2_with fail
              go_roundw
              case rel => exact ⟨k + 1, by omega, by go_num, by rw [HS'.out]; rfl, (by repeat' (first | (with_reducible exact Below.refl _ _) | (with_reducible refine Below.alloc ?_ ?_ _) | (with_reducible refine Below.setCell ?_ ?_ _) | (with_reducible refine Below.drew ?_) | (with_reducible refine Below.trans ?_ (Below.mono (by with_reducible assumption) ?_)) | omega | (simp; done) | (simp; omega))), by rw [HS'.out]; exact HR0'.out.to (by repeat' (first | (with_reducible exact Below.refl _ _) | (with_reducible refine Below.alloc ?_ ?_ _) | (with_reducible refine Below.setCell ?_ ?_ _) | (with_reducible refine Below.drew ?_) | (with_reducible refine Below.trans ?_ (Below.mono (by with_reducible assumption) ?_)) | omega | (simp; done) | (simp; omega))), HR1'.out.to (by repeat' (first | (with_reducible exact Below.refl _ _) | (with_reducible refine Below.alloc ?_ ?_ _) | (with_reducible refine Below.setCell ?_ ?_ _) | (with_reducible refine Below.drew ?_) | (with_reducible refine Below.trans ?_ (Below.mono (by with_reducible assumption) ?_)) | omega | (simp; done) | (simp; omega)))⟩
              case measure => simp [intOf]; omega
            · have HS' := hS.out
              rw [hE2.out hT, hT] at HS'
              replace HS' := Lib.hid HS'
              obtain ⟨x0, x1, x2, x3, x4, x5, x6⟩ := row7r hX
              obtain ⟨p0, p1, p2, p3, p4, p5, p6⟩ := row7r hR0
              have pf0 := hR0.frozen
              have pz0 := hR0.lt
              have pz1 := hX.lt
              have R2 := Lib.hid (((((((hR0.set (j := 0) (.int .i64 r1)).set (j := 1) (.int .i64 r2)).set (j := 2) (.int .i64 r3)).set (j := 3) (.int .i64 r4)).set (j := 4) (.int .i64 r5)).set (j := 5) (.int .i64 r6)).set (j := 6) (.int .i64 r7))
              have R1 := Lib.hid (((((((hR1.far (p := ⟨g2, 0, none⟩) hne3 (.int .i64 r1)).far (p := ⟨g2, 1, none⟩) hne3 (.int .i64 r2)).far (p := ⟨g2, 2, none⟩) hne3 (.int .i64 r3)).far (p := ⟨g2, 3, none⟩) hne3 (.int .i64 r4)).far (p := ⟨g2, 4, none⟩) hne3 (.int .i64 r5)).far (p := ⟨g2, 5, none⟩) hne3 (.int .i64 r6)).far (p := ⟨g2, 6, none⟩) hne3 (.int .i64 r7))
              clear hT hX hR0 hR1
              go_wp2_with fail
              go_roundw
              case rel => exact ⟨k + 1, by omega, by go_num, by rw [HS'.out]; go_num, (by repeat' (first | (with_reducible exact Below.refl _ _) | (with_reducible refine Below.alloc ?_ ?_ _) | (with_reducible refine Below.setCell ?_ ?_ _) | (with_reducible refine Below.drew ?_) | (with_reducible refine Below.trans ?_ (Below.mono (by with_reducible assumption) ?_)) | omega | (simp; done) | (simp; omega))), by rw [HS'.out]; exact R2.out.to (by repeat' (first | (with_reducible exact Below.refl _ _) | (with_reducible refine Below.alloc ?_ ?_ _) | (with_reducible refine Below.setCell ?_ ?_ _) | (with_reducible refine Below.drew ?_) | (with_reducible refine Below.trans ?_ (Below.mono (by with_reducible assumption) ?_)) | omega | (simp; done) | (simp; omega))), R1.out.to (by repeat' (first | (with_reducible exact Below.refl _ _) | (with_reducible refine Below.alloc ?_ ?_ _) | (with_reducible refine Below.setCell ?_ ?_ _) | (with_reducible refine Below.drew ?_) | (with_reducible refine Below.trans ?_ (Below.mono (by with_reducible assumption) ?_)) | omega | (simp; done) | (simp; omega)))⟩
              case measure => simp [intOf]; omega
        · obtain rfl : k = xs.length := by omega
          have HR0 := Lib.hid hr0
          obtain ⟨⟨⟨q1, q2, q3, q4, q5, q6, q7⟩, n⟩, hQ⟩ : ∃ Q, rpS ⟨st, a, s, c, i, r, l⟩ xs xs.length = Q := ⟨_, rfl⟩
          rw [hQ] at hr0
          have HO' := Lib.hid (HO.out.trans hQ)
          simp only [hQ]
          obtain ⟨p0, p1, p2, p3, p4, p5, p6⟩ := row7r (show Row wr g2 29 [.int .i64 q1, .int .i64 q2, .int .i64 q3, .int .i64 q4, .int .i64 q5, .int .i64 q6, .int .i64 q7] from hr0)
          obtain ⟨t0, t1, t2, t3, t4, t5, t6⟩ := row7r (show Row wr (w.heap.size + 1) 29 [.int .i64 0, .int .i64 0, .int .i64 0, .int .i64 0, .int .i64 0, .int .i64 0, .int .i64 0] from hr1)
          have tf := hr1.frozen
          clear hr0 hr1 hQ
          go_wp2
          ((try simp only [Exit.inBlock, Exit.then]); refine bodyPost_ret (by simp [results, Try.results35, go_sem, *]; try rfl) rfl ?_)
          exact ⟨by rw [HB.out, HO'.out]; rfl, (by repeat' (first | (with_reducible exact Below.refl _ _) | (with_reducible refine Below.alloc ?_ ?_ _) | (with_reducible refine Below.setCell ?_ ?_ _) | (with_reducible refine Below.drew ?_) | (with_reducible refine Below.trans ?_ (Below.mono (by with_reducible assumption) ?_)) | omega | (simp; done) | (simp; omega)))⟩
    · have HB := Lib.hid (show rpB ⟨st, a, s, c, i, r, l⟩ xs = false by simp [rpB, hG, hx])
      have HO := Lib.hid (show rpO ⟨st, a, s, c, i, r, l⟩ xs = (Pl.zero, 0) by simp [rpO, HB.out])
      have hxi : (40 : Int) < xs.length := by omega
      go_enter Try.func35, Try.ntmps35
      go_wp2_with fail
      (go_at_call 43; refine (hc.out _).mono ?_; rintro e w1 ⟨rfl, hb1⟩)
      (have hs1 := hb1.size; (try simp at hs1); obtain ⟨hc1, hf1, hn1⟩ := bcell hb1; (try have hz1_w_0 : w.heap.size < w1.heap.size := by omega); (try have hz1_w_1 : w.heap.size + 1 < w1.heap.size := by omega); (try have hz1_w_2 : w.heap.size + 2 < w1.heap.size := by omega); (try have hz1_w_2b : w.heap.size + 1 + 1 < w1.heap.size := by omega))
      go_wp2_with fail
      ((try simp only [Exit.inBlock, Exit.then]); refine bodyPost_ret (by simp [results, Try.results35, go_sem, *]; try rfl) rfl ?_)
      exact ⟨by rw [HB.out, HO.out]; rfl, (by repeat' (first | (with_reducible exact Below.refl _ _) | (with_reducible refine Below.alloc ?_ ?_ _) | (with_reducible refine Below.setCell ?_ ?_ _) | (with_reducible refine Below.drew ?_) | (with_reducible refine Below.trans ?_ (Below.mono (by with_reducible assumption) ?_)) | omega | (simp; done) | (simp; omega)))⟩
end Go.Proofs.Ytmfahekkcgnndaa
