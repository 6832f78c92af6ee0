/- A step of a pool: the reference model (chapter 21). -/
import Derived.Test.YtmfahekkcgnndaaDoorMakeTwo
import Derived.Test.YtmfahekkcgnndaaDoorMakeThree
import Derived.Test.YtmfahekkcgnndaaDoorMakeFour
import Derived.Deep.Cut
set_option linter.unusedSimpArgs false
set_option linter.unusedVariables false
namespace Go.Proofs.YtmfahekkcgnndaaDoor
open Go.RowKit Go.Sort Go.Salt
attribute [local go_sem] cell_rg
attribute [local go_sem ↓] run_max_mx run_min_mn
theorem make_eq {p : Pl} {k v z : Int} (hp : p.ok = true) (hs : psOK k v z = true) : (p.say k v && (p.sraw k v z).ssettle.ok) = p.stepB k v z ∧ (p.stepB k v z = true → p.step k v z = (p.sraw k v z).ssettle) := by
  have h1 := say_can hp hs
  have hB : p.stepB k v z = p.can k v z := by simp [Pl.stepB, hp, hs]
  have e1 : (p.say k v && (p.sraw k v z).ssettle.ok) = p.can k v z := by
    rw [← h1.1]
    cases hy : p.say k v
    · rfl
    · rw [ssettle_eq (say_c hp hs hy)]
  refine ⟨by rw [e1, hB], fun h2 => ?_⟩
  have h3 := h1.2 (hB ▸ h2)
  have h4 : p.say k v = true := by
    have h5 := h1.1
    rw [← hB, h2, Bool.and_eq_true] at h5
    exact h5.1
  simp only [Pl.step, h2, if_true, h3]
  rw [ssettle_eq (say_c hp hs h4)]
set_option maxHeartbeats 4000000 in
theorem l21Make_any (st a s c i r l k v z : Int) (w : World) (hp : Pl.ok ⟨st, a, s, c, i, r, l⟩ = true) (hs : psOK k v z = true) (hv : v ≤ 9223372036854775807) :
    Calls Tryd.prog 55 #[.agg #[.int .i64 st, .int .i64 a, .int .i64 s, .int .i64 c, .int .i64 i, .int .i64 r, .int .i64 l], .agg #[.int .i64 k, .int .i64 v, .int .i64 z]] w fun e w' => e = .returned (.tuple #[.agg (Pl.sraw ⟨st, a, s, c, i, r, l⟩ k v z).ssettle.enc.toArray, .bool (Pl.say ⟨st, a, s, c, i, r, l⟩ k v && (Pl.sraw ⟨st, a, s, c, i, r, l⟩ k v z).ssettle.ok)]) ∧ Below w.heap.size w w' := by
  have hb := ok_bd hp
  have hsm := (sraw_sm hp hs).1
  simp only at hb
  by_cases k1 : k = 1
  · subst k1
    rw [psOK, if_pos rfl, Bool.and_eq_true, Bool.and_eq_true] at hs
    exact l21Make_fill st a s c i r l v z w hb (inB_iff.1 hs.1) (inB_iff.1 hs.2.1) hsm
  · by_cases k2 : k = 2 ∨ k = 3 ∨ k = 4
    · simp only [psOK, if_neg k1, if_pos k2, Bool.and_eq_true, decide_eq_true_eq] at hs
      rcases k2 with rfl | rfl | rfl
      · exact l21Make_sun st a s c i r l v z w hb hs.1 hv hsm
      · exact l21Make_rain st a s c i r l v z w hb hs.1 hv hsm
      · exact l21Make_rake st a s c i r l v z w hb hs.1 hv hsm
    · simp only [psOK, if_neg k1, if_neg k2, Bool.and_eq_true] at hs
      have hk := inB_iff.1 hs.1
      obtain rfl | rfl : k = 5 ∨ k = 6 := by omega
      · exact l21Make_drain st a s c i r l v z w hb hsm
      · exact l21Make_clean st a s c i r l v z w hb hsm
set_option maxRecDepth 100000 in
set_option maxHeartbeats 60000000 in
theorem sStepPool_any (st a s c i r l k v z : Int) (w : World) (hv : v ≤ 9223372036854775807) :
    Calls Tryd.prog 48 #[.agg #[.int .i64 st, .int .i64 a, .int .i64 s, .int .i64 c, .int .i64 i, .int .i64 r, .int .i64 l], .agg #[.int .i64 k, .int .i64 v, .int .i64 z]] w fun e w' => e = .returned (.tuple #[.agg (Pl.step ⟨st, a, s, c, i, r, l⟩ k v z).enc.toArray, .bool (Pl.stepB ⟨st, a, s, c, i, r, l⟩ k v z)]) ∧ Below w.heap.size w w' := by
  cases hG : Pl.ok ⟨st, a, s, c, i, r, l⟩
  · have Hno := Lib.hid (show Pl.stepB ⟨st, a, s, c, i, r, l⟩ k v z = false by simp [Pl.stepB, hG])
    have hc := fun W => l21Good_any st a s c i r l W
    rw [show poolOK st a s c i r l = false from hG] at hc
    replace hc := Lib.hid hc
    go_enter Tryd.func48, Tryd.ntmps48
    go_wp2_with fail
    (go_at_call 21; refine (hc.out _).mono ?_; rintro e w1 ⟨rfl, hb1⟩)
    (have hs1 := hb1.size; (try simp at hs1); obtain ⟨hc1, hf1, hn1⟩ := bcell hb1; (try have hz1_w_0 : w.heap.size < w1.heap.size := by omega); (try have hz1_w_1 : w.heap.size + 1 < w1.heap.size := by omega); (try have hz1_w_2 : w.heap.size + 2 < w1.heap.size := by omega); (try have hz1_w_2b : w.heap.size + 1 + 1 < w1.heap.size := by omega))
    go_wp2_with fail
    ((try simp only [Exit.inBlock, Exit.then]); refine bodyPost_ret (by simp [results, Tryd.results48, go_sem, *]; try rfl) rfl ?_)
    exact ⟨by rw [step_no Hno.out, Hno.out]; rfl, (by repeat' (first | (with_reducible exact Below.refl _ _) | (with_reducible refine Below.alloc ?_ ?_ _) | (with_reducible refine Below.setCell ?_ ?_ _) | (with_reducible refine Below.drew ?_) | (with_reducible refine Below.trans ?_ (Below.mono (by with_reducible assumption) ?_)) | omega | (simp; done) | (simp; omega)))⟩
  · cases hS : psOK k v z
    · have Hno := Lib.hid (show Pl.stepB ⟨st, a, s, c, i, r, l⟩ k v z = false by simp [Pl.stepB, hS])
      have hc := fun W => l21Good_any st a s c i r l W
      rw [show poolOK st a s c i r l = true from hG] at hc
      replace hc := Lib.hid hc
      have hd := fun W => l21Step_any k v z W
      rw [hS] at hd
      replace hd := Lib.hid hd
      go_enter Tryd.func48, Tryd.ntmps48
      go_wp2_with fail
      (go_at_call 21; refine (hc.out _).mono ?_; rintro e w1 ⟨rfl, hb1⟩)
      (have hs1 := hb1.size; (try simp at hs1); obtain ⟨hc1, hf1, hn1⟩ := bcell hb1; (try have hz1_w_0 : w.heap.size < w1.heap.size := by omega); (try have hz1_w_1 : w.heap.size + 1 < w1.heap.size := by omega); (try have hz1_w_2 : w.heap.size + 2 < w1.heap.size := by omega); (try have hz1_w_2b : w.heap.size + 1 + 1 < w1.heap.size := by omega))
      go_wp2_with fail
      (go_at_call 54; refine (hd.out _).mono ?_; rintro e w2 ⟨rfl, hb2⟩)
      (have hs2 := hb2.size; (try simp at hs2); obtain ⟨hc2, hf2, hn2⟩ := bcell hb2; (try have hz2_w_0 : w.heap.size < w2.heap.size := by omega); (try have hz2_w_1 : w.heap.size + 1 < w2.heap.size := by omega); (try have hz2_w_2 : w.heap.size + 2 < w2.heap.size := by omega); (try have hz2_w_2b : w.heap.size + 1 + 1 < w2.heap.size := by omega); (try have hz2_w1_0 : w1.heap.size < w2.heap.size := by omega); (try have hz2_w1_1 : w1.heap.size + 1 < w2.heap.size := by omega); (try have hz2_w1_2 : w1.heap.size + 2 < w2.heap.size := by omega); (try have hz2_w1_2b : w1.heap.size + 1 + 1 < w2.heap.size := by omega))
      go_wp2_with fail
      ((try simp only [Exit.inBlock, Exit.then]); refine bodyPost_ret (by simp [results, Tryd.results48, go_sem, *]; try rfl) rfl ?_)
      exact ⟨by rw [step_no Hno.out, Hno.out]; rfl, (by repeat' (first | (with_reducible exact Below.refl _ _) | (with_reducible refine Below.alloc ?_ ?_ _) | (with_reducible refine Below.setCell ?_ ?_ _) | (with_reducible refine Below.drew ?_) | (with_reducible refine Below.trans ?_ (Below.mono (by with_reducible assumption) ?_)) | omega | (simp; done) | (simp; omega)))⟩
    · have hc := fun W => l21Good_any st a s c i r l W
      rw [show poolOK st a s c i r l = true from hG] at hc
      replace hc := Lib.hid hc
      have hd := fun W => l21Step_any k v z W
      rw [hS] at hd
      replace hd := Lib.hid hd
      have hm := make_eq hG hS
      have hM := fun W => l21Make_any st a s c i r l k v z W hG hS hv
      rw [hm.1] at hM
      obtain ⟨Q, hQ0⟩ : ∃ Q, Pl.ssettle (Pl.sraw ⟨st, a, s, c, i, r, l⟩ k v z) = Q := ⟨_, rfl⟩
      rw [hQ0] at hM hm
      clear hQ0 hG hS
      obtain ⟨q1, q2, q3, q4, q5, q6, q7⟩ := Q
      (replace hM : ∀ W : World, Calls Tryd.prog 55 #[.agg #[.int .i64 st, .int .i64 a, .int .i64 s, .int .i64 c, .int .i64 i, .int .i64 r, .int .i64 l], .agg #[.int .i64 k, .int .i64 v, .int .i64 z]] W fun e w' => e = .returned (.tuple #[.agg #[.int .i64 q1, .int .i64 q2, .int .i64 q3, .int .i64 q4, .int .i64 q5, .int .i64 q6, .int .i64 q7], .bool (Pl.stepB ⟨st, a, s, c, i, r, l⟩ k v z)]) ∧ Below W.heap.size W w' := hM)
      cases hB : Pl.stepB ⟨st, a, s, c, i, r, l⟩ k v z
      · have Hno := Lib.hid hB
        rw [hB] at hM
        replace hM := Lib.hid hM
        clear hm hB
        go_enter Tryd.func48, Tryd.ntmps48
        go_wp2_with fail
        (go_at_call 21; refine (hc.out _).mono ?_; rintro e w1 ⟨rfl, hb1⟩)
        (have hs1 := hb1.size; (try simp at hs1); obtain ⟨hc1, hf1, hn1⟩ := bcell hb1; (try have hz1_w_0 : w.heap.size < w1.heap.size := by omega); (try have hz1_w_1 : w.heap.size + 1 < w1.heap.size := by omega); (try have hz1_w_2 : w.heap.size + 2 < w1.heap.size := by omega); (try have hz1_w_2b : w.heap.size + 1 + 1 < w1.heap.size := by omega))
        go_wp2_with fail
        (go_at_call 54; refine (hd.out _).mono ?_; rintro e w2 ⟨rfl, hb2⟩)
        (have hs2 := hb2.size; (try simp at hs2); obtain ⟨hc2, hf2, hn2⟩ := bcell hb2; (try have hz2_w_0 : w.heap.size < w2.heap.size := by omega); (try have hz2_w_1 : w.heap.size + 1 < w2.heap.size := by omega); (try have hz2_w_2 : w.heap.size + 2 < w2.heap.size := by omega); (try have hz2_w_2b : w.heap.size + 1 + 1 < w2.heap.size := by omega); (try have hz2_w1_0 : w1.heap.size < w2.heap.size := by omega); (try have hz2_w1_1 : w1.heap.size + 1 < w2.heap.size := by omega); (try have hz2_w1_2 : w1.heap.size + 2 < w2.heap.size := by omega); (try have hz2_w1_2b : w1.heap.size + 1 + 1 < w2.heap.size := by omega))
        go_wp2_with fail
        refine (hM.out _).mono ?_
        rintro e w3 ⟨rfl, hb3⟩
        (have hs3 := hb3.size; (try simp at hs3); obtain ⟨hc3, hf3, hn3⟩ := bcell hb3; (have hz3 : w.heap.size + 2 < w3.heap.size := by omega))
        have hres : Row w3 (w.heap.size + 2) 30 (Pl.enc Pl.zero) := (row_new_at ((w.alloc (.cells #[.int .i64 st, .int .i64 a, .int .i64 s, .int .i64 c, .int .i64 i, .int .i64 r, .int .i64 l] 30)).alloc (.cells #[.int .i64 k, .int .i64 v, .int .i64 z] 41)) 30 #[.int .i64 0, .int .i64 0, .int .i64 0, .int .i64 0, .int .i64 0, .int .i64 0, .int .i64 0] (w.heap.size + 2) (by simp)).to (show Below _ _ w3 from (by repeat' (first | (with_reducible exact Below.refl _ _) | (with_reducible refine Below.alloc ?_ ?_ _) | (with_reducible refine Below.setCell ?_ ?_ _) | (with_reducible refine Below.drew ?_) | (with_reducible refine Below.trans ?_ (Below.mono (by with_reducible assumption) ?_)) | omega | (simp; done) | (simp; omega))))
        refine cut_world (fun W => Row W (w.heap.size + 2) 30 (Pl.enc Pl.zero) ∧ Below w.heap.size w W) ⟨hres, (by repeat' (first | (with_reducible exact Below.refl _ _) | (with_reducible refine Below.alloc ?_ ?_ _) | (with_reducible refine Below.setCell ?_ ?_ _) | (with_reducible refine Below.drew ?_) | (with_reducible refine Below.trans ?_ (Below.mono (by with_reducible assumption) ?_)) | omega | (simp; done) | (simp; omega)))⟩ ?_
        clear hres hc1 hf1 hn1 hc2 hf2 hn2 hc3 hf3 hn3 hb1 hb2 hb3 hs1 hs2 hs3 hz3 hz1_w_0 hz1_w_1 hz1_w_2 hz1_w_2b hz2_w_0 hz2_w_1 hz2_w_2 hz2_w_2b
        rintro W ⟨hres, hbW⟩
        have hsW := hbW.size
        obtain ⟨t0, t1, t2, t3, t4, t5, t6⟩ := row7 hres
        simp only [Pl.zero] at t0 t1 t2 t3 t4 t5 t6
        have tf := hres.frozen
        have hz4 := hres.lt
        have Hres := Lib.hid hres
        clear hres
        go_upto_region 5 with fail
        refine cut_world (fun W => Row W (w.heap.size + 2) 30 (Pl.enc Pl.zero) ∧ Below w.heap.size w W) ⟨Hres.out.to (by repeat' (first | (with_reducible exact Below.refl _ _) | (with_reducible refine Below.alloc ?_ ?_ _) | (with_reducible refine Below.setCell ?_ ?_ _) | (with_reducible refine Below.drew ?_) | (with_reducible refine Below.trans ?_ (Below.mono (by with_reducible assumption) ?_)) | omega | (simp; done) | (simp; omega))), (by repeat' (first | (with_reducible exact Below.refl _ _) | (with_reducible refine Below.alloc ?_ ?_ _) | (with_reducible refine Below.setCell ?_ ?_ _) | (with_reducible refine Below.drew ?_) | (with_reducible refine Below.trans ?_ (Below.mono (by with_reducible assumption) ?_)) | omega | (simp; done) | (simp; omega)))⟩ ?_
        clear Hres tf t0 t1 t2 t3 t4 t5 t6 hz4 hsW hbW
        generalize W.heap.size = BO
        clear W
        rintro W ⟨hres, hbW⟩
        have hsW := hbW.size
        obtain ⟨t0, t1, t2, t3, t4, t5, t6⟩ := row7 hres
        simp only [Pl.zero] at t0 t1 t2 t3 t4 t5 t6
        have tf := hres.frozen
        have hz4 := hres.lt
        clear hres
        go_wp2_with fail
        ((try simp only [Exit.inBlock, Exit.then]); refine bodyPost_ret (by simp [results, Tryd.results48, go_sem, *]; try rfl) rfl ?_)
        exact ⟨by rw [step_no Hno.out]; rfl, (by repeat' (first | (with_reducible exact Below.refl _ _) | (with_reducible refine Below.alloc ?_ ?_ _) | (with_reducible refine Below.setCell ?_ ?_ _) | (with_reducible refine Below.drew ?_) | (with_reducible refine Below.trans ?_ (Below.mono (by with_reducible assumption) ?_)) | omega | (simp; done) | (simp; omega)))⟩
      · have Hyes := Lib.hid hB
        have Heq := Lib.hid (hm.2 hB)
        rw [hB] at hM
        replace hM := Lib.hid hM
        clear hm hB
        go_enter Tryd.func48, Tryd.ntmps48
        go_wp2_with fail
        (go_at_call 21; refine (hc.out _).mono ?_; rintro e w1 ⟨rfl, hb1⟩)
        (have hs1 := hb1.size; (try simp at hs1); obtain ⟨hc1, hf1, hn1⟩ := bcell hb1; (try have hz1_w_0 : w.heap.size < w1.heap.size := by omega); (try have hz1_w_1 : w.heap.size + 1 < w1.heap.size := by omega); (try have hz1_w_2 : w.heap.size + 2 < w1.heap.size := by omega); (try have hz1_w_2b : w.heap.size + 1 + 1 < w1.heap.size := by omega))
        go_wp2_with fail
        (go_at_call 54; refine (hd.out _).mono ?_; rintro e w2 ⟨rfl, hb2⟩)
        (have hs2 := hb2.size; (try simp at hs2); obtain ⟨hc2, hf2, hn2⟩ := bcell hb2; (try have hz2_w_0 : w.heap.size < w2.heap.size := by omega); (try have hz2_w_1 : w.heap.size + 1 < w2.heap.size := by omega); (try have hz2_w_2 : w.heap.size + 2 < w2.heap.size := by omega); (try have hz2_w_2b : w.heap.size + 1 + 1 < w2.heap.size := by omega); (try have hz2_w1_0 : w1.heap.size < w2.heap.size := by omega); (try have hz2_w1_1 : w1.heap.size + 1 < w2.heap.size := by omega); (try have hz2_w1_2 : w1.heap.size + 2 < w2.heap.size := by omega); (try have hz2_w1_2b : w1.heap.size + 1 + 1 < w2.heap.size := by omega))
        go_wp2_with fail
        refine (hM.out _).mono ?_
        rintro e w3 ⟨rfl, hb3⟩
        (have hs3 := hb3.size; (try simp at hs3); obtain ⟨hc3, hf3, hn3⟩ := bcell hb3; (have hz3 : w.heap.size + 2 < w3.heap.size := by omega))
        have hres : Row w3 (w.heap.size + 2) 30 (Pl.enc Pl.zero) := (row_new_at ((w.alloc (.cells #[.int .i64 st, .int .i64 a, .int .i64 s, .int .i64 c, .int .i64 i, .int .i64 r, .int .i64 l] 30)).alloc (.cells #[.int .i64 k, .int .i64 v, .int .i64 z] 41)) 30 #[.int .i64 0, .int .i64 0, .int .i64 0, .int .i64 0, .int .i64 0, .int .i64 0, .int .i64 0] (w.heap.size + 2) (by simp)).to (show Below _ _ w3 from (by repeat' (first | (with_reducible exact Below.refl _ _) | (with_reducible refine Below.alloc ?_ ?_ _) | (with_reducible refine Below.setCell ?_ ?_ _) | (with_reducible refine Below.drew ?_) | (with_reducible refine Below.trans ?_ (Below.mono (by with_reducible assumption) ?_)) | omega | (simp; done) | (simp; omega))))
        refine cut_world (fun W => Row W (w.heap.size + 2) 30 (Pl.enc Pl.zero) ∧ Below w.heap.size w W) ⟨hres, (by repeat' (first | (with_reducible exact Below.refl _ _) | (with_reducible refine Below.alloc ?_ ?_ _) | (with_reducible refine Below.setCell ?_ ?_ _) | (with_reducible refine Below.drew ?_) | (with_reducible refine Below.trans ?_ (Below.mono (by with_reducible assumption) ?_)) | omega | (simp; done) | (simp; omega)))⟩ ?_
        clear hres hc1 hf1 hn1 hc2 hf2 hn2 hc3 hf3 hn3 hb1 hb2 hb3 hs1 hs2 hs3 hz3 hz1_w_0 hz1_w_1 hz1_w_2 hz1_w_2b hz2_w_0 hz2_w_1 hz2_w_2 hz2_w_2b
        rintro W ⟨hres, hbW⟩
        have hsW := hbW.size
        obtain ⟨t0, t1, t2, t3, t4, t5, t6⟩ := row7 hres
        simp only [Pl.zero] at t0 t1 t2 t3 t4 t5 t6
        have tf := hres.frozen
        have hz4 := hres.lt
        have Hres := Lib.hid hres
        clear hres
        go_upto_region 6 with fail
        have hOut : Row (W.alloc (.cells #[.int .i64 q1, .int .i64 q2, .int .i64 q3, .int .i64 q4, .int .i64 q5, .int .i64 q6, .int .i64 q7] 30)) W.heap.size 30 (Pl.enc ⟨q1, q2, q3, q4, q5, q6, q7⟩) := Row.new W _ _
        generalize hBO : W.heap.size = BO at hOut ⊢
        refine cut_world (fun W' => Row W' (w.heap.size + 2) 30 (Pl.enc Pl.zero) ∧ Row W' BO 30 (Pl.enc ⟨q1, q2, q3, q4, q5, q6, q7⟩) ∧ w.heap.size + 2 < BO ∧ Below w.heap.size w W') ⟨Hres.out.to (by repeat' (first | (with_reducible exact Below.refl _ _) | (with_reducible refine Below.alloc ?_ ?_ _) | (with_reducible refine Below.setCell ?_ ?_ _) | (with_reducible refine Below.drew ?_) | (with_reducible refine Below.trans ?_ (Below.mono (by with_reducible assumption) ?_)) | omega | (simp; done) | (simp; omega))), hOut, (by omega), (by repeat' (first | (with_reducible exact Below.refl _ _) | (with_reducible refine Below.alloc ?_ ?_ _) | (with_reducible refine Below.setCell ?_ ?_ _) | (with_reducible refine Below.drew ?_) | (with_reducible refine Below.trans ?_ (Below.mono (by with_reducible assumption) ?_)) | omega | (simp; done) | (simp; omega)))⟩ ?_
        clear Hres tf t0 t1 t2 t3 t4 t5 t6 hz4 hsW hbW hOut hBO
        clear W
        rintro W ⟨hres, hOut, hlt, hbW⟩
        have hsW := hbW.size
        obtain ⟨t0, t1, t2, t3, t4, t5, t6⟩ := row7 hres
        obtain ⟨u0, u1, u2, u3, u4, u5, u6⟩ := row7 hOut
        simp only [Pl.zero] at t0 t1 t2 t3 t4 t5 t6
        simp only at u0 u1 u2 u3 u4 u5 u6
        have tf := hres.frozen
        have hz4 := hres.lt
        have hz5 := hOut.lt
        clear hres hOut
        go_wp2_with fail
        ((try simp only [Exit.inBlock, Exit.then]); refine bodyPost_ret (by simp [results, Tryd.results48, go_sem, *]; try rfl) rfl ?_)
        exact ⟨by rw [Heq.out]; rfl, (by repeat' (first | (with_reducible exact Below.refl _ _) | (with_reducible refine Below.alloc ?_ ?_ _) | (with_reducible refine Below.setCell ?_ ?_ _) | (with_reducible refine Below.drew ?_) | (with_reducible refine Below.trans ?_ (Below.mono (by with_reducible assumption) ?_)) | omega | (simp; done) | (simp; omega)))⟩
end Go.Proofs.YtmfahekkcgnndaaDoor
