/- Contracts: a step of a pool, of the reference (chapter 21). -/
import Derived.Test.YtmfahekkcgnndaaDoorStepTwo
set_option linter.unusedSimpArgs false
set_option linter.unusedVariables false
namespace Go.Proofs.YtmfahekkcgnndaaDoor
open Go.RowKit Go.Sort Go.Salt
attribute [local go_sem] cell_rg
attribute [local go_sem ↓] run_max_mx run_min_mn
set_option maxHeartbeats 4000000 in
theorem l21Step_any (k v z : Int) (w : World) :
    Calls Tryd.prog 54 #[.agg #[.int .i64 k, .int .i64 v, .int .i64 z]] w fun e w' => e = .returned (.bool (psOK k v z)) ∧ Below w.heap.size w w' := by
  by_cases k1 : k = 1
  · subst k1
    cases hv : inB v 0 1000000
    · go_enter Tryd.func54, Tryd.ntmps54
      go_wp2_with (first | (go_at_call 36; refine (l21Kilos_any _ _).mono ?_; rintro e wX ⟨rfl, rfl⟩))
      go_ret
      exact ⟨ret_bool (by simp [psOK, hv]), (by repeat' (first | (with_reducible exact Below.refl _ _) | (with_reducible refine Below.alloc ?_ ?_ _) | (with_reducible refine Below.setCell ?_ ?_ _) | (with_reducible refine Below.drew ?_) | (with_reducible refine Below.trans ?_ (Below.mono (by with_reducible assumption) ?_)) | omega | (simp; done) | (simp; omega)))⟩
    · cases hz : inB z 0 1000000
      · go_enter Tryd.func54, Tryd.ntmps54
        go_wp2_with (first | (go_at_call 36; refine (l21Kilos_any _ _).mono ?_; rintro e wX ⟨rfl, rfl⟩))
        go_ret
        exact ⟨ret_bool (by simp [psOK, hz]), (by repeat' (first | (with_reducible exact Below.refl _ _) | (with_reducible refine Below.alloc ?_ ?_ _) | (with_reducible refine Below.setCell ?_ ?_ _) | (with_reducible refine Below.drew ?_) | (with_reducible refine Below.trans ?_ (Below.mono (by with_reducible assumption) ?_)) | omega | (simp; done) | (simp; omega)))⟩
      · have hv2 := inB_iff.1 hv
        have hz2 := inB_iff.1 hz
        have Hq := Lib.hid (show psOK 1 v z = decide (0 < v + z) by simp [psOK, hv, hz])
        go_enter Tryd.func54, Tryd.ntmps54
        go_wp2_with (first | (go_at_call 36; refine (l21Kilos_any _ _).mono ?_; rintro e wX ⟨rfl, rfl⟩))
        go_ret
        exact ⟨ret_bool Hq.out.symm, (by repeat' (first | (with_reducible exact Below.refl _ _) | (with_reducible refine Below.alloc ?_ ?_ _) | (with_reducible refine Below.setCell ?_ ?_ _) | (with_reducible refine Below.drew ?_) | (with_reducible refine Below.trans ?_ (Below.mono (by with_reducible assumption) ?_)) | omega | (simp; done) | (simp; omega)))⟩
  · by_cases k2 : k = 2 ∨ k = 3 ∨ k = 4
    · have Hq := Lib.hid (show psOK k v z = (decide (1 ≤ v) && (z == 0)) by simp only [psOK, if_neg k1, if_pos k2])
      cases hv : decide (1 ≤ v)
      all_goals
        rw [hv] at Hq
        have hv' := hv
        clear hv
        rcases k2 with rfl | rfl | rfl
        all_goals
          clear k1
          go_enter Tryd.func54, Tryd.ntmps54
          go_wp2_with fail
          go_ret
          exact ⟨ret_bool (by rw [Hq.out]; simp), (by repeat' (first | (with_reducible exact Below.refl _ _) | (with_reducible refine Below.alloc ?_ ?_ _) | (with_reducible refine Below.setCell ?_ ?_ _) | (with_reducible refine Below.drew ?_) | (with_reducible refine Below.trans ?_ (Below.mono (by with_reducible assumption) ?_)) | omega | (simp; done) | (simp; omega)))⟩
    · have Hq := Lib.hid (show psOK k v z = (inB k 5 6 && ((v == 0) && (z == 0))) by simp only [psOK, if_neg k1, if_neg k2])
      have k3 : (k == 1) = false ∧ (k == 2) = false ∧ (k == 3) = false ∧ (k == 4) = false := by
        simp only [beq_eq_false_iff_ne, ne_eq]; omega
      obtain ⟨e1, e2, e3, e4⟩ := k3
      clear k1 k2
      cases hk : inB k 5 6
      · rw [hk] at Hq
        have k56 : (k == 5) = false ∧ (k == 6) = false := by
          have : ¬ (5 ≤ k ∧ k ≤ 6) := fun h => by rw [inB_iff.2 h] at hk; cases hk
          simp only [beq_eq_false_iff_ne, ne_eq]; omega
        obtain ⟨e5, e6⟩ := k56
        go_enter Tryd.func54, Tryd.ntmps54
        go_wp2_with fail
        go_ret
        exact ⟨ret_bool (by rw [Hq.out]; simp), (by repeat' (first | (with_reducible exact Below.refl _ _) | (with_reducible refine Below.alloc ?_ ?_ _) | (with_reducible refine Below.setCell ?_ ?_ _) | (with_reducible refine Below.drew ?_) | (with_reducible refine Below.trans ?_ (Below.mono (by with_reducible assumption) ?_)) | omega | (simp; done) | (simp; omega)))⟩
      · rw [hk] at Hq
        have k56 := inB_iff.1 hk
        obtain rfl | rfl : k = 5 ∨ k = 6 := by omega
        all_goals
          clear e1 e2 e3 e4 hk k56
          cases hv : (v == 0)
          all_goals
            rw [hv] at Hq
            go_enter Tryd.func54, Tryd.ntmps54
            go_wp2_with fail
            go_ret
            exact ⟨ret_bool (by rw [Hq.out]; simp), (by repeat' (first | (with_reducible exact Below.refl _ _) | (with_reducible refine Below.alloc ?_ ?_ _) | (with_reducible refine Below.setCell ?_ ?_ _) | (with_reducible refine Below.drew ?_) | (with_reducible refine Below.trans ?_ (Below.mono (by with_reducible assumption) ?_)) | omega | (simp; done) | (simp; omega)))⟩
/-- A pool that settles, as the reference reckons it. -/
def Pl.ssettle (p : Pl) : Pl := ⟨stB p.a (p.s - spN p.a p.s p.c) (p.c + spN p.a p.s p.c), p.a, p.s - spN p.a p.s p.c, p.c + spN p.a p.s p.c, p.i, p.r, p.l⟩
theorem ssettle_eq {p : Pl} (h : 0 ≤ p.c) : p.ssettle = p.settle := by
  have e := spN_im (a := p.a) (s := p.s) h
  unfold Pl.ssettle Pl.settle
  rw [e, show p.s - -imN p.a p.s p.c = p.s + imN p.a p.s p.c by omega, show p.c + -imN p.a p.s p.c = p.c - imN p.a p.s p.c by omega]
set_option maxRecDepth 100000 in
set_option maxHeartbeats 4000000 in
theorem l21Settled_any (p : Pl) (w : World) (hp : p.sm) :
    Calls Tryd.prog 63 #[.agg #[.int .i64 p.st, .int .i64 p.a, .int .i64 p.s, .int .i64 p.c, .int .i64 p.i, .int .i64 p.r, .int .i64 p.l]] w fun e w' => e = .returned (.agg #[.int .i64 p.ssettle.st, .int .i64 p.ssettle.a, .int .i64 p.ssettle.s, .int .i64 p.ssettle.c, .int .i64 p.ssettle.i, .int .i64 p.ssettle.r, .int .i64 p.ssettle.l]) ∧ Below w.heap.size w w' := by
  obtain ⟨st, a, s, c, i, r, l⟩ := p
  obtain ⟨ha, hs, hc, hi, hr, hl⟩ := hp
  simp only at ha hs hc hi hr hl
  have hkp := kp_bd a ha.1 (by omega)
  have hkp2 : kp a ≤ 1000000000 := by unfold kp; omega
  have hq : Pl.ssettle ⟨st, a, s, c, i, r, l⟩ = ⟨stB a (s - spN a s c) (c + spN a s c), a, s - spN a s c, c + spN a s c, i, r, l⟩ := rfl
  rw [hq]
  clear hq
  have him := spN_bd (a := a) (s := s) (c := c)
  have hcall := fun W => l21Settle_any a s c W ha.1 (by omega) (by omega) (by omega) (by omega) (by omega)
  generalize hN : spN a s c = N at *
  clear hN
  have HC := Lib.hid hcall
  clear hcall
  go_enter Tryd.func63, Tryd.ntmps63
  go_wp2_with fail
  (go_at_call 69; refine (HC.out _).mono ?_; rintro e w1 ⟨rfl, hb1⟩)
  (have hs1 := hb1.size; (try simp at hs1); obtain ⟨hc1, hf1, hn1⟩ := bcell hb1; (try have hz1_w_0 : w.heap.size < w1.heap.size := by omega); (try have hz1_w_1 : w.heap.size + 1 < w1.heap.size := by omega); (try have hz1_w_2 : w.heap.size + 2 < w1.heap.size := by omega); (try have hz1_w_2b : w.heap.size + 1 + 1 < w1.heap.size := by omega))
  have hz1 : w.heap.size + 1 < w1.heap.size := by omega
  go_wp2_with fail
  (go_at_call 37; refine (l21State_any _ _ _ _ (by omega) (by omega) (by omega) (by omega)).mono ?_; rintro e w2 ⟨rfl, hb2⟩)
  (have hs2 := hb2.size; (try simp at hs2); obtain ⟨hc2, hf2, hn2⟩ := bcell hb2; (try have hz2_w_0 : w.heap.size < w2.heap.size := by omega); (try have hz2_w_1 : w.heap.size + 1 < w2.heap.size := by omega); (try have hz2_w_2 : w.heap.size + 2 < w2.heap.size := by omega); (try have hz2_w_2b : w.heap.size + 1 + 1 < w2.heap.size := by omega); (try have hz2_w1_0 : w1.heap.size < w2.heap.size := by omega); (try have hz2_w1_1 : w1.heap.size + 1 < w2.heap.size := by omega); (try have hz2_w1_2 : w1.heap.size + 2 < w2.heap.size := by omega); (try have hz2_w1_2b : w1.heap.size + 1 + 1 < w2.heap.size := by omega))
  have hres : Row w2 (w.heap.size + 1) 30 (Pl.enc Pl.zero) := (row_new_at (w.alloc (.cells #[.int .i64 st, .int .i64 a, .int .i64 s, .int .i64 c, .int .i64 i, .int .i64 r, .int .i64 l] 30)) 30 #[.int .i64 0, .int .i64 0, .int .i64 0, .int .i64 0, .int .i64 0, .int .i64 0, .int .i64 0] (w.heap.size + 1) (by simp)).to (show Below _ _ w2 from (by repeat' (first | (with_reducible exact Below.refl _ _) | (with_reducible refine Below.alloc ?_ ?_ _) | (with_reducible refine Below.setCell ?_ ?_ _) | (with_reducible refine Below.drew ?_) | (with_reducible refine Below.trans ?_ (Below.mono (by with_reducible assumption) ?_)) | omega | (simp; done) | (simp; omega))))
  have t0 := hres.cell (j := 0) (by simp [Pl.enc])
  have t1 := hres.cell (j := 1) (by simp [Pl.enc])
  have t2 := hres.cell (j := 2) (by simp [Pl.enc])
  have t3 := hres.cell (j := 3) (by simp [Pl.enc])
  have t4 := hres.cell (j := 4) (by simp [Pl.enc])
  have t5 := hres.cell (j := 5) (by simp [Pl.enc])
  have t6 := hres.cell (j := 6) (by simp [Pl.enc])
  simp only [Pl.enc, Pl.zero, List.getElem_cons_zero, List.getElem_cons_succ] at t0 t1 t2 t3 t4 t5 t6
  have tf := hres.frozen
  have hz2 := hres.lt
  have hne : w.heap.size + 1 ≠ w1.heap.size + 1 := by omega
  have Hres := Lib.hid hres
  clear hres
  go_wp2_with fail
  ((try simp only [Exit.inBlock, Exit.then]); refine bodyPost_ret (by simp [results, Tryd.results63, go_sem, *]; try rfl) rfl ?_)
  exact ⟨rfl, (by repeat' (first | (with_reducible exact Below.refl _ _) | (with_reducible refine Below.alloc ?_ ?_ _) | (with_reducible refine Below.setCell ?_ ?_ _) | (with_reducible refine Below.drew ?_) | (with_reducible refine Below.trans ?_ (Below.mono (by with_reducible assumption) ?_)) | omega | (simp; done) | (simp; omega)))⟩
/-- What the reference makes of a pool ahead of settling; whether it says yes. -/
def Pl.sraw (p : Pl) (k v z : Int) : Pl :=
  if k = 1 then { p with a := p.a + v, s := p.s + z, i := p.i + z }
  else if k = 2 then { p with a := mx 0 (p.a - mn 1000000 v) }
  else if k = 3 then { p with a := p.a + mn 2000000 v }
  else if k = 4 then { p with c := p.c - mn 2000000 v, r := p.r + mn 2000000 v }
  else if k = 5 then { p with l := p.l + p.s, a := 0, s := 0 }
  else { p with l := p.l + p.c, c := 0 }
def Pl.say (p : Pl) (k v : Int) : Bool :=
  if k = 1 then true
  else if k = 2 then !(p.st == 0)
  else if k = 3 then !(p.st == 0)
  else if k = 4 then (p.st == 2) && decide (mn 2000000 v ≤ p.c)
  else if k = 5 then decide (0 < p.a + p.s)
  else (p.st == 2) && (p.a + p.s == 0)
theorem say_can {p : Pl} {k v z : Int} (hp : p.ok = true) (hs : psOK k v z = true) : (p.say k v && (p.sraw k v z).settle.ok) = p.can k v z ∧ (p.can k v z = true → p.raw k v z = some (p.sraw k v z)) := by
  obtain ⟨st, a, s, c, i, r, l⟩ := p
  have hb := ok_bd hp
  have hst := (poolOK_st hp).1
  simp only at hb hst
  by_cases k1 : k = 1
  · subst k1
    simp [Pl.say, Pl.sraw, Pl.can, Pl.raw]
  · by_cases k2 : k = 2 ∨ k = 3 ∨ k = 4
    · simp only [psOK, if_neg k1, if_pos k2, Bool.and_eq_true, decide_eq_true_eq] at hs
      have hv := hs.1
      rcases k2 with rfl | rfl | rfl
      · have e : mx 0 (a - mn 1000000 v) = a - mn v a := by
          have h1 := mn_or 1000000 v
          have h2 := mn_or v a
          have h3 := mx_or 0 (a - mn 1000000 v)
          omega
        by_cases h0 : st = 0
        · simp [Pl.say, Pl.sraw, Pl.can, Pl.raw, h0]
        · simp [Pl.say, Pl.sraw, Pl.can, Pl.raw, h0, e]
      · by_cases h0 : st = 0
        · simp [Pl.say, Pl.sraw, Pl.can, Pl.raw, h0]
        · by_cases h1 : 1000000 < v
          · have e : inB (a + mn 2000000 v) 0 1000000 = false := by
              cases hq : inB (a + mn 2000000 v) 0 1000000
              · rfl
              · have h2 := inB_iff.1 hq
                have h3 := mn_or 2000000 v
                omega
            simp [Pl.say, Pl.sraw, Pl.can, Pl.raw, h0, h1, Pl.ok, Pl.settle, poolOK, e]
          · have e : mn 2000000 v = v := by have h3 := mn_or 2000000 v; omega
            simp [Pl.say, Pl.sraw, Pl.can, Pl.raw, h0, h1, e]
      · by_cases h1 : c < v
        · have e : decide (mn 2000000 v ≤ c) = false := by have h3 := mn_or 2000000 v; simp; omega
          simp [Pl.say, Pl.sraw, Pl.can, Pl.raw, h1, e]
        · have e : mn 2000000 v = v := by have h3 := mn_or 2000000 v; omega
          have e2 : st = 2 := by rw [hst]; unfold stB; rw [if_pos (by omega)]
          simp [Pl.say, Pl.sraw, Pl.can, Pl.raw, h1, e, e2]
          intro h4; omega
    · simp only [psOK, if_neg k1, if_neg k2, Bool.and_eq_true] at hs
      have hk := inB_iff.1 hs.1
      obtain rfl | rfl : k = 5 ∨ k = 6 := by omega
      · by_cases h1 : a + s = 0
        · simp [Pl.say, Pl.sraw, Pl.can, Pl.raw, h1]
        · have e : 0 < a + s := by omega
          simp [Pl.say, Pl.sraw, Pl.can, Pl.raw, h1, e]
      · by_cases h0 : st = 2
        · by_cases h1 : 0 < a + s
          · have e : ¬ (a + s = 0) := by omega
            simp [Pl.say, Pl.sraw, Pl.can, Pl.raw, h0, h1, e]
          · have e : a + s = 0 := by omega
            simp [Pl.say, Pl.sraw, Pl.can, Pl.raw, h0, e]
        · simp [Pl.say, Pl.sraw, Pl.can, Pl.raw, h0]
theorem say_c {p : Pl} {k v z : Int} (hp : p.ok = true) (hs : psOK k v z = true) (h : p.say k v = true) : 0 ≤ (p.sraw k v z).c := by
  obtain ⟨st, a, s, c, i, r, l⟩ := p
  have hb := ok_bd hp
  simp only at hb
  unfold Pl.say at h
  unfold Pl.sraw
  split
  · simp only; omega
  · split
    · simp only; omega
    · split
      · simp only; omega
      · split
        · rename_i h1 h2 h3 h4
          simp only [if_neg h1, if_neg h2, if_neg h3, if_pos h4, Bool.and_eq_true, decide_eq_true_eq] at h
          simp only; omega
        · split
          · simp only; omega
          · simp
theorem sraw_sm {p : Pl} {k v z : Int} (hp : p.ok = true) (hs : psOK k v z = true) : (p.sraw k v z).sm ∧ -10000000 ≤ (p.sraw k v z).c := by
  obtain ⟨st, a, s, c, i, r, l⟩ := p
  have hb := ok_bd hp
  simp only at hb
  have h3 := mn_or 2000000 v
  have h4 := mn_or 1000000 v
  have h5 := mx_or 0 (a - mn 1000000 v)
  unfold Pl.sraw Pl.sm
  by_cases k1 : k = 1
  · subst k1
    rw [psOK, if_pos rfl, Bool.and_eq_true, Bool.and_eq_true] at hs
    have hv2 := inB_iff.1 hs.1
    have hz2 := inB_iff.1 hs.2.1
    simp
    omega
  · by_cases k2 : k = 2 ∨ k = 3 ∨ k = 4
    · simp only [psOK, if_neg k1, if_pos k2, Bool.and_eq_true, decide_eq_true_eq] at hs
      have hv := hs.1
      rcases k2 with rfl | rfl | rfl <;> simp <;> omega
    · simp only [if_neg k1, if_neg (show ¬ k = 2 by omega), if_neg (show ¬ k = 3 by omega), if_neg (show ¬ k = 4 by omega)]
      split <;> simp <;> omega
end Go.Proofs.YtmfahekkcgnndaaDoor
