/- Contracts: which steps are valid; a step of a pool, of the program (chapter 21). -/
import Derived.Test.YtmfahekkcgnndaaDoorStep
set_option linter.unusedSimpArgs false
set_option linter.unusedVariables false
namespace Go.Proofs.YtmfahekkcgnndaaDoor
open Go.RowKit Go.Sort Go.Salt
attribute [local go_sem] cell_rg
attribute [local go_sem ↓] run_max_mx run_min_mn
set_option maxHeartbeats 4000000 in
theorem isPoolStep_any (k v z : Int) (w : World) :
    Calls Tryd.prog 30 #[.agg #[.int .i64 k, .int .i64 v, .int .i64 z]] w fun e w' => e = .returned (.bool (psOK k v z)) ∧ Below w.heap.size w w' := by
  by_cases k1 : k = 1
  · subst k1
    cases hv : inB v 0 1000000
    · go_enter Tryd.func30, Tryd.ntmps30
      go_wp2_with (first | (go_at_call 33; refine (isKilos_any _ _).mono ?_; rintro e wX ⟨rfl, rfl⟩))
      go_ret
      exact ⟨ret_bool (by simp [psOK, hv]), (by repeat' (first | (with_reducible exact Below.refl _ _) | (with_reducible refine Below.alloc ?_ ?_ _) | (with_reducible refine Below.setCell ?_ ?_ _) | (with_reducible refine Below.drew ?_) | (with_reducible refine Below.trans ?_ (Below.mono (by with_reducible assumption) ?_)) | omega | (simp; done) | (simp; omega)))⟩
    · cases hz : inB z 0 1000000
      · go_enter Tryd.func30, Tryd.ntmps30
        go_wp2_with (first | (go_at_call 33; refine (isKilos_any _ _).mono ?_; rintro e wX ⟨rfl, rfl⟩))
        go_ret
        exact ⟨ret_bool (by simp [psOK, hz]), (by repeat' (first | (with_reducible exact Below.refl _ _) | (with_reducible refine Below.alloc ?_ ?_ _) | (with_reducible refine Below.setCell ?_ ?_ _) | (with_reducible refine Below.drew ?_) | (with_reducible refine Below.trans ?_ (Below.mono (by with_reducible assumption) ?_)) | omega | (simp; done) | (simp; omega)))⟩
      · have hv2 := inB_iff.1 hv
        have hz2 := inB_iff.1 hz
        have Hq := Lib.hid (show psOK 1 v z = decide (0 < v + z) by simp [psOK, hv, hz])
        go_enter Tryd.func30, Tryd.ntmps30
        go_wp2_with (first | (go_at_call 33; refine (isKilos_any _ _).mono ?_; rintro e wX ⟨rfl, rfl⟩))
        go_ret
        exact ⟨ret_bool Hq.out.symm, (by repeat' (first | (with_reducible exact Below.refl _ _) | (with_reducible refine Below.alloc ?_ ?_ _) | (with_reducible refine Below.setCell ?_ ?_ _) | (with_reducible refine Below.drew ?_) | (with_reducible refine Below.trans ?_ (Below.mono (by with_reducible assumption) ?_)) | omega | (simp; done) | (simp; omega)))⟩
  · by_cases k2 : k = 2 ∨ k = 3 ∨ k = 4
    · have Hq := Lib.hid (show psOK k v z = (decide (1 ≤ v) && (z == 0)) by simp only [psOK, if_neg k1, if_pos k2])
      cases hv : decide (1 ≤ v)
      all_goals
        rw [hv] at Hq
        have hv' := hv
        clear hv
        rcases k2 with rfl | rfl | rfl
        all_goals
          clear k1
          go_enter Tryd.func30, Tryd.ntmps30
          go_wp2_with fail
          go_ret
          exact ⟨ret_bool (by rw [Hq.out]; simp), (by repeat' (first | (with_reducible exact Below.refl _ _) | (with_reducible refine Below.alloc ?_ ?_ _) | (with_reducible refine Below.setCell ?_ ?_ _) | (with_reducible refine Below.drew ?_) | (with_reducible refine Below.trans ?_ (Below.mono (by with_reducible assumption) ?_)) | omega | (simp; done) | (simp; omega)))⟩
    · have Hq := Lib.hid (show psOK k v z = (inB k 5 6 && ((v == 0) && (z == 0))) by simp only [psOK, if_neg k1, if_neg k2])
      have k3 : (k == 1) = false ∧ (k == 2) = false ∧ (k == 3) = false ∧ (k == 4) = false := by
        simp only [beq_eq_false_iff_ne, ne_eq]; omega
      obtain ⟨e1, e2, e3, e4⟩ := k3
      clear k1 k2
      cases hk : inB k 5 6
      · rw [hk] at Hq
        go_enter Tryd.func30, Tryd.ntmps30
        go_wp2_with (first | (go_at_call 40; refine (within_any _ _ _ _).mono ?_; rintro e wX ⟨rfl, rfl⟩))
        go_ret
        exact ⟨ret_bool (by rw [Hq.out]; simp), (by repeat' (first | (with_reducible exact Below.refl _ _) | (with_reducible refine Below.alloc ?_ ?_ _) | (with_reducible refine Below.setCell ?_ ?_ _) | (with_reducible refine Below.drew ?_) | (with_reducible refine Below.trans ?_ (Below.mono (by with_reducible assumption) ?_)) | omega | (simp; done) | (simp; omega)))⟩
      · rw [hk] at Hq
        cases hv : (v == 0)
        all_goals
          rw [hv] at Hq
          go_enter Tryd.func30, Tryd.ntmps30
          go_wp2_with (first | (go_at_call 40; refine (within_any _ _ _ _).mono ?_; rintro e wX ⟨rfl, rfl⟩))
          go_ret
          exact ⟨ret_bool (by rw [Hq.out]; simp), (by repeat' (first | (with_reducible exact Below.refl _ _) | (with_reducible refine Below.alloc ?_ ?_ _) | (with_reducible refine Below.setCell ?_ ?_ _) | (with_reducible refine Below.drew ?_) | (with_reducible refine Below.trans ?_ (Below.mono (by with_reducible assumption) ?_)) | omega | (simp; done) | (simp; omega)))⟩
theorem row_new_at (W : World) (E : TypeId) (arr : Array Value) (g : Nat) (h : W.heap.size = g) : Row (W.alloc (.cells arr E)) g E arr.toList := by subst h; exact Row.new W E arr
/-- What a step makes; whether it can be made. -/
def Pl.can (p : Pl) (k v z : Int) : Bool := match p.raw k v z with | some q => q.settle.ok | none => false
def Pl.stepB (p : Pl) (k v z : Int) : Bool := p.ok && (psOK k v z && p.can k v z)
def Pl.zero : Pl := ⟨0, 0, 0, 0, 0, 0, 0⟩
def Pl.step (p : Pl) (k v z : Int) : Pl := if p.stepB k v z = true then (match p.raw k v z with | some q => q.settle | none => Pl.zero) else Pl.zero
theorem ret_pl {p q : Pl} {a b : Bool} (h : p = q) (h2 : a = b) : Ending.returned (.tuple #[.agg p.enc.toArray, .bool a]) = .returned (.tuple #[.agg q.enc.toArray, .bool b]) := by rw [h, h2]
theorem step_no {p : Pl} {k v z : Int} (h : p.stepB k v z = false) : p.step k v z = Pl.zero := by simp [Pl.step, h]
set_option maxHeartbeats 4000000 in
theorem stepPool_any (B : Nat) (p : Pl) (k v z : Int) (w : World) (h : Row w B 30 p.enc) (hp : p.ok = true) (hs : psOK k v z = true) (hv : v ≤ 9223372036854775807) :
    Calls Tryd.prog 31 #[.pointer (some ⟨B, 0, none⟩), .agg #[.int .i64 k, .int .i64 v, .int .i64 z]] w fun e w' => StepAt w B (p.raw k v z) e w' := by
  obtain ⟨st, a, s, c, i, r, l⟩ := p
  have hb := ok_bd hp
  simp only at hb
  by_cases k1 : k = 1
  · subst k1
    rw [psOK, if_pos rfl, Bool.and_eq_true, Bool.and_eq_true] at hs
    have hv2 := inB_iff.1 hs.1
    have hz2 := inB_iff.1 hs.2.1
    exact stepPool_fill B st a s c i r l v z w h hb hv2 hz2
  · by_cases k2 : k = 2 ∨ k = 3 ∨ k = 4
    · simp only [psOK, if_neg k1, if_pos k2, Bool.and_eq_true, decide_eq_true_eq] at hs
      rcases k2 with rfl | rfl | rfl
      · exact stepPool_sun B st a s c i r l v z w h hb hs.1 hv
      · exact stepPool_rain B st a s c i r l v z w h hb hs.1 hv
      · exact stepPool_rake B st a s c i r l v z w h hb hs.1 hv
    · simp only [psOK, if_neg k1, if_neg k2, Bool.and_eq_true] at hs
      have hk := inB_iff.1 hs.1
      obtain rfl | rfl : k = 5 ∨ k = 6 := by omega
      · exact stepPool_drain B st a s c i r l v z w h hb
      · exact stepPool_clean B st a s c i r l v z w h hb
set_option maxRecDepth 100000 in
set_option maxHeartbeats 4000000 in
theorem iStepPool_any (st a s c i r l k v z : Int) (w : World) (hv : v ≤ 9223372036854775807) :
    Calls Tryd.prog 12 #[.agg #[.int .i64 st, .int .i64 a, .int .i64 s, .int .i64 c, .int .i64 i, .int .i64 r, .int .i64 l], .agg #[.int .i64 k, .int .i64 v, .int .i64 z]] w fun e w' => e = .returned (.tuple #[.agg (Pl.step ⟨st, a, s, c, i, r, l⟩ k v z).enc.toArray, .bool (Pl.stepB ⟨st, a, s, c, i, r, l⟩ k v z)]) ∧ Below w.heap.size w w' := by
  cases hG : Pl.ok ⟨st, a, s, c, i, r, l⟩
  · have Hno := Lib.hid (show Pl.stepB ⟨st, a, s, c, i, r, l⟩ k v z = false by simp [Pl.stepB, hG])
    have hc := fun W => isPool_any st a s c i r l W
    rw [show poolOK st a s c i r l = false from hG] at hc
    replace hc := Lib.hid hc
    go_enter Tryd.func12, Tryd.ntmps12
    go_wp2_with fail
    (go_at_call 20; refine (hc.out _).mono ?_; rintro e w1 ⟨rfl, hb1⟩)
    (have hs1 := hb1.size; (try simp at hs1); obtain ⟨hc1, hf1, hn1⟩ := bcell hb1; (try have hz1_w_0 : w.heap.size < w1.heap.size := by omega); (try have hz1_w_1 : w.heap.size + 1 < w1.heap.size := by omega); (try have hz1_w_2 : w.heap.size + 2 < w1.heap.size := by omega); (try have hz1_w_2b : w.heap.size + 1 + 1 < w1.heap.size := by omega))
    go_wp2_with fail
    ((try simp only [Exit.inBlock, Exit.then]); refine bodyPost_ret (by simp [results, Tryd.results12, go_sem, *]; try rfl) rfl ?_)
    exact ⟨by rw [step_no Hno.out, Hno.out]; rfl, (by repeat' (first | (with_reducible exact Below.refl _ _) | (with_reducible refine Below.alloc ?_ ?_ _) | (with_reducible refine Below.setCell ?_ ?_ _) | (with_reducible refine Below.drew ?_) | (with_reducible refine Below.trans ?_ (Below.mono (by with_reducible assumption) ?_)) | omega | (simp; done) | (simp; omega)))⟩
  · cases hS : psOK k v z
    · have Hno := Lib.hid (show Pl.stepB ⟨st, a, s, c, i, r, l⟩ k v z = false by simp [Pl.stepB, hS])
      have hc := fun W => isPool_any st a s c i r l W
      rw [show poolOK st a s c i r l = true from hG] at hc
      replace hc := Lib.hid hc
      have hd := fun W => isPoolStep_any k v z W
      rw [hS] at hd
      replace hd := Lib.hid hd
      go_enter Tryd.func12, Tryd.ntmps12
      go_wp2_with fail
      (go_at_call 20; refine (hc.out _).mono ?_; rintro e w1 ⟨rfl, hb1⟩)
      (have hs1 := hb1.size; (try simp at hs1); obtain ⟨hc1, hf1, hn1⟩ := bcell hb1; (try have hz1_w_0 : w.heap.size < w1.heap.size := by omega); (try have hz1_w_1 : w.heap.size + 1 < w1.heap.size := by omega); (try have hz1_w_2 : w.heap.size + 2 < w1.heap.size := by omega); (try have hz1_w_2b : w.heap.size + 1 + 1 < w1.heap.size := by omega))
      go_wp2_with fail
      (go_at_call 30; refine (hd.out _).mono ?_; rintro e w2 ⟨rfl, hb2⟩)
      (have hs2 := hb2.size; (try simp at hs2); obtain ⟨hc2, hf2, hn2⟩ := bcell hb2; (try have hz2_w_0 : w.heap.size < w2.heap.size := by omega); (try have hz2_w_1 : w.heap.size + 1 < w2.heap.size := by omega); (try have hz2_w_2 : w.heap.size + 2 < w2.heap.size := by omega); (try have hz2_w_2b : w.heap.size + 1 + 1 < w2.heap.size := by omega); (try have hz2_w1_0 : w1.heap.size < w2.heap.size := by omega); (try have hz2_w1_1 : w1.heap.size + 1 < w2.heap.size := by omega); (try have hz2_w1_2 : w1.heap.size + 2 < w2.heap.size := by omega); (try have hz2_w1_2b : w1.heap.size + 1 + 1 < w2.heap.size := by omega))
      go_wp2_with fail
      ((try simp only [Exit.inBlock, Exit.then]); refine bodyPost_ret (by simp [results, Tryd.results12, go_sem, *]; try rfl) rfl ?_)
      exact ⟨by rw [step_no Hno.out, Hno.out]; rfl, (by repeat' (first | (with_reducible exact Below.refl _ _) | (with_reducible refine Below.alloc ?_ ?_ _) | (with_reducible refine Below.setCell ?_ ?_ _) | (with_reducible refine Below.drew ?_) | (with_reducible refine Below.trans ?_ (Below.mono (by with_reducible assumption) ?_)) | omega | (simp; done) | (simp; omega)))⟩
    · have hc := fun W => isPool_any st a s c i r l W
      rw [show poolOK st a s c i r l = true from hG] at hc
      replace hc := Lib.hid hc
      have hd := fun W => isPoolStep_any k v z W
      rw [hS] at hd
      replace hd := Lib.hid hd
      have HG := Lib.hid hG
      have HS := Lib.hid hS
      clear hG hS
      go_enter Tryd.func12, Tryd.ntmps12
      go_wp2_with fail
      (go_at_call 20; refine (hc.out _).mono ?_; rintro e w1 ⟨rfl, hb1⟩)
      (have hs1 := hb1.size; (try simp at hs1); obtain ⟨hc1, hf1, hn1⟩ := bcell hb1; (try have hz1_w_0 : w.heap.size < w1.heap.size := by omega); (try have hz1_w_1 : w.heap.size + 1 < w1.heap.size := by omega); (try have hz1_w_2 : w.heap.size + 2 < w1.heap.size := by omega); (try have hz1_w_2b : w.heap.size + 1 + 1 < w1.heap.size := by omega))
      go_wp2_with fail
      (go_at_call 30; refine (hd.out _).mono ?_; rintro e w2 ⟨rfl, hb2⟩)
      (have hs2 := hb2.size; (try simp at hs2); obtain ⟨hc2, hf2, hn2⟩ := bcell hb2; (try have hz2_w_0 : w.heap.size < w2.heap.size := by omega); (try have hz2_w_1 : w.heap.size + 1 < w2.heap.size := by omega); (try have hz2_w_2 : w.heap.size + 2 < w2.heap.size := by omega); (try have hz2_w_2b : w.heap.size + 1 + 1 < w2.heap.size := by omega); (try have hz2_w1_0 : w1.heap.size < w2.heap.size := by omega); (try have hz2_w1_1 : w1.heap.size + 1 < w2.heap.size := by omega); (try have hz2_w1_2 : w1.heap.size + 2 < w2.heap.size := by omega); (try have hz2_w1_2b : w1.heap.size + 1 + 1 < w2.heap.size := by omega))
      have hrow : Row w2 w.heap.size 30 (Pl.enc ⟨st, a, s, c, i, r, l⟩) := by
        have h0 := (((Row.new w 30 #[.int .i64 st, .int .i64 a, .int .i64 s, .int .i64 c, .int .i64 i, .int .i64 r, .int .i64 l]).alloc (.cells #[.int .i64 k, .int .i64 v, .int .i64 z] 41)).alloc (.cells #[.int .i64 0, .int .i64 0, .int .i64 0, .int .i64 0, .int .i64 0, .int .i64 0, .int .i64 0] 30)).to (hb1.trans (hb2.mono hb1.size))
        exact h0
      have hres : Row w2 (w.heap.size + 2) 30 (Pl.enc Pl.zero) := by
        have h0 := (row_new_at ((w.alloc (.cells #[.int .i64 st, .int .i64 a, .int .i64 s, .int .i64 c, .int .i64 i, .int .i64 r, .int .i64 l] 30)).alloc (.cells #[.int .i64 k, .int .i64 v, .int .i64 z] 41)) 30 #[.int .i64 0, .int .i64 0, .int .i64 0, .int .i64 0, .int .i64 0, .int .i64 0, .int .i64 0] (w.heap.size + 2) (by simp)).to (hb1.trans (hb2.mono hb1.size))
        exact h0
      have Hrow := Lib.hid hrow
      have Hres := Lib.hid hres
      clear hrow hres
      go_wp2_with fail
      refine (stepPool_any w.heap.size ⟨st, a, s, c, i, r, l⟩ k v z w2 Hrow.out HG.out HS.out hv).mono ?_
      rintro e w3 ⟨hg3, ⟨hno, rfl⟩ | ⟨q, hq, rfl, hrow3⟩⟩
      · have Hno := Lib.hid (show Pl.stepB ⟨st, a, s, c, i, r, l⟩ k v z = false by simp [Pl.stepB, Pl.can, hno])
        have hres3 := Hres.out.grown hg3 (by simp)
        have hb3 : Below w.heap.size w w3 := (show Below w.heap.size w w2 from (by repeat' (first | (with_reducible exact Below.refl _ _) | (with_reducible refine Below.alloc ?_ ?_ _) | (with_reducible refine Below.setCell ?_ ?_ _) | (with_reducible refine Below.drew ?_) | (with_reducible refine Below.trans ?_ (Below.mono (by with_reducible assumption) ?_)) | omega | (simp; done) | (simp; omega)))).trans (grown_below hg3 (by omega) (by omega))
        have hl3 := hres3.lt
        have hz3 := hb3.size
        have t0 := hres3.cell (j := 0) (by simp [Pl.enc])
        have t1 := hres3.cell (j := 1) (by simp [Pl.enc])
        have t2 := hres3.cell (j := 2) (by simp [Pl.enc])
        have t3 := hres3.cell (j := 3) (by simp [Pl.enc])
        have t4 := hres3.cell (j := 4) (by simp [Pl.enc])
        have t5 := hres3.cell (j := 5) (by simp [Pl.enc])
        have t6 := hres3.cell (j := 6) (by simp [Pl.enc])
        simp only [Pl.enc, Pl.zero, List.getElem_cons_zero, List.getElem_cons_succ] at t0 t1 t2 t3 t4 t5 t6
        have tf := hres3.frozen
        have Hr3 := Lib.hid hres3
        clear hres3 hno hg3 hc1 hf1 hn1 hb1 hc2 hf2 hn2 hb2
        go_wp2_with fail
        ((try simp only [Exit.inBlock, Exit.then]); refine bodyPost_ret (by simp [results, Tryd.results12, go_sem, *]; try rfl) rfl ?_)
        exact ⟨by rw [step_no Hno.out, Hno.out]; rfl, (by repeat' (first | (with_reducible exact Below.refl _ _) | (with_reducible refine Below.alloc ?_ ?_ _) | (with_reducible refine Below.setCell ?_ ?_ _) | (with_reducible refine Below.drew ?_) | (with_reducible refine Below.trans ?_ (Below.mono (by with_reducible assumption) ?_)) | omega | (simp; done) | (simp; omega)))⟩
      · have hres3 := Hres.out.grown hg3 (by simp)
        have hb3 : Below w.heap.size w w3 := (show Below w.heap.size w w2 from (by repeat' (first | (with_reducible exact Below.refl _ _) | (with_reducible refine Below.alloc ?_ ?_ _) | (with_reducible refine Below.setCell ?_ ?_ _) | (with_reducible refine Below.drew ?_) | (with_reducible refine Below.trans ?_ (Below.mono (by with_reducible assumption) ?_)) | omega | (simp; done) | (simp; omega)))).trans (grown_below hg3 (by omega) (by omega))
        have hl3 := hres3.lt
        have hl0 := hrow3.lt
        have hz3 := hb3.size
        have t0 := hres3.cell (j := 0) (by simp [Pl.enc])
        have t1 := hres3.cell (j := 1) (by simp [Pl.enc])
        have t2 := hres3.cell (j := 2) (by simp [Pl.enc])
        have t3 := hres3.cell (j := 3) (by simp [Pl.enc])
        have t4 := hres3.cell (j := 4) (by simp [Pl.enc])
        have t5 := hres3.cell (j := 5) (by simp [Pl.enc])
        have t6 := hres3.cell (j := 6) (by simp [Pl.enc])
        simp only [Pl.enc, Pl.zero, List.getElem_cons_zero, List.getElem_cons_succ] at t0 t1 t2 t3 t4 t5 t6
        have tf := hres3.frozen
        have p0 := hrow3.cell (j := 0) (by simp [Pl.enc])
        have p1 := hrow3.cell (j := 1) (by simp [Pl.enc])
        have p2 := hrow3.cell (j := 2) (by simp [Pl.enc])
        have p3 := hrow3.cell (j := 3) (by simp [Pl.enc])
        have p4 := hrow3.cell (j := 4) (by simp [Pl.enc])
        have p5 := hrow3.cell (j := 5) (by simp [Pl.enc])
        have p6 := hrow3.cell (j := 6) (by simp [Pl.enc])
        simp only [Pl.enc, List.getElem_cons_zero, List.getElem_cons_succ] at p0 p1 p2 p3 p4 p5 p6
        have pf := hrow3.frozen
        have hd2 := fun W => isPool_any q.settle.st q.settle.a q.settle.s q.settle.c q.settle.i q.settle.r q.settle.l W
        have Hr3 := Lib.hid hres3
        have Hp3 := Lib.hid hrow3
        clear hres3 hrow3 hg3 hc1 hf1 hn1 hb1 hc2 hf2 hn2 hb2
        cases hK : q.settle.ok
        · have Hno := Lib.hid (show Pl.stepB ⟨st, a, s, c, i, r, l⟩ k v z = false by simp [Pl.stepB, Pl.can, hq, hK])
          rw [show poolOK q.settle.st q.settle.a q.settle.s q.settle.c q.settle.i q.settle.r q.settle.l = false from hK] at hd2
          replace hd2 := Lib.hid hd2
          generalize q.settle = Q at *
          go_wp2_with fail
          refine (hd2.out _).mono ?_
          rintro e w4 ⟨rfl, hb4⟩
          (have hs4 := hb4.size; (try simp at hs4); obtain ⟨hc4, hf4, hn4⟩ := bcell hb4; have hz4 : w.heap.size + 2 < w4.heap.size := by omega)
          go_wp2_with fail
          ((try simp only [Exit.inBlock, Exit.then]); refine bodyPost_ret (by simp [results, Tryd.results12, go_sem, *]; try rfl) rfl ?_)
          exact ⟨by rw [step_no Hno.out, Hno.out]; rfl, (by repeat' (first | (with_reducible exact Below.refl _ _) | (with_reducible refine Below.alloc ?_ ?_ _) | (with_reducible refine Below.setCell ?_ ?_ _) | (with_reducible refine Below.drew ?_) | (with_reducible refine Below.trans ?_ (Below.mono (by with_reducible assumption) ?_)) | omega | (simp; done) | (simp; omega)))⟩
        · have Hyes := Lib.hid (show Pl.stepB ⟨st, a, s, c, i, r, l⟩ k v z = true by simp [Pl.stepB, Pl.can, hq, hK, HG.out, HS.out])
          have Heq := Lib.hid (show Pl.step ⟨st, a, s, c, i, r, l⟩ k v z = q.settle by simp [Pl.step, Hyes.out, hq])
          rw [show poolOK q.settle.st q.settle.a q.settle.s q.settle.c q.settle.i q.settle.r q.settle.l = true from hK] at hd2
          replace hd2 := Lib.hid hd2
          generalize q.settle = Q at *
          go_wp2_with fail
          refine (hd2.out _).mono ?_
          rintro e w4 ⟨rfl, hb4⟩
          (have hs4 := hb4.size; (try simp at hs4); obtain ⟨hc4, hf4, hn4⟩ := bcell hb4; (have hz4 : w.heap.size + 2 < w4.heap.size := by omega); (have hz5 : w.heap.size < w4.heap.size := by omega))
          go_wp2_with fail
          ((try simp only [Exit.inBlock, Exit.then]); refine bodyPost_ret (by simp [results, Tryd.results12, go_sem, *]; try rfl) rfl ?_)
          exact ⟨by rw [Heq.out, Hyes.out]; rfl, (by repeat' (first | (with_reducible exact Below.refl _ _) | (with_reducible refine Below.alloc ?_ ?_ _) | (with_reducible refine Below.setCell ?_ ?_ _) | (with_reducible refine Below.drew ?_) | (with_reducible refine Below.trans ?_ (Below.mono (by with_reducible assumption) ?_)) | omega | (simp; done) | (simp; omega)))⟩
end Go.Proofs.YtmfahekkcgnndaaDoor
