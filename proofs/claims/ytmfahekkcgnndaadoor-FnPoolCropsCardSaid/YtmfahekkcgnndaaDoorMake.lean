/- Contracts: a step of a pool is made, by the reference (chapter 21). -/
import Derived.Test.YtmfahekkcgnndaaDoorStepS
set_option linter.unusedSimpArgs false
set_option linter.unusedVariables false
namespace Go.Proofs.YtmfahekkcgnndaaDoor
open Go.RowKit Go.Sort Go.Salt
attribute [local go_sem] cell_rg
attribute [local go_sem ↓] run_max_mx run_min_mn
/-- The pool, the step, the result and what is being made, in four blocks. -/
def Sq (w : World) (p : Pl) (k v z : Int) (W : World) (q : Pl) : Prop := Row W w.heap.size 30 p.enc ∧ Row W (w.heap.size + 1) 41 [.int .i64 k, .int .i64 v, .int .i64 z] ∧ Row W (w.heap.size + 2) 30 Pl.zero.enc ∧ Row W (w.heap.size + 3) 30 q.enc ∧ Below w.heap.size w W
theorem Sq.to {w W W' : World} {p q : Pl} {k v z : Int} (h : Sq w p k v z W q) (hb : Below W.heap.size W W') : Sq w p k v z W' q := by
  obtain ⟨h1, h2, h3, h4, h5⟩ := h
  exact ⟨h1.to hb, h2.to hb, h3.to hb, h4.to hb, h5.trans (hb.mono h5.size)⟩
theorem Sq.set {w W : World} {p q q' : Pl} {k v z : Int} {j : Nat} {u : Value} (h : Sq w p k v z W q) (e : q'.enc = q.enc.set j u) : Sq w p k v z (W.setCell ⟨w.heap.size + 3, j, none⟩ u) q' := by
  obtain ⟨h1, h2, h3, h4, h5⟩ := h
  exact ⟨h1.far (by simp) u, h2.far (by simp) u, h3.far (by simp) u, by rw [e]; exact h4.set u, h5.setCell (by simp) u⟩
theorem Sq.set7 {w W : World} {p q : Pl} {k v z : Int} (h : Sq w p k v z W q) (q' : Pl) : Sq w p k v z (((((((W.setCell ⟨w.heap.size + 3, 0, none⟩ (.int .i64 q'.st)).setCell ⟨w.heap.size + 3, 1, none⟩ (.int .i64 q'.a)).setCell ⟨w.heap.size + 3, 2, none⟩ (.int .i64 q'.s)).setCell ⟨w.heap.size + 3, 3, none⟩ (.int .i64 q'.c)).setCell ⟨w.heap.size + 3, 4, none⟩ (.int .i64 q'.i)).setCell ⟨w.heap.size + 3, 5, none⟩ (.int .i64 q'.r)).setCell ⟨w.heap.size + 3, 6, none⟩ (.int .i64 q'.l)) q' :=
  ((((((h.set (q' := ⟨q'.st, q.a, q.s, q.c, q.i, q.r, q.l⟩) rfl).set (q' := ⟨q'.st, q'.a, q.s, q.c, q.i, q.r, q.l⟩) rfl).set (q' := ⟨q'.st, q'.a, q'.s, q.c, q.i, q.r, q.l⟩) rfl).set (q' := ⟨q'.st, q'.a, q'.s, q'.c, q.i, q.r, q.l⟩) rfl).set (q' := ⟨q'.st, q'.a, q'.s, q'.c, q'.i, q.r, q.l⟩) rfl).set (q' := ⟨q'.st, q'.a, q'.s, q'.c, q'.i, q'.r, q.l⟩) rfl).set (q' := q') rfl
theorem Sq.start (w : World) (p : Pl) (k v z : Int) : Sq w p k v z (((((w.alloc (.cells p.enc.toArray 30)).alloc (.cells #[.int .i64 k, .int .i64 v, .int .i64 z] 41)).alloc (.cells Pl.zero.enc.toArray 30)).alloc (.cells p.enc.toArray 30)).drew) p :=
  ⟨(((Row.new w 30 p.enc.toArray).alloc _).alloc _).alloc _, ((row_new_at (w.alloc (.cells p.enc.toArray 30)) 41 #[.int .i64 k, .int .i64 v, .int .i64 z] (w.heap.size + 1) (by simp)).alloc _).alloc _, (row_new_at _ 30 Pl.zero.enc.toArray (w.heap.size + 2) (by simp)).alloc _, row_new_at _ 30 p.enc.toArray (w.heap.size + 3) (by simp), (by repeat' (first | (with_reducible exact Below.refl _ _) | (with_reducible refine Below.alloc ?_ ?_ _) | (with_reducible refine Below.setCell ?_ ?_ _) | (with_reducible refine Below.drew ?_) | (with_reducible refine Below.trans ?_ (Below.mono (by with_reducible assumption) ?_)) | omega | (simp; done) | (simp; omega)))⟩
theorem l21Settled_to (p Q : Pl) (w : World) (hp : p.sm) (h : p.ssettle = Q) :
    Calls Tryd.prog 63 #[.agg #[.int .i64 p.st, .int .i64 p.a, .int .i64 p.s, .int .i64 p.c, .int .i64 p.i, .int .i64 p.r, .int .i64 p.l]] w fun e w' => e = .returned (.agg #[.int .i64 Q.st, .int .i64 Q.a, .int .i64 Q.s, .int .i64 Q.c, .int .i64 Q.i, .int .i64 Q.r, .int .i64 Q.l]) ∧ Below w.heap.size w w' := by
  subst h; exact l21Settled_any p w hp
theorem row7 {W : World} {B : Nat} {E : TypeId} {q : Pl} (h : Row W B E q.enc) : (W.cell? ⟨B, 0, none⟩ = some (.int .i64 q.st) ∧ W.cell? ⟨B, 1, none⟩ = some (.int .i64 q.a) ∧ W.cell? ⟨B, 2, none⟩ = some (.int .i64 q.s) ∧ W.cell? ⟨B, 3, none⟩ = some (.int .i64 q.c) ∧ W.cell? ⟨B, 4, none⟩ = some (.int .i64 q.i) ∧ W.cell? ⟨B, 5, none⟩ = some (.int .i64 q.r) ∧ W.cell? ⟨B, 6, none⟩ = some (.int .i64 q.l)) :=
  ⟨h.cell (j := 0) (by simp [Pl.enc]), h.cell (j := 1) (by simp [Pl.enc]), h.cell (j := 2) (by simp [Pl.enc]), h.cell (j := 3) (by simp [Pl.enc]), h.cell (j := 4) (by simp [Pl.enc]), h.cell (j := 5) (by simp [Pl.enc]), h.cell (j := 6) (by simp [Pl.enc])⟩
theorem row3 {W : World} {B : Nat} {E : TypeId} {k v z : Int} (h : Row W B E [.int .i64 k, .int .i64 v, .int .i64 z]) : W.cell? ⟨B, 0, none⟩ = some (.int .i64 k) ∧ W.cell? ⟨B, 1, none⟩ = some (.int .i64 v) ∧ W.cell? ⟨B, 2, none⟩ = some (.int .i64 z) :=
  ⟨h.cell (j := 0) (by simp), h.cell (j := 1) (by simp), h.cell (j := 2) (by simp)⟩
set_option maxRecDepth 100000 in
set_option maxHeartbeats 8000000 in
theorem l21Make_fill (st a s c i r l v z : Int) (w : World) (hb : 0 ≤ a ∧ a ≤ 1000000 ∧ 0 ≤ s ∧ s ≤ 1000000 ∧ 0 ≤ c ∧ c ≤ 1000000 ∧ 0 ≤ i ∧ i ≤ 1000000 ∧ 0 ≤ r ∧ r ≤ 1000000 ∧ 0 ≤ l ∧ l ≤ 1000000) (hv : 0 ≤ v ∧ v ≤ 1000000) (hz : 0 ≤ z ∧ z ≤ 1000000) (hsm : (Pl.sraw ⟨st, a, s, c, i, r, l⟩ 1 v z).sm) :
    Calls Tryd.prog 55 #[.agg #[.int .i64 st, .int .i64 a, .int .i64 s, .int .i64 c, .int .i64 i, .int .i64 r, .int .i64 l], .agg #[.int .i64 1, .int .i64 v, .int .i64 z]] w fun e w' => e = .returned (.tuple #[.agg (Pl.sraw ⟨st, a, s, c, i, r, l⟩ 1 v z).ssettle.enc.toArray, .bool (Pl.say ⟨st, a, s, c, i, r, l⟩ 1 v && (Pl.sraw ⟨st, a, s, c, i, r, l⟩ 1 v z).ssettle.ok)]) ∧ Below w.heap.size w w' := by
  replace hsm := Lib.hid hsm
  go_enter Tryd.func55, Tryd.ntmps55
  go_wp2_with fail
  have HSt := Lib.hid (Sq.start w ⟨st, a, s, c, i, r, l⟩ 1 v z)
  go_region_held3 (fun w' => w'.cell? ⟨w.heap.size, 0, none⟩ = some (.int .i64 st) ∧ w'.cell? ⟨w.heap.size, 1, none⟩ = some (.int .i64 a) ∧ w'.cell? ⟨w.heap.size, 2, none⟩ = some (.int .i64 s) ∧ w'.cell? ⟨w.heap.size, 3, none⟩ = some (.int .i64 c) ∧ w'.cell? ⟨w.heap.size, 4, none⟩ = some (.int .i64 i) ∧ w'.cell? ⟨w.heap.size, 5, none⟩ = some (.int .i64 r) ∧ w'.cell? ⟨w.heap.size, 6, none⟩ = some (.int .i64 l)) (go_keep) (fail)
  refine cut_world (fun W => Sq w ⟨st, a, s, c, i, r, l⟩ 1 v z W ⟨st, a, s, c, i, r, l⟩) HSt.out ?_
  clear HSt
  intro W hS
  obtain ⟨hP, hS3, hR, hO, hbW⟩ := id hS
  obtain ⟨p0, p1, p2, p3, p4, p5, p6⟩ := row7 hP
  obtain ⟨s0, s1, s2⟩ := row3 hS3
  obtain ⟨q0, q1, q2, q3, q4, q5, q6⟩ := row7 hO
  simp only at p0 p1 p2 p3 p4 p5 p6 q0 q1 q2 q3 q4 q5 q6
  have fO := hO.frozen
  have lO := hO.lt
  have lP : w.heap.size < W.heap.size := by omega
  have lS : w.heap.size + 1 < W.heap.size := by omega
  clear hP hS3 hR hO
  have HS := Lib.hid hS
  clear hS
  go_wp2_with fail
  refine (l2Sum_any a s v z _ (by omega) (by omega) (by omega) (by omega) (by omega) (by omega) (by omega) (by omega)).mono ?_
  rintro e W1 ⟨rfl, hb1⟩
  (have hs1 := hb1.size; obtain ⟨hc1, hf1, hn1⟩ := bcell hb1)
  have lO1 : w.heap.size + 3 < W1.heap.size := by omega
  go_wp2_with fail
  have hS1 := Lib.hid (show Sq w ⟨st, a, s, c, i, r, l⟩ 1 v z _ ⟨st, a + v, s + z, c, i + z, r, l⟩ from ((((HS.out.to hb1).set (j := 1) (u := .int .i64 (a + v)) (q' := ⟨st, a + v, s, c, i, r, l⟩) rfl).set (j := 2) (u := .int .i64 (s + z)) (q' := ⟨st, a + v, s + z, c, i, r, l⟩) rfl).set (j := 4) (u := .int .i64 (i + z)) (q' := ⟨st, a + v, s + z, c, i + z, r, l⟩) rfl))
  have hsm2 : Pl.sm ⟨st, a + v, s + z, c, i + z, r, l⟩ := by have := hsm.out; simpa [Pl.sraw] using this
  obtain ⟨Q, hQ0⟩ : ∃ Q, Pl.ssettle ⟨st, a + v, s + z, c, i + z, r, l⟩ = Q := ⟨_, rfl⟩
  have hQ1 := Lib.hid hQ0
  clear hQ0
  refine (l21Settled_to ⟨st, a + v, s + z, c, i + z, r, l⟩ Q _ hsm2 hQ1.out).mono ?_
  rintro e W2 ⟨rfl, hb2⟩
  have hS2 := hS1.out.to hb2
  clear q0 q1 q2 q3 q4 q5 q6 fO lO
  obtain ⟨-, -, hR2, hO2, hbW2⟩ := id hS2
  obtain ⟨q0, q1, q2, q3, q4, q5, q6⟩ := row7 hO2
  have fO := hO2.frozen
  have lO := hO2.lt
  clear hR2 hO2
  have HS2 := Lib.hid hS2
  clear hS2 hb2 hS1
  clear hc1 hf1 hn1 hs1 hb1 lO1 p0 p1 p2 p3 p4 p5 p6 s0 s1 s2 lP lS HS hbW W1 W
  have hQ := Lib.hid (show Q = (Pl.sraw ⟨st, a, s, c, i, r, l⟩ 1 v z).ssettle by rw [← hQ1.out]; simp [Pl.sraw])
  clear hQ1
  go_wp2_with fail
  refine cut_world (fun W => Sq w ⟨st, a, s, c, i, r, l⟩ 1 v z W Q) (HS2.out.set7 Q) ?_
  clear q0 q1 q2 q3 q4 q5 q6 fO lO hbW2 HS2 W2
  intro W4 hS4
  obtain ⟨-, -, hR4, hO4, hbW4⟩ := id hS4
  obtain ⟨q0, q1, q2, q3, q4, q5, q6⟩ := row7 hO4
  obtain ⟨r0, r1, r2, r3, r4, r5, r6⟩ := row7 hR4
  simp only [Pl.zero] at r0 r1 r2 r3 r4 r5 r6
  have fR := hR4.frozen
  have lO := hO4.lt
  clear hR4 hO4
  have HS4 := Lib.hid hS4
  clear hS4
  have hd := Lib.hid (fun W => l21Good_any Q.st Q.a Q.s Q.c Q.i Q.r Q.l W)
  go_region_with (first | (go_at_call 21; refine (hd.out _).mono ?_; rintro e W5 ⟨rfl, hb5⟩; have hs5 := hb5.size; (try simp at hs5); have hS5 := HS4.out.to (show Below W4.heap.size W4 W5 from (by repeat' (first | (with_reducible exact Below.refl _ _) | (with_reducible refine Below.alloc ?_ ?_ _) | (with_reducible refine Below.setCell ?_ ?_ _) | (with_reducible refine Below.drew ?_) | (with_reducible refine Below.trans ?_ (Below.mono (by with_reducible assumption) ?_)) | omega | (simp; done) | (simp; omega)))); obtain ⟨_, _, hR5, hO5, hbW5⟩ := hS5; obtain ⟨r0, r1, r2, r3, r4, r5, r6⟩ := row7 hR5; simp only [Pl.zero] at r0 r1 r2 r3 r4 r5 r6; obtain ⟨q0, q1, q2, q3, q4, q5, q6⟩ := row7 hO5; have fR := hR5.frozen; have lO5 := hO5.lt; clear hR5 hO5))
  all_goals
    go_wp2_with fail
    ((try simp only [Exit.inBlock, Exit.then]); refine bodyPost_ret (by simp [results, Tryd.results55, go_sem, *]; try rfl) rfl ?_)
    exact ⟨by rw [← hQ.out]; rfl, (by repeat' (first | (with_reducible exact Below.refl _ _) | (with_reducible refine Below.alloc ?_ ?_ _) | (with_reducible refine Below.setCell ?_ ?_ _) | (with_reducible refine Below.drew ?_) | (with_reducible refine Below.trans ?_ (Below.mono (by with_reducible assumption) ?_)) | omega | (simp; done) | (simp; omega)))⟩
end Go.Proofs.YtmfahekkcgnndaaDoor
