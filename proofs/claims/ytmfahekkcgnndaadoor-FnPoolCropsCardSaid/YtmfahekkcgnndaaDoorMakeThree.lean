/- Contracts: a step of a pool is made, by the reference (chapter 21). -/
import Derived.Test.YtmfahekkcgnndaaDoorMake
set_option linter.unusedSimpArgs false
set_option linter.unusedVariables false
namespace Go.Proofs.YtmfahekkcgnndaaDoor
open Go.RowKit Go.Sort Go.Salt
attribute [local go_sem] cell_rg
attribute [local go_sem ↓] run_max_mx run_min_mn
set_option maxRecDepth 100000 in
set_option maxHeartbeats 8000000 in
theorem l21Make_rake (st a s c i r l v z : Int) (w : World) (hb : 0 ≤ a ∧ a ≤ 1000000 ∧ 0 ≤ s ∧ s ≤ 1000000 ∧ 0 ≤ c ∧ c ≤ 1000000 ∧ 0 ≤ i ∧ i ≤ 1000000 ∧ 0 ≤ r ∧ r ≤ 1000000 ∧ 0 ≤ l ∧ l ≤ 1000000) (hv : 1 ≤ v) (hv2 : v ≤ 9223372036854775807) (hsm : (Pl.sraw ⟨st, a, s, c, i, r, l⟩ 4 v z).sm) :
    Calls Tryd.prog 55 #[.agg #[.int .i64 st, .int .i64 a, .int .i64 s, .int .i64 c, .int .i64 i, .int .i64 r, .int .i64 l], .agg #[.int .i64 4, .int .i64 v, .int .i64 z]] w fun e w' => e = .returned (.tuple #[.agg (Pl.sraw ⟨st, a, s, c, i, r, l⟩ 4 v z).ssettle.enc.toArray, .bool (Pl.say ⟨st, a, s, c, i, r, l⟩ 4 v && (Pl.sraw ⟨st, a, s, c, i, r, l⟩ 4 v z).ssettle.ok)]) ∧ Below w.heap.size w w' := by
  replace hsm := Lib.hid hsm
  have hmn := mn_or 2000000 v
  cases hst : (st == 2)
  · have hsay := Lib.hid (show Pl.say ⟨st, a, s, c, i, r, l⟩ 4 v = false by simp [Pl.say, *])
    go_enter Tryd.func55, Tryd.ntmps55
    go_wp2_with fail
    have HSt := Lib.hid (Sq.start w ⟨st, a, s, c, i, r, l⟩ 4 v z)
    go_region_held3 (fun w' => w'.cell? ⟨w.heap.size, 0, none⟩ = some (.int .i64 st) ∧ w'.cell? ⟨w.heap.size, 1, none⟩ = some (.int .i64 a) ∧ w'.cell? ⟨w.heap.size, 2, none⟩ = some (.int .i64 s) ∧ w'.cell? ⟨w.heap.size, 3, none⟩ = some (.int .i64 c) ∧ w'.cell? ⟨w.heap.size, 4, none⟩ = some (.int .i64 i) ∧ w'.cell? ⟨w.heap.size, 5, none⟩ = some (.int .i64 r) ∧ w'.cell? ⟨w.heap.size, 6, none⟩ = some (.int .i64 l)) (go_keep) (fail)
    refine cut_world (fun W => Sq w ⟨st, a, s, c, i, r, l⟩ 4 v z W ⟨st, a, s, c, i, r, l⟩) HSt.out ?_
    clear HSt
    intro W hS
    obtain ⟨hP, hS3, hR, hO, hbW⟩ := id hS
    obtain ⟨p0, p1, p2, p3, p4, p5, p6⟩ := row7 hP
    obtain ⟨s0, s1, s2⟩ := row3 hS3
    obtain ⟨q0, q1, q2, q3, q4, q5, q6⟩ := row7 hO
    simp only at p0 p1 p2 p3 p4 p5 p6 q0 q1 q2 q3 q4 q5 q6
    have fO := hO.frozen
    have lO := hO.lt
    have lP : w.heap.size < W.heap.size := by omega
    have lS : w.heap.size + 1 < W.heap.size := by omega
    clear hP hS3 hR hO
    have HS := Lib.hid hS
    clear hS
    go_wp2_with (first | (go_at_call 62; refine (l1Least_any _ _ _).mono ?_; rintro e wX ⟨rfl, rfl⟩))
    have hS1 := Lib.hid (show Sq w ⟨st, a, s, c, i, r, l⟩ 4 v z _ ⟨st, a, s, c - mn 2000000 v, i, r + mn 2000000 v, l⟩ from ((HS.out.set (j := 3) (u := .int .i64 (c - mn 2000000 v)) (q' := ⟨st, a, s, c - mn 2000000 v, i, r, l⟩) rfl).set (j := 5) (u := .int .i64 (r + mn 2000000 v)) (q' := ⟨st, a, s, c - mn 2000000 v, i, r + mn 2000000 v, l⟩) rfl))
    have hsm2 : Pl.sm ⟨st, a, s, c - mn 2000000 v, i, r + mn 2000000 v, l⟩ := by have := hsm.out; simpa [Pl.sraw] using this
    obtain ⟨Q, hQ0⟩ : ∃ Q, Pl.ssettle ⟨st, a, s, c - mn 2000000 v, i, r + mn 2000000 v, l⟩ = Q := ⟨_, rfl⟩
    have hQ1 := Lib.hid hQ0
    clear hQ0
    refine (l21Settled_to ⟨st, a, s, c - mn 2000000 v, i, r + mn 2000000 v, l⟩ Q _ hsm2 hQ1.out).mono ?_
    rintro e W2 ⟨rfl, hb2⟩
    have hS2 := hS1.out.to hb2
    clear q0 q1 q2 q3 q4 q5 q6 fO lO
    obtain ⟨-, -, hR2, hO2, hbW2⟩ := id hS2
    obtain ⟨q0, q1, q2, q3, q4, q5, q6⟩ := row7 hO2
    have fO := hO2.frozen
    have lO := hO2.lt
    clear hR2 hO2
    have HS2 := Lib.hid hS2
    clear hS2 hb2 hS1
    clear p0 p1 p2 p3 p4 p5 p6 s0 s1 s2 lP lS HS hbW
    have hQ := Lib.hid (show Q = (Pl.sraw ⟨st, a, s, c, i, r, l⟩ 4 v z).ssettle by rw [← hQ1.out]; simp [Pl.sraw])
    clear hQ1
    go_wp2_with fail
    refine cut_world (fun W => Sq w ⟨st, a, s, c, i, r, l⟩ 4 v z W Q) (HS2.out.set7 Q) ?_
    clear q0 q1 q2 q3 q4 q5 q6 fO lO hbW2 HS2 W2
    intro W4 hS4
    obtain ⟨-, -, hR4, hO4, hbW4⟩ := id hS4
    obtain ⟨q0, q1, q2, q3, q4, q5, q6⟩ := row7 hO4
    obtain ⟨r0, r1, r2, r3, r4, r5, r6⟩ := row7 hR4
    simp only [Pl.zero] at r0 r1 r2 r3 r4 r5 r6
    have fR := hR4.frozen
    have lO := hO4.lt
    clear hR4 hO4
    have HS4 := Lib.hid hS4
    clear hS4
    go_region_with (fail)
    all_goals
      go_wp2_with fail
      ((try simp only [Exit.inBlock, Exit.then]); refine bodyPost_ret (by simp [results, Tryd.results55, go_sem, *]; try rfl) rfl ?_)
      exact ⟨by rw [← hQ.out, hsay.out]; rfl, (by repeat' (first | (with_reducible exact Below.refl _ _) | (with_reducible refine Below.alloc ?_ ?_ _) | (with_reducible refine Below.setCell ?_ ?_ _) | (with_reducible refine Below.drew ?_) | (with_reducible refine Below.trans ?_ (Below.mono (by with_reducible assumption) ?_)) | omega | (simp; done) | (simp; omega)))⟩
  · cases hle : decide (mn 2000000 v ≤ c)
    · have hsay := Lib.hid (show Pl.say ⟨st, a, s, c, i, r, l⟩ 4 v = false by simp [Pl.say, *])
      go_enter Tryd.func55, Tryd.ntmps55
      go_wp2_with fail
      have HSt := Lib.hid (Sq.start w ⟨st, a, s, c, i, r, l⟩ 4 v z)
      go_region_held3 (fun w' => w'.cell? ⟨w.heap.size, 0, none⟩ = some (.int .i64 st) ∧ w'.cell? ⟨w.heap.size, 1, none⟩ = some (.int .i64 a) ∧ w'.cell? ⟨w.heap.size, 2, none⟩ = some (.int .i64 s) ∧ w'.cell? ⟨w.heap.size, 3, none⟩ = some (.int .i64 c) ∧ w'.cell? ⟨w.heap.size, 4, none⟩ = some (.int .i64 i) ∧ w'.cell? ⟨w.heap.size, 5, none⟩ = some (.int .i64 r) ∧ w'.cell? ⟨w.heap.size, 6, none⟩ = some (.int .i64 l)) (go_keep) (fail)
      refine cut_world (fun W => Sq w ⟨st, a, s, c, i, r, l⟩ 4 v z W ⟨st, a, s, c, i, r, l⟩) HSt.out ?_
      clear HSt
      intro W hS
      obtain ⟨hP, hS3, hR, hO, hbW⟩ := id hS
      obtain ⟨p0, p1, p2, p3, p4, p5, p6⟩ := row7 hP
      obtain ⟨s0, s1, s2⟩ := row3 hS3
      obtain ⟨q0, q1, q2, q3, q4, q5, q6⟩ := row7 hO
      simp only at p0 p1 p2 p3 p4 p5 p6 q0 q1 q2 q3 q4 q5 q6
      have fO := hO.frozen
      have lO := hO.lt
      have lP : w.heap.size < W.heap.size := by omega
      have lS : w.heap.size + 1 < W.heap.size := by omega
      clear hP hS3 hR hO
      have HS := Lib.hid hS
      clear hS
      go_wp2_with (first | (go_at_call 62; refine (l1Least_any _ _ _).mono ?_; rintro e wX ⟨rfl, rfl⟩))
      have hS1 := Lib.hid (show Sq w ⟨st, a, s, c, i, r, l⟩ 4 v z _ ⟨st, a, s, c - mn 2000000 v, i, r + mn 2000000 v, l⟩ from ((HS.out.set (j := 3) (u := .int .i64 (c - mn 2000000 v)) (q' := ⟨st, a, s, c - mn 2000000 v, i, r, l⟩) rfl).set (j := 5) (u := .int .i64 (r + mn 2000000 v)) (q' := ⟨st, a, s, c - mn 2000000 v, i, r + mn 2000000 v, l⟩) rfl))
      have hsm2 : Pl.sm ⟨st, a, s, c - mn 2000000 v, i, r + mn 2000000 v, l⟩ := by have := hsm.out; simpa [Pl.sraw] using this
      obtain ⟨Q, hQ0⟩ : ∃ Q, Pl.ssettle ⟨st, a, s, c - mn 2000000 v, i, r + mn 2000000 v, l⟩ = Q := ⟨_, rfl⟩
      have hQ1 := Lib.hid hQ0
      clear hQ0
      refine (l21Settled_to ⟨st, a, s, c - mn 2000000 v, i, r + mn 2000000 v, l⟩ Q _ hsm2 hQ1.out).mono ?_
      rintro e W2 ⟨rfl, hb2⟩
      have hS2 := hS1.out.to hb2
      clear q0 q1 q2 q3 q4 q5 q6 fO lO
      obtain ⟨-, -, hR2, hO2, hbW2⟩ := id hS2
      obtain ⟨q0, q1, q2, q3, q4, q5, q6⟩ := row7 hO2
      have fO := hO2.frozen
      have lO := hO2.lt
      clear hR2 hO2
      have HS2 := Lib.hid hS2
      clear hS2 hb2 hS1
      clear p0 p1 p2 p3 p4 p5 p6 s0 s1 s2 lP lS HS hbW
      have hQ := Lib.hid (show Q = (Pl.sraw ⟨st, a, s, c, i, r, l⟩ 4 v z).ssettle by rw [← hQ1.out]; simp [Pl.sraw])
      clear hQ1
      go_wp2_with fail
      refine cut_world (fun W => Sq w ⟨st, a, s, c, i, r, l⟩ 4 v z W Q) (HS2.out.set7 Q) ?_
      clear q0 q1 q2 q3 q4 q5 q6 fO lO hbW2 HS2 W2
      intro W4 hS4
      obtain ⟨-, -, hR4, hO4, hbW4⟩ := id hS4
      obtain ⟨q0, q1, q2, q3, q4, q5, q6⟩ := row7 hO4
      obtain ⟨r0, r1, r2, r3, r4, r5, r6⟩ := row7 hR4
      simp only [Pl.zero] at r0 r1 r2 r3 r4 r5 r6
      have fR := hR4.frozen
      have lO := hO4.lt
      clear hR4 hO4
      have HS4 := Lib.hid hS4
      clear hS4
      go_region_with (fail)
      all_goals
        go_wp2_with fail
        ((try simp only [Exit.inBlock, Exit.then]); refine bodyPost_ret (by simp [results, Tryd.results55, go_sem, *]; try rfl) rfl ?_)
        exact ⟨by rw [← hQ.out, hsay.out]; rfl, (by repeat' (first | (with_reducible exact Below.refl _ _) | (with_reducible refine Below.alloc ?_ ?_ _) | (with_reducible refine Below.setCell ?_ ?_ _) | (with_reducible refine Below.drew ?_) | (with_reducible refine Below.trans ?_ (Below.mono (by with_reducible assumption) ?_)) | omega | (simp; done) | (simp; omega)))⟩
    · have hsay := Lib.hid (show Pl.say ⟨st, a, s, c, i, r, l⟩ 4 v = true by simp [Pl.say, *])
      go_enter Tryd.func55, Tryd.ntmps55
      go_wp2_with fail
      have HSt := Lib.hid (Sq.start w ⟨st, a, s, c, i, r, l⟩ 4 v z)
      go_region_held3 (fun w' => w'.cell? ⟨w.heap.size, 0, none⟩ = some (.int .i64 st) ∧ w'.cell? ⟨w.heap.size, 1, none⟩ = some (.int .i64 a) ∧ w'.cell? ⟨w.heap.size, 2, none⟩ = some (.int .i64 s) ∧ w'.cell? ⟨w.heap.size, 3, none⟩ = some (.int .i64 c) ∧ w'.cell? ⟨w.heap.size, 4, none⟩ = some (.int .i64 i) ∧ w'.cell? ⟨w.heap.size, 5, none⟩ = some (.int .i64 r) ∧ w'.cell? ⟨w.heap.size, 6, none⟩ = some (.int .i64 l)) (go_keep) (fail)
      refine cut_world (fun W => Sq w ⟨st, a, s, c, i, r, l⟩ 4 v z W ⟨st, a, s, c, i, r, l⟩) HSt.out ?_
      clear HSt
      intro W hS
      obtain ⟨hP, hS3, hR, hO, hbW⟩ := id hS
      obtain ⟨p0, p1, p2, p3, p4, p5, p6⟩ := row7 hP
      obtain ⟨s0, s1, s2⟩ := row3 hS3
      obtain ⟨q0, q1, q2, q3, q4, q5, q6⟩ := row7 hO
      simp only at p0 p1 p2 p3 p4 p5 p6 q0 q1 q2 q3 q4 q5 q6
      have fO := hO.frozen
      have lO := hO.lt
      have lP : w.heap.size < W.heap.size := by omega
      have lS : w.heap.size + 1 < W.heap.size := by omega
      clear hP hS3 hR hO
      have HS := Lib.hid hS
      clear hS
      go_wp2_with (first | (go_at_call 62; refine (l1Least_any _ _ _).mono ?_; rintro e wX ⟨rfl, rfl⟩))
      have hS1 := Lib.hid (show Sq w ⟨st, a, s, c, i, r, l⟩ 4 v z _ ⟨st, a, s, c - mn 2000000 v, i, r + mn 2000000 v, l⟩ from ((HS.out.set (j := 3) (u := .int .i64 (c - mn 2000000 v)) (q' := ⟨st, a, s, c - mn 2000000 v, i, r, l⟩) rfl).set (j := 5) (u := .int .i64 (r + mn 2000000 v)) (q' := ⟨st, a, s, c - mn 2000000 v, i, r + mn 2000000 v, l⟩) rfl))
      have hsm2 : Pl.sm ⟨st, a, s, c - mn 2000000 v, i, r + mn 2000000 v, l⟩ := by have := hsm.out; simpa [Pl.sraw] using this
      obtain ⟨Q, hQ0⟩ : ∃ Q, Pl.ssettle ⟨st, a, s, c - mn 2000000 v, i, r + mn 2000000 v, l⟩ = Q := ⟨_, rfl⟩
      have hQ1 := Lib.hid hQ0
      clear hQ0
      refine (l21Settled_to ⟨st, a, s, c - mn 2000000 v, i, r + mn 2000000 v, l⟩ Q _ hsm2 hQ1.out).mono ?_
      rintro e W2 ⟨rfl, hb2⟩
      have hS2 := hS1.out.to hb2
      clear q0 q1 q2 q3 q4 q5 q6 fO lO
      obtain ⟨-, -, hR2, hO2, hbW2⟩ := id hS2
      obtain ⟨q0, q1, q2, q3, q4, q5, q6⟩ := row7 hO2
      have fO := hO2.frozen
      have lO := hO2.lt
      clear hR2 hO2
      have HS2 := Lib.hid hS2
      clear hS2 hb2 hS1
      clear p0 p1 p2 p3 p4 p5 p6 s0 s1 s2 lP lS HS hbW
      have hQ := Lib.hid (show Q = (Pl.sraw ⟨st, a, s, c, i, r, l⟩ 4 v z).ssettle by rw [← hQ1.out]; simp [Pl.sraw])
      clear hQ1
      go_wp2_with fail
      refine cut_world (fun W => Sq w ⟨st, a, s, c, i, r, l⟩ 4 v z W Q) (HS2.out.set7 Q) ?_
      clear q0 q1 q2 q3 q4 q5 q6 fO lO hbW2 HS2 W2
      intro W4 hS4
      obtain ⟨-, -, hR4, hO4, hbW4⟩ := id hS4
      obtain ⟨q0, q1, q2, q3, q4, q5, q6⟩ := row7 hO4
      obtain ⟨r0, r1, r2, r3, r4, r5, r6⟩ := row7 hR4
      simp only [Pl.zero] at r0 r1 r2 r3 r4 r5 r6
      have fR := hR4.frozen
      have lO := hO4.lt
      clear hR4 hO4
      have HS4 := Lib.hid hS4
      clear hS4
      have hd := Lib.hid (fun W => l21Good_any Q.st Q.a Q.s Q.c Q.i Q.r Q.l W)
      go_region_with (first | (go_at_call 21; refine (hd.out _).mono ?_; rintro e W5 ⟨rfl, hb5⟩; have hs5 := hb5.size; (try simp at hs5); have hS5 := HS4.out.to (show Below W4.heap.size W4 W5 from (by repeat' (first | (with_reducible exact Below.refl _ _) | (with_reducible refine Below.alloc ?_ ?_ _) | (with_reducible refine Below.setCell ?_ ?_ _) | (with_reducible refine Below.drew ?_) | (with_reducible refine Below.trans ?_ (Below.mono (by with_reducible assumption) ?_)) | omega | (simp; done) | (simp; omega)))); obtain ⟨_, _, hR5, hO5, hbW5⟩ := hS5; obtain ⟨r0, r1, r2, r3, r4, r5, r6⟩ := row7 hR5; simp only [Pl.zero] at r0 r1 r2 r3 r4 r5 r6; obtain ⟨q0, q1, q2, q3, q4, q5, q6⟩ := row7 hO5; have fR := hR5.frozen; have lO5 := hO5.lt; clear hR5 hO5))
      all_goals
        go_wp2_with fail
        ((try simp only [Exit.inBlock, Exit.then]); refine bodyPost_ret (by simp [results, Tryd.results55, go_sem, *]; try rfl) rfl ?_)
        exact ⟨by rw [← hQ.out, hsay.out]; rfl, (by repeat' (first | (with_reducible exact Below.refl _ _) | (with_reducible refine Below.alloc ?_ ?_ _) | (with_reducible refine Below.setCell ?_ ?_ _) | (with_reducible refine Below.drew ?_) | (with_reducible refine Below.trans ?_ (Below.mono (by with_reducible assumption) ?_)) | omega | (simp; done) | (simp; omega)))⟩
end Go.Proofs.YtmfahekkcgnndaaDoor
