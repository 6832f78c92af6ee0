/- ParseBrine of the reference (chapter 2). -/
import Derived.Test.YtocaodoagiokjaaDoorBrnSplit
import Derived.Test.YtocaodoagiokjaaDoorFree
set_option linter.unusedSimpArgs false
set_option linter.unusedVariables false
namespace Go.Proofs.YtocaodoagiokjaaDoor
open Go.RowKit Go.Sort Go.Salt
attribute [local go_sem] cell_rg
theorem own_two {w : World} {base : Nat} {E : TypeId} {P Q : Value} {A : Option Addr} (h : OwnAt w base E [P, Q] 2 A) : ∃ g, A = some ⟨g, 0, none⟩ ∧ base ≤ g ∧ Row w g E [P, Q] := by
  rcases h with ⟨_, h, _⟩ | h
  · omega
  · exact h
set_option maxRecDepth 100000 in
set_option maxHeartbeats 8000000 in
theorem sParse_two (t P Q : ByteArray) (x y : Int) (w : World) (hz : t.size ≤ 100) (hsp : spL t = [P, Q]) (hP : 2 ≤ P.size) (hP2 : P.size ≤ 100) (hQ : 2 ≤ Q.size) (hQ2 : Q.size ≤ 100) (hx : rdI (P.extract 1 P.size) = x) (hy : rdI (Q.extract 1 Q.size) = y)
    (R : Bool) (hR : R = ((inB x 0 1000000 && inB y 0 1000000) && decide (brS x y = t))) :
    Calls Tryd.prog 11 #[.string t] w fun e w' => e = .returned (.tuple #[.agg #[.int .i64 (bif R then x else 0), .int .i64 (bif R then y else 0)], .bool R]) ∧ Below w.heap.size w w' := by
  have HS := Lib.hid hsp
  have HX := Lib.hid hx
  have HY := Lib.hid hy
  have hPI : (2 : Int) ≤ P.size := by omega
  have hQI : (2 : Int) ≤ Q.size := by omega
  have hPs : (P.extract 1 P.size).size ≤ 1000 := Nat.le_trans (ext_sz _ _ _) (by omega)
  have hQs : (Q.extract 1 Q.size).size ≤ 1000 := Nat.le_trans (ext_sz _ _ _) (by omega)
  clear hsp hx hy
  go_enter Tryd.func11, Tryd.ntmps11
  go_wp2_with fail
  refine Dr.cut_calls (fun X => Row X w.heap.size 25 [.int .i64 0, .int .i64 0] ∧ Below w.heap.size w X) ⟨Row.new _ _ _, (by repeat' (first | (with_reducible exact Below.refl _ _) | (with_reducible refine Below.alloc ?_ ?_ _) | (with_reducible refine Below.setCell ?_ ?_ _) | (with_reducible refine Below.drew ?_) | (with_reducible refine Below.trans ?_ (Below.mono (by with_reducible assumption) ?_)) | omega | (simp; done) | (simp; omega)))⟩ ?_
  rintro X0 ⟨hr0, hb0⟩
  refine (l1Split_any t _ (by omega)).mono ?_
  rintro e w1 ⟨A1, c1, rfl, own1, hb1⟩
  rw [HS.out] at own1 ⊢
  obtain ⟨g, rfl, hg, hr1⟩ := own_two own1
  have HR0 := Lib.hid (hr0.to hb1)
  replace hb1 := hb0.trans (hb1.mono hb0.size)
  have hs1 := hb1.size
  have hgl := hr1.lt
  obtain ⟨p0, p1, fp⟩ := hr1.two
  clear hr0 own1
  go_upto_region 4 with (fail)
  apply wp_region_chain 12 [] [] noJ (fun W W' => Below W.heap.size W W') [Sum.inl _, Sum.inl _, Sum.inl _, Sum.inl _, Sum.inl _, Sum.inl _, Sum.inl _, Sum.inl _, Sum.inl _, Sum.inl _, Sum.inl _, Sum.inr (fun u W => ∃ B, u = .pointer (some ⟨B, 0, none⟩) ∧ w1.heap.size ≤ B ∧ Row W B 25 [.int .i64 0, .int .i64 0])] (by kernel_rfl) (by kernel_rfl) (fun _ _ _ => below_trans) (below_draw _) trivial ?_
  rotate_left 11
  simp only [List.take_succ_cons, List.take_zero, List.drop_succ_cons, List.drop_zero]
  apply free_val (by rfl)
  · intro W hE hp hF; obtain ⟨hcE, hfE, hnE⟩ := bcell hE; have hsE := hE.size; unfold opOb; go_wp2_with fail; exact ⟨rfl, _, rfl, rfl, ⟨Below.refl _ _, noJ_post _ _ _⟩⟩
  simp only [Act.put, List.setIfInBounds_toArray, List.set_cons_succ, List.set_cons_zero]
  apply free_val (by rfl)
  · intro W hE hp hF; obtain ⟨hcE, hfE, hnE⟩ := bcell hE; have hsE := hE.size; unfold opOb; go_wp2_with fail; exact ⟨rfl, _, rfl, rfl, ⟨Below.refl _ _, noJ_post _ _ _⟩⟩
  simp only [Act.put, List.setIfInBounds_toArray, List.set_cons_succ, List.set_cons_zero]
  apply free_val (by rfl)
  · intro W hE hp hF; obtain ⟨hcE, hfE, hnE⟩ := bcell hE; have hsE := hE.size; unfold opOb; go_wp2_with fail; exact ⟨rfl, _, rfl, rfl, ⟨Below.refl _ _, noJ_post _ _ _⟩⟩
  simp only [Act.put, List.setIfInBounds_toArray, List.set_cons_succ, List.set_cons_zero]
  apply free_val (by rfl)
  · intro W hE hp hF; obtain ⟨hcE, hfE, hnE⟩ := bcell hE; have hsE := hE.size; unfold opOb; go_wp2_with fail; exact ⟨rfl, _, rfl, rfl, ⟨Below.refl _ _, noJ_post _ _ _⟩⟩
  simp only [Act.put, List.setIfInBounds_toArray, List.set_cons_succ, List.set_cons_zero]
  apply free_val (by rfl)
  · intro W hE hp hF; obtain ⟨hcE, hfE, hnE⟩ := bcell hE; have hsE := hE.size; unfold opOb; go_wp2_with fail; (go_at_call 34; refine (l2Read_any _ _ hPs).mono ?_; rintro e WX ⟨rfl, hbX⟩); go_wp2_with fail; exact ⟨rfl, _, rfl, rfl, ⟨hbX, noJ_post _ _ _⟩⟩
  simp only [Act.put, List.setIfInBounds_toArray, List.set_cons_succ, List.set_cons_zero]
  apply free_val (by rfl)
  · intro W hE hp hF; obtain ⟨hcE, hfE, hnE⟩ := bcell hE; have hsE := hE.size; unfold opOb; go_wp2_with fail; exact ⟨rfl, _, rfl, rfl, ⟨Below.refl _ _, noJ_post _ _ _⟩⟩
  simp only [Act.put, List.setIfInBounds_toArray, List.set_cons_succ, List.set_cons_zero]
  apply free_val (by rfl)
  · intro W hE hp hF; obtain ⟨hcE, hfE, hnE⟩ := bcell hE; have hsE := hE.size; unfold opOb; go_wp2_with fail; exact ⟨rfl, _, rfl, rfl, ⟨Below.refl _ _, noJ_post _ _ _⟩⟩
  simp only [Act.put, List.setIfInBounds_toArray, List.set_cons_succ, List.set_cons_zero]
  apply free_val (by rfl)
  · intro W hE hp hF; obtain ⟨hcE, hfE, hnE⟩ := bcell hE; have hsE := hE.size; unfold opOb; go_wp2_with fail; exact ⟨rfl, _, rfl, rfl, ⟨Below.refl _ _, noJ_post _ _ _⟩⟩
  simp only [Act.put, List.setIfInBounds_toArray, List.set_cons_succ, List.set_cons_zero]
  apply free_val (by rfl)
  · intro W hE hp hF; obtain ⟨hcE, hfE, hnE⟩ := bcell hE; have hsE := hE.size; unfold opOb; go_wp2_with fail; exact ⟨rfl, _, rfl, rfl, ⟨Below.refl _ _, noJ_post _ _ _⟩⟩
  simp only [Act.put, List.setIfInBounds_toArray, List.set_cons_succ, List.set_cons_zero]
  apply free_val (by rfl)
  · intro W hE hp hF; obtain ⟨hcE, hfE, hnE⟩ := bcell hE; have hsE := hE.size; unfold opOb; go_wp2_with fail; (go_at_call 34; refine (l2Read_any _ _ hQs).mono ?_; rintro e WX ⟨rfl, hbX⟩); go_wp2_with fail; exact ⟨rfl, _, rfl, rfl, ⟨hbX, noJ_post _ _ _⟩⟩
  simp only [Act.put, List.setIfInBounds_toArray, List.set_cons_succ, List.set_cons_zero]
  apply free_val (by rfl)
  · intro W hE hp hF; obtain ⟨hcE, hfE, hnE⟩ := bcell hE; have hsE := hE.size; unfold opOb; go_wp2_with fail; exact ⟨rfl, _, rfl, rfl, ⟨Below.refl _ _, noJ_post _ _ _⟩⟩
  simp only [Act.put, List.setIfInBounds_toArray, List.set_cons_succ, List.set_cons_zero]
  apply free_has (by rfl)
  · exact (fun u W W' hb ⟨B, e, h1, h2⟩ => ⟨B, e, h1, h2.to hb⟩)
  · intro W hE hp hF; obtain ⟨hcE, hfE, hnE⟩ := bcell hE; have hsE := hE.size; unfold opOb; go_wp2_with fail; exact ⟨rfl, _, rfl, ⟨_, rfl, (by first | omega | (simp; omega)), Row.new _ _ _⟩, ⟨(Below.refl _ _).alloc (Nat.le_refl _) _, noJ_post _ _ _⟩⟩
  intro uX1
  simp only [Act.put, List.setIfInBounds_toArray, List.set_cons_succ, List.set_cons_zero]
  apply free_end
  intro w2 hEw2 hJF hGF
  clear hJF
  obtain ⟨BX1, rfl, hlX1, rowX1⟩ := hGF.2
  clear hGF
  rw [HX.out, HY.out]
  have HR2 := Lib.hid (HR0.out.to hEw2)
  have hb2 := hb1.trans (hEw2.mono hs1)
  have hs2 := hb2.size
  have hlX := rowX1.lt
  have l00 := HR0.out.lt
  obtain ⟨y0, y1, yf⟩ := rowX1.two
  clear hEw2 HR0 hb1 hr1 p0 p1 fp
  go_wp2_with fail
  refine normal_of ?_
  refine cut_world (fun X => Row X w.heap.size 25 [.int .i64 0, .int .i64 0] ∧ Row X BX1 25 [.int .i64 x, .int .i64 y] ∧ Below w.heap.size w X) ⟨(HR2.out.far (p := ⟨BX1, 0, none⟩) (by simp; omega) _).far (p := ⟨BX1, 1, none⟩) (by simp; omega) _, (rowX1.set (j := 0) (.int .i64 x)).set (j := 1) (.int .i64 y), (by repeat' (first | (with_reducible exact Below.refl _ _) | (with_reducible refine Below.alloc ?_ ?_ _) | (with_reducible refine Below.setCell ?_ ?_ _) | (with_reducible refine Below.drew ?_) | (with_reducible refine Below.trans ?_ (Below.mono (by with_reducible assumption) ?_)) | omega | (simp; done) | (simp; omega)))⟩ ?_
  clear rowX1 HR2 hb2 hs2 hlX y0 y1 yf
  rintro X2 ⟨hr2, hx2, hb2⟩
  obtain ⟨d0, d1, f1⟩ := hx2.two
  have l1 := hx2.lt
  have hs2 := hb2.size
  go_wp2_with fail
  refine (l2Brine_any x y _).mono ?_
  rintro e w3 ⟨rfl, hb3⟩
  have HR3 := Lib.hid (hr2.to hb3)
  have HX3 := Lib.hid (hx2.to hb3)
  replace hb3 := hb2.trans (hb3.mono hb2.size)
  have hs3 := hb3.size
  clear hr2 hx2 hb2 d0 d1 f1 l1 hs2
  cases hOK : (inB x 0 1000000 && inB y 0 1000000)
  · obtain rfl : R = false := by rw [hR, hOK]; rfl
    clear hR hOK
    obtain ⟨c0, c1, f0⟩ := HR3.out.two
    have l0 := HR3.out.lt
    go_wp2_with fail
    ((try simp only [Exit.inBlock, Exit.then]); refine bodyPost_ret (by simp [results, Tryd.results11, go_sem, *]; try rfl) rfl ?_)
    exact ⟨rfl, (by repeat' (first | (with_reducible exact Below.refl _ _) | (with_reducible refine Below.alloc ?_ ?_ _) | (with_reducible refine Below.setCell ?_ ?_ _) | (with_reducible refine Below.drew ?_) | (with_reducible refine Below.trans ?_ (Below.mono (by with_reducible assumption) ?_)) | omega | (simp; done) | (simp; omega)))⟩
  · have hp := hOK
    simp only [Bool.and_eq_true, inB_iff] at hp
    obtain ⟨⟨ha0, ha1⟩, hs0, hs1'⟩ := hp
    obtain ⟨d0, d1, f1⟩ := HX3.out.two
    have l1 := HX3.out.lt
    have HTX := Lib.hid (fun W => l2Text_any x y W ha0 ha1 hs0 hs1')
    by_cases he : brS x y = t
    · obtain rfl : R = true := by rw [hR, hOK, decide_eq_true he]; rfl
      rw [he] at HTX
      clear hR hOK he
      go_wp2_with fail
      refine (HTX.out _).mono ?_
      rintro e w4 ⟨rfl, hb4⟩
      have HR4 := Lib.hid (HR3.out.to hb4)
      have HX4 := Lib.hid (HX3.out.to hb4)
      replace hb4 := hb3.trans (hb4.mono hs3)
      have hs4 := hb4.size
      clear d0 d1 f1 l1 hb3 hs3 HR3 HX3
      obtain ⟨c0, c1, f0⟩ := HR4.out.two
      have l0 := HR4.out.lt
      obtain ⟨d0, d1, f1⟩ := HX4.out.two
      have l1 := HX4.out.lt
      go_wp2_with fail
      ((try simp only [Exit.inBlock, Exit.then]); refine bodyPost_ret (by simp [results, Tryd.results11, go_sem, *]; try rfl) rfl ?_)
      exact ⟨rfl, (by repeat' (first | (with_reducible exact Below.refl _ _) | (with_reducible refine Below.alloc ?_ ?_ _) | (with_reducible refine Below.setCell ?_ ?_ _) | (with_reducible refine Below.drew ?_) | (with_reducible refine Below.trans ?_ (Below.mono (by with_reducible assumption) ?_)) | omega | (simp; done) | (simp; omega)))⟩
    · obtain rfl : R = false := by rw [hR, hOK, decide_eq_false he]; rfl
      have hne := str_ne he
      obtain ⟨Z, hZ⟩ : ∃ Z, brS x y = Z := ⟨_, rfl⟩
      rw [hZ] at HTX hne
      clear hR hOK he hZ
      go_wp2_with fail
      refine (HTX.out _).mono ?_
      rintro e w4 ⟨rfl, hb4⟩
      have HR4 := Lib.hid (HR3.out.to hb4)
      replace hb4 := hb3.trans (hb4.mono hs3)
      have hs4 := hb4.size
      clear d0 d1 f1 l1 hb3 hs3 HR3 HX3
      obtain ⟨c0, c1, f0⟩ := HR4.out.two
      have l0 := HR4.out.lt
      go_wp2_with fail
      ((try simp only [Exit.inBlock, Exit.then]); refine bodyPost_ret (by simp [results, Tryd.results11, go_sem, *]; try rfl) rfl ?_)
      exact ⟨rfl, (by repeat' (first | (with_reducible exact Below.refl _ _) | (with_reducible refine Below.alloc ?_ ?_ _) | (with_reducible refine Below.setCell ?_ ?_ _) | (with_reducible refine Below.drew ?_) | (with_reducible refine Below.trans ?_ (Below.mono (by with_reducible assumption) ?_)) | omega | (simp; done) | (simp; omega)))⟩
set_option maxRecDepth 100000 in
set_option maxHeartbeats 8000000 in
theorem sParse_other (t : ByteArray) (w : World) (hz : t.size ≤ 100) (h : (spL t).length = 2 → (el (spL t) 0).size < 2 ∨ 2 ≤ (el (spL t) 0).size ∧ (el (spL t) 1).size < 2) :
    Calls Tryd.prog 11 #[.string t] w fun e w' => e = .returned (.tuple #[.agg #[.int .i64 0, .int .i64 0], .bool false]) ∧ Below w.heap.size w w' := by
  have hsl := spL_len t
  obtain ⟨xs, hxs⟩ : ∃ xs, spL t = xs := ⟨_, rfl⟩
  have HS := Lib.hid (fun W => l1Split_any t W (by omega))
  rw [hxs] at HS hsl h
  clear hxs
  go_enter Tryd.func11, Tryd.ntmps11
  go_wp2_with fail
  refine Dr.cut_calls (fun X => Row X w.heap.size 25 [.int .i64 0, .int .i64 0] ∧ Below w.heap.size w X) ⟨Row.new _ _ _, (by repeat' (first | (with_reducible exact Below.refl _ _) | (with_reducible refine Below.alloc ?_ ?_ _) | (with_reducible refine Below.setCell ?_ ?_ _) | (with_reducible refine Below.drew ?_) | (with_reducible refine Below.trans ?_ (Below.mono (by with_reducible assumption) ?_)) | omega | (simp; done) | (simp; omega)))⟩ ?_
  rintro X0 ⟨hr0, hb0⟩
  refine (HS.out _).mono ?_
  rintro e w1 ⟨A1, c1, rfl, own1, hb1⟩
  have HR0 := Lib.hid (hr0.to hb1)
  have HO1 := Lib.hid own1
  replace hb1 := hb0.trans (hb1.mono hb0.size)
  have hs1 := hb1.size
  obtain ⟨c0, c1', f0⟩ := HR0.out.two
  have l0 := HR0.out.lt
  clear hr0 own1 hb0
  by_cases hl : xs.length = 2
  · have hlI : (xs.length : Int) = 2 := by omega
    obtain ⟨b, o, rfl, hB, q0⟩ := str_cell (HO1.out.rd se_len) (i := 0) (by omega)
    obtain ⟨b', o', e', hB', q1⟩ := str_cell (HO1.out.rd se_len) (i := 1) (by omega)
    obtain ⟨rfl, rfl⟩ : b = b' ∧ o = o' := by simpa using e'
    clear e' hB'
    rw [Nat.add_zero] at q0
    rcases h hl with h2 | ⟨h1, h2⟩
    · have h2I : ((el xs 0).size : Int) < 2 := by omega
      go_wp2_with fail
      ((try simp only [Exit.inBlock, Exit.then]); refine bodyPost_ret (by simp [results, Tryd.results11, go_sem, *]; try rfl) rfl ?_)
      exact ⟨rfl, (by repeat' (first | (with_reducible exact Below.refl _ _) | (with_reducible refine Below.alloc ?_ ?_ _) | (with_reducible refine Below.setCell ?_ ?_ _) | (with_reducible refine Below.drew ?_) | (with_reducible refine Below.trans ?_ (Below.mono (by with_reducible assumption) ?_)) | omega | (simp; done) | (simp; omega)))⟩
    · have h1I : ¬ ((el xs 0).size : Int) < 2 := by omega
      have h2I : ((el xs 1).size : Int) < 2 := by omega
      go_wp2_with fail
      ((try simp only [Exit.inBlock, Exit.then]); refine bodyPost_ret (by simp [results, Tryd.results11, go_sem, *]; try rfl) rfl ?_)
      exact ⟨rfl, (by repeat' (first | (with_reducible exact Below.refl _ _) | (with_reducible refine Below.alloc ?_ ?_ _) | (with_reducible refine Below.setCell ?_ ?_ _) | (with_reducible refine Below.drew ?_) | (with_reducible refine Below.trans ?_ (Below.mono (by with_reducible assumption) ?_)) | omega | (simp; done) | (simp; omega)))⟩
  · have hlI : ¬ (xs.length : Int) = 2 := by omega
    go_wp2_with fail
    ((try simp only [Exit.inBlock, Exit.then]); refine bodyPost_ret (by simp [results, Tryd.results11, go_sem, *]; try rfl) rfl ?_)
    exact ⟨rfl, (by repeat' (first | (with_reducible exact Below.refl _ _) | (with_reducible refine Below.alloc ?_ ?_ _) | (with_reducible refine Below.setCell ?_ ?_ _) | (with_reducible refine Below.drew ?_) | (with_reducible refine Below.trans ?_ (Below.mono (by with_reducible assumption) ?_)) | omega | (simp; done) | (simp; omega)))⟩
theorem two_of {xs : List ByteArray} (h : xs.length = 2) : xs = [el xs 0, el xs 1] := by
  match xs, h with
  | [p, q], _ => rfl
theorem sParse_yes (a s : Int) (w : World) (hOK : (inB a 0 1000000 && inB s 0 1000000) = true) :
    Calls Tryd.prog 11 #[.string (brS a s)] w fun e w' => e = .returned (.tuple #[.agg #[.int .i64 a, .int .i64 s], .bool true]) ∧ Below w.heap.size w w' := by
  have hp := hOK
  simp only [Bool.and_eq_true, inB_iff] at hp
  obtain ⟨⟨ha0, ha1⟩, hs0, hs1⟩ := hp
  have za := numS_len ha0 ha1
  have zs := numS_len hs0 hs1
  have la : (dgL a).length = (numS a).size := by rw [← ba_size]; rfl
  have ls : (dgL s).length = (numS s).size := by rw [← ba_size]; rfl
  have eP : (⟨(119 :: dgL a).toArray⟩ : ByteArray).size = (numS a).size + 1 := by rw [list_size, List.length_cons, la]
  have eQ : (⟨(115 :: dgL s).toArray⟩ : ByteArray).size = (numS s).size + 1 := by rw [list_size, List.length_cons, ls]
  exact sParse_two (brS a s) _ _ a s w (by have := brS_size (a := a) (s := s) (by omega) (by omega); omega) (spL_brS a s) (by omega) (by omega) (by omega) (by omega)
    (by rw [tail_num 119 a rfl, rdI_num ha0 ha1]) (by rw [tail_num 115 s rfl, rdI_num hs0 hs1]) true (by rw [hOK]; simp)
theorem sParse_no (t : ByteArray) (w : World) (hz : t.size ≤ 100) (hno : ¬ BrT t) :
    Calls Tryd.prog 11 #[.string t] w fun e w' => e = .returned (.tuple #[.agg #[.int .i64 0, .int .i64 0], .bool false]) ∧ Below w.heap.size w w' := by
  by_cases h : (spL t).length = 2 ∧ 2 ≤ (el (spL t) 0).size ∧ 2 ≤ (el (spL t) 1).size
  · obtain ⟨hl, h0, h1⟩ := h
    have hsz := spL_sz t
    exact sParse_two t _ _ _ _ w hz (two_of hl) h0 (Nat.le_trans (hsz _ (el_mem (by omega))) hz) h1 (Nat.le_trans (hsz _ (el_mem (by omega))) hz) rfl rfl false (by
      cases hOK : (inB (rdI ((el (spL t) 0).extract 1 (el (spL t) 0).size)) 0 1000000 && inB (rdI ((el (spL t) 1).extract 1 (el (spL t) 1).size)) 0 1000000)
      · rfl
      · rw [decide_eq_false (fun e => hno ⟨_, _, hOK, e.symm⟩)]; rfl)
  · exact sParse_other t w hz (fun hl => by omega)
end Go.Proofs.YtocaodoagiokjaaDoor
