/- Dividing a brine; brines compared; the text of a brine in the reference (chapter 2). -/
import Derived.Test.YtocaodoagiokjaaDoorBrnPart
import Derived.Test.YtocaodoagiokjaaDoorFree
set_option linter.unusedSimpArgs false
set_option linter.unusedVariables false
namespace Go.Proofs.YtocaodoagiokjaaDoor
open Go.RowKit Go.Sort Go.Salt
attribute [local go_sem] cell_rg
theorem bri_info : (Tryd.prog.info? 25).map (fun i => (i.zero, i.size, i.bytes)) = some (some (.agg #[.int .i64 0, .int .i64 0]), 2, 16) := by kernel_rfl
theorem hp_new_at {W : World} {o : Obj} {g : Nat} (h : W.heap.size = g) : (W.alloc o).heap[g]? = some o := by subst h; exact heap_alloc_new W o
/-- Whether a brine can be divided into n parts. -/
def spB (a s n : Int) : Bool := (inB a 0 1000000 && inB s 0 1000000) && inB n 1 20
theorem sh_next {a s x y : Int} {p k : Nat} (hk : k < p) (hx : shI a p k = x) (hy : shI s p k = y) : ((shL a s p).take k).flatMap Brn.enc ++ [.int .i64 x, .int .i64 y] = ((shL a s p).take (k + 1)).flatMap Brn.enc := by
  rw [take_el (by rw [shL_len]; exact hk), List.flatMap_append, shL_el hk, hx, hy]; rfl
theorem news_row {w : World} {g : Nat} {E : TypeId} {cs : List Value} (h : Row w g E cs) : ∀ j u, cs[j]? = some u → w.cell? ((⟨g, 0, none⟩ : Addr).add j) = some u := fun j u hu => by
  obtain ⟨hj, e⟩ := List.getElem?_eq_some_iff.1 hu
  rw [Addr.add_lit, Nat.zero_add, h.cell hj, e]
set_option maxHeartbeats 1000000 in
theorem share_any (n : Int) (p k : Nat) (w : World) (h0 : 0 ≤ n) (h1 : n ≤ 1000000) (hp : 0 < p) (hp2 : p ≤ 20) (hk : k < p) :
    Calls Tryd.prog 44 #[.int .i64 n, .int .i64 p, .int .i64 k] w fun e w' => e = .returned (.int .i64 (shI n p k)) ∧ w = w' := by
  have hne : ¬ (p : Int) = 0 := by omega
  have e1 : n.tmod p = n % p := Int.tmod_eq_emod_of_nonneg h0
  have e2 : n.tdiv p = n / p := Int.tdiv_eq_ediv_of_nonneg h0
  have r0 := Int.emod_nonneg n hne
  have r1 := Int.emod_lt_of_pos n (show (0 : Int) < p by omega)
  have q0 : 0 ≤ n / (p : Int) := Int.ediv_nonneg h0 (by omega)
  have q1 : n / (p : Int) ≤ n := Int.ediv_le_self _ h0
  have E := Lib.hid (show shI n p k = if (k : Int) < n % p then n / p + 1 else n / p from rfl)
  generalize n / (p : Int) = q at *
  generalize n % (p : Int) = r at *
  by_cases hlt : (k : Int) < r
  · go_enter Tryd.func44, Tryd.ntmps44
    go_wp2_with fail
    go_ret
    exact ⟨by rw [E.out, if_pos (by omega)]; rfl, rfl⟩
  · go_enter Tryd.func44, Tryd.ntmps44
    go_wp2_with fail
    go_ret
    exact ⟨by rw [E.out, if_neg (by omega)]; rfl, rfl⟩
set_option maxHeartbeats 1000000 in
theorem l2Share_any (n : Int) (p k : Nat) (w : World) (h0 : 0 ≤ n) (h1 : n ≤ 1000000) (hp : 0 < p) (hp2 : p ≤ 20) (hk : k < p) :
    Calls Tryd.prog 45 #[.int .i64 n, .int .i64 p, .int .i64 k] w fun e w' => e = .returned (.int .i64 (shI n p k)) ∧ w = w' := by
  have hne : ¬ (p : Int) = 0 := by omega
  have e1 : n.tmod p = n % p := Int.tmod_eq_emod_of_nonneg h0
  have e2 : n.tdiv p = n / p := Int.tdiv_eq_ediv_of_nonneg h0
  have r0 := Int.emod_nonneg n hne
  have r1 := Int.emod_lt_of_pos n (show (0 : Int) < p by omega)
  have q0 : 0 ≤ n / (p : Int) := Int.ediv_nonneg h0 (by omega)
  have q1 : n / (p : Int) ≤ n := Int.ediv_le_self _ h0
  have E := Lib.hid (show shI n p k = if (k : Int) < n % p then n / p + 1 else n / p from rfl)
  generalize n / (p : Int) = q at *
  generalize n % (p : Int) = r at *
  by_cases hlt : (k : Int) < r
  · go_enter Tryd.func45, Tryd.ntmps45
    go_wp2_with fail
    go_ret
    exact ⟨by rw [E.out, if_pos (by omega)]; rfl, rfl⟩
  · go_enter Tryd.func45, Tryd.ntmps45
    go_wp2_with fail
    go_ret
    exact ⟨by rw [E.out, if_neg (by omega)]; rfl, rfl⟩
set_option maxRecDepth 100000 in
set_option maxHeartbeats 8000000 in
theorem iSplit_no (a s n : Int) (w : World) (hB : spB a s n = false) :
    Calls Tryd.prog 17 #[.agg #[.int .i64 a, .int .i64 s], .int .i64 n] w fun e w' => MadeAt w 25 [] 0 (fun v => .returned (.tuple #[v, .bool false])) e w' := by
  cases hOK : (inB a 0 1000000 && inB s 0 1000000)
  · have HC := Lib.hid (fun W => (isBrine_any a s W))
    rw [hOK] at HC
    clear hB hOK
    go_enter Tryd.func17, Tryd.ntmps17
    go_upto_region 1 with (fail)
    refine cut_world (fun X => Row X w.heap.size 25 [.int .i64 a, .int .i64 s] ∧ Below w.heap.size w X) ⟨Row.new _ _ _, (by repeat' (first | (with_reducible exact Below.refl _ _) | (with_reducible refine Below.alloc ?_ ?_ _) | (with_reducible refine Below.setCell ?_ ?_ _) | (with_reducible refine Below.drew ?_) | (with_reducible refine Below.trans ?_ (Below.mono (by with_reducible assumption) ?_)) | omega | (simp; done) | (simp; omega)))⟩ ?_
    rintro X0 ⟨r0, hb⟩
    have H0 := Lib.hid r0
    have hs := hb.size
    obtain ⟨c00, c01, f0⟩ := H0.out.two
    have l0 := H0.out.lt
    clear r0
    go_wp2_with fail
    refine (HC.out _).mono ?_
    rintro e w1 ⟨rfl, hb1⟩
    clear c00 c01 f0 l0
    replace H0 := Lib.hid (H0.out.to hb1)
    replace hb := hb.trans (hb1.mono hs)
    replace hs := hb.size
    clear hb1
    go_wp2_with fail
    go_ret2
    exact MadeAt.nil (fun v => .returned (.tuple #[v, .bool false])) hb
  · have hm : inB n 1 20 = false := by rw [spB, hOK] at hB; exact hB
    have HC := Lib.hid (fun W => (isBrine_any a s W))
    have HW := Lib.hid (fun W => (within_any n 1 20 W))
    rw [hOK] at HC
    rw [hm] at HW
    clear hB hOK hm
    go_enter Tryd.func17, Tryd.ntmps17
    go_upto_region 1 with (fail)
    refine cut_world (fun X => Row X w.heap.size 25 [.int .i64 a, .int .i64 s] ∧ Below w.heap.size w X) ⟨Row.new _ _ _, (by repeat' (first | (with_reducible exact Below.refl _ _) | (with_reducible refine Below.alloc ?_ ?_ _) | (with_reducible refine Below.setCell ?_ ?_ _) | (with_reducible refine Below.drew ?_) | (with_reducible refine Below.trans ?_ (Below.mono (by with_reducible assumption) ?_)) | omega | (simp; done) | (simp; omega)))⟩ ?_
    rintro X0 ⟨r0, hb⟩
    have H0 := Lib.hid r0
    have hs := hb.size
    obtain ⟨c00, c01, f0⟩ := H0.out.two
    have l0 := H0.out.lt
    clear r0
    go_wp2_with fail
    refine (HC.out _).mono ?_
    rintro e w1 ⟨rfl, hb1⟩
    clear c00 c01 f0 l0
    replace H0 := Lib.hid (H0.out.to hb1)
    replace hb := hb.trans (hb1.mono hs)
    replace hs := hb.size
    clear hb1
    go_wp2_with fail
    refine (HW.out _).mono ?_
    rintro e wX ⟨rfl, rfl⟩
    go_wp2_with fail
    go_ret2
    exact MadeAt.nil (fun v => .returned (.tuple #[v, .bool false])) hb
set_option maxRecDepth 100000 in
set_option maxHeartbeats 8000000 in
theorem iSplit_yes (a s : Int) (p : Nat) (w : World) (hB : spB a s p = true) :
    Calls Tryd.prog 17 #[.agg #[.int .i64 a, .int .i64 s], .int .i64 p] w fun e w' => MadeAt w 25 ((shL a s p).flatMap Brn.enc) p (fun v => .returned (.tuple #[v, .bool true])) e w' := by
  have hp := hB
  simp only [spB, Bool.and_eq_true, inB_iff] at hp
  obtain ⟨⟨⟨ha0, ha1⟩, hs0, hs1⟩, hp1, hp2⟩ := hp
  have hOK : (inB a 0 1000000 && inB s 0 1000000) = true := by rw [inB_iff.2 ⟨ha0, ha1⟩, inB_iff.2 ⟨hs0, hs1⟩]; rfl
  have hM : inB (p : Int) 1 20 = true := inB_iff.2 ⟨hp1, hp2⟩
  have HC := Lib.hid (fun W => (isBrine_any a s W))
  have HW := Lib.hid (fun W => (within_any p 1 20 W))
  rw [hOK] at HC
  rw [hM] at HW
  have hp0 : 0 < p := by omega
  have hp20 : p ≤ 20 := by omega
  clear hB hOK hM
  obtain ⟨i0, hi, hz0, hz1, hz2⟩ := info_parts bri_info
  have hinfo := Lib.hid (And.intro hi (And.intro hz0 (And.intro hz1 hz2)))
  clear hi hz0 hz1 hz2
  go_enter Tryd.func17, Tryd.ntmps17
  go_upto_region 1 with (fail)
  refine cut_world (fun X => Row X w.heap.size 25 [.int .i64 a, .int .i64 s] ∧ Below w.heap.size w X) ⟨Row.new _ _ _, (by repeat' (first | (with_reducible exact Below.refl _ _) | (with_reducible refine Below.alloc ?_ ?_ _) | (with_reducible refine Below.setCell ?_ ?_ _) | (with_reducible refine Below.drew ?_) | (with_reducible refine Below.trans ?_ (Below.mono (by with_reducible assumption) ?_)) | omega | (simp; done) | (simp; omega)))⟩ ?_
  rintro X0 ⟨r0, hb⟩
  have H0 := Lib.hid r0
  have hs := hb.size
  obtain ⟨c00, c01, f0⟩ := H0.out.two
  have l0 := H0.out.lt
  clear r0
  go_wp2_with fail
  refine (HC.out _).mono ?_
  rintro e w1 ⟨rfl, hb1⟩
  clear c00 c01 f0 l0
  replace H0 := Lib.hid (H0.out.to hb1)
  replace hb := hb.trans (hb1.mono hs)
  replace hs := hb.size
  clear hb1
  go_wp2_with fail
  refine (HW.out _).mono ?_
  rintro e wX ⟨rfl, rfl⟩
  go_wp2_with fail
  go_loopw [6, 17] (fun v i wr => ∃ k : Nat, k ≤ p ∧ i = .int .i64 k ∧ Hid (Row wr w.heap.size 25 [.int .i64 a, .int .i64 s]) ∧ Hid (wr.ownsRow (w.heap.size + 1) 25 2 v k (((shL a s p).take k).flatMap Brn.enc)) ∧ Below w.heap.size w wr) (fun _ i _ => p - (intOf i).toNat)
  case atStart => exact ⟨0, Nat.zero_le _, rfl, H0, Lib.hid (World.ownsRow_nil _ _ _ _), hb⟩
  case round =>
    clear H0 hb hs
    obtain ⟨k, hk, rfl, H0, HO, hb⟩ := hrel
    have hs := hb.size
    by_cases hlt : k < p
    · have hI : (k : Int) < p := by omega
      have hI0 : (0 : Int) ≤ k := by omega
      obtain ⟨x, hx⟩ : ∃ x, shI a p k = x := ⟨_, rfl⟩
      obtain ⟨y, hy⟩ : ∃ y, shI s p k = y := ⟨_, rfl⟩
      have HX := Lib.hid (fun W => share_any a p k W ha0 ha1 hp0 hp20 hlt)
      have HY := Lib.hid (fun W => share_any s p k W hs0 hs1 hp0 hp20 hlt)
      have HN := Lib.hid (sh_next hlt hx hy)
      rw [hx] at HX
      rw [hy] at HY
      clear hx hy
      obtain ⟨c00, c01, f0⟩ := H0.out.two
      have l0 := H0.out.lt
      go_upto_region 7 with (fail)
      apply wp_region_chain 13 [] [] noJ (fun W W' => Below W.heap.size W W') [Sum.inl _, Sum.inl _, Sum.inl _, Sum.inl _, Sum.inl _, Sum.inl _, Sum.inl _, Sum.inl _, Sum.inl _, Sum.inl _, Sum.inl _, Sum.inl _, Sum.inr (fun u W => ∃ B, u = .slice (some ⟨B, 0, none⟩) 1 1 ∧ Row W B 25 [.int .i64 x, .int .i64 y])] (by kernel_rfl) (by kernel_rfl) (fun _ _ _ => below_trans) (below_draw _) trivial ?_
      rotate_left 12
      simp only [List.take_succ_cons, List.take_zero, List.drop_succ_cons, List.drop_zero]
      apply free_val (by rfl)
      · intro W hE hp hF; obtain ⟨hcE, hfE, hnE⟩ := bcell hE; have hsE := hE.size; unfold opOb; go_wp2_with fail; exact ⟨rfl, _, rfl, rfl, ⟨Below.refl _ _, noJ_post _ _ _⟩⟩
      simp only [Act.put, List.setIfInBounds_toArray, List.set_cons_succ, List.set_cons_zero]
      apply free_val (by rfl)
      · intro W hE hp hF; obtain ⟨hcE, hfE, hnE⟩ := bcell hE; have hsE := hE.size; unfold opOb; go_wp2_with fail; exact ⟨rfl, _, rfl, rfl, ⟨Below.refl _ _, noJ_post _ _ _⟩⟩
      simp only [Act.put, List.setIfInBounds_toArray, List.set_cons_succ, List.set_cons_zero]
      apply free_val (by rfl)
      · intro W hE hp hF; obtain ⟨hcE, hfE, hnE⟩ := bcell hE; have hsE := hE.size; unfold opOb; go_wp2_with fail; exact ⟨rfl, _, rfl, rfl, ⟨Below.refl _ _, noJ_post _ _ _⟩⟩
      simp only [Act.put, List.setIfInBounds_toArray, List.set_cons_succ, List.set_cons_zero]
      apply free_val (by rfl)
      · intro W hE hp hF; obtain ⟨hcE, hfE, hnE⟩ := bcell hE; have hsE := hE.size; unfold opOb; go_wp2_with fail; exact ⟨rfl, _, rfl, rfl, ⟨Below.refl _ _, noJ_post _ _ _⟩⟩
      simp only [Act.put, List.setIfInBounds_toArray, List.set_cons_succ, List.set_cons_zero]
      apply free_val (by rfl)
      · intro W hE hp hF; obtain ⟨hcE, hfE, hnE⟩ := bcell hE; have hsE := hE.size; unfold opOb; go_wp2_with fail; exact ⟨rfl, _, rfl, rfl, ⟨Below.refl _ _, noJ_post _ _ _⟩⟩
      simp only [Act.put, List.setIfInBounds_toArray, List.set_cons_succ, List.set_cons_zero]
      apply free_val (by rfl)
      · intro W hE hp hF; obtain ⟨hcE, hfE, hnE⟩ := bcell hE; have hsE := hE.size; unfold opOb; go_wp2_with fail; (go_at_call 44; refine (HX.out _).mono ?_; rintro e WX ⟨rfl, rfl⟩); go_wp2_with fail; exact ⟨rfl, _, rfl, rfl, ⟨Below.refl _ _, noJ_post _ _ _⟩⟩
      simp only [Act.put, List.setIfInBounds_toArray, List.set_cons_succ, List.set_cons_zero]
      apply free_val (by rfl)
      · intro W hE hp hF; obtain ⟨hcE, hfE, hnE⟩ := bcell hE; have hsE := hE.size; unfold opOb; go_wp2_with fail; exact ⟨rfl, _, rfl, rfl, ⟨Below.refl _ _, noJ_post _ _ _⟩⟩
      simp only [Act.put, List.setIfInBounds_toArray, List.set_cons_succ, List.set_cons_zero]
      apply free_val (by rfl)
      · intro W hE hp hF; obtain ⟨hcE, hfE, hnE⟩ := bcell hE; have hsE := hE.size; unfold opOb; go_wp2_with fail; exact ⟨rfl, _, rfl, rfl, ⟨Below.refl _ _, noJ_post _ _ _⟩⟩
      simp only [Act.put, List.setIfInBounds_toArray, List.set_cons_succ, List.set_cons_zero]
      apply free_val (by rfl)
      · intro W hE hp hF; obtain ⟨hcE, hfE, hnE⟩ := bcell hE; have hsE := hE.size; unfold opOb; go_wp2_with fail; exact ⟨rfl, _, rfl, rfl, ⟨Below.refl _ _, noJ_post _ _ _⟩⟩
      simp only [Act.put, List.setIfInBounds_toArray, List.set_cons_succ, List.set_cons_zero]
      apply free_val (by rfl)
      · intro W hE hp hF; obtain ⟨hcE, hfE, hnE⟩ := bcell hE; have hsE := hE.size; unfold opOb; go_wp2_with fail; exact ⟨rfl, _, rfl, rfl, ⟨Below.refl _ _, noJ_post _ _ _⟩⟩
      simp only [Act.put, List.setIfInBounds_toArray, List.set_cons_succ, List.set_cons_zero]
      apply free_val (by rfl)
      · intro W hE hp hF; obtain ⟨hcE, hfE, hnE⟩ := bcell hE; have hsE := hE.size; unfold opOb; go_wp2_with fail; (go_at_call 44; refine (HY.out _).mono ?_; rintro e WX ⟨rfl, rfl⟩); go_wp2_with fail; exact ⟨rfl, _, rfl, rfl, ⟨Below.refl _ _, noJ_post _ _ _⟩⟩
      simp only [Act.put, List.setIfInBounds_toArray, List.set_cons_succ, List.set_cons_zero]
      apply free_val (by rfl)
      · intro W hE hp hF; obtain ⟨hcE, hfE, hnE⟩ := bcell hE; have hsE := hE.size; unfold opOb; go_wp2_with fail; exact ⟨rfl, _, rfl, rfl, ⟨Below.refl _ _, noJ_post _ _ _⟩⟩
      simp only [Act.put, List.setIfInBounds_toArray, List.set_cons_succ, List.set_cons_zero]
      apply free_has (by rfl)
      · rintro u W W' hb ⟨BX1, rfl, rowX1⟩; exact ⟨BX1, rfl, (rowX1.to hb)⟩
      · intro W hE hp hF; obtain ⟨hcE, hfE, hnE⟩ := bcell hE; have hsE := hE.size; unfold opOb; go_wp2_with fail; exact ⟨rfl, _, rfl, ⟨_, rfl, Row.new _ _ _⟩, ⟨(Below.refl _ _).alloc (Nat.le_refl _) _, noJ_post _ _ _⟩⟩
      intro uX1
      simp only [Act.put, List.setIfInBounds_toArray, List.set_cons_succ, List.set_cons_zero]
      apply free_end
      intro w9 hEw9 hJF hGF
      clear hJF
      obtain ⟨BX1, rfl, rowX1⟩ := hGF.2
      clear hGF
      have H9 := Lib.hid (H0.out.to hEw9)
      have HO9 := Lib.hid (own_to HO.out hEw9)
      have hb9 := hb.trans (hEw9.mono hs)
      have hs9 := hb9.size
      have l9 := H9.out.lt
      have HR := Lib.hid rowX1
      clear c00 c01 f0 l0 hEw9 rowX1 HO H0 hb hs
      go_wp2_with (at_builtin; refine wpList_append_own_at _ rfl _ _ 38 rfl (w.heap.size + 1) 25 _ _ 2 16 Tryd.underlying38 hinfo.out.1 hinfo.out.2.1 hinfo.out.2.2.1 hinfo.out.2.2.2 rfl (by decide) _ _ _ rfl HO9.out _ 1 1 [.int .i64 x, .int .i64 y] rfl rfl (news_row HR.out) (by simp [Value.oneCell']) (by unfold maxLen; omega) (by omega) (by omega) ?_)
      intro v9 w10 hown hgrow hnil hat
      have hb10 : Below w.heap.size w w10 := own_grew (own_mono HO9.out (show w.heap.size ≤ w.heap.size + 1 by omega)) hb9 (by omega) hgrow
      have H10 : Hid (Row w10 w.heap.size 25 [.int .i64 a, .int .i64 s]) := Lib.hid (H9.out.grown hgrow (fun e => by have := own_low HO9.out _ e.symm; omega))
      rw [HN.out] at hown
      have HO10 := Lib.hid hown
      clear hown hgrow hnil hat hb9 hs9 l9 HR H9 HO9
      go_wp2_with fail
      refine normal_of ?_
      go_wp2_with fail
      go_roundw
      case rel => exact ⟨k + 1, by omega, by go_num, H10, HO10, hb10⟩
      case measure => simp [intOf] <;> omega
    · obtain rfl : k = p := by omega
      have hI : ¬ ((k : Nat) : Int) < k := by omega
      have HO2 := Lib.hid (own_mono HO.out (show w.heap.size ≤ w.heap.size + 1 by omega))
      have hl := shL_len a s k
      clear HO
      rw [show (shL a s k).take k = shL a s k from List.take_of_length_le (by omega)] at HO2
      go_wp2_with fail
      go_ret2
      exact MadeAt.cast (MadeAt.of_own (fun v => .returned (.tuple #[v, .bool true])) HO2.out hb) rfl rfl rfl rfl
set_option maxRecDepth 100000 in
set_option maxHeartbeats 8000000 in
theorem sSplit_no (a s n : Int) (w : World) (hB : spB a s n = false) :
    Calls Tryd.prog 18 #[.agg #[.int .i64 a, .int .i64 s], .int .i64 n] w fun e w' => MadeAt w 25 [] 0 (fun v => .returned (.tuple #[v, .bool false])) e w' := by
  cases hOK : (inB a 0 1000000 && inB s 0 1000000)
  · have HC := Lib.hid (fun W => (l2Brine_any a s W))
    rw [hOK] at HC
    clear hB hOK
    go_enter Tryd.func18, Tryd.ntmps18
    go_upto_region 2 with (fail)
    refine cut_world (fun X => Row X w.heap.size 25 [.int .i64 a, .int .i64 s] ∧ X.heap[w.heap.size + 1]? = some (.cells #[] 25 (0, 0)) ∧ Below w.heap.size w X) ⟨(Row.new _ _ _).alloc _, hp_new_at (by simp), (by repeat' (first | (with_reducible exact Below.refl _ _) | (with_reducible refine Below.alloc ?_ ?_ _) | (with_reducible refine Below.setCell ?_ ?_ _) | (with_reducible refine Below.drew ?_) | (with_reducible refine Below.trans ?_ (Below.mono (by with_reducible assumption) ?_)) | omega | (simp; done) | (simp; omega)))⟩ ?_
    rintro X0 ⟨r0, he, hb⟩
    have H0 := Lib.hid r0
    have hs := hb.size
    obtain ⟨c00, c01, f0⟩ := H0.out.two
    have l0 := H0.out.lt
    clear r0
    go_wp2_with fail
    refine (HC.out _).mono ?_
    rintro e w1 ⟨rfl, hb1⟩
    have he1 := (hb1.block (w.heap.size + 1) (Dr.block_lt he)).trans he
    clear he
    clear c00 c01 f0 l0
    replace H0 := Lib.hid (H0.out.to hb1)
    replace hb := hb.trans (hb1.mono hs)
    replace hs := hb.size
    clear hb1
    go_wp2_with fail
    go_ret2
    exact MadeAt.empty (g := w.heap.size + 1) (fun v => .returned (.tuple #[v, .bool false])) (by omega) he1 hb
  · have hm : inB n 1 20 = false := by rw [spB, hOK] at hB; exact hB
    have HC := Lib.hid (fun W => (l2Brine_any a s W))
    have HW := Lib.hid (fun W => (l1In_any n 1 20 W))
    rw [hOK] at HC
    rw [hm] at HW
    clear hB hOK hm
    go_enter Tryd.func18, Tryd.ntmps18
    go_upto_region 2 with (fail)
    refine cut_world (fun X => Row X w.heap.size 25 [.int .i64 a, .int .i64 s] ∧ X.heap[w.heap.size + 1]? = some (.cells #[] 25 (0, 0)) ∧ Below w.heap.size w X) ⟨(Row.new _ _ _).alloc _, hp_new_at (by simp), (by repeat' (first | (with_reducible exact Below.refl _ _) | (with_reducible refine Below.alloc ?_ ?_ _) | (with_reducible refine Below.setCell ?_ ?_ _) | (with_reducible refine Below.drew ?_) | (with_reducible refine Below.trans ?_ (Below.mono (by with_reducible assumption) ?_)) | omega | (simp; done) | (simp; omega)))⟩ ?_
    rintro X0 ⟨r0, he, hb⟩
    have H0 := Lib.hid r0
    have hs := hb.size
    obtain ⟨c00, c01, f0⟩ := H0.out.two
    have l0 := H0.out.lt
    clear r0
    go_wp2_with fail
    refine (HC.out _).mono ?_
    rintro e w1 ⟨rfl, hb1⟩
    have he1 := (hb1.block (w.heap.size + 1) (Dr.block_lt he)).trans he
    clear he
    clear c00 c01 f0 l0
    replace H0 := Lib.hid (H0.out.to hb1)
    replace hb := hb.trans (hb1.mono hs)
    replace hs := hb.size
    clear hb1
    go_wp2_with fail
    refine (HW.out _).mono ?_
    rintro e wX ⟨rfl, rfl⟩
    go_wp2_with fail
    go_ret2
    exact MadeAt.empty (g := w.heap.size + 1) (fun v => .returned (.tuple #[v, .bool false])) (by omega) he1 hb
set_option maxRecDepth 100000 in
set_option maxHeartbeats 8000000 in
theorem sSplit_yes (a s : Int) (p : Nat) (w : World) (hB : spB a s p = true) :
    Calls Tryd.prog 18 #[.agg #[.int .i64 a, .int .i64 s], .int .i64 p] w fun e w' => MadeAt w 25 ((shL a s p).flatMap Brn.enc) p (fun v => .returned (.tuple #[v, .bool true])) e w' := by
  have hp := hB
  simp only [spB, Bool.and_eq_true, inB_iff] at hp
  obtain ⟨⟨⟨ha0, ha1⟩, hs0, hs1⟩, hp1, hp2⟩ := hp
  have hOK : (inB a 0 1000000 && inB s 0 1000000) = true := by rw [inB_iff.2 ⟨ha0, ha1⟩, inB_iff.2 ⟨hs0, hs1⟩]; rfl
  have hM : inB (p : Int) 1 20 = true := inB_iff.2 ⟨hp1, hp2⟩
  have HC := Lib.hid (fun W => (l2Brine_any a s W))
  have HW := Lib.hid (fun W => (l1In_any p 1 20 W))
  rw [hOK] at HC
  rw [hM] at HW
  have hp0 : 0 < p := by omega
  have hp20 : p ≤ 20 := by omega
  clear hB hOK hM
  obtain ⟨i0, hi, hz0, hz1, hz2⟩ := info_parts bri_info
  have hinfo := Lib.hid (And.intro hi (And.intro hz0 (And.intro hz1 hz2)))
  clear hi hz0 hz1 hz2
  go_enter Tryd.func18, Tryd.ntmps18
  go_upto_region 2 with (fail)
  refine cut_world (fun X => Row X w.heap.size 25 [.int .i64 a, .int .i64 s] ∧ X.heap[w.heap.size + 1]? = some (.cells #[] 25 (0, 0)) ∧ Below w.heap.size w X) ⟨(Row.new _ _ _).alloc _, hp_new_at (by simp), (by repeat' (first | (with_reducible exact Below.refl _ _) | (with_reducible refine Below.alloc ?_ ?_ _) | (with_reducible refine Below.setCell ?_ ?_ _) | (with_reducible refine Below.drew ?_) | (with_reducible refine Below.trans ?_ (Below.mono (by with_reducible assumption) ?_)) | omega | (simp; done) | (simp; omega)))⟩ ?_
  rintro X0 ⟨r0, he, hb⟩
  have H0 := Lib.hid r0
  have hs := hb.size
  obtain ⟨c00, c01, f0⟩ := H0.out.two
  have l0 := H0.out.lt
  clear r0
  go_wp2_with fail
  refine (HC.out _).mono ?_
  rintro e w1 ⟨rfl, hb1⟩
  have he1 := (hb1.block (w.heap.size + 1) (Dr.block_lt he)).trans he
  clear he
  clear c00 c01 f0 l0
  replace H0 := Lib.hid (H0.out.to hb1)
  replace hb := hb.trans (hb1.mono hs)
  replace hs := hb.size
  clear hb1
  go_wp2_with fail
  refine (HW.out _).mono ?_
  rintro e wX ⟨rfl, rfl⟩
  have HE := Lib.hid he1
  clear he1
  go_wp2_with fail
  go_loopw [6, 7] (fun v i wr => ∃ k : Nat, k ≤ p ∧ i = .int .i64 k ∧ Hid (Row wr w.heap.size 25 [.int .i64 a, .int .i64 s]) ∧ Hid (wr.ownsRow (w.heap.size + 1) 25 2 v k (((shL a s p).take k).flatMap Brn.enc)) ∧ Below w.heap.size w wr) (fun _ i _ => p - (intOf i).toNat)
  case atStart => exact ⟨0, Nat.zero_le _, rfl, H0, Lib.hid (own_empty 2 (Nat.le_refl _) HE.out), hb⟩
  case round =>
    clear H0 hb hs
    obtain ⟨k, hk, rfl, H0, HO, hb⟩ := hrel
    have hs := hb.size
    by_cases hlt : k < p
    · have hI : (k : Int) < p := by omega
      have hI0 : (0 : Int) ≤ k := by omega
      obtain ⟨x, hx⟩ : ∃ x, shI a p k = x := ⟨_, rfl⟩
      obtain ⟨y, hy⟩ : ∃ y, shI s p k = y := ⟨_, rfl⟩
      have HX := Lib.hid (fun W => l2Share_any a p k W ha0 ha1 hp0 hp20 hlt)
      have HY := Lib.hid (fun W => l2Share_any s p k W hs0 hs1 hp0 hp20 hlt)
      have HN := Lib.hid (sh_next hlt hx hy)
      rw [hx] at HX
      rw [hy] at HY
      clear hx hy
      obtain ⟨c00, c01, f0⟩ := H0.out.two
      have l0 := H0.out.lt
      go_upto_region 7 with (fail)
      apply wp_region_chain 13 [] [] noJ (fun W W' => Below W.heap.size W W') [Sum.inl _, Sum.inl _, Sum.inl _, Sum.inl _, Sum.inl _, Sum.inl _, Sum.inl _, Sum.inl _, Sum.inl _, Sum.inl _, Sum.inl _, Sum.inl _, Sum.inr (fun u W => ∃ B, u = .slice (some ⟨B, 0, none⟩) 1 1 ∧ Row W B 25 [.int .i64 x, .int .i64 y])] (by kernel_rfl) (by kernel_rfl) (fun _ _ _ => below_trans) (below_draw _) trivial ?_
      rotate_left 12
      simp only [List.take_succ_cons, List.take_zero, List.drop_succ_cons, List.drop_zero]
      apply free_val (by rfl)
      · intro W hE hp hF; obtain ⟨hcE, hfE, hnE⟩ := bcell hE; have hsE := hE.size; unfold opOb; go_wp2_with fail; exact ⟨rfl, _, rfl, rfl, ⟨Below.refl _ _, noJ_post _ _ _⟩⟩
      simp only [Act.put, List.setIfInBounds_toArray, List.set_cons_succ, List.set_cons_zero]
      apply free_val (by rfl)
      · intro W hE hp hF; obtain ⟨hcE, hfE, hnE⟩ := bcell hE; have hsE := hE.size; unfold opOb; go_wp2_with fail; exact ⟨rfl, _, rfl, rfl, ⟨Below.refl _ _, noJ_post _ _ _⟩⟩
      simp only [Act.put, List.setIfInBounds_toArray, List.set_cons_succ, List.set_cons_zero]
      apply free_val (by rfl)
      · intro W hE hp hF; obtain ⟨hcE, hfE, hnE⟩ := bcell hE; have hsE := hE.size; unfold opOb; go_wp2_with fail; exact ⟨rfl, _, rfl, rfl, ⟨Below.refl _ _, noJ_post _ _ _⟩⟩
      simp only [Act.put, List.setIfInBounds_toArray, List.set_cons_succ, List.set_cons_zero]
      apply free_val (by rfl)
      · intro W hE hp hF; obtain ⟨hcE, hfE, hnE⟩ := bcell hE; have hsE := hE.size; unfold opOb; go_wp2_with fail; exact ⟨rfl, _, rfl, rfl, ⟨Below.refl _ _, noJ_post _ _ _⟩⟩
      simp only [Act.put, List.setIfInBounds_toArray, List.set_cons_succ, List.set_cons_zero]
      apply free_val (by rfl)
      · intro W hE hp hF; obtain ⟨hcE, hfE, hnE⟩ := bcell hE; have hsE := hE.size; unfold opOb; go_wp2_with fail; exact ⟨rfl, _, rfl, rfl, ⟨Below.refl _ _, noJ_post _ _ _⟩⟩
      simp only [Act.put, List.setIfInBounds_toArray, List.set_cons_succ, List.set_cons_zero]
      apply free_val (by rfl)
      · intro W hE hp hF; obtain ⟨hcE, hfE, hnE⟩ := bcell hE; have hsE := hE.size; unfold opOb; go_wp2_with fail; (go_at_call 45; refine (HX.out _).mono ?_; rintro e WX ⟨rfl, rfl⟩); go_wp2_with fail; exact ⟨rfl, _, rfl, rfl, ⟨Below.refl _ _, noJ_post _ _ _⟩⟩
      simp only [Act.put, List.setIfInBounds_toArray, List.set_cons_succ, List.set_cons_zero]
      apply free_val (by rfl)
      · intro W hE hp hF; obtain ⟨hcE, hfE, hnE⟩ := bcell hE; have hsE := hE.size; unfold opOb; go_wp2_with fail; exact ⟨rfl, _, rfl, rfl, ⟨Below.refl _ _, noJ_post _ _ _⟩⟩
      simp only [Act.put, List.setIfInBounds_toArray, List.set_cons_succ, List.set_cons_zero]
      apply free_val (by rfl)
      · intro W hE hp hF; obtain ⟨hcE, hfE, hnE⟩ := bcell hE; have hsE := hE.size; unfold opOb; go_wp2_with fail; exact ⟨rfl, _, rfl, rfl, ⟨Below.refl _ _, noJ_post _ _ _⟩⟩
      simp only [Act.put, List.setIfInBounds_toArray, List.set_cons_succ, List.set_cons_zero]
      apply free_val (by rfl)
      · intro W hE hp hF; obtain ⟨hcE, hfE, hnE⟩ := bcell hE; have hsE := hE.size; unfold opOb; go_wp2_with fail; exact ⟨rfl, _, rfl, rfl, ⟨Below.refl _ _, noJ_post _ _ _⟩⟩
      simp only [Act.put, List.setIfInBounds_toArray, List.set_cons_succ, List.set_cons_zero]
      apply free_val (by rfl)
      · intro W hE hp hF; obtain ⟨hcE, hfE, hnE⟩ := bcell hE; have hsE := hE.size; unfold opOb; go_wp2_with fail; exact ⟨rfl, _, rfl, rfl, ⟨Below.refl _ _, noJ_post _ _ _⟩⟩
      simp only [Act.put, List.setIfInBounds_toArray, List.set_cons_succ, List.set_cons_zero]
      apply free_val (by rfl)
      · intro W hE hp hF; obtain ⟨hcE, hfE, hnE⟩ := bcell hE; have hsE := hE.size; unfold opOb; go_wp2_with fail; (go_at_call 45; refine (HY.out _).mono ?_; rintro e WX ⟨rfl, rfl⟩); go_wp2_with fail; exact ⟨rfl, _, rfl, rfl, ⟨Below.refl _ _, noJ_post _ _ _⟩⟩
      simp only [Act.put, List.setIfInBounds_toArray, List.set_cons_succ, List.set_cons_zero]
      apply free_val (by rfl)
      · intro W hE hp hF; obtain ⟨hcE, hfE, hnE⟩ := bcell hE; have hsE := hE.size; unfold opOb; go_wp2_with fail; exact ⟨rfl, _, rfl, rfl, ⟨Below.refl _ _, noJ_post _ _ _⟩⟩
      simp only [Act.put, List.setIfInBounds_toArray, List.set_cons_succ, List.set_cons_zero]
      apply free_has (by rfl)
      · rintro u W W' hb ⟨BX2, rfl, rowX2⟩; exact ⟨BX2, rfl, (rowX2.to hb)⟩
      · intro W hE hp hF; obtain ⟨hcE, hfE, hnE⟩ := bcell hE; have hsE := hE.size; unfold opOb; go_wp2_with fail; exact ⟨rfl, _, rfl, ⟨_, rfl, Row.new _ _ _⟩, ⟨(Below.refl _ _).alloc (Nat.le_refl _) _, noJ_post _ _ _⟩⟩
      intro uX2
      simp only [Act.put, List.setIfInBounds_toArray, List.set_cons_succ, List.set_cons_zero]
      apply free_end
      intro w9 hEw9 hJF hGF
      clear hJF
      obtain ⟨BX2, rfl, rowX2⟩ := hGF.2
      clear hGF
      have H9 := Lib.hid (H0.out.to hEw9)
      have HO9 := Lib.hid (own_to HO.out hEw9)
      have hb9 := hb.trans (hEw9.mono hs)
      have hs9 := hb9.size
      have l9 := H9.out.lt
      have HR := Lib.hid rowX2
      clear c00 c01 f0 l0 hEw9 rowX2 HO H0 hb hs
      go_wp2_with (at_builtin; refine wpList_append_own_at _ rfl _ _ 38 rfl (w.heap.size + 1) 25 _ _ 2 16 Tryd.underlying38 hinfo.out.1 hinfo.out.2.1 hinfo.out.2.2.1 hinfo.out.2.2.2 rfl (by decide) _ _ _ rfl HO9.out _ 1 1 [.int .i64 x, .int .i64 y] rfl rfl (news_row HR.out) (by simp [Value.oneCell']) (by unfold maxLen; omega) (by omega) (by omega) ?_)
      intro v9 w10 hown hgrow hnil hat
      have hb10 : Below w.heap.size w w10 := own_grew (own_mono HO9.out (show w.heap.size ≤ w.heap.size + 1 by omega)) hb9 (by omega) hgrow
      have H10 : Hid (Row w10 w.heap.size 25 [.int .i64 a, .int .i64 s]) := Lib.hid (H9.out.grown hgrow (fun e => by have := own_low HO9.out _ e.symm; omega))
      rw [HN.out] at hown
      have HO10 := Lib.hid hown
      clear hown hgrow hnil hat hb9 hs9 l9 HR H9 HO9
      go_wp2_with fail
      refine normal_of ?_
      go_wp2_with fail
      go_roundw
      case rel => exact ⟨k + 1, by omega, by go_num, H10, HO10, hb10⟩
      case measure => simp [intOf] <;> omega
    · obtain rfl : k = p := by omega
      have hI : ¬ ((k : Nat) : Int) < k := by omega
      have HO2 := Lib.hid (own_mono HO.out (show w.heap.size ≤ w.heap.size + 1 by omega))
      have hl := shL_len a s k
      clear HO
      rw [show (shL a s k).take k = shL a s k from List.take_of_length_le (by omega)] at HO2
      go_wp2_with fail
      go_ret2
      exact MadeAt.cast (MadeAt.of_own (fun v => .returned (.tuple #[v, .bool true])) HO2.out hb) rfl rfl rfl rfl
set_option maxHeartbeats 4000000 in
theorem vBrines_same (A A' : Option Addr) (c c' : Nat) (xs : List Brn) (w : World) (h : Rd w w.heap.size A 2 Brn.enc xs) (h' : Rd w w.heap.size A' 2 Brn.enc xs) (hx : xs.length ≤ 1048576) :
    Calls Tryd.prog 19 #[.slice A xs.length c, .slice A' xs.length c'] w fun e w' => e = .returned (.bool true) ∧ Below w.heap.size w w' := by
  go_enter Tryd.func19, Tryd.ntmps19
  go_wp2
  go_loopw [5] (fun i wr => ∃ k : Nat, k ≤ xs.length ∧ i = .int .i64 k ∧ Below w.heap.size w wr) (fun i _ => xs.length - (intOf i).toNat)
  case atStart => exact ⟨0, Nat.zero_le _, rfl, Below.refl _ _⟩
  case round =>
    obtain ⟨k, hk, rfl, hb⟩ := hrel
    by_cases hlt : k < xs.length
    · obtain ⟨b, o, rfl, hB, c0, c1⟩ := brn_cells (h.below hb) hlt
      obtain ⟨b', o', rfl, hB', d0, d1⟩ := brn_cells (h'.below hb) hlt
      have hs := hb.size
      have hB1 : b < wr.heap.size := by omega
      have hB2 : b' < wr.heap.size := by omega
      have hI : (k : Int) < xs.length := by omega
      have hI0 : (0 : Int) ≤ k := by omega
      go_wp2_with fail
      refine wp_region_quiet_below (by kernel_rfl) (by kernel_rfl) ?_
      repeat (go_big_quiet_step (fail))
      (refine wpQuiet_nil ?_; intro w1 hwq; have hb1 := of_cls hwq; clear hwq)
      (have hs1 := hb1.size; (try simp at hs1); obtain ⟨hc1, hf1, hn1⟩ := bcell hb1; (try have hz1_wr_0 : wr.heap.size < w1.heap.size := by omega); (try have hz1_wr_1 : wr.heap.size + 1 < w1.heap.size := by omega); (try have hz1_wr_2 : wr.heap.size + 2 < w1.heap.size := by omega); (try have hB1 : b < w1.heap.size := by omega); (try have hB2 : b' < w1.heap.size := by omega); (try have hz1_wr_2b : wr.heap.size + 1 + 1 < w1.heap.size := by omega); (try have hz1_w_0 : w.heap.size < w1.heap.size := by omega); (try have hz1_w_1 : w.heap.size + 1 < w1.heap.size := by omega); (try have hz1_w_2 : w.heap.size + 2 < w1.heap.size := by omega); (try have hz1_w_2b : w.heap.size + 1 + 1 < w1.heap.size := by omega))
      go_wp2_with fail
      go_roundw
      case rel => exact ⟨k + 1, by omega, by go_num, (by repeat' (first | (with_reducible exact Below.refl _ _) | (with_reducible refine Below.alloc ?_ ?_ _) | (with_reducible refine Below.setCell ?_ ?_ _) | (with_reducible refine Below.drew ?_) | (with_reducible refine Below.trans ?_ (Below.mono (by with_reducible assumption) ?_)) | omega | (simp; done) | (simp; omega)))⟩
      case measure => simp [intOf]; omega
    · have hI : ¬ (k : Int) < xs.length := by omega
      go_wp2
      go_ret
      exact ⟨rfl, hb⟩
set_option maxHeartbeats 4000000 in
theorem sBrineText_yes (a s : Int) (w : World) (hOK : (inB a 0 1000000 && inB s 0 1000000) = true) :
    Calls Tryd.prog 8 #[.agg #[.int .i64 a, .int .i64 s]] w fun e w' => e = .returned (.tuple #[.string (brS a s), .bool true]) ∧ Below w.heap.size w w' := by
  have hp := hOK
  simp only [Bool.and_eq_true, inB_iff] at hp
  obtain ⟨⟨ha0, ha1⟩, hs0, hs1⟩ := hp
  have HC := Lib.hid (fun W => l2Brine_any a s W)
  rw [hOK] at HC
  clear hOK
  go_enter Tryd.func8, Tryd.ntmps8
  go_wp2_with fail
  (go_at_call 27; refine (HC.out _).mono ?_; rintro e w1 ⟨rfl, hb1⟩)
  (have hs1 := hb1.size; (try simp at hs1); obtain ⟨hc1, hf1, hn1⟩ := bcell hb1; (try have hz1_w_0 : w.heap.size < w1.heap.size := by omega); (try have hz1_w_1 : w.heap.size + 1 < w1.heap.size := by omega); (try have hz1_w_2 : w.heap.size + 2 < w1.heap.size := by omega); (try have hz1_w_2b : w.heap.size + 1 + 1 < w1.heap.size := by omega))
  go_wp2_with fail
  (go_at_call 28; refine (l2Text_any _ _ _ (by omega) (by omega) (by omega) (by omega)).mono ?_; rintro e w2 ⟨rfl, hb2⟩)
  (have hs2 := hb2.size; (try simp at hs2); obtain ⟨hc2, hf2, hn2⟩ := bcell hb2; (try have hz2_w_0 : w.heap.size < w2.heap.size := by omega); (try have hz2_w_1 : w.heap.size + 1 < w2.heap.size := by omega); (try have hz2_w_2 : w.heap.size + 2 < w2.heap.size := by omega); (try have hz2_w_2b : w.heap.size + 1 + 1 < w2.heap.size := by omega); (try have hz2_w1_0 : w1.heap.size < w2.heap.size := by omega); (try have hz2_w1_1 : w1.heap.size + 1 < w2.heap.size := by omega); (try have hz2_w1_2 : w1.heap.size + 2 < w2.heap.size := by omega); (try have hz2_w1_2b : w1.heap.size + 1 + 1 < w2.heap.size := by omega))
  go_wp2_with fail
  go_ret2
  exact ⟨rfl, (by repeat' (first | (with_reducible exact Below.refl _ _) | (with_reducible refine Below.alloc ?_ ?_ _) | (with_reducible refine Below.setCell ?_ ?_ _) | (with_reducible refine Below.drew ?_) | (with_reducible refine Below.trans ?_ (Below.mono (by with_reducible assumption) ?_)) | omega | (simp; done) | (simp; omega)))⟩
set_option maxHeartbeats 4000000 in
theorem sBrineText_no (a s : Int) (w : World) (hOK : (inB a 0 1000000 && inB s 0 1000000) = false) :
    Calls Tryd.prog 8 #[.agg #[.int .i64 a, .int .i64 s]] w fun e w' => e = .returned (.tuple #[.string ⟨#[]⟩, .bool false]) ∧ Below w.heap.size w w' := by
  have HC := Lib.hid (fun W => l2Brine_any a s W)
  rw [hOK] at HC
  clear hOK
  go_enter Tryd.func8, Tryd.ntmps8
  go_wp2_with fail
  (go_at_call 27; refine (HC.out _).mono ?_; rintro e w1 ⟨rfl, hb1⟩)
  (have hs1 := hb1.size; (try simp at hs1); obtain ⟨hc1, hf1, hn1⟩ := bcell hb1; (try have hz1_w_0 : w.heap.size < w1.heap.size := by omega); (try have hz1_w_1 : w.heap.size + 1 < w1.heap.size := by omega); (try have hz1_w_2 : w.heap.size + 2 < w1.heap.size := by omega); (try have hz1_w_2b : w.heap.size + 1 + 1 < w1.heap.size := by omega))
  go_wp2_with fail
  go_ret2
  exact ⟨rfl, (by repeat' (first | (with_reducible exact Below.refl _ _) | (with_reducible refine Below.alloc ?_ ?_ _) | (with_reducible refine Below.setCell ?_ ?_ _) | (with_reducible refine Below.drew ?_) | (with_reducible refine Below.trans ?_ (Below.mono (by with_reducible assumption) ?_)) | omega | (simp; done) | (simp; omega)))⟩
end Go.Proofs.YtocaodoagiokjaaDoor
