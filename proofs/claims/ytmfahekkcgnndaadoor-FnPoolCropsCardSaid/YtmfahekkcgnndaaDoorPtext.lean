/- The text of a pool (chapter 21). -/
import Derived.Test.YtmfahekkcgnndaaDoorBrText
import Derived.Test.YtmfahekkcgnndaaDoorPool
import Derived.Test.YtmfahekkcgnndaaDoorFree
import Derived.Deep.Cut
set_option linter.unusedSimpArgs false
set_option linter.unusedVariables false
namespace Go.Proofs.YtmfahekkcgnndaaDoor
open Go.RowKit Go.Sort Go.Salt
attribute [local go_sem] cell_rg
def nmS (st : Int) : ByteArray := if st = 0 then ⟨#[100, 114, 121]⟩ else if st = 1 then ⟨#[98, 114, 105, 110, 101]⟩ else ⟨#[99, 114, 111, 112]⟩
theorem nmS_size (st : Int) : (nmS st).size ≤ 5 := by
  unfold nmS; repeat' split
  all_goals decide
def ptS (st a s c r : Int) : ByteArray := nmS st ++ ⟨#[32]⟩ ++ brS a s ++ ⟨#[32, 99, 114, 111, 112, 32]⟩ ++ numS c ++ ⟨#[32, 114, 97, 107, 101, 100, 32]⟩ ++ numS r
theorem pool_parts {st a s c i r l : Int} (h : poolOK st a s c i r l = true) : (0 ≤ a ∧ a ≤ 1000000) ∧ (0 ≤ s ∧ s ≤ 1000000) ∧ (0 ≤ c ∧ c ≤ 1000000) ∧ (0 ≤ r ∧ r ≤ 1000000) ∧ (st = 0 ∨ st = 1 ∨ st = 2) := by
  simp only [poolOK, Bool.and_eq_true, inB_iff, beq_iff_eq] at h
  have hst : stB a s c = 0 ∨ stB a s c = 1 ∨ stB a s c = 2 := by unfold stB; repeat' split <;> omega
  omega
theorem row3s {w : World} {g : Nat} {E : TypeId} {x0 x1 x2 : Value} (h : Row w g E [x0, x1, x2]) : w.cell? ⟨g, 0, none⟩ = some x0 ∧ w.cell? ⟨g, 1, none⟩ = some x1 ∧ w.cell? ⟨g, 2, none⟩ = some x2 :=
  ⟨h.cell (j := 0) (by simp), h.cell (j := 1) (by simp), h.cell (j := 2) (by simp)⟩
theorem row7s {w : World} {g : Nat} {E : TypeId} {x0 x1 x2 x3 x4 x5 x6 : Value} (h : Row w g E [x0, x1, x2, x3, x4, x5, x6]) : w.cell? ⟨g, 0, none⟩ = some x0 ∧ w.cell? ⟨g, 1, none⟩ = some x1 ∧ w.cell? ⟨g, 2, none⟩ = some x2 ∧ w.cell? ⟨g, 3, none⟩ = some x3 ∧ w.cell? ⟨g, 4, none⟩ = some x4 ∧ w.cell? ⟨g, 5, none⟩ = some x5 ∧ w.cell? ⟨g, 6, none⟩ = some x6 :=
  ⟨h.cell (j := 0) (by simp), h.cell (j := 1) (by simp), h.cell (j := 2) (by simp), h.cell (j := 3) (by simp), h.cell (j := 4) (by simp), h.cell (j := 5) (by simp), h.cell (j := 6) (by simp)⟩
set_option maxHeartbeats 4000000 in
theorem sPoolText_no (st a s c i r l : Int) (w : World) (hOK : poolOK st a s c i r l = false) :
    Calls Tryd.prog 5 #[.agg #[.int .i64 st, .int .i64 a, .int .i64 s, .int .i64 c, .int .i64 i, .int .i64 r, .int .i64 l]] w fun e w' => e = .returned (.tuple #[.string ⟨#[]⟩, .bool false]) ∧ Below w.heap.size w w' := by
  have hc := fun W => l21Good_any st a s c i r l W
  rw [hOK] at hc
  have HC := Lib.hid hc
  clear hc hOK
  go_enter Tryd.func5, Tryd.ntmps5
  go_wp2_with fail
  (go_at_call 21; refine (HC.out _).mono ?_; rintro e w1 ⟨rfl, hb1⟩)
  (have hs1 := hb1.size; (try simp at hs1); obtain ⟨hc1, hf1, hn1⟩ := bcell hb1; (try have hz1_w_0 : w.heap.size < w1.heap.size := by omega); (try have hz1_w_1 : w.heap.size + 1 < w1.heap.size := by omega); (try have hz1_w_2 : w.heap.size + 2 < w1.heap.size := by omega); (try have hz1_w_2b : w.heap.size + 1 + 1 < w1.heap.size := by omega))
  go_wp2_with fail
  go_ret2
  exact ⟨rfl, (by repeat' (first | (with_reducible exact Below.refl _ _) | (with_reducible refine Below.alloc ?_ ?_ _) | (with_reducible refine Below.setCell ?_ ?_ _) | (with_reducible refine Below.drew ?_) | (with_reducible refine Below.trans ?_ (Below.mono (by with_reducible assumption) ?_)) | omega | (simp; done) | (simp; omega)))⟩
set_option maxHeartbeats 4000000 in
theorem iPoolText_no (st a s c i r l : Int) (w : World) (hOK : poolOK st a s c i r l = false) :
    Calls Tryd.prog 7 #[.agg #[.int .i64 st, .int .i64 a, .int .i64 s, .int .i64 c, .int .i64 i, .int .i64 r, .int .i64 l]] w fun e w' => e = .returned (.tuple #[.string ⟨#[]⟩, .bool false]) ∧ Below w.heap.size w w' := by
  have hc := fun W => isPool_any st a s c i r l W
  rw [hOK] at hc
  have HC := Lib.hid hc
  clear hc hOK
  go_enter Tryd.func7, Tryd.ntmps7
  go_wp2_with fail
  (go_at_call 20; refine (HC.out _).mono ?_; rintro e w1 ⟨rfl, hb1⟩)
  (have hs1 := hb1.size; (try simp at hs1); obtain ⟨hc1, hf1, hn1⟩ := bcell hb1; (try have hz1_w_0 : w.heap.size < w1.heap.size := by omega); (try have hz1_w_1 : w.heap.size + 1 < w1.heap.size := by omega); (try have hz1_w_2 : w.heap.size + 2 < w1.heap.size := by omega); (try have hz1_w_2b : w.heap.size + 1 + 1 < w1.heap.size := by omega))
  go_wp2_with fail
  go_ret2
  exact ⟨rfl, (by repeat' (first | (with_reducible exact Below.refl _ _) | (with_reducible refine Below.alloc ?_ ?_ _) | (with_reducible refine Below.setCell ?_ ?_ _) | (with_reducible refine Below.drew ?_) | (with_reducible refine Below.trans ?_ (Below.mono (by with_reducible assumption) ?_)) | omega | (simp; done) | (simp; omega)))⟩
set_option maxHeartbeats 8000000 in
set_option maxRecDepth 100000 in
theorem sPoolText_yes (st a s c i r l : Int) (w : World) (hOK : poolOK st a s c i r l = true) :
    Calls Tryd.prog 5 #[.agg #[.int .i64 st, .int .i64 a, .int .i64 s, .int .i64 c, .int .i64 i, .int .i64 r, .int .i64 l]] w fun e w' => e = .returned (.tuple #[.string (ptS st a s c r), .bool true]) ∧ Below w.heap.size w w' := by
  obtain ⟨⟨ha0, ha1⟩, ⟨hs0, hs1⟩, ⟨hc0, hc1⟩, ⟨hr0, hr1⟩, hst⟩ := pool_parts hOK
  have z1 := brS_size (a := a) (s := s) (by omega) (by omega)
  have z2 := numS_size (z := c) (by omega)
  have z3 := numS_size (z := r) (by omega)
  have hc := fun W => l21Good_any st a s c i r l W
  rw [hOK] at hc
  have HC := Lib.hid hc
  clear hc hOK
  rcases hst with rfl | rfl | rfl
  · go_enter Tryd.func5, Tryd.ntmps5
    go_wp2_with fail
    (go_at_call 21; refine (HC.out _).mono ?_; rintro e w1 ⟨rfl, hb1⟩)
    (have hs1 := hb1.size; (try simp at hs1); obtain ⟨hc1, hf1, hn1⟩ := bcell hb1; (try have hz1_w_0 : w.heap.size < w1.heap.size := by omega); (try have hz1_w_1 : w.heap.size + 1 < w1.heap.size := by omega); (try have hz1_w_2 : w.heap.size + 2 < w1.heap.size := by omega); (try have hz1_w_2b : w.heap.size + 1 + 1 < w1.heap.size := by omega))
    go_upto_region 3 with (fail)
    have hbx : Row w1 w.heap.size 30 [.int .i64 0, .int .i64 a, .int .i64 s, .int .i64 c, .int .i64 i, .int .i64 r, .int .i64 l] := (Row.new w _ #[.int .i64 0, .int .i64 a, .int .i64 s, .int .i64 c, .int .i64 i, .int .i64 r, .int .i64 l]).to hb1
    have hw1 : Below w.heap.size w w1 := (by repeat' (first | (with_reducible exact Below.refl _ _) | (with_reducible refine Below.alloc ?_ ?_ _) | (with_reducible refine Below.setCell ?_ ?_ _) | (with_reducible refine Below.drew ?_) | (with_reducible refine Below.trans ?_ (Below.mono (by with_reducible assumption) ?_)) | omega | (simp; done) | (simp; omega)))
    obtain ⟨c0, c1, c2, c3, c4, c5, c6⟩ := row7s hbx
    have hzB := hbx.lt
    have zn : ((⟨#[100, 114, 121]⟩ : ByteArray)).size ≤ 5 := by decide
    apply wp_region_chain 22 [] [] noJ (fun W W' => Below W.heap.size W W') [Sum.inr (fun u W => ∃ B, u = .slice (some ⟨B, 0, none⟩) 3 3 ∧ Row W B 9 [.string ⟨#[100, 114, 121]⟩, .string ⟨#[98, 114, 105, 110, 101]⟩, .string ⟨#[99, 114, 111, 112]⟩]), Sum.inl _, Sum.inl _, Sum.inr (fun u W => ∃ B, u = .pointer (some ⟨B, 0, none⟩) ∧ Row W B 9 [.string ⟨#[100, 114, 121]⟩, .string ⟨#[98, 114, 105, 110, 101]⟩, .string ⟨#[99, 114, 111, 112]⟩]), Sum.inl _, Sum.inl _, Sum.inl _, Sum.inl _, Sum.inl _, Sum.inl _, Sum.inl _, Sum.inl _, Sum.inl _, Sum.inl _, Sum.inl _, Sum.inl _, Sum.inl _, Sum.inl _, Sum.inl _, Sum.inl _, Sum.inl _, Sum.inl _] (by kernel_rfl) (by kernel_rfl) (fun _ _ _ => below_trans) (below_draw _) trivial ?_
    rotate_left 20
    simp only [List.take_succ_cons, List.take_zero, List.drop_succ_cons, List.drop_zero]
    apply free_has (by rfl)
    · rintro u W W' hb ⟨BX1, rfl, rowX1⟩; exact ⟨BX1, rfl, (rowX1.to hb)⟩
    · intro W hE hp hF; obtain ⟨hcE, hfE, hnE⟩ := bcell hE; have hsE := hE.size; unfold opOb; go_wp2_with fail; exact ⟨rfl, _, rfl, ⟨_, rfl, Row.new _ _ _⟩, ⟨(Below.refl _ _).alloc (Nat.le_refl _) _, noJ_post _ _ _⟩⟩
    intro uX1
    simp only [Act.put, List.setIfInBounds_toArray, List.set_cons_succ, List.set_cons_zero]
    apply free_val (by rfl)
    · intro W hE hp hF; obtain ⟨hcE, hfE, hnE⟩ := bcell hE; have hsE := hE.size; unfold opOb; go_wp2_with fail; exact ⟨rfl, _, rfl, rfl, ⟨Below.refl _ _, noJ_post _ _ _⟩⟩
    simp only [Act.put, List.setIfInBounds_toArray, List.set_cons_succ, List.set_cons_zero]
    apply free_val (by rfl)
    · intro W hE hp hF; obtain ⟨hcE, hfE, hnE⟩ := bcell hE; have hsE := hE.size; unfold opOb; go_wp2_with fail; exact ⟨rfl, _, rfl, rfl, ⟨Below.refl _ _, noJ_post _ _ _⟩⟩
    simp only [Act.put, List.setIfInBounds_toArray, List.set_cons_succ, List.set_cons_zero]
    apply free_has (by rfl)
    · rintro u W W' hb ⟨BX2, rfl, rowX2⟩; exact ⟨BX2, rfl, (rowX2.to hb)⟩
    · intro W hE hp hF; obtain ⟨hcE, hfE, hnE⟩ := bcell hE; have hsE := hE.size; obtain ⟨BX1, rfl, rowX1⟩ := hF.2 (by kernel_rfl); unfold opOb; go_wp2_with fail; exact ⟨rfl, _, rfl, ⟨_, rfl, rowX1⟩, ⟨Below.refl _ _, noJ_post _ _ _⟩⟩
    intro uX2
    simp only [Act.put, List.setIfInBounds_toArray, List.set_cons_succ, List.set_cons_zero]
    apply free_val (by rfl)
    · intro W hE hp hF; obtain ⟨hcE, hfE, hnE⟩ := bcell hE; have hsE := hE.size; obtain ⟨BX2, rfl, rowX2⟩ := hF.2 (by kernel_rfl); unfold opOb; obtain ⟨q0, q1, q2⟩ := row3s rowX2; have qz := rowX2.lt; go_wp2_with fail; exact ⟨rfl, _, rfl, rfl, ⟨Below.refl _ _, noJ_post _ _ _⟩⟩
    simp only [Act.put, List.setIfInBounds_toArray, List.set_cons_succ, List.set_cons_zero]
    apply free_val (by rfl)
    · intro W hE hp hF; obtain ⟨hcE, hfE, hnE⟩ := bcell hE; have hsE := hE.size; unfold opOb; go_wp2_with fail; exact ⟨rfl, _, rfl, rfl, ⟨Below.refl _ _, noJ_post _ _ _⟩⟩
    simp only [Act.put, List.setIfInBounds_toArray, List.set_cons_succ, List.set_cons_zero]
    apply free_val (by rfl)
    · intro W hE hp hF; obtain ⟨hcE, hfE, hnE⟩ := bcell hE; have hsE := hE.size; unfold opOb; go_wp2_with fail; exact ⟨rfl, _, rfl, rfl, ⟨Below.refl _ _, noJ_post _ _ _⟩⟩
    simp only [Act.put, List.setIfInBounds_toArray, List.set_cons_succ, List.set_cons_zero]
    apply free_val (by rfl)
    · intro W hE hp hF; obtain ⟨hcE, hfE, hnE⟩ := bcell hE; have hsE := hE.size; unfold opOb; go_wp2_with fail; exact ⟨rfl, _, rfl, rfl, ⟨Below.refl _ _, noJ_post _ _ _⟩⟩
    simp only [Act.put, List.setIfInBounds_toArray, List.set_cons_succ, List.set_cons_zero]
    apply free_val (by rfl)
    · intro W hE hp hF; obtain ⟨hcE, hfE, hnE⟩ := bcell hE; have hsE := hE.size; unfold opOb; go_wp2_with fail; (go_at_call 22; refine (l2Text_any _ _ _ (by omega) (by omega) (by omega) (by omega)).mono ?_; rintro e WX ⟨rfl, hbX⟩); go_wp2_with fail; exact ⟨rfl, _, rfl, rfl, ⟨hbX, noJ_post _ _ _⟩⟩
    simp only [Act.put, List.setIfInBounds_toArray, List.set_cons_succ, List.set_cons_zero]
    apply free_val (by rfl)
    · intro W hE hp hF; obtain ⟨hcE, hfE, hnE⟩ := bcell hE; have hsE := hE.size; unfold opOb; go_wp2_with fail; exact ⟨rfl, _, rfl, rfl, ⟨Below.refl _ _, noJ_post _ _ _⟩⟩
    simp only [Act.put, List.setIfInBounds_toArray, List.set_cons_succ, List.set_cons_zero]
    apply free_val (by rfl)
    · intro W hE hp hF; obtain ⟨hcE, hfE, hnE⟩ := bcell hE; have hsE := hE.size; unfold opOb; go_wp2_with fail; exact ⟨rfl, _, rfl, rfl, ⟨Below.refl _ _, noJ_post _ _ _⟩⟩
    simp only [Act.put, List.setIfInBounds_toArray, List.set_cons_succ, List.set_cons_zero]
    apply free_val (by rfl)
    · intro W hE hp hF; obtain ⟨hcE, hfE, hnE⟩ := bcell hE; have hsE := hE.size; unfold opOb; go_wp2_with fail; exact ⟨rfl, _, rfl, rfl, ⟨Below.refl _ _, noJ_post _ _ _⟩⟩
    simp only [Act.put, List.setIfInBounds_toArray, List.set_cons_succ, List.set_cons_zero]
    apply free_val (by rfl)
    · intro W hE hp hF; obtain ⟨hcE, hfE, hnE⟩ := bcell hE; have hsE := hE.size; unfold opOb; go_wp2_with fail; exact ⟨rfl, _, rfl, rfl, ⟨Below.refl _ _, noJ_post _ _ _⟩⟩
    simp only [Act.put, List.setIfInBounds_toArray, List.set_cons_succ, List.set_cons_zero]
    apply free_val (by rfl)
    · intro W hE hp hF; obtain ⟨hcE, hfE, hnE⟩ := bcell hE; have hsE := hE.size; unfold opOb; go_wp2_with fail; (go_at_call 23; refine (l1Num_any _ _ (by omega) (by omega)).mono ?_; rintro e WX ⟨rfl, hbX⟩); go_wp2_with fail; exact ⟨rfl, _, rfl, rfl, ⟨hbX, noJ_post _ _ _⟩⟩
    simp only [Act.put, List.setIfInBounds_toArray, List.set_cons_succ, List.set_cons_zero]
    apply free_val (by rfl)
    · intro W hE hp hF; obtain ⟨hcE, hfE, hnE⟩ := bcell hE; have hsE := hE.size; unfold opOb; go_wp2_with fail; exact ⟨rfl, _, rfl, rfl, ⟨Below.refl _ _, noJ_post _ _ _⟩⟩
    simp only [Act.put, List.setIfInBounds_toArray, List.set_cons_succ, List.set_cons_zero]
    apply free_val (by rfl)
    · intro W hE hp hF; obtain ⟨hcE, hfE, hnE⟩ := bcell hE; have hsE := hE.size; unfold opOb; go_wp2_with fail; exact ⟨rfl, _, rfl, rfl, ⟨Below.refl _ _, noJ_post _ _ _⟩⟩
    simp only [Act.put, List.setIfInBounds_toArray, List.set_cons_succ, List.set_cons_zero]
    apply free_val (by rfl)
    · intro W hE hp hF; obtain ⟨hcE, hfE, hnE⟩ := bcell hE; have hsE := hE.size; unfold opOb; go_wp2_with fail; exact ⟨rfl, _, rfl, rfl, ⟨Below.refl _ _, noJ_post _ _ _⟩⟩
    simp only [Act.put, List.setIfInBounds_toArray, List.set_cons_succ, List.set_cons_zero]
    apply free_val (by rfl)
    · intro W hE hp hF; obtain ⟨hcE, hfE, hnE⟩ := bcell hE; have hsE := hE.size; unfold opOb; go_wp2_with fail; exact ⟨rfl, _, rfl, rfl, ⟨Below.refl _ _, noJ_post _ _ _⟩⟩
    simp only [Act.put, List.setIfInBounds_toArray, List.set_cons_succ, List.set_cons_zero]
    apply free_val (by rfl)
    · intro W hE hp hF; obtain ⟨hcE, hfE, hnE⟩ := bcell hE; have hsE := hE.size; unfold opOb; go_wp2_with fail; (go_at_call 23; refine (l1Num_any _ _ (by omega) (by omega)).mono ?_; rintro e WX ⟨rfl, hbX⟩); go_wp2_with fail; exact ⟨rfl, _, rfl, rfl, ⟨hbX, noJ_post _ _ _⟩⟩
    simp only [Act.put, List.setIfInBounds_toArray, List.set_cons_succ, List.set_cons_zero]
    apply free_val (by rfl)
    · intro W hE hp hF; obtain ⟨hcE, hfE, hnE⟩ := bcell hE; have hsE := hE.size; unfold opOb; go_wp2_with fail; exact ⟨rfl, _, rfl, rfl, ⟨Below.refl _ _, noJ_post _ _ _⟩⟩
    simp only [Act.put, List.setIfInBounds_toArray, List.set_cons_succ, List.set_cons_zero]
    apply free_val (by rfl)
    · intro W hE hp hF; obtain ⟨hcE, hfE, hnE⟩ := bcell hE; have hsE := hE.size; unfold opOb; go_wp2_with fail; exact ⟨rfl, _, rfl, rfl, ⟨Below.refl _ _, noJ_post _ _ _⟩⟩
    simp only [Act.put, List.setIfInBounds_toArray, List.set_cons_succ, List.set_cons_zero]
    apply free_val (by rfl)
    · intro W hE hp hF; obtain ⟨hcE, hfE, hnE⟩ := bcell hE; have hsE := hE.size; unfold opOb; go_wp2_with fail; exact ⟨rfl, _, rfl, rfl, ⟨Below.refl _ _, noJ_post _ _ _⟩⟩
    simp only [Act.put, List.setIfInBounds_toArray, List.set_cons_succ, List.set_cons_zero]
    apply free_end
    intro w9 hEw9 hJF hGF
    clear hJF
    obtain ⟨BX1, rfl, rowX1⟩ := hGF.1.2
    obtain ⟨BX2, rfl, rowX2⟩ := hGF.2
    clear hGF
    go_wp2_with fail
    refine normal_of ?_
    go_wp2_with fail
    go_ret2
    exact ⟨rfl, hw1.trans (hEw9.mono hw1.size)⟩
  · go_enter Tryd.func5, Tryd.ntmps5
    go_wp2_with fail
    (go_at_call 21; refine (HC.out _).mono ?_; rintro e w1 ⟨rfl, hb1⟩)
    (have hs1 := hb1.size; (try simp at hs1); obtain ⟨hc1, hf1, hn1⟩ := bcell hb1; (try have hz1_w_0 : w.heap.size < w1.heap.size := by omega); (try have hz1_w_1 : w.heap.size + 1 < w1.heap.size := by omega); (try have hz1_w_2 : w.heap.size + 2 < w1.heap.size := by omega); (try have hz1_w_2b : w.heap.size + 1 + 1 < w1.heap.size := by omega))
    go_upto_region 3 with (fail)
    have hbx : Row w1 w.heap.size 30 [.int .i64 1, .int .i64 a, .int .i64 s, .int .i64 c, .int .i64 i, .int .i64 r, .int .i64 l] := (Row.new w _ #[.int .i64 1, .int .i64 a, .int .i64 s, .int .i64 c, .int .i64 i, .int .i64 r, .int .i64 l]).to hb1
    have hw1 : Below w.heap.size w w1 := (by repeat' (first | (with_reducible exact Below.refl _ _) | (with_reducible refine Below.alloc ?_ ?_ _) | (with_reducible refine Below.setCell ?_ ?_ _) | (with_reducible refine Below.drew ?_) | (with_reducible refine Below.trans ?_ (Below.mono (by with_reducible assumption) ?_)) | omega | (simp; done) | (simp; omega)))
    obtain ⟨c0, c1, c2, c3, c4, c5, c6⟩ := row7s hbx
    have hzB := hbx.lt
    have zn : ((⟨#[98, 114, 105, 110, 101]⟩ : ByteArray)).size ≤ 5 := by decide
    apply wp_region_chain 22 [] [] noJ (fun W W' => Below W.heap.size W W') [Sum.inr (fun u W => ∃ B, u = .slice (some ⟨B, 0, none⟩) 3 3 ∧ Row W B 9 [.string ⟨#[100, 114, 121]⟩, .string ⟨#[98, 114, 105, 110, 101]⟩, .string ⟨#[99, 114, 111, 112]⟩]), Sum.inl _, Sum.inl _, Sum.inr (fun u W => ∃ B, u = .pointer (some ⟨B, 1, none⟩) ∧ Row W B 9 [.string ⟨#[100, 114, 121]⟩, .string ⟨#[98, 114, 105, 110, 101]⟩, .string ⟨#[99, 114, 111, 112]⟩]), Sum.inl _, Sum.inl _, Sum.inl _, Sum.inl _, Sum.inl _, Sum.inl _, Sum.inl _, Sum.inl _, Sum.inl _, Sum.inl _, Sum.inl _, Sum.inl _, Sum.inl _, Sum.inl _, Sum.inl _, Sum.inl _, Sum.inl _, Sum.inl _] (by kernel_rfl) (by kernel_rfl) (fun _ _ _ => below_trans) (below_draw _) trivial ?_
    rotate_left 20
    simp only [List.take_succ_cons, List.take_zero, List.drop_succ_cons, List.drop_zero]
    apply free_has (by rfl)
    · rintro u W W' hb ⟨BX3, rfl, rowX3⟩; exact ⟨BX3, rfl, (rowX3.to hb)⟩
    · intro W hE hp hF; obtain ⟨hcE, hfE, hnE⟩ := bcell hE; have hsE := hE.size; unfold opOb; go_wp2_with fail; exact ⟨rfl, _, rfl, ⟨_, rfl, Row.new _ _ _⟩, ⟨(Below.refl _ _).alloc (Nat.le_refl _) _, noJ_post _ _ _⟩⟩
    intro uX3
    simp only [Act.put, List.setIfInBounds_toArray, List.set_cons_succ, List.set_cons_zero]
    apply free_val (by rfl)
    · intro W hE hp hF; obtain ⟨hcE, hfE, hnE⟩ := bcell hE; have hsE := hE.size; unfold opOb; go_wp2_with fail; exact ⟨rfl, _, rfl, rfl, ⟨Below.refl _ _, noJ_post _ _ _⟩⟩
    simp only [Act.put, List.setIfInBounds_toArray, List.set_cons_succ, List.set_cons_zero]
    apply free_val (by rfl)
    · intro W hE hp hF; obtain ⟨hcE, hfE, hnE⟩ := bcell hE; have hsE := hE.size; unfold opOb; go_wp2_with fail; exact ⟨rfl, _, rfl, rfl, ⟨Below.refl _ _, noJ_post _ _ _⟩⟩
    simp only [Act.put, List.setIfInBounds_toArray, List.set_cons_succ, List.set_cons_zero]
    apply free_has (by rfl)
    · rintro u W W' hb ⟨BX4, rfl, rowX4⟩; exact ⟨BX4, rfl, (rowX4.to hb)⟩
    · intro W hE hp hF; obtain ⟨hcE, hfE, hnE⟩ := bcell hE; have hsE := hE.size; obtain ⟨BX3, rfl, rowX3⟩ := hF.2 (by kernel_rfl); unfold opOb; go_wp2_with fail; exact ⟨rfl, _, rfl, ⟨_, rfl, rowX3⟩, ⟨Below.refl _ _, noJ_post _ _ _⟩⟩
    intro uX4
    simp only [Act.put, List.setIfInBounds_toArray, List.set_cons_succ, List.set_cons_zero]
    apply free_val (by rfl)
    · intro W hE hp hF; obtain ⟨hcE, hfE, hnE⟩ := bcell hE; have hsE := hE.size; obtain ⟨BX4, rfl, rowX4⟩ := hF.2 (by kernel_rfl); unfold opOb; obtain ⟨q0, q1, q2⟩ := row3s rowX4; have qz := rowX4.lt; go_wp2_with fail; exact ⟨rfl, _, rfl, rfl, ⟨Below.refl _ _, noJ_post _ _ _⟩⟩
    simp only [Act.put, List.setIfInBounds_toArray, List.set_cons_succ, List.set_cons_zero]
    apply free_val (by rfl)
    · intro W hE hp hF; obtain ⟨hcE, hfE, hnE⟩ := bcell hE; have hsE := hE.size; unfold opOb; go_wp2_with fail; exact ⟨rfl, _, rfl, rfl, ⟨Below.refl _ _, noJ_post _ _ _⟩⟩
    simp only [Act.put, List.setIfInBounds_toArray, List.set_cons_succ, List.set_cons_zero]
    apply free_val (by rfl)
    · intro W hE hp hF; obtain ⟨hcE, hfE, hnE⟩ := bcell hE; have hsE := hE.size; unfold opOb; go_wp2_with fail; exact ⟨rfl, _, rfl, rfl, ⟨Below.refl _ _, noJ_post _ _ _⟩⟩
    simp only [Act.put, List.setIfInBounds_toArray, List.set_cons_succ, List.set_cons_zero]
    apply free_val (by rfl)
    · intro W hE hp hF; obtain ⟨hcE, hfE, hnE⟩ := bcell hE; have hsE := hE.size; unfold opOb; go_wp2_with fail; exact ⟨rfl, _, rfl, rfl, ⟨Below.refl _ _, noJ_post _ _ _⟩⟩
    simp only [Act.put, List.setIfInBounds_toArray, List.set_cons_succ, List.set_cons_zero]
    apply free_val (by rfl)
    · intro W hE hp hF; obtain ⟨hcE, hfE, hnE⟩ := bcell hE; have hsE := hE.size; unfold opOb; go_wp2_with fail; (go_at_call 22; refine (l2Text_any _ _ _ (by omega) (by omega) (by omega) (by omega)).mono ?_; rintro e WX ⟨rfl, hbX⟩); go_wp2_with fail; exact ⟨rfl, _, rfl, rfl, ⟨hbX, noJ_post _ _ _⟩⟩
    simp only [Act.put, List.setIfInBounds_toArray, List.set_cons_succ, List.set_cons_zero]
    apply free_val (by rfl)
    · intro W hE hp hF; obtain ⟨hcE, hfE, hnE⟩ := bcell hE; have hsE := hE.size; unfold opOb; go_wp2_with fail; exact ⟨rfl, _, rfl, rfl, ⟨Below.refl _ _, noJ_post _ _ _⟩⟩
    simp only [Act.put, List.setIfInBounds_toArray, List.set_cons_succ, List.set_cons_zero]
    apply free_val (by rfl)
    · intro W hE hp hF; obtain ⟨hcE, hfE, hnE⟩ := bcell hE; have hsE := hE.size; unfold opOb; go_wp2_with fail; exact ⟨rfl, _, rfl, rfl, ⟨Below.refl _ _, noJ_post _ _ _⟩⟩
    simp only [Act.put, List.setIfInBounds_toArray, List.set_cons_succ, List.set_cons_zero]
    apply free_val (by rfl)
    · intro W hE hp hF; obtain ⟨hcE, hfE, hnE⟩ := bcell hE; have hsE := hE.size; unfold opOb; go_wp2_with fail; exact ⟨rfl, _, rfl, rfl, ⟨Below.refl _ _, noJ_post _ _ _⟩⟩
    simp only [Act.put, List.setIfInBounds_toArray, List.set_cons_succ, List.set_cons_zero]
    apply free_val (by rfl)
    · intro W hE hp hF; obtain ⟨hcE, hfE, hnE⟩ := bcell hE; have hsE := hE.size; unfold opOb; go_wp2_with fail; exact ⟨rfl, _, rfl, rfl, ⟨Below.refl _ _, noJ_post _ _ _⟩⟩
    simp only [Act.put, List.setIfInBounds_toArray, List.set_cons_succ, List.set_cons_zero]
    apply free_val (by rfl)
    · intro W hE hp hF; obtain ⟨hcE, hfE, hnE⟩ := bcell hE; have hsE := hE.size; unfold opOb; go_wp2_with fail; (go_at_call 23; refine (l1Num_any _ _ (by omega) (by omega)).mono ?_; rintro e WX ⟨rfl, hbX⟩); go_wp2_with fail; exact ⟨rfl, _, rfl, rfl, ⟨hbX, noJ_post _ _ _⟩⟩
    simp only [Act.put, List.setIfInBounds_toArray, List.set_cons_succ, List.set_cons_zero]
    apply free_val (by rfl)
    · intro W hE hp hF; obtain ⟨hcE, hfE, hnE⟩ := bcell hE; have hsE := hE.size; unfold opOb; go_wp2_with fail; exact ⟨rfl, _, rfl, rfl, ⟨Below.refl _ _, noJ_post _ _ _⟩⟩
    simp only [Act.put, List.setIfInBounds_toArray, List.set_cons_succ, List.set_cons_zero]
    apply free_val (by rfl)
    · intro W hE hp hF; obtain ⟨hcE, hfE, hnE⟩ := bcell hE; have hsE := hE.size; unfold opOb; go_wp2_with fail; exact ⟨rfl, _, rfl, rfl, ⟨Below.refl _ _, noJ_post _ _ _⟩⟩
    simp only [Act.put, List.setIfInBounds_toArray, List.set_cons_succ, List.set_cons_zero]
    apply free_val (by rfl)
    · intro W hE hp hF; obtain ⟨hcE, hfE, hnE⟩ := bcell hE; have hsE := hE.size; unfold opOb; go_wp2_with fail; exact ⟨rfl, _, rfl, rfl, ⟨Below.refl _ _, noJ_post _ _ _⟩⟩
    simp only [Act.put, List.setIfInBounds_toArray, List.set_cons_succ, List.set_cons_zero]
    apply free_val (by rfl)
    · intro W hE hp hF; obtain ⟨hcE, hfE, hnE⟩ := bcell hE; have hsE := hE.size; unfold opOb; go_wp2_with fail; exact ⟨rfl, _, rfl, rfl, ⟨Below.refl _ _, noJ_post _ _ _⟩⟩
    simp only [Act.put, List.setIfInBounds_toArray, List.set_cons_succ, List.set_cons_zero]
    apply free_val (by rfl)
    · intro W hE hp hF; obtain ⟨hcE, hfE, hnE⟩ := bcell hE; have hsE := hE.size; unfold opOb; go_wp2_with fail; (go_at_call 23; refine (l1Num_any _ _ (by omega) (by omega)).mono ?_; rintro e WX ⟨rfl, hbX⟩); go_wp2_with fail; exact ⟨rfl, _, rfl, rfl, ⟨hbX, noJ_post _ _ _⟩⟩
    simp only [Act.put, List.setIfInBounds_toArray, List.set_cons_succ, List.set_cons_zero]
    apply free_val (by rfl)
    · intro W hE hp hF; obtain ⟨hcE, hfE, hnE⟩ := bcell hE; have hsE := hE.size; unfold opOb; go_wp2_with fail; exact ⟨rfl, _, rfl, rfl, ⟨Below.refl _ _, noJ_post _ _ _⟩⟩
    simp only [Act.put, List.setIfInBounds_toArray, List.set_cons_succ, List.set_cons_zero]
    apply free_val (by rfl)
    · intro W hE hp hF; obtain ⟨hcE, hfE, hnE⟩ := bcell hE; have hsE := hE.size; unfold opOb; go_wp2_with fail; exact ⟨rfl, _, rfl, rfl, ⟨Below.refl _ _, noJ_post _ _ _⟩⟩
    simp only [Act.put, List.setIfInBounds_toArray, List.set_cons_succ, List.set_cons_zero]
    apply free_val (by rfl)
    · intro W hE hp hF; obtain ⟨hcE, hfE, hnE⟩ := bcell hE; have hsE := hE.size; unfold opOb; go_wp2_with fail; exact ⟨rfl, _, rfl, rfl, ⟨Below.refl _ _, noJ_post _ _ _⟩⟩
    simp only [Act.put, List.setIfInBounds_toArray, List.set_cons_succ, List.set_cons_zero]
    apply free_end
    intro w9 hEw9 hJF hGF
    clear hJF
    obtain ⟨BX3, rfl, rowX3⟩ := hGF.1.2
    obtain ⟨BX4, rfl, rowX4⟩ := hGF.2
    clear hGF
    go_wp2_with fail
    refine normal_of ?_
    go_wp2_with fail
    go_ret2
    exact ⟨rfl, hw1.trans (hEw9.mono hw1.size)⟩
  · go_enter Tryd.func5, Tryd.ntmps5
    go_wp2_with fail
    (go_at_call 21; refine (HC.out _).mono ?_; rintro e w1 ⟨rfl, hb1⟩)
    (have hs1 := hb1.size; (try simp at hs1); obtain ⟨hc1, hf1, hn1⟩ := bcell hb1; (try have hz1_w_0 : w.heap.size < w1.heap.size := by omega); (try have hz1_w_1 : w.heap.size + 1 < w1.heap.size := by omega); (try have hz1_w_2 : w.heap.size + 2 < w1.heap.size := by omega); (try have hz1_w_2b : w.heap.size + 1 + 1 < w1.heap.size := by omega))
    go_upto_region 3 with (fail)
    have hbx : Row w1 w.heap.size 30 [.int .i64 2, .int .i64 a, .int .i64 s, .int .i64 c, .int .i64 i, .int .i64 r, .int .i64 l] := (Row.new w _ #[.int .i64 2, .int .i64 a, .int .i64 s, .int .i64 c, .int .i64 i, .int .i64 r, .int .i64 l]).to hb1
    have hw1 : Below w.heap.size w w1 := (by repeat' (first | (with_reducible exact Below.refl _ _) | (with_reducible refine Below.alloc ?_ ?_ _) | (with_reducible refine Below.setCell ?_ ?_ _) | (with_reducible refine Below.drew ?_) | (with_reducible refine Below.trans ?_ (Below.mono (by with_reducible assumption) ?_)) | omega | (simp; done) | (simp; omega)))
    obtain ⟨c0, c1, c2, c3, c4, c5, c6⟩ := row7s hbx
    have hzB := hbx.lt
    have zn : ((⟨#[99, 114, 111, 112]⟩ : ByteArray)).size ≤ 5 := by decide
    apply wp_region_chain 22 [] [] noJ (fun W W' => Below W.heap.size W W') [Sum.inr (fun u W => ∃ B, u = .slice (some ⟨B, 0, none⟩) 3 3 ∧ Row W B 9 [.string ⟨#[100, 114, 121]⟩, .string ⟨#[98, 114, 105, 110, 101]⟩, .string ⟨#[99, 114, 111, 112]⟩]), Sum.inl _, Sum.inl _, Sum.inr (fun u W => ∃ B, u = .pointer (some ⟨B, 2, none⟩) ∧ Row W B 9 [.string ⟨#[100, 114, 121]⟩, .string ⟨#[98, 114, 105, 110, 101]⟩, .string ⟨#[99, 114, 111, 112]⟩]), Sum.inl _, Sum.inl _, Sum.inl _, Sum.inl _, Sum.inl _, Sum.inl _, Sum.inl _, Sum.inl _, Sum.inl _, Sum.inl _, Sum.inl _, Sum.inl _, Sum.inl _, Sum.inl _, Sum.inl _, Sum.inl _, Sum.inl _, Sum.inl _] (by kernel_rfl) (by kernel_rfl) (fun _ _ _ => below_trans) (below_draw _) trivial ?_
    rotate_left 20
    simp only [List.take_succ_cons, List.take_zero, List.drop_succ_cons, List.drop_zero]
    apply free_has (by rfl)
    · rintro u W W' hb ⟨BX5, rfl, rowX5⟩; exact ⟨BX5, rfl, (rowX5.to hb)⟩
    · intro W hE hp hF; obtain ⟨hcE, hfE, hnE⟩ := bcell hE; have hsE := hE.size; unfold opOb; go_wp2_with fail; exact ⟨rfl, _, rfl, ⟨_, rfl, Row.new _ _ _⟩, ⟨(Below.refl _ _).alloc (Nat.le_refl _) _, noJ_post _ _ _⟩⟩
    intro uX5
    simp only [Act.put, List.setIfInBounds_toArray, List.set_cons_succ, List.set_cons_zero]
    apply free_val (by rfl)
    · intro W hE hp hF; obtain ⟨hcE, hfE, hnE⟩ := bcell hE; have hsE := hE.size; unfold opOb; go_wp2_with fail; exact ⟨rfl, _, rfl, rfl, ⟨Below.refl _ _, noJ_post _ _ _⟩⟩
    simp only [Act.put, List.setIfInBounds_toArray, List.set_cons_succ, List.set_cons_zero]
    apply free_val (by rfl)
    · intro W hE hp hF; obtain ⟨hcE, hfE, hnE⟩ := bcell hE; have hsE := hE.size; unfold opOb; go_wp2_with fail; exact ⟨rfl, _, rfl, rfl, ⟨Below.refl _ _, noJ_post _ _ _⟩⟩
    simp only [Act.put, List.setIfInBounds_toArray, List.set_cons_succ, List.set_cons_zero]
    apply free_has (by rfl)
    · rintro u W W' hb ⟨BX6, rfl, rowX6⟩; exact ⟨BX6, rfl, (rowX6.to hb)⟩
    · intro W hE hp hF; obtain ⟨hcE, hfE, hnE⟩ := bcell hE; have hsE := hE.size; obtain ⟨BX5, rfl, rowX5⟩ := hF.2 (by kernel_rfl); unfold opOb; go_wp2_with fail; exact ⟨rfl, _, rfl, ⟨_, rfl, rowX5⟩, ⟨Below.refl _ _, noJ_post _ _ _⟩⟩
    intro uX6
    simp only [Act.put, List.setIfInBounds_toArray, List.set_cons_succ, List.set_cons_zero]
    apply free_val (by rfl)
    · intro W hE hp hF; obtain ⟨hcE, hfE, hnE⟩ := bcell hE; have hsE := hE.size; obtain ⟨BX6, rfl, rowX6⟩ := hF.2 (by kernel_rfl); unfold opOb; obtain ⟨q0, q1, q2⟩ := row3s rowX6; have qz := rowX6.lt; go_wp2_with fail; exact ⟨rfl, _, rfl, rfl, ⟨Below.refl _ _, noJ_post _ _ _⟩⟩
    simp only [Act.put, List.setIfInBounds_toArray, List.set_cons_succ, List.set_cons_zero]
    apply free_val (by rfl)
    · intro W hE hp hF; obtain ⟨hcE, hfE, hnE⟩ := bcell hE; have hsE := hE.size; unfold opOb; go_wp2_with fail; exact ⟨rfl, _, rfl, rfl, ⟨Below.refl _ _, noJ_post _ _ _⟩⟩
    simp only [Act.put, List.setIfInBounds_toArray, List.set_cons_succ, List.set_cons_zero]
    apply free_val (by rfl)
    · intro W hE hp hF; obtain ⟨hcE, hfE, hnE⟩ := bcell hE; have hsE := hE.size; unfold opOb; go_wp2_with fail; exact ⟨rfl, _, rfl, rfl, ⟨Below.refl _ _, noJ_post _ _ _⟩⟩
    simp only [Act.put, List.setIfInBounds_toArray, List.set_cons_succ, List.set_cons_zero]
    apply free_val (by rfl)
    · intro W hE hp hF; obtain ⟨hcE, hfE, hnE⟩ := bcell hE; have hsE := hE.size; unfold opOb; go_wp2_with fail; exact ⟨rfl, _, rfl, rfl, ⟨Below.refl _ _, noJ_post _ _ _⟩⟩
    simp only [Act.put, List.setIfInBounds_toArray, List.set_cons_succ, List.set_cons_zero]
    apply free_val (by rfl)
    · intro W hE hp hF; obtain ⟨hcE, hfE, hnE⟩ := bcell hE; have hsE := hE.size; unfold opOb; go_wp2_with fail; (go_at_call 22; refine (l2Text_any _ _ _ (by omega) (by omega) (by omega) (by omega)).mono ?_; rintro e WX ⟨rfl, hbX⟩); go_wp2_with fail; exact ⟨rfl, _, rfl, rfl, ⟨hbX, noJ_post _ _ _⟩⟩
    simp only [Act.put, List.setIfInBounds_toArray, List.set_cons_succ, List.set_cons_zero]
    apply free_val (by rfl)
    · intro W hE hp hF; obtain ⟨hcE, hfE, hnE⟩ := bcell hE; have hsE := hE.size; unfold opOb; go_wp2_with fail; exact ⟨rfl, _, rfl, rfl, ⟨Below.refl _ _, noJ_post _ _ _⟩⟩
    simp only [Act.put, List.setIfInBounds_toArray, List.set_cons_succ, List.set_cons_zero]
    apply free_val (by rfl)
    · intro W hE hp hF; obtain ⟨hcE, hfE, hnE⟩ := bcell hE; have hsE := hE.size; unfold opOb; go_wp2_with fail; exact ⟨rfl, _, rfl, rfl, ⟨Below.refl _ _, noJ_post _ _ _⟩⟩
    simp only [Act.put, List.setIfInBounds_toArray, List.set_cons_succ, List.set_cons_zero]
    apply free_val (by rfl)
    · intro W hE hp hF; obtain ⟨hcE, hfE, hnE⟩ := bcell hE; have hsE := hE.size; unfold opOb; go_wp2_with fail; exact ⟨rfl, _, rfl, rfl, ⟨Below.refl _ _, noJ_post _ _ _⟩⟩
    simp only [Act.put, List.setIfInBounds_toArray, List.set_cons_succ, List.set_cons_zero]
    apply free_val (by rfl)
    · intro W hE hp hF; obtain ⟨hcE, hfE, hnE⟩ := bcell hE; have hsE := hE.size; unfold opOb; go_wp2_with fail; exact ⟨rfl, _, rfl, rfl, ⟨Below.refl _ _, noJ_post _ _ _⟩⟩
    simp only [Act.put, List.setIfInBounds_toArray, List.set_cons_succ, List.set_cons_zero]
    apply free_val (by rfl)
    · intro W hE hp hF; obtain ⟨hcE, hfE, hnE⟩ := bcell hE; have hsE := hE.size; unfold opOb; go_wp2_with fail; (go_at_call 23; refine (l1Num_any _ _ (by omega) (by omega)).mono ?_; rintro e WX ⟨rfl, hbX⟩); go_wp2_with fail; exact ⟨rfl, _, rfl, rfl, ⟨hbX, noJ_post _ _ _⟩⟩
    simp only [Act.put, List.setIfInBounds_toArray, List.set_cons_succ, List.set_cons_zero]
    apply free_val (by rfl)
    · intro W hE hp hF; obtain ⟨hcE, hfE, hnE⟩ := bcell hE; have hsE := hE.size; unfold opOb; go_wp2_with fail; exact ⟨rfl, _, rfl, rfl, ⟨Below.refl _ _, noJ_post _ _ _⟩⟩
    simp only [Act.put, List.setIfInBounds_toArray, List.set_cons_succ, List.set_cons_zero]
    apply free_val (by rfl)
    · intro W hE hp hF; obtain ⟨hcE, hfE, hnE⟩ := bcell hE; have hsE := hE.size; unfold opOb; go_wp2_with fail; exact ⟨rfl, _, rfl, rfl, ⟨Below.refl _ _, noJ_post _ _ _⟩⟩
    simp only [Act.put, List.setIfInBounds_toArray, List.set_cons_succ, List.set_cons_zero]
    apply free_val (by rfl)
    · intro W hE hp hF; obtain ⟨hcE, hfE, hnE⟩ := bcell hE; have hsE := hE.size; unfold opOb; go_wp2_with fail; exact ⟨rfl, _, rfl, rfl, ⟨Below.refl _ _, noJ_post _ _ _⟩⟩
    simp only [Act.put, List.setIfInBounds_toArray, List.set_cons_succ, List.set_cons_zero]
    apply free_val (by rfl)
    · intro W hE hp hF; obtain ⟨hcE, hfE, hnE⟩ := bcell hE; have hsE := hE.size; unfold opOb; go_wp2_with fail; exact ⟨rfl, _, rfl, rfl, ⟨Below.refl _ _, noJ_post _ _ _⟩⟩
    simp only [Act.put, List.setIfInBounds_toArray, List.set_cons_succ, List.set_cons_zero]
    apply free_val (by rfl)
    · intro W hE hp hF; obtain ⟨hcE, hfE, hnE⟩ := bcell hE; have hsE := hE.size; unfold opOb; go_wp2_with fail; (go_at_call 23; refine (l1Num_any _ _ (by omega) (by omega)).mono ?_; rintro e WX ⟨rfl, hbX⟩); go_wp2_with fail; exact ⟨rfl, _, rfl, rfl, ⟨hbX, noJ_post _ _ _⟩⟩
    simp only [Act.put, List.setIfInBounds_toArray, List.set_cons_succ, List.set_cons_zero]
    apply free_val (by rfl)
    · intro W hE hp hF; obtain ⟨hcE, hfE, hnE⟩ := bcell hE; have hsE := hE.size; unfold opOb; go_wp2_with fail; exact ⟨rfl, _, rfl, rfl, ⟨Below.refl _ _, noJ_post _ _ _⟩⟩
    simp only [Act.put, List.setIfInBounds_toArray, List.set_cons_succ, List.set_cons_zero]
    apply free_val (by rfl)
    · intro W hE hp hF; obtain ⟨hcE, hfE, hnE⟩ := bcell hE; have hsE := hE.size; unfold opOb; go_wp2_with fail; exact ⟨rfl, _, rfl, rfl, ⟨Below.refl _ _, noJ_post _ _ _⟩⟩
    simp only [Act.put, List.setIfInBounds_toArray, List.set_cons_succ, List.set_cons_zero]
    apply free_val (by rfl)
    · intro W hE hp hF; obtain ⟨hcE, hfE, hnE⟩ := bcell hE; have hsE := hE.size; unfold opOb; go_wp2_with fail; exact ⟨rfl, _, rfl, rfl, ⟨Below.refl _ _, noJ_post _ _ _⟩⟩
    simp only [Act.put, List.setIfInBounds_toArray, List.set_cons_succ, List.set_cons_zero]
    apply free_end
    intro w9 hEw9 hJF hGF
    clear hJF
    obtain ⟨BX5, rfl, rowX5⟩ := hGF.1.2
    obtain ⟨BX6, rfl, rowX6⟩ := hGF.2
    clear hGF
    go_wp2_with fail
    refine normal_of ?_
    go_wp2_with fail
    go_ret2
    exact ⟨rfl, hw1.trans (hEw9.mono hw1.size)⟩
set_option maxHeartbeats 8000000 in
set_option maxRecDepth 100000 in
theorem iPoolText_yes (st a s c i r l : Int) (w : World) (ht : Hid (Tab w)) (hOK : poolOK st a s c i r l = true) :
    Calls Tryd.prog 7 #[.agg #[.int .i64 st, .int .i64 a, .int .i64 s, .int .i64 c, .int .i64 i, .int .i64 r, .int .i64 l]] w fun e w' => e = .returned (.tuple #[.string (ptS st a s c r), .bool true]) ∧ Below w.heap.size w w' := by
  obtain ⟨⟨ha0, ha1⟩, ⟨hs0, hs1⟩, ⟨hc0, hc1⟩, ⟨hr0, hr1⟩, hst⟩ := pool_parts hOK
  have z1 := brS_size (a := a) (s := s) (by omega) (by omega)
  have z2 := numS_size (z := c) (by omega)
  have z3 := numS_size (z := r) (by omega)
  have hc := fun W => isPool_any st a s c i r l W
  rw [hOK] at hc
  have HC := Lib.hid hc
  clear hc hOK
  rcases hst with rfl | rfl | rfl
  · go_enter Tryd.func7, Tryd.ntmps7
    go_wp2_with fail
    (go_at_call 20; refine (HC.out _).mono ?_; rintro e w1 ⟨rfl, hb1⟩)
    (have hs1 := hb1.size; (try simp at hs1); obtain ⟨hc1, hf1, hn1⟩ := bcell hb1; (try have hz1_w_0 : w.heap.size < w1.heap.size := by omega); (try have hz1_w_1 : w.heap.size + 1 < w1.heap.size := by omega); (try have hz1_w_2 : w.heap.size + 2 < w1.heap.size := by omega); (try have hz1_w_2b : w.heap.size + 1 + 1 < w1.heap.size := by omega))
    have HT1 : Hid (Tab w1) := Lib.hid (ht.out.to (by repeat' (first | (with_reducible exact Below.refl _ _) | (with_reducible refine Below.alloc ?_ ?_ _) | (with_reducible refine Below.setCell ?_ ?_ _) | (with_reducible refine Below.drew ?_) | (with_reducible refine Below.trans ?_ (Below.mono (by with_reducible assumption) ?_)) | omega | (simp; done) | (simp; omega))))
    go_wp2_with fail
    refine (iBrineText_yes a s _ (Lib.hid (HT1.out.to (by repeat' (first | (with_reducible exact Below.refl _ _) | (with_reducible refine Below.alloc ?_ ?_ _) | (with_reducible refine Below.setCell ?_ ?_ _) | (with_reducible refine Below.drew ?_) | (with_reducible refine Below.trans ?_ (Below.mono (by with_reducible assumption) ?_)) | omega | (simp; done) | (simp; omega))))) (by simp only [Bool.and_eq_true, inB_iff]; omega)).mono ?_
    rintro e w2 ⟨rfl, hb2⟩
    have hw2 : Below w.heap.size w w2 := (show Below w.heap.size w w1 from (by repeat' (first | (with_reducible exact Below.refl _ _) | (with_reducible refine Below.alloc ?_ ?_ _) | (with_reducible refine Below.setCell ?_ ?_ _) | (with_reducible refine Below.drew ?_) | (with_reducible refine Below.trans ?_ (Below.mono (by with_reducible assumption) ?_)) | omega | (simp; done) | (simp; omega)))).trans (hb2.mono (by omega))
    have hbx : Row w2 w.heap.size 30 [.int .i64 0, .int .i64 a, .int .i64 s, .int .i64 c, .int .i64 i, .int .i64 r, .int .i64 l] := ((Row.new w _ #[.int .i64 0, .int .i64 a, .int .i64 s, .int .i64 c, .int .i64 i, .int .i64 r, .int .i64 l]).to hb1).to hb2
    go_upto_region 4 with (fail)
    have HT : Hid (Tab w2) := Lib.hid (HT1.out.to hb2)
    obtain ⟨c0, c1, c2, c3, c4, c5, c6⟩ := row7s hbx
    have hzB := hbx.lt
    have zn : ((⟨#[100, 114, 121]⟩ : ByteArray)).size ≤ 5 := by decide
    apply wp_region_chain 20 [] [] noJ (fun W W' => Below W.heap.size W W') [Sum.inr (fun u W => ∃ B, u = .slice (some ⟨B, 0, none⟩) 3 3 ∧ Row W B 9 [.string ⟨#[100, 114, 121]⟩, .string ⟨#[98, 114, 105, 110, 101]⟩, .string ⟨#[99, 114, 111, 112]⟩]), Sum.inl _, Sum.inl _, Sum.inr (fun u W => ∃ B, u = .pointer (some ⟨B, 0, none⟩) ∧ Row W B 9 [.string ⟨#[100, 114, 121]⟩, .string ⟨#[98, 114, 105, 110, 101]⟩, .string ⟨#[99, 114, 111, 112]⟩]), Sum.inl _, Sum.inl _, Sum.inl _, Sum.inl _, Sum.inl _, Sum.inl _, Sum.inl _, Sum.inl _, Sum.inl _, Sum.inl _, Sum.inl _, Sum.inl _, Sum.inl _, Sum.inl _, Sum.inl _, Sum.inl _] (by kernel_rfl) (by kernel_rfl) (fun _ _ _ => below_trans) (below_draw _) trivial ?_
    rotate_left 18
    simp only [List.take_succ_cons, List.take_zero, List.drop_succ_cons, List.drop_zero]
    apply free_has (by rfl)
    · rintro u W W' hb ⟨BX7, rfl, rowX7⟩; exact ⟨BX7, rfl, (rowX7.to hb)⟩
    · intro W hE hp hF; obtain ⟨hcE, hfE, hnE⟩ := bcell hE; have hsE := hE.size; unfold opOb; go_wp2_with fail; exact ⟨rfl, _, rfl, ⟨_, rfl, Row.new _ _ _⟩, ⟨(Below.refl _ _).alloc (Nat.le_refl _) _, noJ_post _ _ _⟩⟩
    intro uX7
    simp only [Act.put, List.setIfInBounds_toArray, List.set_cons_succ, List.set_cons_zero]
    apply free_val (by rfl)
    · intro W hE hp hF; obtain ⟨hcE, hfE, hnE⟩ := bcell hE; have hsE := hE.size; unfold opOb; go_wp2_with fail; exact ⟨rfl, _, rfl, rfl, ⟨Below.refl _ _, noJ_post _ _ _⟩⟩
    simp only [Act.put, List.setIfInBounds_toArray, List.set_cons_succ, List.set_cons_zero]
    apply free_val (by rfl)
    · intro W hE hp hF; obtain ⟨hcE, hfE, hnE⟩ := bcell hE; have hsE := hE.size; unfold opOb; go_wp2_with fail; exact ⟨rfl, _, rfl, rfl, ⟨Below.refl _ _, noJ_post _ _ _⟩⟩
    simp only [Act.put, List.setIfInBounds_toArray, List.set_cons_succ, List.set_cons_zero]
    apply free_has (by rfl)
    · rintro u W W' hb ⟨BX8, rfl, rowX8⟩; exact ⟨BX8, rfl, (rowX8.to hb)⟩
    · intro W hE hp hF; obtain ⟨hcE, hfE, hnE⟩ := bcell hE; have hsE := hE.size; obtain ⟨BX7, rfl, rowX7⟩ := hF.2 (by kernel_rfl); unfold opOb; go_wp2_with fail; exact ⟨rfl, _, rfl, ⟨_, rfl, rowX7⟩, ⟨Below.refl _ _, noJ_post _ _ _⟩⟩
    intro uX8
    simp only [Act.put, List.setIfInBounds_toArray, List.set_cons_succ, List.set_cons_zero]
    apply free_val (by rfl)
    · intro W hE hp hF; obtain ⟨hcE, hfE, hnE⟩ := bcell hE; have hsE := hE.size; obtain ⟨BX8, rfl, rowX8⟩ := hF.2 (by kernel_rfl); unfold opOb; obtain ⟨q0, q1, q2⟩ := row3s rowX8; have qz := rowX8.lt; go_wp2_with fail; exact ⟨rfl, _, rfl, rfl, ⟨Below.refl _ _, noJ_post _ _ _⟩⟩
    simp only [Act.put, List.setIfInBounds_toArray, List.set_cons_succ, List.set_cons_zero]
    apply free_val (by rfl)
    · intro W hE hp hF; obtain ⟨hcE, hfE, hnE⟩ := bcell hE; have hsE := hE.size; unfold opOb; go_wp2_with fail; exact ⟨rfl, _, rfl, rfl, ⟨Below.refl _ _, noJ_post _ _ _⟩⟩
    simp only [Act.put, List.setIfInBounds_toArray, List.set_cons_succ, List.set_cons_zero]
    apply free_val (by rfl)
    · intro W hE hp hF; obtain ⟨hcE, hfE, hnE⟩ := bcell hE; have hsE := hE.size; unfold opOb; go_wp2_with fail; exact ⟨rfl, _, rfl, rfl, ⟨Below.refl _ _, noJ_post _ _ _⟩⟩
    simp only [Act.put, List.setIfInBounds_toArray, List.set_cons_succ, List.set_cons_zero]
    apply free_val (by rfl)
    · intro W hE hp hF; obtain ⟨hcE, hfE, hnE⟩ := bcell hE; have hsE := hE.size; unfold opOb; go_wp2_with fail; exact ⟨rfl, _, rfl, rfl, ⟨Below.refl _ _, noJ_post _ _ _⟩⟩
    simp only [Act.put, List.setIfInBounds_toArray, List.set_cons_succ, List.set_cons_zero]
    apply free_val (by rfl)
    · intro W hE hp hF; obtain ⟨hcE, hfE, hnE⟩ := bcell hE; have hsE := hE.size; unfold opOb; go_wp2_with fail; exact ⟨rfl, _, rfl, rfl, ⟨Below.refl _ _, noJ_post _ _ _⟩⟩
    simp only [Act.put, List.setIfInBounds_toArray, List.set_cons_succ, List.set_cons_zero]
    apply free_val (by rfl)
    · intro W hE hp hF; obtain ⟨hcE, hfE, hnE⟩ := bcell hE; have hsE := hE.size; unfold opOb; go_wp2_with fail; exact ⟨rfl, _, rfl, rfl, ⟨Below.refl _ _, noJ_post _ _ _⟩⟩
    simp only [Act.put, List.setIfInBounds_toArray, List.set_cons_succ, List.set_cons_zero]
    apply free_val (by rfl)
    · intro W hE hp hF; obtain ⟨hcE, hfE, hnE⟩ := bcell hE; have hsE := hE.size; unfold opOb; go_wp2_with fail; exact ⟨rfl, _, rfl, rfl, ⟨Below.refl _ _, noJ_post _ _ _⟩⟩
    simp only [Act.put, List.setIfInBounds_toArray, List.set_cons_succ, List.set_cons_zero]
    apply free_val (by rfl)
    · intro W hE hp hF; obtain ⟨hcE, hfE, hnE⟩ := bcell hE; have hsE := hE.size; unfold opOb; go_wp2_with fail; (go_at_call 26; refine (decimal_any _ _ (HT.out.to hE) (by omega) (by omega)).mono ?_; rintro e WX ⟨rfl, hbX⟩); go_wp2_with fail; exact ⟨rfl, _, rfl, rfl, ⟨hbX, noJ_post _ _ _⟩⟩
    simp only [Act.put, List.setIfInBounds_toArray, List.set_cons_succ, List.set_cons_zero]
    apply free_val (by rfl)
    · intro W hE hp hF; obtain ⟨hcE, hfE, hnE⟩ := bcell hE; have hsE := hE.size; unfold opOb; go_wp2_with fail; exact ⟨rfl, _, rfl, rfl, ⟨Below.refl _ _, noJ_post _ _ _⟩⟩
    simp only [Act.put, List.setIfInBounds_toArray, List.set_cons_succ, List.set_cons_zero]
    apply free_val (by rfl)
    · intro W hE hp hF; obtain ⟨hcE, hfE, hnE⟩ := bcell hE; have hsE := hE.size; unfold opOb; go_wp2_with fail; exact ⟨rfl, _, rfl, rfl, ⟨Below.refl _ _, noJ_post _ _ _⟩⟩
    simp only [Act.put, List.setIfInBounds_toArray, List.set_cons_succ, List.set_cons_zero]
    apply free_val (by rfl)
    · intro W hE hp hF; obtain ⟨hcE, hfE, hnE⟩ := bcell hE; have hsE := hE.size; unfold opOb; go_wp2_with fail; exact ⟨rfl, _, rfl, rfl, ⟨Below.refl _ _, noJ_post _ _ _⟩⟩
    simp only [Act.put, List.setIfInBounds_toArray, List.set_cons_succ, List.set_cons_zero]
    apply free_val (by rfl)
    · intro W hE hp hF; obtain ⟨hcE, hfE, hnE⟩ := bcell hE; have hsE := hE.size; unfold opOb; go_wp2_with fail; exact ⟨rfl, _, rfl, rfl, ⟨Below.refl _ _, noJ_post _ _ _⟩⟩
    simp only [Act.put, List.setIfInBounds_toArray, List.set_cons_succ, List.set_cons_zero]
    apply free_val (by rfl)
    · intro W hE hp hF; obtain ⟨hcE, hfE, hnE⟩ := bcell hE; have hsE := hE.size; unfold opOb; go_wp2_with fail; (go_at_call 26; refine (decimal_any _ _ (HT.out.to hE) (by omega) (by omega)).mono ?_; rintro e WX ⟨rfl, hbX⟩); go_wp2_with fail; exact ⟨rfl, _, rfl, rfl, ⟨hbX, noJ_post _ _ _⟩⟩
    simp only [Act.put, List.setIfInBounds_toArray, List.set_cons_succ, List.set_cons_zero]
    apply free_val (by rfl)
    · intro W hE hp hF; obtain ⟨hcE, hfE, hnE⟩ := bcell hE; have hsE := hE.size; unfold opOb; go_wp2_with fail; exact ⟨rfl, _, rfl, rfl, ⟨Below.refl _ _, noJ_post _ _ _⟩⟩
    simp only [Act.put, List.setIfInBounds_toArray, List.set_cons_succ, List.set_cons_zero]
    apply free_val (by rfl)
    · intro W hE hp hF; obtain ⟨hcE, hfE, hnE⟩ := bcell hE; have hsE := hE.size; unfold opOb; go_wp2_with fail; exact ⟨rfl, _, rfl, rfl, ⟨Below.refl _ _, noJ_post _ _ _⟩⟩
    simp only [Act.put, List.setIfInBounds_toArray, List.set_cons_succ, List.set_cons_zero]
    apply free_val (by rfl)
    · intro W hE hp hF; obtain ⟨hcE, hfE, hnE⟩ := bcell hE; have hsE := hE.size; unfold opOb; go_wp2_with fail; exact ⟨rfl, _, rfl, rfl, ⟨Below.refl _ _, noJ_post _ _ _⟩⟩
    simp only [Act.put, List.setIfInBounds_toArray, List.set_cons_succ, List.set_cons_zero]
    apply free_end
    intro w9 hEw9 hJF hGF
    clear hJF
    obtain ⟨BX7, rfl, rowX7⟩ := hGF.1.2
    obtain ⟨BX8, rfl, rowX8⟩ := hGF.2
    clear hGF
    go_wp2_with fail
    refine normal_of ?_
    go_wp2_with fail
    go_ret2
    exact ⟨rfl, hw2.trans (hEw9.mono hw2.size)⟩
  · go_enter Tryd.func7, Tryd.ntmps7
    go_wp2_with fail
    (go_at_call 20; refine (HC.out _).mono ?_; rintro e w1 ⟨rfl, hb1⟩)
    (have hs1 := hb1.size; (try simp at hs1); obtain ⟨hc1, hf1, hn1⟩ := bcell hb1; (try have hz1_w_0 : w.heap.size < w1.heap.size := by omega); (try have hz1_w_1 : w.heap.size + 1 < w1.heap.size := by omega); (try have hz1_w_2 : w.heap.size + 2 < w1.heap.size := by omega); (try have hz1_w_2b : w.heap.size + 1 + 1 < w1.heap.size := by omega))
    have HT1 : Hid (Tab w1) := Lib.hid (ht.out.to (by repeat' (first | (with_reducible exact Below.refl _ _) | (with_reducible refine Below.alloc ?_ ?_ _) | (with_reducible refine Below.setCell ?_ ?_ _) | (with_reducible refine Below.drew ?_) | (with_reducible refine Below.trans ?_ (Below.mono (by with_reducible assumption) ?_)) | omega | (simp; done) | (simp; omega))))
    go_wp2_with fail
    refine (iBrineText_yes a s _ (Lib.hid (HT1.out.to (by repeat' (first | (with_reducible exact Below.refl _ _) | (with_reducible refine Below.alloc ?_ ?_ _) | (with_reducible refine Below.setCell ?_ ?_ _) | (with_reducible refine Below.drew ?_) | (with_reducible refine Below.trans ?_ (Below.mono (by with_reducible assumption) ?_)) | omega | (simp; done) | (simp; omega))))) (by simp only [Bool.and_eq_true, inB_iff]; omega)).mono ?_
    rintro e w2 ⟨rfl, hb2⟩
    have hw2 : Below w.heap.size w w2 := (show Below w.heap.size w w1 from (by repeat' (first | (with_reducible exact Below.refl _ _) | (with_reducible refine Below.alloc ?_ ?_ _) | (with_reducible refine Below.setCell ?_ ?_ _) | (with_reducible refine Below.drew ?_) | (with_reducible refine Below.trans ?_ (Below.mono (by with_reducible assumption) ?_)) | omega | (simp; done) | (simp; omega)))).trans (hb2.mono (by omega))
    have hbx : Row w2 w.heap.size 30 [.int .i64 1, .int .i64 a, .int .i64 s, .int .i64 c, .int .i64 i, .int .i64 r, .int .i64 l] := ((Row.new w _ #[.int .i64 1, .int .i64 a, .int .i64 s, .int .i64 c, .int .i64 i, .int .i64 r, .int .i64 l]).to hb1).to hb2
    go_upto_region 4 with (fail)
    have HT : Hid (Tab w2) := Lib.hid (HT1.out.to hb2)
    obtain ⟨c0, c1, c2, c3, c4, c5, c6⟩ := row7s hbx
    have hzB := hbx.lt
    have zn : ((⟨#[98, 114, 105, 110, 101]⟩ : ByteArray)).size ≤ 5 := by decide
    apply wp_region_chain 20 [] [] noJ (fun W W' => Below W.heap.size W W') [Sum.inr (fun u W => ∃ B, u = .slice (some ⟨B, 0, none⟩) 3 3 ∧ Row W B 9 [.string ⟨#[100, 114, 121]⟩, .string ⟨#[98, 114, 105, 110, 101]⟩, .string ⟨#[99, 114, 111, 112]⟩]), Sum.inl _, Sum.inl _, Sum.inr (fun u W => ∃ B, u = .pointer (some ⟨B, 1, none⟩) ∧ Row W B 9 [.string ⟨#[100, 114, 121]⟩, .string ⟨#[98, 114, 105, 110, 101]⟩, .string ⟨#[99, 114, 111, 112]⟩]), Sum.inl _, Sum.inl _, Sum.inl _, Sum.inl _, Sum.inl _, Sum.inl _, Sum.inl _, Sum.inl _, Sum.inl _, Sum.inl _, Sum.inl _, Sum.inl _, Sum.inl _, Sum.inl _, Sum.inl _, Sum.inl _] (by kernel_rfl) (by kernel_rfl) (fun _ _ _ => below_trans) (below_draw _) trivial ?_
    rotate_left 18
    simp only [List.take_succ_cons, List.take_zero, List.drop_succ_cons, List.drop_zero]
    apply free_has (by rfl)
    · rintro u W W' hb ⟨BX9, rfl, rowX9⟩; exact ⟨BX9, rfl, (rowX9.to hb)⟩
    · intro W hE hp hF; obtain ⟨hcE, hfE, hnE⟩ := bcell hE; have hsE := hE.size; unfold opOb; go_wp2_with fail; exact ⟨rfl, _, rfl, ⟨_, rfl, Row.new _ _ _⟩, ⟨(Below.refl _ _).alloc (Nat.le_refl _) _, noJ_post _ _ _⟩⟩
    intro uX9
    simp only [Act.put, List.setIfInBounds_toArray, List.set_cons_succ, List.set_cons_zero]
    apply free_val (by rfl)
    · intro W hE hp hF; obtain ⟨hcE, hfE, hnE⟩ := bcell hE; have hsE := hE.size; unfold opOb; go_wp2_with fail; exact ⟨rfl, _, rfl, rfl, ⟨Below.refl _ _, noJ_post _ _ _⟩⟩
    simp only [Act.put, List.setIfInBounds_toArray, List.set_cons_succ, List.set_cons_zero]
    apply free_val (by rfl)
    · intro W hE hp hF; obtain ⟨hcE, hfE, hnE⟩ := bcell hE; have hsE := hE.size; unfold opOb; go_wp2_with fail; exact ⟨rfl, _, rfl, rfl, ⟨Below.refl _ _, noJ_post _ _ _⟩⟩
    simp only [Act.put, List.setIfInBounds_toArray, List.set_cons_succ, List.set_cons_zero]
    apply free_has (by rfl)
    · rintro u W W' hb ⟨BX10, rfl, rowX10⟩; exact ⟨BX10, rfl, (rowX10.to hb)⟩
    · intro W hE hp hF; obtain ⟨hcE, hfE, hnE⟩ := bcell hE; have hsE := hE.size; obtain ⟨BX9, rfl, rowX9⟩ := hF.2 (by kernel_rfl); unfold opOb; go_wp2_with fail; exact ⟨rfl, _, rfl, ⟨_, rfl, rowX9⟩, ⟨Below.refl _ _, noJ_post _ _ _⟩⟩
    intro uX10
    simp only [Act.put, List.setIfInBounds_toArray, List.set_cons_succ, List.set_cons_zero]
    apply free_val (by rfl)
    · intro W hE hp hF; obtain ⟨hcE, hfE, hnE⟩ := bcell hE; have hsE := hE.size; obtain ⟨BX10, rfl, rowX10⟩ := hF.2 (by kernel_rfl); unfold opOb; obtain ⟨q0, q1, q2⟩ := row3s rowX10; have qz := rowX10.lt; go_wp2_with fail; exact ⟨rfl, _, rfl, rfl, ⟨Below.refl _ _, noJ_post _ _ _⟩⟩
    simp only [Act.put, List.setIfInBounds_toArray, List.set_cons_succ, List.set_cons_zero]
    apply free_val (by rfl)
    · intro W hE hp hF; obtain ⟨hcE, hfE, hnE⟩ := bcell hE; have hsE := hE.size; unfold opOb; go_wp2_with fail; exact ⟨rfl, _, rfl, rfl, ⟨Below.refl _ _, noJ_post _ _ _⟩⟩
    simp only [Act.put, List.setIfInBounds_toArray, List.set_cons_succ, List.set_cons_zero]
    apply free_val (by rfl)
    · intro W hE hp hF; obtain ⟨hcE, hfE, hnE⟩ := bcell hE; have hsE := hE.size; unfold opOb; go_wp2_with fail; exact ⟨rfl, _, rfl, rfl, ⟨Below.refl _ _, noJ_post _ _ _⟩⟩
    simp only [Act.put, List.setIfInBounds_toArray, List.set_cons_succ, List.set_cons_zero]
    apply free_val (by rfl)
    · intro W hE hp hF; obtain ⟨hcE, hfE, hnE⟩ := bcell hE; have hsE := hE.size; unfold opOb; go_wp2_with fail; exact ⟨rfl, _, rfl, rfl, ⟨Below.refl _ _, noJ_post _ _ _⟩⟩
    simp only [Act.put, List.setIfInBounds_toArray, List.set_cons_succ, List.set_cons_zero]
    apply free_val (by rfl)
    · intro W hE hp hF; obtain ⟨hcE, hfE, hnE⟩ := bcell hE; have hsE := hE.size; unfold opOb; go_wp2_with fail; exact ⟨rfl, _, rfl, rfl, ⟨Below.refl _ _, noJ_post _ _ _⟩⟩
    simp only [Act.put, List.setIfInBounds_toArray, List.set_cons_succ, List.set_cons_zero]
    apply free_val (by rfl)
    · intro W hE hp hF; obtain ⟨hcE, hfE, hnE⟩ := bcell hE; have hsE := hE.size; unfold opOb; go_wp2_with fail; exact ⟨rfl, _, rfl, rfl, ⟨Below.refl _ _, noJ_post _ _ _⟩⟩
    simp only [Act.put, List.setIfInBounds_toArray, List.set_cons_succ, List.set_cons_zero]
    apply free_val (by rfl)
    · intro W hE hp hF; obtain ⟨hcE, hfE, hnE⟩ := bcell hE; have hsE := hE.size; unfold opOb; go_wp2_with fail; exact ⟨rfl, _, rfl, rfl, ⟨Below.refl _ _, noJ_post _ _ _⟩⟩
    simp only [Act.put, List.setIfInBounds_toArray, List.set_cons_succ, List.set_cons_zero]
    apply free_val (by rfl)
    · intro W hE hp hF; obtain ⟨hcE, hfE, hnE⟩ := bcell hE; have hsE := hE.size; unfold opOb; go_wp2_with fail; (go_at_call 26; refine (decimal_any _ _ (HT.out.to hE) (by omega) (by omega)).mono ?_; rintro e WX ⟨rfl, hbX⟩); go_wp2_with fail; exact ⟨rfl, _, rfl, rfl, ⟨hbX, noJ_post _ _ _⟩⟩
    simp only [Act.put, List.setIfInBounds_toArray, List.set_cons_succ, List.set_cons_zero]
    apply free_val (by rfl)
    · intro W hE hp hF; obtain ⟨hcE, hfE, hnE⟩ := bcell hE; have hsE := hE.size; unfold opOb; go_wp2_with fail; exact ⟨rfl, _, rfl, rfl, ⟨Below.refl _ _, noJ_post _ _ _⟩⟩
    simp only [Act.put, List.setIfInBounds_toArray, List.set_cons_succ, List.set_cons_zero]
    apply free_val (by rfl)
    · intro W hE hp hF; obtain ⟨hcE, hfE, hnE⟩ := bcell hE; have hsE := hE.size; unfold opOb; go_wp2_with fail; exact ⟨rfl, _, rfl, rfl, ⟨Below.refl _ _, noJ_post _ _ _⟩⟩
    simp only [Act.put, List.setIfInBounds_toArray, List.set_cons_succ, List.set_cons_zero]
    apply free_val (by rfl)
    · intro W hE hp hF; obtain ⟨hcE, hfE, hnE⟩ := bcell hE; have hsE := hE.size; unfold opOb; go_wp2_with fail; exact ⟨rfl, _, rfl, rfl, ⟨Below.refl _ _, noJ_post _ _ _⟩⟩
    simp only [Act.put, List.setIfInBounds_toArray, List.set_cons_succ, List.set_cons_zero]
    apply free_val (by rfl)
    · intro W hE hp hF; obtain ⟨hcE, hfE, hnE⟩ := bcell hE; have hsE := hE.size; unfold opOb; go_wp2_with fail; exact ⟨rfl, _, rfl, rfl, ⟨Below.refl _ _, noJ_post _ _ _⟩⟩
    simp only [Act.put, List.setIfInBounds_toArray, List.set_cons_succ, List.set_cons_zero]
    apply free_val (by rfl)
    · intro W hE hp hF; obtain ⟨hcE, hfE, hnE⟩ := bcell hE; have hsE := hE.size; unfold opOb; go_wp2_with fail; (go_at_call 26; refine (decimal_any _ _ (HT.out.to hE) (by omega) (by omega)).mono ?_; rintro e WX ⟨rfl, hbX⟩); go_wp2_with fail; exact ⟨rfl, _, rfl, rfl, ⟨hbX, noJ_post _ _ _⟩⟩
    simp only [Act.put, List.setIfInBounds_toArray, List.set_cons_succ, List.set_cons_zero]
    apply free_val (by rfl)
    · intro W hE hp hF; obtain ⟨hcE, hfE, hnE⟩ := bcell hE; have hsE := hE.size; unfold opOb; go_wp2_with fail; exact ⟨rfl, _, rfl, rfl, ⟨Below.refl _ _, noJ_post _ _ _⟩⟩
    simp only [Act.put, List.setIfInBounds_toArray, List.set_cons_succ, List.set_cons_zero]
    apply free_val (by rfl)
    · intro W hE hp hF; obtain ⟨hcE, hfE, hnE⟩ := bcell hE; have hsE := hE.size; unfold opOb; go_wp2_with fail; exact ⟨rfl, _, rfl, rfl, ⟨Below.refl _ _, noJ_post _ _ _⟩⟩
    simp only [Act.put, List.setIfInBounds_toArray, List.set_cons_succ, List.set_cons_zero]
    apply free_val (by rfl)
    · intro W hE hp hF; obtain ⟨hcE, hfE, hnE⟩ := bcell hE; have hsE := hE.size; unfold opOb; go_wp2_with fail; exact ⟨rfl, _, rfl, rfl, ⟨Below.refl _ _, noJ_post _ _ _⟩⟩
    simp only [Act.put, List.setIfInBounds_toArray, List.set_cons_succ, List.set_cons_zero]
    apply free_end
    intro w9 hEw9 hJF hGF
    clear hJF
    obtain ⟨BX9, rfl, rowX9⟩ := hGF.1.2
    obtain ⟨BX10, rfl, rowX10⟩ := hGF.2
    clear hGF
    go_wp2_with fail
    refine normal_of ?_
    go_wp2_with fail
    go_ret2
    exact ⟨rfl, hw2.trans (hEw9.mono hw2.size)⟩
  · go_enter Tryd.func7, Tryd.ntmps7
    go_wp2_with fail
    (go_at_call 20; refine (HC.out _).mono ?_; rintro e w1 ⟨rfl, hb1⟩)
    (have hs1 := hb1.size; (try simp at hs1); obtain ⟨hc1, hf1, hn1⟩ := bcell hb1; (try have hz1_w_0 : w.heap.size < w1.heap.size := by omega); (try have hz1_w_1 : w.heap.size + 1 < w1.heap.size := by omega); (try have hz1_w_2 : w.heap.size + 2 < w1.heap.size := by omega); (try have hz1_w_2b : w.heap.size + 1 + 1 < w1.heap.size := by omega))
    have HT1 : Hid (Tab w1) := Lib.hid (ht.out.to (by repeat' (first | (with_reducible exact Below.refl _ _) | (with_reducible refine Below.alloc ?_ ?_ _) | (with_reducible refine Below.setCell ?_ ?_ _) | (with_reducible refine Below.drew ?_) | (with_reducible refine Below.trans ?_ (Below.mono (by with_reducible assumption) ?_)) | omega | (simp; done) | (simp; omega))))
    go_wp2_with fail
    refine (iBrineText_yes a s _ (Lib.hid (HT1.out.to (by repeat' (first | (with_reducible exact Below.refl _ _) | (with_reducible refine Below.alloc ?_ ?_ _) | (with_reducible refine Below.setCell ?_ ?_ _) | (with_reducible refine Below.drew ?_) | (with_reducible refine Below.trans ?_ (Below.mono (by with_reducible assumption) ?_)) | omega | (simp; done) | (simp; omega))))) (by simp only [Bool.and_eq_true, inB_iff]; omega)).mono ?_
    rintro e w2 ⟨rfl, hb2⟩
    have hw2 : Below w.heap.size w w2 := (show Below w.heap.size w w1 from (by repeat' (first | (with_reducible exact Below.refl _ _) | (with_reducible refine Below.alloc ?_ ?_ _) | (with_reducible refine Below.setCell ?_ ?_ _) | (with_reducible refine Below.drew ?_) | (with_reducible refine Below.trans ?_ (Below.mono (by with_reducible assumption) ?_)) | omega | (simp; done) | (simp; omega)))).trans (hb2.mono (by omega))
    have hbx : Row w2 w.heap.size 30 [.int .i64 2, .int .i64 a, .int .i64 s, .int .i64 c, .int .i64 i, .int .i64 r, .int .i64 l] := ((Row.new w _ #[.int .i64 2, .int .i64 a, .int .i64 s, .int .i64 c, .int .i64 i, .int .i64 r, .int .i64 l]).to hb1).to hb2
    go_upto_region 4 with (fail)
    have HT : Hid (Tab w2) := Lib.hid (HT1.out.to hb2)
    obtain ⟨c0, c1, c2, c3, c4, c5, c6⟩ := row7s hbx
    have hzB := hbx.lt
    have zn : ((⟨#[99, 114, 111, 112]⟩ : ByteArray)).size ≤ 5 := by decide
    apply wp_region_chain 20 [] [] noJ (fun W W' => Below W.heap.size W W') [Sum.inr (fun u W => ∃ B, u = .slice (some ⟨B, 0, none⟩) 3 3 ∧ Row W B 9 [.string ⟨#[100, 114, 121]⟩, .string ⟨#[98, 114, 105, 110, 101]⟩, .string ⟨#[99, 114, 111, 112]⟩]), Sum.inl _, Sum.inl _, Sum.inr (fun u W => ∃ B, u = .pointer (some ⟨B, 2, none⟩) ∧ Row W B 9 [.string ⟨#[100, 114, 121]⟩, .string ⟨#[98, 114, 105, 110, 101]⟩, .string ⟨#[99, 114, 111, 112]⟩]), Sum.inl _, Sum.inl _, Sum.inl _, Sum.inl _, Sum.inl _, Sum.inl _, Sum.inl _, Sum.inl _, Sum.inl _, Sum.inl _, Sum.inl _, Sum.inl _, Sum.inl _, Sum.inl _, Sum.inl _, Sum.inl _] (by kernel_rfl) (by kernel_rfl) (fun _ _ _ => below_trans) (below_draw _) trivial ?_
    rotate_left 18
    simp only [List.take_succ_cons, List.take_zero, List.drop_succ_cons, List.drop_zero]
    apply free_has (by rfl)
    · rintro u W W' hb ⟨BX11, rfl, rowX11⟩; exact ⟨BX11, rfl, (rowX11.to hb)⟩
    · intro W hE hp hF; obtain ⟨hcE, hfE, hnE⟩ := bcell hE; have hsE := hE.size; unfold opOb; go_wp2_with fail; exact ⟨rfl, _, rfl, ⟨_, rfl, Row.new _ _ _⟩, ⟨(Below.refl _ _).alloc (Nat.le_refl _) _, noJ_post _ _ _⟩⟩
    intro uX11
    simp only [Act.put, List.setIfInBounds_toArray, List.set_cons_succ, List.set_cons_zero]
    apply free_val (by rfl)
    · intro W hE hp hF; obtain ⟨hcE, hfE, hnE⟩ := bcell hE; have hsE := hE.size; unfold opOb; go_wp2_with fail; exact ⟨rfl, _, rfl, rfl, ⟨Below.refl _ _, noJ_post _ _ _⟩⟩
    simp only [Act.put, List.setIfInBounds_toArray, List.set_cons_succ, List.set_cons_zero]
    apply free_val (by rfl)
    · intro W hE hp hF; obtain ⟨hcE, hfE, hnE⟩ := bcell hE; have hsE := hE.size; unfold opOb; go_wp2_with fail; exact ⟨rfl, _, rfl, rfl, ⟨Below.refl _ _, noJ_post _ _ _⟩⟩
    simp only [Act.put, List.setIfInBounds_toArray, List.set_cons_succ, List.set_cons_zero]
    apply free_has (by rfl)
    · rintro u W W' hb ⟨BX12, rfl, rowX12⟩; exact ⟨BX12, rfl, (rowX12.to hb)⟩
    · intro W hE hp hF; obtain ⟨hcE, hfE, hnE⟩ := bcell hE; have hsE := hE.size; obtain ⟨BX11, rfl, rowX11⟩ := hF.2 (by kernel_rfl); unfold opOb; go_wp2_with fail; exact ⟨rfl, _, rfl, ⟨_, rfl, rowX11⟩, ⟨Below.refl _ _, noJ_post _ _ _⟩⟩
    intro uX12
    simp only [Act.put, List.setIfInBounds_toArray, List.set_cons_succ, List.set_cons_zero]
    apply free_val (by rfl)
    · intro W hE hp hF; obtain ⟨hcE, hfE, hnE⟩ := bcell hE; have hsE := hE.size; obtain ⟨BX12, rfl, rowX12⟩ := hF.2 (by kernel_rfl); unfold opOb; obtain ⟨q0, q1, q2⟩ := row3s rowX12; have qz := rowX12.lt; go_wp2_with fail; exact ⟨rfl, _, rfl, rfl, ⟨Below.refl _ _, noJ_post _ _ _⟩⟩
    simp only [Act.put, List.setIfInBounds_toArray, List.set_cons_succ, List.set_cons_zero]
    apply free_val (by rfl)
    · intro W hE hp hF; obtain ⟨hcE, hfE, hnE⟩ := bcell hE; have hsE := hE.size; unfold opOb; go_wp2_with fail; exact ⟨rfl, _, rfl, rfl, ⟨Below.refl _ _, noJ_post _ _ _⟩⟩
    simp only [Act.put, List.setIfInBounds_toArray, List.set_cons_succ, List.set_cons_zero]
    apply free_val (by rfl)
    · intro W hE hp hF; obtain ⟨hcE, hfE, hnE⟩ := bcell hE; have hsE := hE.size; unfold opOb; go_wp2_with fail; exact ⟨rfl, _, rfl, rfl, ⟨Below.refl _ _, noJ_post _ _ _⟩⟩
    simp only [Act.put, List.setIfInBounds_toArray, List.set_cons_succ, List.set_cons_zero]
    apply free_val (by rfl)
    · intro W hE hp hF; obtain ⟨hcE, hfE, hnE⟩ := bcell hE; have hsE := hE.size; unfold opOb; go_wp2_with fail; exact ⟨rfl, _, rfl, rfl, ⟨Below.refl _ _, noJ_post _ _ _⟩⟩
    simp only [Act.put, List.setIfInBounds_toArray, List.set_cons_succ, List.set_cons_zero]
    apply free_val (by rfl)
    · intro W hE hp hF; obtain ⟨hcE, hfE, hnE⟩ := bcell hE; have hsE := hE.size; unfold opOb; go_wp2_with fail; exact ⟨rfl, _, rfl, rfl, ⟨Below.refl _ _, noJ_post _ _ _⟩⟩
    simp only [Act.put, List.setIfInBounds_toArray, List.set_cons_succ, List.set_cons_zero]
    apply free_val (by rfl)
    · intro W hE hp hF; obtain ⟨hcE, hfE, hnE⟩ := bcell hE; have hsE := hE.size; unfold opOb; go_wp2_with fail; exact ⟨rfl, _, rfl, rfl, ⟨Below.refl _ _, noJ_post _ _ _⟩⟩
    simp only [Act.put, List.setIfInBounds_toArray, List.set_cons_succ, List.set_cons_zero]
    apply free_val (by rfl)
    · intro W hE hp hF; obtain ⟨hcE, hfE, hnE⟩ := bcell hE; have hsE := hE.size; unfold opOb; go_wp2_with fail; exact ⟨rfl, _, rfl, rfl, ⟨Below.refl _ _, noJ_post _ _ _⟩⟩
    simp only [Act.put, List.setIfInBounds_toArray, List.set_cons_succ, List.set_cons_zero]
    apply free_val (by rfl)
    · intro W hE hp hF; obtain ⟨hcE, hfE, hnE⟩ := bcell hE; have hsE := hE.size; unfold opOb; go_wp2_with fail; (go_at_call 26; refine (decimal_any _ _ (HT.out.to hE) (by omega) (by omega)).mono ?_; rintro e WX ⟨rfl, hbX⟩); go_wp2_with fail; exact ⟨rfl, _, rfl, rfl, ⟨hbX, noJ_post _ _ _⟩⟩
    simp only [Act.put, List.setIfInBounds_toArray, List.set_cons_succ, List.set_cons_zero]
    apply free_val (by rfl)
    · intro W hE hp hF; obtain ⟨hcE, hfE, hnE⟩ := bcell hE; have hsE := hE.size; unfold opOb; go_wp2_with fail; exact ⟨rfl, _, rfl, rfl, ⟨Below.refl _ _, noJ_post _ _ _⟩⟩
    simp only [Act.put, List.setIfInBounds_toArray, List.set_cons_succ, List.set_cons_zero]
    apply free_val (by rfl)
    · intro W hE hp hF; obtain ⟨hcE, hfE, hnE⟩ := bcell hE; have hsE := hE.size; unfold opOb; go_wp2_with fail; exact ⟨rfl, _, rfl, rfl, ⟨Below.refl _ _, noJ_post _ _ _⟩⟩
    simp only [Act.put, List.setIfInBounds_toArray, List.set_cons_succ, List.set_cons_zero]
    apply free_val (by rfl)
    · intro W hE hp hF; obtain ⟨hcE, hfE, hnE⟩ := bcell hE; have hsE := hE.size; unfold opOb; go_wp2_with fail; exact ⟨rfl, _, rfl, rfl, ⟨Below.refl _ _, noJ_post _ _ _⟩⟩
    simp only [Act.put, List.setIfInBounds_toArray, List.set_cons_succ, List.set_cons_zero]
    apply free_val (by rfl)
    · intro W hE hp hF; obtain ⟨hcE, hfE, hnE⟩ := bcell hE; have hsE := hE.size; unfold opOb; go_wp2_with fail; exact ⟨rfl, _, rfl, rfl, ⟨Below.refl _ _, noJ_post _ _ _⟩⟩
    simp only [Act.put, List.setIfInBounds_toArray, List.set_cons_succ, List.set_cons_zero]
    apply free_val (by rfl)
    · intro W hE hp hF; obtain ⟨hcE, hfE, hnE⟩ := bcell hE; have hsE := hE.size; unfold opOb; go_wp2_with fail; (go_at_call 26; refine (decimal_any _ _ (HT.out.to hE) (by omega) (by omega)).mono ?_; rintro e WX ⟨rfl, hbX⟩); go_wp2_with fail; exact ⟨rfl, _, rfl, rfl, ⟨hbX, noJ_post _ _ _⟩⟩
    simp only [Act.put, List.setIfInBounds_toArray, List.set_cons_succ, List.set_cons_zero]
    apply free_val (by rfl)
    · intro W hE hp hF; obtain ⟨hcE, hfE, hnE⟩ := bcell hE; have hsE := hE.size; unfold opOb; go_wp2_with fail; exact ⟨rfl, _, rfl, rfl, ⟨Below.refl _ _, noJ_post _ _ _⟩⟩
    simp only [Act.put, List.setIfInBounds_toArray, List.set_cons_succ, List.set_cons_zero]
    apply free_val (by rfl)
    · intro W hE hp hF; obtain ⟨hcE, hfE, hnE⟩ := bcell hE; have hsE := hE.size; unfold opOb; go_wp2_with fail; exact ⟨rfl, _, rfl, rfl, ⟨Below.refl _ _, noJ_post _ _ _⟩⟩
    simp only [Act.put, List.setIfInBounds_toArray, List.set_cons_succ, List.set_cons_zero]
    apply free_val (by rfl)
    · intro W hE hp hF; obtain ⟨hcE, hfE, hnE⟩ := bcell hE; have hsE := hE.size; unfold opOb; go_wp2_with fail; exact ⟨rfl, _, rfl, rfl, ⟨Below.refl _ _, noJ_post _ _ _⟩⟩
    simp only [Act.put, List.setIfInBounds_toArray, List.set_cons_succ, List.set_cons_zero]
    apply free_end
    intro w9 hEw9 hJF hGF
    clear hJF
    obtain ⟨BX11, rfl, rowX11⟩ := hGF.1.2
    obtain ⟨BX12, rfl, rowX12⟩ := hGF.2
    clear hGF
    go_wp2_with fail
    refine normal_of ?_
    go_wp2_with fail
    go_ret2
    exact ⟨rfl, hw2.trans (hEw9.mono hw2.size)⟩
end Go.Proofs.YtmfahekkcgnndaaDoor
