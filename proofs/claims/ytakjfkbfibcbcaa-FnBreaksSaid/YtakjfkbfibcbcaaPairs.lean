/- Contracts over lists of rows of two ints ([][]int): eq, mark, held. -/
import Derived.Test.YtakjfkbfibcbcaaInts
import Derived.Test.YtakjfkbfibcbcaaFree
set_option linter.unusedSimpArgs false
set_option linter.unusedVariables false
namespace Go.Proofs.Ytakjfkbfibcbcaa
open Go.RowKit Go.Sort Go.Salt
attribute [local go_sem] cell_rg
def gsV (gs : List Nat) : List Value := gs.map fun g => .slice (some ⟨g, 0, none⟩) 2 2
theorem gsV_len (gs : List Nat) : (gsV gs).length = gs.length := by simp [gsV]
theorem gsV_cell {w : World} {g : Nat} {E : TypeId} {l : List Nat} (h : Row w g E (gsV l)) {j : Nat} (hj : j < l.length) : w.cell? ⟨g, j, none⟩ = some (.slice (some ⟨el l j, 0, none⟩) 2 2) := by
  have := h.cell (j := j) (by rw [gsV_len]; exact hj)
  rw [this]; simp [gsV, el, hj]
/-- The inner rows: each a block of its own from base on, in rising order. -/
def Inn (w : World) (base : Nat) (n : Nat) (cs : Nat → List Value) (gs : List Nat) : Prop :=
  gs.length = n ∧ (∀ i, i < n → base ≤ el gs i ∧ Row w (el gs i) 3 (cs i)) ∧ (∀ i j, i < j → j < n → el gs i < el gs j)
def SSG (w : World) (base : Nat) (A : Option Addr) (n : Nat) (cs : Nat → List Value) (gs : List Nat) : Prop :=
  Inn w base n cs gs ∧ OwnAt w base 56 (gsV gs) n A ∧ ∀ g, A = some ⟨g, 0, none⟩ → ∀ i, i < n → el gs i ≠ g
def SSAt (w : World) (base : Nat) (A : Option Addr) (n : Nat) (cs : Nat → List Value) : Prop := ∃ gs, SSG w base A n cs gs
theorem Inn.to {w w' : World} {base n : Nat} {cs : Nat → List Value} {gs : List Nat} (h : Inn w base n cs gs) (hb : Below w.heap.size w w') : Inn w' base n cs gs :=
  ⟨h.1, fun i hi => ⟨(h.2.1 i hi).1, (h.2.1 i hi).2.to hb⟩, h.2.2⟩
theorem SSG.to {w w' : World} {base n : Nat} {A : Option Addr} {cs : Nat → List Value} {gs : List Nat} (h : SSG w base A n cs gs) (hb : Below w.heap.size w w') : SSG w' base A n cs gs :=
  ⟨h.1.to hb, h.2.1.to hb, h.2.2⟩
theorem SSAt.to {w w' : World} {base n : Nat} {A : Option Addr} {cs : Nat → List Value} (h : SSAt w base A n cs) (hb : Below w.heap.size w w') : SSAt w' base A n cs := by
  obtain ⟨gs, h⟩ := h
  exact ⟨gs, h.to hb⟩
theorem SSAt.other {w w' : World} {base n g' : Nat} {A : Option Addr} {cs : Nat → List Value} (h : SSAt w base A n cs) (hg : w.grownBy w' (some g')) (hlt : g' < base) : SSAt w' base A n cs := by
  obtain ⟨gs, h1, h2, h3⟩ := h
  exact ⟨gs, ⟨h1.1, fun i hi => ⟨(h1.2.1 i hi).1, (h1.2.1 i hi).2.grown hg (by have := (h1.2.1 i hi).1; simp; omega)⟩, h1.2.2⟩, h2.other hg hlt, h3⟩
theorem SSG.congr {w : World} {base n : Nat} {A : Option Addr} {cs ds : Nat → List Value} {gs : List Nat} (h : SSG w base A n cs gs) (he : ∀ i, i < n → cs i = ds i) : SSG w base A n ds gs :=
  ⟨⟨h.1.1, fun i hi => ⟨(h.1.2.1 i hi).1, he i hi ▸ (h.1.2.1 i hi).2⟩, h.1.2.2⟩, h.2.1, h.2.2⟩
theorem Inn.ne {w : World} {base n : Nat} {cs : Nat → List Value} {gs : List Nat} (h : Inn w base n cs gs) {i k : Nat} (hi : i < n) (hk : k < n) (hne : i ≠ k) : el gs i ≠ el gs k := by
  rcases Nat.lt_or_ge i k with hlt | hge
  · have := h.2.2 i k hlt hk; omega
  · have := h.2.2 k i (by omega) hi; omega
theorem SSG.mark {w w' : World} {base n k : Nat} {A : Option Addr} {cs : Nat → List Value} {gs : List Nat} {ds : List Value} (h : SSG w base A n cs gs) (hk : k < n) (hg : w.grownBy w' (some (el gs k))) (hr : Row w' (el gs k) 3 ds) :
    SSG w' base A n (fun i => if i = k then ds else cs i) gs := by
  obtain ⟨h1, h2, h3⟩ := h
  refine ⟨⟨h1.1, fun i hi => ⟨(h1.2.1 i hi).1, ?_⟩, h1.2.2⟩, ?_, h3⟩
  · show Row w' (el gs i) _ (if i = k then ds else cs i)
    by_cases hik : i = k
    · subst hik; rw [if_pos rfl]; exact hr
    · rw [if_neg hik]; exact (h1.2.1 i hi).2.grown hg (by simpa using h1.ne hi hk hik)
  · rcases h2 with h2 | ⟨g, e, hb, hrow⟩
    · exact .inl h2
    · exact .inr ⟨g, e, hb, hrow.grown hg (by have := h3 g e k hk; simp; omega)⟩
set_option maxHeartbeats 400000 in
theorem eqIntS_two (g g' : Nat) (a b : Int) (w : World) (h : Row w g 3 [.int .i64 a, .int .i64 b]) (h' : Row w g' 3 [.int .i64 a, .int .i64 b]) :
    Calls Try.prog 42 #[.slice (some ⟨g, 0, none⟩) 2 2, .slice (some ⟨g', 0, none⟩) 2 2] w fun e w' => e = .returned (.bool true) ∧ Below w.heap.size w w' :=
  eqIntS_same (some ⟨g, 0, none⟩) (some ⟨g', 0, none⟩) 2 2 [a, b] w (Row.rd (xs := [a, b]) (enc := ie) h ie_len h.lt) (Row.rd (xs := [a, b]) (enc := ie) h' ie_len h'.lt) (by simp)
def prC (f g : Nat → Int) (i : Nat) : List Value := [.int .i64 (f i), .int .i64 (g i)]
set_option maxHeartbeats 4000000 in
theorem eqIntSS_same (A A' : Option Addr) (c c' n b1 b2 : Nat) (f g : Nat → Int) (w : World) (h : SSAt w b1 A n (prC f g)) (h' : SSAt w b2 A' n (prC f g)) (hx : n ≤ 1048576) :
    Calls Try.prog 53 #[.slice A n c, .slice A' n c'] w fun e w' => e = .returned (.bool true) ∧ Below w.heap.size w w' := by
  obtain ⟨gs, h⟩ := h
  obtain ⟨gs', h'⟩ := h'
  replace h := Lib.hid h
  replace h' := Lib.hid h'
  go_enter Try.func53, Try.ntmps53
  go_wp2
  go_loopw [5] (fun i wr => ∃ k : Nat, k ≤ n ∧ i = .int .i64 k ∧ Below w.heap.size w wr) (fun i _ => n - (intOf i).toNat)
  case atStart => exact ⟨0, Nat.zero_le _, rfl, Below.refl _ _⟩
  case round =>
    obtain ⟨k, hk, rfl, hb⟩ := hrel
    by_cases hlt : k < n
    · have hs := hb.size
      obtain ⟨p1, p2, _⟩ := h.out
      obtain ⟨p1', p2', _⟩ := h'.out
      rcases p2 with ⟨_, e0, _⟩ | ⟨B, rfl, _, hr⟩
      · omega
      rcases p2' with ⟨_, e0, _⟩ | ⟨B', rfl, _, hr'⟩
      · omega
      have c0 := gsV_cell (hr.to hb) (j := k) (by rw [p1.1]; exact hlt)
      have d0 := gsV_cell (hr'.to hb) (j := k) (by rw [p1'.1]; exact hlt)
      have q0 := Lib.hid ((p1.2.1 k hlt).2.to hb)
      have q0' := Lib.hid ((p1'.2.1 k hlt).2.to hb)
      have hB1 : B < wr.heap.size := (hr.to hb).lt
      have hB2 : B' < wr.heap.size := (hr'.to hb).lt
      clear hr hr' p1 p1'
      have hI : (k : Int) < n := by omega
      have hI0 : (0 : Int) ≤ k := by omega
      obtain ⟨x, hx1⟩ : ∃ x, el gs k = x := ⟨_, rfl⟩
      obtain ⟨y, hy1⟩ : ∃ y, el gs' k = y := ⟨_, rfl⟩
      rw [hx1] at c0 q0
      rw [hy1] at d0 q0'
      clear hx1 hy1
      go_wp2_with fail
      apply wp_region_chain 9 [] [] noJ (fun W W' => Below W.heap.size W W') [Sum.inl _, Sum.inl _, Sum.inl _, Sum.inl _, Sum.inl _, Sum.inl _, Sum.inl _, Sum.inl _, Sum.inl _] (by kernel_rfl) (by kernel_rfl) (fun _ _ _ => below_trans) (below_draw _) trivial ?_
      rotate_left 9
      simp only [List.take_succ_cons, List.take_zero, List.drop_succ_cons, List.drop_zero]
      apply free_val (by rfl)
      · intro W hE hp hF; obtain ⟨hcE, hfE, hnE⟩ := bcell hE; have hsE := hE.size; unfold opOb; go_wp2_with fail; exact ⟨rfl, _, rfl, rfl, ⟨Below.refl _ _, noJ_post _ _ _⟩⟩
      simp only [Act.put, List.setIfInBounds_toArray, List.set_cons_succ, List.set_cons_zero]
      apply free_val (by rfl)
      · intro W hE hp hF; obtain ⟨hcE, hfE, hnE⟩ := bcell hE; have hsE := hE.size; unfold opOb; go_wp2_with fail; exact ⟨rfl, _, rfl, rfl, ⟨Below.refl _ _, noJ_post _ _ _⟩⟩
      simp only [Act.put, List.setIfInBounds_toArray, List.set_cons_succ, List.set_cons_zero]
      apply free_val (by rfl)
      · intro W hE hp hF; obtain ⟨hcE, hfE, hnE⟩ := bcell hE; have hsE := hE.size; unfold opOb; go_wp2_with fail; exact ⟨rfl, _, rfl, rfl, ⟨Below.refl _ _, noJ_post _ _ _⟩⟩
      simp only [Act.put, List.setIfInBounds_toArray, List.set_cons_succ, List.set_cons_zero]
      apply free_val (by rfl)
      · intro W hE hp hF; obtain ⟨hcE, hfE, hnE⟩ := bcell hE; have hsE := hE.size; unfold opOb; go_wp2_with fail; exact ⟨rfl, _, rfl, rfl, ⟨Below.refl _ _, noJ_post _ _ _⟩⟩
      simp only [Act.put, List.setIfInBounds_toArray, List.set_cons_succ, List.set_cons_zero]
      apply free_val (by rfl)
      · intro W hE hp hF; obtain ⟨hcE, hfE, hnE⟩ := bcell hE; have hsE := hE.size; unfold opOb; go_wp2_with fail; exact ⟨rfl, _, rfl, rfl, ⟨Below.refl _ _, noJ_post _ _ _⟩⟩
      simp only [Act.put, List.setIfInBounds_toArray, List.set_cons_succ, List.set_cons_zero]
      apply free_val (by rfl)
      · intro W hE hp hF; obtain ⟨hcE, hfE, hnE⟩ := bcell hE; have hsE := hE.size; unfold opOb; go_wp2_with fail; exact ⟨rfl, _, rfl, rfl, ⟨Below.refl _ _, noJ_post _ _ _⟩⟩
      simp only [Act.put, List.setIfInBounds_toArray, List.set_cons_succ, List.set_cons_zero]
      apply free_val (by rfl)
      · intro W hE hp hF; obtain ⟨hcE, hfE, hnE⟩ := bcell hE; have hsE := hE.size; unfold opOb; go_wp2_with fail; exact ⟨rfl, _, rfl, rfl, ⟨Below.refl _ _, noJ_post _ _ _⟩⟩
      simp only [Act.put, List.setIfInBounds_toArray, List.set_cons_succ, List.set_cons_zero]
      apply free_val (by rfl)
      · intro W hE hp hF; obtain ⟨hcE, hfE, hnE⟩ := bcell hE; have hsE := hE.size; unfold opOb; go_wp2_with fail; exact ⟨rfl, _, rfl, rfl, ⟨Below.refl _ _, noJ_post _ _ _⟩⟩
      simp only [Act.put, List.setIfInBounds_toArray, List.set_cons_succ, List.set_cons_zero]
      apply free_val (by rfl)
      · intro W hE hp hF; obtain ⟨hcE, hfE, hnE⟩ := bcell hE; have hsE := hE.size; unfold opOb; go_wp2_with fail; (go_at_call 42; refine (eqIntS_two _ _ _ _ _ (q0.out.to hE) (q0'.out.to hE)).mono ?_; rintro e WX ⟨rfl, hbX⟩); go_wp2_with fail; exact ⟨rfl, _, rfl, rfl, ⟨hbX, noJ_post _ _ _⟩⟩
      simp only [Act.put, List.setIfInBounds_toArray, List.set_cons_succ, List.set_cons_zero]
      apply free_end
      intro w1 hEw1 hJF hGF
      clear hJF
      clear hGF
      have hs1 := hEw1.size
      go_wp2_with fail
      refine normal_of ?_
      go_wp2_with fail
      go_roundw
      case rel => exact ⟨k + 1, by omega, by go_num, hb.trans (hEw1.mono (by omega))⟩
      case measure => simp [intOf]; omega
    · go_wp2
      go_ret
      exact ⟨rfl, hb⟩
set_option maxHeartbeats 4000000 in
theorem markIntSS_own (A : Option Addr) (c n : Nat) (cs : Nat → List Value) (base : Nat) (w : World) (h : SSAt w base A n cs) (hl : ∀ i, (cs i).length = 2) (hn : n ≤ 2097152) (hB : base ≤ w.heap.size) :
    Calls Try.prog 54 #[.slice A n c, .int .i64 1] w fun e w' => e = .returned (.int .i64 (mkz n 2)) ∧ SSAt w' base A n (fun i => nums (1 + 2 * (i : Int)) 2) ∧ True ∧ Below base w w' := by
  obtain ⟨gs, h⟩ := h
  replace hl := Lib.hid hl
  go_enter Try.func54, Try.ntmps54
  go_wp2
  go_loopw [1, 5] (fun x i wr => ∃ k : Nat, k ≤ n ∧ i = .int .i64 k ∧ x = .int .i64 (1 + 2 * (k : Int)) ∧ Hid (SSG wr base A n (fun i => if i < k then nums (1 + 2 * (i : Int)) 2 else cs i) gs) ∧ Below base w wr) (fun _ i _ => n - (intOf i).toNat)
  case atStart => exact ⟨0, Nat.zero_le _, rfl, by first | rfl | simp, by simpa [Hid] using h, Below.refl _ _⟩
  case round =>
    clear h
    obtain ⟨k, hk, rfl, rfl, h, hb⟩ := hrel
    have hs := hb.size
    by_cases hlt : k < n
    · obtain ⟨p1, p2, _⟩ := h.out
      rcases p2 with ⟨_, e0, _⟩ | ⟨B, rfl, _, hr⟩
      · omega
      have c0 := gsV_cell hr (j := k) (by rw [p1.1]; exact hlt)
      have q0 := (p1.2.1 k hlt).2
      have qb := (p1.2.1 k hlt).1
      simp only [if_neg (Nat.lt_irrefl k)] at q0
      replace q0 := Lib.hid q0
      clear hr p1
      have hI : (k : Int) < n := by omega
      have hI0 : (0 : Int) ≤ k := by omega
      go_wp2_with fail
      refine (markIntS_row (el gs k) 2 2 (1 + 2 * (k : Int)) (cs k) wr q0.out (hl.out k) (by omega) (by omega) (by omega)).mono ?_
      rintro e w1 ⟨rfl, r1, g1⟩
      have hs1 := g1.size
      have hm := Lib.hid (h.out.mark hlt g1 r1)
      go_wp2_with fail
      go_roundw
      case rel => exact ⟨k + 1, by omega, by go_num, by first | go_num | (congr 1; done) | (congr 1; omega), hm.out.congr (fun i hi => by
        by_cases h1 : i = k
        · subst h1; simp
        · by_cases h2 : i < k
          · simp [h1, h2, show i < k + 1 by omega]
          · simp [h1, h2, show ¬ i < k + 1 by omega]), hb.trans (grown_below g1 qb (by omega))⟩
      case measure => simp [intOf]; omega
    · obtain rfl : k = n := by omega
      go_wp2_with fail
      go_ret
      exact ⟨by simp [mkz]; omega, ⟨gs, h.out.congr (fun i hi => by simp [hi])⟩, trivial, hb⟩
set_option maxHeartbeats 4000000 in
theorem heldIntSS_own (A : Option Addr) (c n base : Nat) (w : World) (h : SSAt w base A n (fun i => nums (1 + 2 * (i : Int)) 2)) (hn : n ≤ 2097152) :
    Calls Try.prog 55 #[.slice A n c, .int .i64 1] w fun e w' => e = .returned (.int .i64 (mkz n 2)) ∧ w = w' := by
  obtain ⟨gs, h⟩ := h
  replace h := Lib.hid h
  go_enter Try.func55, Try.ntmps55
  go_wp2
  go_loopw [1, 5] (fun x i wr => ∃ k : Nat, k ≤ n ∧ i = .int .i64 k ∧ x = .int .i64 (1 + 2 * (k : Int)) ∧ w = wr) (fun _ i _ => n - (intOf i).toNat)
  case atStart => exact ⟨0, Nat.zero_le _, rfl, by first | rfl | simp, rfl⟩
  case round =>
    obtain ⟨k, hk, rfl, rfl, rfl⟩ := hrel
    by_cases hlt : k < n
    · obtain ⟨p1, p2, _⟩ := h.out
      rcases p2 with ⟨_, e0, _⟩ | ⟨B, rfl, _, hr⟩
      · omega
      have c0 := gsV_cell hr (j := k) (by rw [p1.1]; exact hlt)
      have q0 := (p1.2.1 k hlt).2
      replace q0 := Lib.hid q0
      clear hr p1
      have hI : (k : Int) < n := by omega
      have hI0 : (0 : Int) ≤ k := by omega
      go_wp2_with fail
      refine (heldIntS_row (el gs k) 2 2 (1 + 2 * (k : Int)) w q0.out (by omega) (by omega) (by omega)).mono ?_
      rintro e w1 ⟨rfl, rfl⟩
      go_wp2_with fail
      go_roundw
      case rel => exact ⟨k + 1, by omega, by go_num, by first | go_num | (congr 1; done) | (congr 1; omega), by first | rfl | trivial⟩
      case measure => simp [intOf]; omega
    · obtain rfl : k = n := by omega
      go_wp2_with fail
      go_ret
      exact ⟨by simp [mkz]; omega, rfl⟩
end Go.Proofs.Ytakjfkbfibcbcaa
