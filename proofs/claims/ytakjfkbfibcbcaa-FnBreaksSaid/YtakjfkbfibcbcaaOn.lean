/- Contracts: to which breaks workers go (chapter 23). -/
import Derived.Test.YtakjfkbfibcbcaaDays
import Derived.Test.YtakjfkbfibcbcaaPairs
import Derived.Test.YtakjfkbfibcbcaaFree
set_option linter.unusedSimpArgs false
set_option linter.unusedVariables false
namespace Go.Proofs.Ytakjfkbfibcbcaa
open Go.RowKit Go.Sort Go.Salt
attribute [local go_sem] cell_rg
theorem ints_info : (Try.prog.info? 56).map (fun i => (i.zero, i.size, i.bytes)) = some (some (.slice none 0 0), 1, 24) := by kernel_rfl
theorem el_appl {α : Type} [Inhabited α] {l : List α} {x : α} {i : Nat} (h : i < l.length) : el (l ++ [x]) i = el l i := by
  rw [el_get (by simp; omega), el_get h]; exact List.getElem_append_left h
theorem el_appr {α : Type} [Inhabited α] {l : List α} {x : α} : el (l ++ [x]) l.length = x := by
  rw [el_get (by simp)]; simp
theorem own_lt {W : World} {base size n : Nat} {E : TypeId} {v : Value} {cs : List Value} (h : W.ownsRow base E size v n cs) : ∀ k, v.ownBlock = some k → k < W.heap.size := fun k hk => by
  rcases h.2 with ⟨rfl, _⟩ | ⟨g, cap, cur, rfl, hg, hh, _⟩
  · simp [Value.ownBlock] at hk
  · simp [Value.ownBlock] at hk
    subst hk
    rcases Nat.lt_or_ge g W.heap.size with h | h
    · exact h
    · rw [Array.getElem?_eq_none h] at hh; cases hh
theorem Inn.nil {w : World} {base : Nat} {cs : Nat → List Value} : Inn w base 0 cs [] := ⟨rfl, fun i hi => absurd hi (by omega), fun i j _ hj => absurd hj (by omega)⟩
theorem push_inn {wr W w9 : World} {base n size m : Nat} {E : TypeId} {v v9 : Value} {xs : List Value} {gs : List Nat} {cs cs' : Nat → List Value} {g : Nat} {ds : List Value}
    (hI : Inn wr base n cs gs) (hown : wr.ownsRow base E size v m xs) (hvb : ∀ i, i < n → v.ownBlock ≠ some (el gs i))
    (hb : Below wr.heap.size wr W) (hr : Row W g 3 ds) (hg : wr.heap.size ≤ g) (hgb : base ≤ g) (hgrow : W.grownBy w9 v.ownBlock) (hat : v9.ownBlock = v.ownBlock ∨ v9.ownBlock = some W.heap.size)
    (hcs : ∀ i, i < n → cs' i = cs i) (hds : cs' n = ds) : Inn w9 base (n + 1) cs' (gs ++ [g]) ∧ ∀ i, i < n + 1 → v9.ownBlock ≠ some (el (gs ++ [g]) i) := by
  obtain ⟨hl, h1, h2⟩ := hI
  have hgl := hr.lt
  have hvg : v.ownBlock ≠ some g := fun h => by have := own_lt hown g h; omega
  have hold : ∀ i, i < n → el (gs ++ [g]) i = el gs i := fun i hi => el_appl (by omega)
  have hnew : el (gs ++ [g]) n = g := by rw [← hl]; exact el_appr
  refine ⟨⟨by simp [hl], fun i hi => ?_, fun i j hij hj => ?_⟩, fun i hi => ?_⟩
  · rcases Nat.lt_or_ge i n with hin | hin
    · rw [hold i hin, hcs i hin]
      exact ⟨(h1 i hin).1, ((h1 i hin).2.to hb).grown hgrow (fun h => hvb i hin h.symm)⟩
    · obtain rfl : i = n := by omega
      rw [hnew, hds]
      exact ⟨hgb, hr.grown hgrow (fun h => hvg h.symm)⟩
  · rcases Nat.lt_or_ge j n with hjn | hjn
    · rw [hold i (by omega), hold j hjn]; exact h2 i j hij hjn
    · obtain rfl : j = n := by omega
      rw [hold i hij, hnew]
      have := (h1 i hij).2.lt
      omega
  · rcases Nat.lt_or_ge i n with hin | hin
    · rw [hold i hin]
      have hlt := (h1 i hin).2.lt
      have hbs := hb.size
      rcases hat with h | h
      · rw [h]; exact hvb i hin
      · rw [h]; simp; omega
    · obtain rfl : i = n := by omega
      rw [hnew]
      rcases hat with h | h
      · rw [h]; exact hvg
      · rw [h]; simp; omega
def MadeSS (w : World) (n : Nat) (cs : Nat → List Value) (K : Value → Ending) (e : Ending) (w' : World) : Prop :=
  ∃ A c, e = K (.slice A n c) ∧ SSAt w' w.heap.size A n cs ∧ Below w.heap.size w w'
theorem MadeSS.cast {w w' : World} {n n' : Nat} {cs cs' : Nat → List Value} {K K' : Value → Ending} {e e' : Ending} (h : MadeSS w n cs K e w') (h2 : n = n') (h1 : cs = cs') (h3 : K = K') (h4 : e = e') : MadeSS w n' cs' K' e' w' := by subst h1; subst h2; subst h3; subst h4; exact h
theorem SSAt.of_own {w : World} {base b' n size : Nat} {v : Value} {cs : Nat → List Value} {gs : List Nat} (hown : w.ownsRow base 56 size v n (gsV gs)) (hI : Inn w base n cs gs) (hvb : ∀ i, i < n → v.ownBlock ≠ some (el gs i)) (hb : b' ≤ base) :
    ∃ A c, v = .slice A n c ∧ SSAt w b' A n cs := by
  obtain ⟨A, c, rfl, ho⟩ := OwnAt.of_own hown
  refine ⟨A, c, rfl, gs, ⟨hI.1, fun i hi => ⟨Nat.le_trans hb (hI.2.1 i hi).1, (hI.2.1 i hi).2⟩, hI.2.2⟩, ho.mono hb, ?_⟩
  rintro g rfl i hi he
  exact hvb i hi (by simp [Value.ownBlock, he])
theorem MadeSS.empty {w w1 : World} {g : Nat} {cs : Nat → List Value} (K : Value → Ending) (hg : w.heap.size ≤ g) (h : w1.heap[g]? = some (.cells #[] 56 (0, 0))) (hb : Below w.heap.size w w1) : MadeSS w 0 cs K (K (.slice (some ⟨g, 0, none⟩) 0 0)) w1 := by
  obtain ⟨A9, c9, e9, ho⟩ := SSAt.of_own (cs := cs) (own_empty (W := w1) (E := 56) 1 hg h) Inn.nil (fun i hi => absurd hi (by omega)) (Nat.le_refl _)
  exact ⟨A9, c9, by rw [e9], ho, hb⟩
/-- Those of the order that get workers. -/
def pO (xs : List Brk) (W : Int) (os : List Nat) (k : Nat) : List Nat := (os.take k).filter fun i => decide (0 < el (wkL xs W) i)
theorem pO_yes {xs : List Brk} {W : Int} {os : List Nat} {k i : Nat} (h : k < os.length) (hi : el os k = i) (hm : 0 < el (wkL xs W) i) : pO xs W os (k + 1) = pO xs W os k ++ [i] := by
  simp only [pO]; rw [take_el h, List.filter_append, hi]; simp [hm]
theorem pO_no {xs : List Brk} {W : Int} {os : List Nat} {k i : Nat} (h : k < os.length) (hi : el os k = i) (hm : ¬ 0 < el (wkL xs W) i) : pO xs W os (k + 1) = pO xs W os k := by
  simp only [pO]; rw [take_el h, List.filter_append, hi]; simp; omega
theorem pO_len (xs : List Brk) (W : Int) (os : List Nat) (k : Nat) : (pO xs W os k).length ≤ os.length := by
  refine Nat.le_trans (List.length_filter_le _ _) ?_
  simp; omega
def pC (xs : List Brk) (W : Int) (L : List Nat) : Nat → List Value := prC (fun i => (el xs (el L i)).i) (fun i => el (wkL xs W) (el L i))
def woL (xs : List Brk) (W : Int) : List Nat := if ndB xs W = true then pO xs W (needO xs xs.length) (needO xs xs.length).length else []
theorem woL_len (xs : List Brk) (W : Int) : (woL xs W).length ≤ xs.length := by
  unfold woL; split
  · exact Nat.le_trans (pO_len _ _ _ _) (needO_len _ _)
  · simp
set_option maxRecDepth 100000 in
set_option maxHeartbeats 8000000 in
theorem iWorkersOn_any (A : Option Addr) (c : Nat) (xs : List Brk) (W : Int) (w : World) (h : Rd w w.heap.size A 6 Brk.enc xs) (hx : xs.length ≤ 1048576) :
    Calls Try.prog 52 #[.slice A xs.length c, .int .i64 W] w fun e w' => MadeSS w (woL xs W).length (pC xs W (woL xs W)) (fun v => .returned (.tuple #[v, .bool (ndB xs W)])) e w' := by
  cases hG0 : brksOK xs
  · have hq : ndB xs W = false := by simp [ndB, hG0]
    go_enter Try.func52, Try.ntmps52
    go_wp2_with fail
    (go_at_call 25; refine (areBreaks_any _ _ _ _ h hx).mono ?_; rintro e w1 ⟨rfl, hb1⟩)
    (have hs1 := hb1.size; (try simp at hs1); obtain ⟨hc1, hf1, hn1⟩ := bcell hb1; (try have hz1_w_0 : w.heap.size < w1.heap.size := by omega); (try have hz1_w_1 : w.heap.size + 1 < w1.heap.size := by omega); (try have hz1_w_2 : w.heap.size + 2 < w1.heap.size := by omega); (try have hz1_w_2b : w.heap.size + 1 + 1 < w1.heap.size := by omega))
    go_wp2_with fail
    go_ret2
    exact MadeSS.cast (show MadeSS w 0 (pC xs W []) (fun v => .returned (.tuple #[v, .bool false])) _ _ from ⟨none, 0, rfl, ⟨[], ⟨Inn.nil, OwnAt.none_, fun g hg => by cases hg⟩⟩, (by repeat' (first | (with_reducible exact Below.refl _ _) | (with_reducible refine Below.alloc ?_ ?_ _) | (with_reducible refine Below.setCell ?_ ?_ _) | (with_reducible refine Below.drew ?_) | (with_reducible refine Below.trans ?_ (Below.mono (by with_reducible assumption) ?_)) | omega | (simp; done) | (simp; omega)))⟩) (by simp [woL, hq]) (by simp [woL, hq]) (by rw [hq]) rfl
  · cases hG1 : inB W 0 40
    · have hq : ndB xs W = false := by simp [ndB, hG0, hG1]
      go_enter Try.func52, Try.ntmps52
      go_wp2_with (first | (go_at_call 80; refine (isWorkerCount_any _ _).mono ?_; rintro e wX ⟨rfl, rfl⟩))
      (go_at_call 25; refine (areBreaks_any _ _ _ _ h hx).mono ?_; rintro e w1 ⟨rfl, hb1⟩)
      (have hs1 := hb1.size; (try simp at hs1); obtain ⟨hc1, hf1, hn1⟩ := bcell hb1; (try have hz1_w_0 : w.heap.size < w1.heap.size := by omega); (try have hz1_w_1 : w.heap.size + 1 < w1.heap.size := by omega); (try have hz1_w_2 : w.heap.size + 2 < w1.heap.size := by omega); (try have hz1_w_2b : w.heap.size + 1 + 1 < w1.heap.size := by omega))
      go_wp2_with (first | (go_at_call 80; refine (isWorkerCount_any _ _).mono ?_; rintro e wX ⟨rfl, rfl⟩))
      go_ret2
      exact MadeSS.cast (show MadeSS w 0 (pC xs W []) (fun v => .returned (.tuple #[v, .bool false])) _ _ from ⟨none, 0, rfl, ⟨[], ⟨Inn.nil, OwnAt.none_, fun g hg => by cases hg⟩⟩, (by repeat' (first | (with_reducible exact Below.refl _ _) | (with_reducible refine Below.alloc ?_ ?_ _) | (with_reducible refine Below.setCell ?_ ?_ _) | (with_reducible refine Below.drew ?_) | (with_reducible refine Below.trans ?_ (Below.mono (by with_reducible assumption) ?_)) | omega | (simp; done) | (simp; omega)))⟩) (by simp [woL, hq]) (by simp [woL, hq]) (by rw [hq]) rfl
    · have hq : ndB xs W = true := by simp [ndB, hG0, hG1]
      have hbd := brksOK_bd hG0
      have hv := Lib.hid (ok6_of hbd.2)
      have hn := hbd.1
      have hW := inB_iff.1 hG1
      clear hbd
      obtain ⟨i0, hi, hz0, hz1, hz2⟩ := info_parts ints_info
      have hinfo := Lib.hid (And.intro hi (And.intro hz0 (And.intro hz1 hz2)))
      clear hi hz0 hz1 hz2
      go_enter Try.func52, Try.ntmps52
      go_wp2_with (first | (go_at_call 80; refine (isWorkerCount_any _ _).mono ?_; rintro e wX ⟨rfl, rfl⟩))
      (go_at_call 25; refine (areBreaks_any _ _ _ _ h hx).mono ?_; rintro e w1 ⟨rfl, hb1⟩)
      (have hs1 := hb1.size; (try simp at hs1); obtain ⟨hc1, hf1, hn1⟩ := bcell hb1; (try have hz1_w_0 : w.heap.size < w1.heap.size := by omega); (try have hz1_w_1 : w.heap.size + 1 < w1.heap.size := by omega); (try have hz1_w_2 : w.heap.size + 2 < w1.heap.size := by omega); (try have hz1_w_2b : w.heap.size + 1 + 1 < w1.heap.size := by omega))
      go_wp2_with (first | (go_at_call 80; refine (isWorkerCount_any _ _).mono ?_; rintro e wX ⟨rfl, rfl⟩))
      refine (iWork_any A c xs W w1 (h.to hb1) (by omega) hv hW.1 hW.2).mono ?_
      rintro e w2 ⟨g2, rfl, hg2, row2, hb2⟩
      have hs2 := hb2.size
      have h2 := (h.to hb1).to hb2
      go_wp2_with fail
      refine (iNeed_any A c xs w2 h2 (by omega)).mono ?_
      rintro e w3 ⟨A3, c3, rfl, own3, hb3⟩
      have hs3 := hb3.size
      have h3 := Lib.hid (h2.to hb3)
      have row3 := Lib.hid (row2.to hb3)
      have hbw3 : Below w.heap.size w w3 := (hb1.trans (hb2.mono hs1)).trans (hb3.mono (by omega))
      have hon := needO_el xs
      have hnl := needO_len xs xs.length
      have hR : woL xs W = pO xs W (needO xs xs.length) (needO xs xs.length).length := by rw [woL, if_pos hq]
      obtain ⟨os, hos⟩ : ∃ os, needO xs xs.length = os := ⟨_, rfl⟩
      rw [hos] at hon hnl hR own3 ⊢
      clear hos hb1 hc1 hf1 hn1 hb2 hb3 h2 row2
      replace hon := Lib.hid hon
      replace hR := Lib.hid hR
      replace own3 := Lib.hid own3
      have hwl := wkL_len xs W
      have hwb := Lib.hid (wkL_bd hv.out hW.1 hW.2)
      go_wp2_with fail
      go_loopw [7, 24] (fun v i wr => ∃ (k : Nat) (gs : List Nat), k ≤ os.length ∧ i = .int .i64 k ∧ Hid (wr.ownsRow w3.heap.size 56 1 v (pO xs W os k).length (gsV gs)) ∧ Hid (Inn wr w3.heap.size (pO xs W os k).length (pC xs W (pO xs W os k)) gs) ∧ Hid (∀ i, i < (pO xs W os k).length → v.ownBlock ≠ some (el gs i)) ∧ Below w3.heap.size w3 wr) (fun _ i _ => os.length - (intOf i).toNat)
      case atStart => exact ⟨0, [], Nat.zero_le _, rfl, World.ownsRow_nil w3 w3.heap.size 56 1, Inn.nil, fun i hi => absurd hi (by simp [pO]), Below.refl _ _⟩
      case round =>
        obtain ⟨k, gs, hk, rfl, hown, hI, hvb, hb⟩ := hrel
        have hs := hb.size
        by_cases hlt : k < os.length
        · obtain ⟨g3, rfl, hg3, hlt3, q1⟩ := own_nat own3.out rfl hlt
          have hoi := hon.out k hlt
          have hpl := pO_len xs W os k
          obtain ⟨i, hi⟩ : ∃ i, el os k = i := ⟨_, rfl⟩
          have hsy := fun hm => pO_yes (xs := xs) (W := W) hlt hi hm
          have hsn := fun hm => pO_no (xs := xs) (W := W) hlt hi hm
          rw [hi] at hoi q1
          have q0 := (hb.cell (p := ⟨g3, k, none⟩) hlt3).trans q1
          have hl2 := row3.out.lt
          have q2 := intVals_cell (row3.out.to hb) (j := i) (by omega)
          obtain ⟨b, o, rfl, hB, e0, e1, e2, e3, e4, e5⟩ := brk_cells (h3.out.below hb) hoi
          obtain ⟨m, hm⟩ : ∃ m, el (wkL xs W) i = m := ⟨_, rfl⟩
          rw [hm] at q2 hsy hsn
          clear q1 hi e1 e2 e3 e4 e5
          have hB1 : b < wr.heap.size := by omega
          have hB2 : g2 < wr.heap.size := by omega
          have hB3 : g3 < wr.heap.size := by omega
          have hII : (k : Int) < os.length := by omega
          have hI0 : (0 : Int) ≤ k := by omega
          have hJ : (i : Int) < xs.length := by omega
          have hJ0 : (0 : Int) ≤ i := by omega
          by_cases hm0 : 0 < m
          · have hsu := Lib.hid (hsy hm0)
            clear hsy hsn
            go_wp2_with fail
            apply wp_region_chain 12 [] [] noJ (fun W W' => Below W.heap.size W W') [Sum.inl _, Sum.inl _, Sum.inl _, Sum.inl _, Sum.inl _, Sum.inl _, Sum.inl _, Sum.inl _, Sum.inl _, Sum.inl _, Sum.inr ((fun u W => ∃ g, u = .slice (some ⟨g, 0, none⟩) 2 2 ∧ wr.heap.size ≤ g ∧ Row W g 3 [.int .i64 (el xs i).i, .int .i64 m])), Sum.inr ((fun u W => ∃ g, u = .slice (some ⟨g, 0, none⟩) 1 1 ∧ wr.heap.size ≤ g ∧ ∃ h, Row W g 56 [.slice (some ⟨h, 0, none⟩) 2 2] ∧ wr.heap.size ≤ h ∧ Row W h 3 [.int .i64 (el xs i).i, .int .i64 m]))] (by kernel_rfl) (by kernel_rfl) (fun _ _ _ => below_trans) (below_draw _) trivial ?_
            rotate_left 10
            simp only [List.take_succ_cons, List.take_zero, List.drop_succ_cons, List.drop_zero]
            apply free_val (by rfl)
            · intro W hE hp hF; obtain ⟨hcE, hfE, hnE⟩ := bcell hE; have hsE := hE.size; unfold opOb; go_wp2_with fail; exact ⟨rfl, _, rfl, rfl, ⟨Below.refl _ _, noJ_post _ _ _⟩⟩
            simp only [Act.put, List.setIfInBounds_toArray, List.set_cons_succ, List.set_cons_zero]
            apply free_val (by rfl)
            · intro W hE hp hF; obtain ⟨hcE, hfE, hnE⟩ := bcell hE; have hsE := hE.size; unfold opOb; go_wp2_with fail; exact ⟨rfl, _, rfl, rfl, ⟨Below.refl _ _, noJ_post _ _ _⟩⟩
            simp only [Act.put, List.setIfInBounds_toArray, List.set_cons_succ, List.set_cons_zero]
            apply free_val (by rfl)
            · intro W hE hp hF; obtain ⟨hcE, hfE, hnE⟩ := bcell hE; have hsE := hE.size; unfold opOb; go_wp2_with fail; exact ⟨rfl, _, rfl, rfl, ⟨Below.refl _ _, noJ_post _ _ _⟩⟩
            simp only [Act.put, List.setIfInBounds_toArray, List.set_cons_succ, List.set_cons_zero]
            apply free_val (by rfl)
            · intro W hE hp hF; obtain ⟨hcE, hfE, hnE⟩ := bcell hE; have hsE := hE.size; unfold opOb; go_wp2_with fail; exact ⟨rfl, _, rfl, rfl, ⟨Below.refl _ _, noJ_post _ _ _⟩⟩
            simp only [Act.put, List.setIfInBounds_toArray, List.set_cons_succ, List.set_cons_zero]
            apply free_val (by rfl)
            · intro W hE hp hF; obtain ⟨hcE, hfE, hnE⟩ := bcell hE; have hsE := hE.size; unfold opOb; go_wp2_with fail; exact ⟨rfl, _, rfl, rfl, ⟨Below.refl _ _, noJ_post _ _ _⟩⟩
            simp only [Act.put, List.setIfInBounds_toArray, List.set_cons_succ, List.set_cons_zero]
            apply free_val (by rfl)
            · intro W hE hp hF; obtain ⟨hcE, hfE, hnE⟩ := bcell hE; have hsE := hE.size; unfold opOb; go_wp2_with fail; exact ⟨rfl, _, rfl, rfl, ⟨Below.refl _ _, noJ_post _ _ _⟩⟩
            simp only [Act.put, List.setIfInBounds_toArray, List.set_cons_succ, List.set_cons_zero]
            apply free_val (by rfl)
            · intro W hE hp hF; obtain ⟨hcE, hfE, hnE⟩ := bcell hE; have hsE := hE.size; unfold opOb; go_wp2_with fail; exact ⟨rfl, _, rfl, rfl, ⟨Below.refl _ _, noJ_post _ _ _⟩⟩
            simp only [Act.put, List.setIfInBounds_toArray, List.set_cons_succ, List.set_cons_zero]
            apply free_val (by rfl)
            · intro W hE hp hF; obtain ⟨hcE, hfE, hnE⟩ := bcell hE; have hsE := hE.size; unfold opOb; go_wp2_with fail; exact ⟨rfl, _, rfl, rfl, ⟨Below.refl _ _, noJ_post _ _ _⟩⟩
            simp only [Act.put, List.setIfInBounds_toArray, List.set_cons_succ, List.set_cons_zero]
            apply free_val (by rfl)
            · intro W hE hp hF; obtain ⟨hcE, hfE, hnE⟩ := bcell hE; have hsE := hE.size; unfold opOb; go_wp2_with fail; exact ⟨rfl, _, rfl, rfl, ⟨Below.refl _ _, noJ_post _ _ _⟩⟩
            simp only [Act.put, List.setIfInBounds_toArray, List.set_cons_succ, List.set_cons_zero]
            apply free_val (by rfl)
            · intro W hE hp hF; obtain ⟨hcE, hfE, hnE⟩ := bcell hE; have hsE := hE.size; unfold opOb; go_wp2_with fail; exact ⟨rfl, _, rfl, rfl, ⟨Below.refl _ _, noJ_post _ _ _⟩⟩
            simp only [Act.put, List.setIfInBounds_toArray, List.set_cons_succ, List.set_cons_zero]
            apply free_has (by rfl)
            · rintro u W W' hb ⟨gX1, rfl, hlX1, rowX1⟩; exact ⟨gX1, rfl, hlX1, (rowX1.to hb)⟩
            · intro W hE hp hF; obtain ⟨hcE, hfE, hnE⟩ := bcell hE; have hsE := hE.size; unfold opOb; go_wp2_with fail; exact ⟨rfl, _, rfl, ⟨_, rfl, (by first | omega | (simp; omega)), Row.new _ _ _⟩, ⟨(Below.refl _ _).alloc (Nat.le_refl _) _, noJ_post _ _ _⟩⟩
            intro uX1
            simp only [Act.put, List.setIfInBounds_toArray, List.set_cons_succ, List.set_cons_zero]
            apply free_has (by rfl)
            · rintro u W W' hb ⟨gX2, rfl, hlX2, hX2, rowX2, hkX2, ownX2⟩; exact ⟨gX2, rfl, hlX2, hX2, (rowX2.to hb), hkX2, (ownX2.to hb)⟩
            · intro W hE hp hF; obtain ⟨hcE, hfE, hnE⟩ := bcell hE; have hsE := hE.size; obtain ⟨gX1, rfl, hlX1, rowX1⟩ := hF.2 (by kernel_rfl); unfold opOb; go_wp2_with fail; exact ⟨rfl, _, rfl, ⟨_, rfl, (by first | omega | (simp; omega)), gX1, Row.new _ _ _, hlX1, rowX1.alloc _⟩, ⟨(Below.refl _ _).alloc (Nat.le_refl _) _, noJ_post _ _ _⟩⟩
            intro uX2
            simp only [Act.put, List.setIfInBounds_toArray, List.set_cons_succ, List.set_cons_zero]
            apply free_end
            intro w5 hEw5 hJF hGF
            clear hJF
            obtain ⟨gX1, rfl, hlX1, rowX1⟩ := hGF.1.2
            obtain ⟨gX2, rfl, hlX2, hX2, rowX2, hkX2, ownX2⟩ := hGF.2
            clear hGF
            have hs5 := hEw5.size
            have hown1 := Lib.hid (own_to hown.out hEw5)
            go_wp2_with (at_builtin; refine wpList_append_own_at _ rfl _ _ 63 rfl w3.heap.size 56 i0 _ 1 24 Try.underlying63 hinfo.out.1 hinfo.out.2.1 hinfo.out.2.2.1 hinfo.out.2.2.2 rfl (by decide) _ _ _ rfl hown1.out _ 1 1 [.slice (some ⟨hX2, 0, none⟩) 2 2] rfl rfl (row_news rowX2) (by simp [Value.oneCell']) (by unfold maxLen; omega) (by omega) (by first | omega | (simp; omega)) ?_)
            intro v9 w9 hown9 hgrow9 hnil9 hat9
            have hb9 : Below w3.heap.size w3 w9 := own_grew hown.out (by repeat' (first | (with_reducible exact Below.refl _ _) | (with_reducible refine Below.alloc ?_ ?_ _) | (with_reducible refine Below.setCell ?_ ?_ _) | (with_reducible refine Below.drew ?_) | (with_reducible refine Below.trans ?_ (Below.mono (by with_reducible assumption) ?_)) | omega | (simp; done) | (simp; omega))) (by first | omega | (simp; done) | (simp; omega)) hgrow9
            have hs9 := hb9.size
            obtain ⟨hI9, hvb9⟩ := push_inn (cs' := pC xs W (pO xs W os k ++ [i])) (g := hX2) (ds := [.int .i64 (el xs i).i, .int .i64 m]) hI.out hown.out hvb.out hEw5 ownX2 hkX2 (by omega) hgrow9 (by simpa using hat9) (fun j hj => by simp only [pC, prC]; rw [el_appl hj]) (by simp only [pC, prC]; rw [el_appr, hm])
            have hcs9 : gsV gs ++ [.slice (some ⟨hX2, 0, none⟩) 2 2] = gsV (gs ++ [hX2]) := by simp [gsV]
            rw [hcs9] at hown9
            obtain ⟨gs9, hgs9⟩ : ∃ gs9, gs ++ [hX2] = gs9 := ⟨_, rfl⟩
            rw [hgs9] at hown9 hI9 hvb9
            have hl9 : (pO xs W os k).length + 1 = (pO xs W os (k + 1)).length := by rw [hsu.out]; simp
            rw [← hsu.out] at hI9
            rw [hl9] at hown9 hI9 hvb9
            replace hown9 := Lib.hid hown9
            replace hI9 := Lib.hid hI9
            replace hvb9 := Lib.hid hvb9
            clear hcs9 hgrow9 hat9 hnil9 hgs9 hl9
            go_wp2_with fail
            refine normal_of ?_
            go_wp2_with fail
            go_roundw
            case rel => exact ⟨k + 1, gs9, by omega, by go_num, hown9.out, hI9.out, hvb9.out, hb9⟩
            case measure => simp [intOf]; omega
          · have hsu := Lib.hid (hsn hm0)
            clear hsy hsn
            go_wp2_with fail
            go_roundw
            case rel => exact ⟨k + 1, gs, by omega, by go_num, by rw [hsu.out]; exact own_to hown.out (by repeat' (first | (with_reducible exact Below.refl _ _) | (with_reducible refine Below.alloc ?_ ?_ _) | (with_reducible refine Below.setCell ?_ ?_ _) | (with_reducible refine Below.drew ?_) | (with_reducible refine Below.trans ?_ (Below.mono (by with_reducible assumption) ?_)) | omega | (simp; done) | (simp; omega))), by rw [hsu.out]; exact hI.out.to (by repeat' (first | (with_reducible exact Below.refl _ _) | (with_reducible refine Below.alloc ?_ ?_ _) | (with_reducible refine Below.setCell ?_ ?_ _) | (with_reducible refine Below.drew ?_) | (with_reducible refine Below.trans ?_ (Below.mono (by with_reducible assumption) ?_)) | omega | (simp; done) | (simp; omega))), by rw [hsu.out]; exact hvb.out, (by repeat' (first | (with_reducible exact Below.refl _ _) | (with_reducible refine Below.alloc ?_ ?_ _) | (with_reducible refine Below.setCell ?_ ?_ _) | (with_reducible refine Below.drew ?_) | (with_reducible refine Below.trans ?_ (Below.mono (by with_reducible assumption) ?_)) | omega | (simp; done) | (simp; omega)))⟩
            case measure => simp [intOf]; omega
        · obtain rfl : k = os.length := by omega
          obtain ⟨A9, c9, rfl, ho⟩ := SSAt.of_own hown.out hI.out hvb.out (show w.heap.size ≤ w3.heap.size by omega)
          go_wp2_with fail
          go_ret2
          exact MadeSS.cast (show MadeSS w (pO xs W os os.length).length (pC xs W (pO xs W os os.length)) (fun v => .returned (.tuple #[v, .bool true])) _ _ from ⟨A9, c9, rfl, ho, hbw3.trans (hb.mono (by omega))⟩) (by rw [hR.out]) (by rw [hR.out]) (by rw [hq]) rfl
set_option maxRecDepth 100000 in
set_option maxHeartbeats 8000000 in
theorem sWorkersOn_any (A : Option Addr) (c : Nat) (xs : List Brk) (W : Int) (w : World) (h : Rd w w.heap.size A 6 Brk.enc xs) (hx : xs.length ≤ 1048576) :
    Calls Try.prog 51 #[.slice A xs.length c, .int .i64 W] w fun e w' => MadeSS w (woL xs W).length (pC xs W (woL xs W)) (fun v => .returned (.tuple #[v, .bool (ndB xs W)])) e w' := by
  cases hG0 : brksOK xs
  · have hq : ndB xs W = false := by simp [ndB, hG0]
    go_enter Try.func51, Try.ntmps51
    go_wp2_with fail
    (go_at_call 68; refine (l23Good_any _ _ _ _ (h.to (by repeat' (first | (with_reducible exact Below.refl _ _) | (with_reducible refine Below.alloc ?_ ?_ _) | (with_reducible refine Below.setCell ?_ ?_ _) | (with_reducible refine Below.drew ?_) | (with_reducible refine Below.trans ?_ (Below.mono (by with_reducible assumption) ?_)) | omega | (simp; done) | (simp; omega)))) hx).mono ?_; rintro e w1 ⟨rfl, hb1⟩)
    (have hs1 := hb1.size; (try simp at hs1); obtain ⟨hc1, hf1, hn1⟩ := bcell hb1; (try have hz1_w_0 : w.heap.size < w1.heap.size := by omega); (try have hz1_w_1 : w.heap.size + 1 < w1.heap.size := by omega); (try have hz1_w_2 : w.heap.size + 2 < w1.heap.size := by omega); (try have hz1_w_2b : w.heap.size + 1 + 1 < w1.heap.size := by omega))
    go_wp2_with fail
    go_ret2
    exact MadeSS.cast (MadeSS.empty (cs := pC xs W []) (g := w.heap.size) (fun v => .returned (.tuple #[v, .bool false])) (Nat.le_refl _) ((hb1.block _ (by simp)).trans (heap_alloc_new w _)) (by repeat' (first | (with_reducible exact Below.refl _ _) | (with_reducible refine Below.alloc ?_ ?_ _) | (with_reducible refine Below.setCell ?_ ?_ _) | (with_reducible refine Below.drew ?_) | (with_reducible refine Below.trans ?_ (Below.mono (by with_reducible assumption) ?_)) | omega | (simp; done) | (simp; omega)))) (by simp [woL, hq]) (by simp [woL, hq]) (by rw [hq]) rfl
  · cases hG1 : inB W 0 40
    · have hq : ndB xs W = false := by simp [ndB, hG0, hG1]
      go_enter Try.func51, Try.ntmps51
      go_wp2_with (first | (go_at_call 78; refine (l23Some_any _ _).mono ?_; rintro e wX ⟨rfl, rfl⟩))
      (go_at_call 68; refine (l23Good_any _ _ _ _ (h.to (by repeat' (first | (with_reducible exact Below.refl _ _) | (with_reducible refine Below.alloc ?_ ?_ _) | (with_reducible refine Below.setCell ?_ ?_ _) | (with_reducible refine Below.drew ?_) | (with_reducible refine Below.trans ?_ (Below.mono (by with_reducible assumption) ?_)) | omega | (simp; done) | (simp; omega)))) hx).mono ?_; rintro e w1 ⟨rfl, hb1⟩)
      (have hs1 := hb1.size; (try simp at hs1); obtain ⟨hc1, hf1, hn1⟩ := bcell hb1; (try have hz1_w_0 : w.heap.size < w1.heap.size := by omega); (try have hz1_w_1 : w.heap.size + 1 < w1.heap.size := by omega); (try have hz1_w_2 : w.heap.size + 2 < w1.heap.size := by omega); (try have hz1_w_2b : w.heap.size + 1 + 1 < w1.heap.size := by omega))
      go_wp2_with (first | (go_at_call 78; refine (l23Some_any _ _).mono ?_; rintro e wX ⟨rfl, rfl⟩))
      go_ret2
      exact MadeSS.cast (MadeSS.empty (cs := pC xs W []) (g := w.heap.size) (fun v => .returned (.tuple #[v, .bool false])) (Nat.le_refl _) ((hb1.block _ (by simp)).trans (heap_alloc_new w _)) (by repeat' (first | (with_reducible exact Below.refl _ _) | (with_reducible refine Below.alloc ?_ ?_ _) | (with_reducible refine Below.setCell ?_ ?_ _) | (with_reducible refine Below.drew ?_) | (with_reducible refine Below.trans ?_ (Below.mono (by with_reducible assumption) ?_)) | omega | (simp; done) | (simp; omega)))) (by simp [woL, hq]) (by simp [woL, hq]) (by rw [hq]) rfl
    · have hq : ndB xs W = true := by simp [ndB, hG0, hG1]
      have hbd := brksOK_bd hG0
      have hv := Lib.hid (ok6_of hbd.2)
      have hn := hbd.1
      have hW := inB_iff.1 hG1
      clear hbd
      obtain ⟨i0, hi, hz0, hz1, hz2⟩ := info_parts ints_info
      have hinfo := Lib.hid (And.intro hi (And.intro hz0 (And.intro hz1 hz2)))
      clear hi hz0 hz1 hz2
      go_enter Try.func51, Try.ntmps51
      go_wp2_with (first | (go_at_call 78; refine (l23Some_any _ _).mono ?_; rintro e wX ⟨rfl, rfl⟩))
      (go_at_call 68; refine (l23Good_any _ _ _ _ (h.to (by repeat' (first | (with_reducible exact Below.refl _ _) | (with_reducible refine Below.alloc ?_ ?_ _) | (with_reducible refine Below.setCell ?_ ?_ _) | (with_reducible refine Below.drew ?_) | (with_reducible refine Below.trans ?_ (Below.mono (by with_reducible assumption) ?_)) | omega | (simp; done) | (simp; omega)))) hx).mono ?_; rintro e w1 ⟨rfl, hb1⟩)
      (have hs1 := hb1.size; (try simp at hs1); obtain ⟨hc1, hf1, hn1⟩ := bcell hb1; (try have hz1_w_0 : w.heap.size < w1.heap.size := by omega); (try have hz1_w_1 : w.heap.size + 1 < w1.heap.size := by omega); (try have hz1_w_2 : w.heap.size + 2 < w1.heap.size := by omega); (try have hz1_w_2b : w.heap.size + 1 + 1 < w1.heap.size := by omega))
      go_wp2_with (first | (go_at_call 78; refine (l23Some_any _ _).mono ?_; rintro e wX ⟨rfl, rfl⟩))
      have hown0 := own_empty (W := w1) (base := w.heap.size) (E := 56) 1 (Nat.le_refl w.heap.size) ((hb1.block w.heap.size (by simp)).trans (heap_alloc_new w _))
      have hbw1 : Below w.heap.size w w1 := (by repeat' (first | (with_reducible exact Below.refl _ _) | (with_reducible refine Below.alloc ?_ ?_ _) | (with_reducible refine Below.setCell ?_ ?_ _) | (with_reducible refine Below.drew ?_) | (with_reducible refine Below.trans ?_ (Below.mono (by with_reducible assumption) ?_)) | omega | (simp; done) | (simp; omega)))
      have h1 := h.to hbw1
      have hs1' : w.heap.size < w1.heap.size := by omega
      refine (sWork_any A c xs W w1 h1 (by omega) hv hW.1 hW.2).mono ?_
      rintro e w2 ⟨g2, rfl, hg2, row2, hb2⟩
      have hs2 := hb2.size
      have h2 := h1.to hb2
      go_wp2_with fail
      refine (sOrder_any A c xs w2 h2 (by omega) (fun i hi => by have := hv.out i hi; unfold Ok6 at this; omega)).mono ?_
      rintro e w3 ⟨A3, c3, rfl, own3, hb3⟩
      have hs3 := hb3.size
      have hown3 := Lib.hid (own_to (own_to hown0 hb2) hb3)
      have row3 := Lib.hid (row2.to hb3)
      have hbw3 : Below w.heap.size w w3 := (hbw1.trans (hb2.mono (by omega))).trans (hb3.mono (by omega))
      have hon := needO_el xs
      have hnl := needO_len xs xs.length
      have hR : woL xs W = pO xs W (needO xs xs.length) (needO xs xs.length).length := by rw [woL, if_pos hq]
      obtain ⟨os, hos⟩ : ∃ os, needO xs xs.length = os := ⟨_, rfl⟩
      rw [hos] at hon hnl hR own3 ⊢
      have hvb0 : ∀ g, A3 = some ⟨g, 0, none⟩ → (Value.slice (some ⟨w.heap.size, 0, none⟩) 0 0).ownBlock ≠ some g := by
        intro g hg
        rcases own3 with ⟨h0, _⟩ | ⟨g', h0, hg', _⟩
        · rw [h0] at hg; cases hg
        · rw [h0] at hg; simp at hg; simp [Value.ownBlock]; omega
      have hvc0 : (Value.slice (some ⟨w.heap.size, 0, none⟩) 0 0).ownBlock ≠ some g2 := by simp [Value.ownBlock]; omega
      clear hos hb1 hc1 hf1 hn1 hb2 hb3 h2 row2 h1 hbw1 hown0
      replace hvb0 := Lib.hid hvb0
      replace hon := Lib.hid hon
      replace hR := Lib.hid hR
      replace own3 := Lib.hid own3
      have hwl := wkL_len xs W
      have hwb := Lib.hid (wkL_bd hv.out hW.1 hW.2)
      have hsw := hbw3.size
      go_wp2_with fail
      go_loopw [6, 9] (fun v i wr => ∃ (k : Nat) (gs : List Nat), k ≤ os.length ∧ i = .int .i64 k ∧ Hid (wr.ownsRow w.heap.size 56 1 v (pO xs W os k).length (gsV gs)) ∧ Hid (Inn wr w.heap.size (pO xs W os k).length (pC xs W (pO xs W os k)) gs) ∧ Hid (∀ i, i < (pO xs W os k).length → v.ownBlock ≠ some (el gs i)) ∧ Hid (∀ g, A3 = some ⟨g, 0, none⟩ → v.ownBlock ≠ some g) ∧ v.ownBlock ≠ some g2 ∧ Hid (OwnAt wr w2.heap.size 3 (natVals os) os.length A3) ∧ Hid (Row wr g2 3 (intVals (wkL xs W))) ∧ Below w.heap.size w wr) (fun _ i _ => os.length - (intOf i).toNat)
      case atStart => exact ⟨0, [], Nat.zero_le _, rfl, hown3, Inn.nil, fun i hi => absurd hi (by simp [pO]), hvb0, hvc0, own3, row3, hbw3⟩
      case round =>
        clear hown3 hvb0 hvc0 own3 row3 hbw3
        obtain ⟨k, gs, hk, rfl, hown, hI, hvb, hvo, hvc, own3, row3, hb⟩ := hrel
        have hs := hb.size
        by_cases hlt : k < os.length
        · rcases own3.out with ⟨_, h0, _⟩ | ⟨g3, rfl, hg3, hrow⟩
          · omega
          have hB3 : g3 < wr.heap.size := hrow.lt
          have hB2 : g2 < wr.heap.size := row3.out.lt
          have q0 := natVals_cell hrow hlt
          have hvo3 := hvo.out g3 rfl
          have hoi := hon.out k hlt
          have hpl := pO_len xs W os k
          obtain ⟨i, hi⟩ : ∃ i, el os k = i := ⟨_, rfl⟩
          have hsy := fun hm => pO_yes (xs := xs) (W := W) hlt hi hm
          have hsn := fun hm => pO_no (xs := xs) (W := W) hlt hi hm
          rw [hi] at hoi q0
          have q2 := intVals_cell row3.out (j := i) (by omega)
          obtain ⟨b, o, rfl, hB, e0, e1, e2, e3, e4, e5⟩ := brk_cells (h.below hb) hoi
          obtain ⟨m, hm⟩ : ∃ m, el (wkL xs W) i = m := ⟨_, rfl⟩
          rw [hm] at q2 hsy hsn
          replace hrow := Lib.hid hrow
          clear hi e1 e2 e3 e4 e5
          have hB1 : b < wr.heap.size := by omega
          have hII : (k : Int) < os.length := by omega
          have hI0 : (0 : Int) ≤ k := by omega
          have hJ : (i : Int) < xs.length := by omega
          have hJ0 : (0 : Int) ≤ i := by omega
          by_cases hm0 : 0 < m
          · have hsu := Lib.hid (hsy hm0)
            clear hsy hsn
            go_wp2_with (at_builtin; refine wpList_append_own_at _ rfl _ _ 63 rfl w.heap.size 56 _ _ 1 24 Try.underlying63 hinfo.out.1 hinfo.out.2.1 hinfo.out.2.2.1 hinfo.out.2.2.2 rfl (by decide) _ _ _ rfl (own_to hown.out (by repeat' (first | (with_reducible exact Below.refl _ _) | (with_reducible refine Below.alloc ?_ ?_ _) | (with_reducible refine Below.setCell ?_ ?_ _) | (with_reducible refine Below.drew ?_) | (with_reducible refine Below.trans ?_ (Below.mono (by with_reducible assumption) ?_)) | omega | (simp; done) | (simp; omega)))) _ 1 1 [.slice (some ⟨wr.heap.size, 0, none⟩) 2 2] rfl rfl (news_top (cs := #[.slice (some ⟨wr.heap.size, 0, none⟩) 2 2]) (t := 56) (by simp)) (by simp [Value.oneCell']) (by unfold maxLen; omega) (by omega) (by simp; omega) ?_)
            intro v9 w9 hown9 hgrow9 hnil9 hat9
            have hb9 : Below w.heap.size w w9 := own_grew hown.out (by repeat' (first | (with_reducible exact Below.refl _ _) | (with_reducible refine Below.alloc ?_ ?_ _) | (with_reducible refine Below.setCell ?_ ?_ _) | (with_reducible refine Below.drew ?_) | (with_reducible refine Below.trans ?_ (Below.mono (by with_reducible assumption) ?_)) | omega | (simp; done) | (simp; omega))) (by first | omega | (simp; done) | (simp; omega)) hgrow9
            have hs9 := hb9.size
            obtain ⟨hI9, hvb9⟩ := push_inn (cs' := pC xs W (pO xs W os k ++ [i])) (g := wr.heap.size) (ds := [.int .i64 (el xs i).i, .int .i64 m]) hI.out hown.out hvb.out (by repeat' (first | (with_reducible exact Below.refl _ _) | (with_reducible refine Below.alloc ?_ ?_ _) | (with_reducible refine Below.setCell ?_ ?_ _) | (with_reducible refine Below.drew ?_) | (with_reducible refine Below.trans ?_ (Below.mono (by with_reducible assumption) ?_)) | omega | (simp; done) | (simp; omega))) ((Row.new wr 3 #[.int .i64 (el xs i).i, .int .i64 m]).alloc _) (by omega) (by omega) hgrow9 (by simpa using hat9) (fun j hj => by simp only [pC, prC]; rw [el_appl hj]) (by simp only [pC, prC]; rw [el_appr, hm])
            have hcs9 : gsV gs ++ [.slice (some ⟨wr.heap.size, 0, none⟩) 2 2] = gsV (gs ++ [wr.heap.size]) := by simp [gsV]
            rw [hcs9] at hown9
            have hvo9 : ∀ g, some (⟨g3, 0, none⟩ : Addr) = some ⟨g, 0, none⟩ → v9.ownBlock ≠ some g := by
              intro g hg
              obtain rfl : g3 = g := by simpa using hg
              rcases hat9 with h | h
              · rw [h]; exact hvo3
              · rw [h]; simp; omega
            have hvc9 : v9.ownBlock ≠ some g2 := by
              rcases hat9 with h | h
              · rw [h]; exact hvc
              · rw [h]; simp; omega
            have hq9 : OwnAt w9 w2.heap.size 3 (natVals os) os.length (some ⟨g3, 0, none⟩) := .inr ⟨g3, rfl, hg3, (hrow.out.to (by repeat' (first | (with_reducible exact Below.refl _ _) | (with_reducible refine Below.alloc ?_ ?_ _) | (with_reducible refine Below.setCell ?_ ?_ _) | (with_reducible refine Below.drew ?_) | (with_reducible refine Below.trans ?_ (Below.mono (by with_reducible assumption) ?_)) | omega | (simp; done) | (simp; omega)))).grown hgrow9 (fun h => hvo3 h.symm)⟩
            have hr9 : Row w9 g2 3 (intVals (wkL xs W)) := (row3.out.to (by repeat' (first | (with_reducible exact Below.refl _ _) | (with_reducible refine Below.alloc ?_ ?_ _) | (with_reducible refine Below.setCell ?_ ?_ _) | (with_reducible refine Below.drew ?_) | (with_reducible refine Below.trans ?_ (Below.mono (by with_reducible assumption) ?_)) | omega | (simp; done) | (simp; omega)))).grown hgrow9 (fun h => hvc h.symm)
            obtain ⟨gs9, hgs9⟩ : ∃ gs9, gs ++ [wr.heap.size] = gs9 := ⟨_, rfl⟩
            rw [hgs9] at hown9 hI9 hvb9
            have hl9 : (pO xs W os k).length + 1 = (pO xs W os (k + 1)).length := by rw [hsu.out]; simp
            rw [← hsu.out] at hI9
            rw [hl9] at hown9 hI9 hvb9
            replace hown9 := Lib.hid hown9
            replace hI9 := Lib.hid hI9
            replace hvb9 := Lib.hid hvb9
            replace hvo9 := Lib.hid hvo9
            replace hq9 := Lib.hid hq9
            replace hr9 := Lib.hid hr9
            clear hcs9 hgrow9 hat9 hnil9 hgs9 hl9
            go_wp2_with (first | (go_at_call 78; refine (l23Some_any _ _).mono ?_; rintro e wX ⟨rfl, rfl⟩))
            go_roundw
            case rel => exact ⟨k + 1, gs9, by omega, by go_num, hown9.out, hI9.out, hvb9.out, hvo9, hvc9, hq9, hr9, hb9⟩
            case measure => simp [intOf]; omega
          · have hsu := Lib.hid (hsn hm0)
            clear hsy hsn
            go_wp2_with fail
            go_roundw
            case rel => exact ⟨k + 1, gs, by omega, by go_num, by rw [hsu.out]; exact own_to hown.out (by repeat' (first | (with_reducible exact Below.refl _ _) | (with_reducible refine Below.alloc ?_ ?_ _) | (with_reducible refine Below.setCell ?_ ?_ _) | (with_reducible refine Below.drew ?_) | (with_reducible refine Below.trans ?_ (Below.mono (by with_reducible assumption) ?_)) | omega | (simp; done) | (simp; omega))), by rw [hsu.out]; exact hI.out.to (by repeat' (first | (with_reducible exact Below.refl _ _) | (with_reducible refine Below.alloc ?_ ?_ _) | (with_reducible refine Below.setCell ?_ ?_ _) | (with_reducible refine Below.drew ?_) | (with_reducible refine Below.trans ?_ (Below.mono (by with_reducible assumption) ?_)) | omega | (simp; done) | (simp; omega))), by rw [hsu.out]; exact hvb.out, hvo, hvc, own3.out.to (by repeat' (first | (with_reducible exact Below.refl _ _) | (with_reducible refine Below.alloc ?_ ?_ _) | (with_reducible refine Below.setCell ?_ ?_ _) | (with_reducible refine Below.drew ?_) | (with_reducible refine Below.trans ?_ (Below.mono (by with_reducible assumption) ?_)) | omega | (simp; done) | (simp; omega))), row3.out.to (by repeat' (first | (with_reducible exact Below.refl _ _) | (with_reducible refine Below.alloc ?_ ?_ _) | (with_reducible refine Below.setCell ?_ ?_ _) | (with_reducible refine Below.drew ?_) | (with_reducible refine Below.trans ?_ (Below.mono (by with_reducible assumption) ?_)) | omega | (simp; done) | (simp; omega))), (by repeat' (first | (with_reducible exact Below.refl _ _) | (with_reducible refine Below.alloc ?_ ?_ _) | (with_reducible refine Below.setCell ?_ ?_ _) | (with_reducible refine Below.drew ?_) | (with_reducible refine Below.trans ?_ (Below.mono (by with_reducible assumption) ?_)) | omega | (simp; done) | (simp; omega)))⟩
            case measure => simp [intOf]; omega
        · obtain rfl : k = os.length := by omega
          obtain ⟨A9, c9, rfl, ho⟩ := SSAt.of_own hown.out hI.out hvb.out (Nat.le_refl w.heap.size)
          go_wp2_with fail
          go_ret2
          exact MadeSS.cast (show MadeSS w (pO xs W os os.length).length (pC xs W (pO xs W os os.length)) (fun v => .returned (.tuple #[v, .bool true])) _ _ from ⟨A9, c9, rfl, ho, hb⟩) (by rw [hR.out]) (by rw [hR.out]) (by rw [hq]) rfl
end Go.Proofs.Ytakjfkbfibcbcaa
