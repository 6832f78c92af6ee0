/- Contracts: a crop is divided, by the reference (chapter 22). -/
import Derived.Test.YtimdnihadhbjpaaDoorFloor
import Derived.Test.YtimdnihadhbjpaaDoorIntE
import Derived.Deep.Cut
set_option linter.unusedSimpArgs false
set_option linter.unusedVariables false
namespace Go.Proofs.YtimdnihadhbjpaaDoor
open Go.RowKit Go.Sort Go.Salt
attribute [local go_sem] cell_rg
theorem madeCells_one (z : Value) (n : Nat) : (madeCells #[z] n).toList = List.replicate n z := by
  apply List.ext_getElem
  · simp [madeCells]
  · intro i h1 h2
    simp [madeCells, Nat.mod_one]
def fnV (f : Nat → Int) (n : Nat) : List Value := (List.range n).map fun i => Value.int .i64 (f i)
theorem fnV_len (f : Nat → Int) (n : Nat) : (fnV f n).length = n := by simp [fnV]
theorem fnV_cell {w : World} {g : Nat} {E : TypeId} {f : Nat → Int} {n : Nat} (h : Row w g E (fnV f n)) {j : Nat} (hj : j < n) : w.cell? ⟨g, j, none⟩ = some (.int .i64 (f j)) := by
  have := h.cell (j := j) (by rw [fnV_len]; exact hj)
  rw [this]; simp [fnV]
def updI (f : Nat → Int) (b : Nat) (z : Int) (i : Nat) : Int := if i = b then z else f i
theorem fnV_set (f : Nat → Int) (n b : Nat) (z : Int) : (fnV f n).set b (.int .i64 z) = fnV (updI f b z) n := by
  apply List.ext_getElem
  · simp [fnV]
  · intro i h1 h2
    simp only [fnV, List.getElem_set, List.getElem_map, List.getElem_range, updI]
    by_cases e : b = i
    · subst e; simp
    · rw [if_neg e, if_neg (by omega)]
theorem fnV_rep (n : Nat) : List.replicate n (Value.int .i64 0) = fnV (fun _ => 0) n := by
  apply List.ext_getElem
  · simp [fnV]
  · intro i h1 h2; simp [fnV]
theorem fnV_list (f : Nat → Int) (n : Nat) : fnV f n = ((List.range n).map f).flatMap ie := by
  induction n with
  | zero => rfl
  | succ n ih => rw [List.range_succ, List.map_append, List.flatMap_append, ← ih]; simp [fnV, List.range_succ, ie]
def b2i (b : Bool) : Int := if b = true then 1 else 0
def dcF (xs : List Ow) (crop : Int) (G : Nat → Bool) (i : Nat) : Int := flN xs crop i + b2i (G i)
def gtF (G : Nat → Bool) (i : Nat) : Int := b2i (G i)
theorem dcF_upd {xs : List Ow} {crop : Int} {G : Nat → Bool} {b : Nat} (h : G b = false) : updI (dcF xs crop G) b (dcF xs crop G b + 1) = dcF xs crop (updG G b) := by
  funext i
  unfold updI dcF updG
  by_cases e : i = b
  · subst e; rw [if_pos rfl, if_pos rfl, h]; simp [b2i]
  · rw [if_neg e, if_neg e]
theorem gtF_upd {G : Nat → Bool} {b : Nat} : updI (gtF G) b 1 = gtF (updG G b) := by
  funext i
  unfold updI gtF updG
  by_cases e : i = b
  · subst e; rw [if_pos rfl, if_pos rfl]; rfl
  · rw [if_neg e, if_neg e]
/-- Who has got a ton more after t rounds. -/
def gN (xs : List Ow) (crop : Int) (t : Nat) : Nat → Bool := gRd (rsN xs crop) (deO xs) xs.length t
def dcL (xs : List Ow) (crop : Int) : List Int := (List.range xs.length).map (dcF xs crop (gN xs crop (lfN xs crop xs.length).toNat))
def dcB (xs : List Ow) (crop : Int) : Bool := arB xs && inB crop 0 1000000
def dcR (xs : List Ow) (crop : Int) : List Int := if dcB xs crop = true then dcL xs crop else []
theorem dcL_len (xs : List Ow) (crop : Int) : (dcL xs crop).length = xs.length := by simp [dcL]
theorem dcR_len (xs : List Ow) (crop : Int) : (dcR xs crop).length ≤ xs.length := by
  unfold dcR; split
  · rw [dcL_len]; exact Nat.le_refl _
  · simp
theorem arOK_sum {xs : List Ow} (h : arB xs = true) : sP allT (nuO xs) (deO xs) xs.length = dP (deO xs) xs.length := by
  unfold arB at h
  rw [Bool.and_eq_true, Bool.and_eq_true, decide_eq_true_eq] at h
  exact h.2.2
theorem lf_left {xs : List Ow} (h : arB xs = true) (crop : Int) : 0 ≤ lfN xs crop xs.length ∧ lfN xs crop xs.length < xs.length :=
  ltD_bd (fun i => ((arOK_bd h) i).2.1) (arOK_len h).1 (arOK_sum h)
theorem rs_pos {xs : List Ow} (h : OwBd xs) (crop : Int) : ∀ i, 0 ≤ rsN xs crop i := fun i => (rsD_bd (nu := nuO xs) (c := crop) (de := deO xs) (fun i => (h i).2.1) i).1
theorem gN_one {xs : List Ow} (h : OwBd xs) (crop : Int) {t : Nat} (ht : t < xs.length) :
    bSp (rsN xs crop) (deO xs) (gN xs crop t) xs.length = bIm (rsN xs crop) (deO xs) (gN xs crop t) xs.length ∧ gN xs crop t (bIm (rsN xs crop) (deO xs) (gN xs crop t) xs.length) = false ∧ bIm (rsN xs crop) (deO xs) (gN xs crop t) xs.length < xs.length :=
  gRd_one (fun i => (h i).2.1) (rs_pos h crop) ht
theorem gN_succ (xs : List Ow) (crop : Int) (t : Nat) : gN xs crop (t + 1) = updG (gN xs crop t) (bIm (rsN xs crop) (deO xs) (gN xs crop t) xs.length) := rfl
theorem bSp_yes {rs de : Nat → Int} {G : Nat → Bool} {k : Nat} (h : G k = false) (h2 : bSp rs de G k < 0 ∨ rs (bSp rs de G k).toNat * de k < rs k * de (bSp rs de G k).toNat) : bSp rs de G (k + 1) = k := by
  rw [bSp, if_pos ⟨h, h2⟩]
theorem bSp_no {rs de : Nat → Int} {G : Nat → Bool} {k : Nat} (h : ¬ (G k = false ∧ (bSp rs de G k < 0 ∨ rs (bSp rs de G k).toNat * de k < rs k * de (bSp rs de G k).toNat))) : bSp rs de G (k + 1) = bSp rs de G k := by
  rw [bSp, if_neg h]
theorem mul_bd3 {a b : Int} (ha : 0 ≤ a ∧ a < 1000) (hb : 1 ≤ b ∧ b ≤ 1000) : 0 ≤ a * b ∧ a * b ≤ 1000000 := by
  have h1 := Int.mul_le_mul (show a ≤ 1000 by omega) hb.2 (by omega) (by omega)
  have h2 := Int.mul_nonneg ha.1 (show 0 ≤ b by omega)
  omega
set_option maxHeartbeats 4000000 in
theorem sDivideCrop_no (A : Option Addr) (c : Nat) (xs : List Ow) (crop : Int) (w : World) (h : Rd w w.heap.size A 3 Ow.enc xs) (hx : xs.length ≤ 1048576) (hz : OwSz 1048576 xs) (hB : dcB xs crop = false) :
    Calls Tryd.prog 28 #[.slice A xs.length c, .int .i64 crop] w fun e w' => MadeAt w 3 [] 0 (fun v => .returned (.tuple #[v, .bool false])) e w' := by
  cases hg : arB xs
  · have Hg := Lib.hid hg
    clear hg hB
    go_enter Tryd.func28, Tryd.ntmps28
    go_wp2_with fail
    refine (l22Good_any A c xs _ (h.to (by repeat' (first | (with_reducible exact Below.refl _ _) | (with_reducible refine Below.alloc ?_ ?_ _) | (with_reducible refine Below.setCell ?_ ?_ _) | (with_reducible refine Below.drew ?_) | (with_reducible refine Below.trans ?_ (Below.mono (by with_reducible assumption) ?_)) | omega | (simp; done) | (simp; omega)))) hx hz).mono ?_
    rintro e w1 ⟨rfl, hb1⟩
    have hs1 := hb1.size
    rw [Hg.out]
    go_wp2
    go_ret2
    exact MadeAt.empty (g := w1.heap.size) (fun v => .returned (.tuple #[v, .bool false])) (by omega) (heap_alloc_new w1 _) (by repeat' (first | (with_reducible exact Below.refl _ _) | (with_reducible refine Below.alloc ?_ ?_ _) | (with_reducible refine Below.setCell ?_ ?_ _) | (with_reducible refine Below.drew ?_) | (with_reducible refine Below.trans ?_ (Below.mono (by with_reducible assumption) ?_)) | omega | (simp; done) | (simp; omega)))
  · have Hg := Lib.hid hg
    have hcb : inB crop 0 1000000 = false := by rw [dcB, hg, Bool.true_and] at hB; exact hB
    clear hg hB
    go_enter Tryd.func28, Tryd.ntmps28
    go_wp2_with fail
    refine (l22Good_any A c xs _ (h.to (by repeat' (first | (with_reducible exact Below.refl _ _) | (with_reducible refine Below.alloc ?_ ?_ _) | (with_reducible refine Below.setCell ?_ ?_ _) | (with_reducible refine Below.drew ?_) | (with_reducible refine Below.trans ?_ (Below.mono (by with_reducible assumption) ?_)) | omega | (simp; done) | (simp; omega)))) hx hz).mono ?_
    rintro e w1 ⟨rfl, hb1⟩
    have hs1 := hb1.size
    rw [Hg.out]
    go_wp2_with fail
    (go_at_call 70; refine (l22Crop_any _ _).mono ?_; rintro e w1 ⟨rfl, rfl⟩)
    rw [hcb]
    go_wp2
    go_ret2
    exact MadeAt.empty (g := w1.heap.size) (fun v => .returned (.tuple #[v, .bool false])) (by omega) (heap_alloc_new w1 _) (by repeat' (first | (with_reducible exact Below.refl _ _) | (with_reducible refine Below.alloc ?_ ?_ _) | (with_reducible refine Below.setCell ?_ ?_ _) | (with_reducible refine Below.drew ?_) | (with_reducible refine Below.trans ?_ (Below.mono (by with_reducible assumption) ?_)) | omega | (simp; done) | (simp; omega)))
set_option maxRecDepth 100000 in
set_option maxHeartbeats 16000000 in
theorem sDivideCrop_yes (A : Option Addr) (c : Nat) (xs : List Ow) (crop : Int) (w : World) (h : Rd w w.heap.size A 3 Ow.enc xs) (hx : xs.length ≤ 1048576) (hz : OwSz 1048576 xs) (hg : arB xs = true) (hcb : inB crop 0 1000000 = true) :
    Calls Tryd.prog 28 #[.slice A xs.length c, .int .i64 crop] w fun e w' => MadeAt w 3 ((dcL xs crop).flatMap ie) xs.length (fun v => .returned (.tuple #[v, .bool true])) e w' := by
  have HX := Lib.hid h
  have HZ := Lib.hid hz
  have Hg := Lib.hid hg
  have HBD := Lib.hid (arOK_bd hg)
  have hl := arOK_len hg
  have hlf := lf_left hg crop
  have hcr := inB_iff.1 hcb
  obtain ⟨LN, hLN⟩ : ∃ L : Nat, lfN xs crop xs.length = L := ⟨(lfN xs crop xs.length).toNat, by omega⟩
  rw [hLN] at hlf
  have HLN := Lib.hid hLN
  have hLl : LN < xs.length := by omega
  clear h hz hg hLN hlf
  obtain ⟨i0, hi, hz0, hz1, hz2⟩ := info_parts int_info
  have hmk := fun (W : World) => run_make (P := Tryd.prog) W 38 3 i0 _ Tryd.underlying38 hi hz0 .i64 .i64 xs.length xs.length (by omega) (by omega) (by rw [hz2]; omega) (by omega)
  simp only [hz1, Int.toNat_natCast] at hmk
  clear hi hz0 hz1 hz2
  go_enter Tryd.func28, Tryd.ntmps28
  go_wp2_with fail
  refine (l22Good_any A c xs _ (HX.out.to (by repeat' (first | (with_reducible exact Below.refl _ _) | (with_reducible refine Below.alloc ?_ ?_ _) | (with_reducible refine Below.setCell ?_ ?_ _) | (with_reducible refine Below.drew ?_) | (with_reducible refine Below.trans ?_ (Below.mono (by with_reducible assumption) ?_)) | omega | (simp; done) | (simp; omega)))) hx HZ.out).mono ?_
  rintro e w1 ⟨rfl, hb1⟩
  have hs1 := hb1.size
  rw [Hg.out]
  go_wp2_with fail
  (go_at_call 70; refine (l22Crop_any _ _).mono ?_; rintro e w1 ⟨rfl, rfl⟩)
  rw [hcb]
  clear hcb
  go_wp2_with fail
  refine (l22Floors_any A c xs crop _ (HX.out.to (by repeat' (first | (with_reducible exact Below.refl _ _) | (with_reducible refine Below.alloc ?_ ?_ _) | (with_reducible refine Below.setCell ?_ ?_ _) | (with_reducible refine Below.drew ?_) | (with_reducible refine Below.trans ?_ (Below.mono (by with_reducible assumption) ?_)) | omega | (simp; done) | (simp; omega)))) (by omega) HBD.out hcr).mono ?_
  rintro e w3 ⟨A3, c3, rfl, own3, hb3⟩
  have hs3 := hb3.size
  rcases own3 with ⟨_, _, hh⟩ | ⟨g3, rfl, hg3, hr3⟩
  · omega
  rw [HLN.out]
  have hr3' : Row w3 g3 3 (fnV (dcF xs crop (gN xs crop 0)) xs.length) := by
    have e1 : (flL xs crop xs.length).flatMap ie = fnV (dcF xs crop (gN xs crop 0)) xs.length := by
      rw [fnV_list]; congr 1; unfold flL; apply List.map_congr_left; intro i _; simp [dcF, gN, gRd, b2i]
    rwa [e1] at hr3
  have hlt3 := hr3.lt
  have hg3w : w.heap.size ≤ g3 := by omega
  clear hr3
  have HR3 := Lib.hid hr3'
  have hbw : Below w.heap.size w w3 := (by repeat' (first | (with_reducible exact Below.refl _ _) | (with_reducible refine Below.alloc ?_ ?_ _) | (with_reducible refine Below.setCell ?_ ?_ _) | (with_reducible refine Below.drew ?_) | (with_reducible refine Below.trans ?_ (Below.mono (by with_reducible assumption) ?_)) | omega | (simp; done) | (simp; omega)))
  clear hr3'
  go_upto_region 5 with (fail)
  refine cut_world (fun W => Row W g3 3 (fnV (dcF xs crop (gN xs crop 0)) xs.length) ∧ Row W w3.heap.size 3 (fnV (gtF (gN xs crop 0)) xs.length) ∧ Below w.heap.size w W) ⟨HR3.out.to (by repeat' (first | (with_reducible exact Below.refl _ _) | (with_reducible refine Below.alloc ?_ ?_ _) | (with_reducible refine Below.setCell ?_ ?_ _) | (with_reducible refine Below.drew ?_) | (with_reducible refine Below.trans ?_ (Below.mono (by with_reducible assumption) ?_)) | omega | (simp; done) | (simp; omega))), ?_, (by repeat' (first | (with_reducible exact Below.refl _ _) | (with_reducible refine Below.alloc ?_ ?_ _) | (with_reducible refine Below.setCell ?_ ?_ _) | (with_reducible refine Below.drew ?_) | (with_reducible refine Below.trans ?_ (Below.mono (by with_reducible assumption) ?_)) | omega | (simp; done) | (simp; omega)))⟩ ?_
  · have e1 : (madeCells #[.int .i64 0] xs.length).toList = fnV (gtF (gN xs crop 0)) xs.length := by rw [madeCells_one, fnV_rep]; rfl
    have := Row.new w3 3 (madeCells #[.int .i64 0] xs.length)
    rw [e1] at this
    exact this
  clear hmk HR3 hb1 hb3 hbw
  rintro w4 ⟨hr3, hr4, hb4⟩
  have hs4 := hb4.size
  have hg34 : g3 ≠ w3.heap.size := by omega
  have hg4 : w.heap.size ≤ w3.heap.size := by omega
  obtain ⟨g4, hg4e⟩ : ∃ g, w3.heap.size = g := ⟨_, rfl⟩
  rw [hg4e] at hr4 hg34 hg4 hlt3 ⊢
  have HR3 := Lib.hid hr3
  have HR4 := Lib.hid hr4
  have HB4 := Lib.hid hb4
  clear hr3 hr4 hb4 hg4e hs3 hs1
  go_loopw [7] (fun lv wr => ∃ t : Nat, t ≤ LN ∧ lv = .int .i64 ((LN : Int) - t) ∧ Hid (Row wr g3 3 (fnV (dcF xs crop (gN xs crop t)) xs.length)) ∧ Hid (Row wr g4 3 (fnV (gtF (gN xs crop t)) xs.length)) ∧ Below w.heap.size w wr) (fun lv _ => (intOf lv).toNat)
  case atStart => exact ⟨0, Nat.zero_le _, by simp, HR3, HR4, HB4.out⟩
  case round =>
    clear HR3 HR4 HB4 hs4
    obtain ⟨t, ht, rfl, hr3, hr4, hb⟩ := hrel
    obtain ⟨wo, rfl⟩ : ∃ x, x = wr := ⟨_, rfl⟩
    have hs := hb.size
    by_cases hlt : t < LN
    · have hI : (0 : Int) < (LN : Int) - t := by omega
      have hone := gN_one HBD.out crop (t := t) (by omega)
      have hsu := gN_succ xs crop t
      obtain ⟨G, hG⟩ : ∃ G, gN xs crop t = G := ⟨_, rfl⟩
      rw [hG] at hone hsu hr3 hr4
      have HO := Lib.hid hone
      have HSU := Lib.hid hsu
      clear hone hsu hG
      have hl3 := hr3.out.lt
      have hl4 := hr4.out.lt
      go_wp2_with fail
      go_loopw [9, 10, 11] (fun bv rv iv wq => ∃ (k : Nat) (x z : Int), k ≤ xs.length ∧ iv = .int .i64 k ∧ bv = .int .i64 x ∧ rv = .int .i64 z ∧ (-1 ≤ x ∧ x < k) ∧ (0 ≤ z ∧ z < 1000) ∧ Hid (bSp (rsN xs crop) (deO xs) G k = x) ∧ Hid (0 ≤ x → rsN xs crop x.toNat = z) ∧ Below wo.heap.size wo wq) (fun _ _ iv _ => xs.length - (intOf iv).toNat)
      case atStart => exact ⟨0, -1, 0, Nat.zero_le _, rfl, rfl, rfl, by omega, by omega, Lib.hid rfl, Lib.hid (fun h => absurd h (by decide)), (by repeat' (first | (with_reducible exact Below.refl _ _) | (with_reducible refine Below.alloc ?_ ?_ _) | (with_reducible refine Below.setCell ?_ ?_ _) | (with_reducible refine Below.drew ?_) | (with_reducible refine Below.trans ?_ (Below.mono (by with_reducible assumption) ?_)) | omega | (simp; done) | (simp; omega)))⟩
      case round =>
        obtain ⟨k, x, z, hk, rfl, rfl, rfl, hxb, hzb, HS, HZZ, hbq⟩ := hrel
        have hsq := hbq.size
        by_cases hkn : k < xs.length
        · obtain ⟨b, o, rfl, hB', c0, c1, c2⟩ := ow_cells ((HX.out.below hb).below (hbq.mono hs)) hkn
          have q0 := (hbq.cell (p := ⟨g4, k, none⟩) hl4).trans (fnV_cell hr4.out hkn)
          have hB1 : b < wr.heap.size := by omega
          have hB4 : g4 < wr.heap.size := by omega
          have hKI : (k : Int) < xs.length := by omega
          have hK0 : (0 : Int) ≤ k := by omega
          have u1 := HBD.out k
          obtain ⟨p, q, r, hp, e1, e2, _, _, _, _, _, e3, e4, e5, hr, e6⟩ := fl_step HBD.out hcr k
          have HE6 := Lib.hid e6
          clear e6
          rw [gtF] at q0
          cases hGk : G k
          · rw [hGk, b2i, if_neg (by decide)] at q0
            by_cases hx0 : x < 0
            · have hn : bSp (rsN xs crop) (deO xs) G (k + 1) = k := bSp_yes hGk (.inl (by rw [HS.out]; exact hx0))
              have HN := Lib.hid hn
              have HN2 := Lib.hid (show 0 ≤ (k : Int) → rsN xs crop (k : Int).toNat = r from fun _ => HE6.out)
              clear hn
              go_wp2_with fail
              refine wp_region_quiet_below (by kernel_rfl) (by kernel_rfl) ?_
              repeat (go_big_quiet_step (fail))
              (refine wpQuiet_nil ?_; intro w1 hwq; have hb1 := of_cls hwq; clear hwq)
              (have hs1 := hb1.size; (try simp at hs1); obtain ⟨hc1, hf1, hn1⟩ := bcell hb1; (try have hz1_wr_0 : wr.heap.size < w1.heap.size := by omega); (try have hz1_wr_1 : wr.heap.size + 1 < w1.heap.size := by omega); (try have hz1_wr_2 : wr.heap.size + 2 < w1.heap.size := by omega); (try have hB1 : b < w1.heap.size := by omega); (try have hB2 : b' < w1.heap.size := by omega); (try have hz1_wr_2b : wr.heap.size + 1 + 1 < w1.heap.size := by omega); (try have hz1_w_0 : w.heap.size < w1.heap.size := by omega); (try have hz1_w_1 : w.heap.size + 1 < w1.heap.size := by omega); (try have hz1_w_2 : w.heap.size + 2 < w1.heap.size := by omega); (try have hz1_w_2b : w.heap.size + 1 + 1 < w1.heap.size := by omega))
              go_wp2_with fail
              refine wp_region_quiet_below (by kernel_rfl) (by kernel_rfl) ?_
              repeat (go_big_quiet_step (fail))
              (refine wpQuiet_nil ?_; intro w2 hwq; have hb2 := of_cls hwq; clear hwq)
              (have hs2 := hb2.size; (try simp at hs2); obtain ⟨hc2, hf2, hn2⟩ := bcell hb2; (try have hz2_wr_0 : wr.heap.size < w2.heap.size := by omega); (try have hz2_wr_1 : wr.heap.size + 1 < w2.heap.size := by omega); (try have hz2_wr_2 : wr.heap.size + 2 < w2.heap.size := by omega); (try have hB1 : b < w2.heap.size := by omega); (try have hB2 : b' < w2.heap.size := by omega); (try have hz2_wr_2b : wr.heap.size + 1 + 1 < w2.heap.size := by omega); (try have hz2_w_0 : w.heap.size < w2.heap.size := by omega); (try have hz2_w_1 : w.heap.size + 1 < w2.heap.size := by omega); (try have hz2_w_2 : w.heap.size + 2 < w2.heap.size := by omega); (try have hz2_w_2b : w.heap.size + 1 + 1 < w2.heap.size := by omega); (try have hz2_w1_0 : w1.heap.size < w2.heap.size := by omega); (try have hz2_w1_1 : w1.heap.size + 1 < w2.heap.size := by omega); (try have hz2_w1_2 : w1.heap.size + 2 < w2.heap.size := by omega); (try have hz2_w1_2b : w1.heap.size + 1 + 1 < w2.heap.size := by omega))
              go_wp2_with fail
              go_roundw
              case rel => exact ⟨k + 1, k, r, by omega, by go_num, rfl, rfl, by omega, hr, HN, HN2, (by repeat' (first | (with_reducible exact Below.refl _ _) | (with_reducible refine Below.alloc ?_ ?_ _) | (with_reducible refine Below.setCell ?_ ?_ _) | (with_reducible refine Below.drew ?_) | (with_reducible refine Below.trans ?_ (Below.mono (by with_reducible assumption) ?_)) | omega | (simp; done) | (simp; omega)))⟩
              case measure => simp [intOf] <;> omega
            · obtain ⟨y, rfl⟩ : ∃ y : Nat, x = y := ⟨x.toNat, by omega⟩
              have hy : y < xs.length := by omega
              obtain ⟨b', o', hadr, hB'', _, _, d2⟩ := ow_cells ((HX.out.below hb).below (hbq.mono hs)) hy
              obtain ⟨rfl, rfl⟩ : b = b' ∧ o = o' := by simpa using hadr
              have hYI : (y : Int) < xs.length := by omega
              have hY0 : (0 : Int) ≤ y := by omega
              have hY1 : ¬ (y : Int) < 0 := by omega
              have hY2 : decide ((y : Int) < 0) = false := decide_eq_false hY1
              have u2 := HBD.out y
              have hzz := HZZ.out hY0
              rw [Int.toNat_natCast] at hzz
              have b1 := mul_bd3 hr u2.2
              have b2 := mul_bd3 hzb u1.2
              obtain ⟨p1, hp1⟩ : ∃ p, r * (el xs y).d = p := ⟨_, rfl⟩
              obtain ⟨p2, hp2⟩ : ∃ p, z * (el xs k).d = p := ⟨_, rfl⟩
              rw [hp1] at b1
              rw [hp2] at b2
              have v1 : wrap64 (r * (el xs y).d) = p1 := by rw [hp1]; unfold wrap64; omega
              have v2 : wrap64 (z * (el xs k).d) = p2 := by rw [hp2]; unfold wrap64; omega
              by_cases hc : p2 < p1
              · have HN := Lib.hid (show bSp (rsN xs crop) (deO xs) G (k + 1) = k from bSp_yes hGk (.inr (by rw [HS.out, Int.toNat_natCast, hzz, HE6.out]; show z * (el xs k).d < r * (el xs y).d; rw [hp1, hp2]; exact hc)))
                have HN2 := Lib.hid (show 0 ≤ (k : Int) → rsN xs crop (k : Int).toNat = r from fun _ => HE6.out)
                clear hp1 hp2 u2 u1 hzz
                go_wp2_with fail
                refine wp_region_quiet_below (by kernel_rfl) (by kernel_rfl) ?_
                repeat (go_big_quiet_step (fail))
                (refine wpQuiet_nil ?_; intro w1 hwq; have hb1 := of_cls hwq; clear hwq)
                (have hs1 := hb1.size; (try simp at hs1); obtain ⟨hc1, hf1, hn1⟩ := bcell hb1; (try have hz1_wr_0 : wr.heap.size < w1.heap.size := by omega); (try have hz1_wr_1 : wr.heap.size + 1 < w1.heap.size := by omega); (try have hz1_wr_2 : wr.heap.size + 2 < w1.heap.size := by omega); (try have hB1 : b < w1.heap.size := by omega); (try have hB2 : b' < w1.heap.size := by omega); (try have hz1_wr_2b : wr.heap.size + 1 + 1 < w1.heap.size := by omega); (try have hz1_w_0 : w.heap.size < w1.heap.size := by omega); (try have hz1_w_1 : w.heap.size + 1 < w1.heap.size := by omega); (try have hz1_w_2 : w.heap.size + 2 < w1.heap.size := by omega); (try have hz1_w_2b : w.heap.size + 1 + 1 < w1.heap.size := by omega))
                go_wp2_with fail
                refine wp_region_quiet_below (by kernel_rfl) (by kernel_rfl) ?_
                repeat (go_big_quiet_step (fail))
                (refine wpQuiet_nil ?_; intro w2 hwq; have hb2 := of_cls hwq; clear hwq)
                (have hs2 := hb2.size; (try simp at hs2); obtain ⟨hc2, hf2, hn2⟩ := bcell hb2; (try have hz2_wr_0 : wr.heap.size < w2.heap.size := by omega); (try have hz2_wr_1 : wr.heap.size + 1 < w2.heap.size := by omega); (try have hz2_wr_2 : wr.heap.size + 2 < w2.heap.size := by omega); (try have hB1 : b < w2.heap.size := by omega); (try have hB2 : b' < w2.heap.size := by omega); (try have hz2_wr_2b : wr.heap.size + 1 + 1 < w2.heap.size := by omega); (try have hz2_w_0 : w.heap.size < w2.heap.size := by omega); (try have hz2_w_1 : w.heap.size + 1 < w2.heap.size := by omega); (try have hz2_w_2 : w.heap.size + 2 < w2.heap.size := by omega); (try have hz2_w_2b : w.heap.size + 1 + 1 < w2.heap.size := by omega); (try have hz2_w1_0 : w1.heap.size < w2.heap.size := by omega); (try have hz2_w1_1 : w1.heap.size + 1 < w2.heap.size := by omega); (try have hz2_w1_2 : w1.heap.size + 2 < w2.heap.size := by omega); (try have hz2_w1_2b : w1.heap.size + 1 + 1 < w2.heap.size := by omega))
                go_wp2_with fail
                go_roundw
                case rel => exact ⟨k + 1, k, r, by omega, by go_num, rfl, rfl, by omega, hr, HN, HN2, (by repeat' (first | (with_reducible exact Below.refl _ _) | (with_reducible refine Below.alloc ?_ ?_ _) | (with_reducible refine Below.setCell ?_ ?_ _) | (with_reducible refine Below.drew ?_) | (with_reducible refine Below.trans ?_ (Below.mono (by with_reducible assumption) ?_)) | omega | (simp; done) | (simp; omega)))⟩
                case measure => simp [intOf] <;> omega
              · have HN := Lib.hid (show bSp (rsN xs crop) (deO xs) G (k + 1) = y from (bSp_no (by rintro ⟨_, hh | hh⟩; rw [HS.out] at hh; omega; rw [HS.out, Int.toNat_natCast, hzz, HE6.out] at hh; have hh : z * (el xs k).d < r * (el xs y).d := hh; rw [hp1, hp2] at hh; exact hc hh)).trans HS.out)
                clear hp1 hp2 u2 u1 hzz
                go_wp2_with fail
                refine wp_region_quiet_below (by kernel_rfl) (by kernel_rfl) ?_
                repeat (go_big_quiet_step (fail))
                (refine wpQuiet_nil ?_; intro w1 hwq; have hb1 := of_cls hwq; clear hwq)
                (have hs1 := hb1.size; (try simp at hs1); obtain ⟨hc1, hf1, hn1⟩ := bcell hb1; (try have hz1_wr_0 : wr.heap.size < w1.heap.size := by omega); (try have hz1_wr_1 : wr.heap.size + 1 < w1.heap.size := by omega); (try have hz1_wr_2 : wr.heap.size + 2 < w1.heap.size := by omega); (try have hB1 : b < w1.heap.size := by omega); (try have hB2 : b' < w1.heap.size := by omega); (try have hz1_wr_2b : wr.heap.size + 1 + 1 < w1.heap.size := by omega); (try have hz1_w_0 : w.heap.size < w1.heap.size := by omega); (try have hz1_w_1 : w.heap.size + 1 < w1.heap.size := by omega); (try have hz1_w_2 : w.heap.size + 2 < w1.heap.size := by omega); (try have hz1_w_2b : w.heap.size + 1 + 1 < w1.heap.size := by omega))
                go_wp2_with fail
                refine wp_region_quiet_below (by kernel_rfl) (by kernel_rfl) ?_
                repeat (go_big_quiet_step (fail))
                (refine wpQuiet_nil ?_; intro w2 hwq; have hb2 := of_cls hwq; clear hwq)
                (have hs2 := hb2.size; (try simp at hs2); obtain ⟨hc2, hf2, hn2⟩ := bcell hb2; (try have hz2_wr_0 : wr.heap.size < w2.heap.size := by omega); (try have hz2_wr_1 : wr.heap.size + 1 < w2.heap.size := by omega); (try have hz2_wr_2 : wr.heap.size + 2 < w2.heap.size := by omega); (try have hB1 : b < w2.heap.size := by omega); (try have hB2 : b' < w2.heap.size := by omega); (try have hz2_wr_2b : wr.heap.size + 1 + 1 < w2.heap.size := by omega); (try have hz2_w_0 : w.heap.size < w2.heap.size := by omega); (try have hz2_w_1 : w.heap.size + 1 < w2.heap.size := by omega); (try have hz2_w_2 : w.heap.size + 2 < w2.heap.size := by omega); (try have hz2_w_2b : w.heap.size + 1 + 1 < w2.heap.size := by omega); (try have hz2_w1_0 : w1.heap.size < w2.heap.size := by omega); (try have hz2_w1_1 : w1.heap.size + 1 < w2.heap.size := by omega); (try have hz2_w1_2 : w1.heap.size + 2 < w2.heap.size := by omega); (try have hz2_w1_2b : w1.heap.size + 1 + 1 < w2.heap.size := by omega))
                go_wp2_with fail
                go_roundw
                case rel => exact ⟨k + 1, y, z, by omega, by go_num, rfl, rfl, by omega, hzb, HN, HZZ, (by repeat' (first | (with_reducible exact Below.refl _ _) | (with_reducible refine Below.alloc ?_ ?_ _) | (with_reducible refine Below.setCell ?_ ?_ _) | (with_reducible refine Below.drew ?_) | (with_reducible refine Below.trans ?_ (Below.mono (by with_reducible assumption) ?_)) | omega | (simp; done) | (simp; omega)))⟩
                case measure => simp [intOf] <;> omega
          · rw [hGk, b2i, if_pos rfl] at q0
            have HN := Lib.hid (show bSp (rsN xs crop) (deO xs) G (k + 1) = x from (bSp_no (by rintro ⟨hh, _⟩; rw [hGk] at hh; exact absurd hh (by decide))).trans HS.out)
            go_wp2_with fail
            refine wp_region_quiet_below (by kernel_rfl) (by kernel_rfl) ?_
            repeat (go_big_quiet_step (fail))
            (refine wpQuiet_nil ?_; intro w1 hwq; have hb1 := of_cls hwq; clear hwq)
            (have hs1 := hb1.size; (try simp at hs1); obtain ⟨hc1, hf1, hn1⟩ := bcell hb1; (try have hz1_wr_0 : wr.heap.size < w1.heap.size := by omega); (try have hz1_wr_1 : wr.heap.size + 1 < w1.heap.size := by omega); (try have hz1_wr_2 : wr.heap.size + 2 < w1.heap.size := by omega); (try have hB1 : b < w1.heap.size := by omega); (try have hB2 : b' < w1.heap.size := by omega); (try have hz1_wr_2b : wr.heap.size + 1 + 1 < w1.heap.size := by omega); (try have hz1_w_0 : w.heap.size < w1.heap.size := by omega); (try have hz1_w_1 : w.heap.size + 1 < w1.heap.size := by omega); (try have hz1_w_2 : w.heap.size + 2 < w1.heap.size := by omega); (try have hz1_w_2b : w.heap.size + 1 + 1 < w1.heap.size := by omega))
            go_wp2_with fail
            refine wp_region_quiet_below (by kernel_rfl) (by kernel_rfl) ?_
            repeat (go_big_quiet_step (fail))
            (refine wpQuiet_nil ?_; intro w2 hwq; have hb2 := of_cls hwq; clear hwq)
            (have hs2 := hb2.size; (try simp at hs2); obtain ⟨hc2, hf2, hn2⟩ := bcell hb2; (try have hz2_wr_0 : wr.heap.size < w2.heap.size := by omega); (try have hz2_wr_1 : wr.heap.size + 1 < w2.heap.size := by omega); (try have hz2_wr_2 : wr.heap.size + 2 < w2.heap.size := by omega); (try have hB1 : b < w2.heap.size := by omega); (try have hB2 : b' < w2.heap.size := by omega); (try have hz2_wr_2b : wr.heap.size + 1 + 1 < w2.heap.size := by omega); (try have hz2_w_0 : w.heap.size < w2.heap.size := by omega); (try have hz2_w_1 : w.heap.size + 1 < w2.heap.size := by omega); (try have hz2_w_2 : w.heap.size + 2 < w2.heap.size := by omega); (try have hz2_w_2b : w.heap.size + 1 + 1 < w2.heap.size := by omega); (try have hz2_w1_0 : w1.heap.size < w2.heap.size := by omega); (try have hz2_w1_1 : w1.heap.size + 1 < w2.heap.size := by omega); (try have hz2_w1_2 : w1.heap.size + 2 < w2.heap.size := by omega); (try have hz2_w1_2b : w1.heap.size + 1 + 1 < w2.heap.size := by omega))
            go_wp2_with fail
            go_roundw
            case rel => exact ⟨k + 1, x, z, by omega, by go_num, rfl, rfl, by omega, hzb, HN, HZZ, (by repeat' (first | (with_reducible exact Below.refl _ _) | (with_reducible refine Below.alloc ?_ ?_ _) | (with_reducible refine Below.setCell ?_ ?_ _) | (with_reducible refine Below.drew ?_) | (with_reducible refine Below.trans ?_ (Below.mono (by with_reducible assumption) ?_)) | omega | (simp; done) | (simp; omega)))⟩
            case measure => simp [intOf] <;> omega
        · obtain rfl : k = xs.length := by omega
          have hKI : ¬ ((xs.length : Nat) : Int) < xs.length := by omega
          have HOx := HO.out
          rw [HS.out] at HOx
          obtain ⟨y, hy⟩ : ∃ y : Nat, bIm (rsN xs crop) (deO xs) G xs.length = y := ⟨_, rfl⟩
          rw [hy] at HOx
          have hsu := HSU.out
          rw [hy] at hsu
          obtain ⟨rfl, hGy, hyl⟩ := HOx
          have hr3 := hr3.out.below hbq hl3
          have hr4 := hr4.out.below hbq hl4
          have f3 := hr3.frozen y
          have f4 := hr4.frozen y
          have q3 := fnV_cell hr3 hyl
          have q4 := fnV_cell hr4 hyl
          have r4 := hr4.set (j := y) (.int .i64 1)
          have r3 := ((hr3.far (p := ⟨g4, y, none⟩) hg34 (.int .i64 1)).set (j := y) (.int .i64 (dcF xs crop G y + 1)))
          have r4' := r4.far (p := ⟨g3, y, none⟩) (Ne.symm hg34) (.int .i64 (dcF xs crop G y + 1))
          rw [fnV_set, dcF_upd hGy, ← hsu] at r3
          rw [fnV_set, gtF_upd, ← hsu] at r4'
          have R3 := Lib.hid r3
          have R4 := Lib.hid r4'
          have hYI : (y : Int) < xs.length := by omega
          have hY0 : (0 : Int) ≤ y := by omega
          obtain ⟨_, q, _, _, _, _, _, _, _, hqb, e6, _⟩ := fl_step HBD.out hcr y
          have hdc : dcF xs crop G y = q := by unfold dcF; rw [hGy, e6]; simp [b2i]
          rw [hdc] at q3 R3 R4
          have e9 : wrap64 (q + 1) = q + 1 := wrap_in ⟨by omega, by omega⟩
          clear r3 r4 r4' hr3 hr4 hdc e6 hsu hy hGy
          go_wp2_with fail
          go_roundw
          case rel => exact ⟨t + 1, by omega, by go_num, R3, R4, (by repeat' (first | (with_reducible exact Below.refl _ _) | (with_reducible refine Below.alloc ?_ ?_ _) | (with_reducible refine Below.setCell ?_ ?_ _) | (with_reducible refine Below.drew ?_) | (with_reducible refine Below.trans ?_ (Below.mono (by with_reducible assumption) ?_)) | omega | (simp; done) | (simp; omega)))⟩
          case measure => simp [intOf] <;> omega
    · obtain rfl : t = LN := by omega
      have hI : ¬ (0 : Int) < (t : Int) - t := by omega
      have e1 : fnV (dcF xs crop (gN xs crop t)) xs.length = (dcL xs crop).flatMap ie := by rw [fnV_list, dcL, HLN.out, Int.toNat_natCast]
      have hr3 := hr3.out
      rw [e1] at hr3
      have HR := Lib.hid hr3
      clear hr3 e1
      go_wp2_with fail
      go_ret2
      exact ⟨_, c3, rfl, OwnAt.row hg3w HR.out, hb⟩
end Go.Proofs.YtimdnihadhbjpaaDoor
