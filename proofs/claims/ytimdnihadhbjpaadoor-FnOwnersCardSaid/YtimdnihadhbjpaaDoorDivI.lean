/- Contracts: a crop is divided, by the program (chapter 22). -/
import Derived.Test.YtimdnihadhbjpaaDoorDivS
import Derived.RegionTactic
set_option linter.unusedSimpArgs false
set_option linter.unusedVariables false
namespace Go.Proofs.YtimdnihadhbjpaaDoor
open Go.RowKit Go.Sort Go.Salt
attribute [local go_sem] cell_rg
def hfF (f : Nat → Int) (k i : Nat) : Int := if i < k then f i else 0
theorem hfF_upd (f : Nat → Int) (k : Nat) : updI (hfF f k) k (f k) = hfF f (k + 1) := by
  funext i
  unfold updI hfF
  by_cases e : i = k
  · subst e; rw [if_pos rfl, if_pos (by omega)]
  · rw [if_neg e]
    by_cases h : i < k
    · rw [if_pos h, if_pos (by omega)]
    · rw [if_neg h, if_neg (by omega)]
theorem fnV_same {f g : Nat → Int} {n : Nat} (h : ∀ i, i < n → f i = g i) : fnV f n = fnV g n := by
  unfold fnV; apply List.map_congr_left; intro i hi; rw [h i (List.mem_range.1 hi)]
theorem hfF_all (f : Nat → Int) (n : Nat) : fnV (hfF f n) n = fnV f n := fnV_same fun i hi => by unfold hfF; rw [if_pos hi]
theorem hfF_none (f : Nat → Int) (n : Nat) : fnV (fun _ => 0) n = fnV (hfF f 0) n := fnV_same fun i hi => by unfold hfF; rw [if_neg (by omega)]
def rgF (xs : List Ow) (crop : Int) (G : Nat → Bool) : Nat → Int := rGm (rsN xs crop) G
theorem rgF_upd {xs : List Ow} {crop : Int} {G : Nat → Bool} {b : Nat} : updI (rgF xs crop G) b (-1) = rgF xs crop (updG G b) := by
  funext i
  unfold updI rgF rGm updG
  by_cases e : i = b
  · subst e; rw [if_pos rfl, if_pos rfl, if_pos rfl]
  · rw [if_neg e, if_neg e]
theorem rgF_bd {xs : List Ow} (h : OwBd xs) (crop : Int) (G : Nat → Bool) (i : Nat) : -1 ≤ rgF xs crop G i ∧ rgF xs crop G i < 1000 := by
  have h1 := rsD_bd (nu := nuO xs) (c := crop) (de := deO xs) (fun i => (h i).2.1) i
  have h2 : deO xs i ≤ 1000 := (h i).2.2
  unfold rgF rGm
  split
  · omega
  · exact ⟨by show -1 ≤ rsD (nuO xs) (deO xs) crop i; omega, by show rsD (nuO xs) (deO xs) crop i < 1000; omega⟩
theorem mul_bd4 {a b : Int} (ha : -1 ≤ a ∧ a < 1000) (hb : 1 ≤ b ∧ b ≤ 1000) : -1000 ≤ a * b ∧ a * b ≤ 1000000 := by
  rcases Int.lt_or_le a 0 with h | h
  · obtain rfl : a = -1 := by omega
    omega
  · have := mul_bd3 ⟨h, ha.2⟩ hb; omega
theorem bIm_zero (rs de : Nat → Int) (G : Nat → Bool) : bIm rs de G 0 = 0 := rfl
theorem bIm_yes {xs : List Ow} {crop : Int} {G : Nat → Bool} {k y : Nat} (hy : bIm (rsN xs crop) (deO xs) G k = y) (h : rgF xs crop G y * (el xs k).d < rgF xs crop G k * (el xs y).d) : bIm (rsN xs crop) (deO xs) G (k + 1) = k := by
  rw [bIm, hy]; exact if_pos h
theorem bIm_no {xs : List Ow} {crop : Int} {G : Nat → Bool} {k y : Nat} (hy : bIm (rsN xs crop) (deO xs) G k = y) (h : ¬ rgF xs crop G y * (el xs k).d < rgF xs crop G k * (el xs y).d) : bIm (rsN xs crop) (deO xs) G (k + 1) = y := by
  rw [bIm, hy]; exact if_neg h
set_option maxHeartbeats 4000000 in
theorem iDivideCrop_no (A : Option Addr) (c : Nat) (xs : List Ow) (crop : Int) (w : World) (h : Rd w w.heap.size A 3 Ow.enc xs) (hx : xs.length ≤ 1048576) (hc : xs.length ≤ c) (hz : OwSz 1048576 xs) (hB : dcB xs crop = false) :
    Calls Tryd.prog 29 #[.slice A xs.length c, .int .i64 crop] w fun e w' => MadeAt w 3 [] 0 (fun v => .returned (.tuple #[v, .bool false])) e w' := by
  cases hg : arB xs
  · have Hg := Lib.hid hg
    clear hg hB
    go_enter Tryd.func29, Tryd.ntmps29
    go_wp2_with fail
    refine (iAreOwners_any A c xs _ (h.to (by repeat' (first | (with_reducible exact Below.refl _ _) | (with_reducible refine Below.alloc ?_ ?_ _) | (with_reducible refine Below.setCell ?_ ?_ _) | (with_reducible refine Below.drew ?_) | (with_reducible refine Below.trans ?_ (Below.mono (by with_reducible assumption) ?_)) | omega | (simp; done) | (simp; omega)))) hx hc hz).mono ?_
    rintro e w1 ⟨rfl, hb1⟩
    have hs1 := hb1.size
    rw [Hg.out]
    go_wp2
    go_ret2
    exact MadeAt.nil (fun v => .returned (.tuple #[v, .bool false])) (by repeat' (first | (with_reducible exact Below.refl _ _) | (with_reducible refine Below.alloc ?_ ?_ _) | (with_reducible refine Below.setCell ?_ ?_ _) | (with_reducible refine Below.drew ?_) | (with_reducible refine Below.trans ?_ (Below.mono (by with_reducible assumption) ?_)) | omega | (simp; done) | (simp; omega)))
  · have Hg := Lib.hid hg
    have hcb : inB crop 0 1000000 = false := by rw [dcB, hg, Bool.true_and] at hB; exact hB
    clear hg hB
    go_enter Tryd.func29, Tryd.ntmps29
    go_wp2_with fail
    refine (iAreOwners_any A c xs _ (h.to (by repeat' (first | (with_reducible exact Below.refl _ _) | (with_reducible refine Below.alloc ?_ ?_ _) | (with_reducible refine Below.setCell ?_ ?_ _) | (with_reducible refine Below.drew ?_) | (with_reducible refine Below.trans ?_ (Below.mono (by with_reducible assumption) ?_)) | omega | (simp; done) | (simp; omega)))) hx hc hz).mono ?_
    rintro e w1 ⟨rfl, hb1⟩
    have hs1 := hb1.size
    rw [Hg.out]
    go_wp2_with fail
    (go_at_call 72; refine (isCrop_any _ _).mono ?_; rintro e w1 ⟨rfl, rfl⟩)
    rw [hcb]
    go_wp2
    go_ret2
    exact MadeAt.nil (fun v => .returned (.tuple #[v, .bool false])) (by repeat' (first | (with_reducible exact Below.refl _ _) | (with_reducible refine Below.alloc ?_ ?_ _) | (with_reducible refine Below.setCell ?_ ?_ _) | (with_reducible refine Below.drew ?_) | (with_reducible refine Below.trans ?_ (Below.mono (by with_reducible assumption) ?_)) | omega | (simp; done) | (simp; omega)))
set_option maxRecDepth 100000 in
set_option maxHeartbeats 16000000 in
theorem iDivideCrop_yes (A : Option Addr) (c : Nat) (xs : List Ow) (crop : Int) (w : World) (h : Rd w w.heap.size A 3 Ow.enc xs) (hx : xs.length ≤ 1048576) (hc : xs.length ≤ c) (hz : OwSz 1048576 xs) (hg : arB xs = true) (hcb : inB crop 0 1000000 = true) :
    Calls Tryd.prog 29 #[.slice A xs.length c, .int .i64 crop] w fun e w' => MadeAt w 3 ((dcL xs crop).flatMap ie) xs.length (fun v => .returned (.tuple #[v, .bool true])) e w' := by
  have HX := Lib.hid h
  have HZ := Lib.hid hz
  have Hg := Lib.hid hg
  have HBD := Lib.hid (arOK_bd hg)
  have hl := arOK_len hg
  have hlf := lf_left hg crop
  have hcr := inB_iff.1 hcb
  obtain ⟨LN, hLN⟩ : ∃ L : Nat, lfN xs crop xs.length = L := ⟨(lfN xs crop xs.length).toNat, by omega⟩
  rw [hLN] at hlf
  have HLN := Lib.hid hLN
  have hLl : LN < xs.length := by omega
  clear h hz hg hLN hlf
  obtain ⟨i0, hi, hz0, hz1, hz2⟩ := info_parts int_info
  have hmk := fun (W : World) => run_make (P := Tryd.prog) W 38 3 i0 _ Tryd.underlying38 hi hz0 .i64 .i64 xs.length xs.length (by omega) (by omega) (by rw [hz2]; omega) (by omega)
  simp only [hz1, Int.toNat_natCast] at hmk
  clear hi hz0 hz1 hz2
  go_enter Tryd.func29, Tryd.ntmps29
  go_wp2_with fail
  refine (iAreOwners_any A c xs _ (HX.out.to (by repeat' (first | (with_reducible exact Below.refl _ _) | (with_reducible refine Below.alloc ?_ ?_ _) | (with_reducible refine Below.setCell ?_ ?_ _) | (with_reducible refine Below.drew ?_) | (with_reducible refine Below.trans ?_ (Below.mono (by with_reducible assumption) ?_)) | omega | (simp; done) | (simp; omega)))) hx hc HZ.out).mono ?_
  rintro e w1 ⟨rfl, hb1⟩
  have hs1 := hb1.size
  rw [Hg.out]
  go_wp2_with fail
  (go_at_call 72; refine (isCrop_any _ _).mono ?_; rintro e w1 ⟨rfl, rfl⟩)
  rw [hcb]
  clear hcb
  go_upto_region 5 with (fail)
  obtain ⟨gT, hgT⟩ : ∃ g, w1.heap.size = g := ⟨_, rfl⟩
  refine cut_world (fun W => Row W gT 3 (fnV (hfF (flN xs crop) 0) xs.length) ∧ Row W (gT + 1) 3 (fnV (hfF (rsN xs crop) 0) xs.length) ∧ Below w.heap.size w W) ⟨?_, ?_, (by repeat' (first | (with_reducible exact Below.refl _ _) | (with_reducible refine Below.alloc ?_ ?_ _) | (with_reducible refine Below.setCell ?_ ?_ _) | (with_reducible refine Below.drew ?_) | (with_reducible refine Below.trans ?_ (Below.mono (by with_reducible assumption) ?_)) | omega | (simp; done) | (simp; omega)))⟩ ?_
  · have e1 : (madeCells #[.int .i64 0] xs.length).toList = fnV (hfF (flN xs crop) 0) xs.length := by rw [madeCells_one, fnV_rep]; exact hfF_none _ _
    have := Row.new w1 3 (madeCells #[.int .i64 0] xs.length)
    rw [e1, hgT] at this
    exact this.to (by repeat' (first | (with_reducible exact Below.refl _ _) | (with_reducible refine Below.alloc ?_ ?_ _) | (with_reducible refine Below.setCell ?_ ?_ _) | (with_reducible refine Below.drew ?_) | (with_reducible refine Below.trans ?_ (Below.mono (by with_reducible assumption) ?_)) | omega | (simp; done) | (simp; omega)))
  · have e1 : (madeCells #[.int .i64 0] xs.length).toList = fnV (hfF (rsN xs crop) 0) xs.length := by rw [madeCells_one, fnV_rep]; exact hfF_none _ _
    have := Row.new (w1.alloc (.cells (madeCells #[.int .i64 0] xs.length) 3)) 3 (madeCells #[.int .i64 0] xs.length)
    rw [e1] at this
    simpa [hgT] using this
  clear hmk
  rintro w4 ⟨hr3, hr4, hb4⟩
  have hs4 := hb4.size
  have hgw : w.heap.size ≤ gT := by omega
  clear hb1 hs1
  have HR3 := Lib.hid hr3
  have HR4 := Lib.hid hr4
  have HB4 := Lib.hid hb4
  rw [hgT]
  clear hr3 hr4 hb4 hgT
  go_wp2_with fail
  go_loopw [29] (fun iv wr => ∃ k : Nat, k ≤ xs.length ∧ iv = .int .i64 k ∧ Hid (Row wr gT 3 (fnV (hfF (flN xs crop) k) xs.length)) ∧ Hid (Row wr (gT + 1) 3 (fnV (hfF (rsN xs crop) k) xs.length)) ∧ Below w.heap.size w wr) (fun iv _ => xs.length - (intOf iv).toNat)
  case atStart => exact ⟨0, Nat.zero_le _, rfl, HR3, HR4, HB4.out⟩
  case round =>
    clear HR3 HR4 HB4 hs4
    obtain ⟨k, hk, rfl, hr3, hr4, hb⟩ := hrel
    have hs := hb.size
    by_cases hkn : k < xs.length
    · obtain ⟨b, o, rfl, hB', c0, c1, c2⟩ := ow_cells (HX.out.below hb) hkn
      have hB1 : b < wr.heap.size := by omega
      have hKI : (k : Int) < xs.length := by omega
      have hK0 : (0 : Int) ≤ k := by omega
      have hl3 := hr3.out.lt
      have hl4 := hr4.out.lt
      go_upto_region 8 with (fail)
      refine cut_world (fun W => Row W wr.heap.size 54 [.string (el xs k).s, .int .i64 (el xs k).n, .int .i64 (el xs k).d] ∧ Row W gT 3 (fnV (hfF (flN xs crop) k) xs.length) ∧ Row W (gT + 1) 3 (fnV (hfF (rsN xs crop) k) xs.length) ∧ Below wr.heap.size wr W) ⟨by first | exact Row.new _ _ _ | exact (Row.new _ _ _).to (by repeat' (first | (with_reducible exact Below.refl _ _) | (with_reducible refine Below.alloc ?_ ?_ _) | (with_reducible refine Below.setCell ?_ ?_ _) | (with_reducible refine Below.drew ?_) | (with_reducible refine Below.trans ?_ (Below.mono (by with_reducible assumption) ?_)) | omega | (simp; done) | (simp; omega))), hr3.out.to (by repeat' (first | (with_reducible exact Below.refl _ _) | (with_reducible refine Below.alloc ?_ ?_ _) | (with_reducible refine Below.setCell ?_ ?_ _) | (with_reducible refine Below.drew ?_) | (with_reducible refine Below.trans ?_ (Below.mono (by with_reducible assumption) ?_)) | omega | (simp; done) | (simp; omega))), hr4.out.to (by repeat' (first | (with_reducible exact Below.refl _ _) | (with_reducible refine Below.alloc ?_ ?_ _) | (with_reducible refine Below.setCell ?_ ?_ _) | (with_reducible refine Below.drew ?_) | (with_reducible refine Below.trans ?_ (Below.mono (by with_reducible assumption) ?_)) | omega | (simp; done) | (simp; omega))), (by repeat' (first | (with_reducible exact Below.refl _ _) | (with_reducible refine Below.alloc ?_ ?_ _) | (with_reducible refine Below.setCell ?_ ?_ _) | (with_reducible refine Below.drew ?_) | (with_reducible refine Below.trans ?_ (Below.mono (by with_reducible assumption) ?_)) | omega | (simp; done) | (simp; omega)))⟩ ?_
      clear c0 c1 c2
      rintro w2 ⟨hbx, hr3, hr4, hb2⟩
      obtain ⟨x0, x1, x2⟩ := row3o hbx
      have hbl := hbx.lt
      have hs2 := hb2.size
      have q3 := fnV_cell hr3 hkn
      have q4 := fnV_cell hr4 hkn
      have f3 := hr3.frozen k
      have f4 := hr4.frozen k
      obtain ⟨p, q, r, hp, e1, e2, e3, e4, e5, hq, e6, e7, e8, e9, hr, e10⟩ := fl_step HBD.out hcr k
      have R3 := Lib.hid hr3
      have R4 := Lib.hid hr4
      have E6 := Lib.hid e6
      have E10 := Lib.hid e10
      clear hbx hr3 hr4 e6 e10
      have hne : gT ≠ gT + 1 := by omega
      have r3 := R3.out.set (j := k) (.int .i64 q)
      rw [fnV_set, ← E6.out, hfF_upd] at r3
      have r3 := r3.far (p := ⟨gT + 1, k, none⟩) hne (.int .i64 r)
      rw [E6.out] at r3
      have r4 := (R4.out.far (p := ⟨gT, k, none⟩) (Ne.symm hne) (.int .i64 q)).set (j := k) (.int .i64 r)
      rw [fnV_set] at r4
      rw [← E10.out, hfF_upd, E10.out] at r4
      have S3 := Lib.hid r3
      have S4 := Lib.hid r4
      clear r3 r4
      go_region_with (fail)
      all_goals (try go_wp2_with fail)
      all_goals
        go_roundw
        case rel =>
          simp only [e1, e3, e5, e7]
          exact ⟨k + 1, by omega, by go_num, Lib.hid (S3.out.to (by repeat' (first | (with_reducible exact Below.refl _ _) | (with_reducible refine Below.alloc ?_ ?_ _) | (with_reducible refine Below.setCell ?_ ?_ _) | (with_reducible refine Below.drew ?_) | (with_reducible refine Below.trans ?_ (Below.mono (by with_reducible assumption) ?_)) | omega | (simp; done) | (simp; omega)))), Lib.hid (S4.out.to (by repeat' (first | (with_reducible exact Below.refl _ _) | (with_reducible refine Below.alloc ?_ ?_ _) | (with_reducible refine Below.setCell ?_ ?_ _) | (with_reducible refine Below.drew ?_) | (with_reducible refine Below.trans ?_ (Below.mono (by with_reducible assumption) ?_)) | omega | (simp; done) | (simp; omega)))), (by repeat' (first | (with_reducible exact Below.refl _ _) | (with_reducible refine Below.alloc ?_ ?_ _) | (with_reducible refine Below.setCell ?_ ?_ _) | (with_reducible refine Below.drew ?_) | (with_reducible refine Below.trans ?_ (Below.mono (by with_reducible assumption) ?_)) | omega | (simp; done) | (simp; omega)))⟩
        case measure => simp [intOf] <;> omega
    · obtain rfl : k = xs.length := by omega
      have hKI : ¬ ((xs.length : Nat) : Int) < xs.length := by omega
      have hr3 := hr3.out
      have hr4 := hr4.out
      rw [hfF_all] at hr3 hr4
      have e1 : fnV (flN xs crop) xs.length = fnV (dcF xs crop (gN xs crop 0)) xs.length := fnV_same fun i _ => by simp [dcF, gN, gRd, b2i]
      have e2 : fnV (rsN xs crop) xs.length = fnV (rgF xs crop (gN xs crop 0)) xs.length := fnV_same fun i _ => by simp [rgF, rGm, gN, gRd]
      rw [e1] at hr3
      rw [e2] at hr4
      have HR3 := Lib.hid hr3
      have HR4 := Lib.hid hr4
      have HB := Lib.hid hb
      clear e1 e2 hr3 hr4
      obtain ⟨wo, rfl⟩ : ∃ x, x = wr := ⟨_, rfl⟩
      go_wp2_with fail
      refine (leftTons_any A c xs crop _ ((HX.out.to HB.out).to (by repeat' (first | (with_reducible exact Below.refl _ _) | (with_reducible refine Below.alloc ?_ ?_ _) | (with_reducible refine Below.setCell ?_ ?_ _) | (with_reducible refine Below.drew ?_) | (with_reducible refine Below.trans ?_ (Below.mono (by with_reducible assumption) ?_)) | omega | (simp; done) | (simp; omega)))) (by omega) HBD.out hcr).mono ?_
      rintro e w5 ⟨rfl, hb5⟩
      have hs5 := hb5.size
      rw [HLN.out]
      have HR3' := Lib.hid (HR3.out.to hb5)
      have HR4' := Lib.hid (HR4.out.to hb5)
      have HB5 := Lib.hid (HB.out.trans (hb5.mono hs))
      clear HR3 HR4 HB hb hb5
      go_wp2_with fail
      go_loopw [58] (fun lv wr => ∃ t : Nat, t ≤ LN ∧ lv = .int .i64 t ∧ Hid (Row wr gT 3 (fnV (dcF xs crop (gN xs crop t)) xs.length)) ∧ Hid (Row wr (gT + 1) 3 (fnV (rgF xs crop (gN xs crop t)) xs.length)) ∧ Below w.heap.size w wr) (fun lv _ => LN - (intOf lv).toNat)
      case atStart => exact ⟨0, Nat.zero_le _, rfl, HR3', HR4', HB5.out⟩
      case round =>
        clear HR3' HR4' HB5 hs5
        obtain ⟨t, ht, rfl, hr3, hr4, hb⟩ := hrel
        obtain ⟨wo, rfl⟩ : ∃ x, x = wr := ⟨_, rfl⟩
        have hs := hb.size
        by_cases hlt : t < LN
        · have hI : (t : Int) < LN := by omega
          have hone := gN_one HBD.out crop (t := t) (by omega)
          have hsu := gN_succ xs crop t
          obtain ⟨G, hG⟩ : ∃ G, gN xs crop t = G := ⟨_, rfl⟩
          rw [hG] at hone hsu hr3 hr4
          have HO := Lib.hid hone.2
          have HSU := Lib.hid hsu
          clear hone hsu hG
          have hl3 := hr3.out.lt
          have hl4 := hr4.out.lt
          go_wp2_with fail
          go_loopw [10, 62] (fun bv iv wq => ∃ (k y : Nat), k ≤ xs.length ∧ iv = .int .i64 k ∧ bv = .int .i64 y ∧ y < xs.length ∧ Hid (bIm (rsN xs crop) (deO xs) G k = y) ∧ Below wo.heap.size wo wq) (fun _ iv _ => xs.length - (intOf iv).toNat)
          case atStart => exact ⟨0, 0, Nat.zero_le _, rfl, rfl, by omega, Lib.hid rfl, (by repeat' (first | (with_reducible exact Below.refl _ _) | (with_reducible refine Below.alloc ?_ ?_ _) | (with_reducible refine Below.setCell ?_ ?_ _) | (with_reducible refine Below.drew ?_) | (with_reducible refine Below.trans ?_ (Below.mono (by with_reducible assumption) ?_)) | omega | (simp; done) | (simp; omega)))⟩
          case round =>
            obtain ⟨k, y, hk, rfl, rfl, hy, HS, hbq⟩ := hrel
            have hsq := hbq.size
            by_cases hkn : k < xs.length
            · obtain ⟨b, o, rfl, hB', c0, c1, c2⟩ := ow_cells ((HX.out.below hb).below (hbq.mono hs)) hkn
              obtain ⟨b', o', hadr, hB'', _, _, d2⟩ := ow_cells ((HX.out.below hb).below (hbq.mono hs)) hy
              obtain ⟨rfl, rfl⟩ : b = b' ∧ o = o' := by simpa using hadr
              have q0 := (hbq.cell (p := ⟨gT + 1, k, none⟩) hl4).trans (fnV_cell hr4.out hkn)
              have q1 := (hbq.cell (p := ⟨gT + 1, y, none⟩) hl4).trans (fnV_cell hr4.out hy)
              have hB1 : b < wr.heap.size := by omega
              have hB4 : gT + 1 < wr.heap.size := by omega
              have hKI : (k : Int) < xs.length := by omega
              have hK0 : (0 : Int) ≤ k := by omega
              have hYI : (y : Int) < xs.length := by omega
              have hY0 : (0 : Int) ≤ y := by omega
              have u1 := (HBD.out k).2
              have u2 := (HBD.out y).2
              have b1 := mul_bd4 (rgF_bd HBD.out crop G k) u2
              have b2 := mul_bd4 (rgF_bd HBD.out crop G y) u1
              have hyes := bIm_yes (crop := crop) (G := G) (k := k) HS.out
              have hno := bIm_no (crop := crop) (G := G) (k := k) HS.out
              obtain ⟨a1, ha1⟩ : ∃ p, rgF xs crop G k = p := ⟨_, rfl⟩
              obtain ⟨a2, ha2⟩ : ∃ p, rgF xs crop G y = p := ⟨_, rfl⟩
              rw [ha1] at q0 b1
              rw [ha2] at q1 b2
              rw [ha1, ha2] at hyes hno
              obtain ⟨p1, hp1⟩ : ∃ p, a1 * (el xs y).d = p := ⟨_, rfl⟩
              obtain ⟨p2, hp2⟩ : ∃ p, a2 * (el xs k).d = p := ⟨_, rfl⟩
              rw [hp1] at b1
              rw [hp2] at b2
              rw [hp1, hp2] at hyes hno
              have v1 : wrap64 (a1 * (el xs y).d) = p1 := by rw [hp1]; unfold wrap64; omega
              have v2 : wrap64 (a2 * (el xs k).d) = p2 := by rw [hp2]; unfold wrap64; omega
              go_upto_region 16 with (fail)
              refine cut_world (fun W => Row W wr.heap.size 54 [.string (el xs k).s, .int .i64 (el xs k).n, .int .i64 (el xs k).d] ∧ W.cell? ⟨gT + 1, k, none⟩ = some (.int .i64 a1) ∧ W.cell? ⟨gT + 1, y, none⟩ = some (.int .i64 a2) ∧ W.cell? ⟨b, o + y * 3 + 2, none⟩ = some (.int .i64 (el xs y).d) ∧ Below wr.heap.size wr W) ⟨by first | exact Row.new _ _ _ | exact (Row.new _ _ _).to (by repeat' (first | (with_reducible exact Below.refl _ _) | (with_reducible refine Below.alloc ?_ ?_ _) | (with_reducible refine Below.setCell ?_ ?_ _) | (with_reducible refine Below.drew ?_) | (with_reducible refine Below.trans ?_ (Below.mono (by with_reducible assumption) ?_)) | omega | (simp; done) | (simp; omega))), ((show Below wr.heap.size wr _ from (by repeat' (first | (with_reducible exact Below.refl _ _) | (with_reducible refine Below.alloc ?_ ?_ _) | (with_reducible refine Below.setCell ?_ ?_ _) | (with_reducible refine Below.drew ?_) | (with_reducible refine Below.trans ?_ (Below.mono (by with_reducible assumption) ?_)) | omega | (simp; done) | (simp; omega)))).cell (p := ⟨gT + 1, k, none⟩) hB4).trans q0, ((show Below wr.heap.size wr _ from (by repeat' (first | (with_reducible exact Below.refl _ _) | (with_reducible refine Below.alloc ?_ ?_ _) | (with_reducible refine Below.setCell ?_ ?_ _) | (with_reducible refine Below.drew ?_) | (with_reducible refine Below.trans ?_ (Below.mono (by with_reducible assumption) ?_)) | omega | (simp; done) | (simp; omega)))).cell (p := ⟨gT + 1, y, none⟩) hB4).trans q1, ((show Below wr.heap.size wr _ from (by repeat' (first | (with_reducible exact Below.refl _ _) | (with_reducible refine Below.alloc ?_ ?_ _) | (with_reducible refine Below.setCell ?_ ?_ _) | (with_reducible refine Below.drew ?_) | (with_reducible refine Below.trans ?_ (Below.mono (by with_reducible assumption) ?_)) | omega | (simp; done) | (simp; omega)))).cell (p := ⟨b, o + y * 3 + 2, none⟩) hB1).trans d2, (by repeat' (first | (with_reducible exact Below.refl _ _) | (with_reducible refine Below.alloc ?_ ?_ _) | (with_reducible refine Below.setCell ?_ ?_ _) | (with_reducible refine Below.drew ?_) | (with_reducible refine Below.trans ?_ (Below.mono (by with_reducible assumption) ?_)) | omega | (simp; done) | (simp; omega)))⟩ ?_
              clear c0 c1 c2 q0 q1 d2 hp1 hp2 ha1 ha2 u1 u2
              rintro w2 ⟨hbx, q0, q1, d2, hb2⟩
              obtain ⟨x0, x1, x2⟩ := row3o hbx
              have hbl := hbx.lt
              have hs2 := hb2.size
              clear hbx
              have hB5 : gT + 1 < w2.heap.size := by omega
              have hB6 : b < w2.heap.size := by omega
              by_cases hc : p2 < p1
              · have HN := Lib.hid (hyes hc)
                clear hyes hno
                go_wp2_with fail
                refine wp_region_quiet_below (by kernel_rfl) (by kernel_rfl) ?_
                repeat (go_big_quiet_step (fail))
                (refine wpQuiet_nil ?_; intro w1 hwq; have hb1 := of_cls hwq; clear hwq)
                (have hs1 := hb1.size; (try simp at hs1); obtain ⟨hc1, hf1, hn1⟩ := bcell hb1; (try have hz1_wr_0 : wr.heap.size < w1.heap.size := by omega); (try have hz1_wr_1 : wr.heap.size + 1 < w1.heap.size := by omega); (try have hz1_wr_2 : wr.heap.size + 2 < w1.heap.size := by omega); (try have hB1 : b < w1.heap.size := by omega); (try have hB2 : b' < w1.heap.size := by omega); (try have hz1_wr_2b : wr.heap.size + 1 + 1 < w1.heap.size := by omega); (try have hz1_w_0 : w.heap.size < w1.heap.size := by omega); (try have hz1_w_1 : w.heap.size + 1 < w1.heap.size := by omega); (try have hz1_w_2 : w.heap.size + 2 < w1.heap.size := by omega); (try have hz1_w_2b : w.heap.size + 1 + 1 < w1.heap.size := by omega))
                go_wp2_with fail
                go_roundw
                case rel => exact ⟨k + 1, k, by omega, by go_num, rfl, hkn, HN, (by repeat' (first | (with_reducible exact Below.refl _ _) | (with_reducible refine Below.alloc ?_ ?_ _) | (with_reducible refine Below.setCell ?_ ?_ _) | (with_reducible refine Below.drew ?_) | (with_reducible refine Below.trans ?_ (Below.mono (by with_reducible assumption) ?_)) | omega | (simp; done) | (simp; omega)))⟩
                case measure => simp [intOf] <;> omega
              · have HN := Lib.hid (hno hc)
                clear hyes hno
                go_wp2_with fail
                refine wp_region_quiet_below (by kernel_rfl) (by kernel_rfl) ?_
                repeat (go_big_quiet_step (fail))
                (refine wpQuiet_nil ?_; intro w1 hwq; have hb1 := of_cls hwq; clear hwq)
                (have hs1 := hb1.size; (try simp at hs1); obtain ⟨hc1, hf1, hn1⟩ := bcell hb1; (try have hz1_wr_0 : wr.heap.size < w1.heap.size := by omega); (try have hz1_wr_1 : wr.heap.size + 1 < w1.heap.size := by omega); (try have hz1_wr_2 : wr.heap.size + 2 < w1.heap.size := by omega); (try have hB1 : b < w1.heap.size := by omega); (try have hB2 : b' < w1.heap.size := by omega); (try have hz1_wr_2b : wr.heap.size + 1 + 1 < w1.heap.size := by omega); (try have hz1_w_0 : w.heap.size < w1.heap.size := by omega); (try have hz1_w_1 : w.heap.size + 1 < w1.heap.size := by omega); (try have hz1_w_2 : w.heap.size + 2 < w1.heap.size := by omega); (try have hz1_w_2b : w.heap.size + 1 + 1 < w1.heap.size := by omega))
                go_wp2_with fail
                go_roundw
                case rel => exact ⟨k + 1, y, by omega, by go_num, rfl, hy, HN, (by repeat' (first | (with_reducible exact Below.refl _ _) | (with_reducible refine Below.alloc ?_ ?_ _) | (with_reducible refine Below.setCell ?_ ?_ _) | (with_reducible refine Below.drew ?_) | (with_reducible refine Below.trans ?_ (Below.mono (by with_reducible assumption) ?_)) | omega | (simp; done) | (simp; omega)))⟩
                case measure => simp [intOf] <;> omega
            · obtain rfl : k = xs.length := by omega
              have hKI : ¬ ((xs.length : Nat) : Int) < xs.length := by omega
              have HOx := HO.out
              have hsu := HSU.out
              rw [HS.out] at HOx hsu
              obtain ⟨hGy, _⟩ := HOx
              have hr3 := hr3.out.below hbq hl3
              have hr4 := hr4.out.below hbq hl4
              have hne : gT ≠ gT + 1 := by omega
              have f3 := hr3.frozen y
              have f4 := hr4.frozen y
              have q3 := fnV_cell hr3 hy
              have q4 := fnV_cell hr4 hy
              have r3 := (hr3.set (j := y) (.int .i64 (dcF xs crop G y + 1))).far (p := ⟨gT + 1, y, none⟩) hne (.int .i64 (-1))
              have r4 := (hr4.far (p := ⟨gT, y, none⟩) (Ne.symm hne) (.int .i64 (dcF xs crop G y + 1))).set (j := y) (.int .i64 (-1))
              rw [fnV_set, dcF_upd hGy, ← hsu] at r3
              rw [fnV_set, rgF_upd, ← hsu] at r4
              have R3 := Lib.hid r3
              have R4 := Lib.hid r4
              have hYI : (y : Int) < xs.length := by omega
              have hY0 : (0 : Int) ≤ y := by omega
              obtain ⟨_, q, _, _, _, _, _, _, _, hqb, e6, _⟩ := fl_step HBD.out hcr y
              have hdc : dcF xs crop G y = q := by unfold dcF; rw [hGy, e6]; simp [b2i]
              rw [hdc] at q3 R3 R4
              have e9 : wrap64 (q + 1) = q + 1 := wrap_in ⟨by omega, by omega⟩
              clear r3 r4 hr3 hr4 hdc e6 hsu hGy
              go_wp2_with fail
              go_roundw
              case rel => exact ⟨t + 1, by omega, by go_num, R3, R4, (by repeat' (first | (with_reducible exact Below.refl _ _) | (with_reducible refine Below.alloc ?_ ?_ _) | (with_reducible refine Below.setCell ?_ ?_ _) | (with_reducible refine Below.drew ?_) | (with_reducible refine Below.trans ?_ (Below.mono (by with_reducible assumption) ?_)) | omega | (simp; done) | (simp; omega)))⟩
              case measure => simp [intOf] <;> omega
        · obtain rfl : t = LN := by omega
          have hI : ¬ ((t : Nat) : Int) < t := by omega
          have e1 : fnV (dcF xs crop (gN xs crop t)) xs.length = (dcL xs crop).flatMap ie := by rw [fnV_list, dcL, HLN.out, Int.toNat_natCast]
          have hr3 := hr3.out
          rw [e1] at hr3
          have HR := Lib.hid hr3
          clear hr3 e1
          go_wp2_with fail
          go_ret2
          exact ⟨_, _, rfl, OwnAt.row hgw HR.out, hb⟩
end Go.Proofs.YtimdnihadhbjpaaDoor
