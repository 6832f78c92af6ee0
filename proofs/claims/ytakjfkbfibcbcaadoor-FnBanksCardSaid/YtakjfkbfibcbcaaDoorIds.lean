/- Contracts and the law: the order of need (chapter 23). -/
import Derived.Test.YtakjfkbfibcbcaaDoorDays
import Derived.Test.YtakjfkbfibcbcaaDoorBreakOwn
import Derived.Test.YtakjfkbfibcbcaaDoorInts
set_option linter.unusedSimpArgs false
set_option linter.unusedVariables false
namespace Go.Proofs.YtakjfkbfibcbcaaDoor
open Go.RowKit Go.Sort Go.Salt
attribute [local go_sem] cell_rg
def idL (xs : List Brk) (os : List Nat) (k : Nat) : List Int := (os.take k).map fun i => (el xs i).i
theorem idL_succ {xs : List Brk} {os : List Nat} {k i : Nat} (h : k < os.length) (hi : el os k = i) : idL xs os (k + 1) = idL xs os k ++ [(el xs i).i] := by
  simp only [idL]; rw [take_el h, List.map_append, hi]; rfl
theorem idL_len (xs : List Brk) (os : List Nat) (k : Nat) : (idL xs os k).length ≤ os.length := by simp [idL]; omega
def noR (xs : List Brk) : List Int := if brksOK xs = true then idL xs (needO xs xs.length) (needO xs xs.length).length else []
theorem noR_len (xs : List Brk) : (noR xs).length ≤ xs.length := by
  unfold noR; split
  · exact Nat.le_trans (idL_len _ _ _) (needO_len _ _)
  · simp
set_option maxRecDepth 100000 in
set_option maxHeartbeats 4000000 in
theorem iNeedOrder_any (A : Option Addr) (c : Nat) (xs : List Brk) (w : World) (h : Rd w w.heap.size A 6 Brk.enc xs) (hx : xs.length ≤ 1048576) :
    Calls Tryd.prog 14 #[.slice A xs.length c] w fun e w' => MadeAt w 3 ((noR xs).flatMap ie) (noR xs).length (fun v => .returned (.tuple #[v, .bool (brksOK xs)])) e w' := by
  cases hG0 : brksOK xs
  · go_enter Tryd.func14, Tryd.ntmps14
    go_wp2_with fail
    (go_at_call 32; refine (areBreaks_any _ _ _ _ h hx).mono ?_; rintro e w1 ⟨rfl, hb1⟩)
    (have hs1 := hb1.size; (try simp at hs1); obtain ⟨hc1, hf1, hn1⟩ := bcell hb1; (try have hz1_w_0 : w.heap.size < w1.heap.size := by omega); (try have hz1_w_1 : w.heap.size + 1 < w1.heap.size := by omega); (try have hz1_w_2 : w.heap.size + 2 < w1.heap.size := by omega); (try have hz1_w_2b : w.heap.size + 1 + 1 < w1.heap.size := by omega))
    go_wp2_with fail
    go_ret2
    exact MadeAt.cast (MadeAt.nil (fun v => .returned (.tuple #[v, .bool false])) (by repeat' (first | (with_reducible exact Below.refl _ _) | (with_reducible refine Below.alloc ?_ ?_ _) | (with_reducible refine Below.setCell ?_ ?_ _) | (with_reducible refine Below.drew ?_) | (with_reducible refine Below.trans ?_ (Below.mono (by with_reducible assumption) ?_)) | omega | (simp; done) | (simp; omega)))) (by simp [noR, hG0]) (by simp [noR, hG0]) rfl rfl
  · have hbd := brksOK_bd hG0
    have hn := hbd.1
    clear hbd
    obtain ⟨i0, hi, hz0, hz1, hz2⟩ := info_parts int_info
    have hinfo := Lib.hid (And.intro hi (And.intro hz0 (And.intro hz1 hz2)))
    clear hi hz0 hz1 hz2
    go_enter Tryd.func14, Tryd.ntmps14
    go_wp2_with fail
    (go_at_call 32; refine (areBreaks_any _ _ _ _ h hx).mono ?_; rintro e w1 ⟨rfl, hb1⟩)
    (have hs1 := hb1.size; (try simp at hs1); obtain ⟨hc1, hf1, hn1⟩ := bcell hb1; (try have hz1_w_0 : w.heap.size < w1.heap.size := by omega); (try have hz1_w_1 : w.heap.size + 1 < w1.heap.size := by omega); (try have hz1_w_2 : w.heap.size + 2 < w1.heap.size := by omega); (try have hz1_w_2b : w.heap.size + 1 + 1 < w1.heap.size := by omega))
    go_wp2_with fail
    refine (iNeed_any A c xs w1 (h.to hb1) (by omega)).mono ?_
    rintro e w2 ⟨A2, c2, rfl, own2, hb2⟩
    have hs2 := hb2.size
    have hon := needO_el xs
    have hnl := needO_len xs xs.length
    have hR : noR xs = idL xs (needO xs xs.length) (needO xs xs.length).length := by simp [noR, hG0]
    obtain ⟨os, hos⟩ : ∃ os, needO xs xs.length = os := ⟨_, rfl⟩
    rw [hos] at hon hnl hR own2 ⊢
    clear hos
    replace hon := Lib.hid hon
    replace hR := Lib.hid hR
    replace own2 := Lib.hid own2
    have h2 := Lib.hid ((h.to hb1).to hb2)
    have hbw2 : Below w.heap.size w w2 := (by repeat' (first | (with_reducible exact Below.refl _ _) | (with_reducible refine Below.alloc ?_ ?_ _) | (with_reducible refine Below.setCell ?_ ?_ _) | (with_reducible refine Below.drew ?_) | (with_reducible refine Below.trans ?_ (Below.mono (by with_reducible assumption) ?_)) | omega | (simp; done) | (simp; omega)))
    clear hb1 hc1 hf1 hn1 hb2
    go_wp2_with fail
    go_loopw [4, 13] (fun v i wr => ∃ k : Nat, k ≤ os.length ∧ i = .int .i64 k ∧ Hid (wr.ownsRow w2.heap.size 3 1 v k ((idL xs os k).flatMap ie)) ∧ Below w2.heap.size w2 wr) (fun _ i _ => os.length - (intOf i).toNat)
    case atStart => exact ⟨0, Nat.zero_le _, rfl, World.ownsRow_nil w2 w2.heap.size 3 1, Below.refl _ _⟩
    case round =>
      obtain ⟨k, hk, rfl, hown, hb⟩ := hrel
      have hs := hb.size
      by_cases hlt : k < os.length
      · obtain ⟨g2, rfl, hg2, hlt2, q1⟩ := own_nat own2.out rfl hlt
        have hoi := hon.out k hlt
        obtain ⟨i, hi⟩ : ∃ i, el os k = i := ⟨_, rfl⟩
        have hsu := Lib.hid (idL_succ (xs := xs) hlt hi)
        rw [hi] at hoi q1
        have q0 := (hb.cell (p := ⟨g2, k, none⟩) hlt2).trans q1
        obtain ⟨b, o, rfl, hB, e0, e1, e2, e3, e4, e5⟩ := brk_cells (h2.out.below hb) hoi
        clear q1 hi e1 e2 e3 e4 e5
        have hB1 : b < wr.heap.size := by omega
        have hI : (k : Int) < os.length := by omega
        have hI0 : (0 : Int) ≤ k := by omega
        have hJ : (i : Int) < xs.length := by omega
        have hJ0 : (0 : Int) ≤ i := by omega
        go_wp2_with (at_builtin; refine wpList_append_own_at _ rfl _ _ 39 rfl w2.heap.size 3 _ _ 1 8 Tryd.underlying39 hinfo.out.1 hinfo.out.2.1 hinfo.out.2.2.1 hinfo.out.2.2.2 rfl (by decide) _ _ _ rfl (own_to hown.out (by repeat' (first | (with_reducible exact Below.refl _ _) | (with_reducible refine Below.alloc ?_ ?_ _) | (with_reducible refine Below.setCell ?_ ?_ _) | (with_reducible refine Below.drew ?_) | (with_reducible refine Below.trans ?_ (Below.mono (by with_reducible assumption) ?_)) | omega | (simp; done) | (simp; omega)))) _ 1 1 [.int .i64 (el xs i).i] rfl rfl (news_top (cs := #[.int .i64 (el xs i).i]) (t := 3) (by simp)) (by simp [Value.oneCell']) (by unfold maxLen; omega) (by omega) (by simp; omega) ?_)
        intro v9 w9 hown9 hgrow9 hnil9 hat9
        have hb9 : Below w2.heap.size w2 w9 := own_grew hown.out (by repeat' (first | (with_reducible exact Below.refl _ _) | (with_reducible refine Below.alloc ?_ ?_ _) | (with_reducible refine Below.setCell ?_ ?_ _) | (with_reducible refine Below.drew ?_) | (with_reducible refine Below.trans ?_ (Below.mono (by with_reducible assumption) ?_)) | omega | (simp; done) | (simp; omega))) (by first | omega | (simp; done) | (simp; omega)) hgrow9
        have hs9 := hb9.size
        rw [← ie_snoc, ← hsu.out] at hown9
        replace hown9 := Lib.hid hown9
        clear hgrow9 hat9 hnil9
        go_wp2_with fail
        go_roundw
        case rel => exact ⟨k + 1, by omega, by go_num, hown9.out, hb9⟩
        case measure => simp [intOf]; omega
      · obtain rfl : k = os.length := by omega
        obtain ⟨A9, c9, rfl, ho⟩ := OwnAt.of_own hown.out
        go_wp2_with fail
        go_ret2
        exact MadeAt.cast (show MadeAt w 3 ((idL xs os os.length).flatMap ie) os.length (fun v => .returned (.tuple #[v, .bool true])) _ _ from ⟨A9, c9, rfl, ho.mono (by omega), hbw2.trans (hb.mono (by omega))⟩) (by rw [hR.out]) (by rw [hR.out]; simp [idL]) rfl rfl
set_option maxRecDepth 100000 in
set_option maxHeartbeats 4000000 in
theorem sNeedOrder_any (A : Option Addr) (c : Nat) (xs : List Brk) (w : World) (h : Rd w w.heap.size A 6 Brk.enc xs) (hx : xs.length ≤ 1048576) :
    Calls Tryd.prog 19 #[.slice A xs.length c] w fun e w' => MadeAt w 3 ((noR xs).flatMap ie) (noR xs).length (fun v => .returned (.tuple #[v, .bool (brksOK xs)])) e w' := by
  cases hG0 : brksOK xs
  · go_enter Tryd.func19, Tryd.ntmps19
    go_wp2_with fail
    (go_at_call 36; refine (l23Good_any _ _ _ _ (h.to (by repeat' (first | (with_reducible exact Below.refl _ _) | (with_reducible refine Below.alloc ?_ ?_ _) | (with_reducible refine Below.setCell ?_ ?_ _) | (with_reducible refine Below.drew ?_) | (with_reducible refine Below.trans ?_ (Below.mono (by with_reducible assumption) ?_)) | omega | (simp; done) | (simp; omega)))) hx).mono ?_; rintro e w1 ⟨rfl, hb1⟩)
    (have hs1 := hb1.size; (try simp at hs1); obtain ⟨hc1, hf1, hn1⟩ := bcell hb1; (try have hz1_w_0 : w.heap.size < w1.heap.size := by omega); (try have hz1_w_1 : w.heap.size + 1 < w1.heap.size := by omega); (try have hz1_w_2 : w.heap.size + 2 < w1.heap.size := by omega); (try have hz1_w_2b : w.heap.size + 1 + 1 < w1.heap.size := by omega))
    go_wp2_with fail
    go_ret2
    exact MadeAt.cast (MadeAt.empty (g := w.heap.size) (fun v => .returned (.tuple #[v, .bool false])) (Nat.le_refl _) ((hb1.block _ (by simp)).trans (heap_alloc_new w _)) (by repeat' (first | (with_reducible exact Below.refl _ _) | (with_reducible refine Below.alloc ?_ ?_ _) | (with_reducible refine Below.setCell ?_ ?_ _) | (with_reducible refine Below.drew ?_) | (with_reducible refine Below.trans ?_ (Below.mono (by with_reducible assumption) ?_)) | omega | (simp; done) | (simp; omega)))) (by simp [noR, hG0]) (by simp [noR, hG0]) rfl rfl
  · have hbd := brksOK_bd hG0
    have hn := hbd.1
    have hv := Lib.hid (ok6_of hbd.2)
    clear hbd
    obtain ⟨i0, hi, hz0, hz1, hz2⟩ := info_parts int_info
    have hinfo := Lib.hid (And.intro hi (And.intro hz0 (And.intro hz1 hz2)))
    clear hi hz0 hz1 hz2
    go_enter Tryd.func19, Tryd.ntmps19
    go_wp2_with fail
    (go_at_call 36; refine (l23Good_any _ _ _ _ (h.to (by repeat' (first | (with_reducible exact Below.refl _ _) | (with_reducible refine Below.alloc ?_ ?_ _) | (with_reducible refine Below.setCell ?_ ?_ _) | (with_reducible refine Below.drew ?_) | (with_reducible refine Below.trans ?_ (Below.mono (by with_reducible assumption) ?_)) | omega | (simp; done) | (simp; omega)))) hx).mono ?_; rintro e w1 ⟨rfl, hb1⟩)
    (have hs1 := hb1.size; (try simp at hs1); obtain ⟨hc1, hf1, hn1⟩ := bcell hb1; (try have hz1_w_0 : w.heap.size < w1.heap.size := by omega); (try have hz1_w_1 : w.heap.size + 1 < w1.heap.size := by omega); (try have hz1_w_2 : w.heap.size + 2 < w1.heap.size := by omega); (try have hz1_w_2b : w.heap.size + 1 + 1 < w1.heap.size := by omega))
    go_wp2_with fail
    have hown0 := own_empty (W := w1) (base := w.heap.size) (E := 3) 1 (Nat.le_refl w.heap.size) ((hb1.block w.heap.size (by simp)).trans (heap_alloc_new w _))
    have hbw1 : Below w.heap.size w w1 := (by repeat' (first | (with_reducible exact Below.refl _ _) | (with_reducible refine Below.alloc ?_ ?_ _) | (with_reducible refine Below.setCell ?_ ?_ _) | (with_reducible refine Below.drew ?_) | (with_reducible refine Below.trans ?_ (Below.mono (by with_reducible assumption) ?_)) | omega | (simp; done) | (simp; omega)))
    have h1 := h.to hbw1
    have hs1' : w.heap.size < w1.heap.size := by omega
    refine (sOrder_any A c xs w1 h1 (by omega) (fun i hi => by have := hv.out i hi; unfold Ok6 at this; omega)).mono ?_
    rintro e w2 ⟨A2, c2, rfl, own2, hb2⟩
    have hs2 := hb2.size
    have hon := needO_el xs
    have hnl := needO_len xs xs.length
    have hR : noR xs = idL xs (needO xs xs.length) (needO xs xs.length).length := by simp [noR, hG0]
    obtain ⟨os, hos⟩ : ∃ os, needO xs xs.length = os := ⟨_, rfl⟩
    rw [hos] at hon hnl hR own2 ⊢
    clear hos
    have hvb0 : ∀ g, A2 = some ⟨g, 0, none⟩ → (Value.slice (some ⟨w.heap.size, 0, none⟩) 0 0).ownBlock ≠ some g := by
      intro g hg
      rcases own2 with ⟨h0, _⟩ | ⟨g', h0, hg', _⟩
      · rw [h0] at hg; cases hg
      · rw [h0] at hg; simp at hg; simp [Value.ownBlock]; omega
    replace hvb0 := Lib.hid hvb0
    replace hon := Lib.hid hon
    replace hR := Lib.hid hR
    replace own2 := Lib.hid own2
    have hown2 := Lib.hid (own_to hown0 hb2)
    have h2 := Lib.hid (h1.to hb2)
    have hbw2 : Below w.heap.size w w2 := hbw1.trans (hb2.mono (by omega))
    have hsw := hbw2.size
    clear hb1 hc1 hf1 hn1 hb2 h1 hbw1 hown0
    go_wp2_with fail
    go_loopw [4, 6] (fun v i wr => ∃ k : Nat, k ≤ os.length ∧ i = .int .i64 k ∧ Hid (wr.ownsRow w.heap.size 3 1 v k ((idL xs os k).flatMap ie)) ∧ Hid (∀ g, A2 = some ⟨g, 0, none⟩ → v.ownBlock ≠ some g) ∧ Hid (OwnAt wr w1.heap.size 3 (natVals os) os.length A2) ∧ Below w.heap.size w wr) (fun _ i _ => os.length - (intOf i).toNat)
    case atStart => exact ⟨0, Nat.zero_le _, rfl, hown2, hvb0, own2, hbw2⟩
    case round =>
      clear hown2 hvb0 own2 h2 hbw2
      obtain ⟨k, hk, rfl, hown, hvb, own2, hb⟩ := hrel
      have hs := hb.size
      by_cases hlt : k < os.length
      · rcases own2.out with ⟨_, h0, _⟩ | ⟨g2, rfl, hg2, hrow⟩
        · omega
        have hlt2 := hrow.lt
        have q0 := natVals_cell hrow hlt
        have hvb2 := hvb.out g2 rfl
        have hoi := hon.out k hlt
        obtain ⟨i, hi⟩ : ∃ i, el os k = i := ⟨_, rfl⟩
        have hsu := Lib.hid (idL_succ (xs := xs) hlt hi)
        rw [hi] at hoi q0
        obtain ⟨b, o, rfl, hB, e0, e1, e2, e3, e4, e5⟩ := brk_cells (h.below hb) hoi
        have hB1 : b < wr.heap.size := by omega
        clear hi e1 e2 e3 e4 e5
        have hI : (k : Int) < os.length := by omega
        have hI0 : (0 : Int) ≤ k := by omega
        have hJ : (i : Int) < xs.length := by omega
        have hJ0 : (0 : Int) ≤ i := by omega
        go_wp2_with (at_builtin; refine wpList_append_own_at _ rfl _ _ 39 rfl w.heap.size 3 _ _ 1 8 Tryd.underlying39 hinfo.out.1 hinfo.out.2.1 hinfo.out.2.2.1 hinfo.out.2.2.2 rfl (by decide) _ _ _ rfl (own_to hown.out (by repeat' (first | (with_reducible exact Below.refl _ _) | (with_reducible refine Below.alloc ?_ ?_ _) | (with_reducible refine Below.setCell ?_ ?_ _) | (with_reducible refine Below.drew ?_) | (with_reducible refine Below.trans ?_ (Below.mono (by with_reducible assumption) ?_)) | omega | (simp; done) | (simp; omega)))) _ 1 1 [.int .i64 (el xs i).i] rfl rfl (news_top (cs := #[.int .i64 (el xs i).i]) (t := 3) (by simp)) (by simp [Value.oneCell']) (by unfold maxLen; omega) (by omega) (by simp; omega) ?_)
        intro v9 w9 hown9 hgrow9 hnil9 hat9
        have hb9 : Below w.heap.size w w9 := own_grew hown.out (by repeat' (first | (with_reducible exact Below.refl _ _) | (with_reducible refine Below.alloc ?_ ?_ _) | (with_reducible refine Below.setCell ?_ ?_ _) | (with_reducible refine Below.drew ?_) | (with_reducible refine Below.trans ?_ (Below.mono (by with_reducible assumption) ?_)) | omega | (simp; done) | (simp; omega))) (by first | omega | (simp; done) | (simp; omega)) hgrow9
        have hs9 := hb9.size
        have hvb9 : ∀ g, some (⟨g2, 0, none⟩ : Addr) = some ⟨g, 0, none⟩ → v9.ownBlock ≠ some g := by
          intro g hg
          obtain rfl : g2 = g := by simpa using hg
          rcases hat9 with h | h
          · rw [h]; exact hvb2
          · rw [h]; simp; omega
        have hq9 : OwnAt w9 w1.heap.size 3 (natVals os) os.length (some ⟨g2, 0, none⟩) := .inr ⟨g2, rfl, hg2, (hrow.to (by repeat' (first | (with_reducible exact Below.refl _ _) | (with_reducible refine Below.alloc ?_ ?_ _) | (with_reducible refine Below.setCell ?_ ?_ _) | (with_reducible refine Below.drew ?_) | (with_reducible refine Below.trans ?_ (Below.mono (by with_reducible assumption) ?_)) | omega | (simp; done) | (simp; omega)))).grown hgrow9 (fun h => hvb2 h.symm)⟩
        rw [← ie_snoc, ← hsu.out] at hown9
        replace hown9 := Lib.hid hown9
        replace hvb9 := Lib.hid hvb9
        replace hq9 := Lib.hid hq9
        clear hgrow9 hat9 hnil9
        go_wp2_with fail
        go_roundw
        case rel => exact ⟨k + 1, by omega, by go_num, hown9.out, hvb9, hq9, hb9⟩
        case measure => simp [intOf]; omega
      · obtain rfl : k = os.length := by omega
        obtain ⟨A9, c9, rfl, ho⟩ := OwnAt.of_own hown.out
        go_wp2_with fail
        go_ret2
        exact MadeAt.cast (show MadeAt w 3 ((idL xs os os.length).flatMap ie) os.length (fun v => .returned (.tuple #[v, .bool true])) _ _ from ⟨A9, c9, rfl, ho, hb⟩) (by rw [hR.out]) (by rw [hR.out]; simp [idL]) rfl rfl
end Go.Proofs.YtakjfkbfibcbcaaDoor
