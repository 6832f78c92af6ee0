/- Contract: the fewest owners with a majority, by the program (chapter 22). -/
import Derived.Test.YtimdnihadhbjpaaDoorChoose
set_option linter.unusedSimpArgs false
set_option linter.unusedVariables false
namespace Go.Proofs.YtimdnihadhbjpaaDoor
open Go.RowKit Go.Sort Go.Salt
attribute [local go_sem] cell_rg
theorem run_store_fn (P : Program) (w : World) (a : Addr) (fn : Fn) (first captured : Array Value) {m : Mode} : (store a (.func fn first captured) m).run P w = stored P w a (.func fn first captured) m := run_store P w a _ m rfl
attribute [local go_sem] run_store_fn
theorem nv_ie : ∀ (ids : List Nat), (ids.map fun (j : Nat) => (j : Int)).flatMap ie = ids.map nv
  | [] => rfl
  | j :: ids => by rw [List.map_cons, List.flatMap_cons, nv_ie ids]; rfl
theorem mj_made {w w' : World} {xs : List Ow} {b : Bool} {B : Nat} {v : Value} (hb : arB xs = b) (hn : NIds w' B v (mjR xs)) (hB : w.heap.size ≤ B) (hw : Below w.heap.size w w') :
    MadeAt w 3 ((mjL xs).flatMap ie) (mjL xs).length (fun v => .returned (.tuple #[v, .bool (arB xs)])) (.returned (.tuple #[v, .bool b])) w' := by
  unfold mjL
  rw [nv_ie, List.length_map]
  subst hb
  rcases hn.shape with ⟨rfl, h⟩ | ⟨g, c, rfl, _, hg, hr⟩
  · rw [h]; exact MadeAt.nil (fun v => .returned (.tuple #[v, .bool (arB xs)])) hw
  · exact ⟨_, c, rfl, OwnAt.row (by omega) hr, hw⟩
set_option maxRecDepth 100000 in
set_option maxHeartbeats 8000000 in
theorem iMajority_any (A : Option Addr) (c : Nat) (xs : List Ow) (w : World) (h : Rd w w.heap.size A 3 Ow.enc xs) (hx : xs.length ≤ 1048576) (hc : xs.length ≤ c) (hz : OwSz 1048576 xs) :
    Calls Tryd.prog 35 #[.slice A xs.length c] w fun e w' => MadeAt w 3 ((mjL xs).flatMap ie) (mjL xs).length (fun v => .returned (.tuple #[v, .bool (arB xs)])) e w' := by
  have eg := enters_of Tryd.func76 (by kernel_rfl) rfl
  have HX := Lib.hid h
  have HZ := Lib.hid hz
  clear h hz
  cases hg : arB xs
  · have HN : Hid (∀ W, NIds W w.heap.size (.slice none 0 0) (mjR xs)) := Lib.hid fun W => by unfold mjR; rw [hg]; exact NIds.nil _ _
    have Hg := Lib.hid hg
    clear hg
    go_enter Tryd.func35, Tryd.ntmps35
    go_wp2_with fail
    refine (iAreOwners_any _ c xs _ (HX.out.to (by repeat' (first | (with_reducible exact Below.refl _ _) | (with_reducible refine Below.alloc ?_ ?_ _) | (with_reducible refine Below.setCell ?_ ?_ _) | (with_reducible refine Below.drew ?_) | (with_reducible refine Below.trans ?_ (Below.mono (by with_reducible assumption) ?_)) | omega | (simp; done) | (simp; omega)))) hx hc HZ.out).mono ?_
    rintro e w2 ⟨rfl, hb2⟩
    have hs2 := hb2.size
    rw [Hg.out]
    go_wp2
    go_ret2
    rw [← Hg.out]
    exact mj_made rfl (HN.out _) (Nat.le_refl _) (by repeat' (first | (with_reducible exact Below.refl _ _) | (with_reducible refine Below.alloc ?_ ?_ _) | (with_reducible refine Below.setCell ?_ ?_ _) | (with_reducible refine Below.drew ?_) | (with_reducible refine Below.trans ?_ (Below.mono (by with_reducible assumption) ?_)) | omega | (simp; done) | (simp; omega)))
  · have HN : Hid (mjR xs = dfM (mjO xs) 0 xs.length [] []) := Lib.hid (by unfold mjR; rw [if_pos hg])
    have Hg := Lib.hid hg
    have HBD := Lib.hid (arOK_bd hg)
    have hl8 := (arOK_len hg).2
    clear hg
    go_enter Tryd.func35, Tryd.ntmps35
    go_wp2_with fail
    refine (iAreOwners_any _ c xs _ (HX.out.to (by repeat' (first | (with_reducible exact Below.refl _ _) | (with_reducible refine Below.alloc ?_ ?_ _) | (with_reducible refine Below.setCell ?_ ?_ _) | (with_reducible refine Below.drew ?_) | (with_reducible refine Below.trans ?_ (Below.mono (by with_reducible assumption) ?_)) | omega | (simp; done) | (simp; omega)))) hx hc HZ.out).mono ?_
    rintro e w2 ⟨rfl, hb2⟩
    have hs2 := hb2.size
    rw [Hg.out]
    have r2 : Row w2 w.heap.size 25 [.slice A xs.length c] := (Row.new w 25 #[.slice A xs.length c]).to hb2
    have hb2w : Below w.heap.size w w2 := (by repeat' (first | (with_reducible exact Below.refl _ _) | (with_reducible refine Below.alloc ?_ ?_ _) | (with_reducible refine Below.setCell ?_ ?_ _) | (with_reducible refine Below.drew ?_) | (with_reducible refine Below.trans ?_ (Below.mono (by with_reducible assumption) ?_)) | omega | (simp; done) | (simp; omega)))
    have hl2 := r2.lt
    have R2 := Lib.hid r2
    have HB2 := Lib.hid hb2w
    clear r2 hb2 hs2
    go_upto_region 6 with (fail)
    refine cut_world (fun W => Row W w2.heap.size 38 [.slice none 0 0] ∧ Row W (w2.heap.size + 1) 86 [fnC w.heap.size w2.heap.size (w2.heap.size + 1)] ∧ Below w2.heap.size w2 W) ⟨?_, ?_, (by repeat' (first | (with_reducible exact Below.refl _ _) | (with_reducible refine Below.alloc ?_ ?_ _) | (with_reducible refine Below.setCell ?_ ?_ _) | (with_reducible refine Below.drew ?_) | (with_reducible refine Below.trans ?_ (Below.mono (by with_reducible assumption) ?_)) | omega | (simp; done) | (simp; omega)))⟩ ?_
    · exact (Row.new w2 38 #[.slice none 0 0]).alloc _
    · exact row_at_new (w2.alloc (.cells #[.slice none 0 0] 38)) 86 #[fnC w.heap.size w2.heap.size (w2.heap.size + 1)] (w2.heap.size + 1) (by simp)
    rintro w3 ⟨rb3, rc3, hb3⟩
    obtain ⟨gb, hgb⟩ : ∃ g, w2.heap.size = g := ⟨_, rfl⟩
    have hs3 := hb3.size
    have hw3 := HB2.out.trans (hb3.mono HB2.out.size)
    have rl3 := R2.out.to hb3
    rw [hgb] at rb3 rc3 hl2
    rw [hgb]
    have hC := Lib.hid (show ChW w3 xs A c w.heap.size gb (gb + 1) from ⟨hl2, Nat.lt_succ_self _, (HX.out.below hw3).more (by omega), rl3, rc3⟩)
    have cc := row1_cell rc3
    simp only [fnC] at cc
    have RB := Lib.hid rb3
    have hlc := rc3.lt
    have HW3 := Lib.hid hw3
    clear hb3 hgb rb3 rc3 rl3 hw3
    go_wp2_with fail
    refine (choose_any xs A c w.heap.size gb (gb + 1) hl8 HBD.out xs.length 0 0 [] [] (.slice none 0 0) (.slice none 0 0) w3 (by simp) (by omega) (by simp) hC.out RB.out (NIds.nil _ _) (NIds.nil _ _)).mono ?_
    rintro e w4 ⟨rfl, ⟨vb, rb4, hn4⟩, hg4⟩
    rw [← HN.out] at hn4
    have cb4 := row1_cell rb4
    have hlb4 := rb4.lt
    obtain ⟨A4, c4, rfl⟩ := hn4.fm
    have HN4 := Lib.hid hn4
    have hw4 : Below w.heap.size w w4 := HW3.out.trans (show Below w.heap.size w3 w4 from grown_below hg4 (by omega) HW3.out.size)
    clear cc hn4
    go_wp2_with fail
    go_ret2
    rw [← Hg.out]
    exact mj_made (v := .slice A4 (mjR xs).length c4) rfl HN4.out (show w.heap.size ≤ gb + 1 + 1 by omega) hw4
end Go.Proofs.YtimdnihadhbjpaaDoor
