/- Contracts: slices.Insert at bookings, in place and in a new row (chapter 20). -/
import Derived.Test.YtkhldmicejdggaaIns
import Derived.Laws.CopyRow
import Derived.Lib.Overlaps
import Derived.Shelf.Spec.SlicesInsert
set_option linter.unusedSimpArgs false
set_option linter.unusedVariables false
namespace Go.Proofs.Ytkhldmicejdggaa
open Go.RowKit Go.Sort Go.Salt
attribute [local go_sem] cell_rg
theorem copy_run {P : Program} {w : World} {g o dLen dCap sLen sCap k m : Nat} {dT sT ty e E : TypeId} {a : Addr} {ds : List Value} {arr : Array Value} {ti : TypeInfo} (hu : P.underlying dT = some (.slice e)) (hi : P.info? e = some ti) (hsz : ti.size = k) (hm : Nat.min sLen dLen = m) (hd : ds.length = m * k) (hh : w.heap[g]? = some (.cells arr E (0, 0))) (ho : o + ds.length ≤ arr.size) (hsrc : ∀ j v, ds[j]? = some v → w.cell? (a.add j) = some v) (h1 : ∀ v ∈ ds, v.oneCell' = true) :
    (Builtin.copy_ #[dT, sT] ty #[.slice (some ⟨g, o, none⟩) dLen dCap, .slice (some a) sLen sCap]).run P w = .ok (goInt m) (w.setRow g (arr.toList.take o ++ ds ++ arr.toList.drop (o + ds.length)).toArray) := by
  have hl := run_loadCells_list (P := P) w a ds hsrc
  have hst := run_storeCells_at (P := P) g o E ds 0 arr w hh (by omega) h1
  simp only [Nat.add_zero] at hst
  rw [hd] at hl
  simp [Builtin.copy_, run_underlying hu, Builtin.lenOf, Builtin.firstCells, sizeOf, typeInfo, hi, hsz, hm, hl, hst]
theorem setRow_at {w : World} {g : Nat} {E : TypeId} {arr brr : Array Value} (hh : w.heap[g]? = some (.cells arr E (0, 0))) : (w.setRow g brr).heap[g]? = some (.cells brr E (0, 0)) := by
  simp [World.setRow, Array.getElem?_modify, hh]
theorem setRow_grown (w : World) (g : Nat) (brr : Array Value) : w.grownBy (w.setRow g brr) (some g) := by
  refine ⟨rfl, rfl, rfl, by simp [World.setRow], fun j hj hne => ?_⟩
  have hne' : j ≠ g := fun e => hne (by rw [e])
  simp [World.setRow, Array.getElem?_modify, hne'.symm]
theorem heap_row {w : World} {g : Nat} {E : TypeId} {arr : Array Value} {cs : List Value} (hh : w.heap[g]? = some (.cells arr E (0, 0))) (h : arr.toList.take cs.length = cs) : Row w g E cs := ⟨arr, hh, h⟩
/-- Two copies make room for one element. -/
theorem put_cells {xs : List Bk} {x : Bk} {i cap : Nat} {cur : List Value} (hi : i < xs.length) (hr : xs.length + 1 ≤ cap) (hl : cur.length = cap * 3) (ht : cur.take (xs.length * 3) = xs.flatMap Bk.enc) :
    ((((cur.take ((i + 1) * 3) ++ (xs.drop i).flatMap Bk.enc ++ cur.drop ((i + 1) * 3 + ((xs.drop i).flatMap Bk.enc).length))).take (i * 3) ++ x.enc ++ ((cur.take ((i + 1) * 3) ++ (xs.drop i).flatMap Bk.enc ++ cur.drop ((i + 1) * 3 + ((xs.drop i).flatMap Bk.enc).length))).drop (i * 3 + 3)).take ((putL xs i x).flatMap Bk.enc).length) = (putL xs i x).flatMap Bk.enc := by
  have hd : ((xs.drop i).flatMap Bk.enc).length = (xs.length - i) * 3 := by rw [flat_len Bk.enc_len, List.length_drop]
  have hp : ((putL xs i x).flatMap Bk.enc).length = (xs.length + 1) * 3 := by rw [flat_len Bk.enc_len, putL_len (by omega)]
  have e1 : cur.take (i * 3) = (xs.take i).flatMap Bk.enc := by
    rw [← (flat_split Bk.enc_len xs i (by omega)).1, ← ht, List.take_take, Nat.min_eq_left (by omega)]
  have hx : x.enc.length = 3 := Bk.enc_len x
  have a1 : (cur.take ((i + 1) * 3)).length = (i + 1) * 3 := by rw [List.length_take]; omega
  have e2 : ((cur.take ((i + 1) * 3) ++ (xs.drop i).flatMap Bk.enc ++ cur.drop ((i + 1) * 3 + ((xs.drop i).flatMap Bk.enc).length))).take (i * 3) = (xs.take i).flatMap Bk.enc := by
    rw [List.append_assoc, List.take_append_of_le_length (by omega), List.take_take, Nat.min_eq_left (by omega), e1]
  have e3 : ((cur.take ((i + 1) * 3) ++ (xs.drop i).flatMap Bk.enc ++ cur.drop ((i + 1) * 3 + ((xs.drop i).flatMap Bk.enc).length))).drop (i * 3 + 3) = (xs.drop i).flatMap Bk.enc ++ cur.drop ((i + 1) * 3 + ((xs.drop i).flatMap Bk.enc).length) := by
    rw [List.append_assoc, show i * 3 + 3 = (cur.take ((i + 1) * 3)).length by omega, List.drop_left' rfl]
  rw [e2, e3, hp]
  have e4 : (putL xs i x).flatMap Bk.enc = (xs.take i).flatMap Bk.enc ++ x.enc ++ (xs.drop i).flatMap Bk.enc := by simp [putL]
  have t1 : ((xs.take i).flatMap Bk.enc).length = i * 3 := by rw [flat_len Bk.enc_len, List.length_take, Nat.min_eq_left (by omega)]
  rw [e4, ← List.append_assoc]
  refine List.take_left' ?_
  rw [List.length_append, List.length_append, t1, hx, hd]
  omega
set_option maxHeartbeats 4000000 in
set_option maxRecDepth 100000 in
theorem insertBk_room (base g cap vb i : Nat) (xs : List Bk) (x : Bk) (w : World) (h : w.ownsRow base 45 3 (.slice (some ⟨g, 0, none⟩) xs.length cap) xs.length (xs.flatMap Bk.enc)) (hv : Row w vb 45 x.enc) (hne : vb ≠ g) (hx : xs.length ≤ 1048576) (hi : i < xs.length) (hroom : xs.length + 1 ≤ cap) :
    Calls Try.prog 66 #[.slice (some ⟨g, 0, none⟩) xs.length cap, .int .i64 i, .slice (some ⟨vb, 0, none⟩) 1 1] w fun e w' => e = .returned (.slice (some ⟨g, 0, none⟩) (xs.length + 1) cap) ∧ Row w' g 45 ((putL xs i x).flatMap Bk.enc) ∧ w.grownBy w' (some g) := by
  obtain ⟨i0, hi0, hz0, hz1, hz2⟩ := info_parts bk_info
  obtain ⟨cur, hh, hm, hcs, hct⟩ : ∃ cur, w.heap[g]? = some (.cells cur 45 (0, 0)) ∧ cap ≤ maxLen ∧ cur.size = cap * 3 ∧ cur.toList.take (xs.length * 3) = xs.flatMap Bk.enc := by
    rcases h.2 with ⟨h1, _⟩ | ⟨g', cap', cur, hv', _, hh, _, hm, hcs, hct⟩
    · cases h1
    · cases hv'
      exact ⟨cur, hh, hm, hcs, hct⟩
  clear h
  have hm2 : cap ≤ 9223372036854775807 := by unfold maxLen at hm; omega
  have hvn := row_news (o := 0) hv
  have hvl := hv.lt
  have hvf := hv.frozen
  obtain ⟨vrr, hvh, hvt⟩ := hv
  have hgl : g < w.heap.size := by
    rcases Nat.lt_or_ge g w.heap.size with h | h
    · exact h
    · rw [Array.getElem?_eq_none h] at hh; cases hh
  have hov : ∀ lb cb, (callFunc 78 #[.slice (some ⟨vb, 0, none⟩) 1 1, .slice (some ⟨g, (i + 1) * 3, none⟩) lb cb]).run Try.prog w = .ok (.value (.bool false)) w := fun lb cb => by
    rw [run_callFunc_extern Try.func78 (by kernel_rfl) (by kernel_rfl) (by kernel_rfl) (e := Extern.SlicesOverlaps.overlaps #[26, 26] #[4]) (by kernel_rfl),
      Lib.run_overlaps_apart w 26 4 45 Try.underlying26 3 (fun w => by simp [sizeOf, typeInfo, hi0, hz1]) ⟨vb, 0, none⟩ ⟨g, (i + 1) * 3, none⟩ 1 1 lb cb hne 45 45 vrr.size cur.size (by simp [World.shape?, hvh]) (by simp [World.shape?, hh]) (by omega) (hvf 0) (hvf _)]
    rfl
  have hd : ((xs.drop i).flatMap Bk.enc).length = (xs.length - i) * 3 := by rw [flat_len Bk.enc_len, List.length_drop]
  have hdrop : cur.toList.drop (i * 3) = (xs.drop i).flatMap Bk.enc ++ cur.toList.drop (xs.length * 3) := by
    rw [← (flat_split Bk.enc_len xs i (by omega)).2, ← hct]
    rw [List.drop_take, show cur.toList.drop (xs.length * 3) = (cur.toList.drop (i * 3)).drop (xs.length * 3 - i * 3) by rw [List.drop_drop]; congr 1; omega, List.take_append_drop]
  obtain ⟨c1, hc1⟩ : ∃ c1, c1 = (cur.toList.take ((i + 1) * 3) ++ (xs.drop i).flatMap Bk.enc ++ cur.toList.drop ((i + 1) * 3 + ((xs.drop i).flatMap Bk.enc).length)) := ⟨_, rfl⟩
  have hc1l : c1.length = cap * 3 := by
    rw [hc1, List.length_append, List.length_append, List.length_take, List.length_drop, hd]
    simp [hcs]; omega
  have hcp1 : ∀ ty dc sc, (Builtin.copy_ #[26, 26] ty #[.slice (some ⟨g, (i + 1) * 3, none⟩) (xs.length - i) dc, .slice (some ⟨g, i * 3, none⟩) (xs.length + 1 - i) sc]).run Try.prog w.drew = .ok (goInt ((xs.length - i : Nat) : Int)) (w.drew.setRow g c1.toArray) := fun ty dc sc => by
    rw [hc1]
    refine copy_run Try.underlying26 hi0 hz1 (show min _ _ = _ by omega) hd hh (by rw [hd]; omega) (fun j v hj => ?_) (flat_one Bk.enc_one)
    have hjl : j < ((xs.drop i).flatMap Bk.enc).length := (List.getElem?_eq_some_iff.1 hj).1
    rw [show (⟨g, i * 3, none⟩ : Addr).add j = ⟨g, i * 3 + j, none⟩ by unfold Addr.add; split <;> simp_all]
    have h5 : w.drew.cell? ⟨g, i * 3 + j, none⟩ = cur[i * 3 + j]? := by
      show w.cell? _ = _
      simp [World.cell?, hh]
    rw [h5, ← Array.getElem?_toList, ← List.getElem?_drop, hdrop, List.getElem?_append_left hjl, hj]
  have hcp2 : ∀ ty dc, (Builtin.copy_ #[26, 26] ty #[.slice (some ⟨g, i * 3, none⟩) (xs.length + 1 - i) dc, .slice (some ⟨vb, 0, none⟩) 1 1]).run Try.prog (w.drew.setRow g c1.toArray) = .ok (goInt ((1 : Nat) : Int)) ((w.drew.setRow g c1.toArray).setRow g (c1.take (i * 3) ++ x.enc ++ c1.drop (i * 3 + 3)).toArray) := fun ty dc => by
    have hq := copy_run (P := Try.prog) (w := w.drew.setRow g c1.toArray) (g := g) (o := i * 3) (dLen := xs.length + 1 - i) (dCap := dc) (sLen := 1) (sCap := 1) (m := 1) (dT := 26) (sT := 26) (ty := ty) (a := ⟨vb, 0, none⟩) (ds := x.enc) (arr := c1.toArray) (E := 45) Try.underlying26 hi0 hz1 (show min _ _ = _ by omega) rfl (setRow_at (w := w.drew) hh) (by rw [Bk.enc_len]; simp [hc1l]; omega) (fun j v hj => by
      have h6 := hvn j v hj
      rw [← h6]
      have h7 := (setRow_grown w.drew g c1.toArray).block vb hvl (by simp; exact fun e => hne e)
      rw [show (⟨vb, 0, none⟩ : Addr).add j = ⟨vb, j, none⟩ by unfold Addr.add; split <;> simp_all]
      simp only [World.cell?]
      rw [h7]
      rfl) (Bk.enc_one x)
    exact hq
  have hfin := put_cells (x := x) hi hroom (by simpa using hcs) hct
  rw [← hc1] at hfin
  have hR : Row ((w.drew.setRow g c1.toArray).setRow g (c1.take (i * 3) ++ x.enc ++ c1.drop (i * 3 + 3)).toArray) g 45 ((putL xs i x).flatMap Bk.enc) := heap_row (setRow_at (setRow_at (w := w.drew) hh)) hfin
  have hG : w.grownBy ((w.drew.setRow g c1.toArray).setRow g (c1.take (i * 3) ++ x.enc ++ c1.drop (i * 3 + 3)).toArray) (some g) := grown_trans (w := w.drew.setRow g c1.toArray) (by have q := setRow_grown w.drew g c1.toArray; exact ⟨q.os, q.tape, q.output, q.size, q.block⟩) (setRow_grown _ g _)
  have HR := Lib.hid hR
  have HG := Lib.hid hG
  obtain ⟨W1, hW1⟩ : ∃ W1, w.drew.setRow g c1.toArray = W1 := ⟨_, rfl⟩
  rw [hW1] at hcp1 hcp2
  simp only [hW1] at HR HG
  obtain ⟨W2, hW2⟩ : ∃ W2, W1.setRow g (c1.take (i * 3) ++ x.enc ++ c1.drop (i * 3 + 3)).toArray = W2 := ⟨_, rfl⟩
  rw [hW2] at hcp2
  simp only [hW2] at HR HG
  clear hR hG hfin hW1 hW2 hc1 hc1l hdrop hd hvn hvf hvt hvh hct hcs hh hi0 hz0 hz1 hz2
  have hcap1 : ¬ ((cap : Int) < (xs.length : Int) + 1) := by omega
  have hn1 : ¬ ((i : Int) = xs.length) := by omega
  have hq1 : IntKind.i64.wrap ((i : Int) + 1) = (i : Int) + 1 := by rw [IntKind.wrap_i64]; omega
  have hq2 : (0 : Int) ≤ (i : Int) + 1 := by omega
  have hq3 : ((i : Int) + 1).toNat = i + 1 := by omega
  have hq4 : ¬ (cap = i + 1) := by omega
  have hq5 : ¬ (cap = i) := by omega
  have hq6 : IntKind.i64.wrap ((xs.length : Int) + 1) = (xs.length : Int) + 1 := by rw [IntKind.wrap_i64]; omega
  have hq7 : ((xs.length : Int) + 1).toNat = xs.length + 1 := by omega
  have hq8 : (i : Int) + 1 ≤ (xs.length : Int) + 1 := by omega
  have hq9 : (xs.length : Int) + 1 ≤ cap := by omega
  have hq10 : (i : Int) ≤ xs.length := by omega
  have hq11 : (0 : Int) ≤ (xs.length : Int) + 1 := by omega
  have hq12 : (i : Int) ≤ (xs.length : Int) + 1 := by omega
  have mixed : Try.prog.follows .mixedOrders = true := by kernel_rfl
  go_enter Try.func66, Try.ntmps66
  go_wp2_with (simp only [hov])
  go_region_law_o (refine step_copy_runI rfl _ _ 26 26 rfl _ _ (by simp [Act.eval, Act.put]) (by simp [Act.eval, Act.put]) (hcp1 _ _ _) ?_)
  go_wp2_with (at_builtin; refine wpList_copy_runI _ rfl _ _ 26 26 rfl _ _ rfl rfl (hcp2 _ _) ?_)
  go_ret
  exact ⟨rfl, HR.out, HG.out⟩
end Go.Proofs.Ytkhldmicejdggaa
