/- Contracts: slices.Insert at bookings (chapter 20). -/
import Derived.Test.YtkhldmicejdggaaBk
import Derived.Test.YtkhldmicejdggaaBkOwn
import Derived.Test.YtkhldmicejdggaaDel
import Derived.Laws.CopyRow
import Derived.Lib.AppendZerosOnto
import Derived.Lib.Overlaps
set_option linter.unusedSimpArgs false
set_option linter.unusedVariables false
namespace Go.Proofs.Ytkhldmicejdggaa
open Go.RowKit Go.Sort Go.Salt
attribute [local go_sem] cell_rg
/-- Elements are copied into a row (all is read before anything is written). -/
theorem copy_row {P : Program} {w : World} {g o dLen dCap sLen sCap k m : Nat} {dT sT ty e E : TypeId} {a : Addr} {cs ds : List Value} {ti : TypeInfo} (hu : P.underlying dT = some (.slice e)) (hi : P.info? e = some ti) (hsz : ti.size = k) (hm : Nat.min sLen dLen = m) (hd : ds.length = m * k) (h : Row w g E cs) (ho : o + ds.length ≤ cs.length) (hsrc : ∀ j v, ds[j]? = some v → w.cell? (a.add j) = some v) (h1 : ∀ v ∈ ds, v.oneCell' = true) :
    ∃ W, (Builtin.copy_ #[dT, sT] ty #[.slice (some ⟨g, o, none⟩) dLen dCap, .slice (some a) sLen sCap]).run P w = .ok (goInt m) W ∧ Row W g E (cs.take o ++ ds ++ cs.drop (o + ds.length)) ∧ w.grownBy W (some g) := by
  obtain ⟨arr, hh, htk⟩ := h
  have hle : cs.length ≤ arr.size := by
    have h3 := congrArg List.length htk
    rw [List.length_take] at h3
    simp at h3
    omega
  have hl := run_loadCells_list (P := P) w a ds hsrc
  have hst := run_storeCells_at (P := P) g o E ds 0 arr w hh (by omega) h1
  simp only [Nat.add_zero] at hst
  rw [hd] at hl
  refine ⟨w.setRow g (arr.toList.take o ++ ds ++ arr.toList.drop (o + ds.length)).toArray, ?_, ⟨(arr.toList.take o ++ ds ++ arr.toList.drop (o + ds.length)).toArray, ?_, ?_⟩, ?_⟩
  · simp [Builtin.copy_, run_underlying hu, Builtin.lenOf, Builtin.firstCells, sizeOf, typeInfo, hi, hsz, hm, hl, hst]
  · simp [World.setRow, Array.getElem?_modify, hh]
  · have e1 : arr.toList.take o = cs.take o := by rw [← htk, List.take_take, Nat.min_eq_left (by omega)]
    have e2 : (arr.toList.drop (o + ds.length)).take (cs.length - (o + ds.length)) = cs.drop (o + ds.length) := by
      rw [← List.drop_take, htk]
    have e3 : (cs.take o ++ ds ++ cs.drop (o + ds.length)).length = cs.length := by
      simp only [List.length_append, List.length_take, List.length_drop]; omega
    have e4 : (cs.take o ++ ds).length = o + ds.length := by
      simp only [List.length_append, List.length_take]; omega
    rw [e3, e1]
    show (cs.take o ++ ds ++ arr.toList.drop (o + ds.length)).take cs.length = _
    rw [List.take_append, e4, e2, List.take_of_length_le (by omega)]
  · refine ⟨rfl, rfl, rfl, by simp [World.setRow], fun j hj hne => ?_⟩
    have hne' : j ≠ g := fun e => hne (by rw [e])
    simp [World.setRow, Array.getElem?_modify, hne'.symm]
theorem row_news {w : World} {g o : Nat} {E : TypeId} {cs : List Value} (h : Row w g E cs) : ∀ j u, (cs.drop o)[j]? = some u → w.cell? ((⟨g, o, none⟩ : Addr).add j) = some u := fun j u hj => by
  rw [List.getElem?_drop] at hj
  have hl : o + j < cs.length := (List.getElem?_eq_some_iff.1 hj).1
  have hc := h.cell (j := o + j) hl
  rw [show (⟨g, o, none⟩ : Addr).add j = ⟨g, o + j, none⟩ by unfold Addr.add; split <;> simp_all, hc]
  rw [List.getElem?_eq_getElem hl] at hj
  exact hj
theorem grown_trans {a w w' : World} {row : Option Nat} (h : a.grownBy w row) (h' : w.grownBy w' row) : a.grownBy w' row :=
  ⟨h'.os.trans h.os, h'.tape.trans h.tape, h'.output.trans h.output, Nat.le_trans h.size h'.size, fun i hi hn => (h'.block i (Nat.lt_of_lt_of_le hi h.size) hn).trans (h.block i hi hn)⟩
/-- The list with one element put ahead of element k. -/
def putL (xs : List Bk) (k : Nat) (x : Bk) : List Bk := xs.take k ++ x :: xs.drop k
theorem putL_len {xs : List Bk} {k : Nat} {x : Bk} (h : k ≤ xs.length) : (putL xs k x).length = xs.length + 1 := by
  simp [putL]; omega
set_option maxHeartbeats 4000000 in
theorem insertBk_end (base vb : Nat) (v : Value) (xs : List Bk) (x : Bk) (w : World) (h : w.ownsRow base 45 3 v xs.length (xs.flatMap Bk.enc)) (hb : base ≤ w.heap.size) (hv : Row w vb 45 x.enc) (hx : xs.length ≤ 1048576) :
    Calls Try.prog 66 #[v, .int .i64 xs.length, .slice (some ⟨vb, 0, none⟩) 1 1] w fun e w' => ∃ v', e = .returned v' ∧ w'.ownsRow base 45 3 v' (xs.length + 1) ((putL xs xs.length x).flatMap Bk.enc) ∧ w.grownBy w' v.ownBlock := by
  obtain ⟨i0, hi, hz0, hz1, hz2⟩ := info_parts bk_info
  have hinfo := Lib.hid (And.intro hi (And.intro hz0 (And.intro hz1 hz2)))
  clear hi hz0 hz1 hz2
  have hnews := Lib.hid (row_news (o := 0) hv)
  have hvl := hv.lt
  clear hv
  have e1 : (putL xs xs.length x).flatMap Bk.enc = xs.flatMap Bk.enc ++ x.enc := by simp [putL]
  rw [e1]
  have hO := Lib.hid h
  have hI0 : (0 : Int) ≤ xs.length := by omega
  rcases h.2 with ⟨rfl, h0⟩ | ⟨g, cap, cur, rfl, hg, hh, hc, hm, _, _⟩
  · rw [h0] at *
    clear h
    go_enter Try.func66, Try.ntmps66
    go_wp2_with (at_builtin; refine wpList_append_own _ rfl _ _ 26 rfl base 45 i0 _ 3 24 Try.underlying26 hinfo.out.1 hinfo.out.2.1 hinfo.out.2.2.1 hinfo.out.2.2.2 rfl (by decide) _ _ _ rfl hO.out ⟨vb, 0, none⟩ _ _ x.enc rfl rfl hnews.out (Bk.enc_one x) (by unfold maxLen; omega) (by omega) hb ?_)
    intro v1 w1 hown1 hgrow hnil
    go_wp2
    go_ret
    exact ⟨v1, rfl, hown1, hgrow⟩
  · clear h hh
    have hm2 : cap ≤ 9223372036854775807 := by unfold maxLen at hm; omega
    by_cases hcn : cap = xs.length
    · go_enter Try.func66, Try.ntmps66
      go_wp2_with (at_builtin; refine wpList_append_own _ rfl _ _ 26 rfl base 45 i0 _ 3 24 Try.underlying26 hinfo.out.1 hinfo.out.2.1 hinfo.out.2.2.1 hinfo.out.2.2.2 rfl (by decide) _ _ _ rfl hO.out ⟨vb, 0, none⟩ _ _ x.enc rfl rfl hnews.out (Bk.enc_one x) (by unfold maxLen; omega) (by omega) hb ?_)
      intro v1 w1 hown1 hgrow hnil
      go_wp2
      go_ret
      exact ⟨v1, rfl, hown1, hgrow⟩
    · go_enter Try.func66, Try.ntmps66
      go_wp2_with (at_builtin; refine wpList_append_own _ rfl _ _ 26 rfl base 45 i0 _ 3 24 Try.underlying26 hinfo.out.1 hinfo.out.2.1 hinfo.out.2.2.1 hinfo.out.2.2.2 rfl (by decide) _ _ _ rfl hO.out ⟨vb, 0, none⟩ _ _ x.enc rfl rfl hnews.out (Bk.enc_one x) (by unfold maxLen; omega) (by omega) hb ?_)
      intro v1 w1 hown1 hgrow hnil
      go_wp2
      go_ret
      exact ⟨v1, rfl, hown1, hgrow⟩
end Go.Proofs.Ytkhldmicejdggaa
