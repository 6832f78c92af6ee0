/- Contracts: an owner is taken out of a list (chapter 22). -/
import Derived.Test.YtimdnihadhbjpaaDoorSellMath
import Derived.Lib.SliceRun
import Derived.WalkSpells
import Derived.Laws.AppendOwn
import Derived.Outline
import Derived.Deep.RegionHeld3
import Derived.IntWalk
import Derived.Test.YtimdnihadhbjpaaDoorCmpS
import Derived.OwnWalk
set_option linter.unusedSimpArgs false
set_option linter.unusedVariables false
namespace Go.Proofs.YtimdnihadhbjpaaDoor
open Go.RowKit Go.Sort Go.Salt
attribute [local go_sem] cell_rg
section
variable {P : Program}
/-- Three cells, one after the other. -/
theorem run_clear_three (w : World) (t e ty : TypeId) (z0 z1 z2 : Value) (ht : P.underlying t = some (.slice e)) (hv : ∀ w, (zeroValue e).run P w = .ok (.agg #[z0, z1, z2]) w) (h0 : z0.oneCell' = true) (h1 : z1.oneCell' = true) (h2 : z2.oneCell' = true) (b o c : Nat)
    (hc : ∀ j, j < 3 → (w.cell? ⟨b, o + j, none⟩).isSome = true) (hf : ∀ j, j < 3 → w.frozen? ⟨b, o + j, none⟩ = false) :
    (Builtin.clear_ #[t] ty #[.slice (some ⟨b, o, none⟩) 1 c]).run P w = .ok (.tuple #[]) (((w.setCell ⟨b, o, none⟩ z0).setCell ⟨b, o + 1, none⟩ z1).setCell ⟨b, o + 2, none⟩ z2) := by
  have hzc : (Builtin.zeroCells (Value.agg #[z0, z1, z2]).cells 1).toList = [z0, z1, z2] := by
    simp [Builtin.zeroCells, Value.cells]
    rfl
  have hst := run_storeCells_cells (P := P) b o [z0, z1, z2] 0 w (by simpa using hc) (by simpa using hf) (by intro v hv'; simp at hv'; rcases hv' with rfl | rfl | rfl <;> assumption)
  simp only [Nat.add_zero] at hst
  simp [Builtin.clear_, run_underlying ht, hv, hzc, hst]
  rfl
end
/-- An append whose run is known. -/
theorem wpList_append_run {P : Program} {w W : World} {ops : Array Oper} {rest : List Oper} {o : Oper} {a : Act} {Q : Exit → Act → World → Prop} (hgd : o.guard = none) (s x : Operand) (t t' : TypeId)
    (ho : o.op = .call { callee := .builtin .append, args := #[s, x], argTypes := #[t, t'] }) (u v r : Value) (hs : a.eval s = u) (hx : a.eval x = v)
    (hr : (Builtin.append_ #[t, t'] o.type #[u, v]).run P w = .ok r W) (h : wpList P ops Q rest (a.put o.dst r) W) : wpList P ops Q (o :: rest) a w :=
  wpList_plain hgd fun _ hK => by
    unfold Oper.wp execOp
    simp only [ho, resolve, invoke, builtin, Sem.run_bind, Sem.run_pure, Result.andThen_ok, List.map_toArray, List.map_cons, List.map_nil, hs, hx, hr]
    exact hK _ _ h
theorem wpList_clear_run {P : Program} {w W : World} {ops : Array Oper} {rest : List Oper} {o : Oper} {a : Act} {Q : Exit → Act → World → Prop} (hgd : o.guard = none) (s : Operand) (t : TypeId)
    (ho : o.op = .call { callee := .builtin .clear, args := #[s], argTypes := #[t] }) (u r : Value) (hs : a.eval s = u)
    (hr : (Builtin.clear_ #[t] o.type #[u]).run P w = .ok r W) (h : wpList P ops Q rest (a.put o.dst r) W) : wpList P ops Q (o :: rest) a w :=
  wpList_plain hgd fun _ hK => by
    unfold Oper.wp execOp
    simp only [ho, resolve, invoke, builtin, Sem.run_bind, Sem.run_pure, Result.andThen_ok, List.map_toArray, List.map_cons, List.map_nil, hs, hr]
    exact hK _ _ h
theorem only_to' {a w w' : World} {row : Option Nat} (hb : Below a.heap.size a w) (h : w.grownBy w' row) : a.grownBy w' row :=
  ⟨h.os.trans hb.os, h.tape.trans hb.tape, h.output.trans hb.output, Nat.le_trans hb.size h.size, fun i hi hn => (h.block i (Nat.lt_of_lt_of_le hi hb.size) hn).trans (hb.block i hi)⟩
theorem row_prefix {w : World} {g : Nat} {E : TypeId} {cs ds : List Value} (h : Row w g E (cs ++ ds)) : Row w g E cs := by
  obtain ⟨arr, h1, h2⟩ := h
  refine ⟨arr, h1, ?_⟩
  have h3 := congrArg (List.take cs.length) h2
  rw [List.take_take, List.length_append, Nat.min_eq_left (by omega), List.take_left'  rfl] at h3
  exact h3
theorem set3_append {α : Type} {L cs : List α} {m : Nat} (h : L.length = m) (a b c : α) : (((L ++ cs).set m a).set (m + 1) b).set (m + 2) c = L ++ ((cs.set 0 a).set 1 b).set 2 c := by
  subst h
  rw [List.set_append_right _ _ (by omega), List.set_append_right _ _ (by omega), List.set_append_right _ _ (by omega)]
  simp
theorem flat_split {α : Type} {enc : α → List Value} {k : Nat} (hk : ∀ x, (enc x).length = k) (xs : List α) (i : Nat) (hi : i ≤ xs.length) : (xs.flatMap enc).take (i * k) = (xs.take i).flatMap enc ∧ (xs.flatMap enc).drop (i * k) = (xs.drop i).flatMap enc := by
  have h1 : ((xs.take i).flatMap enc).length = i * k := by rw [flat_len hk, List.length_take, Nat.min_eq_left hi]
  have h2 : xs.flatMap enc = (xs.take i).flatMap enc ++ (xs.drop i).flatMap enc := by rw [← List.flatMap_append, List.take_append_drop]
  rw [h2, ← h1]
  exact ⟨by rw [List.take_left' rfl], by rw [List.drop_left' rfl]⟩
/-- All behind element i is moved by one. -/
theorem shift_row {P : Program} {α : Type} {enc : α → List Value} {k : Nat} (hk : ∀ x, (enc x).length = k) (hone : ∀ x, ∀ u ∈ enc x, u.oneCell' = true) {w : World} {g cap i c' : Nat} {t ty e : TypeId} {A' : Addr} {xs : List α} {ti : TypeInfo} (ht : P.underlying t = some (.slice e)) (hti : P.info? e = some ti) (hsz : ti.size = k)
    (h : Row w g e (xs.flatMap enc)) (hi : i < xs.length) (hx : xs.length ≤ cap) (hA : xs.length - (i + 1) = 0 ∨ A' = ⟨g, (i + 1) * k, none⟩) :
    ∃ W cs, (Builtin.append_ #[t, t] ty #[.slice (some ⟨g, 0, none⟩) i cap, .slice (some A') (xs.length - (i + 1)) c']).run P w = .ok (.slice (some ⟨g, 0, none⟩) (xs.length - 1) cap) W ∧ Row W g e ((xs.take i ++ xs.drop (i + 1)).flatMap enc ++ cs) ∧ cs.length = k ∧ w.grownBy W (some g) := by
  obtain ⟨arr, hh, htk⟩ := h
  have hfl := flat_len hk xs
  rw [hfl] at htk
  have hle : xs.length * k ≤ arr.size := by
    have h3 := congrArg List.length htk
    rw [hfl, List.length_take] at h3
    simp at h3
    omega
  have hd : ((xs.drop (i + 1)).flatMap enc).length = (xs.length - (i + 1)) * k := by rw [flat_len hk, List.length_drop]
  have hmul : (xs.length - (i + 1)) * k + (i + 1) * k = xs.length * k := by rw [← Nat.add_mul]; congr 1; omega
  have hmul2 : (i + 1) * k = i * k + k := by rw [Nat.add_mul, Nat.one_mul]
  have hmul3 : (xs.length - 1) * k + k = xs.length * k := by rw [show xs.length * k = (xs.length - 1 + 1) * k by congr 1; omega, Nat.add_mul, Nat.one_mul]
  have hrun := run_append_room (P := P) w t ty e ti ht hti g i cap arr hh A' (xs.length - (i + 1)) c' ((xs.drop (i + 1)).flatMap enc) (by rw [hd, hsz]) (by
    intro j u hu
    have hj : j < ((xs.drop (i + 1)).flatMap enc).length := by
      rcases Nat.lt_or_ge j ((xs.drop (i + 1)).flatMap enc).length with h | h
      · exact h
      · rw [List.getElem?_eq_none h] at hu; cases hu
    rcases hA with hA | rfl
    · rw [hd, hA, Nat.zero_mul] at hj; omega
    · have ea : (⟨g, (i + 1) * k, none⟩ : Addr).add j = ⟨g, (i + 1) * k + j, none⟩ := by unfold Addr.add; split <;> simp_all
      rw [ea]
      have h5 : w.cell? ⟨g, (i + 1) * k + j, none⟩ = arr[(i + 1) * k + j]? := by simp [World.cell?, hh]
      rw [h5, ← hu, ← Array.getElem?_toList]
      have h6 : arr.toList[(i + 1) * k + j]? = (arr.toList.take (xs.length * k))[(i + 1) * k + j]? := by rw [List.getElem?_take, if_pos (by rw [hd] at hj; omega)]
      rw [h6, htk, ← (flat_split hk xs (i + 1) (by omega)).2, List.getElem?_drop]) (flat_one hone) (by omega) (by rw [hd, hsz]; omega)
  rw [show i + (xs.length - (i + 1)) = xs.length - 1 by omega] at hrun
  have hL : (arr.toList.take (i * k) ++ (xs.drop (i + 1)).flatMap enc ++ arr.toList.drop (i * k + ((xs.drop (i + 1)).flatMap enc).length)).take (xs.length * k) = (xs.take i ++ xs.drop (i + 1)).flatMap enc ++ (arr.toList.drop (i * k + (xs.length - (i + 1)) * k)).take k := by
    have e1 : arr.toList.take (i * k) = (xs.take i).flatMap enc := by
      rw [← (flat_split hk xs i (by omega)).1, ← htk, List.take_take, Nat.min_eq_left (by omega)]
    have e2 : ((xs.take i).flatMap enc ++ (xs.drop (i + 1)).flatMap enc).length = (xs.length - 1) * k := by
      rw [List.length_append, hd, flat_len hk, List.length_take, Nat.min_eq_left (by omega)]; omega
    rw [e1, hd, List.take_append, e2, List.take_of_length_le (by rw [e2]; omega), ← List.flatMap_append, show xs.length * k - (xs.length - 1) * k = k by omega]
  refine ⟨_, (arr.toList.drop (i * k + (xs.length - (i + 1)) * k)).take k, hrun, ⟨(arr.toList.take (i * k) ++ (xs.drop (i + 1)).flatMap enc ++ arr.toList.drop (i * k + ((xs.drop (i + 1)).flatMap enc).length)).toArray, ?_, ?_⟩, ?_, ?_⟩
  · rw [← hsz]
    simp [World.setRow, Array.getElem?_modify, hh]
  · rw [← hL]
    rw [show ((arr.toList.take (i * k) ++ (xs.drop (i + 1)).flatMap enc ++ arr.toList.drop (i * k + ((xs.drop (i + 1)).flatMap enc).length)).take (xs.length * k)).length = xs.length * k from ?_]
    simp only [List.length_take, List.length_append, List.length_drop, hd]
    simp
    omega
  · rw [List.length_take, List.length_drop]
    simp
    omega
  · refine ⟨rfl, rfl, rfl, by simp [World.setRow], fun j hj hne => ?_⟩
    have hne' : j ≠ g := fun e => hne (by rw [e])
    simp [World.setRow, Array.getElem?_modify, hne'.symm]
theorem Ow.enc_one (x : Ow) : ∀ u ∈ x.enc, u.oneCell' = true := fun u hu => by simp [Ow.enc] at hu; rcases hu with rfl | rfl | rfl <;> rfl
set_option maxRecDepth 100000 in
set_option maxHeartbeats 4000000 in
theorem deleteOw_row (g cap : Nat) (xs : List Ow) (i : Nat) (w : World) (h : Row w g 54 (xs.flatMap Ow.enc)) (hi : i < xs.length) (hx : xs.length ≤ cap) (hcap : cap ≤ maxLen) :
    Calls Tryd.prog 83 #[.slice (some ⟨g, 0, none⟩) xs.length cap, .int .i64 i, .int .i64 ((i : Int) + 1)] w fun e w' => e = .returned (.slice (some ⟨g, 0, none⟩) (xs.length - 1) cap) ∧ Row w' g 54 ((xs.take i ++ xs.drop (i + 1)).flatMap Ow.enc) ∧ w.grownBy w' (some g) := by
  obtain ⟨i0, hi1, hz0, hz1, hz2⟩ := info_parts ow_info
  have HS := fun (W : World) (hr : Row W g 54 (xs.flatMap Ow.enc)) (A' : Addr) (c' : Nat) (hA : xs.length - (i + 1) = 0 ∨ A' = ⟨g, (i + 1) * 3, none⟩) => shift_row (P := Tryd.prog) (c' := c') (ty := 25) Ow.enc_len Ow.enc_one Tryd.underlying25 hi1 hz1 hr hi hx hA
  replace HS := Lib.hid HS
  clear hi1 hz0 hz1 hz2
  have hI0 : (0 : Int) ≤ i := by omega
  have hI1 : (i : Int) + 1 ≤ xs.length := by omega
  have hI2 : (i : Int) ≤ (i : Int) + 1 := by omega
  have hm : cap ≤ 9223372036854775807 := by unfold maxLen at hcap; omega
  have heq : ((i : Int) == (i : Int) + 1) = false := by simp; omega
  have hone : xs.length - (xs.length - 1) = 1 := by omega
  have hJ0 : (0 : Int) ≤ ((xs.length - 1 : Nat) : Int) := by omega
  have hJ1 : ((xs.length - 1 : Nat) : Int) ≤ xs.length := by omega
  have hJ2 : ¬ (xs.length - 1 = cap) := by omega
  have hJ3 : xs.length - 1 ≤ xs.length := by omega
  have Hh := Lib.hid h
  clear h
  have hclr := fun (W : World) (c' : Nat) (hc : ∀ j, j < 3 → (W.cell? ⟨g, (xs.length - 1) * 3 + j, none⟩).isSome = true) (hf : ∀ j, j < 3 → W.frozen? ⟨g, (xs.length - 1) * 3 + j, none⟩ = false) => run_clear_three (P := Tryd.prog) W 25 54 0 (.string ByteArray.empty) (.int .i64 0) (.int .i64 0) Tryd.underlying25 (fun _ => by kernel_rfl) rfl rfl rfl g ((xs.length - 1) * 3) c' hc hf
  have HC := Lib.hid hclr
  clear hclr
  have hlen : ((xs.take i ++ xs.drop (i + 1)).flatMap Ow.enc).length = (xs.length - 1) * 3 := by
    rw [flat_len Ow.enc_len, List.length_append, List.length_take, List.length_drop, Nat.min_eq_left (by omega)]
    congr 1; omega
  have Hlen := Lib.hid hlen
  clear hlen
  by_cases hk : i + 1 = cap
  · subst hk
    have hJ4 : ¬ (xs.length - 1 = i + 1) := by omega
    go_enter Tryd.func83, Tryd.ntmps83
    go_wp2_with fail
    refine wp_region_below_tail 6 (by kernel_rfl) (by kernel_rfl) ?_
    simp only [List.take_succ_cons, List.take_zero, List.drop_succ_cons, List.drop_zero]
    repeat (go_big_quiet_step (fail))
    (refine wpQuiet_nil ?_; intro w1 hwq; have hb1 := of_cls hwq; clear hwq)
    (have hs1 := hb1.size; (try simp at hs1); obtain ⟨hc1, hf1, hn1⟩ := bcell hb1; (try have hz1_w_0 : w.heap.size < w1.heap.size := by omega); (try have hz1_w_1 : w.heap.size + 1 < w1.heap.size := by omega); (try have hz1_w_2 : w.heap.size + 2 < w1.heap.size := by omega); (try have hz1_w_2b : w.heap.size + 1 + 1 < w1.heap.size := by omega))
    obtain ⟨W2, cs, hrun, hrow, hcl, hg⟩ := HS.out w1 (Hh.out.to hb1) ⟨g, 0, none⟩ 0 (.inl (by omega))
    have hcell : ∀ j, j < 3 → ∃ v, W2.cell? ⟨g, (xs.length - 1) * 3 + j, none⟩ = some v := fun j hj => ⟨_, hrow.cell (by rw [List.length_append, Hlen.out]; omega)⟩
    have hfz := hrow.frozen
    have hcr := HC.out W2 ((i + 1) - (xs.length - 1)) (fun j hj => by obtain ⟨v, hv⟩ := hcell j hj; rw [hv]; rfl) (fun j _ => hfz _)
    clear hcell hfz
    have Hrow := Lib.hid hrow
    clear hrow
    first | rw [show xs.length - (i + 1) = 0 by omega] at hrun | skip
    refine wpList_append_run rfl _ _ _ _ rfl _ _ _ rfl rfl hrun ?_
    clear hrun
    go_wp2_with (with_reducible refine wpList_clear_run (o := ⟨none, _, _, _, _, _⟩) rfl (.tmp 31) 25 rfl _ _ rfl hcr ?_)
    clear hcr
    go_ret
    have r0 := ((Hrow.out.set (j := (xs.length - 1) * 3) (.string ByteArray.empty)).set (j := (xs.length - 1) * 3 + 1) (.int .i64 0)).set (j := (xs.length - 1) * 3 + 2) (.int .i64 0)
    rw [set3_append Hlen.out] at r0
    exact ⟨rfl, row_prefix r0, only_setCell (only_setCell (only_setCell (only_to' hb1 hg) (.inl rfl) _) (.inl rfl) _) (.inl rfl) _⟩
  · have hI3 : ¬ ((i : Int) + 1 = cap) := by omega
    go_enter Tryd.func83, Tryd.ntmps83
    go_wp2_with fail
    refine wp_region_below_tail 6 (by kernel_rfl) (by kernel_rfl) ?_
    simp only [List.take_succ_cons, List.take_zero, List.drop_succ_cons, List.drop_zero]
    repeat (go_big_quiet_step (fail))
    (refine wpQuiet_nil ?_; intro w1 hwq; have hb1 := of_cls hwq; clear hwq)
    (have hs1 := hb1.size; (try simp at hs1); obtain ⟨hc1, hf1, hn1⟩ := bcell hb1; (try have hz1_w_0 : w.heap.size < w1.heap.size := by omega); (try have hz1_w_1 : w.heap.size + 1 < w1.heap.size := by omega); (try have hz1_w_2 : w.heap.size + 2 < w1.heap.size := by omega); (try have hz1_w_2b : w.heap.size + 1 + 1 < w1.heap.size := by omega))
    obtain ⟨W2, cs, hrun, hrow, hcl, hg⟩ := HS.out w1 (Hh.out.to hb1) ⟨g, (i + 1) * 3, none⟩ (cap - (i + 1)) (.inr rfl)
    have hcell : ∀ j, j < 3 → ∃ v, W2.cell? ⟨g, (xs.length - 1) * 3 + j, none⟩ = some v := fun j hj => ⟨_, hrow.cell (by rw [List.length_append, Hlen.out]; omega)⟩
    have hfz := hrow.frozen
    have hcr := HC.out W2 (cap - (xs.length - 1)) (fun j hj => by obtain ⟨v, hv⟩ := hcell j hj; rw [hv]; rfl) (fun j _ => hfz _)
    clear hcell hfz
    have Hrow := Lib.hid hrow
    clear hrow
    refine wpList_append_run rfl _ _ _ _ rfl _ _ _ rfl rfl hrun ?_
    clear hrun
    go_wp2_with (with_reducible refine wpList_clear_run (o := ⟨none, _, _, _, _, _⟩) rfl (.tmp 31) 25 rfl _ _ rfl hcr ?_)
    clear hcr
    go_ret
    have r0 := ((Hrow.out.set (j := (xs.length - 1) * 3) (.string ByteArray.empty)).set (j := (xs.length - 1) * 3 + 1) (.int .i64 0)).set (j := (xs.length - 1) * 3 + 2) (.int .i64 0)
    rw [set3_append Hlen.out] at r0
    exact ⟨rfl, row_prefix r0, only_setCell (only_setCell (only_setCell (only_to' hb1 hg) (.inl rfl) _) (.inl rfl) _) (.inl rfl) _⟩
theorem own_caps {w : World} {base n cap g : Nat} {E : TypeId} {size : Nat} {cs : List Value} (h : w.ownsRow base E size (.slice (some ⟨g, 0, none⟩) n cap) n cs) : n ≤ cap ∧ cap ≤ maxLen := by
  rcases h.2 with ⟨h2, _⟩ | ⟨g', cap', cur, hv, hg, hh, h3, h4, _⟩
  · simp at h2
  · simp only [Value.slice.injEq] at hv
    obtain ⟨_, _, rfl⟩ := hv
    exact ⟨h3, h4⟩
theorem step_append_own {P : Program} {w : World} {ops : Array Oper} {o : Oper} {a : Act} {K : Act → World → Prop} {Q : Exit → Act → World → Prop} {E : Prop} (hgd : o.guard = none) (s x : Operand) (t : TypeId)
    (ho : o.op = .call { callee := .builtin .append, args := #[s, x], argTypes := #[t, t] })
    (base : Nat) (e : TypeId) (i : TypeInfo) (z : Value) (size bytes : Nat) (ht : P.underlying t = some (.slice e)) (hi : P.info? e = some i) (hz : i.zero = some z)
    (hsize : i.size = size) (hby : i.bytes = bytes) (hzs : z.cells.size = size) (hsz : 0 < size)
    (v : Value) (n : Nat) (xs : List Value) (hs : a.eval s = v) (hown : w.ownsRow base e size v n xs)
    (ad : Addr) (m c : Nat) (news : List Value) (hx : a.eval x = .slice (some ad) m c) (hl : news.length = m * size) (hnews : ∀ j u, news[j]? = some u → w.cell? (ad.add j) = some u) (h1 : ∀ u ∈ news, u.oneCell' = true)
    (h63 : n + m ≤ maxLen) (hbytes : (n + m) * bytes ≤ 140737488355328) (hbase : base ≤ w.heap.size)
    (h : ∀ v' w', w'.ownsRow base e size v' (n + m) (xs ++ news) → w.grownBy w' v.ownBlock → (v' = .slice none 0 0 ↔ v = .slice none 0 0 ∧ m = 0) → K (a.put o.dst v') w') :
    if Region.wanted o (yielded ops a.tmps) = true then Oper.wp P o a w K Q else E := by
  rw [if_pos (by simp [Region.wanted, hgd])]
  exact wp_append_own w s x t ho base e i z size bytes ht hi hz hsize hby hzs hsz v n xs hs hown ad m c news hx hl hnews h1 h63 hbytes hbase h
theorem step_append_at {P : Program} {w : World} {ops : Array Oper} {o : Oper} {a : Act} {K : Act → World → Prop} {Q : Exit → Act → World → Prop} {E : Prop} (hgd : o.guard = none) (s x : Operand) (t : TypeId)
    (ho : o.op = .call { callee := .builtin .append, args := #[s, x], argTypes := #[t, t] })
    (base : Nat) (e : TypeId) (i : TypeInfo) (z : Value) (size bytes : Nat) (ht : P.underlying t = some (.slice e)) (hi : P.info? e = some i) (hz : i.zero = some z)
    (hsize : i.size = size) (hby : i.bytes = bytes) (hzs : z.cells.size = size) (hsz : 0 < size)
    (v : Value) (n : Nat) (xs : List Value) (hs : a.eval s = v) (hown : w.ownsRow base e size v n xs)
    (ad : Addr) (X : Option Addr) (m c : Nat) (news : List Value) (hx : a.eval x = .slice X m c) (hX : X = some ad) (hl : news.length = m * size) (hnews : ∀ j u, news[j]? = some u → w.cell? (ad.add j) = some u) (h1 : ∀ u ∈ news, u.oneCell' = true)
    (h63 : n + m ≤ maxLen) (hbytes : (n + m) * bytes ≤ 140737488355328) (hbase : base ≤ w.heap.size)
    (h : ∀ v' w', w'.ownsRow base e size v' (n + m) (xs ++ news) → w.grownBy w' v.ownBlock → (v' = .slice none 0 0 ↔ v = .slice none 0 0 ∧ m = 0) → K (a.put o.dst v') w') :
    if Region.wanted o (yielded ops a.tmps) = true then Oper.wp P o a w K Q else E := by
  subst hX
  rw [if_pos (by simp [Region.wanted, hgd])]
  exact wp_append_own w s x t ho base e i z size bytes ht hi hz hsize hby hzs hsz v n xs hs hown ad m c news hx hl hnews h1 h63 hbytes hbase h
section
variable {α : Type} [Inhabited α] {w : World} {B k : Nat} {b o : Nat} {enc : α → List Value} {xs : List α}
/-- The cells of the first elements; of those behind an element. -/
theorem news_take (h : Rd w B (some ⟨b, o, none⟩) k enc xs) (hk : ∀ x, (enc x).length = k) {i : Nat} (hi : i ≤ xs.length) : ∀ j u, ((xs.take i).flatMap enc)[j]? = some u → w.cell? ((⟨b, o, none⟩ : Addr).add j) = some u := fun j u hu => by
  rw [← (flat_split hk xs i hi).1, List.getElem?_take] at hu
  split at hu
  · exact h.news hk j u hu
  · cases hu
theorem news_drop (h : Rd w B (some ⟨b, o, none⟩) k enc xs) (hk : ∀ x, (enc x).length = k) {i : Nat} (hi : i ≤ xs.length) {ad : Addr} (hA : xs.length - i = 0 ∨ ad = ⟨b, o + i * k, none⟩) : ∀ j u, ((xs.drop i).flatMap enc)[j]? = some u → w.cell? (ad.add j) = some u := fun j u hu => by
  rcases hA with hA | rfl
  · rw [List.drop_of_length_le (by omega)] at hu; simp at hu
  · rw [← (flat_split hk xs i hi).2, List.getElem?_drop] at hu
    have h1 := h.news hk _ u hu
    rw [show (⟨b, o, none⟩ : Addr).add (i * k + j) = (⟨b, o + i * k, none⟩ : Addr).add j from by unfold Addr.add; split <;> split <;> simp_all <;> omega] at h1
    exact h1
end
theorem len_take {α : Type} {enc : α → List Value} {k : Nat} (hk : ∀ x, (enc x).length = k) (xs : List α) {i : Nat} (hi : i ≤ xs.length) : ((xs.take i).flatMap enc).length = i * k := by rw [flat_len hk, List.length_take, Nat.min_eq_left hi]
theorem len_drop {α : Type} {enc : α → List Value} {k : Nat} (hk : ∀ x, (enc x).length = k) (xs : List α) (i : Nat) : ((xs.drop i).flatMap enc).length = (xs.length - i) * k := by rw [flat_len hk, List.length_drop]
theorem grew_new {w w1 w2 : World} {T : TypeId} {n c : Nat} (hb1 : Below w.heap.size w w1) (h : ((w1.alloc (Obj.cells #[] T)).drew).grownBy w2 (Value.slice (some ⟨w1.heap.size, 0, none⟩) n c).ownBlock) : Below w.heap.size w w2 := by
  have hs := hb1.size
  refine (show Below w.heap.size w ((w1.alloc (Obj.cells #[] T)).drew) from (by repeat' (first | (with_reducible exact Below.refl _ _) | (with_reducible refine Below.alloc ?_ ?_ _) | (with_reducible refine Below.setCell ?_ ?_ _) | (with_reducible refine Below.drew ?_) | (with_reducible refine Below.trans ?_ (Below.mono (by with_reducible assumption) ?_)) | omega | (simp; done) | (simp; omega)))).grown h (by simp; omega) ?_
  intro k hk
  simp [Value.ownBlock] at hk
  omega
set_option maxHeartbeats 4000000 in
theorem cloneOw_own (ad : Addr) (c : Nat) (xs : List Ow) (w : World) (h : Rd w w.heap.size (some ad) 3 Ow.enc xs) (hx : xs.length ≤ 1048576) :
    Calls Tryd.prog 91 #[.slice (some ad) xs.length c] w fun e w' => ∃ v, e = .returned v ∧ w'.ownsRow w.heap.size 54 3 v xs.length (xs.flatMap Ow.enc) ∧ Below w.heap.size w w' := by
  have q := fun (w : World) (a : Option Addr) (n c n' c' : Nat) => Lib.run_eql_slice_nil w 25 _ a n c n' c' Tryd.underlying25
  obtain ⟨i0, hi, hz0, hz1, hz2⟩ := info_parts ow_info
  have hinfo := Lib.hid (And.intro hi (And.intro hz0 (And.intro hz1 hz2)))
  clear hi hz0 hz1 hz2
  go_enter Tryd.func91, Tryd.ntmps91
  go_wp2_with (at_builtin; refine wpList_append_own _ rfl _ _ 25 rfl w.heap.size 54 i0 _ 3 32 Tryd.underlying25 hinfo.out.1 hinfo.out.2.1 hinfo.out.2.2.1 hinfo.out.2.2.2 rfl (by decide) _ _ _ rfl (own_empty 3 (Nat.le_refl _) (heap_alloc_new w _)) ad _ _ (xs.flatMap Ow.enc) rfl (flat_len Ow.enc_len xs) ((h.to (by repeat' (first | (with_reducible exact Below.refl _ _) | (with_reducible refine Below.alloc ?_ ?_ _) | (with_reducible refine Below.setCell ?_ ?_ _) | (with_reducible refine Below.drew ?_) | (with_reducible refine Below.trans ?_ (Below.mono (by with_reducible assumption) ?_)) | omega | (simp; done) | (simp; omega)))).news Ow.enc_len) (flat_one Ow.enc_one) (by unfold maxLen; omega) (by omega) (by simp) ?_)
  intro v1 w1 hown1 hgrow hnil
  have hb1 : Below w.heap.size w w1 := own_grew (own_empty (W := w.alloc (.cells #[] 54)) 3 (Nat.le_refl _) (heap_alloc_new w _)) (show Below w.heap.size w (w.alloc _) from (by repeat' (first | (with_reducible exact Below.refl _ _) | (with_reducible refine Below.alloc ?_ ?_ _) | (with_reducible refine Below.setCell ?_ ?_ _) | (with_reducible refine Below.drew ?_) | (with_reducible refine Below.trans ?_ (Below.mono (by with_reducible assumption) ?_)) | omega | (simp; done) | (simp; omega)))) (by simp) hgrow
  have hown1 : w1.ownsRow w.heap.size 54 3 v1 xs.length (xs.flatMap Ow.enc) := by simpa using hown1
  go_wp2
  go_ret
  exact ⟨v1, rfl, hown1, hb1⟩
end Go.Proofs.YtimdnihadhbjpaaDoor
