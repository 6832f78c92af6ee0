/- A checker of draws. Part two: what each operation does. No conditions. -/
import Derived.Test.YtocaodoagiokjaaDoorDr
import Derived.WalkKit
set_option linter.unusedSimpArgs false
set_option linter.unusedVariables false
namespace Go.Dr
open Go.RowKit Go.Sort Go.Salt Go.Proofs.YtocaodoagiokjaaDoor
section
variable {P : Program} {tb : Tab} {base : Nat} {g q : Option CI} {w w' : World}
/-- Quiet: the cursor too is as it was. -/
structure Calm (tb : Tab) (base : Nat) (g q : Option CI) (w w' : World) : Prop where
  keep : Keep tb base g w w'
  cur : ∀ x, q = some x → w'.heap[x.p]? = w.heap[x.p]?
theorem Calm.refl : Calm tb base g q w w := ⟨Keep.refl _ _ _ _, fun _ _ => rfl⟩
theorem Calm.trans {w'' : World} (h : Calm tb base g q w w') (k : Calm tb base g q w' w'') : Calm tb base g q w w'' := ⟨h.keep.trans k.keep, fun x hx => (k.cur x hx).trans (h.cur x hx)⟩
/-- The cursor lies in the heap, in a block of its own type. -/
def HasCur (q : Option CI) (w : World) : Prop := ∀ x, q = some x → ∃ arr, w.heap[x.p]? = some (.cells arr 53 (0, 0))
theorem TB.alloc {own : Bool} {b : Nat} {T : TypeId} {m : Nat} (h : TB tb base own w b T m) (o : Obj) : TB tb base own (w.alloc o) b T m := by
  obtain ⟨h1, cs, d, h2, r⟩ := h
  have hlt : b < w.heap.size := (Array.getElem?_eq_some_iff.1 h2).1
  exact ⟨h1, cs, d, (Below.heap_alloc w o b hlt).trans h2, r⟩
theorem block_lt {b : Nat} {o : Obj} (h : w.heap[b]? = some o) : b < w.heap.size := (Array.getElem?_eq_some_iff.1 h).1
theorem calm_alloc (hb : base ≤ w.heap.size) (hc : HasCur q w) (o : Obj) : Calm tb base g q w (w.alloc o) :=
  ⟨⟨rfl, rfl, rfl, by simp, fun b hlt _ => Below.heap_alloc w o b (by omega), fun _ _ _ _ h => h.alloc o⟩, fun x hx => by
    obtain ⟨arr, h⟩ := hc x hx
    exact Below.heap_alloc w o x.p (block_lt h)⟩
theorem calm_drew : Calm tb base g q w w.drew := ⟨⟨rfl, rfl, rfl, Nat.le_refl _, fun _ _ _ => rfl, fun _ _ _ _ h => h⟩, fun _ _ => rfl⟩
theorem TB.new (hb : base ≤ w.heap.size) {own : Bool} {T : TypeId} {d : TD} {m : Nat} {cs : Array Value} (ht : tb.td T = some d) (hs : cs.size = m * d.ct.length) (hc : TyC d.ct cs) : TB tb base own (w.alloc (.cells cs T)) w.heap.size T m :=
  ⟨fun _ => hb, cs, d, heap_alloc_new w _, ht, hs, hc⟩
theorem calm_setRow (tok : TabOk P tb) (hc : HasCur q w) {b : Nat} {T : TypeId} {d : TD} {cs cs' : Array Value} (ho : base ≤ b) (hh : w.heap[b]? = some (.cells cs T (0, 0))) (ht : tb.td T = some d) (hs : cs'.size = cs.size) (hty : TyC d.ct cs') : Calm tb base g q w (w.setRow b cs') := by
  refine ⟨⟨rfl, rfl, rfl, by simp, fun k hk _ => setRow_other w b k cs' (by omega), fun own b' T' m h => ?_⟩, fun x hx => ?_⟩
  · obtain ⟨h1, cs2, d2, h2, h3, h4, h5⟩ := h
    by_cases e : b' = b
    · subst e
      rw [hh] at h2
      simp only [Option.some.injEq, Obj.cells.injEq] at h2
      obtain ⟨rfl, rfl, _⟩ := h2
      rw [ht] at h3
      cases h3
      exact ⟨h1, cs', d, setRow_heap w b' cs cs' T (0, 0) hh, ht, by omega, hty⟩
    · exact ⟨h1, cs2, d2, (setRow_other w b b' cs' e).trans h2, h3, h4, h5⟩
  · obtain ⟨arr, h⟩ := hc x hx
    refine setRow_other w b x.p cs' fun e => ?_
    rw [e, hh] at h
    simp only [Option.some.injEq, Obj.cells.injEq] at h
    rw [h.2.1, tok.cur] at ht
    cases ht

/-! ### values that fit a type -/
def AV.fitB : AV → TD → Bool
  | .agg ct, d => d.agg && decide (ct = d.ct)
  | .int lo hi, d => !d.agg && decide (d.ct = [.int]) && decide (-9223372036854775808 ≤ lo) && decide (hi ≤ 9223372036854775807)
  | .str, d => !d.agg && decide (d.ct = [.str])
  | _, _ => false
theorem AV.fits {av : AV} {d : TD} {v : Value} (h : AVok tb base g q w av v) (hf : av.fitB d = true) : v.cells.size = d.ct.length ∧ TyC d.ct v.cells := by
  unfold AV.fitB at hf
  split at hf
  · simp only [Bool.and_eq_true, decide_eq_true_eq] at hf
    obtain ⟨_, rfl⟩ := hf
    obtain ⟨arr, rfl, h1, h2⟩ := h
    exact ⟨h1, h2⟩
  · simp only [Bool.and_eq_true, decide_eq_true_eq] at hf
    obtain ⟨⟨⟨_, e⟩, h1⟩, h2⟩ := hf
    obtain ⟨z, rfl, h3, h4⟩ := h
    rw [e]
    refine ⟨rfl, fun i u hu => ?_⟩
    have : i = 0 := by have := (Array.getElem?_eq_some_iff.1 hu).1; simpa [Value.cells] using this
    subst this
    exact ⟨.int, rfl, z, by simpa [Value.cells] using hu.symm, by omega, by omega⟩
  · simp only [Bool.and_eq_true, decide_eq_true_eq] at hf
    obtain ⟨_, e⟩ := hf
    obtain ⟨s, rfl, h1⟩ := h
    rw [e]
    refine ⟨rfl, fun i u hu => ?_⟩
    have : i = 0 := by have := (Array.getElem?_eq_some_iff.1 hu).1; simpa [Value.cells] using this
    subst this
    exact ⟨.str, rfl, s, by simpa [Value.cells] using hu.symm, h1⟩
  · cases hf
/-- What a variable of that type reads as. -/
def TD.av (d : TD) : AV := if d.agg then .agg d.ct else match d.ct with | [.int] => .int (-9223372036854775808) 9223372036854775807 | [.str] => .str | _ => .top
theorem TD.av_agg {d : TD} (h : d.agg = true) {arr : Array Value} (h1 : arr.size = d.ct.length) (h2 : TyC d.ct arr) : AVok tb base g q w d.av (.agg arr) := by
  unfold TD.av
  rw [if_pos h]
  exact ⟨arr, rfl, h1, h2⟩
theorem TD.av_one {d : TD} (h : d.agg = false) {v : Value} {c : CT} (h1 : d.ct = [c]) (h2 : c.ok v) : AVok tb base g q w d.av v := by
  unfold TD.av
  rw [h, h1]
  cases c with
  | int => exact h2
  | str => exact h2

/-! ### running -/
theorem run_isAgg {t : TypeId} {d : TD} (h : TdOk P tb t d) (w : World) : (isAgg t).run P w = .ok d.agg w := by
  rcases h.und with ⟨h1, fs, hu, _⟩ | ⟨h1, _, hu | hu⟩
  · simp [isAgg, run_underlying hu, h1]
  · simp [isAgg, run_underlying hu, h1]
  · simp [isAgg, run_underlying hu, h1]
theorem run_sizeOf {t : TypeId} {d : TD} (h : TdOk P tb t d) (w : World) : (sizeOf t).run P w = .ok d.ct.length w := by
  obtain ⟨i, z, h1, h2, _⟩ := h.info
  simp [sizeOf, typeInfo, h1, h2]
theorem one_ct {t : TypeId} {d : TD} (h : TdOk P tb t d) (ha : d.agg = false) : ∃ c, d.ct = [c] := by
  rcases h.und with ⟨h1, _⟩ | ⟨_, h1, _⟩
  · rw [h1] at ha; cases ha
  · match d.ct, h1 with
    | [c], _ => exact ⟨c, rfl⟩
theorem cells_run {b o L : Nat} {T : TypeId} {cs : Array Value} {vs : List Value} (hh : w.heap[b]? = some (.cells cs T (0, 0))) (hl : vs.length = L) (h : ∀ (j : Nat) (v : Value), vs[j]? = some v → cs[o + j]? = some v) : (loadCells ⟨b, o, none⟩ L).run P w = .ok vs.toArray w := by
  subst hl
  refine run_loadCells_list (P := P) w ⟨b, o, none⟩ vs fun j v hj => ?_
  rw [Addr.add_lit, cell_of_row w b (o + j) cs T (0, 0) hh]
  exact h j v hj
/-- Loading a part of an element. -/
theorem run_loadPart (tok : TabOk P tb) {own : Bool} {b m i o : Nat} {T t : TypeId} {D d : TD} (h : TB tb base own w b T m) (hD : tb.td T = some D) (hd : tb.td t = some d) (hi : i < m) (ho : o + d.ct.length ≤ D.ct.length) (e : (D.ct.drop o).take d.ct.length = d.ct) :
    ∃ v, (loadVar t ⟨b, i * D.ct.length + o, none⟩).run P w = .ok v w ∧ AVok tb base g q w d.av v := by
  obtain ⟨_, cs, D', hh, hD', hs, hc⟩ := h
  rw [hD] at hD'; cases hD'
  have td := tok.td t d hd
  obtain ⟨vs, v1, v2, v3⟩ := hc.read hs hi ho e
  by_cases ha : d.agg = true
  · refine ⟨.agg vs.toArray, ?_, TD.av_agg ha (by simpa using v1) v3⟩
    simp [loadVar, run_isAgg td, ha, run_sizeOf td, cells_run (P := P) hh v1 v2]
  · have ha' : d.agg = false := by simpa using ha
    obtain ⟨c, hc1⟩ := one_ct td ha'
    have hl1 : vs.length = 1 := by rw [v1, hc1]; rfl
    match vs, hl1, v2, v3 with
    | [v], _, v2, v3 =>
      obtain ⟨c', hc', hok⟩ := v3 0 v (by simp)
      have hcc : c' = c := by rw [hc1] at hc'; simpa using hc'.symm
      subst hcc
      have := v2 0 v (by simp)
      refine ⟨v, ?_, TD.av_one ha' hc1 hok⟩
      simp only [Nat.add_zero] at this
      simp [loadVar, run_isAgg td, ha', cell_of_row w b _ cs T (0, 0) hh, this]
/-- Storing a part of an element. -/
theorem run_storePart (tok : TabOk P tb) (hcur : HasCur q w) {b m i o : Nat} {T t : TypeId} {D d : TD} {av : AV} {v : Value} (h : TB tb base true w b T m) (hD : tb.td T = some D) (hd : tb.td t = some d) (hi : i < m) (ho : o + d.ct.length ≤ D.ct.length) (e : (D.ct.drop o).take d.ct.length = d.ct)
    (hv : AVok tb base g q w av v) (hf : av.fitB d = true) :
    ∃ w', (storeVar t ⟨b, i * D.ct.length + o, none⟩ v).run P w = .ok () w' ∧ Calm tb base g q w w' := by
  obtain ⟨hb, cs, D', hh, hD', hs, hc⟩ := h
  rw [hD] at hD'; cases hD'
  have td := tok.td t d hd
  obtain ⟨v1, v2⟩ := AV.fits hv hf
  have hdue : Due D.ct (i * D.ct.length + o) v.cells.toList := Due.sub (by simpa using v2) (by simpa using v1) ho e
  have hfit : i * D.ct.length + o + v.cells.toList.length ≤ cs.size := by
    have := fit_lt hi ho
    rw [hs]; simp only [Array.length_toList, v1]; exact this
  have hst := run_storeCells_at P b (i * D.ct.length + o) T v.cells.toList 0 cs w hh (by simpa using hfit) hdue.one
  simp only [Nat.add_zero] at hst
  refine ⟨_, ?_, calm_setRow tok hcur (hb rfl) hh hD (write_size hfit) (hc.write hdue hfit)⟩
  simp [storeVar, run_sizeOf td, v1, hst]
theorem fold_ok {ct : List CT} {off : Nat} : ∀ (l : List (Value × Nat)) (cells : Array Value), TyC ct cells → (∀ x ∈ l, ∃ c, ct[(off + x.2) % ct.length]? = some c ∧ c.ok x.1) → (l.foldl (fun cs x => cs.setIfInBounds (off + x.2) x.1) cells).size = cells.size ∧ TyC ct (l.foldl (fun cs x => cs.setIfInBounds (off + x.2) x.1) cells)
  | [], cells, h, _ => ⟨rfl, h⟩
  | x :: l, cells, h, hl => by
    have h2 : TyC ct (cells.setIfInBounds (off + x.2) x.1) := fun i v hv => by
      by_cases e : off + x.2 = i
      · subst e
        have hlt : off + x.2 < cells.size := by have := (Array.getElem?_eq_some_iff.1 hv).1; simpa using this
        have : v = x.1 := by simpa [hlt] using hv.symm
        subst this
        exact hl x (List.mem_cons_self ..)
      · rw [Array.getElem?_setIfInBounds_ne e] at hv
        exact h i v hv
    have ih := fold_ok l _ h2 (fun y hy => hl y (List.mem_cons_of_mem _ hy))
    simp only [List.foldl_cons]
    exact ⟨ih.1.trans (by simp), ih.2⟩
theorem fill_ok {ct : List CT} {N : Nat} (place : Nat → Option (Nat × Nat)) : ∀ (parts : List (Nat × Value)) (cells : Array Value), cells.size = N → TyC ct cells → (∀ x ∈ parts, ∃ off, place x.1 = some (off, x.2.cells.size) ∧ off + x.2.cells.size ≤ N ∧ Due ct off x.2.cells.toList) →
    ∃ cells', Instr.fill place cells parts = some cells' ∧ cells'.size = N ∧ TyC ct cells'
  | [], cells, h, hc, _ => ⟨cells, rfl, h, hc⟩
  | (i, v) :: rest, cells, h, hc, hp => by
    obtain ⟨off, h1, h2, h3⟩ := hp (i, v) (List.mem_cons_self ..)
    have hf := fold_ok (ct := ct) (off := off) v.cells.zipIdx.toList cells hc (fun x hx => by
      obtain ⟨c, j⟩ := x
      rw [Array.toList_zipIdx] at hx
      exact h3 j c (List.mem_zipIdx_iff_getElem?.1 hx))
    have e : v.cells.zipIdx.foldl (fun cs (x : Value × Nat) => cs.setIfInBounds (off + x.2) x.1) cells = v.cells.zipIdx.toList.foldl (fun cs x => cs.setIfInBounds (off + x.2) x.1) cells := by rw [Array.foldl_toList]
    obtain ⟨cells', r1, r2, r3⟩ := fill_ok place rest _ (hf.1.trans h) hf.2 (fun x hx => hp x (List.mem_cons_of_mem _ hx))
    refine ⟨cells', ?_, r2, r3⟩
    have h2' : ¬ (cells.size < off + v.cells.size) := by simp only at h2; omega
    rw [← e] at r1
    simp only [Instr.fill, h1]
    simp only [ne_eq, not_true_eq_false, false_or, gt_iff_lt, h2', if_false, Bool.false_eq_true]
    exact r1
theorem mapM_some {α β : Type} (F : α → Option β) : ∀ (l : List α), (∀ x ∈ l, ∃ y, F x = some y) → ∃ ys, l.mapM F = some ys ∧ ∀ (j : Nat) (x : α) (y : β), l[j]? = some x → F x = some y → ys[j]? = some y
  | [], _ => ⟨[], rfl, fun j x y h => by simp at h⟩
  | x :: l, h => by
    obtain ⟨y, hy⟩ := h x (List.mem_cons_self ..)
    obtain ⟨ys, h1, h2⟩ := mapM_some F l fun z hz => h z (List.mem_cons_of_mem _ hz)
    refine ⟨y :: ys, by simp [List.mapM_cons, hy, h1], fun j z u hj hu => ?_⟩
    match j, hj with
    | 0, hj => (obtain rfl : x = z := by simpa using hj); (cases hy.symm.trans hu); rfl
    | j + 1, hj => exact h2 j z u (by simpa using hj) hu
/-- A struct is built. -/
theorem run_built (tok : TabOk P tb) {t : TypeId} {d : TD} (hd : tb.td t = some d) (ha : d.agg = true) {parts : Array (Nat × Value)}
    (hp : ∀ x ∈ parts.toList, ∃ o ft fd av, d.fs[x.1]? = some (o, ft) ∧ tb.td ft = some fd ∧ AV.fitB av fd = true ∧ AVok tb base g q w av x.2) :
    ∃ arr, (Instr.build t parts).run P w = .ok (.agg arr) w ∧ arr.size = d.ct.length ∧ TyC d.ct arr := by
  have td := tok.td t d hd
  obtain ⟨i, z, i1, i2, i3, i4, i5, i6⟩ := td.info
  rcases td.und with ⟨_, fs, hu, hsz, hfs⟩ | ⟨hn, _⟩
  · have hall : ∀ f ∈ fs.toList, ∃ y, (P.info? f.type).map (fun i => (f.offset, i.size)) = some y := fun f hf => by
      obtain ⟨j, hj, e⟩ := List.mem_iff_getElem.1 hf
      have hj' : j < d.fs.length := by rw [← hsz]; simpa using hj
      obtain ⟨f', fd, h1, h2, h3, h4, h5, h6⟩ := hfs j _ _ (List.getElem?_eq_getElem hj')
      have : f' = f := by rw [← Array.getElem?_toList, List.getElem?_eq_getElem hj, e] at h1; simpa using h1.symm
      subst this
      rw [← h3] at h4
      obtain ⟨fi, fz, k1, k2, _⟩ := (tok.td _ _ h4).info
      exact ⟨_, by rw [k1]; rfl⟩
    obtain ⟨places, hpl, hat⟩ := mapM_some _ fs.toList hall
    obtain ⟨arr, f1, f2, f3⟩ := fill_ok (ct := d.ct) (N := d.ct.length) (places.toArray[·]?) parts.toList z.cells i5 i6 (fun x hx => by
      obtain ⟨o, ft, fd, av, h1, h2, h3, h4⟩ := hp x hx
      obtain ⟨f, fd', k1, k2, k3, k4, k5, k6⟩ := hfs _ _ _ h1
      rw [h2] at k4; cases k4
      obtain ⟨v1, v2⟩ := AV.fits h4 h3
      obtain ⟨fi, fz, m1, m2, _⟩ := (tok.td _ _ h2).info
      refine ⟨o, ?_, by omega, ?_⟩
      · have := hat x.1 f (o, fd.ct.length) (by simpa using k1) (by rw [k3, m1, k2, Option.map_some, m2])
        simpa [v1] using this
      · have := Due.sub (i := 0) (ct := d.ct) (o := o) (vs := x.2.cells.toList) (ct' := fd.ct) (by simpa using v2) (by simpa using v1) k5 k6
        simpa using this)
    refine ⟨arr, run_build w t parts arr ?_, f2, f3⟩
    unfold Program.built
    simp only [i1, hu, i4, hpl]
    exact f1
  · rw [ha] at hn; cases hn
/-- A slice is built. -/
theorem run_builtSlice (tok : TabOk P tb) (hb : base ≤ w.heap.size) (hcur : HasCur q w) {t e : TypeId} {d : TD} (ht : tb.sl t = some e) (hd : tb.td e = some d) {n : Nat} {parts : Array (Nat × Value)} (hn : n * d.ct.length ≤ 16777216)
    (hp : ∀ x ∈ parts.toList, x.1 < n ∧ ∃ av, AV.fitB av d = true ∧ AVok tb base g q w av x.2) :
    ∃ v w', (Instr.buildSlice t n parts).run P w = .ok v w' ∧ Calm tb base g q w w' ∧ AVok tb base g q w' (.sl true e n n (n + 1)) v := by
  have td := tok.td e d hd
  obtain ⟨i, z, i1, i2, i3, i4, i5, i6⟩ := td.info
  have hpos := td.pos
  have hz : ∀ k, k < n * d.ct.length → ∃ c, d.ct[k % d.ct.length]? = some c ∧ c.ok (z.cells[k % z.cells.size]!) := fun k hk => by
    have hlt : k % z.cells.size < z.cells.size := Nat.mod_lt _ (by omega)
    obtain ⟨c, hc, hok⟩ := i6 (k % z.cells.size) _ (Array.getElem?_eq_getElem hlt)
    rw [i5, Nat.mod_mod] at hc
    refine ⟨c, hc, ?_⟩
    rw [getElem!_pos z.cells _ hlt]
    exact hok
  have hty : TyC d.ct ((Array.range (n * d.ct.length)).map fun k => z.cells[k % z.cells.size]!) := fun k v hv => by
    have hk : k < n * d.ct.length := by have := (Array.getElem?_eq_some_iff.1 hv).1; simpa using this
    have : v = z.cells[k % z.cells.size]! := by simpa [hk] using hv.symm
    rw [this]
    exact hz k hk
  obtain ⟨arr, f1, f2, f3⟩ := fill_ok (ct := d.ct) (N := n * d.ct.length) (fun i => some (i * d.ct.length, d.ct.length)) parts.toList _ (by simp) hty (fun x hx => by
    obtain ⟨h1, av, h2, h3⟩ := hp x hx
    obtain ⟨v1, v2⟩ := AV.fits h3 h2
    refine ⟨x.1 * d.ct.length, by rw [v1], ?_, Due.of (by simpa using v2)⟩
    have := fit_lt (o := 0) (n := d.ct.length) (L := d.ct.length) h1 (by omega)
    rw [v1]; omega)
  refine ⟨_, w.alloc (.cells arr e), ?_, calm_alloc hb hcur _, some ⟨w.heap.size, 0, none⟩, n, n, rfl, by omega, by omega, by omega, by omega, (fun h => by cases h), fun ad had => ?_⟩
  · by_cases h0 : n * d.ct.length = 0
    · have hn0 : n = 0 := by
        rcases Nat.mul_eq_zero.1 h0 with h | h
        · exact h
        · omega
      subst hn0
      have hp0 : parts.toList = [] := by
        cases hq0 : parts.toList with
        | nil => rfl
        | cons x l => exact absurd (hp x (by rw [hq0]; exact List.mem_cons_self ..)).1 (by omega)
      rw [hp0] at f1
      simp [Instr.fill] at f1
      subst f1
      have r0 : Array.range 0 = #[] := rfl
      simp [Instr.buildSlice, run_underlying (tok.sl t e ht), run_sizeOf td, newRow, hp0, Instr.fill, r0]
    · simp [Instr.buildSlice, run_underlying (tok.sl t e ht), run_sizeOf td, show ¬ (2 ^ 24 < n * d.ct.length) by omega, h0, newRow, zeroValue, typeInfo, i1, i4]
      rw [f1]
      simp
  · obtain rfl : (⟨w.heap.size, 0, none⟩ : Addr) = ad := by simpa using had
    exact ⟨w.heap.size, n, 0, d, by simp, TB.new hb hd f2 f3, hd, by omega⟩
end
end Go.Dr
