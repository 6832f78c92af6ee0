/- A checker of draws. Part four: what it finds of an operation is so. No conditions. -/
import Derived.Test.YtocaodoagiokjaaDoorDrOps
set_option linter.unusedSimpArgs false
set_option linter.unusedVariables false
namespace Go.Dr
open Go.RowKit Go.Sort Go.Salt Go.Proofs.YtocaodoagiokjaaDoor
section
variable {P : Program} {tb : Tab} {g q : Option CI} {w0 w w' : World} {base k : Nat} {o : Oper} {a : Act} {has : Bool}
theorem join3 {x : Bool} (h : x = true) : x = true := h
theorem arith_ok {op : BinOp} {x y r : AV} {u v : Value} (t : TypeId) (h : arith op x y = some r) (hx : AVok tb base g q w x u) (hy : AVok tb base g q w y v) :
    ∃ z, (binOp op t u v).run P w = .ok z w ∧ AVok tb base g q w r z := by
  unfold arith at h
  split at h
  · obtain ⟨z, rfl, h1, h2⟩ := hx; obtain ⟨z', rfl, h3, h4⟩ := hy
    obtain rfl := Option.some.inj h
    exact ⟨.int .i64 (IntKind.i64.wrap (z + z')), by simp [binOp, Op.intArith], clamp_ok (by omega) (by omega)⟩
  · obtain ⟨z, rfl, h1, h2⟩ := hx; obtain ⟨z', rfl, h3, h4⟩ := hy
    obtain rfl := Option.some.inj h
    exact ⟨.int .i64 (IntKind.i64.wrap (z - z')), by simp [binOp, Op.intArith], clamp_ok (by omega) (by omega)⟩
  · obtain ⟨z, rfl, h1, h2⟩ := hx; obtain ⟨z', rfl, h3, h4⟩ := hy
    obtain rfl := Option.some.inj h
    refine ⟨.int .i64 (IntKind.i64.wrap (z * z')), by simp [binOp, Op.intArith], ?_⟩
    split
    · rename_i hh
      exact clamp_ok (Int.mul_le_mul h1 h3 hh.2 (by omega)) (Int.mul_le_mul h2 h4 (by omega) (by omega))
    · exact full_ok
  · obtain ⟨z, rfl, h1, h2⟩ := hx; obtain ⟨z', rfl, h3, h4⟩ := hy
    split at h
    · rename_i hc
      obtain rfl := Option.some.inj h
      refine ⟨.int .i64 (IntKind.i64.wrap (z.tdiv z')), by simp [binOp, Op.intDiv, show ¬ z' = 0 by omega], ?_⟩
      split
      · rename_i b c _ ha
        have hz : 0 ≤ z := by omega
        rw [Int.tdiv_eq_ediv_of_nonneg hz]
        refine clamp_ok (Int.ediv_nonneg hz (by omega)) ?_
        refine (Int.le_ediv_iff_mul_le (by omega)).2 ?_
        have e1 : z / z' * z' ≤ z := Int.ediv_mul_le z (by omega)
        have e2 : 0 ≤ z / z' := Int.ediv_nonneg hz (by omega)
        have e3 := Int.mul_le_mul_of_nonneg_left h3 e2
        omega
      · exact full_ok
    · cases h
  · obtain ⟨z, rfl, h1, h2⟩ := hx; obtain ⟨z', rfl, h3, h4⟩ := hy
    split at h
    · rename_i hc
      obtain rfl := Option.some.inj h
      refine ⟨.int .i64 (z.tmod z'), by simp [binOp, Op.intDiv, show ¬ z' = 0 by omega], ?_⟩
      have u1 := Int.tmod_lt_of_pos z (show 0 < z' by omega)
      split
      · have hz : 0 ≤ z := by omega
        exact ⟨_, rfl, Int.tmod_nonneg _ hz, by omega⟩
      · have u2 := Int.tmod_lt_of_pos (-z) (show 0 < z' by omega)
        rw [Int.neg_tmod] at u2
        exact ⟨_, rfl, by omega, by omega⟩
    · cases h
  · obtain ⟨z, rfl, h1, h2⟩ := hx; obtain ⟨z', rfl, h3, h4⟩ := hy
    obtain rfl := Option.some.inj h
    refine ⟨.bool (decide (z < z')), by simp [binOp, Op.intCmp], _, rfl, fun hb => ?_, fun hb => ?_⟩
    all_goals (simp only [Bool.not_eq_true', Bool.and_eq_true, Bool.and_eq_false_iff, decide_eq_true_eq, decide_eq_false_iff_not, beq_iff_eq, bne_iff_ne, beq_eq_false_iff_ne, bne_eq_false_iff_eq, ne_eq] at hb ⊢)
    all_goals omega
  · obtain ⟨z, rfl, h1, h2⟩ := hx; obtain ⟨z', rfl, h3, h4⟩ := hy
    obtain rfl := Option.some.inj h
    refine ⟨.bool (decide (z ≤ z')), by simp [binOp, Op.intCmp], _, rfl, fun hb => ?_, fun hb => ?_⟩
    all_goals (simp only [Bool.not_eq_true', Bool.and_eq_true, Bool.and_eq_false_iff, decide_eq_true_eq, decide_eq_false_iff_not, beq_iff_eq, bne_iff_ne, beq_eq_false_iff_ne, bne_eq_false_iff_eq, ne_eq] at hb ⊢)
    all_goals omega
  · obtain ⟨z, rfl, h1, h2⟩ := hx; obtain ⟨z', rfl, h3, h4⟩ := hy
    obtain rfl := Option.some.inj h
    refine ⟨.bool (decide (z > z')), by simp [binOp, Op.intCmp], _, rfl, fun hb => ?_, fun hb => ?_⟩
    all_goals (simp only [Bool.not_eq_true', Bool.and_eq_true, Bool.and_eq_false_iff, decide_eq_true_eq, decide_eq_false_iff_not, beq_iff_eq, bne_iff_ne, beq_eq_false_iff_ne, bne_eq_false_iff_eq, ne_eq] at hb ⊢)
    all_goals omega
  · obtain ⟨z, rfl, h1, h2⟩ := hx; obtain ⟨z', rfl, h3, h4⟩ := hy
    obtain rfl := Option.some.inj h
    refine ⟨.bool (decide (z ≥ z')), by simp [binOp, Op.intCmp], _, rfl, fun hb => ?_, fun hb => ?_⟩
    all_goals (simp only [Bool.not_eq_true', Bool.and_eq_true, Bool.and_eq_false_iff, decide_eq_true_eq, decide_eq_false_iff_not, beq_iff_eq, bne_iff_ne, beq_eq_false_iff_ne, bne_eq_false_iff_eq, ne_eq] at hb ⊢)
    all_goals omega
  · obtain ⟨z, rfl, h1, h2⟩ := hx; obtain ⟨z', rfl, h3, h4⟩ := hy
    obtain rfl := Option.some.inj h
    refine ⟨.bool ((z == z')), by simp [binOp, Op.intCmp], _, rfl, fun hb => ?_, fun hb => ?_⟩
    all_goals (simp only [Bool.not_eq_true', Bool.and_eq_true, Bool.and_eq_false_iff, decide_eq_true_eq, decide_eq_false_iff_not, beq_iff_eq, bne_iff_ne, beq_eq_false_iff_ne, bne_eq_false_iff_eq, ne_eq] at hb ⊢)
    all_goals omega
  · obtain ⟨z, rfl, h1, h2⟩ := hx; obtain ⟨z', rfl, h3, h4⟩ := hy
    obtain rfl := Option.some.inj h
    refine ⟨.bool ((z != z')), by simp [binOp, Op.intCmp], _, rfl, fun hb => ?_, fun hb => ?_⟩
    all_goals (simp only [Bool.not_eq_true', Bool.and_eq_true, Bool.and_eq_false_iff, decide_eq_true_eq, decide_eq_false_iff_not, beq_iff_eq, bne_iff_ne, beq_eq_false_iff_ne, bne_eq_false_iff_eq, ne_eq] at hb ⊢)
    all_goals omega
  · obtain ⟨s, rfl, h1⟩ := hx; obtain ⟨s', rfl, h3⟩ := hy
    obtain rfl := Option.some.inj h
    exact ⟨.bool (s.toList == s'.toList), by simp [binOp, Op.stringOp], _, rfl, fun _ => rfl, fun _ => rfl⟩
  · obtain ⟨s, rfl, h1⟩ := hx; obtain ⟨s', rfl, h3⟩ := hy
    obtain rfl := Option.some.inj h
    exact ⟨.bool (!(s.toList == s'.toList)), by simp [binOp, Op.stringOp], _, rfl, fun _ => rfl, fun _ => rfl⟩
  · cases h
theorem guard_ok {op : BinOp} {x y r : AV} {u v : Value} (t : TypeId) (X Y : Operand) (h : arith op x y = some r) (hx : AVok tb base g q w x u) (hy : AVok tb base g q w y v) : (eqGuard op t X Y u v).run P w = .ok () w := by
  have hu : (∃ k n, u = .int k n) ∨ ∃ s, u = .string s := by
    unfold arith at h
    split at h
    all_goals first
      | (obtain ⟨z, rfl, _⟩ := hx; exact .inl ⟨_, _, rfl⟩)
      | (obtain ⟨s, rfl, _⟩ := hx; exact .inr ⟨_, rfl⟩)
      | cases h
  rcases hu with ⟨k, n, rfl⟩ | ⟨s, rfl⟩
  · unfold eqGuard; cases op <;> simp
  · unfold eqGuard; cases op <;> simp
theorem execOp_call_fn {f : FuncId} {xs : Array Operand} {ats : Array TypeId} (hop : o.op = .call { callee := .value (.func f), args := xs, argTypes := ats }) : execOp a.eval o = callFunc f (xs.map a.eval) := by
  have ef : a.eval (.func f) = .func (.func f) #[] #[] := rfl
  unfold execOp
  simp [hop, resolve, Deferred.ofValue, invoke, ef]
theorem execOp_builtin {b : Builtin} {xs : Array Operand} {ats : Array TypeId} (hop : o.op = .call { callee := .builtin b, args := xs, argTypes := ats }) : ∃ cs, execOp a.eval o = builtin b ats o.type cs (xs.map a.eval) := by
  unfold execOp
  simp only [hop, resolve, invoke]
  exact ⟨_, rfl⟩
/-- What is known of a function is so. -/
def Con (P : Program) (tb : Tab) (e : Ent) : Prop :=
  (∃ fn, P.funcs[e.f]? = some fn ∧ (fn.name == "runtime.NumGoroutine") = false ∧ fn.body.isSome = true) ∧
  ∀ (g : Option CI) (w : World) (K : Nat) (args : Array Value), e.has = g.isSome → (∀ x, g = some x → x.p < w.heap.size ∧ Cur w x.p x.A x.n x.c K ∧ x.n ≤ 65536) → K + e.k ≤ 999999000 → args.size = e.args.length →
    (∀ (i : Nat) (av : AV), e.args[i]? = some av → ∃ v, args[i]? = some v ∧ AVok tb w.heap.size g g w av v) →
    Calls P e.f args w fun en w' => ∃ v, en = .returned v ∧ TVok tb w.heap.size g g w' e.r v ∧ (∀ x, g = some x → Cur w' x.p x.A x.n x.c (K + e.k)) ∧ w.grownBy w' (g.map (·.p))
theorem run_callFn {f : FuncId} {fn : Func} (hf : P.funcs[f]? = some fn) (hn : (fn.name == "runtime.NumGoroutine") = false) (hb : fn.body.isSome = true) (args : Array Value) : (callFunc f args).run P w = .ok (.enter f args) w := by
  have hn' : ¬ fn.name = "runtime.NumGoroutine" := by simpa using hn
  have hb' : ¬ fn.body = none := fun h => by rw [h] at hb; cases hb
  simp [callFunc, hf, hn', hb']
/-- A call keeps what the checker knows. -/
theorem keep_grown (hb : base ≤ w.heap.size) (tok : TabOk P tb) (hq : ∀ x, q = some x → (g = some x ∧ x.p < base) ∨ (g = none ∧ base ≤ x.p)) (hc : HasCur q w) {row : Option Nat} (hr : row = none ∨ ∃ x, q = some x ∧ row = some x.p) (h : w.grownBy w' row) : Keep tb base g w w' := by
  refine ⟨h.os, h.tape, h.output, h.size, fun b hlt hne => h.block b (by omega) fun e => ?_, fun own b T m ht => ?_⟩
  · rcases hr with rfl | ⟨x, hx, rfl⟩
    · cases e
    · have e' : b = x.p := by simpa using e
      rcases hq x hx with ⟨h1, h2⟩ | ⟨h1, h2⟩
      · exact hne x h1 e'
      · omega
  · obtain ⟨h1, cs, d, h2, h3, h4, h5⟩ := ht
    refine ⟨h1, cs, d, (h.block b (block_lt h2) fun e => ?_).trans h2, h3, h4, h5⟩
    rcases hr with rfl | ⟨x, hx, rfl⟩
    · cases e
    · obtain rfl : b = x.p := by simpa using e
      obtain ⟨arr, ha⟩ := hc x hx
      rw [ha] at h2
      simp only [Option.some.injEq, Obj.cells.injEq] at h2
      rw [← h2.2.1, tok.cur] at h3
      cases h3
theorem AVok.weak {av : AV} {v : Value} (h : AVok tb base g q w av v) (hn : av ≠ .cur) (hn2 : av ≠ .bytes) (hn3 : av ≠ .curv) (base' : Nat) (g' q' : Option CI) : AVok tb base' g' q' w av.weak v := by
  cases av with
  | ptr own T o => obtain ⟨b, m, i, d, e, ⟨_, h1⟩, r⟩ := h; exact ⟨b, m, i, d, e, ⟨(fun h => by cases h), h1⟩, r⟩
  | sl own T lo hi cl =>
    obtain ⟨a, len, cap, e, h1, h2, h3, h4, h5, h6⟩ := h
    exact ⟨a, len, cap, e, h1, h2, h3, h4, h5, fun ad ha => by
      obtain ⟨b, m, i, d, e, ⟨_, h1⟩, r⟩ := h6 ad ha
      exact ⟨b, m, i, d, e, ⟨(fun h => by cases h), h1⟩, r⟩⟩
  | cur => exact absurd rfl hn
  | bytes => exact absurd rfl hn2
  | curv => exact absurd rfl hn3
  | _ => exact h
theorem AVok.weak_cur {v : Value} (h : AVok tb base g q w .cur v) (base' : Nat) (g' q' : Option CI) (hq : ∀ x, q = some x → q' = some x) : AVok tb base' g' q' w .cur v := by
  obtain ⟨x, hx, e⟩ := h
  exact ⟨x, hq x hx, e⟩
theorem byt_more {w : World} {B B' n : Nat} {A : Option Addr} (h : Byt w B A n) (hB : B ≤ B') : Byt w B' A n := fun hn => by
  obtain ⟨b, o, e, h1, h2⟩ := h hn
  exact ⟨b, o, e, by omega, h2⟩
theorem AVok.back {base' : Nat} {g' q' : Option CI} {av : AV} {v : Value} (h : AVok tb base' g' q' w av v) (hb : base ≤ base') (hn2 : av ≠ .bytes) (hn3 : av ≠ .curv) (hq : ∀ x, q' = some x → q = some x) : AVok tb base g q w av v := by
  cases av with
  | ptr own T o => obtain ⟨b, m, i, d, e, ⟨h0, h1⟩, r⟩ := h; exact ⟨b, m, i, d, e, ⟨(fun h => by have := h0 h; omega), h1⟩, r⟩
  | sl own T lo hi cl =>
    obtain ⟨a, len, cap, e, h1, h2, h3, h4, h5, h6⟩ := h
    exact ⟨a, len, cap, e, h1, h2, h3, h4, h5, fun ad ha => by
      obtain ⟨b, m, i, d, e, ⟨h0, h1⟩, r⟩ := h6 ad ha
      exact ⟨b, m, i, d, e, ⟨(fun h => by have := h0 h; omega), h1⟩, r⟩⟩
  | cur => obtain ⟨x, hx, e⟩ := h; exact ⟨x, hq x hx, e⟩
  | bytes => exact absurd rfl hn2
  | curv => exact absurd rfl hn3
  | _ => exact h
theorem Goes.any {r : TV} {k' : Nat} {has' cal : Bool} (h : Goes P tb w0 g q k o a w r k' has') : Goes P tb w0 g q k o a w r k' has' cal := fun next Q hk => h next Q fun v w' q' h1 h2 h3 h4 h5 h6 => hk v w' q' h1 h2 h3 h4 h5 fun _ => h6 rfl
theorem calm_of (hi : Inv tb w0 g q k w) (h : base = w0.heap.size) : base ≤ w.heap.size := h ▸ hi.size
theorem goes_load (tok : TabOk P tb) {t : TypeId} {x : Operand} {own : Bool} {T : TypeId} {off : Nat} {D d : TD} (hop : o.op = .load t x) (hi : Inv tb w0 g q k w) (hh : has = q.isSome) (hx : AVok tb w0.heap.size g q w (.ptr own T off) (a.eval x)) (hD : tb.td T = some D) (hd : tb.td t = some d) (hf : fitsIn d D off = true) :
    Goes P tb w0 g q k o a w (.one d.av) 0 has := by
  obtain ⟨b, m, i, D', e, hT, hD', him⟩ := hx
  rw [hD] at hD'; cases hD'
  simp only [fitsIn, Bool.and_eq_true, decide_eq_true_eq] at hf
  obtain ⟨v, hv, hok⟩ := run_loadPart (g := g) (q := q) tok hT hD hd him hf.1 hf.2
  refine goes_value hi hh (v := v) ?_ Calm.refl hok
  unfold execOp
  simp [hop, e, Instr.loadAt, Instr.sureAddr, hv]
theorem goes_store (tok : TabOk P tb) {t : TypeId} {x y : Operand} {T : TypeId} {off : Nat} {D d : TD} {av : AV} (hop : o.op = .store t x y) (hi : Inv tb w0 g q k w) (hh : has = q.isSome) (hx : AVok tb w0.heap.size g q w (.ptr true T off) (a.eval x)) (hy : AVok tb w0.heap.size g q w av (a.eval y)) (hD : tb.td T = some D) (hd : tb.td t = some d) (hf : fitsIn d D off = true) (hav : av.fitB d = true) :
    Goes P tb w0 g q k o a w (.one .top) 0 has := by
  obtain ⟨b, m, i, D', e, hT, hD', him⟩ := hx
  rw [hD] at hD'; cases hD'
  simp only [fitsIn, Bool.and_eq_true, decide_eq_true_eq] at hf
  obtain ⟨w', hw, hc⟩ := run_storePart tok hi.has hT hD hd him hf.1 hf.2 hy hav
  refine goes_skip hi hh (w' := w') ?_ hc
  unfold execOp
  simp [hop, e, Instr.storeAt, Instr.sureAddr, hw]
theorem goes_alloc (tok : TabOk P tb) {t : TypeId} {d : TD} (hop : o.op = .alloc t) (hi : Inv tb w0 g q k w) (hh : has = q.isSome) (hd : tb.td t = some d) : Goes P tb w0 g q k o a w (.one (.ptr true t 0)) 0 has := by
  obtain ⟨i, z, i1, i2, i3, i4, i5, i6⟩ := (tok.td t d hd).info
  refine goes_value hi hh (v := .pointer (some ⟨w.heap.size, 0, none⟩)) (w' := w.alloc (.cells z.cells t)) ?_ (calm_alloc hi.size hi.has _) ⟨w.heap.size, 1, 0, d, by simp, TB.new hi.size hd (by omega) i6, hd, by omega⟩
  unfold execOp
  simp [hop, Instr.alloc, zeroValue, typeInfo, i1, i4, newVar, newRow]
theorem goes_box (tok : TabOk P tb) {t : TypeId} {x : Operand} {av : AV} {d : TD} (hop : o.op = .box t x) (hi : Inv tb w0 g q k w) (hh : has = q.isSome) (hx : AVok tb w0.heap.size g q w av (a.eval x)) (hd : tb.td t = some d) (hav : av.fitB d = true) : Goes P tb w0 g q k o a w (.one (.ptr true t 0)) 0 has := by
  obtain ⟨v1, v2⟩ := AV.fits hx hav
  refine goes_value hi hh (v := .pointer (some ⟨w.heap.size, 0, none⟩)) (w' := w.alloc (.cells (a.eval x).cells t)) ?_ (calm_alloc hi.size hi.has _) ⟨w.heap.size, 1, 0, d, by simp, TB.new hi.size hd (by omega) v2, hd, by omega⟩
  unfold execOp
  simp [hop, Instr.box, newVar, newRow]
/-- A cursor is made. -/
theorem goes_cursor {x : Operand} (hop : o.op = .box 53 x) (hi : Inv tb w0 g q k w) (hq : q = none) (hx : AVok tb w0.heap.size g q w .curv (a.eval x)) : Goes P tb w0 g q k o a w (.one .cur) 0 true := fun next Q h => by
  obtain ⟨A, n, c, e, h1, h2, h3⟩ := hx
  have hr : (execOp a.eval o).run P w = .ok (.value (.pointer (some ⟨w.heap.size, 0, none⟩))) (w.alloc (.cells #[.slice A n c, .int .i64 0, .int .u64 0] 53)) := by
    unfold execOp
    simp [hop, e, Instr.box, newVar, newRow, Value.cells]
  have hc : Calm tb w0.heap.size g q w (w.alloc (.cells #[.slice A n c, .int .i64 0, .int .u64 0] 53)) := calm_alloc hi.size hi.has _
  unfold Oper.wp
  rw [hr]
  have hi' := hi.calm hc
  have hb : Byt (w.alloc (.cells #[.slice A n c, .int .i64 0, .int .u64 0] 53)) w0.heap.size A n := byt_keep h2 fun b o' _ hb => Below.heap_alloc w _ b (by have := hi.size; omega)
  refine h _ _ (some ⟨w.heap.size, A, n, c⟩) hc.keep ⟨(fun y hy => by rw [h3] at hy; cases hy), fun y hy => ?_, fun y hy => ?_, hi'.fr⟩ (fun y hy => by rw [hq] at hy; cases hy) rfl ⟨_, rfl, rfl⟩ (fun _ => hc)
  · obtain rfl := Option.some.inj hy
    exact .inr ⟨h3, hi.size⟩
  · obtain rfl := Option.some.inj hy
    exact ⟨⟨byt_more hb hi.size, 0, 0, by omega, Row.new w 53 _⟩, hb, h1⟩
theorem goes_build (tok : TabOk P tb) {t : TypeId} {parts : Array (Nat × Operand)} {d : TD} {ρ : Operand → TV} (hop : o.op = .build t parts) (hi : Inv tb w0 g q k w) (hh : has = q.isSome) (hρ : ∀ x, TVok tb w0.heap.size g q w (ρ x) (a.eval x)) (hd : tb.td t = some d) (ha : d.agg = true) (hp : parts.toList.all (fun x => partB tb d x.1 (ρ x.2)) = true) :
    Goes P tb w0 g q k o a w (.one (.agg d.ct)) 0 has := by
  obtain ⟨arr, h1, h2, h3⟩ := run_built (g := g) (q := q) (base := w0.heap.size) (w := w) tok hd ha (parts := parts.map fun x => (x.1, a.eval x.2)) (fun y hy => by
    rw [Array.toList_map] at hy
    obtain ⟨x, hx, rfl⟩ := List.mem_map.1 hy
    have := List.all_eq_true.1 hp x hx
    unfold partB at this
    have hv := hρ x.2
    split at this
    · rename_i fx av e1 e2
      rw [e2] at hv
      cases ht : tb.td fx.2 with
      | none => simp [ht] at this
      | some fd => exact ⟨fx.1, fx.2, fd, av, e1, ht, by simpa [ht] using this, hv⟩
    · cases this)
  refine goes_value hi hh (v := .agg arr) ?_ Calm.refl ⟨arr, rfl, h2, h3⟩
  unfold execOp
  simp [hop, h1]
theorem goes_buildSlice (tok : TabOk P tb) {t e : TypeId} {n : Nat} {parts : Array (Nat × Operand)} {d : TD} {ρ : Operand → TV} (hop : o.op = .buildSlice t n parts) (hi : Inv tb w0 g q k w) (hh : has = q.isSome) (hρ : ∀ x, TVok tb w0.heap.size g q w (ρ x) (a.eval x)) (ht : tb.sl t = some e) (hd : tb.td e = some d) (hn : n * d.ct.length ≤ 16777216) (hp : parts.toList.all (fun x => elemB d n x.1 (ρ x.2)) = true) :
    Goes P tb w0 g q k o a w (.one (.sl true e n n (n + 1))) 0 has := by
  obtain ⟨v, w', h1, h2, h3⟩ := run_builtSlice (g := g) (q := q) (base := w0.heap.size) (w := w) tok hi.size hi.has ht hd (n := n) (parts := parts.map fun x => (x.1, a.eval x.2)) hn (fun y hy => by
    rw [Array.toList_map] at hy
    obtain ⟨x, hx, rfl⟩ := List.mem_map.1 hy
    have := List.all_eq_true.1 hp x hx
    unfold elemB at this
    have hv := hρ x.2
    split at this
    · rename_i av e2
      rw [e2] at hv
      simp only [Bool.and_eq_true, decide_eq_true_eq] at this
      exact ⟨this.1, av, this.2, hv⟩
    · cases this)
  refine goes_value hi hh (v := v) ?_ h2 h3
  unfold execOp
  simp [hop, h1]
theorem goes_binOp {op : BinOp} {t t' : TypeId} {X Y : Operand} {x y r : AV} (hop : o.op = .binOp op t X Y t') (hi : Inv tb w0 g q k w) (hh : has = q.isSome) (hx : AVok tb w0.heap.size g q w x (a.eval X)) (hy : AVok tb w0.heap.size g q w y (a.eval Y)) (h : arith op x y = some r) : Goes P tb w0 g q k o a w (.one r) 0 has := by
  obtain ⟨z, h1, h2⟩ := arith_ok (P := P) t h hx hy
  refine goes_value hi hh (v := z) ?_ Calm.refl h2
  unfold execOp
  simp [hop, guard_ok (P := P) t X Y h hx hy, h1]
theorem goes_fieldAddr (tok : TabOk P tb) {s : TypeId} {x : Operand} {f : Nat} {own : Bool} {T : TypeId} {off : Nat} {d : TD} {y : Nat × TypeId} (hop : o.op = .fieldAddr s x f) (hi : Inv tb w0 g q k w) (hh : has = q.isSome) (hx : AVok tb w0.heap.size g q w (.ptr own T off) (a.eval x)) (hd : tb.td s = some d) (ha : d.agg = true) (hf : d.fs[f]? = some y) :
    Goes P tb w0 g q k o a w (.one (.ptr own T (off + y.1))) 0 has := by
  obtain ⟨b, m, i, D, e, hT, hD, him⟩ := hx
  rcases (tok.td s d hd).und with ⟨_, fs, hu, _, hfs⟩ | ⟨hn, _⟩
  · obtain ⟨fd, d', h1, h2, h3, h4, h5, h6⟩ := hfs f y.1 y.2 hf
    have td := tok.td _ _ h4
    have hpos := td.pos
    refine goes_value hi hh (v := .pointer (some ⟨b, i * D.ct.length + (off + y.1), none⟩)) ?_ Calm.refl ⟨b, m, i, D, rfl, hT, hD, him⟩
    unfold execOp
    simp [hop, e, Instr.fieldAt, run_underlying hu, h1, Instr.sureAddr, fieldPlace, h3, run_sizeOf td, show ¬ d'.ct.length = 0 by omega, Addr.add_lit, h2, Nat.add_assoc]
  · rw [ha] at hn; cases hn
theorem goes_indexAddr (tok : TabOk P tb) {t T : TypeId} {x i : Operand} {own : Bool} {lo hi' cl : Nat} {u v : Int} (hop : o.op = .indexAddr t x i) (hi : Inv tb w0 g q k w) (hh : has = q.isSome) (hx : AVok tb w0.heap.size g q w (.sl own T lo hi' cl) (a.eval x)) (hy : AVok tb w0.heap.size g q w (.int u v) (a.eval i)) (ht : tb.sl t = some T) (h1 : 0 ≤ u) (h2 : v < lo) :
    Goes P tb w0 g q k o a w (.one (.ptr own T 0)) 0 has := by
  obtain ⟨A, len, cap, e, i1, i2, i3, i4, i5, i6⟩ := hx
  obtain ⟨z, e2, j1, j2⟩ := hy
  cases A with
  | none => have := i5 rfl; omega
  | some ad =>
    obtain ⟨b, m, n, d, rfl, hT, hD, hm⟩ := i6 ad rfl
    have td := tok.td _ _ hD
    refine goes_value hi hh (v := .pointer (some ⟨b, n * d.ct.length + z.toNat * d.ct.length, none⟩)) ?_ Calm.refl ⟨b, m, n + z.toNat, d, by rw [Nat.add_mul, Nat.add_zero], hT, hD, by omega⟩
    unfold execOp
    simp [hop, e, e2, Instr.indexAt, asIntOf, run_underlying (tok.sl t T ht), run_sizeOf td, show (0 : Int) ≤ z ∧ z < (len : Int) by omega, Addr.add_lit]
theorem goes_field (tok : TabOk P tb) {t : TypeId} {x : Operand} {f : Nat} {d fd : TD} {y : Nat × TypeId} (hop : o.op = .field t x f) (hi : Inv tb w0 g q k w) (hh : has = q.isSome) (hx : AVok tb w0.heap.size g q w (.agg d.ct) (a.eval x)) (hd : tb.td t = some d) (ha : d.agg = true) (hf : d.fs[f]? = some y) (hfd : tb.td y.2 = some fd) :
    Goes P tb w0 g q k o a w (.one fd.av) 0 has := by
  obtain ⟨arr, e, h1, h2⟩ := hx
  rcases (tok.td t d hd).und with ⟨_, fs, hu, _, hfs⟩ | ⟨hn, _⟩
  · obtain ⟨F, d', k1, k2, k3, k4, k5, k6⟩ := hfs f y.1 y.2 hf
    rw [hfd] at k4; cases k4
    have td := tok.td _ _ hfd
    obtain ⟨vs, v1, v2, v3⟩ := TyC.read (m := 1) (i := 0) h2 (by omega) (by omega) k5 k6
    have v2' : ∀ (j : Nat) (v : Value), vs[j]? = some v → arr[y.1 + j]? = some v := fun j v hj => by have := v2 j v hj; simpa using this
    by_cases hag : fd.agg = true
    · refine goes_value hi hh (v := .agg (arr.extract y.1 (y.1 + fd.ct.length))) ?_ Calm.refl (TD.av_agg hag (by simp; omega) fun j v hj => ?_)
      · unfold execOp
        simp [hop, e, Instr.field, run_underlying hu, k1, asAgg, part, k3, run_isAgg td, hag, run_sizeOf td, k2]
      · have hlt := (Array.getElem?_eq_some_iff.1 hj).1
        have hjl : j < fd.ct.length := by simp at hlt; omega
        refine v3 j v ?_
        have h3 : vs[j]? = some (vs[j]'(by omega)) := List.getElem?_eq_getElem (by omega)
        have h4 := v2' j _ h3
        rw [Array.getElem?_extract] at hj
        split at hj
        · rw [h4] at hj
          simp only [List.getElem?_toArray, h3]
          exact hj
        · cases hj
    · have hag' : fd.agg = false := by simpa using hag
      obtain ⟨c, hc⟩ := one_ct td hag'
      have hl1 : vs.length = 1 := by rw [v1, hc]; rfl
      match vs, hl1, v2', v3 with
      | [v], _, v2', v3 =>
        obtain ⟨c', hc', hok⟩ := v3 0 v (by simp)
        have hcc : c' = c := by rw [hc] at hc'; simpa using hc'.symm
        subst hcc
        have h3 := v2' 0 v (by simp)
        rw [Nat.add_zero] at h3
        refine goes_value hi hh (v := v) ?_ Calm.refl (TD.av_one hag' hc hok)
        unfold execOp
        simp [hop, e, Instr.field, run_underlying hu, k1, asAgg, part, k3, run_isAgg td, hag', k2, h3]
  · rw [ha] at hn; cases hn
theorem goes_extract {x : Operand} {i : Nat} {l : List AV} {av : AV} (hop : o.op = .extract x i) (hi : Inv tb w0 g q k w) (hh : has = q.isSome) (hx : TVok tb w0.heap.size g q w (.tup l) (a.eval x)) (hl : l[i]? = some av) : Goes P tb w0 g q k o a w (.one av) 0 has := by
  obtain ⟨vs, e, h1, h2⟩ := hx
  obtain ⟨u, h3, h4⟩ := h2 i av hl
  refine goes_value hi hh (v := u) ?_ Calm.refl h4
  unfold execOp
  simp [hop, e, Instr.extract, h3]
theorem goes_slice (tok : TabOk P tb) {t T : TypeId} {x h : Operand} {own : Bool} {lo hi' cl : Nat} {u v : Int} (hop : o.op = .slice t x none (some h) none) (hi : Inv tb w0 g q k w) (hh : has = q.isSome) (hx : AVok tb w0.heap.size g q w (.sl own T lo hi' cl) (a.eval x)) (hy : AVok tb w0.heap.size g q w (.int u v) (a.eval h)) (ht : tb.sl t = some T) (h1 : 0 ≤ u) (h2 : v < cl) (h3 : 1 ≤ cl) :
    Goes P tb w0 g q k o a w (.one (.sl own T u.toNat v.toNat cl)) 0 has := by
  obtain ⟨A, len, cap, e, i1, i2, i3, i4, i5, i6⟩ := hx
  obtain ⟨z, e2, j1, j2⟩ := hy
  cases A with
  | none => have := i5 rfl; omega
  | some ad =>
    obtain ⟨b, m, n, d, rfl, hT, hD, hm⟩ := i6 ad rfl
    have td := tok.td _ _ hD
    refine goes_value hi hh (v := .slice (some ⟨b, n * d.ct.length, none⟩) z.toNat cap) ?_ Calm.refl ⟨_, z.toNat, cap, rfl, by omega, by omega, by omega, i4, (fun h => by cases h), fun ad had => ?_⟩
    · unfold execOp
      simp [hop, e, e2, Instr.sliceAt, Instr.slice, Instr.sliceBounds, Instr.sliceBound, asIntOf, run_underlying (tok.sl t T ht), run_sizeOf td, show (0 : Int) ≤ z ∧ z ≤ (cap : Int) by omega, Addr.add]
    · obtain rfl := Option.some.inj had
      exact ⟨b, m, n, d, rfl, hT, hD, hm⟩
theorem TVok.le_one {x y : AV} {v : Value} (h : TVok tb base g q w (.one x) v) (hl : x.leB y = true) : TVok tb base g q w (.one y) v := AVok.le (x := x) (y := y) h hl
theorem list1 {α : Type} {xs : Array α} {x : α} (h : xs.toList = [x]) : xs = #[x] := Array.toList_inj.1 h
theorem list2 {α : Type} {xs : Array α} {x y : α} (h : xs.toList = [x, y]) : xs = #[x, y] := Array.toList_inj.1 h
theorem goes_len (tok : TabOk P tb) {xs : Array Operand} {ats : Array TypeId} {x : Operand} {t T e : TypeId} {own : Bool} {lo hi' cl : Nat} (hop : o.op = .call { callee := .builtin .len, args := xs, argTypes := ats }) (hi : Inv tb w0 g q k w) (hh : has = q.isSome) (h1 : xs.toList = [x]) (h2 : ats.toList = [t]) (hx : AVok tb w0.heap.size g q w (.sl own T lo hi' cl) (a.eval x)) (ht : tb.sl t = some e) :
    Goes P tb w0 g q k o a w (.one (.int lo hi')) 0 has := by
  obtain ⟨A, len, cap, ev, i1, i2, _⟩ := hx
  obtain ⟨cs, hex⟩ := execOp_builtin (a := a) hop
  refine goes_value hi hh (v := .int .i64 len) ?_ Calm.refl ⟨_, rfl, by omega, by omega⟩
  rw [hex, list1 h1, list1 h2]
  simp [builtin, Builtin.len_, run_underlying (tok.sl t e ht), ev, goInt]
theorem goes_len_nil (tok : TabOk P tb) {xs : Array Operand} {ats : Array TypeId} {x : Operand} {t e : TypeId} (hop : o.op = .call { callee := .builtin .len, args := xs, argTypes := ats }) (hi : Inv tb w0 g q k w) (hh : has = q.isSome) (h1 : xs.toList = [x]) (h2 : ats.toList = [t]) (hx : AVok tb w0.heap.size g q w .nil (a.eval x)) (ht : tb.sl t = some e) :
    Goes P tb w0 g q k o a w (.one (.int 0 0)) 0 has := by
  have ev : a.eval x = .slice none 0 0 := hx
  obtain ⟨cs, hex⟩ := execOp_builtin (a := a) hop
  refine goes_value hi hh (v := .int .i64 0) ?_ Calm.refl ⟨_, rfl, by omega, by omega⟩
  rw [hex, list1 h1, list1 h2]
  simp [builtin, Builtin.len_, run_underlying (tok.sl t e ht), ev, goInt]
theorem TyC.zero {ct : List CT} {zs : Array Value} (h5 : zs.size = ct.length) (h6 : TyC ct zs) (hpos : 0 < ct.length) (n : Nat) : TyC ct (Builtin.zeroCells zs n) := fun k v hv => by
  have hk : k < n * zs.size := by have := (Array.getElem?_eq_some_iff.1 hv).1; simpa [Builtin.zeroCells] using this
  have : v = zs[k % zs.size]! := by simpa [Builtin.zeroCells, hk] using hv.symm
  rw [this]
  have hlt : k % zs.size < zs.size := Nat.mod_lt _ (by omega)
  obtain ⟨c, hc, hok⟩ := h6 (k % zs.size) _ (Array.getElem?_eq_getElem hlt)
  rw [h5, Nat.mod_mod] at hc
  refine ⟨c, hc, ?_⟩
  rw [getElem!_pos zs _ hlt]
  exact hok
/-- The elements of a slice, read. -/
theorem sl_cells {b m n len : Nat} {T : TypeId} {d : TD} {own : Bool} (hT : TB tb base own w b T m) (hD : tb.td T = some d) (hm : n + len ≤ m) :
    ∃ vs : List Value, vs.length = len * d.ct.length ∧ (∀ (j : Nat) (v : Value), vs[j]? = some v → w.cell? ((⟨b, n * d.ct.length, none⟩ : Addr).add j) = some v) ∧ TyC d.ct vs.toArray := by
  obtain ⟨_, cs, d', h2, h3, h4, h5⟩ := hT
  rw [hD] at h3; cases h3
  have hfit : n * d.ct.length + len * d.ct.length ≤ cs.size := by rw [h4, ← Nat.add_mul]; exact Nat.mul_le_mul_right _ hm
  have hat : ∀ (j : Nat) (v : Value), ((cs.toList.drop (n * d.ct.length)).take (len * d.ct.length))[j]? = some v → cs[n * d.ct.length + j]? = some v := fun j v hj => by
    rw [List.getElem?_take] at hj
    split at hj
    · rwa [List.getElem?_drop, Array.getElem?_toList] at hj
    · cases hj
  refine ⟨(cs.toList.drop (n * d.ct.length)).take (len * d.ct.length), by simp; omega, fun j v hj => ?_, fun j v hj => ?_⟩
  · rw [Addr.add_lit, cell_of_row w b _ cs T (0, 0) h2]
    exact hat j v hj
  · obtain ⟨c, hc, hok⟩ := h5 _ _ (hat j v (by simpa using hj))
    exact ⟨c, by rwa [Nat.add_comm, Nat.add_mul_mod_self_right] at hc, hok⟩
theorem grown_sl (tok : TabOk P tb) (hi : Inv tb w0 g q k w) {T : TypeId} {d : TD} {i : TypeInfo} {z : Value} (hD : tb.td T = some d) (i5 : z.cells.size = d.ct.length) (i6 : TyC d.ct z.cells) {olds news : List Value} {n m cap : Nat} (ho : olds.length = n * d.ct.length) (h1 : TyC d.ct olds.toArray) (hn : news.length = m * d.ct.length) (h2 : TyC d.ct news.toArray) (hc : n + m ≤ cap) {lo hi' : Nat} (hlo : lo ≤ n + m) (hhi : n + m ≤ hi') :
    Calm tb w0.heap.size g q w (w.drew.alloc (.cells (olds.toArray ++ news.toArray ++ Builtin.zeroCells z.cells (cap - (n + m))) T)) ∧
      AVok tb w0.heap.size g q (w.drew.alloc (.cells (olds.toArray ++ news.toArray ++ Builtin.zeroCells z.cells (cap - (n + m))) T)) (.sl true T lo hi' (lo + 1)) (.slice (some ⟨w.heap.size, 0, none⟩) (n + m) cap) := by
  have td := tok.td _ _ hD
  have hsz : (olds.toArray ++ news.toArray).size = (n + m) * d.ct.length := by simp [ho, hn, Nat.add_mul]
  refine ⟨calm_drew.trans (calm_alloc (w := w.drew) hi.size (fun x hx => hi.has x hx) _), _, n + m, cap, rfl, hlo, hhi, hc, by omega, (fun h => by cases h), fun ad had => ?_⟩
  obtain rfl := Option.some.inj had
  refine ⟨w.heap.size, cap, 0, d, by simp, TB.new (w := w.drew) hi.size hD ?_ ((h1.append h2 (by simpa using ho)).append (TyC.zero i5 i6 td.pos _) hsz), hD, by omega⟩
  rw [Array.size_append, hsz, size_zeroCells, i5, ← Nat.add_mul]
  congr 1
  omega
theorem goes_append_nil (tok : TabOk P tb) {xs : Array Operand} {ats : Array TypeId} {x y : Operand} {t T : TypeId} {own' : Bool} {lo' hi' cl' : Nat} (hop : o.op = .call { callee := .builtin .append, args := xs, argTypes := ats }) (hi : Inv tb w0 g q k w) (hh : has = q.isSome) (h1 : xs.toList = [x, y]) (h2 : ats.toList = [t, t]) (ev : a.eval x = .slice none 0 0) (hy : AVok tb w0.heap.size g q w (.sl own' T lo' hi' cl') (a.eval y)) (ht : tb.sl t = some T) (hl : 1 ≤ lo') (hb : hi' ≤ 1000000) :
    Goes P tb w0 g q k o a w (.one (.sl true T lo' hi' (lo' + 1))) 0 has := by
  obtain ⟨cs, hex⟩ := execOp_builtin (a := a) hop
  obtain ⟨A, len, cap, e, i1, i2, i3, i4, i5, i6⟩ := hy
  cases A with
  | none => have := i5 rfl; omega
  | some ad =>
    obtain ⟨b, m, n, d, rfl, hT, hD, hm⟩ := i6 ad rfl
    obtain ⟨news, n1, n2, n3⟩ := sl_cells (n := n) (len := len) hT hD (by omega)
    obtain ⟨i, z, z1, z2, z3, z4, z5, z6⟩ := (tok.td _ _ hD).info
    have hbytes : len * i.bytes ≤ 1000000 * 10000 := Nat.mul_le_mul (by omega) z3
    have hr := run_append_nil (P := P) w t o.type T i z (tok.sl t T ht) z1 z4 _ len cap news (by rw [z2]; exact n1) n2 (by omega) (by omega) (by omega)
    have hg := grown_sl (olds := []) (n := 0) (m := len) (cap := grownCap w len 0 T) (lo := lo') (hi' := hi') (i := i) tok hi hD z5 z6 (by simp) (fun j v hj => by simp at hj) n1 n3 (by have := grownCap_ge w len 0 T; omega) (by omega) (by omega)
    simp only [Nat.zero_add, Array.empty_append] at hg
    refine goes_value hi hh ?_ hg.1 hg.2
    rw [hex, list2 h1, list2 h2]
    simp only [builtin, List.map_toArray, List.map_cons, List.map_nil, ev, e]
    simp [hr]
theorem goes_append (tok : TabOk P tb) {xs : Array Operand} {ats : Array TypeId} {x y : Operand} {t T : TypeId} {own' : Bool} {lo hi1 cl lo' hi' cl' : Nat} (hop : o.op = .call { callee := .builtin .append, args := xs, argTypes := ats }) (hi : Inv tb w0 g q k w) (hh : has = q.isSome) (h1 : xs.toList = [x, y]) (h2 : ats.toList = [t, t]) (hx : AVok tb w0.heap.size g q w (.sl true T lo hi1 cl) (a.eval x)) (hy : AVok tb w0.heap.size g q w (.sl own' T lo' hi' cl') (a.eval y)) (ht : tb.sl t = some T) (hl : 1 ≤ lo') (hb : hi1 + hi' ≤ 1000000) :
    Goes P tb w0 g q k o a w (.one (.sl true T (lo + lo') (hi1 + hi') (lo + lo' + 1))) 0 has := by
  obtain ⟨cs, hex⟩ := execOp_builtin (a := a) hop
  have hx' := hx
  obtain ⟨A, len, cap, e, i1, i2, i3, i4, i5, i6⟩ := hx
  cases A with
  | none =>
    have hc0 := (i5 rfl).1
    obtain rfl : len = 0 := by omega
    subst hc0
    obtain rfl : lo = 0 := by omega
    have hg := goes_append_nil (k := k) tok hop hi hh h1 h2 e hy ht hl (by omega)
    intro next Q h
    refine hg next Q fun v w' q' k1 k2 k3 k4 k5 k6 => h v w' q' k1 k2 k3 k4 (TVok.le_one k5 (by simp [AV.leB])) k6
  | some ad =>
    obtain ⟨B, M, N, d, rfl, hTx, hD, hM⟩ := i6 ad rfl
    obtain ⟨A', len', cap', e', j1, j2, j3, j4, j5, j6⟩ := hy
    cases A' with
    | none => have := j5 rfl; omega
    | some ad' =>
      obtain ⟨b, m, n, d', rfl, hT, hD', hm⟩ := j6 ad' rfl
      rw [hD] at hD'; cases hD'
      have td := tok.td _ _ hD
      obtain ⟨news, n1, n2, n3⟩ := sl_cells (n := n) (len := len') hT hD (by omega)
      obtain ⟨i, z, z1, z2, z3, z4, z5, z6⟩ := td.info
      by_cases hroom : len + len' ≤ cap
      · obtain ⟨hown, cx, dx, hh2, hdx, hsx, hcx⟩ := hTx
        rw [hD] at hdx; cases hdx
        have hfit : (N + len) * d.ct.length + news.length ≤ cx.size := by rw [n1, hsx, ← Nat.add_mul]; exact Nat.mul_le_mul_right _ (by omega)
        have hdue : Due d.ct ((N + len) * d.ct.length) news := Due.of n3
        have hst := run_storeCells_at P B ((N + len) * d.ct.length) T news 0 cx w hh2 (by omega) hdue.one
        simp only [Nat.add_zero] at hst
        have hfc := run_firstCells_some (P := P) w d.ct.length len' ⟨b, n * d.ct.length, none⟩ len' cap' news n1 n2
        have hcalm := calm_setRow (g := g) (q := q) tok hi.has (hown rfl) hh2 hD (write_size hfit) (hcx.write hdue hfit)
        refine goes_value hi hh (v := .slice (some ⟨B, N * d.ct.length, none⟩) (len + len') cap) (w' := w.setRow B (cx.toList.take ((N + len) * d.ct.length) ++ news ++ cx.toList.drop ((N + len) * d.ct.length + news.length)).toArray) ?_ hcalm ⟨_, len + len', cap, rfl, by omega, by omega, hroom, by omega, (fun h => by cases h), fun ad had => ?_⟩
        · rw [hex, list2 h1, list2 h2]
          simp only [builtin, List.map_toArray, List.map_cons, List.map_nil, e, e']
          simp [Builtin.append_, run_underlying (tok.sl t T ht), sizeOf, typeInfo, z1, z2, Builtin.lenOf, hroom, hfc, Addr.add_lit, ← Nat.add_mul, hst]
        · obtain rfl := Option.some.inj had
          exact ⟨B, M, N, d, rfl, hcalm.keep.tb _ _ _ _ ⟨hown, cx, d, hh2, hD, hsx, hcx⟩, hD, hM⟩
      · obtain ⟨olds, o1, o2, o3⟩ := sl_cells (n := N) (len := len) hTx hD (by omega)
        have hbytes : (len + len') * i.bytes ≤ 1000000 * 10000 := Nat.mul_le_mul (by omega) z3
        have hr := run_append_grow (P := P) w t o.type T i z (tok.sl t T ht) z1 z4 ⟨B, N * d.ct.length, none⟩ len cap olds (by rw [z2]; exact o1) o2 ⟨b, n * d.ct.length, none⟩ len' cap' news (by rw [z2]; exact n1) n2 (by omega) (by omega) (growslice_fits (by omega) (by omega))
        have hg := grown_sl (cap := grownCap w (len + len') cap T) (lo := lo + lo') (hi' := hi1 + hi') (i := i) tok hi hD z5 z6 o1 o3 n1 n3 (by have := grownCap_ge w (len + len') cap T; omega) (by omega) (by omega)
        refine goes_value hi hh ?_ hg.1 hg.2
        rw [hex, list2 h1, list2 h2]
        simp only [builtin, List.map_toArray, List.map_cons, List.map_nil, e, e']
        simp [hr]
theorem argsLe_spec : ∀ {l : List TV} {m : List AV}, argsLe l m = true → l.length = m.length ∧ ∀ (i : Nat) (b : AV), m[i]? = some b → ∃ x : AV, l[i]? = some (.one x) ∧ x.weak.leB b = true
  | [], [], _ => ⟨rfl, fun i b h => by simp at h⟩
  | .one x :: l, b :: m, h => by
    simp only [argsLe, Bool.and_eq_true] at h
    obtain ⟨h1, h2⟩ := argsLe_spec h.2
    refine ⟨by simp [h1], fun i c hc => ?_⟩
    match i, hc with
    | 0, hc => obtain rfl : b = c := by simpa using hc
               exact ⟨x, rfl, h.1⟩
    | i + 1, hc => exact h2 i c (by simpa using hc)
  | [], _ :: _, h => by simp [argsLe] at h
  | .one _ :: _, [], h => by simp [argsLe] at h
  | .tup _ :: _, _, h => by simp [argsLe] at h
theorem le_cur {x y : AV} (h : x.weak.leB y = true) : (y ≠ .top → x = .cur → y = .cur) ∧ (y ≠ .top → x = .bytes → y = .bytes) ∧ (y ≠ .top → x = .curv → y = .curv) := by
  refine ⟨fun hy e => ?_, fun hy e => ?_, fun hy e => ?_⟩ <;> (subst e; cases y <;> simp_all [AV.weak, AV.leB])
theorem noBytes_spec {l : List AV} (h : noBytesB l = true) {x : AV} (hx : x ∈ l) : x ≠ .bytes ∧ x ≠ .curv := by
  have := List.all_eq_true.1 h x hx
  exact ⟨fun e => by subst e; simp at this, fun e => by subst e; simp at this⟩
theorem noCur_spec {l : List AV} (h : noCurB l = true) {x : AV} (hx : x ∈ l) : x ≠ .cur := by
  have := List.all_eq_true.1 h x hx
  exact fun e => by subst e; simp at this
theorem TVok.back {base' : Nat} {g' q' : Option CI} {t : TV} {v : Value} (h : TVok tb base' g' q' w t v) (hb : base ≤ base') (hp : plainTV t = true) (hq : ∀ x, q' = some x → q = some x) : TVok tb base g q w t v := by
  cases t with
  | one x =>
    simp only [plainTV, Bool.and_eq_true] at hp
    have := noBytes_spec hp.1 (List.mem_cons_self ..)
    exact AVok.back h hb this.1 this.2 hq
  | tup l =>
    simp only [plainTV, Bool.and_eq_true] at hp
    obtain ⟨vs, e, h1, h2⟩ := h
    refine ⟨vs, e, h1, fun i x hx => ?_⟩
    obtain ⟨u, hu, h3⟩ := h2 i x hx
    have := noBytes_spec hp.1 (List.mem_of_getElem? hx)
    exact ⟨u, hu, AVok.back h3 hb this.1 this.2 hq⟩
/-- A call of a known function. -/
theorem goes_call (tok : TabOk P tb) {f : FuncId} {xs : Array Operand} {ats : Array TypeId} {e : Ent} {ρ : Operand → TV} (hop : o.op = .call { callee := .value (.func f), args := xs, argTypes := ats }) (hi : Inv tb w0 g q k w) (hh : has = q.isSome) (hρ : ∀ x, TVok tb w0.heap.size g q w (ρ x) (a.eval x)) (hc : Con P tb e) (hf : e.fit f has (xs.toList.map ρ) = true) (hk : k + e.k ≤ 999999000) :
    Goes P tb w0 g q k o a w e.r e.k has (!e.has) := fun next Q h => by
  simp only [Ent.fit, Bool.and_eq_true, Bool.or_eq_true, Bool.not_eq_true', beq_iff_eq] at hf
  obtain ⟨⟨⟨⟨rfl, h2⟩, h3⟩, h4⟩, h5⟩ := hf
  obtain ⟨⟨fn, f1, f2, f3⟩, hcon⟩ := hc
  obtain ⟨l1, l2⟩ := argsLe_spec h3
  -- the cursor that is handed on
  obtain ⟨gx, hgx, hgq, hgn⟩ : ∃ gx : Option CI, e.has = gx.isSome ∧ (∀ x, gx = some x → q = some x) ∧ (e.has = true → gx = q) := by
    cases he : e.has with
    | false => exact ⟨none, rfl, (fun x hx => by cases hx), fun h => by cases h⟩
    | true =>
      rw [he] at h2
      have hq : q.isSome = true := by rw [← hh]; simpa using h2
      exact ⟨q, hq.symm, fun _ h => h, fun _ => rfl⟩
  have hargs : ∀ (i : Nat) (av : AV), e.args[i]? = some av → ∃ v, (xs.map a.eval)[i]? = some v ∧ AVok tb w.heap.size gx gx w av v := fun i av hav => by
    obtain ⟨x, hx, hle⟩ := l2 i av hav
    rw [List.getElem?_map] at hx
    cases hxi : xs.toList[i]? with
    | none => simp [hxi] at hx
    | some X =>
      simp only [hxi, Option.map_some, Option.some.injEq] at hx
      have hv := hρ X
      rw [hx] at hv
      have hv' : AVok tb w0.heap.size g q w x (a.eval X) := hv
      refine ⟨a.eval X, by rw [← Array.getElem?_toList, Array.toList_map, List.getElem?_map, hxi]; rfl, ?_⟩
      by_cases htop : av = .top
      · subst htop; trivial
      obtain ⟨c1, c2, c3⟩ := le_cur hle
      have hmem := List.mem_of_getElem? hav
      refine AVok.le ?_ hle
      cases heh : e.has with
      | true =>
        rw [heh] at h4
        have nb := noBytes_spec (by simpa using h4) hmem
        have := hgn heh
        subst this
        by_cases hxc : x = .cur
        · subst hxc
          exact AVok.weak_cur hv' _ _ _ fun _ h => h
        · exact AVok.weak hv' hxc (fun e => nb.1 (c2 htop e)) (fun e => nb.2 (c3 htop e)) _ _ _
      | false =>
        rw [heh] at h4
        have nc := noCur_spec (by simpa using h4) hmem
        have hgx0 : gx = none := by cases gx with | none => rfl | some y => rw [heh] at hgx; simp at hgx
        subst hgx0
        by_cases hxb : x = .bytes
        · subst hxb
          obtain ⟨A, n, c, e1, e2, e3, e4⟩ := hv'
          exact ⟨A, n, c, e1, e2, byt_more e3 hi.size, rfl⟩
        · by_cases hxv : x = .curv
          · subst hxv
            obtain ⟨A, n, c, e1, e2, e3, e4⟩ := hv'
            exact ⟨A, n, c, e1, e2, byt_more e3 hi.size, rfl⟩
          · exact AVok.weak hv' (fun e => nc (c1 htop e)) hxb hxv _ _ _
  have hlen : (xs.map a.eval).size = e.args.length := by rw [← l1]; simp
  have hcall := hcon gx w k (xs.map a.eval) hgx (fun x hx => ⟨by
    obtain ⟨arr, ha⟩ := hi.has x (hgq x hx)
    exact block_lt ha, (hi.cur x (hgq x hx)).1, (hi.cur x (hgq x hx)).2.2⟩) hk hlen hargs
  unfold Oper.wp
  rw [execOp_call_fn hop, run_callFn f1 f2 f3]
  rw [Oper.upon_enter]
  refine hcall.mono fun en w' hen => ?_
  obtain ⟨v, rfl, v1, v2, v3⟩ := hen
  have hrow : gx.map (·.p) = none ∨ ∃ x, q = some x ∧ gx.map (·.p) = some x.p := by
    cases gx with
    | none => exact .inl rfl
    | some x => exact .inr ⟨x, hgq x rfl, rfl⟩
  have hkeep := keep_grown (g := g) (q := q) (base := w0.heap.size) hi.size tok (fun x hx => by
    rcases hi.qg x hx with h | h
    · exact .inl h
    · exact .inr h) hi.has hrow v3
  refine h v w' q hkeep ⟨hi.gq, hi.qg, fun x hx => ?_, ?_⟩ (fun _ h => h) hh (TVok.back v1 hi.size h5 hgq) (fun hcal => ⟨hkeep, fun y hy => by
    have hgx0 : gx = none := by
      cases gx with
      | none => rfl
      | some z => rw [hgx] at hcal; simp at hcal
    subst hgx0
    obtain ⟨arr, ha⟩ := hi.has y hy
    exact v3.block y.p (block_lt ha) (by simp)⟩)
  · -- the cursor behind the call
    obtain ⟨hc1, hc2, hc3⟩ := hi.cur x hx
    have hbyt : Byt w' w0.heap.size x.A x.n := by
      intro hn
      obtain ⟨⟨b1, _⟩, _⟩ := hi.cur x hx
      obtain ⟨b, o', e1, e2, _⟩ := b1 hn
      refine byt_keep hc2 (fun b' o'' e3 e4 => hkeep.old b' e4 fun y hy => ?_) hn
      have := hi.gq y hy
      rw [hx] at this
      cases this
      rw [e1] at e3; cases e3
      omega
    refine ⟨?_, hbyt, hc3⟩
    by_cases hgx2 : gx = some x
    · exact v2 x hgx2
    · have hgx0 : gx = none := by
        cases gx with
        | none => rfl
        | some y => have := hgq y rfl; rw [hx] at this; cases this; exact absurd rfl hgx2
      subst hgx0
      have hc4 : Calm tb w0.heap.size g q w w' := ⟨hkeep, fun y hy => by
        obtain ⟨arr, ha⟩ := hi.has y hy
        exact v3.block y.p (block_lt ha) (by simp)⟩
      exact (((hi.calm hc4).cur x hx).1).le (by omega)
  · have hfr := hi.fr
    refine ⟨hkeep.os.trans hfr.os, hkeep.tape.trans hfr.tape, hkeep.output.trans hfr.output, Nat.le_trans hfr.size hkeep.size, fun b hb hne => ?_⟩
    refine (hkeep.old b hb fun x hx e => hne ?_).trans (hfr.block b hb hne)
    rw [hx, e]; rfl
theorem all3 {α β γ : Type} {a a' : α} {b b' : β} {c c' : γ} (h : some (a, b, c) = some (a', b', c')) : a = a' ∧ b = b' ∧ c = c' := by cases h; exact ⟨rfl, rfl, rfl⟩
/-- What the checker finds of an operation is so. -/
theorem stepOp_goes (tok : TabOk P tb) (hcb : ∀ A n c, P.built 53 [(0, .slice A n c)] = some #[.slice A n c, .int .i64 0, .int .u64 0]) {ents : List Ent} (hents : ∀ e ∈ ents, Con P tb e) {ρ : Operand → TV} {r : TV} {k' : Nat} {has' : Bool}
    (h : stepOp tb ents has ρ o.op = some (r, k', has')) (hi : Inv tb w0 g q k w) (hh : has = q.isSome) (hρ : ∀ x, TVok tb w0.heap.size g q w (ρ x) (a.eval x)) (hk : k + k' ≤ 999999000) : Goes P tb w0 g q k o a w r k' has' (calB ents has ρ o.op) := by
  unfold stepOp at h
  split at h
  · rename_i x hop
    obtain ⟨rfl, rfl, rfl⟩ := all3 h
    exact Goes.any (goes_value hi hh (v := a.eval x) (by unfold execOp; simp [hop]) Calm.refl (hρ x))
  · rename_i x hop
    obtain ⟨rfl, rfl, rfl⟩ := all3 h
    exact Goes.any (goes_value hi hh (v := a.eval x) (by unfold execOp; simp [hop]) Calm.refl (hρ x))
  · rename_i e hop
    split at h
    · rename_i d hd
      obtain ⟨rfl, rfl, rfl⟩ := all3 h
      exact Goes.any (goes_alloc tok hop hi hh hd)
    · cases h
  · rename_i e x hop
    have hx := hρ x
    split at h
    · rename_i he
      rw [he] at hx
      split at h
      · rename_i hc
        obtain ⟨rfl, rfl, rfl⟩ := all3 h
        obtain ⟨rfl, h2⟩ := hc
        refine Goes.any (goes_cursor hop hi ?_ hx)
        cases q with
        | none => rfl
        | some y => rw [hh] at h2; cases h2
      · cases h
    · rename_i av _ he
      rw [he] at hx
      split at h
      · rename_i d hd
        split at h
        · rename_i hf
          obtain ⟨rfl, rfl, rfl⟩ := all3 h
          exact Goes.any (goes_box tok hop hi hh hx hd hf)
        · cases h
      · cases h
    · cases h
  · rename_i t parts hop
    split at h
    · rename_i ht
      subst ht
      split at h
      · rename_i x hp
        have hx := hρ x
        split at h
        · rename_i he
          rw [he] at hx
          obtain ⟨rfl, rfl, rfl⟩ := all3 h
          obtain ⟨A, n, c, e, h1, h2, h3⟩ := hx
          refine Goes.any (goes_value hi hh (v := .agg #[.slice A n c, .int .i64 0, .int .u64 0]) ?_ Calm.refl ⟨A, n, c, rfl, h1, h2, h3⟩)
          have hb := run_build (P := P) w 53 #[(0, .slice A n c)] _ (hcb A n c)
          unfold execOp
          simp [hop, list1 hp, e, hb]
        · cases h
      · cases h
    · split at h
      · rename_i d hd
        split at h
        · rename_i hf
          obtain ⟨rfl, rfl, rfl⟩ := all3 h
          simp only [Bool.and_eq_true] at hf
          exact Goes.any (goes_build tok hop hi hh hρ hd hf.1 hf.2)
        · cases h
      · cases h
  · rename_i t n parts hop
    split at h
    · rename_i e he
      split at h
      · rename_i d hd
        split at h
        · rename_i hf
          obtain ⟨rfl, rfl, rfl⟩ := all3 h
          simp only [Bool.and_eq_true, decide_eq_true_eq] at hf
          exact Goes.any (goes_buildSlice tok hop hi hh hρ he hd hf.1 hf.2)
        · cases h
      · cases h
    · cases h
  · rename_i t x hop
    have hx := hρ x
    split at h
    · rename_i own T off d he hd
      rw [he] at hx
      split at h
      · rename_i D hD
        split at h
        · rename_i hf
          obtain ⟨rfl, rfl, rfl⟩ := all3 h
          exact Goes.any (goes_load tok hop hi hh hx hD hd hf)
        · cases h
      · cases h
    · cases h
  · rename_i t x y hop
    have hx := hρ x
    have hy := hρ y
    split at h
    · rename_i T off av d he hf hd
      rw [he] at hx
      rw [hf] at hy
      split at h
      · rename_i D hD
        split at h
        · rename_i hg
          obtain ⟨rfl, rfl, rfl⟩ := all3 h
          simp only [Bool.and_eq_true] at hg
          exact Goes.any (goes_store tok hop hi hh hx hy hD hd hg.1 hg.2)
        · cases h
      · cases h
    · cases h
  · rename_i op t X Y t' hop
    have hx := hρ X
    have hy := hρ Y
    split at h
    · rename_i x y he hf
      rw [he] at hx
      rw [hf] at hy
      split at h
      · rename_i r' hr
        obtain ⟨rfl, rfl, rfl⟩ := all3 h
        exact Goes.any (goes_binOp hop hi hh hx hy hr)
      · cases h
    · cases h
  · rename_i s x f hop
    have hx := hρ x
    split at h
    · rename_i own T off d he hd
      rw [he] at hx
      split at h
      · rename_i ha
        split at h
        · rename_i y hy
          obtain ⟨rfl, rfl, rfl⟩ := all3 h
          exact Goes.any (goes_fieldAddr tok hop hi hh hx hd ha hy)
        · cases h
      · cases h
    · cases h
  · rename_i t x i hop
    have hx := hρ x
    have hy := hρ i
    split at h
    · rename_i e own T lo hi' cl u v ht he hf
      rw [he] at hx
      rw [hf] at hy
      split at h
      · rename_i hc
        obtain ⟨rfl, rfl, rfl⟩ := all3 h
        obtain ⟨rfl, h1, h2⟩ := hc
        exact Goes.any (goes_indexAddr tok hop hi hh hx hy ht h1 h2)
      · cases h
    · cases h
  · rename_i t x f hop
    have hx := hρ x
    split at h
    · rename_i ct d he hd
      rw [he] at hx
      split at h
      · rename_i ha
        simp only [Bool.and_eq_true, decide_eq_true_eq] at ha
        obtain ⟨ha, rfl⟩ := ha
        split at h
        · rename_i y hy
          split at h
          · rename_i fd hfd
            obtain ⟨rfl, rfl, rfl⟩ := all3 h
            exact Goes.any (goes_field tok hop hi hh hx hd ha hy hfd)
          · cases h
        · cases h
      · cases h
    · cases h
  · rename_i x i hop
    have hx := hρ x
    split at h
    · rename_i l he
      rw [he] at hx
      split at h
      · rename_i av hav
        obtain ⟨rfl, rfl, rfl⟩ := all3 h
        exact Goes.any (goes_extract hop hi hh hx hav)
      · cases h
    · cases h
  · rename_i t x hb hop
    have hx := hρ x
    have hy := hρ hb
    split at h
    · rename_i e own T lo hi' cl u v ht he hf
      rw [he] at hx
      rw [hf] at hy
      split at h
      · rename_i hc
        obtain ⟨rfl, rfl, rfl⟩ := all3 h
        obtain ⟨rfl, h1, h2, h3⟩ := hc
        exact Goes.any (goes_slice tok hop hi hh hx hy ht h1 h2 h3)
      · cases h
    · cases h
  · rename_i c hop
    obtain ⟨callee, xs, ats⟩ := c
    simp only at h
    split at h
    · split at h
      · rename_i x t hxs hats
        have hx := hρ x
        split at h
        · rename_i own T lo hi' cl e he ht
          rw [he] at hx
          obtain ⟨rfl, rfl, rfl⟩ := all3 h
          exact Goes.any (goes_len tok hop hi hh hxs hats hx ht)
        · rename_i e he ht
          rw [he] at hx
          obtain ⟨rfl, rfl, rfl⟩ := all3 h
          exact Goes.any (goes_len_nil tok hop hi hh hxs hats hx ht)
        · cases h
      · cases h
    · split at h
      · rename_i x y t t' hxs hats
        have hx := hρ x
        have hy := hρ y
        split at h
        · rename_i htt
          subst htt
          split at h
          · rename_i e T lo hi1 cl own' T' lo' hi' cl' ht he hf
            rw [he] at hx
            rw [hf] at hy
            split at h
            · rename_i hc
              obtain ⟨rfl, rfl, h1, h2⟩ := hc
              obtain ⟨rfl, rfl, rfl⟩ := all3 h
              exact Goes.any (goes_append tok hop hi hh hxs hats hx hy ht h1 h2)
            · cases h
          · rename_i e own' T' lo' hi' cl' ht he hf
            rw [he] at hx
            rw [hf] at hy
            split at h
            · rename_i hc
              obtain ⟨rfl, h1, h2⟩ := hc
              obtain ⟨rfl, rfl, rfl⟩ := all3 h
              exact Goes.any (goes_append_nil tok hop hi hh hxs hats hx hy ht h1 h2)
            · cases h
          · cases h
        · cases h
      · cases h
    · rename_i f
      split at h
      · rename_i e he
        obtain ⟨rfl, rfl, rfl⟩ := all3 h
        have hcal : calB ents has ρ o.op = !e.has := by rw [hop]; simp only [calB, he]
        rw [hcal]
        exact goes_call tok hop hi hh hρ (hents e (List.mem_of_find?_eq_some he)) (by simpa using List.find?_some he) hk
      · cases h
    · cases h
  · cases h
end
end Go.Dr
