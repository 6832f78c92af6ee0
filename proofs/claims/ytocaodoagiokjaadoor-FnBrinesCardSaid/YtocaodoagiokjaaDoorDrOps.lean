/- A checker of draws. Part three: an operation by its types and bounds. No conditions. -/
import Derived.Test.YtocaodoagiokjaaDoorDrStep
set_option linter.unusedSimpArgs false
set_option linter.unusedVariables false
namespace Go.Dr
open Go.RowKit Go.Sort Go.Salt Go.Proofs.YtocaodoagiokjaaDoor
/-- What the checker knows of a function: with arguments as 'args', it returns r, and reads the cursor at most k times. -/
structure Ent where
  f : FuncId
  has : Bool
  args : List AV
  r : TV
  k : Nat
def AV.weak : AV → AV
  | .ptr _ T o => .ptr false T o
  | .sl _ T lo hi cl => .sl false T lo hi cl
  | x => x
def full : AV := .int (-9223372036854775808) 9223372036854775807
def clamp (lo hi : Int) : AV := if -9223372036854775808 ≤ lo ∧ hi ≤ 9223372036854775807 then .int lo hi else full
def arith : BinOp → AV → AV → Option AV
  | .add, .int a b, .int c d => some (clamp (a + c) (b + d))
  | .sub, .int a b, .int c d => some (clamp (a - d) (b - c))
  | .mul, .int a b, .int c d => some (if 0 ≤ a ∧ 0 ≤ c then clamp (a * c) (b * d) else full)
  | .quo, .int a b, .int c _ => if 1 ≤ c then some (if 0 ≤ a then clamp 0 (b / c) else full) else none
  | .rem, .int a _, .int c d => if 1 ≤ c then some (if 0 ≤ a then .int 0 (d - 1) else .int (1 - d) (d - 1)) else none
  | .lss, .int a b, .int c d => some (.bool (!decide (b < c)) (decide (a < d)))
  | .leq, .int a b, .int c d => some (.bool (!decide (b ≤ c)) (decide (a ≤ d)))
  | .gtr, .int a b, .int c d => some (.bool (!decide (a > d)) (decide (b > c)))
  | .geq, .int a b, .int c d => some (.bool (!decide (a ≥ d)) (decide (b ≥ c)))
  | .eql, .int a b, .int c d => some (.bool (!(decide (a = b) && decide (c = d) && decide (a = c))) (!decide (b < c) && !decide (d < a)))
  | .neq, .int a b, .int c d => some (.bool (!decide (b < c) && !decide (d < a)) (!(decide (a = b) && decide (c = d) && decide (a = c))))
  | .eql, .str, .str => some (.bool true true)
  | .neq, .str, .str => some (.bool true true)
  | _, _, _ => none
def fitsIn (d D : TD) (o : Nat) : Bool := decide (o + d.ct.length ≤ D.ct.length) && decide ((D.ct.drop o).take d.ct.length = d.ct)
def partB (tb : Tab) (d : TD) (i : Nat) (v : TV) : Bool :=
  match d.fs[i]?, v with
  | some x, .one av => (match tb.td x.2 with | some fd => av.fitB fd | none => false)
  | _, _ => false
def elemB (d : TD) (n i : Nat) (v : TV) : Bool :=
  match v with
  | .one av => decide (i < n) && av.fitB d
  | _ => false
def argsLe : List TV → List AV → Bool
  | [], [] => true
  | .one a :: l, b :: m => a.weak.leB b && argsLe l m
  | _, _ => false
def noCurB (l : List AV) : Bool := l.all fun a => match a with | .cur => false | _ => true
def noBytesB (l : List AV) : Bool := l.all fun a => match a with | .bytes | .curv => false | _ => true
def plainTV : TV → Bool
  | .one a => noBytesB [a] && noCurB [a]
  | .tup l => noBytesB l && noCurB l
def Ent.fit (e : Ent) (f : FuncId) (has : Bool) (args : List TV) : Bool := (e.f == f) && (!e.has || has) && argsLe args e.args && (if e.has then noBytesB e.args else noCurB e.args) && plainTV e.r
def stepOp (tb : Tab) (ents : List Ent) (has : Bool) (ρ : Operand → TV) (o : Op) : Option (TV × Nat × Bool) :=
  match o with
  | .move x => some (ρ x, 0, has)
  | .assign x => some (ρ x, 0, has)
  | .alloc e => match tb.td e with | some _ => some (.one (.ptr true e 0), 0, has) | none => none
  | .box e x =>
    match ρ x with
    | .one .curv => if e = 53 ∧ has = false then some (.one .cur, 0, true) else none
    | .one av => (match tb.td e with | some d => if av.fitB d then some (.one (.ptr true e 0), 0, has) else none | none => none)
    | _ => none
  | .build t parts =>
    if t = 53 then
      (match parts.toList with
      | [(0, x)] => (match ρ x with | .one .bytes => some (.one .curv, 0, has) | _ => none)
      | _ => none)
    else (match tb.td t with
      | some d => if d.agg && parts.toList.all (fun x => partB tb d x.1 (ρ x.2)) then some (.one (.agg d.ct), 0, has) else none
      | none => none)
  | .buildSlice t n parts =>
    match tb.sl t with
    | some e => (match tb.td e with
      | some d => if decide (n * d.ct.length ≤ 16777216) && parts.toList.all (fun x => elemB d n x.1 (ρ x.2)) then some (.one (.sl true e n n (n + 1)), 0, has) else none
      | none => none)
    | none => none
  | .load t x =>
    match ρ x, tb.td t with
    | .one (.ptr _ T o), some d => (match tb.td T with | some D => if fitsIn d D o then some (.one d.av, 0, has) else none | none => none)
    | _, _ => none
  | .store t x y =>
    match ρ x, ρ y, tb.td t with
    | .one (.ptr true T o), .one av, some d => (match tb.td T with | some D => if fitsIn d D o && av.fitB d then some (.one .top, 0, has) else none | none => none)
    | _, _, _ => none
  | .binOp op _ x y _ =>
    match ρ x, ρ y with
    | .one a, .one b => (match arith op a b with | some r => some (.one r, 0, has) | none => none)
    | _, _ => none
  | .fieldAddr s x f =>
    match ρ x, tb.td s with
    | .one (.ptr own T o), some d => if d.agg then (match d.fs[f]? with | some y => some (.one (.ptr own T (o + y.1)), 0, has) | none => none) else none
    | _, _ => none
  | .indexAddr t x i =>
    match tb.sl t, ρ x, ρ i with
    | some e, .one (.sl own T lo _ _), .one (.int a b) => if e = T ∧ 0 ≤ a ∧ b < lo then some (.one (.ptr own T 0), 0, has) else none
    | _, _, _ => none
  | .field t x f =>
    match ρ x, tb.td t with
    | .one (.agg ct), some d => if d.agg && decide (ct = d.ct) then (match d.fs[f]? with | some y => (match tb.td y.2 with | some fd => some (.one fd.av, 0, has) | none => none) | none => none) else none
    | _, _ => none
  | .extract x i =>
    match ρ x with
    | .tup l => (match l[i]? with | some a => some (.one a, 0, has) | none => none)
    | _ => none
  | .slice t x none (some h) none =>
    match tb.sl t, ρ x, ρ h with
    | some e, .one (.sl own T _ _ cl), .one (.int a b) => if e = T ∧ 0 ≤ a ∧ b < cl ∧ 1 ≤ cl then some (.one (.sl own T a.toNat b.toNat cl), 0, has) else none
    | _, _, _ => none
  | .call c =>
    match c.callee with
    | .builtin .len =>
      (match c.args.toList, c.argTypes.toList with
      | [x], [t] => (match ρ x, tb.sl t with
        | .one (.sl _ _ lo hi _), some _ => some (.one (.int lo hi), 0, has)
        | .one .nil, some _ => some (.one (.int 0 0), 0, has)
        | _, _ => none)
      | _, _ => none)
    | .builtin .append =>
      (match c.args.toList, c.argTypes.toList with
      | [x, y], [t, t'] => if t = t' then (match tb.sl t, ρ x, ρ y with
        | some e, .one (.sl true T lo hi _), .one (.sl _ T' lo' hi' _) => if e = T ∧ e = T' ∧ 1 ≤ lo' ∧ hi + hi' ≤ 1000000 then some (.one (.sl true T (lo + lo') (hi + hi') (lo + lo' + 1)), 0, has) else none
        | some e, .one .nil, .one (.sl _ T' lo' hi' _) => if e = T' ∧ 1 ≤ lo' ∧ hi' ≤ 1000000 then some (.one (.sl true e lo' hi' (lo' + 1)), 0, has) else none
        | _, _, _ => none) else none
      | _, _ => none)
    | .value (.func f) => (match ents.find? (fun e => e.fit f has (c.args.toList.map ρ)) with | some e => some (e.r, e.k, has) | none => none)
    | _ => none
  | _ => none

/-- Does the operation leave the cursor alone? -/
def calB (ents : List Ent) (has : Bool) (ρ : Operand → TV) : Op → Bool
  | .call c => (match c.callee with
    | .value (.func f) => (match ents.find? (fun e => e.fit f has (c.args.toList.map ρ)) with | some e => !e.has | none => true)
    | _ => true)
  | _ => true
section
variable {P : Program} {tb : Tab} {g q : Option CI} {w0 w w' : World}
/-- How the world stands. -/
structure Inv (tb : Tab) (w0 : World) (g q : Option CI) (k : Nat) (w : World) : Prop where
  gq : ∀ x, g = some x → q = some x
  qg : ∀ x, q = some x → (g = some x ∧ x.p < w0.heap.size) ∨ (g = none ∧ w0.heap.size ≤ x.p)
  cur : ∀ x, q = some x → Cur w x.p x.A x.n x.c k ∧ Byt w w0.heap.size x.A x.n ∧ x.n ≤ 65536
  fr : w0.grownBy w (g.map (·.p))
theorem Inv.has {k : Nat} (h : Inv tb w0 g q k w) : HasCur q w := fun x hx => by
  obtain ⟨⟨_, i, s, _, arr, h1, _⟩, _⟩ := h.cur x hx
  exact ⟨arr, h1⟩
theorem Inv.calm {k : Nat} (h : Inv tb w0 g q k w) (hc : Calm tb w0.heap.size g q w w') : Inv tb w0 g q k w' := by
  refine ⟨h.gq, h.qg, fun x hx => ?_, ⟨hc.keep.os.trans h.fr.os, hc.keep.tape.trans h.fr.tape, hc.keep.output.trans h.fr.output, Nat.le_trans h.fr.size hc.keep.size, fun b hb hne => ?_⟩⟩
  · obtain ⟨⟨b1, i, s, b2, b3⟩, b4, b5⟩ := h.cur x hx
    have hold : ∀ b o, x.A = some ⟨b, o, none⟩ → b < w0.heap.size → b < x.p → w'.heap[b]? = w.heap[b]? := fun b o _ hb hbp => hc.keep.old b hb fun y hy => by
      have := h.gq y hy
      rw [hx] at this
      cases this
      omega
    have hlow : 0 < x.n → ∃ b o, x.A = some ⟨b, o, none⟩ ∧ b < w0.heap.size ∧ b < x.p := fun hn => by
      obtain ⟨b, o, e, h1, _⟩ := b1 hn
      obtain ⟨b', o', e', h2, _⟩ := b4 hn
      rw [e] at e'
      cases e'
      exact ⟨b, o, e, h2, h1⟩
    have bk : ∀ B, Byt w B x.A x.n → Byt w' B x.A x.n := fun B hB hn => by
      obtain ⟨b, o, e, h2, h1⟩ := hlow hn
      exact byt_keep hB (fun b' o' e' _ => by rw [e] at e'; cases e'; exact hold b o e h2 h1) hn
    exact ⟨⟨bk _ b1, i, s, b2, b3.keep (hc.cur x hx)⟩, bk _ b4, b5⟩
  · refine (hc.keep.old b hb fun x hx e => hne ?_).trans (h.fr.block b hb hne)
    rw [hx, e]; rfl
theorem Inv.size {k : Nat} (h : Inv tb w0 g q k w) : w0.heap.size ≤ w.heap.size := h.fr.size
/-- What an operation leads to. -/
def Goes (P : Program) (tb : Tab) (w0 : World) (g q : Option CI) (k : Nat) (o : Oper) (a : Act) (w : World) (r : TV) (k' : Nat) (has' : Bool) (cal : Bool := true) : Prop :=
  ∀ (next : Act → World → Prop) (Q : Exit → Act → World → Prop), (∀ v w' q', Keep tb w0.heap.size g w w' → Inv tb w0 g q' (k + k') w' → (∀ x, q = some x → q' = some x) → has' = q'.isSome → TVok tb w0.heap.size g q' w' r v → (cal = true → Calm tb w0.heap.size g q w w') → next (a.put o.dst v) w') → o.wp P a w next Q
theorem goes_value {k : Nat} {o : Oper} {a : Act} {r : TV} {v : Value} {has : Bool} (hi : Inv tb w0 g q k w) (hh : has = q.isSome) (hr : (execOp a.eval o).run P w = .ok (.value v) w') (hc : Calm tb w0.heap.size g q w w') (hv : TVok tb w0.heap.size g q w' r v) : Goes P tb w0 g q k o a w r 0 has := fun next Q h => by
  unfold Oper.wp
  rw [hr]
  exact h v w' q hc.keep (hi.calm hc) (fun _ h => h) hh hv (fun _ => hc)
theorem goes_skip {k : Nat} {o : Oper} {a : Act} {has : Bool} (hi : Inv tb w0 g q k w) (hh : has = q.isSome) (hr : (execOp a.eval o).run P w = .ok .skip w') (hc : Calm tb w0.heap.size g q w w') : Goes P tb w0 g q k o a w (.one .top) 0 has := fun next Q h => by
  unfold Oper.wp
  rw [hr]
  exact h undef w' q hc.keep (hi.calm hc) (fun _ h => h) hh trivial (fun _ => hc)
theorem clamp_ok {base : Nat} {lo hi z : Int} (h1 : lo ≤ z) (h2 : z ≤ hi) : AVok tb base g q w (clamp lo hi) (.int .i64 (IntKind.i64.wrap z)) := by
  unfold clamp
  split
  · rename_i h
    refine ⟨_, rfl, ?_⟩
    rw [Go.IntKind.wrap_i64]; omega
  · refine ⟨_, rfl, ?_⟩
    rw [Go.IntKind.wrap_i64]; omega
theorem full_ok {base : Nat} {z : Int} : AVok tb base g q w full (.int .i64 (IntKind.i64.wrap z)) := by
  refine ⟨_, rfl, ?_⟩
  rw [Go.IntKind.wrap_i64]; omega
end
end Go.Dr
