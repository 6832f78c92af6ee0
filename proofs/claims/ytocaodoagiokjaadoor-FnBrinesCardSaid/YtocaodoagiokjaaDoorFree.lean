/- A drawn region whose operations each keep what the others have shown: one obligation an operation, whatever the order. Plain lemmas over any program. No conditions. -/
import Derived.Test.YtocaodoagiokjaaDoorSlice
import Derived.StillTail
set_option linter.unusedSimpArgs false
set_option linter.unusedVariables false
namespace Go.Salt
open Go.RowKit
/-- What an operation leaves: this very value; or a value that has a property, which lasts. -/
abbrev Fx := Value ⊕ (Value → World → Prop)
def Fx.is : Fx → Value → World → Prop
  | .inl v, u, _ => u = v
  | .inr φ, u, w => φ u w
section
variable {P : Program} {ops : Array Oper} {Ev : World → World → Prop} {w0 : World}
def opPost (Ev : World → World → Prop) (a : Act) (d : Option Tmp) (φ : Value → World → Prop) (w' : World) : Exit → Act → World → Prop :=
  fun x a' w'' => x = .normal ∧ ∃ u, a' = a.put d u ∧ φ u w'' ∧ Ev w' w''
def opOb (P : Program) (ops : Array Oper) (Ev : World → World → Prop) (a : Act) (o : Oper) (φ : Value → World → Prop) (w' : World) : Prop :=
  wpList P ops (opPost Ev a o.dst φ w') [o] a w'
/-- What holds ahead of the s-th operation of the chain ch; what it leaves, and what any other leaves as it was. -/
def jPre (J : Nat → World → Prop) (ch : List Nat) (k : Nat) (w : World) : Prop := ∀ s, ch.idxOf? k = some s → J s w
def jPost (J : Nat → World → Prop) (ch : List Nat) (k : Nat) (w w' : World) : Prop := (∀ s, ch.idxOf? k = some s → J (s + 1) w') ∧ (ch.idxOf? k = none → ∀ s, J s w → J s w')
/-- What the operations owe, one after the other; T: what stands behind them. -/
def freeOb (P : Program) (ops : Array Oper) (L : List Nat) (ch : List Nat) (J : Nat → World → Prop) (Ev : World → World → Prop) (w0 : World) (T : Act → World → Prop) : Nat → List Oper → List Fx → Act → (Nat → World → Prop) → (World → Prop) → Prop
  | _, [], _, a, _, G => ∀ w', Ev w0 w' → J ch.length w' → G w' → T a w'
  | k, o :: l, .inl v :: Φ, a, F, G => ((L.contains k = true ∧ ch.idxOf? k = none ∧ ∀ w', opOb P ops Eq a o (fun u _ => u = v) w') ∨ (L.contains k = false ∧ ∀ w', Ev w0 w' → jPre J ch k w' → F k w' → opOb P ops (fun w w' => Ev w w' ∧ jPost J ch k w w') a o (fun u _ => u = v) w')) ∧ freeOb P ops L ch J Ev w0 T (k + 1) l Φ (a.put o.dst v) F G
  | k, o :: l, .inr φ :: Φ, a, F, G => L.contains k = false ∧ (∀ u w w', Ev w w' → φ u w → φ u w') ∧ (∀ w', Ev w0 w' → jPre J ch k w' → F k w' → opOb P ops (fun w w' => Ev w w' ∧ jPost J ch k w w') a o φ w') ∧
      ∀ u, freeOb P ops L ch J Ev w0 T (k + 1) l Φ (a.put o.dst u) (fun i w => F i w ∧ (Region.waitsFor .any ops i k = true → φ u w)) (fun w => G w ∧ φ u w)
  | _, _ :: _, [], _, _, _ => False
def putAll (us : Nat → Value) : Nat → List Oper → Act → Act
  | _, [], a => a
  | k, o :: l, a => putAll us (k + 1) l (a.put o.dst (us k))
theorem Fx.is_stable {f : Fx} (h : ∀ φ, f = .inr φ → ∀ u w w', Ev w w' → φ u w → φ u w') {u : Value} {w w' : World} (he : Ev w w') (hi : f.is u w) : f.is u w' := by
  cases f with
  | inl v => exact hi
  | inr φ => exact h φ rfl u w w' he hi
/-- All of it, said at once. -/
theorem freeOb_all {L ch : List Nat} {J : Nat → World → Prop} {T : Act → World → Prop} (us : Nat → Value) : ∀ (l : List Oper) (k : Nat) (Φ : List Fx) (a : Act) (F : Nat → World → Prop) (G : World → Prop),
    freeOb P ops L ch J Ev w0 T k l Φ a F G → (∀ j v, j < l.length → Φ[j]? = some (.inl v) → us (k + j) = v) →
    (∀ i, i < l.length → ∃ f, Φ[i]? = some f ∧ (∀ φ, f = .inr φ → ∀ u w w', Ev w w' → φ u w → φ u w') ∧
      ((L.contains (k + i) = true ∧ ch.idxOf? (k + i) = none ∧ (∃ v, f = .inl v) ∧ ∀ o, l[i]? = some o → ∀ w', opOb P ops Eq (putAll us k (l.take i) a) o f.is w') ∨
       (L.contains (k + i) = false ∧ ∀ o, l[i]? = some o → ∀ w', Ev w0 w' → jPre J ch (k + i) w' → F (k + i) w' → (∀ j φ, j < i → Φ[j]? = some (.inr φ) → Region.waitsFor .any ops (k + i) (k + j) = true → φ (us (k + j)) w') →
        opOb P ops (fun w w' => Ev w w' ∧ jPost J ch (k + i) w w') (putAll us k (l.take i) a) o f.is w'))) ∧
    (∀ w', Ev w0 w' → J ch.length w' → G w' → (∀ j φ, j < l.length → Φ[j]? = some (.inr φ) → φ (us (k + j)) w') → T (putAll us k l a) w') := by
  intro l
  induction l with
  | nil =>
    intro k Φ a F G h _
    exact ⟨fun i hi => absurd hi (by simp), fun w' he hj hg _ => by unfold freeOb at h; exact h w' he hj hg⟩
  | cons o l ih =>
    intro k Φ a F G h hag
    match Φ, h, hag with
    | .inl v :: Φ, h, hag =>
      unfold freeOb at h
      obtain ⟨h1, h2⟩ := h
      have hk : us k = v := by have := hag 0 v (by simp) rfl; simpa using this
      obtain ⟨i1, i2⟩ := ih (k + 1) Φ (a.put o.dst v) F G h2 (fun j u hj he => by
        have := hag (j + 1) u (by simpa using hj) (by simpa using he)
        rwa [show k + 1 + j = k + (j + 1) by omega])
      refine ⟨fun i hi => ?_, fun w' he hJ hg hf => ?_⟩
      · match i, hi with
        | 0, _ =>
          refine ⟨.inl v, rfl, (fun φ h => by cases h), ?_⟩
          rcases h1 with ⟨h1, h4, h3⟩ | ⟨h1, h3⟩
          · refine .inl ⟨h1, h4, ⟨v, rfl⟩, fun o' ho w' => ?_⟩
            obtain rfl : o = o' := by simpa using ho
            exact h3 w'
          · refine .inr ⟨h1, fun o' ho w' he hp hF _ => ?_⟩
            obtain rfl : o = o' := by simpa using ho
            exact h3 w' he hp hF
        | i + 1, hi =>
          obtain ⟨f, f1, f2, f3⟩ := i1 i (by simpa using hi)
          refine ⟨f, by simpa using f1, f2, ?_⟩
          rw [show k + 1 + i = k + (i + 1) by omega] at f3
          rcases f3 with ⟨f3, f6, f4, f5⟩ | ⟨f3, f5⟩
          · refine .inl ⟨f3, f6, f4, fun o' ho w' => ?_⟩
            have := f5 o' (by simpa using ho) w'
            simpa [putAll, hk] using this
          · refine .inr ⟨f3, fun o' ho w' he hp hF hfs => ?_⟩
            have := f5 o' (by simpa using ho) w' he hp hF (fun j φ hj hp hw => by
              have := hfs (j + 1) φ (by omega) (by simpa using hp) (by rwa [show k + (j + 1) = k + 1 + j by omega])
              rwa [show k + 1 + j = k + (j + 1) by omega])
            simpa [putAll, hk] using this
      · have := i2 w' he hJ hg (fun j φ hj hp => by
          have := hf (j + 1) φ (by simpa using hj) (by simpa using hp)
          rwa [show k + 1 + j = k + (j + 1) by omega])
        simpa [putAll, hk] using this
    | .inr φ :: Φ, h, hag =>
      unfold freeOb at h
      obtain ⟨hL, h0, h1, h2⟩ := h
      obtain ⟨i1, i2⟩ := ih (k + 1) Φ (a.put o.dst (us k)) _ _ (h2 (us k)) (fun j u hj he => by
        have := hag (j + 1) u (by simpa using hj) (by simpa using he)
        rwa [show k + 1 + j = k + (j + 1) by omega])
      refine ⟨fun i hi => ?_, fun w' he hJ hg hf => ?_⟩
      · match i, hi with
        | 0, _ =>
          refine ⟨.inr φ, rfl, (fun ψ h => by cases h; exact h0), .inr ⟨hL, fun o' ho w' he hp hF _ => ?_⟩⟩
          obtain rfl : o = o' := by simpa using ho
          exact h1 w' he hp hF
        | i + 1, hi =>
          obtain ⟨f, f1, f2, f3⟩ := i1 i (by simpa using hi)
          refine ⟨f, by simpa using f1, f2, ?_⟩
          rw [show k + 1 + i = k + (i + 1) by omega] at f3
          rcases f3 with ⟨f3, f6, f4, f5⟩ | ⟨f3, f5⟩
          · refine .inl ⟨f3, f6, f4, fun o' ho w' => ?_⟩
            have := f5 o' (by simpa using ho) w'
            simpa [putAll] using this
          · refine .inr ⟨f3, fun o' ho w' he hp hF hfs => ?_⟩
            have := f5 o' (by simpa using ho) w' he hp ⟨hF, fun hw => by
              have := hfs 0 φ (by omega) (by simp) (by simpa using hw)
              simpa using this⟩ (fun j ψ hj hp hw => by
              have := hfs (j + 1) ψ (by omega) (by simpa using hp) (by rwa [show k + (j + 1) = k + 1 + j by omega])
              rwa [show k + 1 + j = k + (j + 1) by omega])
            simpa [putAll] using this
      · have := i2 w' he hJ ⟨hg, by have := hf 0 φ (by simp) (by simp); simpa using this⟩ (fun j ψ hj hp => by
          have := hf (j + 1) ψ (by simpa using hj) (by simpa using hp)
          rwa [show k + 1 + j = k + (j + 1) by omega])
        simpa [putAll] using this
    | [], h, _ => unfold freeOb at h; exact h.elim

/-! ### frames -/
theorem put_defers' (a : Act) (d : Option Tmp) (v : Value) : (a.put d v).defers = a.defers := by cases d <;> rfl
theorem put_size (a : Act) (d : Option Tmp) (v : Value) : (a.put d v).tmps.size = a.tmps.size := by cases d <;> simp [Act.put]
theorem put_ne (a : Act) (d : Option Tmp) (v : Value) (t : Tmp) (h : d ≠ some t) : (a.put d v).tmps[t]? = a.tmps[t]? := by
  cases d with
  | none => rfl
  | some e => exact Array.getElem?_setIfInBounds_ne (fun he => h (by rw [he]))
theorem put_eq (a : Act) (t : Tmp) (v : Value) : (a.put (some t) v).tmps[t]? = if t < a.tmps.size then some v else none := by
  by_cases h : t < a.tmps.size
  · rw [if_pos h]; simp [Act.put, h]
  · rw [if_neg h]; simp [Act.put, h]
theorem putAll_defers (us : Nat → Value) : ∀ (l : List Oper) (k : Nat) (a : Act), (putAll us k l a).defers = a.defers
  | [], _, _ => rfl
  | o :: l, k, a => by rw [putAll, putAll_defers us l, put_defers']
theorem putAll_size (us : Nat → Value) : ∀ (l : List Oper) (k : Nat) (a : Act), (putAll us k l a).tmps.size = a.tmps.size
  | [], _, _ => rfl
  | o :: l, k, a => by rw [putAll, putAll_size us l, put_size]
theorem putAll_other (us : Nat → Value) (t : Tmp) : ∀ (l : List Oper) (k : Nat) (a : Act), (∀ (j : Nat) (o : Oper), l[j]? = some o → o.dst ≠ some t) → (putAll us k l a).tmps[t]? = a.tmps[t]?
  | [], _, _, _ => rfl
  | o :: l, k, a, h => by
    rw [putAll, putAll_other us t l (k + 1) _ (fun j o' ho => h (j + 1) o' (by simpa using ho)), put_ne _ _ _ _ (h 0 o (by simp))]
theorem putAll_at (us : Nat → Value) (t : Tmp) : ∀ (l : List Oper) (k : Nat) (a : Act) (j : Nat) (o : Oper), l[j]? = some o → o.dst = some t → (∀ (j' : Nat) (o' : Oper), j < j' → l[j']? = some o' → o'.dst ≠ some t) →
    (putAll us k l a).tmps[t]? = if t < a.tmps.size then some (us (k + j)) else none
  | [], _, _, _, _, h, _, _ => by simp at h
  | o :: l, k, a, 0, o', h, hd, hne => by
    obtain rfl : o = o' := by simpa using h
    rw [putAll, putAll_other us t l (k + 1) _ (fun j o'' ho => hne (j + 1) o'' (by omega) (by simpa using ho)), hd, put_eq]; rfl
  | o :: l, k, a, j + 1, o', h, hd, hne => by
    rw [putAll, putAll_at us t l (k + 1) _ j o' (by simpa using h) hd (fun j' o'' hj ho => hne (j' + 1) o'' (by omega) (by simpa using ho)), put_size, show k + 1 + j = k + (j + 1) by omega]

/-- Each operation waits for earlier ones alone; it looks at a slot of the first n operations if it waits for the one that writes it; no slot is written twice by them. Behind the first n: a chain that waits for all of them but those of L ('late'), whose slots it does not write, and which look at none of its slots. -/
def Region.chB (ops : Array Oper) : List Nat → Bool
  | a :: b :: r => decide (a < b) && Region.waitsFor .any ops b a && Region.chB ops (b :: r)
  | _ => true
theorem chB_spec : ∀ (ch : List Nat), Region.chB ops ch = true → ∀ s a b, ch[s]? = some a → ch[s + 1]? = some b → a < b ∧ Region.waitsFor .any ops b a = true
  | [], _, s, a, b, h1, _ => by simp at h1
  | [x], _, s, a, b, h1, h2 => by simp at h2
  | x :: y :: r, h, 0, a, b, h1, h2 => by
    simp only [Region.chB, Bool.and_eq_true, decide_eq_true_eq] at h
    simp at h1 h2
    subst h1; subst h2
    exact h.1
  | x :: y :: r, h, s + 1, a, b, h1, h2 => by
    simp only [Region.chB, Bool.and_eq_true] at h
    exact chB_spec (y :: r) h.2 s a b (by simpa using h1) (by simpa using h2)
def Region.freeB (ops : Array Oper) (n : Nat) (L : List Nat) : Bool :=
  Region.noSelect ops && decide (n ≤ ops.size) &&
  (List.range ops.size).all (fun i => match ops[i]? with
    | none => false
    | some o => o.after.all (fun e => !Region.binds .any e || decide (e.on < i)) &&
      (List.range n).all (fun j => match ops[j]? with
        | none => false
        | some oj =>
          (match oj.dst with
            | none => true
            | some d => (!(o.looksAt ops).contains d || (decide (j < i) && Region.waitsFor .any ops i j)) && (j == i || o.dst != some d || (decide (n ≤ i) && !L.contains j))) &&
          (!L.contains j || decide (i < n) || (match o.dst with
            | none => true
            | some d => !(oj.looksAt ops).contains d)))) &&
  (decide (n = ops.size) || (List.range n).all fun i => L.contains i || (List.range (n + 1)).any fun j => decide (i < j) && (j == n || !L.contains j) && Region.waitsFor .any ops j i) &&
  (List.range ops.size).all fun t => decide (t ≤ n) || Region.waitsFor .any ops t (t - 1)
end
section
variable {P : Program} {ops : Array Oper} {Ev : World → World → Prop} {w0 : World}
structure FreeSpec (ops : Array Oper) (n : Nat) (L : List Nat) : Prop where
  sel : Region.noSelect ops = true
  le : n ≤ ops.size
  down : ∀ i o, ops[i]? = some o → ∀ e ∈ o.after, Region.binds .any e = true → e.on < i
  look : ∀ i o j oj d, ops[i]? = some o → j < n → ops[j]? = some oj → oj.dst = some d → d ∈ o.looksAt ops → j < i ∧ Region.waitsFor .any ops i j = true
  once : ∀ i o j oj d, ops[i]? = some o → j < n → ops[j]? = some oj → oj.dst = some d → j ≠ i → (i < n ∨ L.contains j = true) → o.dst ≠ some d
  apart : ∀ i o j oj d, ops[i]? = some o → n ≤ i → j < n → ops[j]? = some oj → L.contains j = true → o.dst = some d → d ∉ oj.looksAt ops
  sink : n < ops.size → ∀ i, i < n → L.contains i = false → ∃ j, i < j ∧ j ≤ n ∧ (j = n ∨ L.contains j = false) ∧ Region.waitsFor .any ops j i = true
  chain : ∀ t, n < t → t < ops.size → Region.waitsFor .any ops t (t - 1) = true
theorem freeB_spec {n : Nat} {L : List Nat} (h : Region.freeB ops n L = true) : FreeSpec ops n L := by
  unfold Region.freeB at h
  simp only [Bool.and_eq_true, Bool.or_eq_true, decide_eq_true_eq] at h
  obtain ⟨⟨⟨⟨h1, h2⟩, h3⟩, h4⟩, h5⟩ := h
  have hi : ∀ {i : Nat} {o : Oper}, ops[i]? = some o → i < ops.size := fun h => (Array.getElem?_eq_some_iff.1 h).1
  have h3' : ∀ i o, ops[i]? = some o → _ := fun i o ho => by
    have h6 := List.all_eq_true.1 h3 i (List.mem_range.2 (hi ho))
    simp only [ho] at h6
    exact h6
  have h7 : ∀ i o, ops[i]? = some o → ∀ j oj, j < n → ops[j]? = some oj → _ := fun i o ho j oj hj hoj => by
    have h6 := h3' i o ho
    simp only [Bool.and_eq_true] at h6
    have h9 := List.all_eq_true.1 h6.2 j (List.mem_range.2 hj)
    simp only [hoj, Bool.and_eq_true] at h9
    exact h9
  refine ⟨h1, h2, fun i o ho e he hb => ?_, fun i o j oj d ho hj hoj hd hm => ?_, fun i o j oj d ho hj hoj hd hne hor => ?_, fun i o j oj d ho hni hj hoj hL hd => ?_, fun hn i hin hL => ?_, fun t ht hts => ?_⟩
  · have h6 := h3' i o ho
    simp only [Bool.and_eq_true] at h6
    have := Array.all_eq_true_iff_forall_mem.1 h6.1 e he
    simpa [hb] using this
  · have h9 := (h7 i o ho j oj hj hoj).1
    simp only [hd, Bool.and_eq_true, Bool.or_eq_true] at h9
    rcases h9.1 with h | h
    · simp [hm] at h
    · simpa using h
  · have h9 := (h7 i o ho j oj hj hoj).1
    simp only [hd, Bool.and_eq_true, Bool.or_eq_true] at h9
    rcases h9.2 with (h | h) | h
    · exact absurd (by simpa using h) hne
    · simpa using h
    · simp only [decide_eq_true_eq, Bool.not_eq_true'] at h
      rcases hor with h' | h'
      · omega
      · rw [h'] at h; cases h.2
  · have h9 := (h7 i o ho j oj hj hoj).2
    simp only [hd, hL, Bool.not_true, Bool.false_or, Bool.or_eq_true, decide_eq_true_eq] at h9
    rcases h9 with h | h
    · omega
    · simpa using h
  · rcases h4 with h | h
    · omega
    · have h9 := List.all_eq_true.1 h i (List.mem_range.2 hin)
      simp only [hL, Bool.false_or] at h9
      obtain ⟨j, hj, hj2⟩ := List.any_eq_true.1 h9
      simp only [Bool.and_eq_true, Bool.or_eq_true, decide_eq_true_eq, beq_iff_eq, Bool.not_eq_true'] at hj2
      exact ⟨j, hj2.1.1, by have := List.mem_range.1 hj; omega, hj2.1.2, hj2.2⟩
  · have h9 := List.all_eq_true.1 h5 t (List.mem_range.2 hts)
    simp only [Bool.or_eq_true, decide_eq_true_eq] at h9
    rcases h9 with h | h
    · omega
    · exact h

/-- Where the frames agree on what an operation looks at, it does the same. -/
theorem wpOp_of_ob {i : Nat} {o : Oper} {φ : Value → World → Prop} {a A : Act} {w' : World} {K : Act → World → Prop} {Q : Exit → Act → World → Prop} (hi : ops[i]? = some o) (hsel : ∀ cs b, o.op ≠ .select cs b)
    (hl : ∀ t, t ∈ o.looksAt ops → a.tmps[t]? = A.tmps[t]?) (hsz : a.tmps.size = A.tmps.size) (h : opOb P ops Ev A o φ w')
    (hK : ∀ u w'', φ u w'' → Ev w' w'' → K (a.put o.dst u) w'') : wpOp P ops Q i K a w' := by
  have he : execOp a.eval o = execOp A.eval o := execOp_congr o hsel fun x hx => by
    cases x with
    | tmp t =>
      have := hl t (List.mem_append_left _ (List.mem_filterMap.2 ⟨.tmp t, by simpa using hx, rfl⟩))
      simp only [Act.eval, Array.getD_eq_getD_getElem?, this]
    | _ => rfl
  have hw : Region.wanted o (yielded ops a.tmps) = Region.wanted o (yielded ops A.tmps) := by
    unfold Region.wanted
    cases hg : o.guard with
    | none => rfl
    | some gw =>
      obtain ⟨g, want⟩ := gw
      have hy : yielded ops a.tmps g = yielded ops A.tmps g := by
        unfold yielded
        cases ht : (ops[g]?).bind (·.dst) with
        | none => rfl
        | some t => simp only [Option.bind_some]; rw [hl t (by simp [Oper.looksAt, hg, ht])]
      simp only [hy]
  -- a value that fits A's frame fits a's
  have same : ∀ u v, A.put o.dst v = A.put o.dst u → a.put o.dst v = a.put o.dst u := fun u v h => by
    cases hd : o.dst with
    | none => rfl
    | some t =>
      rw [hd] at h
      by_cases ht : t < A.tmps.size
      · have h1 := congrArg (fun x => x.tmps[t]?) h
        simp only [put_eq, if_pos ht, Option.some.injEq] at h1
        rw [h1]
      · have ht' : ¬ t < a.tmps.size := by rwa [hsz]
        simp [Act.put, Array.setIfInBounds, ht']
  have fin : ∀ v w'', opPost Ev A o.dst φ w' .normal (A.put o.dst v) w'' → K (a.put o.dst v) w'' := fun v w'' hp => by
    obtain ⟨_, u, h1, h2, h3⟩ := hp
    rw [same u v h1]
    exact hK u w'' h2 h3
  unfold wpOp
  simp only [hi]
  unfold opOb at h
  simp only [wpList] at h
  rw [hw]
  split
  · rename_i hwt
    rw [if_pos hwt] at h
    rcases h with h | ⟨_, a1, w1, h2, _⟩
    · left
      unfold Oper.wp at h ⊢
      rw [he]
      generalize (execOp A.eval o).run P w' = r at h
      cases r with
      | ok n w1 =>
        cases n <;> simp only [Oper.upon] at h ⊢
        case value v => exact fin v w1 h
        case skip => exact fin undef w1 h
        case defer d =>
          obtain ⟨_, u, h1, _⟩ := h
          have h2 := congrArg (fun x => x.defers.length) h1
          simp [put_defers'] at h2
        case enter f args =>
          refine h.mono fun e w2 he => ?_
          cases e with
          | returned v => exact fin v w2 he
          | panicked c => exact absurd he.1 (by simp)
          | outgrown => obtain ⟨a1, w1, h2, _⟩ := he; exact absurd h2 (by simp)
        case row r args => exact h.mono fun v w2 he => fin v w2 he
      | halt x w1 => cases x <;> simp only [Oper.upon] at h ⊢; exact absurd h.1 (by simp)
    · exact absurd h2 (by simp)
  · rename_i hwt
    rw [if_neg hwt] at h
    exact fin undef w' h

/-- The frame and the world while the head runs. -/
structure FreeInv (ops : Array Oper) (n : Nat) (ch : List Nat) (J : Nat → World → Prop) (Ev : World → World → Prop) (w0 : World) (Φ : List Fx) (a0 : Act) (us : Nat → Value) (listed : Array Bool) (a : Act) (w : World) : Prop where
  ev : Ev w0 w
  jj : ∃ s, s ≤ ch.length ∧ (∀ j c, ch[j]? = some c → (listed.getD c false = true ↔ j < s)) ∧ J s w
  agree : ∀ j v, j < n → Φ[j]? = some (.inl v) → us j = v
  size : a.tmps.size = a0.tmps.size
  defers : a.defers = a0.defers
  done : ∀ j o t, j < n → ops[j]? = some o → o.dst = some t → listed.getD j false = true → a.tmps[t]? = if t < a0.tmps.size then some (us j) else none
  other : ∀ t, (∀ j o, j < n → ops[j]? = some o → listed.getD j false = true → o.dst ≠ some t) → a.tmps[t]? = a0.tmps[t]?
  facts : ∀ j φ, j < n → Φ[j]? = some (.inr φ) → listed.getD j false = true → φ (us j) w

def todo (n : Nat) (listed : Array Bool) : Nat := ((List.range n).filter fun i => !listed.getD i false).length
theorem todo_set {n i : Nat} {listed : Array Bool} (hi : i < n) (hs : i < listed.size) (h : listed.getD i false = false) : todo n (listed.setIfInBounds i true) + 1 = todo n listed := by
  unfold todo
  have e : ∀ m, i < m → ((List.range m).filter fun j => !(listed.setIfInBounds i true).getD j false).length + 1 = ((List.range m).filter fun j => !listed.getD j false).length := by
    intro m
    induction m with
    | zero => intro h; omega
    | succ m ih =>
      intro hm
      rw [List.range_succ, List.filter_append, List.filter_append, List.length_append, List.length_append]
      by_cases hmi : m = i
      · subst hmi
        have e1 : ((List.range m).filter fun j => !(listed.setIfInBounds m true).getD j false) = ((List.range m).filter fun j => !listed.getD j false) := by
          apply List.filter_congr
          intro j hj
          rw [getD_set_ne false (by have := List.mem_range.1 hj; omega)]
        rw [e1]
        have e2 : (listed.setIfInBounds m true).getD m false = true := by simp [hs]
        rw [List.filter_cons, List.filter_cons]
        simp only [h, e2]
        simp
      · have := ih (by omega)
        have e3 : (listed.setIfInBounds i true).getD m false = listed.getD m false := getD_set_ne false (Ne.symm hmi)
        simp only [List.filter_cons, List.filter_nil, e3]
        omega
  exact e n hi
theorem todo_zero {n : Nat} {listed : Array Bool} (h : todo n listed = 0) : ∀ i, i < n → listed.getD i false = true := fun i hi => by
  unfold todo at h
  have h1 := List.eq_nil_of_length_eq_zero h
  cases hl : listed.getD i false with
  | true => rfl
  | false =>
    have : i ∈ (List.range n).filter fun i => !listed.getD i false := List.mem_filter.2 ⟨List.mem_range.2 hi, by simp [hl]⟩
    rw [h1] at this
    cases this
theorem todo_pos {n : Nat} {listed : Array Bool} (h : todo n listed ≠ 0) : ∃ i, i < n ∧ listed.getD i false = false ∧ ∀ j, j < i → listed.getD j false = true := by
  have : ∃ i, i < n ∧ listed.getD i false = false := by
    cases hc : (List.range n).filter fun i => !listed.getD i false with
    | nil => unfold todo at h; rw [hc] at h; exact absurd rfl h
    | cons x xs =>
      have hx : x ∈ (List.range n).filter fun i => !listed.getD i false := by rw [hc]; exact List.mem_cons_self ..
      obtain ⟨h1, h2⟩ := List.mem_filter.1 hx
      exact ⟨x, List.mem_range.1 h1, by simpa using h2⟩
  obtain ⟨i, hi, hl⟩ := this
  induction i using Nat.strongRecOn with
  | _ i ih =>
    by_cases hall : ∀ j, j < i → listed.getD j false = true
    · exact ⟨i, hi, hl, hall⟩
    · have ⟨j, hj, hj2⟩ : ∃ j, j < i ∧ listed.getD j false = false := by
        apply Classical.byContradiction
        intro hc
        apply hall
        intro j hj
        cases hlj : listed.getD j false with
        | true => rfl
        | false => exact absurd ⟨j, hj, hlj⟩ hc
      exact ih j hj (by omega) hj2

def onlyNormal (Q : Exit → Act → World → Prop) : Exit → Act → World → Prop := fun x a w => x = .normal ∧ Q .normal a w
/-- The chain runs; some late operations may still come. -/
structure TailInv (P : Program) (ops : Array Oper) (n : Nat) (L : List Nat) (Q : Exit → Act → World → Prop) (l : List Oper) (Φ : List Fx) (a0 : Act) (us : Nat → Value) (t : Nat) (A : Act) (listed : Array Bool) (a : Act) (w : World) : Prop where
  size : listed.size = ops.size
  tn : n ≤ t
  ts : t ≤ ops.size
  head : ∀ j, j < n → L.contains j = false → listed.getD j false = true
  past : ∀ s, n ≤ s → s < t → listed.getD s false = true
  next : ∀ s, t ≤ s → s < ops.size → listed.getD s true = false
  list : wpList P ops (onlyNormal Q) (ops.toList.drop t) A w
  agree : ∀ j v, j < n → Φ[j]? = some (.inl v) → us j = v
  asz : a.tmps.size = A.tmps.size
  sz0 : A.tmps.size = a0.tmps.size
  dfs : a.defers = A.defers
  slots : ∀ s, (∀ j o, j < n → ops[j]? = some o → listed.getD j false = false → o.dst ≠ some s) → a.tmps[s]? = A.tmps[s]?
  late : ∀ j o s, j < n → ops[j]? = some o → listed.getD j false = false → o.dst = some s → A.tmps[s]? = if s < a.tmps.size then some (us j) else none
  kept : ∀ s, (∀ j o, n ≤ j → ops[j]? = some o → o.dst ≠ some s) → A.tmps[s]? = (putAll us 0 l a0).tmps[s]?
theorem lt_of_get {α : Type} {l : List α} {j : Nat} {x : α} (h : l[j]? = some x) : j < l.length := by
  rcases Nat.lt_or_ge j l.length with h' | h'
  · exact h'
  · rw [List.getElem?_eq_none h'] at h; cases h
/-- What an operation looks at, among the slots that the head has written so far. -/
theorem looks_take {n : Nat} {L : List Nat} {l : List Oper} (S : FreeSpec ops n L) (hl : l.length = n) (hlo : ∀ j, j < n → l[j]? = ops[j]?) {us : Nat → Value} {a0 : Act} {i : Nat} {o : Oper} (hin : i < n) (ho : ops[i]? = some o) {t : Tmp} (ht : t ∈ o.looksAt ops) :
    (putAll us 0 (l.take i) a0).tmps[t]? = (putAll us 0 l a0).tmps[t]? := by
  by_cases hex : ∃ j oj, j < n ∧ ops[j]? = some oj ∧ oj.dst = some t
  · obtain ⟨j, oj, hj, hoj, hd⟩ := hex
    obtain ⟨hji, _⟩ := S.look i o j oj t ho hj hoj hd ht
    rw [putAll_at us t (l.take i) 0 a0 j oj (by rw [List.getElem?_take, if_pos hji, hlo j hj]; exact hoj) hd (fun j' o' hjj ho' hne => by
      have hj' : j' < i := by have := lt_of_get ho'; simp at this; omega
      rw [List.getElem?_take, if_pos hj', hlo j' (by omega)] at ho'
      exact S.once j' o' j oj t ho' hj hoj hd (by omega) (.inl (by omega)) hne),
      putAll_at us t l 0 a0 j oj (by rw [hlo j hj]; exact hoj) hd (fun j' o' hjj ho' hne => by
      have hj' := lt_of_get ho'
      rw [hlo j' (by omega)] at ho'
      exact S.once j' o' j oj t ho' hj hoj hd (by omega) (.inl (by omega)) hne)]
  · rw [putAll_other us t (l.take i) 0 a0 (fun j oj hoj hd => by
      have hj' : j < i := by have := lt_of_get hoj; simp at this; omega
      rw [List.getElem?_take, if_pos hj', hlo j (by omega)] at hoj
      exact hex ⟨j, oj, by omega, hoj, hd⟩), putAll_other us t l 0 a0 (fun j oj hoj hd => by
      have hj' := lt_of_get hoj
      rw [hlo j (by omega)] at hoj
      exact hex ⟨j, oj, by omega, hoj, hd⟩)]
theorem wpAny_tail {n : Nat} {L ch : List Nat} {J : Nat → World → Prop} {Φ : List Fx} {a0 : Act} {l : List Oper} {T : Act → World → Prop} {Q : Exit → Act → World → Prop}
    (hB : Region.freeB ops n L = true) (hl : l.length = n) (hlo : ∀ j, j < n → l[j]? = ops[j]?)
    (hob : freeOb P ops L ch J Ev w0 T 0 l Φ a0 (fun _ _ => True) (fun _ => True)) :
    ∀ (m : Nat) (listed : Array Bool) (a : Act) (w : World) (us : Nat → Value) (t : Nat) (A : Act), todo ops.size listed = m → TailInv P ops n L Q l Φ a0 us t A listed a w → wpAny P .any ops Q m listed a w := by
  have S := freeB_spec hB
  intro m
  induction m with
  | zero =>
    intro listed a w us t A hm hi
    have hd := todo_zero hm
    have ht : t = ops.size := by
      rcases Nat.lt_or_ge t ops.size with h | h
      · have h1 := hi.next t (Nat.le_refl _) h
        have h2 := hd t h
        rw [getD_both h1] at h2; cases h2
      · have := hi.ts; omega
    have ea : a = A := by
      have e1 : a.tmps = A.tmps := by
        apply Array.ext_getElem?
        intro s
        exact hi.slots s (fun j o hj ho hl' => by rw [hd j (by have := S.le; omega)] at hl'; cases hl')
      have e2 := hi.dfs
      cases a; cases A; simp only at e1 e2; subst e1; subst e2; rfl
    have hw := hi.list
    rw [ht, show ops.toList.drop ops.size = [] from by simp] at hw
    refine ⟨?_, by rw [ea]; exact hw.2⟩
    apply List.eq_nil_iff_forall_not_mem.2
    intro i hr
    obtain ⟨hun, o, ho, _⟩ := mem_ready.1 hr
    have := hd i (Array.getElem?_eq_some_iff.1 ho).1
    rw [getD_both hun] at this; cases this
  | succ m ih =>
    intro listed a w us t A hm hi
    obtain ⟨i0, hi0, hl0, hall0⟩ := todo_pos (n := ops.size) (listed := listed) (by omega)
    have hsz := hi.size
    have rdy : i0 ∈ Region.ready .any ops listed := mem_ready.2 ⟨getD_in (by omega) hl0, ops[i0]'(by omega), by simp, fun e he hb => hall0 _ (S.down i0 (ops[i0]'(by omega)) (by simp) e he hb)⟩
    refine ⟨fun h => (by rw [h] at rdy; cases rdy), fun i hr => ?_⟩
    obtain ⟨hun, o, ho, hall⟩ := mem_ready.1 hr
    have hun' := getD_both hun
    have hio : i < ops.size := (Array.getElem?_eq_some_iff.1 ho).1
    have hset : ∀ j, j ≠ i → ∀ d, (listed.setIfInBounds i true).getD j d = listed.getD j d := fun j hj d => getD_set_ne d (Ne.symm hj)
    have hself : ∀ d, (listed.setIfInBounds i true).getD i d = true := fun d => by simp [show i < listed.size by omega]
    have htodo : todo ops.size (listed.setIfInBounds i true) = m := by have := todo_set hio (by omega) hun'; omega
    -- what it waits for is there
    have hwt : ∀ j, Region.waitsFor .any ops i j = true → listed.getD j false = true := fun j hw => by
      obtain ⟨oi, hoi, e, hee, hb, hon⟩ := Region.waitsFor_spec hw
      obtain rfl : o = oi := Option.some.inj (ho.symm.trans hoi)
      rw [← hon]; exact hall e hee hb
    have hlook : ∀ s, s ∈ o.looksAt ops → a.tmps[s]? = A.tmps[s]? := fun s hs => hi.slots s (fun j oj hj hoj hlj hd => by
      have := hwt j (S.look i o j oj s ho hj hoj hd hs).2
      rw [this] at hlj; cases hlj)
    by_cases hin : i < n
    · -- a late one
      have hLi : L.contains i = true := by
        cases hc : L.contains i with
        | true => rfl
        | false => have := hi.head i hin hc; rw [this] at hun'; cases hun'
      obtain ⟨h1, _⟩ := freeOb_all us l 0 Φ a0 _ _ hob (fun j v hj he => by rw [Nat.zero_add]; exact hi.agree j v (by omega) he)
      obtain ⟨f, hf, _, hobi⟩ := h1 i (by omega)
      rw [Nat.zero_add] at hobi
      rcases hobi with ⟨_, _, ⟨v, rfl⟩, hobi⟩ | ⟨hc, _⟩
      · have huv := hi.agree i v hin hf
        refine wpOp_of_ob (Ev := Eq) ho (Region.noSelect_spec S.sel i o · · ho) (A := putAll us 0 (l.take i) a0) (fun s hs => ?_) ?_ (hobi o (by rw [hlo i hin]; exact ho) w) (fun u w'' hu hww => ?_)
        · rw [hlook s hs, hi.kept s (fun j oj hj hoj hd => S.apart j oj i o s hoj hj hin ho hLi hd hs), looks_take S hl hlo hin ho hs]
        · rw [hi.asz, hi.sz0, putAll_size]
        · subst hww
          obtain rfl : u = v := hu
          refine ih _ _ w us t A htodo ⟨by simp [hsz], hi.tn, hi.ts, fun j hj hL => ?_, fun s h1 h2 => ?_, fun s h1 h2 => ?_, hi.list, hi.agree, by rw [put_size, hi.asz], hi.sz0, by rw [put_defers', hi.dfs], fun s hs => ?_, fun j oj s hj hoj hlj hd => ?_, hi.kept⟩
          · exact getD_set_true (hi.head j hj hL)
          · exact getD_set_true (hi.past s h1 h2)
          · rw [hset s (by have := hi.tn; omega)]; exact hi.next s h1 h2
          · by_cases hds : o.dst = some s
            · rw [hds, put_eq]
              rw [hi.late i o s hin ho hun' hds, huv]
            · rw [put_ne _ _ _ _ hds]
              exact hi.slots s (fun j oj hj hoj hlj => by
                by_cases hji : j = i
                · subst hji
                  obtain rfl : o = oj := Option.some.inj (ho.symm.trans hoj)
                  exact hds
                · exact hs j oj hj hoj (by rw [hset j hji]; exact hlj))
          · have hji : j ≠ i := fun h => by subst h; rw [hself] at hlj; cases hlj
            rw [hset j hji] at hlj
            rw [put_size]
            exact hi.late j oj s hj hoj hlj hd
      · rw [hc] at hLi; cases hLi
    · -- the chain's next
      have hit : i = t := by
        rcases Nat.lt_trichotomy i t with h | h | h
        · have := hi.past i (by omega) h; rw [this] at hun'; cases hun'
        · exact h
        · have h1 := hwt (i - 1) (S.chain i (by have := hi.tn; omega) hio)
          rw [getD_both (hi.next (i - 1) (by omega) (by omega))] at h1; cases h1
      subst hit
      have hlist := hi.list
      rw [List.drop_eq_getElem_cons (by simpa using hio)] at hlist
      have hoi : ops.toList[i]'(by simpa using hio) = o := by
        have := Array.getElem?_eq_some_iff.1 ho
        obtain ⟨h, he⟩ := this
        simpa using he
      rw [hoi] at hlist
      have next : ∀ (a1 A1 : Act) v w'', a1.tmps = a.tmps → A1.tmps = A.tmps → a1.defers = A1.defers → wpList P ops (onlyNormal Q) (ops.toList.drop (i + 1)) (A1.put o.dst v) w'' → wpAny P .any ops Q m (listed.setIfInBounds i true) (a1.put o.dst v) w'' := fun a1 A1 v w'' e1 e2 e3 hL => by
        refine ih _ _ w'' us (i + 1) (A1.put o.dst v) htodo ⟨by simp [hsz], by have := hi.tn; omega, by omega, fun j hj hLj => getD_set_true (hi.head j hj hLj), fun s h1 h2 => ?_, fun s h1 h2 => ?_, hL, hi.agree, by rw [put_size, put_size, e1, e2, hi.asz], by rw [put_size, e2, hi.sz0], by rw [put_defers', put_defers', e3], fun s hs => ?_, fun j oj s hj hoj hlj hd => ?_, fun s hs => ?_⟩
        · by_cases hsi : s = i
          · subst hsi; exact hself false
          · rw [hset s hsi]; exact hi.past s h1 (by omega)
        · rw [hset s (by omega)]; exact hi.next s (by omega) h2
        · by_cases hds : o.dst = some s
          · rw [hds, put_eq, put_eq, e1, e2, hi.asz]
          · rw [put_ne _ _ _ _ hds, put_ne _ _ _ _ hds, e1, e2]
            exact hi.slots s (fun j oj hj hoj hlj => hs j oj hj hoj (by rw [hset j (by omega)]; exact hlj))
        · rw [hset j (by omega)] at hlj
          have hLj : L.contains j = true := by
            cases hc : L.contains j with
            | true => rfl
            | false => have := hi.head j hj hc; rw [this] at hlj; cases hlj
          rw [put_ne _ _ _ _ (S.once i o j oj s ho hj hoj hd (by omega) (.inr hLj)), put_size, e1, e2]
          exact hi.late j oj s hj hoj hlj hd
        · rw [put_ne _ _ _ _ (hs i o (by omega) ho), e2]
          exact hi.kept s hs
      have he : execOp a.eval o = execOp A.eval o := execOp_congr o (fun cs b => Region.noSelect_spec S.sel i o cs b ho) fun x hx => by
        cases x with
        | tmp s =>
          have := hlook s (List.mem_append_left _ (List.mem_filterMap.2 ⟨.tmp s, by simpa using hx, rfl⟩))
          simp only [Act.eval, Array.getD_eq_getD_getElem?, this]
        | _ => rfl
      have hwn : Region.wanted o (yielded ops a.tmps) = Region.wanted o (yielded ops A.tmps) := by
        unfold Region.wanted
        cases hg : o.guard with
        | none => rfl
        | some gw =>
          obtain ⟨g, want⟩ := gw
          have hy : yielded ops a.tmps g = yielded ops A.tmps g := by
            unfold yielded
            cases ht : (ops[g]?).bind (·.dst) with
            | none => rfl
            | some s => simp only [Option.bind_some]; rw [hlook s (by simp [Oper.looksAt, hg, ht])]
          simp only [hy]
      unfold wpOp
      simp only [ho]
      simp only [wpList] at hlist
      rw [hwn]
      split
      · rename_i hw1
        rw [if_pos hw1] at hlist
        rcases hlist with h | ⟨_, a1, w1, h2, _⟩
        · left
          unfold Oper.wp at h ⊢
          rw [he]
          generalize (execOp A.eval o).run P w = r at h
          cases r with
          | ok x w1 =>
            cases x <;> simp only [Oper.upon] at h ⊢
            case value v => exact next a A v w1 rfl rfl hi.dfs h
            case skip => exact next a A undef w1 rfl rfl hi.dfs h
            case defer d => exact next { a with defers := d :: a.defers } { A with defers := d :: A.defers } undef w1 rfl rfl (by rw [hi.dfs]) h
            case enter f args =>
              refine h.mono fun e w2 he => ?_
              cases e with
              | returned v => exact next a A v w2 rfl rfl hi.dfs he
              | panicked c => exact absurd he.1 (by simp)
              | outgrown => obtain ⟨a1, w1, h2, _⟩ := he; exact absurd h2 (by simp)
            case row r args => exact h.mono fun v w2 he => next a A v w2 rfl rfl hi.dfs he
          | halt x w1 => cases x <;> simp only [Oper.upon] at h ⊢; exact absurd h.1 (by simp)
        · exact absurd h2 (by simp)
      · rename_i hw1
        rw [if_neg hw1] at hlist
        exact next a A undef w rfl rfl hi.dfs hlist

theorem ch_mono (ch : List Nat) (hC : Region.chB ops ch = true) : ∀ (d s a b : Nat), ch[s]? = some a → ch[s + d + 1]? = some b → a < b := by
  intro d
  induction d with
  | zero => intro s a b h1 h2; exact (chB_spec ch hC s a b h1 h2).1
  | succ d ih =>
    intro s a b h1 h2
    have hlt : s + (d + 1) + 1 < ch.length := lt_of_get h2
    have h3 : ch[s + d + 1]? = some ch[s + d + 1] := by simp [show s + d + 1 < ch.length by omega]
    have h4 := ih s a _ h1 h3
    have h5 := (chB_spec ch hC (s + d + 1) _ b h3 (by rwa [show s + d + 1 + 1 = s + (d + 1) + 1 by omega])).1
    omega
theorem jat_uniq (ch : List Nat) (hC : Region.chB ops ch = true) (j s c : Nat) (h1 : ch[j]? = some c) (h2 : ch[s]? = some c) : j = s := by
  rcases Nat.lt_trichotomy j s with h | h | h
  · obtain ⟨d, rfl⟩ : ∃ d, s = j + d + 1 := ⟨s - j - 1, by omega⟩
    have := ch_mono ch hC d j c c h1 h2
    omega
  · exact h
  · obtain ⟨d, rfl⟩ : ∃ d, j = s + d + 1 := ⟨j - s - 1, by omega⟩
    have := ch_mono ch hC d s c c h2 h1
    omega
theorem toTail {n : Nat} {L ch : List Nat} {J : Nat → World → Prop} {Φ : List Fx} {a0 : Act} {l : List Oper} {Q : Exit → Act → World → Prop} (S : FreeSpec ops n L) (hl : l.length = n) (hlo : ∀ j, j < n → l[j]? = ops[j]?)
    (hob : freeOb P ops L ch J Ev w0 (fun a' w' => wpList P ops (onlyNormal Q) (ops.toList.drop n) a' w') 0 l Φ a0 (fun _ _ => True) (fun _ => True))
    {listed : Array Bool} {a : Act} {w : World} {us : Nat → Value} (hv : HeadInv .any ops n listed) (hi : FreeInv ops n ch J Ev w0 Φ a0 us listed a w) (hd : ∀ j, j < n → L.contains j = false → listed.getD j false = true) (hch : ∀ c ∈ ch, c < n ∧ L.contains c = false) :
    TailInv P ops n L Q l Φ a0 us n (putAll us 0 l a0) listed a w := by
  have hag : ∀ j v, j < l.length → Φ[j]? = some (.inl v) → us (0 + j) = v := fun j v hj he => by rw [Nat.zero_add]; exact hi.agree j v (by omega) he
  obtain ⟨h1, h2⟩ := freeOb_all us l 0 Φ a0 _ _ hob hag
  have hJ : J ch.length w := by
    obtain ⟨s, hs, h4, h5⟩ := hi.jj
    have : s = ch.length := by
      rcases Nat.lt_or_ge s ch.length with h | h
      · have h6 := (h4 s ch[s] (by simp [h])).1 (hd _ (hch _ (List.getElem_mem h)).1 (hch _ (List.getElem_mem h)).2)
        omega
      · omega
    rwa [this] at h5
  have h3 := h2 w hi.ev hJ trivial (fun j φ hj he => by
    rw [Nat.zero_add]
    refine hi.facts j φ (by omega) he (hd j (by omega) ?_)
    obtain ⟨f, hf, _, hf2⟩ := h1 j hj
    rw [Nat.zero_add] at hf2
    rcases hf2 with ⟨_, _, ⟨v, rfl⟩, _⟩ | ⟨h, _⟩
    · rw [hf] at he; cases he
    · exact h)
  refine ⟨hv.size, Nat.le_refl _, S.le, hd, fun s h1 h2 => by omega, fun s h1 h2 => hv.tail s h1 h2, h3, hi.agree, by rw [hi.size, putAll_size], putAll_size us l 0 a0, by rw [hi.defers, putAll_defers], fun s hs => ?_, fun j o s hj ho hlj hd' => ?_, fun _ _ => rfl⟩
  · by_cases hex : ∃ j oj, j < n ∧ ops[j]? = some oj ∧ oj.dst = some s
    · obtain ⟨j, oj, hj, hoj, hds⟩ := hex
      have hlj : listed.getD j false = true := by
        cases hl' : listed.getD j false with
        | true => rfl
        | false => exact absurd hds (hs j oj hj hoj hl')
      rw [hi.done j oj s hj hoj hds hlj, putAll_at us s l 0 a0 j oj (by rw [hlo j hj]; exact hoj) hds (fun j' o' hjj ho' hne => by
        have hj' := lt_of_get ho'
        rw [hlo j' (by omega)] at ho'
        exact S.once j' o' j oj s ho' hj hoj hds (by omega) (.inl (by omega)) hne), Nat.zero_add]
    · rw [hi.other s (fun j oj hj hoj _ hds => hex ⟨j, oj, hj, hoj, hds⟩), putAll_other us s l 0 a0 (fun j oj hoj hds => by
        have hj' := lt_of_get hoj
        rw [hlo j (by omega)] at hoj
        exact hex ⟨j, oj, by omega, hoj, hds⟩)]
  · rw [putAll_at us s l 0 a0 j o (by rw [hlo j hj]; exact ho) hd' (fun j' o' hjj ho' hne => by
      have hj' := lt_of_get ho'
      rw [hlo j' (by omega)] at ho'
      exact S.once j' o' j o s ho' hj ho hd' (by omega) (.inl (by omega)) hne), Nat.zero_add, hi.size]
theorem wpAny_free {n : Nat} {L ch : List Nat} {J : Nat → World → Prop} {Φ : List Fx} {a0 : Act} {l : List Oper} {Q : Exit → Act → World → Prop} (htr : ∀ w w' w'', Ev w w' → Ev w' w'' → Ev w w'')
    (hB : Region.freeB ops n L = true) (hC : Region.chB ops ch = true) (hch : ∀ c ∈ ch, c < n ∧ L.contains c = false) (hl : l.length = n) (hlo : ∀ j, j < n → l[j]? = ops[j]?)
    (hob : freeOb P ops L ch J Ev w0 (fun a' w' => wpList P ops (onlyNormal Q) (ops.toList.drop n) a' w') 0 l Φ a0 (fun _ _ => True) (fun _ => True)) :
    ∀ (m : Nat) (listed : Array Bool) (a : Act) (w : World) (us : Nat → Value), todo ops.size listed = m → HeadInv .any ops n listed → FreeInv ops n ch J Ev w0 Φ a0 us listed a w → wpAny P .any ops Q m listed a w := by
  have S := freeB_spec hB
  have hn := S.le
  intro m
  induction m with
  | zero =>
    intro listed a w us hm hv hi
    refine wpAny_tail hB hl hlo hob 0 listed a w us n (putAll us 0 l a0) hm ?_
    have hd := todo_zero hm
    exact toTail S hl hlo hob hv hi (fun j hj _ => hd j (by omega)) hch
  | succ m ih =>
    intro listed a w us hm hv hi
    by_cases hex : ∃ j, j < n ∧ L.contains j = false ∧ listed.getD j false = false
    · obtain ⟨i1, hi1, hL1, hl1⟩ := hex
      obtain ⟨i0, hi0, hl0, hall0⟩ := todo_pos (n := ops.size) (listed := listed) (by omega)
      have hsz : listed.size = ops.size := hv.size
      have rdy : i0 ∈ Region.ready .any ops listed := mem_ready.2 ⟨getD_in (by omega) hl0, ops[i0]'(by omega), by simp, fun e he hb => hall0 _ (S.down i0 (ops[i0]'(by omega)) (by simp) e he hb)⟩
      refine ⟨fun h => (by rw [h] at rdy; cases rdy), fun i hr => ?_⟩
      obtain ⟨hun, o, ho, hall⟩ := mem_ready.1 hr
      have hun' := getD_both hun
      have hio : i < ops.size := (Array.getElem?_eq_some_iff.1 ho).1
      have hwt : ∀ j, Region.waitsFor .any ops i j = true → listed.getD j false = true := fun j hw => by
        obtain ⟨oi, hoi, e, hee, hb, hon⟩ := Region.waitsFor_spec hw
        obtain rfl : o = oi := Option.some.inj (ho.symm.trans hoi)
        rw [← hon]; exact hall e hee hb
      have hin : i < n := by
        rcases Nat.lt_or_ge i n with h | h
        · exact h
        · exfalso
          have hni : i = n := by
            rcases Nat.lt_or_ge n i with h' | h'
            · have h1 := hwt (i - 1) (S.chain i h' hio)
              rw [getD_both (hv.tail (i - 1) (by omega) (by omega))] at h1; cases h1
            · omega
          subst hni
          -- the greatest of those that are not there: the chain waits for it
          have key : ∀ d j, i - j = d → j < i → L.contains j = false → listed.getD j false = false → False := by
            intro d
            induction d using Nat.strongRecOn with
            | _ d ihd =>
              intro j hd hj hLj hlj
              obtain ⟨k, h1, h2, h3, h4⟩ := S.sink hio j hj hLj
              by_cases hki : k = i
              · subst hki
                rw [hwt j h4] at hlj; cases hlj
              · have hLk : L.contains k = false := by
                  rcases h3 with h3 | h3
                  · exact absurd h3 hki
                  · exact h3
                cases hlk : listed.getD k false with
                | false => exact ihd (i - k) (by omega) k rfl (by omega) hLk hlk
                | true =>
                  obtain ⟨ok, hok, e, hee, hb, hon⟩ := Region.waitsFor_spec h4
                  have := hv.closed k ok hok hlk e hee hb
                  rw [hon, hlj] at this; cases this
          exact key _ i1 rfl hi1 hL1 hl1
      obtain ⟨h1, _⟩ := freeOb_all us l 0 Φ a0 _ _ hob (fun j v hj he => by rw [Nat.zero_add]; exact hi.agree j v (by omega) he)
      obtain ⟨f, hf, hst, hobi⟩ := h1 i (by omega)
      have hstab : ∀ j φ, j < n → Φ[j]? = some (.inr φ) → ∀ u w w', Ev w w' → φ u w → φ u w' := fun j φ hj he => by
        obtain ⟨f', hf', hst', _⟩ := h1 j (by omega)
        exact hst' φ (Option.some.inj (hf'.symm.trans he))
      have hlook : ∀ t, t ∈ o.looksAt ops → a.tmps[t]? = (putAll us 0 (l.take i) a0).tmps[t]? := fun t ht => by
        rw [looks_take S hl hlo hin ho ht]
        by_cases hex : ∃ j oj, j < n ∧ ops[j]? = some oj ∧ oj.dst = some t
        · obtain ⟨j, oj, hj, hoj, hd⟩ := hex
          obtain ⟨hji, hw⟩ := S.look i o j oj t ho hj hoj hd ht
          rw [hi.done j oj t hj hoj hd (hwt j hw), putAll_at us t l 0 a0 j oj (by rw [hlo j hj]; exact hoj) hd (fun j' o' hjj ho' hne => by
            have hj' := lt_of_get ho'
            rw [hlo j' (by omega)] at ho'
            exact S.once j' o' j oj t ho' hj hoj hd (by omega) (.inl (by omega)) hne), Nat.zero_add]
        · rw [hi.other t (fun j oj hj hoj _ hd => hex ⟨j, oj, hj, hoj, hd⟩), putAll_other us t l 0 a0 (fun j oj hoj hd => by
            have hj' := lt_of_get hoj
            rw [hlo j (by omega)] at hoj
            exact hex ⟨j, oj, by omega, hoj, hd⟩)]
      have hset : ∀ j, j ≠ i → (listed.setIfInBounds i true).getD j false = listed.getD j false := fun j hj => getD_set_ne false (Ne.symm hj)
      -- where the chain stands
      have jat : ∀ s, ch.idxOf? i = some s → ∀ s', s' ≤ ch.length → (∀ j c, ch[j]? = some c → (listed.getD c false = true ↔ j < s')) → s' = s := fun s hs s' hs' h4 => by
        have hcs : ch[s]? = some i := by
          obtain ⟨h5, h6, _⟩ := List.findIdx?_eq_some_iff_getElem.1 hs
          simp only [beq_iff_eq] at h6
          rw [List.getElem?_eq_getElem h5, h6]
        have h7 := h4 s i hcs
        rw [hun'] at h7
        have h8 : ¬ s < s' := fun h => by have := h7.2 h; cases this
        cases s with
        | zero => omega
        | succ s =>
          have hlt : s + 1 < ch.length := lt_of_get hcs
          have h9 : ch[s]? = some ch[s] := by simp [show s < ch.length by omega]
          obtain ⟨_, h10⟩ := chB_spec ch hC s _ _ h9 hcs
          have := (h4 s _ h9).1 (hwt _ h10)
          omega
      have jp : jPre J ch i w := fun s hs => by
        obtain ⟨s', hs', h4, h5⟩ := hi.jj
        rwa [jat s hs s' hs' h4] at h5
      have jnext : ∀ (u : Value) (w'' : World), ((w = w'' ∧ ch.idxOf? i = none) ∨ (Ev w w'' ∧ jPost J ch i w w'')) → ∃ s, s ≤ ch.length ∧ (∀ j c, ch[j]? = some c → ((listed.setIfInBounds i true).getD c false = true ↔ j < s)) ∧ J s w'' := fun u w'' hev => by
        obtain ⟨s', hs', h4, h5⟩ := hi.jj
        cases hx : ch.idxOf? i with
        | none =>
          have hni : ∀ (j : Nat) (c : Nat), ch[j]? = some c → c ≠ i := fun j c hj hci => by
            have := List.findIdx?_eq_none_iff.1 hx c (List.mem_of_getElem? hj)
            simp [hci] at this
          refine ⟨s', hs', fun j c hj => by rw [hset c (hni j c hj)]; exact h4 j c hj, ?_⟩
          rcases hev with ⟨rfl, _⟩ | ⟨_, hev⟩
          · exact h5
          · exact hev.2 hx s' h5
        | some s =>
          have e1 := jat s hx s' hs' h4
          subst e1
          have hcs : ch[s']? = some i := by
            obtain ⟨h5, h6, _⟩ := List.findIdx?_eq_some_iff_getElem.1 hx
            simp only [beq_iff_eq] at h6
            rw [List.getElem?_eq_getElem h5, h6]
          have hlt : s' < ch.length := lt_of_get hcs
          refine ⟨s' + 1, by omega, fun j c hj => ?_, ?_⟩
          · by_cases hci : c = i
            · subst hci
              have hself : (listed.setIfInBounds c true).getD c false = true := by simp [show c < listed.size by omega]
              rw [hself]
              refine ⟨fun _ => ?_, fun _ => rfl⟩
              have := jat_uniq ch hC j s' c hj hcs
              omega
            · rw [hset c hci, h4 j c hj]
              constructor
              · intro h; omega
              · intro h
                rcases Nat.lt_or_ge j s' with h' | h'
                · exact h'
                · have : j = s' := by omega
                  subst this
                  rw [hcs] at hj
                  exact absurd (Option.some.inj hj).symm hci
          · rcases hev with ⟨_, h⟩ | ⟨_, hev⟩
            · rw [hx] at h; cases h
            · exact hev.1 s' hx
      have next : ∀ u w'', f.is u w'' → ((w = w'' ∧ ch.idxOf? i = none) ∨ (Ev w w'' ∧ jPost J ch i w w'')) → wpAny P .any ops Q m (listed.setIfInBounds i true) (a.put o.dst u) w'' := fun u w'' hu hev => by
        refine ih _ _ w'' (fun j => if j = i then u else us j) (by have := todo_set hio (by omega) hun'; omega) (hv.set hr hin) ⟨by rcases hev with ⟨rfl, _⟩ | hev; exact hi.ev; exact htr _ _ _ hi.ev hev.1, jnext u w'' hev, ?_, ?_, ?_, ?_, ?_, ?_⟩
        · intro j v hj he
          by_cases hji : j = i
          · subst hji
            simp only [if_true]
            have : f = .inl v := Option.some.inj (hf.symm.trans he)
            subst this
            exact hu
          · simp only [if_neg hji]; exact hi.agree j v hj he
        · rw [put_size, hi.size]
        · rw [put_defers', hi.defers]
        · intro j oj t hj hoj hd hlj
          by_cases hji : j = i
          · subst hji
            obtain rfl : o = oj := Option.some.inj (ho.symm.trans hoj)
            rw [hd, put_eq, hi.size]; simp
          · rw [put_ne _ _ _ _ (S.once i o j oj t ho hj hoj hd hji (.inl hin)), if_neg hji]
            exact hi.done j oj t hj hoj hd (by rwa [hset j hji] at hlj)
        · intro t hno
          have h1 : o.dst ≠ some t := hno i o hin ho (by simp [show i < listed.size by omega])
          rw [put_ne _ _ _ _ h1]
          exact hi.other t (fun j oj hj hoj hlj => hno j oj hj hoj (getD_set_true hlj))
        · intro j φ hj he hlj
          by_cases hji : j = i
          · subst hji
            simp only [if_true]
            have : f = .inr φ := Option.some.inj (hf.symm.trans he)
            subst this
            exact hu
          · simp only [if_neg hji]
            have h2 := hi.facts j φ hj he (by rwa [hset j hji] at hlj)
            rcases hev with ⟨rfl, _⟩ | hev
            · exact h2
            · exact hstab j φ hj he _ _ _ hev.1 h2
      rw [Nat.zero_add] at hobi
      rcases hobi with ⟨_, hn1, _, hobi⟩ | ⟨_, hobi⟩
      · exact wpOp_of_ob ho (fun cs b => Region.noSelect_spec S.sel i o cs b ho) hlook (by rw [hi.size, putAll_size]) (hobi o (by rw [hlo i hin]; exact ho) w) (fun u w'' hu hev => next u w'' hu (.inl ⟨hev, hn1⟩))
      · exact wpOp_of_ob ho (fun cs b => Region.noSelect_spec S.sel i o cs b ho) hlook (by rw [hi.size, putAll_size]) (hobi o (by rw [hlo i hin]; exact ho) w hi.ev jp trivial (fun j φ hj he hw => by
          rw [Nat.zero_add] at hw ⊢
          exact hi.facts j φ (by omega) he (hwt j (by simpa using hw)))) (fun u w'' hu hev => next u w'' hu (.inr hev))
    · refine wpAny_tail hB hl hlo hob (m + 1) listed a w us n (putAll us 0 l a0) hm (toTail S hl hlo hob hv hi (fun j hj hL => ?_) hch)
      cases hlj : listed.getD j false with
      | true => rfl
      | false => exact absurd ⟨j, hj, hL, hlj⟩ hex

/-- A drawn region: the first n operations in whatever order, each by what it owes; then the rest in order (the operations of L may come amid the rest). J s: what holds behind the first s operations of the chain ch. -/
theorem wp_region_chain {id : Nat} {Q : Exit → Act → World → Prop} {a : Act} {w : World} {l : List Oper} (n : Nat) (L ch : List Nat) (J : Nat → World → Prop) (Ev : World → World → Prop) (Φ : List Fx) (hm : P.follows .mixedOrders = true) (hB : (Region.freeB l.toArray n L && Region.chB l.toArray ch && ch.all fun c => decide (c < n) && !L.contains c) = true)
    (htr : ∀ w w' w'', Ev w w' → Ev w' w'' → Ev w w'') (h0 : Ev w { w with drawn := w.drawn + 1 }) (hJ : J 0 { w with drawn := w.drawn + 1 })
    (h : freeOb P l.toArray L ch J Ev w (fun a' w' => wpList P l.toArray (onlyNormal Q) (l.drop n) a' w') 0 (l.take n) Φ a (fun _ _ => True) (fun _ => True)) : (Code.region id l.toArray true).wp P Q a w := by
  simp only [Bool.and_eq_true] at hB
  obtain ⟨⟨hB, hC⟩, hch⟩ := hB
  have S := freeB_spec hB
  have hn' : n ≤ l.length := by have := S.le; simpa using this
  refine wp_region_any hm ?_
  have hz : todo l.toArray.size (Array.replicate l.toArray.size false) = l.toArray.size := by
    unfold todo
    rw [List.filter_eq_self.2 (fun i _ => by rw [getD_replicate_false]; rfl), List.length_range]
  exact wpAny_free (Q := Q) htr hB hC (fun c hc => by have := List.all_eq_true.1 hch c hc; simpa using this) (l := l.take n) (by simp; omega) (fun j hj => by rw [List.getElem?_take, if_pos hj]; simp) h l.toArray.size (Array.replicate l.toArray.size false) a { w with drawn := w.drawn + 1 } (fun j => match Φ[j]? with | some (.inl v) => v | _ => undef) hz
    ⟨by simp, fun j oj _ hl => (by rw [getD_replicate_false] at hl; cases hl), fun t _ ht => getD_in (by simpa using ht) (getD_replicate_false _ _)⟩
    ⟨h0, ⟨0, Nat.zero_le _, fun j c _ => by rw [getD_replicate_false]; simp, hJ⟩, fun j v _ he => by simp only [he], rfl, rfl, fun j o t _ _ _ hl => (by rw [getD_replicate_false] at hl; cases hl), fun t _ => rfl, fun j φ _ _ hl => (by rw [getD_replicate_false] at hl; cases hl)⟩
end
end Go.Salt
namespace Go.Salt
open Go.RowKit
section
variable {P : Program} {ops : Array Oper} {Ev : World → World → Prop} {w0 : World} {L ch : List Nat} {J : Nat → World → Prop} {T : Act → World → Prop} {k : Nat} {o : Oper} {l : List Oper} {Φ : List Fx} {a : Act} {F : Nat → World → Prop} {G : World → Prop}
theorem free_val {v : Value} (hL : L.contains k = false) (h1 : ∀ w', Ev w0 w' → jPre J ch k w' → F k w' → opOb P ops (fun w w' => Ev w w' ∧ jPost J ch k w w') a o (fun u _ => u = v) w') (h2 : freeOb P ops L ch J Ev w0 T (k + 1) l Φ (a.put o.dst v) F G) : freeOb P ops L ch J Ev w0 T k (o :: l) (.inl v :: Φ) a F G := ⟨.inr ⟨hL, h1⟩, h2⟩
theorem free_late {v : Value} (hL : L.contains k = true) (hc : ch.idxOf? k = none) (h1 : ∀ w', opOb P ops Eq a o (fun u _ => u = v) w') (h2 : freeOb P ops L ch J Ev w0 T (k + 1) l Φ (a.put o.dst v) F G) : freeOb P ops L ch J Ev w0 T k (o :: l) (.inl v :: Φ) a F G := ⟨.inl ⟨hL, hc, h1⟩, h2⟩
theorem free_has {φ : Value → World → Prop} (hL : L.contains k = false) (h0 : ∀ u w w', Ev w w' → φ u w → φ u w') (h1 : ∀ w', Ev w0 w' → jPre J ch k w' → F k w' → opOb P ops (fun w w' => Ev w w' ∧ jPost J ch k w w') a o φ w')
    (h2 : ∀ u, freeOb P ops L ch J Ev w0 T (k + 1) l Φ (a.put o.dst u) (fun i w => F i w ∧ (Region.waitsFor .any ops i k = true → φ u w)) (fun w => G w ∧ φ u w)) : freeOb P ops L ch J Ev w0 T k (o :: l) (.inr φ :: Φ) a F G := ⟨hL, h0, h1, h2⟩
theorem free_end (h : ∀ w', Ev w0 w' → J ch.length w' → G w' → T a w') : freeOb P ops L ch J Ev w0 T k [] Φ a F G := h
/-- No chain. -/
def noJ : Nat → World → Prop := fun _ _ => True
theorem noJ_post (k : Nat) (w w' : World) : jPost noJ [] k w w' := ⟨(fun s h => by simp at h), fun _ _ _ => trivial⟩
theorem j_other {w w' : World} (h : ch.idxOf? k = none) (hk : ∀ s, J s w → J s w') : jPost J ch k w w' := ⟨(fun s hs => by rw [h] at hs; cases hs), fun _ => hk⟩
theorem j_this {w w' : World} (s : Nat) (h : ch.idxOf? k = some s) (hk : J (s + 1) w') : jPost J ch k w w' := ⟨(fun t ht => by rw [h] at ht; cases ht; exact hk), fun hn => by rw [h] at hn; cases hn⟩
theorem normal_of {Q : Exit → Act → World → Prop} {w : World} (h : Q .normal a w) : onlyNormal Q .normal a w := ⟨rfl, h⟩
theorem below_draw (w : World) : Below w.heap.size w { w with drawn := w.drawn + 1 } := (Below.refl w.heap.size w).drew
theorem below_trans {w w' w'' : World} (h : Below w.heap.size w w') (h' : Below w'.heap.size w' w'') : Below w.heap.size w w'' := h.trans (h'.mono h.size)
end
end Go.Salt
