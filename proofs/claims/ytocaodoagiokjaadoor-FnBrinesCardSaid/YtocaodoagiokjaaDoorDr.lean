/- A checker of draws: it goes over a function's code with types and bounds in place of values, rounds of loops one by one; what it finds is so. Part one: words. No conditions. -/
import Derived.Test.YtocaodoagiokjaaDoorCur
import Derived.Test.YtocaodoagiokjaaDoorFree
set_option linter.unusedSimpArgs false
set_option linter.unusedVariables false
namespace Go.Dr
open Go.RowKit Go.Sort Go.Salt Go.Proofs.YtocaodoagiokjaaDoor

/-- What a cell holds. -/
inductive CT | int | str
  deriving DecidableEq
def CT.ok : CT → Value → Prop
  | .int, v => ∃ z : Int, v = .int .i64 z ∧ -9223372036854775808 ≤ z ∧ z ≤ 9223372036854775807
  | .str, v => ∃ s : ByteArray, v = .string s ∧ s.size ≤ 100
theorem CT.ok_one : ∀ {c : CT} {v : Value}, c.ok v → v.oneCell' = true
  | .int, _, ⟨_, e, _⟩ => by subst e; rfl
  | .str, _, ⟨_, e, _⟩ => by subst e; rfl
theorem CT.ok_cells : ∀ {c : CT} {v : Value}, c.ok v → v.cells = #[v]
  | .int, _, ⟨_, e, _⟩ => by subst e; rfl
  | .str, _, ⟨_, e, _⟩ => by subst e; rfl
/-- The cells cs, element after element of the make ct. -/
def TyC (ct : List CT) (cs : Array Value) : Prop := ∀ (i : Nat) (v : Value), cs[i]? = some v → ∃ c, ct[i % ct.length]? = some c ∧ c.ok v
theorem mod_at {L i o : Nat} (h : o < L) : (i * L + o) % L = o := by rw [Nat.add_comm, Nat.add_mul_mod_self_right, Nat.mod_eq_of_lt h]
theorem sub_at {ct ct' : List CT} {o : Nat} (e : (ct.drop o).take ct'.length = ct') {j : Nat} {c : CT} (h : ct'[j]? = some c) : ct[o + j]? = some c := by
  rw [← e, List.getElem?_take] at h
  split at h
  · rwa [List.getElem?_drop] at h
  · cases h
theorem fit_lt {m i L o n : Nat} (hi : i < m) (ho : o + n ≤ L) : i * L + o + n ≤ m * L := by
  have : (i + 1) * L ≤ m * L := Nat.mul_le_mul_right L hi
  rw [Nat.add_mul] at this
  omega
theorem TyC.read {ct ct' : List CT} {cs : Array Value} {m i o : Nat} (h : TyC ct cs) (hm : cs.size = m * ct.length) (hi : i < m) (ho : o + ct'.length ≤ ct.length) (e : (ct.drop o).take ct'.length = ct') :
    ∃ vs : List Value, vs.length = ct'.length ∧ (∀ j v, vs[j]? = some v → cs[i * ct.length + o + j]? = some v) ∧ TyC ct' vs.toArray := by
  have hf := fit_lt hi ho
  refine ⟨(cs.toList.drop (i * ct.length + o)).take ct'.length, by simp; omega, fun j v hj => ?_, fun j v hj => ?_⟩
  · rw [List.getElem?_take] at hj
    split at hj
    · rwa [List.getElem?_drop, Array.getElem?_toList] at hj
    · cases hj
  · simp only [List.getElem?_toArray] at hj
    rw [List.getElem?_take] at hj
    split at hj
    · rename_i hlt
      rw [List.getElem?_drop, Array.getElem?_toList] at hj
      obtain ⟨c, hc, hok⟩ := h _ _ hj
      refine ⟨c, ?_, hok⟩
      rw [Nat.add_assoc, mod_at (by omega)] at hc
      rw [Nat.mod_eq_of_lt hlt]
      rw [← e, List.getElem?_take, if_pos hlt, List.getElem?_drop]
      exact hc
    · cases hj
/-- New cells, of the make that is due there. -/
def Due (ct : List CT) (p : Nat) (news : List Value) : Prop := ∀ j v, news[j]? = some v → ∃ c, ct[(p + j) % ct.length]? = some c ∧ c.ok v
theorem Due.one {ct : List CT} {p : Nat} {news : List Value} (h : Due ct p news) : ∀ u ∈ news, u.oneCell' = true := fun u hu => by
  obtain ⟨j, hj, e⟩ := List.mem_iff_getElem.1 hu
  obtain ⟨c, _, hok⟩ := h j u (by rw [List.getElem?_eq_getElem hj, e])
  exact CT.ok_one hok
theorem Due.sub {ct ct' : List CT} {i o : Nat} {vs : List Value} (h : TyC ct' vs.toArray) (hl : vs.length = ct'.length) (ho : o + ct'.length ≤ ct.length) (e : (ct.drop o).take ct'.length = ct') : Due ct (i * ct.length + o) vs := fun j v hj => by
  have hlt : j < ct'.length := by rw [← hl]; exact (List.getElem?_eq_some_iff.1 hj).1
  obtain ⟨c, hc, hok⟩ := h j v (by simpa using hj)
  rw [Nat.mod_eq_of_lt hlt] at hc
  exact ⟨c, by rw [Nat.add_assoc, mod_at (by omega)]; exact sub_at e hc, hok⟩
theorem Due.of {ct : List CT} {i : Nat} {vs : List Value} (h : TyC ct vs.toArray) : Due ct (i * ct.length) vs := fun j v hj => by
  obtain ⟨c, hc, hok⟩ := h j v (by simpa using hj)
  exact ⟨c, by rw [Nat.add_comm, Nat.add_mul_mod_self_right]; exact hc, hok⟩
theorem TyC.write {ct : List CT} {cs : Array Value} {p : Nat} {news : List Value} (h : TyC ct cs) (hd : Due ct p news) (hp : p + news.length ≤ cs.size) :
    TyC ct (cs.toList.take p ++ news ++ cs.toList.drop (p + news.length)).toArray := fun i v hv => by
  simp only [List.getElem?_toArray] at hv
  rw [List.append_assoc] at hv
  have hpl : (cs.toList.take p).length = p := by simp; omega
  by_cases h1 : i < p
  · rw [List.getElem?_append_left (by omega), List.getElem?_take, if_pos h1, Array.getElem?_toList] at hv
    exact h i v hv
  · rw [List.getElem?_append_right (by omega), hpl] at hv
    by_cases h2 : i - p < news.length
    · rw [List.getElem?_append_left h2] at hv
      have := hd _ _ hv
      rwa [show p + (i - p) = i by omega] at this
    · rw [List.getElem?_append_right (by omega), List.getElem?_drop, Array.getElem?_toList, show p + news.length + (i - p - news.length) = i by omega] at hv
      exact h i v hv
theorem write_size {cs : Array Value} {p : Nat} {news : List Value} (hp : p + news.length ≤ cs.size) : (cs.toList.take p ++ news ++ cs.toList.drop (p + news.length)).toArray.size = cs.size := by
  simp; omega
theorem TyC.append {ct : List CT} {xs ys : Array Value} {m : Nat} (h : TyC ct xs) (h' : TyC ct ys) (hm : xs.size = m * ct.length) : TyC ct (xs ++ ys) := fun i v hv => by
  rw [Array.getElem?_append] at hv
  split at hv
  · exact h i v hv
  · rename_i hlt
    obtain ⟨c, hc, hok⟩ := h' _ _ hv
    refine ⟨c, ?_, hok⟩
    rw [hm] at hc hlt
    have e : i = (i - m * ct.length) + m * ct.length := by omega
    rw [e, Nat.add_mul_mod_self_right]
    exact hc

/-! ### tables of types -/
structure TD where
  ct : List CT
  agg : Bool
  fs : List (Nat × TypeId)
structure Tab where
  tds : List (TypeId × TD)
  sls : List (TypeId × TypeId)
  bool : List TypeId
def Tab.td (tb : Tab) (t : TypeId) : Option TD := tb.tds.lookup t
def Tab.sl (tb : Tab) (t : TypeId) : Option TypeId := tb.sls.lookup t
def CT.zeroB : CT → Value → Bool
  | .int, .int .i64 n => decide (n = 0)
  | .str, .string s => decide (s.size = 0)
  | _, _ => false
theorem CT.ok_zero : ∀ {c : CT} {v : Value}, c.zeroB v = true → c.ok v := by
  intro c v h
  unfold CT.zeroB at h
  split at h
  · exact ⟨_, rfl, by have := of_decide_eq_true h; omega, by have := of_decide_eq_true h; omega⟩
  · exact ⟨_, rfl, by have := of_decide_eq_true h; omega⟩
  · cases h
def zeroOkB (d : TD) (z : Value) : Bool :=
  (z.cells.size == d.ct.length) && ((List.range d.ct.length).all fun j => match z.cells[j]?, d.ct[j]? with | some v, some c => c.zeroB v | _, _ => false)
def fieldsB (tb : Tab) (d : TD) (fs : Array Field) : Bool :=
  (fs.size == d.fs.length) && (List.range d.fs.length).all fun j => match fs[j]?, d.fs[j]? with
    | some f, some x => (f.offset == x.1) && (f.type == x.2) && (match tb.td x.2 with | some fd => decide (x.1 + fd.ct.length ≤ d.ct.length) && decide ((d.ct.drop x.1).take fd.ct.length = fd.ct) | none => false)
    | _, _ => false
def tdOkB (P : Program) (tb : Tab) (t : TypeId) (d : TD) : Bool :=
  match P.info? t with
  | none => false
  | some i => (i.size == d.ct.length) && decide (0 < d.ct.length) && decide (i.bytes ≤ 10000) && (match i.zero with | none => false | some z => zeroOkB d z) &&
    (match P.underlying t with
      | some (.struct fs) => d.agg && fieldsB tb d fs
      | some (.int .i64) => !d.agg && decide (d.ct = [.int])
      | some .string => !d.agg && decide (d.ct = [.str])
      | _ => false)
def tabOkB (P : Program) (tb : Tab) : Bool :=
  (tb.tds.all fun x => tdOkB P tb x.1 x.2) && (tb.sls.all fun x => (match P.underlying x.1 with | some (.slice e) => e == x.2 | _ => false)) && (tb.td 53).isNone
structure TdOk (P : Program) (tb : Tab) (t : TypeId) (d : TD) : Prop where
  pos : 0 < d.ct.length
  info : ∃ i z, P.info? t = some i ∧ i.size = d.ct.length ∧ i.bytes ≤ 10000 ∧ i.zero = some z ∧ z.cells.size = d.ct.length ∧ TyC d.ct z.cells
  und : (d.agg = true ∧ ∃ fs, P.underlying t = some (.struct fs) ∧ fs.size = d.fs.length ∧ ∀ (j o : Nat) (ft : TypeId), d.fs[j]? = some (o, ft) → ∃ (f : Field) (fd : TD), fs[j]? = some f ∧ f.offset = o ∧ f.type = ft ∧ tb.td ft = some fd ∧ o + fd.ct.length ≤ d.ct.length ∧ (d.ct.drop o).take fd.ct.length = fd.ct) ∨
    (d.agg = false ∧ d.ct.length = 1 ∧ (P.underlying t = some (.int .i64) ∨ P.underlying t = some .string))
structure TabOk (P : Program) (tb : Tab) : Prop where
  td : ∀ t d, tb.td t = some d → TdOk P tb t d
  sl : ∀ t e, tb.sl t = some e → P.underlying t = some (.slice e)
  cur : tb.td 53 = none
theorem lookup_mem {α : Type} : ∀ {l : List (Nat × α)} {k : Nat} {v : α}, l.lookup k = some v → (k, v) ∈ l
  | [], _, _, h => by simp at h
  | (a, b) :: l, k, v, h => by
    rw [List.lookup_cons] at h
    split at h
    · rename_i he
      obtain rfl : b = v := by simpa using h
      have : k = a := by simpa using he
      subst this
      exact List.mem_cons_self ..
    · exact List.mem_cons_of_mem _ (lookup_mem h)
theorem zero_ok {d : TD} {z : Value} (h : zeroOkB d z = true) : z.cells.size = d.ct.length ∧ TyC d.ct z.cells := by
  unfold zeroOkB at h
  simp only [Bool.and_eq_true, beq_iff_eq] at h
  refine ⟨h.1, fun i v hv => ?_⟩
  have hi : i < d.ct.length := by rw [← h.1]; exact (Array.getElem?_eq_some_iff.1 hv).1
  have h2 := List.all_eq_true.1 h.2 i (List.mem_range.2 hi)
  rw [hv, List.getElem?_eq_getElem hi] at h2
  rw [Nat.mod_eq_of_lt hi]
  exact ⟨_, List.getElem?_eq_getElem hi, CT.ok_zero h2⟩
theorem fields_ok {tb : Tab} {d : TD} {fs : Array Field} (h : fieldsB tb d fs = true) : fs.size = d.fs.length ∧ ∀ (j o : Nat) (ft : TypeId), d.fs[j]? = some (o, ft) → ∃ (f : Field) (fd : TD), fs[j]? = some f ∧ f.offset = o ∧ f.type = ft ∧ tb.td ft = some fd ∧ o + fd.ct.length ≤ d.ct.length ∧ (d.ct.drop o).take fd.ct.length = fd.ct := by
  unfold fieldsB at h
  simp only [Bool.and_eq_true, beq_iff_eq] at h
  refine ⟨h.1, fun j o ft hj => ?_⟩
  have hlt := (List.getElem?_eq_some_iff.1 hj).1
  have h2 := List.all_eq_true.1 h.2 j (List.mem_range.2 hlt)
  rw [hj] at h2
  cases hf : fs[j]? with
  | none => rw [hf] at h2; simp at h2
  | some f =>
    simp only [hf, Bool.and_eq_true, beq_iff_eq] at h2
    cases ht : tb.td ft with
    | none => simp [ht] at h2
    | some fd =>
      simp only [ht, Bool.and_eq_true, decide_eq_true_eq] at h2
      exact ⟨f, fd, rfl, h2.1.1, h2.1.2, rfl, h2.2.1, h2.2.2⟩
theorem tdOk_of {P : Program} {tb : Tab} {t : TypeId} {d : TD} (h : tdOkB P tb t d = true) : TdOk P tb t d := by
  unfold tdOkB at h
  cases hi : P.info? t with
  | none => simp [hi] at h
  | some i =>
    simp only [hi, Bool.and_eq_true, beq_iff_eq, decide_eq_true_eq] at h
    obtain ⟨⟨⟨⟨h1, h2⟩, h3⟩, h4⟩, h5⟩ := h
    cases hz : i.zero with
    | none => simp [hz] at h4
    | some z =>
      simp only [hz] at h4
      obtain ⟨z1, z2⟩ := zero_ok h4
      refine ⟨h2, ⟨i, z, hi, h1, h3, hz, z1, z2⟩, ?_⟩
      split at h5
      · rename_i fs hu
        simp only [Bool.and_eq_true] at h5
        obtain ⟨f1, f2⟩ := fields_ok h5.2
        exact .inl ⟨h5.1, fs, hu, f1, f2⟩
      · rename_i hu
        simp only [Bool.and_eq_true, Bool.not_eq_true', decide_eq_true_eq] at h5
        exact .inr ⟨h5.1, by rw [h5.2]; rfl, .inl hu⟩
      · rename_i hu
        simp only [Bool.and_eq_true, Bool.not_eq_true', decide_eq_true_eq] at h5
        exact .inr ⟨h5.1, by rw [h5.2]; rfl, .inr hu⟩
      · cases h5
theorem tabOk_of {P : Program} {tb : Tab} (h : tabOkB P tb = true) : TabOk P tb := by
  unfold tabOkB at h
  simp only [Bool.and_eq_true] at h
  obtain ⟨⟨h1, h2⟩, h3⟩ := h
  refine ⟨fun t d hd => tdOk_of (List.all_eq_true.1 h1 _ (lookup_mem hd)), fun t e he => ?_, by simpa using h3⟩
  have := List.all_eq_true.1 h2 _ (lookup_mem he)
  split at this
  · rename_i e' hu
    obtain rfl : e' = e := by simpa using this
    exact hu
  · cases this

/-! ### what is known of a value -/
structure CI where
  p : Nat
  A : Option Addr
  n : Nat
  c : Nat
/-- Block b: m elements of type T; the call's own if 'own' says so. -/
def TB (tb : Tab) (base : Nat) (own : Bool) (w : World) (b : Nat) (T : TypeId) (m : Nat) : Prop :=
  (own = true → base ≤ b) ∧ ∃ cs d, w.heap[b]? = some (.cells cs T (0, 0)) ∧ tb.td T = some d ∧ cs.size = m * d.ct.length ∧ TyC d.ct cs
inductive AV
  | top
  | int (lo hi : Int)
  | bool (f t : Bool)
  | str
  | agg (ct : List CT)
  | ptr (own : Bool) (T : TypeId) (o : Nat)
  | sl (own : Bool) (T : TypeId) (lo hi cl : Nat)
  | nil
  | cur
  | bytes
  | curv
  deriving DecidableEq
def AVok (tb : Tab) (base : Nat) (g q : Option CI) (w : World) : AV → Value → Prop
  | .top, _ => True
  | .int lo hi, v => ∃ z : Int, v = .int .i64 z ∧ lo ≤ z ∧ z ≤ hi
  | .bool f t, v => ∃ b : Bool, v = .bool b ∧ (b = false → f = true) ∧ (b = true → t = true)
  | .str, v => CT.str.ok v
  | .agg ct, v => ∃ arr, v = .agg arr ∧ arr.size = ct.length ∧ TyC ct arr
  | .ptr own T o, v => ∃ b m i d, v = .pointer (some ⟨b, i * d.ct.length + o, none⟩) ∧ TB tb base own w b T m ∧ tb.td T = some d ∧ i < m
  | .sl own T lo hi cl, v => ∃ a len cap, v = .slice a len cap ∧ lo ≤ len ∧ len ≤ hi ∧ len ≤ cap ∧ cl ≤ cap + 1 ∧ (a = none → cap = 0 ∧ cl = 0) ∧
      ∀ ad, a = some ad → ∃ b m i d, ad = ⟨b, i * d.ct.length, none⟩ ∧ TB tb base own w b T m ∧ tb.td T = some d ∧ i + cap ≤ m
  | .nil, v => v = .slice none 0 0
  | .cur, v => ∃ x, q = some x ∧ v = .pointer (some ⟨x.p, 0, none⟩)
  | .bytes, v => ∃ A n c, v = .slice A n c ∧ n ≤ 65536 ∧ Byt w base A n ∧ g = none
  | .curv, v => ∃ A n c, v = .agg #[.slice A n c, .int .i64 0, .int .u64 0] ∧ n ≤ 65536 ∧ Byt w base A n ∧ g = none
inductive TV
  | one (a : AV)
  | tup (l : List AV)
  deriving DecidableEq
def TVok (tb : Tab) (base : Nat) (g q : Option CI) (w : World) : TV → Value → Prop
  | .one a, v => AVok tb base g q w a v
  | .tup l, v => ∃ vs : Array Value, v = .tuple vs ∧ vs.size = l.length ∧ ∀ (i : Nat) (a : AV), l[i]? = some a → ∃ u : Value, vs[i]? = some u ∧ AVok tb base g q w a u
/-- From w to w': the blocks of the table's types keep their types; of old blocks the cursor alone may have changed. -/
structure Keep (tb : Tab) (base : Nat) (g : Option CI) (w w' : World) : Prop where
  os : w'.os = w.os
  tape : w'.tape = w.tape
  output : w'.output = w.output
  size : w.heap.size ≤ w'.heap.size
  old : ∀ b, b < base → (∀ x, g = some x → b ≠ x.p) → w'.heap[b]? = w.heap[b]?
  tb : ∀ own b T m, TB tb base own w b T m → TB tb base own w' b T m
theorem Keep.refl (tb : Tab) (base : Nat) (g : Option CI) (w : World) : Keep tb base g w w := ⟨rfl, rfl, rfl, Nat.le_refl _, fun _ _ _ => rfl, fun _ _ _ _ h => h⟩
theorem Keep.trans {tb : Tab} {base : Nat} {g : Option CI} {a b c : World} (h : Keep tb base g a b) (k : Keep tb base g b c) : Keep tb base g a c :=
  ⟨k.os.trans h.os, k.tape.trans h.tape, k.output.trans h.output, Nat.le_trans h.size k.size, fun i hi hx => (k.old i hi hx).trans (h.old i hi hx), fun o b T m ht => k.tb o b T m (h.tb o b T m ht)⟩
theorem byt_keep {w w' : World} {B n : Nat} {A : Option Addr} (h : Byt w B A n) (hk : ∀ b o, A = some ⟨b, o, none⟩ → b < B → w'.heap[b]? = w.heap[b]?) : Byt w' B A n := fun hn => by
  obtain ⟨b, o, e, hb, hc⟩ := h hn
  exact ⟨b, o, e, hb, fun i hi => by rw [World.cell?_of_block (hk b o e hb)]; exact hc i hi⟩
theorem AVok.keep {tb : Tab} {base : Nat} {g q q' : Option CI} {w w' : World} (hk : Keep tb base g w w') (hq : ∀ x, q = some x → q' = some x) : ∀ {av : AV} {v : Value}, AVok tb base g q w av v → AVok tb base g q' w' av v
  | .top, _, _ => trivial
  | .int .., _, h => h
  | .bool .., _, h => h
  | .str, _, h => h
  | .agg .., _, h => h
  | .ptr .., _, ⟨b, m, i, d, e, h, r⟩ => ⟨b, m, i, d, e, hk.tb _ _ _ _ h, r⟩
  | .sl .., _, ⟨a, len, cap, e, h1, h2, h3, h4, h5, h6⟩ => ⟨a, len, cap, e, h1, h2, h3, h4, h5, fun ad ha => by
      obtain ⟨b, m, i, d, e, h, r⟩ := h6 ad ha
      exact ⟨b, m, i, d, e, hk.tb _ _ _ _ h, r⟩⟩
  | .nil, _, h => h
  | .cur, _, ⟨x, hx, e⟩ => ⟨x, hq x hx, e⟩
  | .bytes, _, ⟨A, n, c, e, h1, h2, h3⟩ => ⟨A, n, c, e, h1, byt_keep h2 fun b o _ hb => hk.old b hb (by simp [h3]), h3⟩
  | .curv, _, ⟨A, n, c, e, h1, h2, h3⟩ => ⟨A, n, c, e, h1, byt_keep h2 fun b o _ hb => hk.old b hb (by simp [h3]), h3⟩
theorem TVok.keep {tb : Tab} {base : Nat} {g q q' : Option CI} {w w' : World} (hk : Keep tb base g w w') (hq : ∀ x, q = some x → q' = some x) : ∀ {t : TV} {v : Value}, TVok tb base g q w t v → TVok tb base g q' w' t v
  | .one _, _, h => AVok.keep hk hq h
  | .tup _, _, ⟨vs, e, h1, h2⟩ => ⟨vs, e, h1, fun i a ha => by
      obtain ⟨u, hu, h⟩ := h2 i a ha
      exact ⟨u, hu, AVok.keep hk hq h⟩⟩

/-! ### lesser and greater -/
def AV.leB : AV → AV → Bool
  | _, .top => true
  | .int lo hi, .int lo' hi' => decide (lo' ≤ lo) && decide (hi ≤ hi')
  | .bool f t, .bool f' t' => (!f || f') && (!t || t')
  | .str, .str => true
  | .agg c, .agg c' => decide (c = c')
  | .ptr own T o, .ptr own' T' o' => (own || !own') && decide (T = T') && decide (o = o')
  | .sl own T lo hi cl, .sl own' T' lo' hi' cl' => (own || !own') && decide (T = T') && decide (lo' ≤ lo) && decide (hi ≤ hi') && decide (cl' ≤ cl)
  | .nil, .sl _ _ lo' _ cl' => decide (lo' = 0) && decide (cl' = 0)
  | .nil, .nil => true
  | .cur, .cur => true
  | .bytes, .bytes => true
  | .curv, .curv => true
  | _, _ => false
theorem TB.less {tb : Tab} {base : Nat} {own own' : Bool} {w : World} {b : Nat} {T : TypeId} {m : Nat} (h : TB tb base own w b T m) (ho : (own || !own') = true) : TB tb base own' w b T m := ⟨fun e => h.1 (by subst e; simpa using ho), h.2⟩
theorem AVok.le {tb : Tab} {base : Nat} {g q : Option CI} {w : World} {x y : AV} {v : Value} (h : AVok tb base g q w x v) (hl : x.leB y = true) : AVok tb base g q w y v := by
  unfold AV.leB at hl
  split at hl
  · trivial
  · obtain ⟨z, e, h1, h2⟩ := h
    simp only [Bool.and_eq_true, decide_eq_true_eq] at hl
    exact ⟨z, e, by omega, by omega⟩
  · obtain ⟨b, e, h1, h2⟩ := h
    simp only [Bool.and_eq_true, Bool.or_eq_true, Bool.not_eq_true'] at hl
    refine ⟨b, e, fun hb => ?_, fun hb => ?_⟩
    · have := h1 hb; rcases hl.1 with h | h <;> simp_all
    · have := h2 hb; rcases hl.2 with h | h <;> simp_all
  · exact h
  · obtain rfl := of_decide_eq_true hl; exact h
  · simp only [Bool.and_eq_true, decide_eq_true_eq] at hl
    obtain ⟨⟨h1, rfl⟩, rfl⟩ := hl
    obtain ⟨b, m, i, d, e, ht, r⟩ := h
    exact ⟨b, m, i, d, e, ht.less h1, r⟩
  · simp only [Bool.and_eq_true, decide_eq_true_eq] at hl
    obtain ⟨⟨⟨⟨h1, rfl⟩, h2⟩, h3⟩, h4⟩ := hl
    obtain ⟨a, len, cap, e, i1, i2, i3, i4, i5, i6⟩ := h
    exact ⟨a, len, cap, e, by omega, by omega, i3, by omega, fun h => (by have := i5 h; omega), fun ad ha => by
      obtain ⟨b, m, i, d, e, ht, r⟩ := i6 ad ha
      exact ⟨b, m, i, d, e, ht.less h1, r⟩⟩
  · simp only [Bool.and_eq_true, decide_eq_true_eq] at hl
    obtain ⟨rfl, rfl⟩ := hl
    exact ⟨none, 0, 0, h, by omega, by omega, by omega, by omega, fun _ => ⟨rfl, rfl⟩, fun _ h => by cases h⟩
  · exact h
  · exact h
  · exact h
  · exact h
  · cases hl
def AV.join : AV → AV → AV
  | .int lo hi, .int lo' hi' => .int (if lo ≤ lo' then lo else lo') (if hi ≤ hi' then hi' else hi)
  | .bool f t, .bool f' t' => .bool (f || f') (t || t')
  | .sl own T lo hi cl, .sl own' T' lo' hi' cl' => if T = T' then .sl (own && own') T (min lo lo') (max hi hi') (min cl cl') else .top
  | .nil, .sl own T _ hi _ => .sl own T 0 hi 0
  | .sl own T _ hi _, .nil => .sl own T 0 hi 0
  | .ptr own T o, .ptr own' T' o' => if T = T' ∧ o = o' then .ptr (own && own') T o else .top
  | x, y => if x = y then x else .top
theorem AV.le_join (x y : AV) : x.leB (x.join y) = true ∧ y.leB (x.join y) = true := by
  unfold AV.join
  split
  · simp only [AV.leB, Bool.and_eq_true, decide_eq_true_eq]
    refine ⟨⟨?_, ?_⟩, ?_, ?_⟩ <;> split <;> omega
  · rename_i f t f' t'
    cases f <;> cases t <;> cases f' <;> cases t' <;> decide
  · split
    · rename_i own T lo hi cl own' T' lo' hi' cl' e
      subst e
      simp only [AV.leB, Bool.and_eq_true, decide_eq_true_eq]
      refine ⟨⟨⟨⟨⟨by cases own <;> simp, trivial⟩, by omega⟩, by omega⟩, by omega⟩, ⟨⟨⟨⟨by cases own <;> cases own' <;> simp, trivial⟩, by omega⟩, by omega⟩, by omega⟩⟩
    · constructor <;> (unfold AV.leB; split <;> simp_all)
  · simp [AV.leB]
  · simp [AV.leB]
  · split
    · rename_i own T o own' T' o' e
      obtain ⟨rfl, rfl⟩ := e
      simp only [AV.leB, Bool.and_eq_true, decide_eq_true_eq]
      exact ⟨⟨⟨by cases own <;> simp, trivial⟩, trivial⟩, ⟨⟨by cases own <;> cases own' <;> simp, trivial⟩, trivial⟩⟩
    · constructor <;> (unfold AV.leB; split <;> simp_all)
  · split
    · rename_i e
      subst e
      have : ∀ x : AV, x.leB x = true := fun x => by cases x <;> simp [AV.leB]
      exact ⟨this _, this _⟩
    · constructor <;> (unfold AV.leB; split <;> simp_all)
def TV.join : TV → TV → TV
  | .one a, .one b => .one (a.join b)
  | x, y => if x = y then x else .one .top
theorem TVok.joinL {tb : Tab} {base : Nat} {g q : Option CI} {w : World} {x y : TV} {v : Value} (h : TVok tb base g q w x v) : TVok tb base g q w (x.join y) v := by
  unfold TV.join
  split
  · exact AVok.le h (AV.le_join _ _).1
  · split
    · exact h
    · trivial
theorem TVok.joinR {tb : Tab} {base : Nat} {g q : Option CI} {w : World} {x y : TV} {v : Value} (h : TVok tb base g q w y v) : TVok tb base g q w (x.join y) v := by
  unfold TV.join
  split
  · exact AVok.le h (AV.le_join _ _).2
  · split
    · rename_i e; rw [e]; exact h
    · trivial
end Go.Dr
