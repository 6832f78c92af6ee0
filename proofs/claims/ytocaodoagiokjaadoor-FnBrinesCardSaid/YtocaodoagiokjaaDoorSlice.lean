/- Words for slices: a slice that reads as a list of elements of k cells; a row of the call's own that is known cell by cell. Plain lemmas over any program. No conditions. -/
import Derived.Test.YtocaodoagiokjaaDoorBase
import Derived.Laws.AppendOwn
import Derived.Laws.OwnMore
import Derived.Deep.AppendLies
import Derived.Maps.AppendAt
set_option linter.unusedSimpArgs false
set_option linter.unusedVariables false
namespace Go.Salt
open Go.RowKit Go.Sort

/-- Element i of a list: a name that the walk does not open. -/
def el {α : Type} [Inhabited α] (xs : List α) (i : Nat) : α := xs.getD i default
theorem el_get {α : Type} [Inhabited α] {xs : List α} {i : Nat} (h : i < xs.length) : el xs i = xs[i] := by simp [el, h]
theorem el_get? {α : Type} [Inhabited α] {xs : List α} {i : Nat} (h : i < xs.length) : xs[i]? = some (el xs i) := by rw [el_get h]; simp [h]
theorem el_mem {α : Type} [Inhabited α] {xs : List α} {i : Nat} (h : i < xs.length) : el xs i ∈ xs := by rw [el_get h]; exact List.getElem_mem h
theorem take_el {α : Type} [Inhabited α] {xs : List α} {i : Nat} (h : i < xs.length) : xs.take (i + 1) = xs.take i ++ [el xs i] := by rw [List.take_succ_eq_append_getElem h, el_get h]

/-- The cells cs lie in block b from o on. -/
def CellsAt (w : World) (b o : Nat) (cs : List Value) : Prop := ∀ j (h : j < cs.length), w.cell? ⟨b, o + j, none⟩ = some cs[j]

/-- '.slice A xs.length _' reads as xs, each element of k cells, below block B. -/
def Rd {α : Type} [Inhabited α] (w : World) (B : Nat) (A : Option Addr) (k : Nat) (enc : α → List Value) (xs : List α) : Prop :=
  0 < xs.length → ∃ b o, A = some ⟨b, o, none⟩ ∧ b < B ∧ ∀ i, i < xs.length → CellsAt w b (o + i * k) (enc (el xs i))

section
variable {α : Type} [Inhabited α] {w w' : World} {B B' k : Nat} {A : Option Addr} {enc : α → List Value} {xs : List α}
theorem CellsAt.keep {b o : Nat} {cs : List Value} (h : CellsAt w b o cs) (hk : ∀ o', w'.cell? ⟨b, o', none⟩ = w.cell? ⟨b, o', none⟩) : CellsAt w' b o cs := fun j hj => (hk _).trans (h j hj)
theorem Rd.keep (h : Rd w B A k enc xs) (hk : ∀ b o, b < B → w'.cell? ⟨b, o, none⟩ = w.cell? ⟨b, o, none⟩) : Rd w' B A k enc xs := fun hn => by
  obtain ⟨b, o, e, hb, hc⟩ := h hn
  exact ⟨b, o, e, hb, fun i hi => (hc i hi).keep fun o' => hk b o' hb⟩
theorem Rd.below (h : Rd w B A k enc xs) (hb : Below B w w') : Rd w' B A k enc xs := h.keep fun b o hp => hb.cell (p := ⟨b, o, none⟩) hp
theorem Rd.more (h : Rd w B A k enc xs) (hB : B ≤ B') : Rd w B' A k enc xs := fun hn => by
  obtain ⟨b, o, e, hb, hc⟩ := h hn
  exact ⟨b, o, e, Nat.lt_of_lt_of_le hb hB, hc⟩
theorem Rd.to (h : Rd w w.heap.size A k enc xs) (hb : Below w.heap.size w w') : Rd w' w'.heap.size A k enc xs := (h.below hb).more hb.size
theorem Rd.nil : Rd w B A k enc [] := fun h => absurd h (by simp)
end

/-- Block g is a row whose first cells are cs, none frozen. -/
def Row (w : World) (g : Nat) (E : TypeId) (cs : List Value) : Prop := ∃ arr : Array Value, w.heap[g]? = some (.cells arr E (0, 0)) ∧ arr.toList.take cs.length = cs

section
variable {w w' : World} {g : Nat} {E : TypeId} {cs : List Value}
theorem Row.lt (h : Row w g E cs) : g < w.heap.size := by
  obtain ⟨arr, h, _⟩ := h
  rcases Nat.lt_or_ge g w.heap.size with hlt | hge
  · exact hlt
  · rw [Array.getElem?_eq_none hge] at h; cases h
theorem Row.cell (h : Row w g E cs) {j : Nat} (hj : j < cs.length) : w.cell? ⟨g, j, none⟩ = some cs[j] := by
  obtain ⟨arr, h, ht⟩ := h
  have h1 : w.cell? ⟨g, j, none⟩ = arr[j]? := by simp [World.cell?, h]
  rw [h1, ← Array.getElem?_toList]
  have h2 : arr.toList[j]? = (arr.toList.take cs.length)[j]? := by rw [List.getElem?_take, if_pos hj]
  rw [h2, ht]; simp [hj]
theorem Row.frozen (h : Row w g E cs) (j : Nat) : w.frozen? ⟨g, j, none⟩ = false := by
  obtain ⟨arr, h, _⟩ := h
  simp [World.frozen?, h]
theorem Row.two {x y : Value} (h : Row w g E [x, y]) : w.cell? ⟨g, 0, none⟩ = some x ∧ w.cell? ⟨g, 1, none⟩ = some y ∧ ∀ j, w.frozen? ⟨g, j, none⟩ = false :=
  ⟨h.cell (j := 0) (by simp), h.cell (j := 1) (by simp), h.frozen⟩
theorem Row.set (h : Row w g E cs) {j : Nat} (u : Value) : Row (w.setCell ⟨g, j, none⟩ u) g E (cs.set j u) := by
  obtain ⟨arr, h, ht⟩ := h
  refine ⟨arr.setIfInBounds j u, by simp [World.setCell, Array.getElem?_modify, h], ?_⟩
  rw [List.length_set, Array.toList_setIfInBounds, List.take_set, ht]
theorem Row.far (h : Row w g E cs) {p : Addr} (hp : g ≠ p.block) (u : Value) : Row (w.setCell p u) g E cs := by
  obtain ⟨arr, h, ht⟩ := h
  exact ⟨arr, (Below.heap_setCell w p u g hp).trans h, ht⟩
theorem Row.keep (h : Row w g E cs) (hk : w'.heap[g]? = w.heap[g]?) : Row w' g E cs := by
  obtain ⟨arr, h, ht⟩ := h
  exact ⟨arr, hk.trans h, ht⟩
theorem Row.alloc (h : Row w g E cs) (o : Obj) : Row (w.alloc o) g E cs := h.keep (Below.heap_alloc w o g h.lt)
theorem Row.below {B : Nat} (h : Row w g E cs) (hb : Below B w w') (hg : g < B) : Row w' g E cs := h.keep (hb.block g hg)
theorem Row.to (h : Row w g E cs) (hb : Below w.heap.size w w') : Row w' g E cs := h.below hb h.lt
theorem Row.grown {row : Option Nat} (h : Row w g E cs) (hb : w.grownBy w' row) (hg : some g ≠ row) : Row w' g E cs := h.keep (hb.block g h.lt hg)
theorem Row.new (w : World) (E : TypeId) (arr : Array Value) : Row (w.alloc (.cells arr E)) w.heap.size E arr.toList := ⟨arr, heap_alloc_new w _, by rw [List.take_length]⟩
theorem Row.rd {α : Type} [Inhabited α] {k : Nat} {enc : α → List Value} {xs : List α} (h : Row w g E (xs.flatMap enc)) (hk : ∀ x, (enc x).length = k) {B : Nat} (hg : g < B) : Rd w B (some ⟨g, 0, none⟩) k enc xs := fun _ =>
  ⟨g, 0, rfl, hg, fun i hi j hj => by
    have hl : ∀ (ys : List α), (ys.flatMap enc).length = ys.length * k := by
      intro ys
      induction ys with
      | nil => simp
      | cons y ys ih => simp [List.flatMap_cons, hk, ih, Nat.add_mul, Nat.add_comm]
    have e1 : xs = xs.take i ++ (el xs i :: xs.drop (i + 1)) := by
      rw [el_get hi, List.getElem_cons_drop, List.take_append_drop]
    have hjk : j < k := by rw [hk] at hj; exact hj
    have h3 : (i * k + j) < (xs.flatMap enc).length := by
      rw [hl]
      have : (i + 1) * k ≤ xs.length * k := Nat.mul_le_mul_right k hi
      rw [Nat.add_mul] at this
      omega
    have h4 := h.cell h3
    rw [Nat.zero_add, h4]
    congr 1
    have h5 : (xs.flatMap enc)[i * k + j]? = (enc (el xs i))[j]? := by
      conv => lhs; rw [e1]
      rw [List.flatMap_append, List.flatMap_cons, List.getElem?_append_right (by rw [hl, List.length_take]; have := Nat.min_eq_left (Nat.le_of_lt hi); rw [this]; omega)]
      rw [hl, List.length_take, Nat.min_eq_left (Nat.le_of_lt hi), show i * k + j - i * k = j by omega, List.getElem?_append_left hj]
    rw [List.getElem?_eq_getElem h3, List.getElem?_eq_getElem hj] at h5
    exact Option.some.inj h5⟩
theorem Row.rdTo {α : Type} [Inhabited α] {k : Nat} {enc : α → List Value} {xs : List α} (h : Row w g E (xs.flatMap enc)) (hk : ∀ x, (enc x).length = k) (hb : Below w.heap.size w w') : Rd w' w'.heap.size (some ⟨g, 0, none⟩) k enc xs :=
  (h.to hb).rd hk (h.to hb).lt
theorem Row.of_own {base size n cap : Nat} {xs : List Value} (h : w.ownsRow base E size (.slice (some ⟨g, 0, none⟩) n cap) n xs) : Row w g E xs ∧ base ≤ g := by
  obtain ⟨h1, h2⟩ := h
  rcases h2 with ⟨h2, _⟩ | ⟨g', cap', cur, hv, hg, hh, _, _, _, ht⟩
  · simp at h2
  · simp only [Value.slice.injEq, Option.some.injEq, Addr.mk.injEq, and_true, true_and] at hv
    obtain ⟨rfl, rfl⟩ := hv
    exact ⟨⟨cur, hh, by rw [h1]; exact ht⟩, hg⟩
end

theorem flat_len {α : Type} {enc : α → List Value} {k : Nat} (hk : ∀ x, (enc x).length = k) (ys : List α) : (ys.flatMap enc).length = ys.length * k := by
  induction ys with
  | nil => simp
  | cons y ys ih => simp [List.flatMap_cons, hk, ih, Nat.add_mul, Nat.add_comm]
/-- A slice of the call's own comes back, its cells cs. -/
def Made (w : World) (E : TypeId) (cs : List Value) (n : Nat) (e : Ending) (w' : World) : Prop :=
  ∃ g c, e = .returned (.slice (some ⟨g, 0, none⟩) n c) ∧ w.heap.size ≤ g ∧ Row w' g E cs ∧ Below w.heap.size w w'
/-- The same, its capacity its length. -/
def MadeN (w : World) (E : TypeId) (cs : List Value) (n : Nat) (e : Ending) (w' : World) : Prop :=
  ∃ g, e = .returned (.slice (some ⟨g, 0, none⟩) n n) ∧ w.heap.size ≤ g ∧ Row w' g E cs ∧ Below w.heap.size w w'
theorem MadeN.made {w w' : World} {E : TypeId} {cs : List Value} {n : Nat} {e : Ending} (h : MadeN w E cs n e w') : Made w E cs n e w' := by
  obtain ⟨g, h⟩ := h
  exact ⟨g, n, h⟩
theorem only_setCell {a w : World} {g : Nat} (h : a.grownBy w (some g)) {p : Addr} (hp : p.block = g ∨ a.heap.size ≤ p.block) (u : Value) : a.grownBy (w.setCell p u) (some g) :=
  ⟨h.os, h.tape, h.output, by simpa [World.setCell] using h.size, fun i hi hne => (Below.heap_setCell w p u i (by
    rintro rfl
    rcases hp with hp | hp
    · exact hne (by rw [hp])
    · omega)).trans (h.block i hi hne)⟩
/-! ### rows that are written in order -/
/-- The numbers from c on, n of them. -/
def nums (c : Int) (n : Nat) : List Value := (List.range n).map fun (i : Nat) => Value.int .i64 (c + i)
theorem nums_len (c : Int) (n : Nat) : (nums c n).length = n := by simp [nums]
theorem nums_succ (c : Int) (n : Nat) : nums c (n + 1) = nums c n ++ [.int .i64 (c + n)] := by simp [nums, List.range_succ]
/-- One more of a row's cells is written. -/
theorem set_next {pre cs : List Value} {m : Nat} (h : pre.length = m) (hm : m < cs.length) (u : Value) : (pre ++ cs.drop m).set m u = (pre ++ [u]) ++ cs.drop (m + 1) := by
  subst h
  rw [List.set_append_right _ _ (Nat.le_refl _), Nat.sub_self, List.drop_eq_getElem_cons hm, List.set_cons_zero, List.append_assoc]; rfl

section
variable {H : Type} {encH : TypeId × Value → H} {P : Program}
open Go.ChangeShapes Go.WideShapes Go.Deep in
/-- A slice of structs of ints that came in, as a list. -/
theorem open_rows {α : Type} [Inhabited α] {w : World} {base : Nat} {sp : Nat → Bool} {held : Bool} {t e : TypeId} {n k len cap : Nat} {a : Option Addr} {x : DataW H × List MemPlace} (ht : P.underlying t = some (.slice e)) (f : Nat) (hf : flatB P f e = true) (hC : P.cellsOf e = k) (hk : 0 < k)
    (enc : α → List Value) (dec : (Nat → Int) → α) (hdec : ∀ g, enc (dec g) = (List.range k).map fun j => Value.int .i64 (g j))
    (h : DataW.trod encH P w base sp held n t (Value.slice a len cap).cells.toList = some x) : len ≤ maxLen ∧ ∃ xs : List α, xs.length = len ∧ Rd w w.heap.size a k enc xs := by
  rcases open_flat_slice ht f hf h with h1 | ⟨ad, l, c, h1, h2, h3, h4⟩
  · simp [Value.cells] at h1
    obtain ⟨rfl, rfl, rfl⟩ := h1
    exact ⟨Nat.zero_le _, [], rfl, Rd.nil⟩
  · simp [Value.cells] at h1
    obtain ⟨rfl, rfl, rfl⟩ := h1
    rw [hC] at h4
    refine ⟨by omega, (List.range len).map fun i => dec fun j => match w.cell? (ad.add (i * k + j)) with | some (.int _ z) => z | _ => 0, by simp, fun hp => ?_⟩
    have hp' : 0 < len := by simpa using hp
    obtain ⟨z, hz, _⟩ := h4 0 hp' 0 hk
    have hz' : w.cell? ad = some (.int .i64 z) := by simpa [Addr.add] using hz
    have hsp := World.cell?_spot hz'
    obtain ⟨b, o, spot⟩ := ad
    obtain rfl : spot = none := hsp
    refine ⟨b, o, rfl, block_lt_of_cell hz', fun i hi j hj => ?_⟩
    have hi' : i < len := by simpa using hi
    have e1 : el ((List.range len).map fun i => dec fun j => match w.cell? ((⟨b, o, none⟩ : Addr).add (i * k + j)) with | some (.int _ z) => z | _ => 0) i = dec fun j => match w.cell? ((⟨b, o, none⟩ : Addr).add (i * k + j)) with | some (.int _ z) => z | _ => 0 := by
      rw [el_get (by simpa using hi')]
      simp
    have hj' : j < k := by
      rw [e1, hdec] at hj
      simpa using hj
    obtain ⟨z, hz, _⟩ := h4 i hi' j hj'
    have ea : (⟨b, o, none⟩ : Addr).add (i * k + j) = ⟨b, o + i * k + j, none⟩ := by
      unfold Addr.add
      split <;> simp <;> omega
    rw [ea] at hz
    rw [hz]
    congr 1
    have e2 : (enc (el ((List.range len).map fun i => dec fun j => match w.cell? ((⟨b, o, none⟩ : Addr).add (i * k + j)) with | some (.int _ z) => z | _ => 0) i))[j]? = some (Value.int .i64 z) := by
      rw [e1, hdec]
      simp [hj', ea, hz]
    rw [List.getElem?_eq_getElem hj] at e2
    exact (Option.some.inj e2).symm
end

/-! ### results that are slices of the call's own -/
/-- The slice at A, n elements, the cells cs, is nil or lies in a row of its own from block 'base' on. -/
def OwnAt (w : World) (base : Nat) (E : TypeId) (cs : List Value) (n : Nat) (A : Option Addr) : Prop :=
  (A = none ∧ n = 0 ∧ cs = []) ∨ ∃ g, A = some ⟨g, 0, none⟩ ∧ base ≤ g ∧ Row w g E cs
section
variable {w w' : World} {base : Nat} {E : TypeId} {cs : List Value} {n : Nat} {A : Option Addr}
theorem OwnAt.none_ : OwnAt w base E [] 0 none := .inl ⟨rfl, rfl, rfl⟩
theorem OwnAt.to (h : OwnAt w base E cs n A) (hb : Below w.heap.size w w') : OwnAt w' base E cs n A := by
  rcases h with h | ⟨g, e, hg, hr⟩
  · exact .inl h
  · exact .inr ⟨g, e, hg, hr.to hb⟩
theorem OwnAt.mono {b' : Nat} (h : OwnAt w base E cs n A) (hb : b' ≤ base) : OwnAt w b' E cs n A := by
  rcases h with h | ⟨g, e, hg, hr⟩
  · exact .inl h
  · exact .inr ⟨g, e, by omega, hr⟩
/-- Another row, which lies ahead of 'base', was written. -/
theorem OwnAt.other {g' : Nat} (h : OwnAt w base E cs n A) (hg : w.grownBy w' (some g')) (hlt : g' < base) : OwnAt w' base E cs n A := by
  rcases h with h | ⟨g, e, hb, hr⟩
  · exact .inl h
  · exact .inr ⟨g, e, hb, hr.grown hg (by simp; omega)⟩
theorem OwnAt.rd {α : Type} [Inhabited α] {k : Nat} {enc : α → List Value} {xs : List α} (h : OwnAt w base E (xs.flatMap enc) xs.length A) (hk : ∀ x, (enc x).length = k) : Rd w w.heap.size A k enc xs := by
  rcases h with ⟨_, h, _⟩ | ⟨g, rfl, _, hr⟩
  · intro hp; omega
  · exact hr.rd hk hr.lt
theorem OwnAt.of_own {size : Nat} {v : Value} (h : w.ownsRow base E size v n cs) : ∃ A c, v = .slice A n c ∧ OwnAt w base E cs n A := by
  rcases h.2 with ⟨rfl, rfl⟩ | ⟨g, cap, cur, rfl, hg, hh, _⟩
  · exact ⟨none, 0, rfl, .inl ⟨rfl, rfl, List.eq_nil_of_length_eq_zero (by simpa using h.1)⟩⟩
  · exact ⟨_, _, rfl, .inr ⟨g, rfl, hg, (Row.of_own h).1⟩⟩
theorem grown_below {row B : Nat} (hg : w.grownBy w' (some row)) (hB : B ≤ row) (hs : B ≤ w.heap.size) : Below B w w' :=
  ⟨hg.os, hg.tape, hg.output, hg.size, fun k hk => hg.block k (by omega) (by simp; omega)⟩
end
/-! ### appending to rows of one's own -/
theorem own_to {W W' : World} {base size n : Nat} {E : TypeId} {v : Value} {cs : List Value} (h : W.ownsRow base E size v n cs) (hb : Below W.heap.size W W') : W'.ownsRow base E size v n cs := by
  refine ⟨h.1, ?_⟩
  rcases h.2 with h1 | ⟨g, cap, cur, hv, hg, hh, rest⟩
  · exact .inl h1
  · have hlt : g < W.heap.size := by
      rcases Nat.lt_or_ge g W.heap.size with h | h
      · exact h
      · rw [Array.getElem?_eq_none h] at hh; cases hh
    exact .inr ⟨g, cap, cur, hv, hg, (hb.block g hlt).trans hh, rest⟩
theorem own_empty {W : World} {base g : Nat} {E : TypeId} (size : Nat) (hg : base ≤ g) (h : W.heap[g]? = some (.cells #[] E (0, 0))) : W.ownsRow base E size (.slice (some ⟨g, 0, none⟩) 0 0) 0 [] :=
  ⟨by simp, .inr ⟨g, 0, #[], rfl, hg, h, Nat.le_refl _, by unfold maxLen; omega, by simp, by simp⟩⟩
theorem own_low {W : World} {base size n : Nat} {E : TypeId} {v : Value} {cs : List Value} (h : W.ownsRow base E size v n cs) : ∀ k, v.ownBlock = some k → base ≤ k := fun k hk => by
  rcases h.2 with ⟨rfl, _⟩ | ⟨g, cap, cur, rfl, hg, _⟩
  · simp [Value.ownBlock] at hk
  · simp [Value.ownBlock] at hk; omega
/-- Behind an append: all below 'base' is as it was. -/
theorem own_grew {w wr W w' : World} {base size n : Nat} {E : TypeId} {v : Value} {cs : List Value} (hown : wr.ownsRow base E size v n cs) (hb : Below base w W) (hB : base ≤ W.heap.size) (hg : W.grownBy w' v.ownBlock) : Below base w w' :=
  hb.grown hg hB (own_low hown)
/-- A result: a slice of the call's own, of n elements, whose cells are cs; K says where it stands among the results. -/
def MadeAt (w : World) (E : TypeId) (cs : List Value) (n : Nat) (K : Value → Ending) (e : Ending) (w' : World) : Prop :=
  ∃ A c, e = K (.slice A n c) ∧ OwnAt w' w.heap.size E cs n A ∧ Below w.heap.size w w'
theorem MadeAt.of_own {w w' : World} {E : TypeId} {cs : List Value} {n size : Nat} {v : Value} (K : Value → Ending) (h : w'.ownsRow w.heap.size E size v n cs) (hb : Below w.heap.size w w') : MadeAt w E cs n K (K v) w' := by
  obtain ⟨A, c, rfl, ho⟩ := OwnAt.of_own h
  exact ⟨A, c, rfl, ho, hb⟩
theorem MadeAt.nil {w w' : World} {E : TypeId} (K : Value → Ending) (hb : Below w.heap.size w w') : MadeAt w E [] 0 K (K (.slice none 0 0)) w' := ⟨none, 0, rfl, OwnAt.none_, hb⟩
theorem MadeAt.empty {w w' : World} {E : TypeId} {g : Nat} (K : Value → Ending) (hg : w.heap.size ≤ g) (h : w'.heap[g]? = some (.cells #[] E (0, 0))) (hb : Below w.heap.size w w') : MadeAt w E [] 0 K (K (.slice (some ⟨g, 0, none⟩) 0 0)) w' :=
  MadeAt.of_own K (own_empty 1 hg h) hb
theorem MadeAt.cast {w w' : World} {E : TypeId} {cs cs' : List Value} {n n' : Nat} {K K' : Value → Ending} {e e' : Ending} (h : MadeAt w E cs n K e w') (h1 : cs = cs') (h2 : n = n') (h3 : K = K') (h4 : e = e') : MadeAt w E cs' n' K' e' w' := by subst h1; subst h2; subst h3; subst h4; exact h
theorem news_top {w : World} {cs : Array Value} {t : TypeId} {g : Nat} (hg : w.heap.size = g) : ∀ j u, cs.toList[j]? = some u → (w.alloc (.cells cs t)).cell? ((⟨g, 0, none⟩ : Addr).add j) = some u := by
  subst hg; exact World.news_of_block (heap_alloc_new w _)
/-! ### marks -/
/-- What a mark returns after n elements of s cells: a name that the walk does not open. -/
def mkz (n s : Nat) : Int := 1 + ((n * s : Nat) : Int)
theorem mkz_pos (n s : Nat) : ¬ (mkz n s < 0) := by unfold mkz; omega
theorem OwnAt.row {w : World} {base g : Nat} {E : TypeId} {cs : List Value} {n : Nat} (hg : base ≤ g) (h : Row w g E cs) : OwnAt w base E cs n (some ⟨g, 0, none⟩) := .inr ⟨g, rfl, hg, h⟩
theorem OwnAt.below {w w' : World} {base : Nat} {E : TypeId} {cs : List Value} {n : Nat} {A : Option Addr} (h : OwnAt w base E cs n A) (hB : base ≤ w.heap.size) (hg : w.grownBy w' (A.map Addr.block)) : Below base w w' :=
  (Below.refl base w).grown hg hB fun k hk => by
    rcases h with ⟨rfl, _⟩ | ⟨g, rfl, hb, _⟩
    · simp at hk
    · simp at hk; omega
theorem OwnAt.other' {w w' : World} {base base' : Nat} {E : TypeId} {cs : List Value} {n : Nat} {A A' : Option Addr} {E' : TypeId} {cs' : List Value} {n' : Nat} (h : OwnAt w base E cs n A) (h' : OwnAt w base' E' cs' n' A') (hlt : ∀ g, A' = some ⟨g, 0, none⟩ → g < base) (hg : w.grownBy w' (A'.map Addr.block)) : OwnAt w' base E cs n A := by
  rcases h' with ⟨rfl, _⟩ | ⟨g', rfl, hb', _⟩
  · rcases h with h | ⟨g, e, hb, hr⟩
    · exact .inl h
    · exact .inr ⟨g, e, hb, hr.grown hg (by simp)⟩
  · exact h.other hg (hlt g' rfl)
/-! ### a list's cells, one after the other -/
theorem flat_cells {α : Type} {w : World} {b k : Nat} {enc : α → List Value} (hk : ∀ x, (enc x).length = k) : ∀ (xs : List α) (o : Nat), (∀ i (h : i < xs.length), CellsAt w b (o + i * k) (enc xs[i])) → ∀ j u, (xs.flatMap enc)[j]? = some u → w.cell? ⟨b, o + j, none⟩ = some u
  | [], o, h, j, u, hu => by simp at hu
  | x :: xs, o, h, j, u, hu => by
    rw [List.flatMap_cons] at hu
    by_cases hj : j < k
    · rw [List.getElem?_append_left (by rw [hk]; exact hj)] at hu
      have h0 := h 0 (by simp) j (by simpa [hk] using hj)
      rw [Nat.zero_mul, Nat.add_zero] at h0
      rw [h0, ← hu]
      simp only [List.getElem_cons_zero]
      rw [List.getElem?_eq_getElem (by rw [hk]; exact hj)]
    · rw [List.getElem?_append_right (by rw [hk]; omega), hk] at hu
      have h1 := flat_cells (w := w) (b := b) hk xs (o + k) (fun i hi => by
        have := h (i + 1) (by simpa using hi)
        simp only [List.getElem_cons_succ] at this
        rw [show o + k + i * k = o + (i + 1) * k by rw [Nat.add_mul]; omega]
        exact this) (j - k) u hu
      rwa [show o + k + (j - k) = o + j by omega] at h1
theorem Rd.news {α : Type} [Inhabited α] {w : World} {B k : Nat} {ad : Addr} {enc : α → List Value} {xs : List α} (h : Rd w B (some ad) k enc xs) (hk : ∀ x, (enc x).length = k) : ∀ j u, (xs.flatMap enc)[j]? = some u → w.cell? (ad.add j) = some u := fun j u hu => by
  have hp : 0 < xs.length := by
    rcases Nat.eq_zero_or_pos xs.length with h0 | h0
    · rw [List.eq_nil_of_length_eq_zero h0] at hu; simp at hu
    · exact h0
  obtain ⟨b, o, e, _, hc⟩ := h hp
  obtain rfl : ad = ⟨b, o, none⟩ := by simpa using e
  have := flat_cells (w := w) (b := b) hk xs o (fun i hi => by rw [← el_get hi]; exact hc i hi) j u hu
  rw [show (⟨b, o, none⟩ : Addr).add j = ⟨b, o + j, none⟩ from by unfold Addr.add; split <;> simp_all]
  exact this
theorem flat_one {α : Type} {enc : α → List Value} {xs : List α} (h : ∀ x, ∀ u ∈ enc x, u.oneCell' = true) : ∀ u ∈ xs.flatMap enc, u.oneCell' = true := fun u hu => by
  obtain ⟨x, _, hx⟩ := List.mem_flatMap.1 hu
  exact h x u hx
theorem own_mono {w : World} {base base' size n : Nat} {E : TypeId} {v : Value} {cs : List Value} (h : w.ownsRow base E size v n cs) (hb : base' ≤ base) : w.ownsRow base' E size v n cs := ⟨h.1, h.2.imp id fun ⟨g, cap, cur, a, b, r⟩ => ⟨g, cap, cur, a, by omega, r⟩⟩
end Go.Salt
