/- Words for the laws over draws: what a draw gives, as lists; cuts of the world. No conditions. -/
import Derived.Test.YtocaodoagiokjaaDoorDrFun
import Derived.Deep.Cut
set_option linter.unusedSimpArgs false
set_option linter.unusedVariables false
namespace Go.Dr
open Go.RowKit Go.Sort Go.Salt Go.Proofs Go.Proofs.YtocaodoagiokjaaDoor
section
variable {P : Program} {tb : Tab}
/-- A draw, called with its bytes. -/
theorem draw_calls {e : Ent} (hc : Con P tb e) (h1 : e.has = false) (h2 : e.args = [.bytes]) (hk : e.k ≤ 999999000) (A : Option Addr) (n c : Nat) (w : World) (hn : n ≤ 65536) (hB : Byt w w.heap.size A n) :
    Calls P e.f #[.slice A n c] w fun en w' => ∃ v, en = .returned v ∧ TVok tb w.heap.size none none w' e.r v ∧ Below w.heap.size w w' := by
  refine (hc.2 none w 0 #[.slice A n c] h1 (fun x hx => by cases hx) (by omega) (by rw [h2]; rfl) (fun i av hav => ?_)).mono fun en w' h => ?_
  · rw [h2] at hav
    match i, hav with
    | 0, hav => obtain rfl : AV.bytes = av := by simpa using hav
                exact ⟨_, rfl, A, n, c, rfl, hn, hB, rfl⟩
  · obtain ⟨v, h3, h4, _, h5⟩ := h
    exact ⟨v, h3, h4, h5.os, h5.tape, h5.output, h5.size, fun k hk => h5.block k hk (by simp)⟩
/-- What is known of a function that reads no cursor. -/
theorem Con.pure {e : Ent} {fn : Func} (hf : P.funcs[e.f]? = some fn) (hn : (fn.name == "runtime.NumGoroutine") = false) (hb : fn.body.isSome = true) (h1 : e.has = false)
    (h : ∀ (w : World) (args : Array Value), args.size = e.args.length → (∀ (i : Nat) (av : AV), e.args[i]? = some av → ∃ v, args[i]? = some v ∧ AVok tb w.heap.size none none w av v) → Calls P e.f args w fun en w' => ∃ v, en = .returned v ∧ TVok tb w.heap.size none none w' e.r v ∧ Below w.heap.size w w') : Con P tb e := by
  refine ⟨⟨fn, hf, hn, hb⟩, fun g w K args hh hc hk hs ha => ?_⟩
  have hg : g = none := by
    cases g with
    | none => rfl
    | some x => rw [h1] at hh; cases hh
  subst hg
  refine (h w args hs ha).mono fun en w' hen => ?_
  obtain ⟨v, e1, e2, e3⟩ := hen
  exact ⟨v, e1, e2, (fun x hx => by cases hx), e3.os, e3.tape, e3.output, e3.size, fun k hk _ => e3.block k hk⟩
theorem agg_mk {base : Nat} {g q : Option CI} {w : World} (zs : List Int) (h : ∀ z ∈ zs, -9223372036854775808 ≤ z ∧ z ≤ 9223372036854775807) : AVok tb base g q w (.agg (List.replicate zs.length .int)) (.agg (zs.map (Value.int .i64)).toArray) := by
  refine ⟨_, rfl, by simp, fun i v hv => ?_⟩
  simp only [List.getElem?_toArray, List.getElem?_map] at hv
  cases hz : zs[i]? with
  | none => simp [hz] at hv
  | some z =>
    simp only [hz, Option.map_some, Option.some.injEq] at hv
    have hi := (List.getElem?_eq_some_iff.1 hz).1
    refine ⟨.int, ?_, z, hv.symm, h z (List.mem_of_getElem? hz)⟩
    simp [List.getElem?_replicate, Nat.mod_eq_of_lt hi, hi]
theorem tup_mk2 {base : Nat} {g q : Option CI} {w : World} {x y : AV} {u v : Value} (h1 : AVok tb base g q w x u) (h2 : AVok tb base g q w y v) : TVok tb base g q w (.tup [x, y]) (.tuple #[u, v]) :=
  ⟨_, rfl, rfl, fun i a ha => by
    match i, ha with
    | 0, ha => obtain rfl : x = a := by simpa using ha
               exact ⟨u, rfl, h1⟩
    | 1, ha => obtain rfl : y = a := by simpa using ha
               exact ⟨v, rfl, h2⟩⟩
theorem bool_mk {base : Nat} {g q : Option CI} {w : World} (b : Bool) : AVok tb base g q w (.bool true true) (.bool b) := ⟨b, rfl, fun _ => rfl, fun _ => rfl⟩
theorem one_of {base : Nat} {g q : Option CI} {w : World} {x : AV} {v : Value} (h : TVok tb base g q w (.one x) v) : AVok tb base g q w x v := h
theorem tup2 {base : Nat} {g q : Option CI} {w : World} {x y : AV} {v : Value} (h : TVok tb base g q w (.tup [x, y]) v) : ∃ u1 u2, v = .tuple #[u1, u2] ∧ AVok tb base g q w x u1 ∧ AVok tb base g q w y u2 := by
  obtain ⟨vs, rfl, h1, h2⟩ := h
  obtain ⟨u1, k1, a1⟩ := h2 0 x rfl
  obtain ⟨u2, k2, a2⟩ := h2 1 y rfl
  refine ⟨u1, u2, ?_, a1, a2⟩
  congr 1
  apply Array.ext_getElem?
  intro i
  match i with
  | 0 => simpa using k1
  | 1 => simpa using k2
  | i + 2 => simp [h1]
theorem tup3 {base : Nat} {g q : Option CI} {w : World} {x y z : AV} {v : Value} (h : TVok tb base g q w (.tup [x, y, z]) v) : ∃ u1 u2 u3, v = .tuple #[u1, u2, u3] ∧ AVok tb base g q w x u1 ∧ AVok tb base g q w y u2 ∧ AVok tb base g q w z u3 := by
  obtain ⟨vs, rfl, h1, h2⟩ := h
  obtain ⟨u1, k1, a1⟩ := h2 0 x rfl
  obtain ⟨u2, k2, a2⟩ := h2 1 y rfl
  obtain ⟨u3, k3, a3⟩ := h2 2 z rfl
  refine ⟨u1, u2, u3, ?_, a1, a2, a3⟩
  congr 1
  apply Array.ext_getElem?
  intro i
  match i with
  | 0 => simpa using k1
  | 1 => simpa using k2
  | 2 => simpa using k3
  | i + 3 => simp [h1]
theorem tup4 {base : Nat} {g q : Option CI} {w : World} {x y z t : AV} {v : Value} (h : TVok tb base g q w (.tup [x, y, z, t]) v) : ∃ u1 u2 u3 u4, v = .tuple #[u1, u2, u3, u4] ∧ AVok tb base g q w x u1 ∧ AVok tb base g q w y u2 ∧ AVok tb base g q w z u3 ∧ AVok tb base g q w t u4 := by
  obtain ⟨vs, rfl, h1, h2⟩ := h
  obtain ⟨u1, k1, a1⟩ := h2 0 x rfl
  obtain ⟨u2, k2, a2⟩ := h2 1 y rfl
  obtain ⟨u3, k3, a3⟩ := h2 2 z rfl
  obtain ⟨u4, k4, a4⟩ := h2 3 t rfl
  refine ⟨u1, u2, u3, u4, ?_, a1, a2, a3, a4⟩
  congr 1
  apply Array.ext_getElem?
  intro i
  match i with
  | 0 => simpa using k1
  | 1 => simpa using k2
  | 2 => simpa using k3
  | 3 => simpa using k4
  | i + 4 => simp [h1]
theorem int_of {base : Nat} {g q : Option CI} {w : World} {v : Value} (h : AVok tb base g q w full v) : ∃ z : Int, v = .int .i64 z ∧ -9223372036854775808 ≤ z ∧ z ≤ 9223372036854775807 := h
/-- A struct of ints. -/
theorem agg_of {base : Nat} {g q : Option CI} {w : World} {k : Nat} {v : Value} (h : AVok tb base g q w (.agg (List.replicate k .int)) v) : ∃ f : Nat → Int, v = .agg ((List.range k).map fun j => Value.int .i64 (f j)).toArray ∧ ∀ j, j < k → -9223372036854775808 ≤ f j ∧ f j ≤ 9223372036854775807 := by
  obtain ⟨arr, rfl, h1, h2⟩ := h
  simp only [List.length_replicate] at h1
  have hz : ∀ j, j < k → ∃ z : Int, arr[j]? = some (.int .i64 z) ∧ -9223372036854775808 ≤ z ∧ z ≤ 9223372036854775807 := fun j hj => by
    obtain ⟨c, hc1, hc2⟩ := h2 j _ (Array.getElem?_eq_getElem (by omega))
    simp only [List.length_replicate, Nat.mod_eq_of_lt hj, List.getElem?_replicate, if_pos hj, Option.some.injEq] at hc1
    subst hc1
    obtain ⟨z, e, z1, z2⟩ := hc2
    exact ⟨z, by rw [Array.getElem?_eq_getElem (by omega), e], z1, z2⟩
  refine ⟨fun j => match arr[j]? with | some (.int _ z) => z | _ => 0, ?_, fun j hj => ?_⟩
  · congr 1
    apply Array.ext_getElem?
    intro j
    by_cases hj : j < k
    · obtain ⟨z, hz1, _⟩ := hz j hj
      simp [hj, hz1]
    · rw [Array.getElem?_eq_none (by omega)]
      simp [hj]
  · obtain ⟨z, hz1, hz2⟩ := hz j hj
    simp only [hz1]
    exact hz2
/-- A slice of structs of ints, as a list. -/
theorem rows_of {α : Type} [Inhabited α] {base : Nat} {g q : Option CI} {w : World} {own : Bool} {T : TypeId} {lo hi cl k : Nat} {d : TD} {v : Value} (hd : tb.td T = some d) (hct : d.ct = List.replicate k .int) (hk : 0 < k) (enc : α → List Value) (dec : (Nat → Int) → α) (hdec : ∀ g, enc (dec g) = (List.range k).map fun j => Value.int .i64 (g j))
    (h : AVok tb base g q w (.sl own T lo hi cl) v) : ∃ (A : Option Addr) (xs : List α) (c : Nat), v = .slice A xs.length c ∧ lo ≤ xs.length ∧ xs.length ≤ hi ∧ Rd w w.heap.size A k enc xs ∧ (1 ≤ cl → ∃ ad, A = some ad) ∧ ∀ i, i < xs.length → ∃ g : Nat → Int, el xs i = dec g ∧ ∀ j, j < k → -9223372036854775808 ≤ g j ∧ g j ≤ 9223372036854775807 := by
  obtain ⟨A, len, cap, rfl, h1, h2, h3, h4, h5, h6⟩ := h
  cases A with
  | none =>
    have := h5 rfl
    obtain rfl : len = 0 := by omega
    exact ⟨none, [], cap, rfl, by simpa using h1, by simp, Rd.nil, (fun hc => by omega), fun i hi => by simp at hi⟩
  | some ad =>
    obtain ⟨b, m, i, d', rfl, hT, hD, him⟩ := h6 ad rfl
    rw [hd] at hD
    obtain rfl := Option.some.inj hD
    obtain ⟨_, cs, d', hh, hd', hs, hc⟩ := hT
    rw [hd] at hd'
    obtain rfl := Option.some.inj hd'
    have hL : d.ct.length = k := by rw [hct]; simp
    rw [hL] at hs
    have hz : ∀ a, a < len → ∀ j, j < k → ∃ z : Int, cs[i * k + (a * k + j)]? = some (.int .i64 z) ∧ -9223372036854775808 ≤ z ∧ z ≤ 9223372036854775807 := fun a ha j hj => by
      have hlt : i * k + (a * k + j) < cs.size := by
        have := fit_lt (i := i + a) (m := m) (L := k) (o := j) (n := 1) (by omega) (by omega)
        rw [Nat.add_mul] at this
        omega
      obtain ⟨c, hc1, hc2⟩ := hc _ _ (Array.getElem?_eq_getElem hlt)
      rw [hct] at hc1
      have := List.mem_of_getElem? hc1
      obtain rfl := List.eq_of_mem_replicate this
      obtain ⟨z, e, z1, z2⟩ := hc2
      exact ⟨z, by rw [Array.getElem?_eq_getElem hlt, e], z1, z2⟩
    rw [hL]
    refine ⟨_, (List.range len).map fun a => dec fun j => match cs[i * k + (a * k + j)]? with | some (.int _ z) => z | _ => 0, cap, by simp, by simpa using h1, by simpa using h2, fun hp => ⟨b, i * k, rfl, block_lt hh, fun a ha j hj => ?_⟩, (fun _ => ⟨_, rfl⟩), fun a ha => ⟨fun j => match cs[i * k + (a * k + j)]? with | some (.int _ z) => z | _ => 0, ?_, fun j hj => ?_⟩⟩
    have ha' : a < len := by simpa using ha
    have e1 : el ((List.range len).map fun a => dec fun j => match cs[i * k + (a * k + j)]? with | some (.int _ z) => z | _ => 0) a = dec fun j => match cs[i * k + (a * k + j)]? with | some (.int _ z) => z | _ => 0 := by
      rw [el_get (by simpa using ha')]
      simp
    have hj' : j < k := by
      rw [e1, hdec] at hj
      simpa using hj
    obtain ⟨z, hz1, _⟩ := hz a ha' j hj'
    rw [Nat.add_assoc, cell_of_row w b _ cs _ (0, 0) hh, hz1]
    have e2 : (enc (el ((List.range len).map fun a => dec fun j => match cs[i * k + (a * k + j)]? with | some (.int _ z) => z | _ => 0) a))[j]? = some (Value.int .i64 z) := by
      rw [e1, hdec]
      simp [hj', hz1]
    rw [List.getElem?_eq_getElem hj] at e2
    exact e2.symm
    · rw [el_get ha]; simp
    · obtain ⟨z, hz1, hz2⟩ := hz a (by simpa using ha) j hj
      simp only [hz1]
      exact hz2
end
theorem cut_calls {P : Program} {f : FuncId} {args : Array Value} {W : World} {R : Ending → World → Prop} (F : World → Prop) (h1 : F W) (h2 : ∀ X, F X → Calls P f args X R) : Calls P f args W R := h2 W h1
end Go.Dr
namespace Go.Proofs.YtocaodoagiokjaaDoor
open Go.RowKit Go.Sort Go.Salt
/-- The k-th statement of a sequence, and what follows it. -/
def tailOf : Nat → Code → Code
  | 0, c => c
  | k + 1, .seq _ b => tailOf k b
  | _ + 1, c => c
def headOf : Code → Code
  | .seq a _ => a
  | c => c
theorem row1c {w : World} {g : Nat} {E : TypeId} {x0 : Value} (h : Row w g E [x0]) : w.cell? ⟨g, 0, none⟩ = some x0 :=
  h.cell (j := 0) (by simp)
theorem row2c {w : World} {g : Nat} {E : TypeId} {x0 x1 : Value} (h : Row w g E [x0, x1]) : w.cell? ⟨g, 0, none⟩ = some x0 ∧ w.cell? ⟨g, 1, none⟩ = some x1 :=
  ⟨h.cell (j := 0) (by simp), h.cell (j := 1) (by simp)⟩
theorem row3c {w : World} {g : Nat} {E : TypeId} {x0 x1 x2 : Value} (h : Row w g E [x0, x1, x2]) : w.cell? ⟨g, 0, none⟩ = some x0 ∧ w.cell? ⟨g, 1, none⟩ = some x1 ∧ w.cell? ⟨g, 2, none⟩ = some x2 :=
  ⟨h.cell (j := 0) (by simp), h.cell (j := 1) (by simp), h.cell (j := 2) (by simp)⟩
theorem row4c {w : World} {g : Nat} {E : TypeId} {x0 x1 x2 x3 : Value} (h : Row w g E [x0, x1, x2, x3]) : w.cell? ⟨g, 0, none⟩ = some x0 ∧ w.cell? ⟨g, 1, none⟩ = some x1 ∧ w.cell? ⟨g, 2, none⟩ = some x2 ∧ w.cell? ⟨g, 3, none⟩ = some x3 :=
  ⟨h.cell (j := 0) (by simp), h.cell (j := 1) (by simp), h.cell (j := 2) (by simp), h.cell (j := 3) (by simp)⟩
theorem row5c {w : World} {g : Nat} {E : TypeId} {x0 x1 x2 x3 x4 : Value} (h : Row w g E [x0, x1, x2, x3, x4]) : w.cell? ⟨g, 0, none⟩ = some x0 ∧ w.cell? ⟨g, 1, none⟩ = some x1 ∧ w.cell? ⟨g, 2, none⟩ = some x2 ∧ w.cell? ⟨g, 3, none⟩ = some x3 ∧ w.cell? ⟨g, 4, none⟩ = some x4 :=
  ⟨h.cell (j := 0) (by simp), h.cell (j := 1) (by simp), h.cell (j := 2) (by simp), h.cell (j := 3) (by simp), h.cell (j := 4) (by simp)⟩
theorem row6c {w : World} {g : Nat} {E : TypeId} {x0 x1 x2 x3 x4 x5 : Value} (h : Row w g E [x0, x1, x2, x3, x4, x5]) : w.cell? ⟨g, 0, none⟩ = some x0 ∧ w.cell? ⟨g, 1, none⟩ = some x1 ∧ w.cell? ⟨g, 2, none⟩ = some x2 ∧ w.cell? ⟨g, 3, none⟩ = some x3 ∧ w.cell? ⟨g, 4, none⟩ = some x4 ∧ w.cell? ⟨g, 5, none⟩ = some x5 :=
  ⟨h.cell (j := 0) (by simp), h.cell (j := 1) (by simp), h.cell (j := 2) (by simp), h.cell (j := 3) (by simp), h.cell (j := 4) (by simp), h.cell (j := 5) (by simp)⟩
theorem row7c {w : World} {g : Nat} {E : TypeId} {x0 x1 x2 x3 x4 x5 x6 : Value} (h : Row w g E [x0, x1, x2, x3, x4, x5, x6]) : w.cell? ⟨g, 0, none⟩ = some x0 ∧ w.cell? ⟨g, 1, none⟩ = some x1 ∧ w.cell? ⟨g, 2, none⟩ = some x2 ∧ w.cell? ⟨g, 3, none⟩ = some x3 ∧ w.cell? ⟨g, 4, none⟩ = some x4 ∧ w.cell? ⟨g, 5, none⟩ = some x5 ∧ w.cell? ⟨g, 6, none⟩ = some x6 :=
  ⟨h.cell (j := 0) (by simp), h.cell (j := 1) (by simp), h.cell (j := 2) (by simp), h.cell (j := 3) (by simp), h.cell (j := 4) (by simp), h.cell (j := 5) (by simp), h.cell (j := 6) (by simp)⟩
theorem row_new_at' (W : World) (E : TypeId) (arr : Array Value) (g : Nat) (h : W.heap.size = g) : Row (W.alloc (.cells arr E)) g E arr.toList := by subst h; exact Row.new W E arr
end Go.Proofs.YtocaodoagiokjaaDoor
namespace Go.Proofs.YtocaodoagiokjaaDoor
open Go.RowKit Go.Sort Go.Salt
theorem vBig_any (A : Option Addr) (n c : Nat) (w : World) : Calls Tryd.prog 4 #[.slice A n c] w fun e w' => e = .returned (.bool (decide (65536 < n))) ∧ w = w' := by
  go_enter Tryd.func4, Tryd.ntmps4
  go_wp2
  go_ret
  exact ⟨by simp; omega, rfl⟩
end Go.Proofs.YtocaodoagiokjaaDoor
