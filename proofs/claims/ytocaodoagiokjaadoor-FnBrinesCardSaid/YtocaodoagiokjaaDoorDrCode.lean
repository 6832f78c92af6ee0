/- A checker of draws. Part five: regions, codes, functions. No conditions. -/
import Derived.Test.YtocaodoagiokjaaDoorDrSound
set_option linter.unusedSimpArgs false
set_option linter.unusedVariables false
namespace Go.Dr
open Go.RowKit Go.Sort Go.Salt Go.Proofs.YtocaodoagiokjaaDoor
structure S where
  tm : List TV
  k : Nat
  has : Bool
def absV : Value → AV
  | .int .i64 n => .int n n
  | .bool b => .bool (!b) b
  | .string s => if s.size ≤ 100 then .str else .top
  | .slice none 0 0 => .nil
  | _ => .top
def S.ρ (σ : S) : Operand → TV
  | .tmp t => σ.tm.getD t (.one .top)
  | .const v => .one (absV v)
  | _ => .one .top
def S.put (lim : Nat) (σ : S) (d : Option Tmp) (r : TV) (k : Nat) (has : Bool) : Option S :=
  if σ.k + k ≤ lim then
    (match d with
    | none => some ⟨σ.tm, σ.k + k, has⟩
    | some d => if d < σ.tm.length then some ⟨σ.tm.set d r, σ.k + k, has⟩ else none)
  else none
def S.join (x y : S) : Option S := if x.has = y.has ∧ x.tm.length = y.tm.length then some ⟨List.zipWith TV.join x.tm y.tm, max x.k y.k, x.has⟩ else none
def joinBr : Option (Option S) → Option (Option S) → Option S
  | some (some x), some (some y) => x.join y
  | some x, none => x
  | none, some x => x
  | _, _ => none
def runOps (tb : Tab) (ents : List Ent) (lim : Nat) (ops : Array Oper) : List Oper → S → Option S
  | [], σ => some σ
  | o :: l, σ =>
    match o.guard with
    | none => (match stepOp tb ents σ.has σ.ρ o.op with
      | some r => (match σ.put lim o.dst r.1 r.2.1 r.2.2 with | some σ' => runOps tb ents lim ops l σ' | none => none)
      | none => none)
    | some jw => (match (ops[jw.1]?).bind (·.dst) with
      | some d => (match σ.tm[d]? with
        | some (.one (.bool f t)) =>
          joinBr
            (if (if jw.2 then t else f) then some (match stepOp tb ents σ.has (S.ρ ⟨σ.tm.set d (.one (.bool (!jw.2) jw.2)), σ.k, σ.has⟩) o.op with
              | some r => (match S.put lim ⟨σ.tm.set d (.one (.bool (!jw.2) jw.2)), σ.k, σ.has⟩ o.dst r.1 r.2.1 r.2.2 with | some σ' => runOps tb ents lim ops l σ' | none => none)
              | none => none) else none)
            (if (if jw.2 then f else t) then some (match S.put lim ⟨σ.tm.set d (.one (.bool jw.2 (!jw.2))), σ.k, σ.has⟩ o.dst (.one .top) 0 σ.has with | some σ' => runOps tb ents lim ops l σ' | none => none) else none)
        | _ => none)
      | none => none)
/-! drawn regions: each operation by those that it waits for, whatever the order -/
def visB (ops : Array Oper) (i : Nat) (W : List (Tmp × Nat)) (t : Tmp) : Bool := W.all fun d => d.1 != t || Region.waitsFor .any ops i d.2
def S.ρm (ops : Array Oper) (i : Nat) (W : List (Tmp × Nat)) (σ : S) : Operand → TV
  | .tmp t => if visB ops i W t then σ.ρ (.tmp t) else .one .top
  | x => σ.ρ x
def wr (W : List (Tmp × Nat)) (d : Option Tmp) (k : Nat) : List (Tmp × Nat) := match d with | some d => (d, k) :: W | none => W
/-- The operations that read the cursor, in order, and how often it was read behind each. -/
def chainOf (tb : Tab) (ents : List Ent) (ops : Array Oper) : Nat → List Oper → List (Tmp × Nat) → S → List (Nat × Nat)
  | _, [], _, _ => []
  | k, o :: l, W, σ => (match stepOp tb ents σ.has (σ.ρm ops k W) o.op with
    | none => []
    | some r =>
      if calB ents σ.has (σ.ρm ops k W) o.op then chainOf tb ents ops (k + 1) l (wr W o.dst k) ⟨match o.dst with | some d => σ.tm.set d r.1 | none => σ.tm, σ.k + r.2.1, r.2.2⟩
      else (k, σ.k + r.2.1) :: chainOf tb ents ops (k + 1) l (wr W o.dst k) ⟨match o.dst with | some d => σ.tm.set d r.1 | none => σ.tm, σ.k + r.2.1, r.2.2⟩)
def drawChk (ents : List Ent) (ops : Array Oper) (ch kks : List Nat) (k : Nat) (W : List (Tmp × Nat)) (σ : S) (o : Oper) (r : TV × Nat × Bool) : Bool :=
  o.guard.isNone && (r.2.2 == σ.has) && (match ch.idxOf? k with
    | some s => (kks[s]? == some σ.k) && (kks[s + 1]? == some (σ.k + r.2.1))
    | none => calB ents σ.has (σ.ρm ops k W) o.op && (r.2.1 == 0))
def drawOps (tb : Tab) (ents : List Ent) (lim : Nat) (ops : Array Oper) (ch kks : List Nat) : Nat → List Oper → List (Tmp × Nat) → S → Option (List TV × S)
  | _, [], _, σ => some ([], σ)
  | k, o :: l, W, σ => (match stepOp tb ents σ.has (σ.ρm ops k W) o.op with
    | none => none
    | some r =>
      if drawChk ents ops ch kks k W σ o r then
        (match σ.put lim o.dst r.1 r.2.1 r.2.2 with
        | none => none
        | some σ' => (match drawOps tb ents lim ops ch kks (k + 1) l (wr W o.dst k) σ' with
          | some x => some (r.1 :: x.1, x.2)
          | none => none))
      else none)
def runDraw (tb : Tab) (ents : List Ent) (lim : Nat) (ops : Array Oper) (σ : S) : Option S :=
  if (decide (σ.k ≤ lim) && Region.freeB ops ops.size [] && Region.chB ops ((chainOf tb ents ops 0 ops.toList [] σ).map (·.1)) && ((chainOf tb ents ops 0 ops.toList [] σ).map (·.1)).all fun c => decide (c < ops.size) && !([] : List Nat).contains c) then
    (match drawOps tb ents lim ops ((chainOf tb ents ops 0 ops.toList [] σ).map (·.1)) (σ.k :: (chainOf tb ents ops 0 ops.toList [] σ).map (·.2)) 0 ops.toList [] σ with
    | some r => if (σ.k :: (chainOf tb ents ops 0 ops.toList [] σ).map (·.2))[((chainOf tb ents ops 0 ops.toList [] σ).map (·.1)).length]? == some r.2.k then some r.2 else none
    | none => none)
  else none
structure Out where
  n : Option S
  x : List (Nat × S)
  r : List S
def joinAll : List S → Option (Option S)
  | [] => some none
  | [σ] => some (some σ)
  | σ :: l => match joinAll l with
    | some (some τ) => (match σ.join τ with | some υ => some (some υ) | none => none)
    | _ => none
def loopGo (f : S → Option Out) : Nat → S → Option Out
  | 0, _ => none
  | m + 1, σ => match f σ with
    | none => none
    | some o => (match o.n with
      | none => some o
      | some σ' => (match loopGo f m σ' with
        | none => none
        | some o2 => some ⟨o2.n, o.x ++ o2.x, o.r ++ o2.r⟩))
def an (tb : Tab) (ents : List Ent) (lim fuel : Nat) : Code → S → Option Out
  | .skip, σ => some ⟨some σ, [], []⟩
  | .region _ ops false, σ => (match runOps tb ents lim ops ops.toList σ with | some σ' => some ⟨some σ', [], []⟩ | none => none)
  | .region _ ops true, σ => (match runDraw tb ents lim ops σ with | some σ' => some ⟨some σ', [], []⟩ | none => none)
  | .seq x y, σ => (match an tb ents lim fuel x σ with
    | none => none
    | some o => (match o.n with
      | none => some o
      | some σ' => (match an tb ents lim fuel y σ' with
        | none => none
        | some o2 => some ⟨o2.n, o.x ++ o2.x, o.r ++ o2.r⟩)))
  | .cond c x y, σ => (match σ.ρ c with
    | .one (.bool f t) => (match (if t then an tb ents lim fuel x σ else some ⟨none, [], []⟩), (if f then an tb ents lim fuel y σ else some ⟨none, [], []⟩) with
      | some o, some o2 => (match joinAll (o.n.toList ++ o2.n.toList) with | some n => some ⟨n, o.x ++ o2.x, o.r ++ o2.r⟩ | none => none)
      | _, _ => none)
    | _ => none)
  | .block id b, σ => (match an tb ents lim fuel b σ with
    | none => none
    | some o => (match joinAll (o.n.toList ++ (o.x.filter (fun e => e.1 == id)).map (·.2)) with | some n => some ⟨n, o.x.filter (fun e => !(e.1 == id)), o.r⟩ | none => none))
  | .loop b, σ => loopGo (an tb ents lim fuel b) fuel σ
  | .exit id, σ => some ⟨none, [(id, σ)], []⟩
  | .ret, σ => some ⟨none, [], [σ]⟩
  | _, _ => none
def resOne (tb : Tab) (σ : S) : ResultVar → Option AV
  | .tmp t => (match σ.tm.getD t (.one .top) with | .one a => some a | _ => none)
  | .cell t ty => (match σ.tm.getD t (.one .top), tb.td ty with
    | .one (.ptr _ T o), some d => (match tb.td T with | some D => if fitsIn d D o then some d.av else none | none => none)
    | _, _ => none)
def resAll (tb : Tab) (σ : S) : List ResultVar → Option (List AV)
  | [] => some []
  | r :: l => match resOne tb σ r, resAll tb σ l with | some a, some m => some (a :: m) | _, _ => none
def resTV (l : List AV) : TV := match l with | [a] => .one a | l => .tup l
def anFun (tb : Tab) (ents : List Ent) (lim fuel : Nat) (fn : Func) (c : Code) (args : List AV) (has : Bool) : Option TV :=
  match an tb ents lim fuel c ⟨args.map .one ++ List.replicate (fn.ntmps - args.length) (.one .top), 0, has⟩ with
  | none => none
  | some o => match joinAll (o.n.toList ++ o.r) with
    | some (some σ) => if o.x.isEmpty && decide (σ.k ≤ lim) then (match resAll tb σ fn.results.toList with | some l => if plainTV (resTV l) then some (resTV l) else none | none => none) else none
    | _ => none
section
variable {P : Program} {tb : Tab} {g q : Option CI} {w0 w w' : World} {a : Act} {ents : List Ent} {ops : Array Oper} {K0 lim : Nat} {Q : Exit → Act → World → Prop}
structure St (tb : Tab) (w0 : World) (g : Option CI) (K0 : Nat) (σ : S) (q : Option CI) (a : Act) (w : World) : Prop where
  inv : Inv tb w0 g q (K0 + σ.k) w
  has : σ.has = q.isSome
  defers : a.defers = []
  size : σ.tm.length = a.tmps.size
  tm : ∀ (i : Nat) (t : TV), σ.tm[i]? = some t → ∃ v, a.tmps[i]? = some v ∧ TVok tb w0.heap.size g q w t v
theorem absV_ok {base : Nat} (v : Value) : AVok tb base g q w (absV v) v := by
  unfold absV
  split
  · exact ⟨_, rfl, by omega, by omega⟩
  · rename_i b
    exact ⟨b, rfl, fun h => by rw [h]; rfl, fun h => h⟩
  · split
    · exact ⟨_, rfl, by omega⟩
    · trivial
  · rfl
  · trivial
theorem St.ρ {σ : S} (h : St tb w0 g K0 σ q a w) (x : Operand) : TVok tb w0.heap.size g q w (σ.ρ x) (a.eval x) := by
  cases x with
  | tmp t =>
    simp only [S.ρ, List.getD_eq_getElem?_getD]
    cases ht : σ.tm[t]? with
    | none => simp only [Option.getD_none]; trivial
    | some r =>
      obtain ⟨v, hv, hok⟩ := h.tm t r ht
      simp only [Option.getD_some, Act.eval, Array.getD_eq_getD_getElem?, hv]
      exact hok
  | const v => exact absV_ok v
  | global n => trivial
  | func f => trivial
theorem set_get {α : Type} {l : List α} {d i : Nat} {x y : α} (h : (l.set d x)[i]? = some y) : (i = d ∧ y = x ∧ d < l.length) ∨ (i ≠ d ∧ l[i]? = some y) := by
  rw [List.getElem?_set] at h
  split at h
  · rename_i e
    split at h
    · exact .inl ⟨e.symm, by simpa using h.symm, by assumption⟩
    · cases h
  · exact .inr ⟨fun e => by omega, h⟩
theorem St.step {σ σ' : S} (h : St tb w0 g K0 σ q a w) {d : Option Tmp} {r : TV} {k : Nat} {has' : Bool} (hp : σ.put lim d r k has' = some σ') {v : Value} {q' : Option CI} (hk : Keep tb w0.heap.size g w w') (hi : Inv tb w0 g q' (K0 + σ.k + k) w') (hq : ∀ x, q = some x → q' = some x) (hh : has' = q'.isSome) (hv : TVok tb w0.heap.size g q' w' r v) :
    St tb w0 g K0 σ' q' (a.put d v) w' := by
  unfold S.put at hp
  split at hp
  · cases d with
    | none =>
      obtain rfl := Option.some.inj hp
      exact ⟨by rw [← Nat.add_assoc]; exact hi, hh, h.defers, h.size, fun i t ht => by
        obtain ⟨u, hu, hok⟩ := h.tm i t ht
        exact ⟨u, hu, TVok.keep hk hq hok⟩⟩
    | some d =>
      simp only at hp
      split at hp
      · rename_i hd
        obtain rfl := Option.some.inj hp
        refine ⟨by rw [← Nat.add_assoc]; exact hi, hh, h.defers, by rw [put_size]; simpa using h.size, fun i t ht => ?_⟩
        rcases set_get ht with ⟨rfl, rfl, _⟩ | ⟨hne, ht'⟩
        · exact ⟨v, by rw [put_eq, if_pos (by rw [← h.size]; exact hd)], hv⟩
        · obtain ⟨u, hu, hok⟩ := h.tm i t ht'
          exact ⟨u, by rw [put_ne _ _ _ _ (by simpa using Ne.symm hne)]; exact hu, TVok.keep hk hq hok⟩
      · cases hp
  · cases hp
theorem St.join {σ τ υ : S} (hj : σ.join τ = some υ) : (St tb w0 g K0 σ q a w → St tb w0 g K0 υ q a w) ∧ (St tb w0 g K0 τ q a w → St tb w0 g K0 υ q a w) := by
  unfold S.join at hj
  split at hj
  · rename_i hc
    obtain rfl := Option.some.inj hj
    have more : ∀ {k k'} {w : World}, Inv tb w0 g q k w → k ≤ k' → Inv tb w0 g q k' w := fun h hk => ⟨h.gq, h.qg, fun x hx => ⟨(h.cur x hx).1.le hk, (h.cur x hx).2⟩, h.fr⟩
    refine ⟨fun h => ⟨more h.inv (Nat.add_le_add_left (Nat.le_max_left ..) _), h.has, h.defers, by rw [List.length_zipWith, ← hc.2, Nat.min_self]; exact h.size, fun i t ht => ?_⟩,
      fun h => ⟨more h.inv (Nat.add_le_add_left (Nat.le_max_right ..) _), hc.1.trans h.has, h.defers, by rw [List.length_zipWith, hc.2, Nat.min_self]; exact h.size, fun i t ht => ?_⟩⟩
    · rw [List.getElem?_zipWith] at ht
      split at ht
      · rename_i x y hx hy
        obtain rfl := Option.some.inj ht
        obtain ⟨v, hv, hok⟩ := h.tm i x hx
        exact ⟨v, hv, TVok.joinL hok⟩
      · cases ht
    · rw [List.getElem?_zipWith] at ht
      split at ht
      · rename_i x y hx hy
        obtain rfl := Option.some.inj ht
        obtain ⟨v, hv, hok⟩ := h.tm i y hy
        exact ⟨v, hv, TVok.joinR hok⟩
      · cases ht
  · cases hj
theorem joinAll_ok : ∀ {l : List S} {n : Option S}, joinAll l = some n → ∀ σ ∈ l, ∃ υ, n = some υ ∧ ∀ {q a w}, St tb w0 g K0 σ q a w → St tb w0 g K0 υ q a w
  | [], _, _, σ, hs => by cases hs
  | [τ], n, h, σ, hs => by
    simp only [joinAll, Option.some.injEq] at h
    obtain rfl : σ = τ := by simpa using hs
    exact ⟨σ, h.symm, fun h => h⟩
  | τ :: τ' :: l, n, h, σ, hs => by
    rw [joinAll] at h
    · split at h
      · rename_i υ hj
        split at h
        · rename_i χ hk
          obtain rfl := Option.some.inj h
          rcases List.mem_cons.1 hs with rfl | hs
          · exact ⟨χ, rfl, fun h => (St.join hk).1 h⟩
          · obtain ⟨υ', he, hm⟩ := joinAll_ok hj σ hs
            cases he
            exact ⟨χ, rfl, fun h => (St.join hk).2 (hm h)⟩
        · cases h
      · cases h
    · simp
/-- What the checker leans on. -/
structure Ok (P : Program) (tb : Tab) (ents : List Ent) : Prop where
  mixed : P.follows .mixedOrders = true
  tab : TabOk P tb
  cur : ∀ A n c, P.built 53 [(0, .slice A n c)] = some #[.slice A n c, .int .i64 0, .int .u64 0]
  ents : ∀ e ∈ ents, Con P tb e
theorem joinBr_ok {X Y : Option (Option S)} {υ : S} (h : joinBr X Y = some υ) : (∀ x, X = some x → ∃ σ, x = some σ ∧ ∀ {q a w}, St tb w0 g K0 σ q a w → St tb w0 g K0 υ q a w) ∧ (∀ y, Y = some y → ∃ σ, y = some σ ∧ ∀ {q a w}, St tb w0 g K0 σ q a w → St tb w0 g K0 υ q a w) := by
  unfold joinBr at h
  split at h
  · rename_i x y
    exact ⟨fun z hz => by cases hz; exact ⟨x, rfl, fun k => (St.join h).1 k⟩, fun z hz => by cases hz; exact ⟨y, rfl, fun k => (St.join h).2 k⟩⟩
  · rename_i x
    exact ⟨fun z hz => by cases hz; exact ⟨υ, h, fun k => k⟩, fun z hz => by cases hz⟩
  · rename_i x
    exact ⟨fun z hz => (by cases hz), fun z hz => by cases hz; exact ⟨υ, h, fun k => k⟩⟩
  · cases h
theorem step_go (ok : Ok P tb ents) (hl : K0 + lim ≤ 999999000) {o : Oper} {l : List Oper} {σ σ' : S} {K : Act → World → Prop} {r : TV × Nat × Bool} (h : stepOp tb ents σ.has σ.ρ o.op = some r) (hp : σ.put lim o.dst r.1 r.2.1 r.2.2 = some σ') (hs : St tb w0 g K0 σ q a w) (hK : ∀ q' a' w', St tb w0 g K0 σ' q' a' w' → K a' w') : o.wp P a w K Q := by
  obtain ⟨r, k', has'⟩ := r
  have hk : K0 + σ.k + k' ≤ 999999000 := by
    have hp' : σ.put lim o.dst r k' has' = some σ' := hp
    unfold S.put at hp'
    split at hp'
    · omega
    · cases hp'
  exact stepOp_goes ok.tab ok.cur ok.ents h hs.inv hs.has hs.ρ hk K Q fun v w' q' h1 h2 h3 h4 h5 _ => hK q' _ _ (hs.step hp h1 h2 h3 h4 h5)
theorem St.setb {σ : S} {d : Nat} {f t : Bool} (h : St tb w0 g K0 σ q a w) (hd : σ.tm[d]? = some (.one (.bool f t))) : ∃ b : Bool, a.tmps[d]? = some (.bool b) ∧ (b = false → f = true) ∧ (b = true → t = true) ∧ St tb w0 g K0 ⟨σ.tm.set d (.one (.bool (!b) b)), σ.k, σ.has⟩ q a w := by
  obtain ⟨v, hv, b, rfl, h1, h2⟩ := h.tm d _ hd
  refine ⟨b, hv, h1, h2, h.inv, h.has, h.defers, by simpa using h.size, fun i t' ht => ?_⟩
  rcases set_get ht with ⟨rfl, rfl, _⟩ | ⟨hne, ht'⟩
  · exact ⟨_, hv, b, rfl, fun e => by rw [e]; rfl, fun e => e⟩
  · exact h.tm i t' ht'
theorem runOps_ok (ok : Ok P tb ents) (hl : K0 + lim ≤ 999999000) : ∀ (l : List Oper) (σ σ' : S), runOps tb ents lim ops l σ = some σ' → ∀ {q a w}, St tb w0 g K0 σ q a w → (∀ q' a' w', St tb w0 g K0 σ' q' a' w' → Q .normal a' w') → wpList P ops Q l a w
  | [], σ, σ', h, q, a, w, hs, hQ => by
    obtain rfl := Option.some.inj h
    exact hQ q a w hs
  | o :: l, σ, σ', h, q, a, w, hs, hQ => by
    unfold runOps at h
    cases hg : o.guard with
    | none =>
      simp only [hg] at h
      refine wpList_plain hg fun K hK => ?_
      split at h
      · rename_i r hr
        split at h
        · rename_i τ hp
          exact step_go ok hl (l := l) hr hp hs fun q' a' w' h' => hK _ _ (runOps_ok ok hl l τ σ' h h' hQ)
        · cases h
      · cases h
    | some jw =>
      obtain ⟨j, want⟩ := jw
      simp only [hg] at h
      split at h
      · rename_i d hd
        split at h
        · rename_i f t hb
          obtain ⟨b, hbv, hf, ht, hs'⟩ := hs.setb hb
          have hy : yielded ops a.tmps j = some b := by simp [yielded, hd, hbv]
          obtain ⟨hX, hY⟩ := joinBr_ok (tb := tb) (w0 := w0) (g := g) h
          by_cases hbw : b = want
          · subst hbw
            have hw : Region.wanted o (yielded ops a.tmps) = true := by simp [Region.wanted, hg, hy]
            have hc : (if b = true then t else f) = true := by
              cases b with
              | false => simpa using hf rfl
              | true => simpa using ht rfl
            obtain ⟨υ, e1, e2⟩ := hX _ (by rw [if_pos hc])
            refine wpList_step fun K hK => ?_
            rw [if_pos hw]
            refine ?_
            split at e1
            · rename_i r hr
              split at e1
              · rename_i τ hp
                exact step_go ok hl (l := l) hr hp hs' fun q' a' w' h' => hK _ _ (runOps_ok ok hl l τ υ e1 h' fun q2 a2 w2 h2 => hQ q2 a2 w2 (e2 h2))
              · cases e1
            · cases e1
          · have hnb : b = !want := by revert hbw; cases b <;> cases want <;> simp
            have hw : Region.wanted o (yielded ops a.tmps) = false := by
              simp only [Region.wanted, hg, hy]
              rw [hnb]; cases want <;> simp
            have hc : (if want = true then f else t) = true := by
              cases want with
              | false => simpa using ht hnb
              | true => simpa using hf hnb
            obtain ⟨υ, e1, e2⟩ := hY _ (by rw [if_pos hc])
            have hs2 : St tb w0 g K0 ⟨σ.tm.set d (.one (.bool want (!want))), σ.k, σ.has⟩ q a w := by
              have : (!b) = want := by rw [hnb]; cases want <;> rfl
              rw [this, hnb] at hs'
              exact hs'
            split at e1
            · rename_i τ hp
              have h3 := hs2.step (v := undef) (w' := w) (q' := q) hp (Keep.refl _ _ _ _) (by simpa using hs2.inv) (fun _ h => h) hs2.has trivial
              have h4 := runOps_ok ok hl l τ υ e1 h3 fun q2 a2 w2 h2 => hQ q2 a2 w2 (e2 h2)
              unfold wpList
              rw [hw]
              simpa using h4
            · cases e1
        · cases h
      · cases h
/-- From world to world, inside a drawn region. -/
def DEv (tb : Tab) (w0 : World) (g q : Option CI) (w w' : World) : Prop := Keep tb w0.heap.size g w w' ∧ ((∃ k, k ≤ 999999000 ∧ Inv tb w0 g q k w) → ∃ k, k ≤ 999999000 ∧ Inv tb w0 g q k w')
def DJ (tb : Tab) (w0 : World) (g q : Option CI) (K0 : Nat) (kks : List Nat) (s : Nat) (w : World) : Prop := ∃ kv, kks[s]? = some kv ∧ K0 + kv ≤ 999999000 ∧ Inv tb w0 g q (K0 + kv) w
theorem vis_wr {ops : Array Oper} {i : Nat} {W : List (Tmp × Nat)} {d : Option Tmp} {k : Nat} {t : Tmp} (h : visB ops i (wr W d k) t = true) : visB ops i W t = true ∧ (d = some t → Region.waitsFor .any ops i k = true) := by
  cases d with
  | none => exact ⟨h, fun h => by cases h⟩
  | some d =>
    unfold visB wr at h
    simp only [List.all_cons, Bool.and_eq_true, Bool.or_eq_true, bne_iff_ne] at h
    refine ⟨h.2, fun e => ?_⟩
    cases e
    rcases h.1 with h1 | h1
    · exact absurd rfl h1
    · exact h1
theorem put_facts {σ σ' : S} {d : Option Tmp} {r : TV} {k : Nat} {has : Bool} (hp : σ.put lim d r k has = some σ') : σ.k + k ≤ lim ∧ σ'.k = σ.k + k ∧ σ'.has = has ∧ σ'.tm.length = σ.tm.length ∧ ∀ (t : Tmp) (x : TV), σ'.tm[t]? = some x → (d = some t ∧ x = r ∧ t < σ.tm.length) ∨ (d ≠ some t ∧ σ.tm[t]? = some x) := by
  unfold S.put at hp
  split at hp
  · rename_i hl
    cases d with
    | none =>
      obtain rfl := Option.some.inj hp
      exact ⟨hl, rfl, rfl, rfl, fun t x hx => .inr ⟨by simp, hx⟩⟩
    | some d =>
      simp only at hp
      split at hp
      · obtain rfl := Option.some.inj hp
        refine ⟨hl, rfl, rfl, by simp, fun t x hx => ?_⟩
        rcases set_get hx with ⟨rfl, rfl, h⟩ | ⟨hne, h⟩
        · exact .inl ⟨rfl, rfl, h⟩
        · exact .inr ⟨by simpa using Ne.symm hne, h⟩
      · cases hp
  · cases hp
theorem ρm_ok {base : Nat} {i : Nat} {W : List (Tmp × Nat)} {σ : S} (h : ∀ (t : Tmp) (r : TV), σ.tm[t]? = some r → visB ops i W t = true → ∃ v, a.tmps[t]? = some v ∧ TVok tb base g q w r v) (x : Operand) : TVok tb base g q w (σ.ρm ops i W x) (a.eval x) := by
  cases x with
  | tmp t =>
    simp only [S.ρm]
    split
    · rename_i hv
      simp only [S.ρ, List.getD_eq_getElem?_getD]
      cases ht : σ.tm[t]? with
      | none => simp only [Option.getD_none]; trivial
      | some r =>
        obtain ⟨v, hv', hok⟩ := h t r ht hv
        simp only [Option.getD_some, Act.eval, Array.getD_eq_getD_getElem?, hv']
        exact hok
    · trivial
  | const v => exact absV_ok v
  | global n => trivial
  | func f => trivial
theorem same_q {q' : Option CI} {has : Bool} (h1 : has = q.isSome) (h2 : has = q'.isSome) (hm : ∀ x, q = some x → q' = some x) : q' = q := by
  cases q with
  | some x => exact hm x rfl
  | none =>
    cases q' with
    | none => rfl
    | some y => rw [h1] at h2; cases h2
theorem drawOps_ok (ok : Ok P tb ents) (hl : K0 + lim ≤ 999999000) {ch kks : List Nat} {w1 : World} {T : Act → World → Prop} (hw1 : ∃ k, k ≤ 999999000 ∧ Inv tb w0 g q k w1) {τ : S} {n : Nat}
    (hT : ∀ a' w', DEv tb w0 g q w1 w' → DJ tb w0 g q K0 kks ch.length w' → τ.tm.length = a'.tmps.size → a'.defers = [] → τ.has = q.isSome → (∀ (t : Tmp) (r : TV), τ.tm[t]? = some r → ∃ v, a'.tmps[t]? = some v ∧ TVok tb w0.heap.size g q w' r v) → T a' w') :
    ∀ (l : List Oper) (k : Nat) (W : List (Tmp × Nat)) (σ : S) (rs : List TV) (a : Act) (F : Nat → World → Prop) (G : World → Prop), drawOps tb ents lim ops ch kks k l W σ = some (rs, τ) → σ.has = q.isSome → σ.tm.length = a.tmps.size → a.defers = [] →
      (∀ w', DEv tb w0 g q w1 w' → G w' → ∀ (t : Tmp) (r : TV), σ.tm[t]? = some r → ∃ v, a.tmps[t]? = some v ∧ TVok tb w0.heap.size g q w' r v) →
      (∀ i, k ≤ i → ∀ w', DEv tb w0 g q w1 w' → F i w' → ∀ (t : Tmp) (r : TV), σ.tm[t]? = some r → visB ops i W t = true → ∃ v, a.tmps[t]? = some v ∧ TVok tb w0.heap.size g q w' r v) →
      freeOb P ops [] ch (DJ tb w0 g q K0 kks) (DEv tb w0 g q) w1 T k l (rs.map fun r => .inr fun u w => TVok tb w0.heap.size g q w r u) a F G
  | [], k, W, σ, rs, a, F, G, h, hh, hsz, hd, i1, i2 => by
    simp only [drawOps, Option.some.injEq, Prod.mk.injEq] at h
    obtain ⟨rfl, rfl⟩ := h
    intro w' he hj hg
    exact hT a w' he hj hsz hd hh (i1 w' he hg)
  | o :: l, k, W, σ, rs, a, F, G, h, hh, hsz, hd, i1, i2 => by
    unfold drawOps at h
    split at h
    · cases h
    · rename_i r3 hst
      obtain ⟨r, k', has'⟩ := r3
      split at h
      · rename_i hc
        unfold drawChk at hc
        simp only [Bool.and_eq_true, beq_iff_eq, Option.isNone_iff_eq_none] at hc
        obtain ⟨⟨hgd, hhas⟩, hchk⟩ := hc
        split at h
        · cases h
        · rename_i σ' hp
          split at h
          · rename_i x hr
            simp only [Option.some.injEq, Prod.mk.injEq] at h
            obtain ⟨rfl, rfl⟩ := h
            obtain ⟨p1, p2, p3, p4, p5⟩ := put_facts hp
            have p1' : σ.k + k' ≤ lim := p1
            have p2' : σ'.k = σ.k + k' := p2
            refine ⟨rfl, fun u w w' he hu => TVok.keep he.1 (fun _ h => h) hu, fun w' he hj hF => ?_, fun u => ?_⟩
            · -- the operation itself
              have hρ := ρm_ok (a := a) (ops := ops) (i2 k (Nat.le_refl _) w' he hF)
              unfold opOb
              refine wpList_plain hgd fun K hK => ?_
              cases hidx : ch.idxOf? k with
              | some s =>
                rw [hidx] at hchk
                simp only [Bool.and_eq_true, beq_iff_eq] at hchk
                obtain ⟨kv, k1, k2, k3⟩ := hj s hidx
                rw [hchk.1] at k1
                obtain rfl := Option.some.inj k1
                refine stepOp_goes ok.tab ok.cur ok.ents hst k3 hh hρ (by omega) K _ fun v w'' q' g1 g2 g3 g4 g5 _ => hK _ _ ?_
                obtain rfl := same_q (q := q) (q' := q') (has := has') (hhas.trans hh) g4 g3
                exact ⟨rfl, v, rfl, g5, ⟨g1, fun _ => ⟨_, by omega, g2⟩⟩, fun s' hs' => by
                  rw [hidx] at hs'
                  obtain rfl := Option.some.inj hs'
                  exact ⟨σ.k + k', hchk.2, by omega, by rw [← Nat.add_assoc]; exact g2⟩, fun hn => by rw [hidx] at hn; cases hn⟩
              | none =>
                rw [hidx] at hchk
                simp only [Bool.and_eq_true, beq_iff_eq] at hchk
                obtain ⟨hcal, hk0⟩ := hchk
                have hk0' : k' = 0 := hk0
                subst hk0'
                obtain ⟨kx, k1, k2⟩ := he.2 hw1
                refine stepOp_goes ok.tab ok.cur ok.ents hst k2 hh hρ (by omega) K _ fun v w'' q' g1 g2 g3 g4 g5 g6 => hK _ _ ?_
                obtain rfl := same_q (q := q) (q' := q') (has := has') (hhas.trans hh) g4 g3
                exact ⟨rfl, v, rfl, g5, ⟨g1, fun _ => ⟨_, by omega, g2⟩⟩, (fun s' hs' => by rw [hidx] at hs'; cases hs'), fun _ s' hs' => by
                  obtain ⟨kv, k1, k2, k3⟩ := hs'
                  exact ⟨kv, k1, k2, k3.calm (g6 hcal)⟩⟩
            · refine drawOps_ok ok hl hw1 (n := n) hT l (k + 1) _ σ' _ _ _ _ hr (p3.trans (hhas.trans hh)) (by rw [p4, put_size]; exact hsz) (by rw [put_defers']; exact hd) (fun w' he hg t x hx => ?_) (fun i hi w' he hF t x hx hv => ?_)
              · rcases p5 t x hx with ⟨e1, rfl, hlt⟩ | ⟨e1, hx'⟩
                · rw [e1]
                  exact ⟨u, by rw [put_eq, if_pos (by rw [← hsz]; exact hlt)], hg.2⟩
                · rw [put_ne _ _ _ _ e1]
                  exact i1 w' he hg.1 t x hx'
              · obtain ⟨v1, v2⟩ := vis_wr hv
                rcases p5 t x hx with ⟨e1, rfl, hlt⟩ | ⟨e1, hx'⟩
                · have := hF.2 (v2 e1)
                  rw [e1]
                  exact ⟨u, by rw [put_eq, if_pos (by rw [← hsz]; exact hlt)], this⟩
                · rw [put_ne _ _ _ _ e1]
                  exact i2 i (by omega) w' he hF.1 t x hx' v1
          · cases h
      · cases h
theorem runDraw_ok (ok : Ok P tb ents) (hl : K0 + lim ≤ 999999000) {id : Nat} {σ σ' : S} (h : runDraw tb ents lim ops σ = some σ') (hs : St tb w0 g K0 σ q a w) (hQ : ∀ q' a' w', St tb w0 g K0 σ' q' a' w' → Q .normal a' w') : (Code.region id ops true).wp P Q a w := by
  unfold runDraw at h
  split at h
  · rename_i hB0
    have hB : (Region.freeB ops ops.size [] && Region.chB ops ((chainOf tb ents ops 0 ops.toList [] σ).map (·.1)) && ((chainOf tb ents ops 0 ops.toList [] σ).map (·.1)).all fun c => decide (c < ops.size) && !([] : List Nat).contains c) = true := by
      simp only [Bool.and_eq_true] at hB0 ⊢
      exact ⟨⟨hB0.1.1.2, hB0.1.2⟩, hB0.2⟩
    have hk : σ.k ≤ lim := by
      simp only [Bool.and_eq_true, decide_eq_true_eq] at hB0
      exact hB0.1.1.1
    split at h
    · rename_i r hr
      split at h
      · rename_i hend
        obtain rfl := Option.some.inj h
        have he0 : ops = ops.toList.toArray := by simp
        have hstart : ∃ k, k ≤ 999999000 ∧ Inv tb w0 g q k w := ⟨K0 + σ.k, by omega, hs.inv⟩
        have hd0 : DEv tb w0 g q w { w with drawn := w.drawn + 1 } := ⟨(calm_drew (g := g) (q := q)).keep, fun ⟨k, h1, h2⟩ => ⟨k, h1, h2.calm calm_drew⟩⟩
        have hfree := drawOps_ok (n := 0) ok hl (T := fun a' w' => wpList P ops (onlyNormal Q) (ops.toList.drop ops.size) a' w') hstart (fun a' w' h1 h2 h3 h4 h5 h6 => by
          rw [List.drop_of_length_le (by simp)]
          obtain ⟨kv, k1, k2, k3⟩ := h2
          have : kv = r.2.k := by rw [beq_iff_eq.1 hend] at k1; exact (Option.some.inj k1).symm
          subst this
          exact ⟨rfl, hQ q a' w' ⟨k3, h5, h4, h3, h6⟩⟩) ops.toList 0 [] σ r.1 a (fun _ _ => True) (fun _ => True) hr hs.has hs.size hs.defers
          (fun w' he _ t x hx => by
            obtain ⟨v, hv, hok⟩ := hs.tm t x hx
            exact ⟨v, hv, TVok.keep he.1 (fun _ h => h) hok⟩)
          (fun i _ w' he _ t x hx _ => by
            obtain ⟨v, hv, hok⟩ := hs.tm t x hx
            exact ⟨v, hv, TVok.keep he.1 (fun _ h => h) hok⟩)
        have hlen : ops.toList.take ops.size = ops.toList := List.take_of_length_le (by simp)
        have := wp_region_chain (P := P) (id := id) (Q := Q) (a := a) (w := w) (l := ops.toList) ops.size [] _ (DJ tb w0 g q K0 _) (DEv tb w0 g q) _ ok.mixed (by rw [← he0]; exact hB) (fun x y z h1 h2 => ⟨h1.1.trans h2.1, fun h => h2.2 (h1.2 h)⟩) hd0 ⟨σ.k, rfl, by omega, hs.inv.calm calm_drew⟩ (by rw [← he0, hlen]; exact hfree)
        rw [← he0] at this
        exact this
      · cases h
    · cases h
  · cases h
/-- A loop, by rounds that are left. -/
theorem wp_loop_rel {c : Code} (I : Nat → Act → World → Prop) (round : ∀ n a w, I n a w → c.wp P (Exit.then (fun a' w' => ∃ m, m < n ∧ I m a' w') Q) a w) (n : Nat) (a : Act) (w : World) (h₀ : I n a w) : (Code.loop c).wp P Q a w := by
  intro b k cs
  have key : ∀ n a w, I n a w → ∃ e a' w', Q e a' w' ∧ Arrives P (lone (b.at a (.code c :: .inLoop c :: k)) cs w) b k cs e a' w' := by
    intro n
    induction n using Nat.strongRecOn with
    | _ n ih =>
      intro a w hI
      obtain ⟨e, a₁, w₁, hq, harr⟩ := round n a w hI b (.inLoop c :: k) cs
      cases e with
      | normal =>
        obtain ⟨m, hlt, hI₁⟩ := hq
        obtain ⟨e₂, a₂, w₂, hq₂, harr₂⟩ := ih m hlt a₁ w₁ hI₁
        exact ⟨e₂, a₂, w₂, hq₂, .of_steps (Steps.trans harr (.one step_inLoop)) harr₂⟩
      | _ => exact ⟨_, a₁, w₁, hq, .pass (x := .inLoop c) rfl (fun _ _ => .inl (by simp)) harr⟩
  obtain ⟨e, a', w', hq, harr⟩ := key n a w h₀
  exact ⟨e, a', w', hq, .of_steps (.one step_loop) harr⟩
def Post (tb : Tab) (w0 : World) (g : Option CI) (K0 : Nat) (o : Out) : Exit → Act → World → Prop
  | .normal, a, w => ∃ σ q, o.n = some σ ∧ St tb w0 g K0 σ q a w
  | .exit id, a, w => ∃ σ q, (id, σ) ∈ o.x ∧ St tb w0 g K0 σ q a w
  | .ret, a, w => ∃ σ q, σ ∈ o.r ∧ St tb w0 g K0 σ q a w
  | _, _, _ => False
theorem loopGo_ok {b : Code} {f : S → Option Out} (hf : ∀ σ o, f σ = some o → ∀ {q a w}, St tb w0 g K0 σ q a w → b.wp P (Post tb w0 g K0 o) a w) (m : Nat) (σ : S) (o : Out) (h : loopGo f m σ = some o) (hs : St tb w0 g K0 σ q a w) : (Code.loop b).wp P (Post tb w0 g K0 o) a w := by
  refine wp_loop_rel (fun m a w => ∃ σ o' q, loopGo f m σ = some o' ∧ St tb w0 g K0 σ q a w ∧ ∀ e a w, Post tb w0 g K0 o' e a w → Post tb w0 g K0 o e a w) ?_ m a w ⟨σ, o, q, h, hs, fun _ _ _ h => h⟩
  intro m a w ⟨σ, o', q, h, hs, hle⟩
  cases m with
  | zero => simp [loopGo] at h
  | succ m =>
    unfold loopGo at h
    cases ho : f σ with
    | none => simp [ho] at h
    | some o1 =>
      simp only [ho] at h
      refine wp_mono (hf σ o1 ho hs) fun e a' w' hp => ?_
      cases hn : o1.n with
      | none =>
        simp only [hn, Option.some.injEq] at h
        subst h
        cases e with
        | normal => obtain ⟨τ, q', e1, _⟩ := hp; rw [hn] at e1; cases e1
        | goto l => exact hp.elim
        | panic ch => exact hp.elim
        | outgrown => exact hp.elim
        | exit id => exact hle _ _ _ hp
        | ret => exact hle _ _ _ hp
      | some τ =>
        simp only [hn] at h
        cases h2 : loopGo f m τ with
        | none => simp [h2] at h
        | some o2 =>
          simp only [h2, Option.some.injEq] at h
          subst h
          cases e with
          | normal =>
            obtain ⟨τ', q', e1, hs'⟩ := hp
            rw [hn] at e1
            obtain rfl := Option.some.inj e1
            refine ⟨m, by omega, τ, o2, q', h2, hs', fun e a w hp => hle e a w ?_⟩
            cases e with
            | normal => exact hp
            | exit id => obtain ⟨τ, q', e1, e2⟩ := hp; exact ⟨τ, q', List.mem_append_right _ e1, e2⟩
            | ret => obtain ⟨τ, q', e1, e2⟩ := hp; exact ⟨τ, q', List.mem_append_right _ e1, e2⟩
            | goto l => exact hp.elim
            | panic ch => exact hp.elim
            | outgrown => exact hp.elim
          | exit id => obtain ⟨τ, q', e1, e2⟩ := hp; exact hle (.exit id) a' w' ⟨τ, q', List.mem_append_left _ e1, e2⟩
          | ret => obtain ⟨τ, q', e1, e2⟩ := hp; exact hle .ret a' w' ⟨τ, q', List.mem_append_left _ e1, e2⟩
          | goto l => exact hp.elim
          | panic ch => exact hp.elim
          | outgrown => exact hp.elim
theorem an_ok (ok : Ok P tb ents) (hl : K0 + lim ≤ 999999000) {fuel : Nat} : ∀ (c : Code) (σ : S) (o : Out), an tb ents lim fuel c σ = some o → ∀ {q a w}, St tb w0 g K0 σ q a w → c.wp P (Post tb w0 g K0 o) a w := by
  intro c
  induction c with
  | skip =>
    intro σ o h q a w hs
    simp only [an, Option.some.injEq] at h
    subst h
    exact wp_skip ⟨σ, q, rfl, hs⟩
  | region id ops draw =>
    intro σ o h q a w hs
    cases draw with
    | true =>
      simp only [an] at h
      split at h
      · rename_i σ' hr
        obtain rfl := Option.some.inj h
        exact runDraw_ok ok hl hr hs (fun q' a' w' h' => ⟨σ', q', rfl, h'⟩)
      · cases h
    | false =>
      simp only [an] at h
      split at h
      · rename_i σ' hr
        obtain rfl := Option.some.inj h
        exact wp_region_list (runOps_ok ok hl ops.toList σ σ' hr hs fun q' a' w' h' => ⟨σ', q', rfl, h'⟩)
      · cases h
  | seq x y ihx ihy =>
    intro σ o h q a w hs
    simp only [an] at h
    cases h1 : an tb ents lim fuel x σ with
    | none => simp [h1] at h
    | some o1 =>
      simp only [h1] at h
      refine wp_seq (wp_mono (ihx σ o1 h1 hs) fun e a' w' hp => ?_)
      cases hn : o1.n with
      | none =>
        simp only [hn, Option.some.injEq] at h
        subst h
        cases e with
        | normal => obtain ⟨τ, q', e1, _⟩ := hp; rw [hn] at e1; cases e1
        | _ => exact hp
      | some τ =>
        simp only [hn] at h
        cases h2 : an tb ents lim fuel y τ with
        | none => simp [h2] at h
        | some o2 =>
          simp only [h2, Option.some.injEq] at h
          subst h
          cases e with
          | normal =>
            obtain ⟨τ', q', e1, hs'⟩ := hp
            rw [hn] at e1
            obtain rfl := Option.some.inj e1
            refine wp_mono (ihy τ o2 h2 hs') fun e a w hp => ?_
            cases e with
            | normal => exact hp
            | exit id => obtain ⟨τ, q', e1, e2⟩ := hp; exact ⟨τ, q', List.mem_append_right _ e1, e2⟩
            | ret => obtain ⟨τ, q', e1, e2⟩ := hp; exact ⟨τ, q', List.mem_append_right _ e1, e2⟩
            | goto l => exact hp.elim
            | panic ch => exact hp.elim
            | outgrown => exact hp.elim
          | exit id => obtain ⟨τ, q', e1, e2⟩ := hp; exact ⟨τ, q', List.mem_append_left _ e1, e2⟩
          | ret => obtain ⟨τ, q', e1, e2⟩ := hp; exact ⟨τ, q', List.mem_append_left _ e1, e2⟩
          | goto l => exact hp.elim
          | panic ch => exact hp.elim
          | outgrown => exact hp.elim
  | cond c x y ihx ihy =>
    intro σ o h q a w hs
    simp only [an] at h
    split at h
    · rename_i f t hc
      have hv := hs.ρ c
      rw [hc] at hv
      obtain ⟨b, e, hf, ht⟩ := hv
      split at h
      · rename_i o1 o2 h1 h2
        split at h
        · rename_i n hj
          obtain rfl := Option.some.inj h
          have side : ∀ {z : Code} {oz : Out}, an tb ents lim fuel z σ = some oz → (∀ σ o, an tb ents lim fuel z σ = some o → ∀ {q a w}, St tb w0 g K0 σ q a w → z.wp P (Post tb w0 g K0 o) a w) → (∀ s, oz.n = some s → s ∈ o1.n.toList ++ o2.n.toList) → (∀ s ∈ oz.x, s ∈ o1.x ++ o2.x) → (∀ s ∈ oz.r, s ∈ o1.r ++ o2.r) → z.wp P (Post tb w0 g K0 ⟨n, o1.x ++ o2.x, o1.r ++ o2.r⟩) a w := fun hz ih h1 h2 h3 => by
            refine wp_mono (ih _ _ hz hs) fun e a w hp => ?_
            cases e with
            | normal =>
              obtain ⟨τ, q', e1, e2⟩ := hp
              obtain ⟨υ, e3, e4⟩ := joinAll_ok (tb := tb) (w0 := w0) (g := g) (K0 := K0) hj τ (h1 τ e1)
              exact ⟨υ, q', e3, e4 e2⟩
            | exit id => obtain ⟨τ, q', e1, e2⟩ := hp; exact ⟨τ, q', h2 _ e1, e2⟩
            | ret => obtain ⟨τ, q', e1, e2⟩ := hp; exact ⟨τ, q', h3 _ e1, e2⟩
            | goto l => exact hp.elim
            | panic ch => exact hp.elim
            | outgrown => exact hp.elim
          cases b with
          | true =>
            rw [if_pos (ht rfl)] at h1
            exact wp_cond_true e (side h1 ihx (fun s hs => by simp [hs]) (fun s hs => List.mem_append_left _ hs) (fun s hs => List.mem_append_left _ hs))
          | false =>
            rw [if_pos (hf rfl)] at h2
            exact wp_cond_false e (side h2 ihy (fun s hs => by simp [hs]) (fun s hs => List.mem_append_right _ hs) (fun s hs => List.mem_append_right _ hs))
        · cases h
      · cases h
    · cases h
  | block id b ih =>
    intro σ o h q a w hs
    simp only [an] at h
    cases h1 : an tb ents lim fuel b σ with
    | none => simp [h1] at h
    | some o1 =>
      simp only [h1] at h
      split at h
      · rename_i n hj
        obtain rfl := Option.some.inj h
        refine wp_block (wp_mono (ih σ o1 h1 hs) fun e a w hp => ?_)
        have mem : ∀ τ, τ ∈ o1.n.toList ++ (o1.x.filter (fun e => e.1 == id)).map (·.2) → ∀ {q}, St tb w0 g K0 τ q a w → ∃ υ q, n = some υ ∧ St tb w0 g K0 υ q a w := fun τ hτ q hs => by
          obtain ⟨υ, e3, e4⟩ := joinAll_ok (tb := tb) (w0 := w0) (g := g) (K0 := K0) hj τ hτ
          exact ⟨υ, q, e3, e4 hs⟩
        cases e with
        | normal =>
          obtain ⟨τ, q', e1, e2⟩ := hp
          exact mem τ (by simp [e1]) e2
        | exit id' =>
          obtain ⟨τ, q', e1, e2⟩ := hp
          simp only [Exit.inBlock]
          split
          · rename_i he
            subst he
            exact mem τ (List.mem_append_right _ (List.mem_map.2 ⟨(id', τ), List.mem_filter.2 ⟨e1, by simp⟩, rfl⟩)) e2
          · rename_i he
            exact ⟨τ, q', List.mem_filter.2 ⟨e1, by simpa using he⟩, e2⟩
        | ret => exact hp
        | goto l => exact hp.elim
        | panic ch => exact hp.elim
        | outgrown => exact hp.elim
      · cases h
  | loop b ih =>
    intro σ o h q a w hs
    simp only [an] at h
    exact loopGo_ok (fun σ o hf => ih σ o hf) fuel σ o h hs
  | exit id =>
    intro σ o h q a w hs
    simp only [an, Option.some.injEq] at h
    subst h
    exact wp_exit ⟨σ, q, by simp, hs⟩
  | ret =>
    intro σ o h q a w hs
    simp only [an, Option.some.injEq] at h
    subst h
    exact wp_ret ⟨σ, q, by simp, hs⟩
  | _ => intro σ o h; simp [an] at h
end
end Go.Dr
