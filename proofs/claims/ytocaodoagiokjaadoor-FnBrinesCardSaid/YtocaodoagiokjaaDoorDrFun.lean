/- A checker of draws. Part six: functions. No conditions. -/
import Derived.Test.YtocaodoagiokjaaDoorDrCode
set_option linter.unusedSimpArgs false
set_option linter.unusedVariables false
namespace Go.Dr
open Go.RowKit Go.Sort Go.Salt Go.Proofs.YtocaodoagiokjaaDoor
section
variable {P : Program} {tb : Tab} {g q : Option CI} {w0 w w' : World} {a : Act} {ents : List Ent} {K0 lim : Nat}
def TV.leB : TV → TV → Bool
  | .one x, .one y => x.leB y
  | .tup l, .tup m => (l.length == m.length) && (List.range l.length).all fun i => match l[i]?, m[i]? with | some x, some y => x.leB y | _, _ => false
  | _, _ => false
theorem TVok.le {base : Nat} {x y : TV} {v : Value} (h : TVok tb base g q w x v) (hl : x.leB y = true) : TVok tb base g q w y v := by
  cases x with
  | one x =>
    cases y with
    | one y => exact AVok.le (x := x) (y := y) h hl
    | tup m => cases hl
  | tup l =>
    cases y with
    | one y => cases hl
    | tup m =>
      simp only [TV.leB, Bool.and_eq_true, beq_iff_eq] at hl
      obtain ⟨vs, e, h1, h2⟩ := h
      refine ⟨vs, e, by omega, fun i y hy => ?_⟩
      have hi : i < l.length := by rw [hl.1]; exact (List.getElem?_eq_some_iff.1 hy).1
      have h3 := List.all_eq_true.1 hl.2 i (List.mem_range.2 hi)
      rw [hy, List.getElem?_eq_getElem hi] at h3
      obtain ⟨u, hu, h4⟩ := h2 i _ (List.getElem?_eq_getElem hi)
      exact ⟨u, hu, AVok.le h4 h3⟩
theorem AVok.swap {base : Nat} {q' : Option CI} {av : AV} {v : Value} (h : AVok tb base g q w av v) (hn : av ≠ .cur) : AVok tb base g q' w av v := by
  cases av with
  | cur => exact absurd rfl hn
  | _ => exact h
theorem TVok.swap {base : Nat} {q' : Option CI} {t : TV} {v : Value} (h : TVok tb base g q w t v) (hp : plainTV t = true) : TVok tb base g q' w t v := by
  cases t with
  | one x =>
    simp only [plainTV, Bool.and_eq_true] at hp
    exact AVok.swap (av := x) h (noCur_spec hp.2 (List.mem_cons_self ..))
  | tup l =>
    simp only [plainTV, Bool.and_eq_true] at hp
    obtain ⟨vs, e, h1, h2⟩ := h
    refine ⟨vs, e, h1, fun i x hx => ?_⟩
    obtain ⟨u, hu, h3⟩ := h2 i x hx
    exact ⟨u, hu, AVok.swap h3 (noCur_spec hp.2 (List.mem_of_getElem? hx))⟩
/-- One result. -/
def resRun (tmps : Array Value) : ResultVar → Sem Value
  | .tmp t => pure (tmps.getD t undef)
  | .cell x t => do loadVar t (← asAddr (tmps.getD x undef))
theorem resOne_ok (tok : TabOk P tb) {σ : S} (hs : St tb w0 g K0 σ q a w) {r : ResultVar} {av : AV} (h : resOne tb σ r = some av) : ∃ v, (resRun a.tmps r).run P w = .ok v w ∧ AVok tb w0.heap.size g q w av v := by
  cases r with
  | tmp t =>
    have hv := hs.ρ (.tmp t)
    simp only [S.ρ] at hv
    simp only [resOne] at h
    split at h
    · rename_i x he
      obtain rfl := Option.some.inj h
      rw [he] at hv
      exact ⟨a.tmps.getD t undef, by simp [resRun], hv⟩
    · cases h
  | cell t ty =>
    have hv := hs.ρ (.tmp t)
    simp only [S.ρ] at hv
    simp only [resOne] at h
    split at h
    · rename_i own T off d he hd
      rw [he] at hv
      split at h
      · rename_i D hD
        split at h
        · rename_i hf
          obtain rfl := Option.some.inj h
          obtain ⟨b, m, i, D', e, hT, hD', him⟩ := hv
          rw [hD] at hD'; cases hD'
          simp only [fitsIn, Bool.and_eq_true, decide_eq_true_eq] at hf
          obtain ⟨v, h1, h2⟩ := run_loadPart (g := g) (q := q) tok hT hD hd him hf.1 hf.2
          refine ⟨v, ?_, h2⟩
          have e' : a.tmps.getD t undef = .pointer (some ⟨b, i * D.ct.length + off, none⟩) := e
          simp [resRun, e', asAddr, h1]
        · cases h
      · cases h
    · cases h
theorem resAll_ok (tok : TabOk P tb) {σ : S} (hs : St tb w0 g K0 σ q a w) : ∀ {l : List ResultVar} {m : List AV}, resAll tb σ l = some m → ∃ vs : List Value, (l.mapM (resRun a.tmps)).run P w = .ok vs w ∧ vs.length = m.length ∧ ∀ (i : Nat) (av : AV), m[i]? = some av → ∃ u, vs[i]? = some u ∧ AVok tb w0.heap.size g q w av u
  | [], m, h => by
    obtain rfl := Option.some.inj h
    exact ⟨[], by simp, rfl, fun i av h => by simp at h⟩
  | r :: l, m, h => by
    simp only [resAll] at h
    split at h
    · rename_i x n h1 h2
      obtain rfl := Option.some.inj h
      obtain ⟨v, r1, r2⟩ := resOne_ok tok hs h1
      obtain ⟨vs, s1, s2, s3⟩ := resAll_ok tok hs h2
      refine ⟨v :: vs, by simp [List.mapM_cons, r1, s1], by simp [s2], fun i av hi => ?_⟩
      match i, hi with
      | 0, hi => obtain rfl : x = av := by simpa using hi
                 exact ⟨v, rfl, r2⟩
      | i + 1, hi => exact s3 i av (by simpa using hi)
    · cases h
theorem results_ok (tok : TabOk P tb) {fn : Func} {σ : S} (hs : St tb w0 g K0 σ q a w) {m : List AV} (h : resAll tb σ fn.results.toList = some m) : ∃ v, (results fn a.tmps).run P w = .ok v w ∧ TVok tb w0.heap.size g q w (resTV m) v := by
  obtain ⟨vs, h1, h2, h3⟩ := resAll_ok tok hs h
  have e : results fn a.tmps = (do let us ← fn.results.mapM (resRun a.tmps); pure (if h : us.size = 1 then us[0] else .tuple us)) := by
    unfold results
    congr 1
  rw [e]
  simp only [Array.mapM_eq_mapM_toList, Sem.run_bind, Sem.run_map, h1, Result.andThen_ok, Sem.run_pure]
  by_cases hl : m.length = 1
  · match m, hl, h2, h3 with
    | [av], _, h2, h3 =>
      match vs, h2, h3 with
      | [u], _, h3 =>
        obtain ⟨u', hu, hok⟩ := h3 0 av rfl
        obtain rfl : u = u' := by simpa using hu
        exact ⟨u, by simp, hok⟩
  · have hr : resTV m = .tup m := by
      unfold resTV
      split
      · simp at hl
      · rfl
    rw [hr]
    refine ⟨.tuple vs.toArray, ?_, vs.toArray, rfl, by simpa using h2, fun i av hi => by simpa using h3 i av hi⟩
    rw [dif_neg (by simp; omega)]
/-- What the checker finds of a function is so. -/
theorem anFun_con (ok : Ok P tb ents) {fuel : Nat} {fn : Func} {c : Code} {e : Ent} {r : TV} (hf : P.funcs[e.f]? = some fn) (hn : (fn.name == "runtime.NumGoroutine") = false) (hb : fn.body = some c) (h : anFun tb ents e.k fuel fn c e.args e.has = some r) (hr : r.leB e.r = true) : Con P tb e := by
  refine ⟨⟨fn, hf, hn, by rw [hb]; rfl⟩, fun g w K args hhas hcur hk hlen hargs => ?_⟩
  unfold anFun at h
  split at h
  · cases h
  · rename_i o ho
    split at h
    · rename_i σ hj
      split at h
      · rename_i hx
        simp only [Bool.and_eq_true, List.isEmpty_iff, decide_eq_true_eq] at hx
        split at h
        · rename_i l hl
          split at h
          · rename_i hpl
            obtain rfl := Option.some.inj h
            have hs0 : St tb w g K ⟨e.args.map .one ++ List.replicate (fn.ntmps - e.args.length) (.one .top), 0, e.has⟩ g { tmps := args ++ Array.replicate (fn.ntmps - args.size) undef, defers := [] } w := by
              refine ⟨⟨fun x h => h, fun x hx => .inl ⟨hx, (hcur x hx).1⟩, fun x hx => ⟨(hcur x hx).2.1, byt_more (hcur x hx).2.1.1 (by have := (hcur x hx).1; omega), (hcur x hx).2.2⟩, World.grownBy.refl _ _⟩, hhas, rfl, by simp [hlen], fun i t ht => ?_⟩
              rw [List.getElem?_append] at ht
              split at ht
              · rename_i hi
                rw [List.getElem?_map] at ht
                cases hai : e.args[i]? with
                | none => simp [hai] at ht
                | some av =>
                  simp only [hai, Option.map_some, Option.some.injEq] at ht
                  subst ht
                  obtain ⟨v, hv, hok⟩ := hargs i av hai
                  exact ⟨v, by rw [Array.getElem?_append_left (Array.getElem?_eq_some_iff.1 hv).1]; exact hv, hok⟩
              · rename_i hi
                have hi' : ¬ i < e.args.length := by simpa using hi
                have hlt := (List.getElem?_eq_some_iff.1 ht).1
                simp only [List.length_map, List.length_replicate] at hlt
                have : t = .one .top := by
                  rw [List.getElem?_replicate] at ht
                  split at ht
                  · exact (Option.some.inj ht).symm
                  · cases ht
                subst this
                refine ⟨undef, ?_, trivial⟩
                rw [Array.getElem?_append_right (by omega), Array.getElem?_replicate, if_pos (by omega)]
            refine calls_of_wp hf hb (wp_mono (an_ok ok (w0 := w) (g := g) (K0 := K) (lim := e.k) hk c _ o ho hs0) fun ex a' w' hp => ?_)
            have fin : ∀ τ q', τ ∈ o.n.toList ++ o.r → St tb w g K τ q' a' w' → a'.defers = [] ∧ ∃ v, (results fn a'.tmps).run P w' = .ok v w' ∧ ∃ u, Ending.returned v = .returned u ∧ TVok tb w.heap.size g g w' e.r u ∧ (∀ x, g = some x → Cur w' x.p x.A x.n x.c (K + e.k)) ∧ w.grownBy w' (g.map (·.p)) := fun τ q' hτ hs => by
              obtain ⟨υ, e3, e4⟩ := joinAll_ok (tb := tb) (w0 := w) (g := g) (K0 := K) hj τ hτ
              obtain rfl := Option.some.inj e3
              have hs' := e4 hs
              obtain ⟨v, v1, v2⟩ := results_ok ok.tab hs' hl
              refine ⟨hs'.defers, v, v1, v, rfl, TVok.le (TVok.swap v2 hpl) hr, fun x hgx => ?_, hs'.inv.fr⟩
              have hq := hs'.inv.gq x hgx
              exact (hs'.inv.cur x hq).1.le (Nat.add_le_add_left hx.2 _)
            cases ex with
            | normal => obtain ⟨τ, q', e1, e2⟩ := hp; exact fin τ q' (by simp [e1]) e2
            | ret => obtain ⟨τ, q', e1, e2⟩ := hp; exact fin τ q' (by simp [e1]) e2
            | exit id => obtain ⟨τ, q', e1, e2⟩ := hp; rw [hx.1] at e1; cases e1
            | goto l => exact hp.elim
            | panic ch => exact hp.elim
            | outgrown => exact hp.elim
          · cases h
        · cases h
      · cases h
    · cases h
end
end Go.Dr
namespace Go.Dr
open Go.RowKit Go.Sort Go.Salt Go.Proofs Go.Proofs.YtocaodoagiokjaaDoor
def chk (tb : Tab) (ents : List Ent) (fuel : Nat) (fn : Func) (e : Ent) : Bool :=
  !(fn.name == "runtime.NumGoroutine") && (match fn.body with
  | none => false
  | some c => (match anFun tb ents e.k fuel fn c e.args e.has with
    | none => false
    | some r => r.leB e.r))
section
variable {P : Program} {tb : Tab} {ents : List Ent}
theorem chk_con (ok : Ok P tb ents) (fuel : Nat) {fn : Func} {e : Ent} (hf : P.funcs[e.f]? = some fn) (h : chk tb ents fuel fn e = true) : Con P tb e := by
  unfold chk at h
  simp only [Bool.and_eq_true, Bool.not_eq_true'] at h
  obtain ⟨h1, h2⟩ := h
  split at h2
  · cases h2
  · rename_i c hc
    split at h2
    · cases h2
    · rename_i r hr
      exact anFun_con ok hf h1 hc hr h2
theorem Ok.cons (ok : Ok P tb ents) {e : Ent} (h : Con P tb e) : Ok P tb (e :: ents) := ⟨ok.mixed, ok.tab, ok.cur, fun x hx => by
  rcases List.mem_cons.1 hx with rfl | hx
  · exact h
  · exact ok.ents x hx⟩
/-! ### the cursor's own -/
def pickEnt (m : Nat) : Ent := ⟨46, true, [.cur, .int 1 m], .one (.int 0 (m - 1)), 2⟩
def amongEnt : Ent := ⟨36, true, [.cur, .sl false 3 1 1000000 0], .one full, 2⟩
theorem some_has {e : Ent} {g : Option CI} (h : true = g.isSome) : ∃ x, g = some x := by
  cases g with
  | none => cases h
  | some x => exact ⟨x, rfl⟩
theorem arg_at {args : Array Value} {l : List AV} {Q : AV → Value → Prop} (h : ∀ (i : Nat) (av : AV), l[i]? = some av → ∃ v, args[i]? = some v ∧ Q av v) {x y : AV} (hl : l = [x, y]) (hs : args.size = 2) : ∃ u v, args = #[u, v] ∧ Q x u ∧ Q y v := by
  subst hl
  obtain ⟨u, hu, h1⟩ := h 0 x rfl
  obtain ⟨v, hv, h2⟩ := h 1 y rfl
  refine ⟨u, v, ?_, h1, h2⟩
  apply Array.ext_getElem?
  intro i
  match i with
  | 0 => simpa using hu
  | 1 => simpa using hv
  | i + 2 => simp [hs]
theorem pick_con (m : Nat) (hm : m ≤ 1000000) : Con Tryd.prog tb (pickEnt m) := by
  refine ⟨⟨_, Tryd.func46, by kernel_rfl, by kernel_rfl⟩, fun g w K args hh hc hk hs ha => ?_⟩
  obtain ⟨x, rfl⟩ := some_has (e := pickEnt m) hh
  obtain ⟨h1, h2, h3⟩ := hc x rfl
  obtain ⟨u, v, rfl, ⟨y, hy, rfl⟩, z, rfl, z1, z2⟩ := arg_at ha rfl hs
  obtain rfl := Option.some.inj hy
  have hk' : K + 2 ≤ 999999000 := hk
  refine (pick_any z x.p x.A x.n x.c K w h2 h3 (by omega) z1 (by omega)).mono fun e w' he => ?_
  obtain ⟨v, rfl, ⟨r, rfl, r1, r2⟩, d2, d3⟩ := he
  exact ⟨_, rfl, ⟨r, rfl, r1, by show r ≤ (m : Int) - 1; omega⟩, fun y hy => by cases hy; exact d2, d3⟩
def oneEnt : Ent := ⟨31, true, [.cur, .int 1 1000000], .one (.bool true true), 2⟩
theorem one_con : Con Tryd.prog tb oneEnt := by
  refine ⟨⟨_, Tryd.func31, by kernel_rfl, by kernel_rfl⟩, fun g w K args hh hc hk hs ha => ?_⟩
  obtain ⟨x, rfl⟩ := some_has (e := oneEnt) hh
  obtain ⟨h1, h2, h3⟩ := hc x rfl
  obtain ⟨u, v, rfl, ⟨y, hy, rfl⟩, z, rfl, z1, z2⟩ := arg_at ha rfl hs
  obtain rfl := Option.some.inj hy
  have hk' : K + 2 ≤ 999999000 := hk
  refine (one_any z x.p x.A x.n x.c K w h2 h3 (by omega) z1 (by omega)).mono fun e w' he => ?_
  obtain ⟨v, rfl, ⟨b, rfl⟩, d2, d3⟩ := he
  exact ⟨_, rfl, ⟨b, rfl, fun _ => rfl, fun _ => rfl⟩, fun y hy => by cases hy; exact d2, d3⟩
/-- A slice of ints of the checker's, as a list. -/
theorem ints_of {base : Nat} {g q : Option CI} {w : World} {own : Bool} {lo hi cl : Nat} {v : Value} (hint : tb.td 3 = some ⟨[.int], false, []⟩) (h : AVok tb base g q w (.sl own 3 lo hi cl) v) :
    ∃ (A : Option Addr) (xs : List Int) (c : Nat), v = .slice A xs.length c ∧ lo ≤ xs.length ∧ xs.length ≤ hi ∧ (∀ x ∈ xs, -9223372036854775808 ≤ x ∧ x ≤ 9223372036854775807) ∧ (0 < xs.length → ∃ b o cs, A = some ⟨b, o, none⟩ ∧ w.heap[b]? = some (.cells cs 3 (0, 0)) ∧ ∀ i, i < xs.length → w.cell? ⟨b, o + i, none⟩ = some (.int .i64 (el xs i))) := by
  obtain ⟨A, len, cap, rfl, h1, h2, h3, h4, h5, h6⟩ := h
  cases A with
  | none =>
    have := h5 rfl
    obtain rfl : len = 0 := by omega
    exact ⟨none, [], cap, rfl, by simpa using h1, by simp, (fun x hx => by cases hx), (fun h => by simp at h)⟩
  | some ad =>
    obtain ⟨b, m, i, d, rfl, hT, hD, him⟩ := h6 ad rfl
    rw [hint] at hD
    obtain rfl := Option.some.inj hD
    obtain ⟨_, cs, d', hh, hd', hs, hc⟩ := hT
    rw [hint] at hd'
    obtain rfl := Option.some.inj hd'
    simp only [List.length_cons, List.length_nil, Nat.zero_add, Nat.mul_one] at hs ⊢
    have hz : ∀ j, j < len → ∃ z : Int, cs[i + j]? = some (.int .i64 z) ∧ -9223372036854775808 ≤ z ∧ z ≤ 9223372036854775807 := fun j hj => by
      have hlt : i + j < cs.size := by omega
      obtain ⟨c, hc1, hc2⟩ := hc (i + j) _ (Array.getElem?_eq_getElem hlt)
      have : c = .int := by simpa [Nat.mod_one] using hc1.symm
      subst this
      obtain ⟨z, e, z1, z2⟩ := hc2
      exact ⟨z, by rw [Array.getElem?_eq_getElem hlt, e], z1, z2⟩
    refine ⟨some ⟨b, i, none⟩, (List.range len).map fun j => match cs[i + j]? with | some (.int _ z) => z | _ => 0, cap, by simp, by simpa using h1, by simpa using h2, fun x hx => ?_, fun _ => ⟨b, i, cs, rfl, hh, fun j hj => ?_⟩⟩
    · obtain ⟨j, hj, rfl⟩ := List.mem_map.1 hx
      obtain ⟨z, hz1, hz2⟩ := hz j (List.mem_range.1 hj)
      simp only [hz1]
      exact hz2
    · have hj' : j < len := by simpa using hj
      obtain ⟨z, hz1, _⟩ := hz j hj'
      rw [cell_of_row w b _ cs _ (0, 0) hh, hz1, el_get hj]
      simp [hz1]
theorem among_con (hint : tb.td 3 = some ⟨[.int], false, []⟩) (hcur : tb.td 53 = none) : Con Tryd.prog tb amongEnt := by
  refine ⟨⟨_, Tryd.func36, by kernel_rfl, by kernel_rfl⟩, fun g w K args hh hc hk hs ha => ?_⟩
  obtain ⟨x, rfl⟩ := some_has (e := amongEnt) hh
  obtain ⟨h1, h2, h3⟩ := hc x rfl
  obtain ⟨u, v, rfl, ⟨y, hy, rfl⟩, hv⟩ := arg_at ha rfl hs
  obtain rfl := Option.some.inj hy
  obtain ⟨A, xs, c', rfl, l1, l2, l3, l4⟩ := ints_of hint hv
  have hk' : K + 2 ≤ 999999000 := hk
  obtain ⟨b, o, cs, rfl, hb, hcell⟩ := l4 (by omega)
  refine (among_any _ _ xs (some ⟨b, o, none⟩) c' x.p x.A x.n x.c K w h2 h3 (by omega) ⟨b, o, rfl, block_lt hb, fun e => ?_, hcell⟩ (by omega) (by omega) (fun i hi => l3 _ (el_mem hi))).mono fun e w' he => ?_
  · subst e
    obtain ⟨_, i, s, _, arr, ha, _⟩ := h2
    rw [hb] at ha
    simp at ha
  · obtain ⟨v, rfl, ⟨r, rfl, r1, r2⟩, d2, d3⟩ := he
    exact ⟨_, rfl, ⟨r, rfl, r1, r2⟩, fun y hy => by cases hy; exact d2, d3⟩
end
end Go.Dr
