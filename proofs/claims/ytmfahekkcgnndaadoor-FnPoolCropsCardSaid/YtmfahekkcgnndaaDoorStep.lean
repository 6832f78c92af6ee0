/- Contracts of a pool's step (chapter 21). -/
import Derived.Test.YtmfahekkcgnndaaDoorPoolMore
import Derived.Test.YtmfahekkcgnndaaDoorSlice
import Derived.Deep.RegionWith
import Derived.Deep.RegionHeld3
import Derived.Lib.Hide
set_option linter.unusedSimpArgs false
set_option linter.unusedVariables false
namespace Go.Proofs.YtmfahekkcgnndaaDoor
open Go.RowKit Go.Sort Go.Salt
attribute [local go_sem] cell_rg
attribute [local go_sem ↓] run_max_mx run_min_mn
/-- A pool; a step. -/
structure Pl where
  st : Int
  a : Int
  s : Int
  c : Int
  i : Int
  r : Int
  l : Int
def Pl.enc (p : Pl) : List Value := [.int .i64 p.st, .int .i64 p.a, .int .i64 p.s, .int .i64 p.c, .int .i64 p.i, .int .i64 p.r, .int .i64 p.l]
def Pl.ok (p : Pl) : Bool := poolOK p.st p.a p.s p.c p.i p.r p.l
/-- All numbers are small. -/
def Pl.sm (p : Pl) : Prop := (0 ≤ p.a ∧ p.a ≤ 1000000000) ∧ (-1000000000 ≤ p.s ∧ p.s ≤ 1000000000) ∧ (-1000000000 ≤ p.c ∧ p.c ≤ 1000000000) ∧ (-1000000000 ≤ p.i ∧ p.i ≤ 1000000000) ∧ (-1000000000 ≤ p.r ∧ p.r ≤ 1000000000) ∧ (-1000000000 ≤ p.l ∧ p.l ≤ 1000000000)
def Pl.settle (p : Pl) : Pl := ⟨stB p.a (p.s + imN p.a p.s p.c) (p.c - imN p.a p.s p.c), p.a, p.s + imN p.a p.s p.c, p.c - imN p.a p.s p.c, p.i, p.r, p.l⟩
def psOK (k v z : Int) : Bool :=
  if k = 1 then inB v 0 1000000 && (inB z 0 1000000 && decide (0 < v + z))
  else if k = 2 ∨ k = 3 ∨ k = 4 then decide (1 ≤ v) && (z == 0)
  else inB k 5 6 && ((v == 0) && (z == 0))
/-- What a step makes of a pool ahead of settling. -/
def Pl.raw (p : Pl) (k v z : Int) : Option Pl :=
  if k = 1 then some { p with a := p.a + v, s := p.s + z, i := p.i + z }
  else if k = 2 then if p.st = 0 then none else some { p with a := p.a - mn v p.a }
  else if k = 3 then if p.st = 0 ∨ 1000000 < v then none else some { p with a := p.a + v }
  else if k = 4 then if p.c < v then none else some { p with c := p.c - v, r := p.r + v }
  else if k = 5 then if p.a + p.s = 0 then none else some { p with l := p.l + p.s, a := 0, s := 0 }
  else if p.st ≠ 2 ∨ 0 < p.a + p.s then none else some { p with l := p.l + p.c, c := 0 }
theorem ok_bd {p : Pl} (h : p.ok = true) : 0 ≤ p.a ∧ p.a ≤ 1000000 ∧ 0 ≤ p.s ∧ p.s ≤ 1000000 ∧ 0 ≤ p.c ∧ p.c ≤ 1000000 ∧ 0 ≤ p.i ∧ p.i ≤ 1000000 ∧ 0 ≤ p.r ∧ p.r ≤ 1000000 ∧ 0 ≤ p.l ∧ p.l ≤ 1000000 := poolOK_bd h
theorem cut_world {α : Type} {G : α → World → Prop} {a : α} {W : World} (R : World → Prop) (h1 : R W) (h2 : ∀ W, R W → G a W) : G a W := h2 W h1
theorem only_of_below {a w : World} (h : Below a.heap.size a w) (row : Option Nat) : a.grownBy w row := ⟨h.os, h.tape, h.output, h.size, fun i hi _ => h.block i hi⟩
theorem only_to {a w w' : World} {row : Option Nat} (h : a.grownBy w row) (hb : Below w.heap.size w w') : a.grownBy w' row :=
  ⟨hb.os.trans h.os, hb.tape.trans h.tape, hb.output.trans h.output, Nat.le_trans h.size hb.size, fun i hi hn => (hb.block i (Nat.lt_of_lt_of_le hi h.size)).trans (h.block i hi hn)⟩
set_option maxHeartbeats 4000000 in
theorem settle_row (B : Nat) (p : Pl) (w : World) (h : Row w B 30 p.enc) (hp : p.sm) :
    Calls Tryd.prog 43 #[.pointer (some ⟨B, 0, none⟩)] w fun e w' => e = .returned (.tuple #[]) ∧ Row w' B 30 p.settle.enc ∧ w.grownBy w' (some B) := by
  obtain ⟨st, a, s, c, i, r, l⟩ := p
  obtain ⟨ha, hs, hc, hi, hr, hl⟩ := hp
  simp only at ha hs hc hi hr hl
  have hB := h.lt
  have c0 := h.cell (j := 0) (by simp [Pl.enc])
  have c1 := h.cell (j := 1) (by simp [Pl.enc])
  have c2 := h.cell (j := 2) (by simp [Pl.enc])
  have c3 := h.cell (j := 3) (by simp [Pl.enc])
  simp only [Pl.enc, List.getElem_cons_zero, List.getElem_cons_succ] at c0 c1 c2 c3
  have fz := h.frozen
  have HR := Lib.hid h
  clear h
  have him := imN_bd (a := a) (s := s) (c := c)
  have hkp := kp_bd a ha.1 (by omega)
  have hkp2 : kp a ≤ 1000000000 := by unfold kp; omega
  go_enter Tryd.func43, Tryd.ntmps43
  go_wp2_with fail
  have hcall := fun W => settled_any a s c W ha.1 (by omega) (by omega) (by omega) (by omega) (by omega)
  have HC := Lib.hid hcall
  clear hcall
  go_region_with (first | (go_at_call 51; refine (HC.out _).mono ?_; rintro e w1 ⟨rfl, hb1⟩; have hs1 := hb1.size; (try simp at hs1); (have hb1' : Below w.heap.size w w1 := (by repeat' (first | (with_reducible exact Below.refl _ _) | (with_reducible refine Below.alloc ?_ ?_ _) | (with_reducible refine Below.setCell ?_ ?_ _) | (with_reducible refine Below.drew ?_) | (with_reducible refine Below.trans ?_ (Below.mono (by with_reducible assumption) ?_)) | omega | (simp; done) | (simp; omega)))); (have hB1 : B < w1.heap.size := by omega); have D1 : w1.cell? ⟨B, 1, none⟩ = some (.int .i64 a) := (hb1'.cell (p := ⟨B, 1, none⟩) hB).trans c1; have D2 : w1.cell? ⟨B, 2, none⟩ = some (.int .i64 s) := (hb1'.cell (p := ⟨B, 2, none⟩) hB).trans c2; have D3 : w1.cell? ⟨B, 3, none⟩ = some (.int .i64 c) := (hb1'.cell (p := ⟨B, 3, none⟩) hB).trans c3; have DF : ∀ j, w1.frozen? ⟨B, j, none⟩ = false := fun j => (hb1'.frozen (p := ⟨B, j, none⟩) hB).trans (fz j)))
  all_goals
    have R1 := (((HR.out.to hb1').set (j := 1) (.int .i64 a)).set (j := 2) (.int .i64 (s + imN a s c))).set (j := 3) (.int .i64 (c - imN a s c))
    have G1 := only_setCell (p := ⟨B, 3, none⟩) (only_setCell (p := ⟨B, 2, none⟩) (only_setCell (p := ⟨B, 1, none⟩) (only_of_below hb1' (some B)) (.inl rfl) (.int .i64 a)) (.inl rfl) (.int .i64 (s + imN a s c))) (.inl rfl) (.int .i64 (c - imN a s c))
    refine cut_world (fun W => Row W B 30 (Pl.enc ⟨st, a, s + imN a s c, c - imN a s c, i, r, l⟩) ∧ w.grownBy W (some B)) ⟨R1, G1⟩ ?_
    clear R1 G1 hb1 hb1' hs1 hB1 D1 D2 D3 DF c0 c1 c2 c3 fz HR
    rintro W4 ⟨hr4, hg4⟩
    have hB4 := hr4.lt
    have c0 := hr4.cell (j := 0) (by simp [Pl.enc])
    have c1 := hr4.cell (j := 1) (by simp [Pl.enc])
    have c2 := hr4.cell (j := 2) (by simp [Pl.enc])
    have c3 := hr4.cell (j := 3) (by simp [Pl.enc])
    simp only [Pl.enc, List.getElem_cons_zero, List.getElem_cons_succ] at c0 c1 c2 c3
    have fz := hr4.frozen
    have HR := Lib.hid hr4
    have HG := Lib.hid hg4
    clear hr4 hg4
    go_wp2_with fail
    refine wp_region_below_tail 10 (by kernel_rfl) (by kernel_rfl) ?_
    simp only [List.take_succ_cons, List.take_zero, List.drop_succ_cons, List.drop_zero]
    repeat (go_big_quiet_step ((go_at_call 34; exact Calls.regrown_of (stateOf_any _ _ _ _ (by omega) (by omega) (by omega) (by omega)))))
    (refine wpQuiet_nil ?_; intro W5 hwq; have hb5 := of_cls hwq; clear hwq)
    obtain ⟨hc5, hf5, hn5⟩ := bcell hb5
    have hs5 := hb5.size
    have hB5 : B < W5.heap.size := by omega
    go_wp2_with fail
    go_end0
    exact ⟨rfl, (HR.out.to hb5).set (j := 0) _, only_setCell (only_to HG.out hb5) (.inl rfl) _⟩
set_option maxHeartbeats 400000 in
theorem plus_any (a s a' s' : Int) (w : World) (_h1 : -1000000000000000 ≤ a) (_h2 : a ≤ 1000000000000000) (_h3 : -1000000000000000 ≤ s) (_h4 : s ≤ 1000000000000000) (_h5 : -1000000000000000 ≤ a') (_h6 : a' ≤ 1000000000000000) (_h7 : -1000000000000000 ≤ s') (_h8 : s' ≤ 1000000000000000) :
    Calls Tryd.prog 41 #[.agg #[.int .i64 a, .int .i64 s], .agg #[.int .i64 a', .int .i64 s']] w fun e w' => e = .returned (.agg #[.int .i64 (a + a'), .int .i64 (s + s')]) ∧ Below w.heap.size w w' := by
  go_enter Tryd.func41, Tryd.ntmps41
  go_wp2
  go_returns
  exact ⟨rfl, (by repeat' (first | (with_reducible exact Below.refl _ _) | (with_reducible refine Below.alloc ?_ ?_ _) | (with_reducible refine Below.setCell ?_ ?_ _) | (with_reducible refine Below.drew ?_) | (with_reducible refine Below.trans ?_ (Below.mono (by with_reducible assumption) ?_)) | omega | (simp; done) | (simp; omega)))⟩
set_option maxHeartbeats 400000 in
theorem l2Sum_any (a s a' s' : Int) (w : World) (_h1 : -1000000000000000 ≤ a) (_h2 : a ≤ 1000000000000000) (_h3 : -1000000000000000 ≤ s) (_h4 : s ≤ 1000000000000000) (_h5 : -1000000000000000 ≤ a') (_h6 : a' ≤ 1000000000000000) (_h7 : -1000000000000000 ≤ s') (_h8 : s' ≤ 1000000000000000) :
    Calls Tryd.prog 61 #[.agg #[.int .i64 a, .int .i64 s], .agg #[.int .i64 a', .int .i64 s']] w fun e w' => e = .returned (.agg #[.int .i64 (a + a'), .int .i64 (s + s')]) ∧ Below w.heap.size w w' := by
  go_enter Tryd.func61, Tryd.ntmps61
  go_wp2
  go_returns
  exact ⟨rfl, (by repeat' (first | (with_reducible exact Below.refl _ _) | (with_reducible refine Below.alloc ?_ ?_ _) | (with_reducible refine Below.setCell ?_ ?_ _) | (with_reducible refine Below.drew ?_) | (with_reducible refine Below.trans ?_ (Below.mono (by with_reducible assumption) ?_)) | omega | (simp; done) | (simp; omega)))⟩
/-- Block B is the pool q, block w.heap.size the step; nothing else was written. -/
def Sp (w : World) (B : Nat) (k v z : Int) (W : World) (q : Pl) : Prop := Row W B 30 q.enc ∧ Row W w.heap.size 41 [.int .i64 k, .int .i64 v, .int .i64 z] ∧ w.grownBy W (some B)
theorem Sp.start {w : World} {B : Nat} {k v z : Int} {q : Pl} (h : Row w B 30 q.enc) : Sp w B k v z (w.alloc (.cells #[.int .i64 k, .int .i64 v, .int .i64 z] 41)) q :=
  ⟨h.alloc _, Row.new w _ _, World.grownBy_alloc _ _ _⟩
theorem Sp.to {w W W' : World} {B : Nat} {k v z : Int} {q : Pl} (h : Sp w B k v z W q) (hb : Below W.heap.size W W') : Sp w B k v z W' q := by
  obtain ⟨h1, h2, h3⟩ := h
  exact ⟨h1.to hb, h2.to hb, ⟨hb.os.trans h3.os, hb.tape.trans h3.tape, hb.output.trans h3.output, Nat.le_trans h3.size hb.size, fun i hi hn => (hb.block i (Nat.lt_of_lt_of_le hi h3.size)).trans (h3.block i hi hn)⟩⟩
theorem Sp.set {w W : World} {B j : Nat} {k v z : Int} {q q' : Pl} {u : Value} (h : Sp w B k v z W q) (hB : B < w.heap.size) (e : q'.enc = q.enc.set j u) : Sp w B k v z (W.setCell ⟨B, j, none⟩ u) q' := by
  obtain ⟨h1, h2, h3⟩ := h
  refine ⟨by rw [e]; exact h1.set u, h2.far (by simp; omega) u, ?_⟩
  exact only_setCell h3 (.inl rfl) u
def StepAt (w : World) (B : Nat) (o : Option Pl) (e : Ending) (w' : World) : Prop :=
  w.grownBy w' (some B) ∧ ((o = none ∧ e = .returned (.bool false)) ∨ ∃ q, o = some q ∧ e = .returned (.bool true) ∧ Row w' B 30 q.settle.enc)
theorem StepAt.no {w w' : World} {B : Nat} {o : Option Pl} {k v z : Int} {q : Pl} (h : o = none) (hs : Sp w B k v z w' q) : StepAt w B o (.returned (.bool false)) w' := ⟨hs.2.2, .inl ⟨h, rfl⟩⟩
theorem StepAt.yes {w W w' : World} {B : Nat} {o : Option Pl} {k v z : Int} {p q : Pl} (h : o = some q) (hs : Sp w B k v z W p) (hr : Row w' B 30 q.settle.enc) (hg : W.grownBy w' (some B)) : StepAt w B o (.returned (.bool true)) w' :=
  ⟨⟨hg.os.trans hs.2.2.os, hg.tape.trans hs.2.2.tape, hg.output.trans hs.2.2.output, Nat.le_trans hs.2.2.size hg.size, fun i hi hn => (hg.block i (Nat.lt_of_lt_of_le hi hs.2.2.size) hn).trans (hs.2.2.block i hi hn)⟩, .inr ⟨q, h, rfl, hr⟩⟩
theorem Sp.cells {w W : World} {B : Nat} {k v z : Int} {q : Pl} (h : Sp w B k v z W q) : (W.cell? ⟨B, 0, none⟩ = some (.int .i64 q.st) ∧ W.cell? ⟨B, 1, none⟩ = some (.int .i64 q.a) ∧ W.cell? ⟨B, 2, none⟩ = some (.int .i64 q.s) ∧ W.cell? ⟨B, 3, none⟩ = some (.int .i64 q.c) ∧ W.cell? ⟨B, 4, none⟩ = some (.int .i64 q.i) ∧ W.cell? ⟨B, 5, none⟩ = some (.int .i64 q.r) ∧ W.cell? ⟨B, 6, none⟩ = some (.int .i64 q.l)) ∧
    (W.cell? ⟨w.heap.size, 0, none⟩ = some (.int .i64 k) ∧ W.cell? ⟨w.heap.size, 1, none⟩ = some (.int .i64 v) ∧ W.cell? ⟨w.heap.size, 2, none⟩ = some (.int .i64 z)) ∧ (∀ j, W.frozen? ⟨B, j, none⟩ = false) ∧ B < W.heap.size ∧ w.heap.size < W.heap.size :=
  ⟨⟨h.1.cell (j := 0) (by simp [Pl.enc]), h.1.cell (j := 1) (by simp [Pl.enc]), h.1.cell (j := 2) (by simp [Pl.enc]), h.1.cell (j := 3) (by simp [Pl.enc]), h.1.cell (j := 4) (by simp [Pl.enc]), h.1.cell (j := 5) (by simp [Pl.enc]), h.1.cell (j := 6) (by simp [Pl.enc])⟩,
    ⟨h.2.1.cell (j := 0) (by simp), h.2.1.cell (j := 1) (by simp), h.2.1.cell (j := 2) (by simp)⟩, h.1.frozen, h.1.lt, h.2.1.lt⟩
-- STEPS
set_option maxRecDepth 100000 in
set_option maxHeartbeats 4000000 in
theorem stepPool_fill (B : Nat) (st a s c i r l v z : Int) (w : World) (h : Row w B 30 (Pl.enc ⟨st, a, s, c, i, r, l⟩)) (hb : 0 ≤ a ∧ a ≤ 1000000 ∧ 0 ≤ s ∧ s ≤ 1000000 ∧ 0 ≤ c ∧ c ≤ 1000000 ∧ 0 ≤ i ∧ i ≤ 1000000 ∧ 0 ≤ r ∧ r ≤ 1000000 ∧ 0 ≤ l ∧ l ≤ 1000000) (hv : 0 ≤ v ∧ v ≤ 1000000) (hz : 0 ≤ z ∧ z ≤ 1000000) :
    Calls Tryd.prog 31 #[.pointer (some ⟨B, 0, none⟩), .agg #[.int .i64 1, .int .i64 v, .int .i64 z]] w fun e w' => StepAt w B (Pl.raw ⟨st, a, s, c, i, r, l⟩ 1 v z) e w' := by
  have hB := h.lt
  have hne := Nat.ne_of_lt hB
  have g0 := h.cell (j := 0) (by simp [Pl.enc])
  have g1 := h.cell (j := 1) (by simp [Pl.enc])
  have g2 := h.cell (j := 2) (by simp [Pl.enc])
  have g3 := h.cell (j := 3) (by simp [Pl.enc])
  simp only [Pl.enc, List.getElem_cons_zero, List.getElem_cons_succ] at g0 g1 g2 g3
  have hS0 := Lib.hid (Sp.start (k := 1) (v := v) (z := z) h)
  clear h
  go_enter Tryd.func31, Tryd.ntmps31
  go_wp2_with fail
  refine cut_world (fun W => Sp w B 1 v z W ⟨st, a, s, c, i, r, l⟩) hS0.out ?_
  clear hS0 g0 g1 g2 g3
  intro W0 hS
  obtain ⟨⟨c0, c1, c2, c3, c4, c5, c6⟩, ⟨s0, s1, s2⟩, fz, hlB, hlw⟩ := hS.cells
  simp only at c0 c1 c2 c3 c4 c5 c6
  have HS := Lib.hid hS
  clear hS
  refine wp_region_below_tail 11 (by kernel_rfl) (by kernel_rfl) ?_
  simp only [List.take_succ_cons, List.take_zero, List.drop_succ_cons, List.drop_zero]
  repeat (go_big_quiet_step ((go_at_call 41; exact Calls.regrown_of (plus_any _ _ _ _ _ (by omega) (by omega) (by omega) (by omega) (by omega) (by omega) (by omega) (by omega)))))
  (refine wpQuiet_nil ?_; intro W1 hwq; have hb1 := of_cls hwq; clear hwq)
  obtain ⟨hc1, hf1, hn1⟩ := bcell hb1
  have hs1 := hb1.size
  have hlB1 : B < W1.heap.size := by omega
  go_wp2_with fail
  refine cut_world (fun W => Sp w B 1 v z W ⟨st, a + v, s + z, c, i, r, l⟩) (((HS.out.to hb1).set (j := 1) (u := .int .i64 (a + v)) (q' := ⟨st, a + v, s, c, i, r, l⟩) hB rfl).set (j := 2) (u := .int .i64 (s + z)) (q' := ⟨st, a + v, s + z, c, i, r, l⟩) hB rfl) ?_
  clear hc1 hf1 hn1 hb1 hs1 hlB1 HS c0 c1 c2 c3 c4 c5 c6 s0 s1 s2 fz hlB hlw W1
  intro W0 hS
  obtain ⟨⟨c0, c1, c2, c3, c4, c5, c6⟩, ⟨s0, s1, s2⟩, fz, hlB, hlw⟩ := hS.cells
  simp only at c0 c1 c2 c3 c4 c5 c6
  have HS := Lib.hid hS
  clear hS
  refine wp_region_below_tail 7 (by kernel_rfl) (by kernel_rfl) ?_
  simp only [List.take_succ_cons, List.take_zero, List.drop_succ_cons, List.drop_zero]
  repeat (go_big_quiet_step (fail))
  (refine wpQuiet_nil ?_; intro W1 hwq; have hb1 := of_cls hwq; clear hwq)
  obtain ⟨hc1, hf1, hn1⟩ := bcell hb1
  have hs1 := hb1.size
  have hlB1 : B < W1.heap.size := by omega
  go_wp2_with fail
  have hS2 := Lib.hid ((HS.out.to hb1).set (j := 4) (u := .int .i64 (i + z)) (q' := ⟨st, a + v, s + z, c, i + z, r, l⟩) hB rfl)
  refine (settle_row B ⟨st, a + v, s + z, c, i + z, r, l⟩ _ hS2.out.1 (by refine ⟨?_, ?_, ?_, ?_, ?_, ?_⟩ <;> simp only <;> omega)).mono ?_
  rintro e W2 ⟨rfl, hrow2, hg2⟩
  replace hrow2 := Lib.hid hrow2
  go_wp2_with fail
  go_ret
  exact StepAt.yes (by simp [Pl.raw]) hS2.out hrow2.out hg2
set_option maxRecDepth 100000 in
set_option maxHeartbeats 4000000 in
theorem stepPool_sun (B : Nat) (st a s c i r l v z : Int) (w : World) (h : Row w B 30 (Pl.enc ⟨st, a, s, c, i, r, l⟩)) (hb : 0 ≤ a ∧ a ≤ 1000000 ∧ 0 ≤ s ∧ s ≤ 1000000 ∧ 0 ≤ c ∧ c ≤ 1000000 ∧ 0 ≤ i ∧ i ≤ 1000000 ∧ 0 ≤ r ∧ r ≤ 1000000 ∧ 0 ≤ l ∧ l ≤ 1000000) (hv : 1 ≤ v) (hv2 : v ≤ 9223372036854775807) :
    Calls Tryd.prog 31 #[.pointer (some ⟨B, 0, none⟩), .agg #[.int .i64 2, .int .i64 v, .int .i64 z]] w fun e w' => StepAt w B (Pl.raw ⟨st, a, s, c, i, r, l⟩ 2 v z) e w' := by
  have hB := h.lt
  have hne := Nat.ne_of_lt hB
  have g0 := h.cell (j := 0) (by simp [Pl.enc])
  have g1 := h.cell (j := 1) (by simp [Pl.enc])
  have g2 := h.cell (j := 2) (by simp [Pl.enc])
  have g3 := h.cell (j := 3) (by simp [Pl.enc])
  simp only [Pl.enc, List.getElem_cons_zero, List.getElem_cons_succ] at g0 g1 g2 g3
  have hS0 := Lib.hid (Sp.start (k := 2) (v := v) (z := z) h)
  clear h
  by_cases ht : st = 0
  · have hraw := Lib.hid (show Pl.raw ⟨st, a, s, c, i, r, l⟩ 2 v z = none by simp [Pl.raw, ht])
    have hst : (st == 0) = true := by simpa using ht
    clear ht
    go_enter Tryd.func31, Tryd.ntmps31
    go_wp2_with fail
    go_ret
    exact StepAt.no (k := 2) (v := v) (z := z) hraw.out hS0.out
  · have hraw := Lib.hid (show Pl.raw ⟨st, a, s, c, i, r, l⟩ 2 v z = some ⟨st, a - mn v a, s, c, i, r, l⟩ by simp [Pl.raw, ht])
    have hst : (st == 0) = false := by simpa using ht
    clear ht
    have hmn := mn_or v a
    go_enter Tryd.func31, Tryd.ntmps31
    go_wp2_with fail
    refine cut_world (fun W => Sp w B 2 v z W ⟨st, a, s, c, i, r, l⟩) hS0.out ?_
    clear hS0 g0 g1 g2 g3
    intro W0 hS
    obtain ⟨⟨c0, c1, c2, c3, c4, c5, c6⟩, ⟨s0, s1, s2⟩, fz, hlB, hlw⟩ := hS.cells
    simp only at c0 c1 c2 c3 c4 c5 c6
    have HS := Lib.hid hS
    clear hS
    refine wp_region_below_tail 14 (by kernel_rfl) (by kernel_rfl) ?_
    simp only [List.take_succ_cons, List.take_zero, List.drop_succ_cons, List.drop_zero]
    repeat (go_big_quiet_step (fail))
    (refine wpQuiet_nil ?_; intro W1 hwq; have hb1 := of_cls hwq; clear hwq)
    obtain ⟨hc1, hf1, hn1⟩ := bcell hb1
    have hs1 := hb1.size
    have hlB1 : B < W1.heap.size := by omega
    go_wp2_with fail
    have hS2 := Lib.hid ((HS.out.to hb1).set (j := 1) (u := .int .i64 (a - mn v a)) (q' := ⟨st, a - mn v a, s, c, i, r, l⟩) hB rfl)
    refine (settle_row B ⟨st, a - mn v a, s, c, i, r, l⟩ _ hS2.out.1 (by refine ⟨?_, ?_, ?_, ?_, ?_, ?_⟩ <;> simp only <;> omega)).mono ?_
    rintro e W2 ⟨rfl, hrow2, hg2⟩
    replace hrow2 := Lib.hid hrow2
    go_wp2_with fail
    go_ret
    exact StepAt.yes hraw.out hS2.out hrow2.out hg2
set_option maxRecDepth 100000 in
set_option maxHeartbeats 4000000 in
theorem stepPool_rain (B : Nat) (st a s c i r l v z : Int) (w : World) (h : Row w B 30 (Pl.enc ⟨st, a, s, c, i, r, l⟩)) (hb : 0 ≤ a ∧ a ≤ 1000000 ∧ 0 ≤ s ∧ s ≤ 1000000 ∧ 0 ≤ c ∧ c ≤ 1000000 ∧ 0 ≤ i ∧ i ≤ 1000000 ∧ 0 ≤ r ∧ r ≤ 1000000 ∧ 0 ≤ l ∧ l ≤ 1000000) (hv : 1 ≤ v) (hv2 : v ≤ 9223372036854775807) :
    Calls Tryd.prog 31 #[.pointer (some ⟨B, 0, none⟩), .agg #[.int .i64 3, .int .i64 v, .int .i64 z]] w fun e w' => StepAt w B (Pl.raw ⟨st, a, s, c, i, r, l⟩ 3 v z) e w' := by
  have hB := h.lt
  have hne := Nat.ne_of_lt hB
  have g0 := h.cell (j := 0) (by simp [Pl.enc])
  have g1 := h.cell (j := 1) (by simp [Pl.enc])
  have g2 := h.cell (j := 2) (by simp [Pl.enc])
  have g3 := h.cell (j := 3) (by simp [Pl.enc])
  simp only [Pl.enc, List.getElem_cons_zero, List.getElem_cons_succ] at g0 g1 g2 g3
  have hS0 := Lib.hid (Sp.start (k := 3) (v := v) (z := z) h)
  clear h
  by_cases h0 : st = 0
  · have hraw := Lib.hid (show Pl.raw ⟨st, a, s, c, i, r, l⟩ 3 v z = none by simp [Pl.raw, h0])
    have hst : (st == 0) = true := by simpa using h0
    clear h0
    go_enter Tryd.func31, Tryd.ntmps31
    go_wp2_with fail
    go_ret
    exact StepAt.no (k := 3) (v := v) (z := z) hraw.out hS0.out
  · by_cases h1 : 1000000 < v
    · have hraw := Lib.hid (show Pl.raw ⟨st, a, s, c, i, r, l⟩ 3 v z = none by simp [Pl.raw, h1])
      have hst : (st == 0) = false := by simpa using h0
      clear h0
      go_enter Tryd.func31, Tryd.ntmps31
      go_wp2_with fail
      go_ret
      exact StepAt.no (k := 3) (v := v) (z := z) hraw.out hS0.out
    · have hraw := Lib.hid (show Pl.raw ⟨st, a, s, c, i, r, l⟩ 3 v z = some ⟨st, a + v, s, c, i, r, l⟩ by simp [Pl.raw, h0, h1])
      have hst : (st == 0) = false := by simpa using h0
      clear h0
      go_enter Tryd.func31, Tryd.ntmps31
      go_wp2_with fail
      refine cut_world (fun W => Sp w B 3 v z W ⟨st, a, s, c, i, r, l⟩) hS0.out ?_
      clear hS0 g0 g1 g2 g3
      intro W0 hS
      obtain ⟨⟨c0, c1, c2, c3, c4, c5, c6⟩, ⟨s0, s1, s2⟩, fz, hlB, hlw⟩ := hS.cells
      simp only at c0 c1 c2 c3 c4 c5 c6
      have HS := Lib.hid hS
      clear hS
      refine wp_region_below_tail 8 (by kernel_rfl) (by kernel_rfl) ?_
      simp only [List.take_succ_cons, List.take_zero, List.drop_succ_cons, List.drop_zero]
      repeat (go_big_quiet_step (fail))
      (refine wpQuiet_nil ?_; intro W1 hwq; have hb1 := of_cls hwq; clear hwq)
      obtain ⟨hc1, hf1, hn1⟩ := bcell hb1
      have hs1 := hb1.size
      have hlB1 : B < W1.heap.size := by omega
      go_wp2_with fail
      have hS2 := Lib.hid ((HS.out.to hb1).set (j := 1) (u := .int .i64 (a + v)) (q' := ⟨st, a + v, s, c, i, r, l⟩) hB rfl)
      refine (settle_row B ⟨st, a + v, s, c, i, r, l⟩ _ hS2.out.1 (by refine ⟨?_, ?_, ?_, ?_, ?_, ?_⟩ <;> simp only <;> omega)).mono ?_
      rintro e W2 ⟨rfl, hrow2, hg2⟩
      replace hrow2 := Lib.hid hrow2
      go_wp2_with fail
      go_ret
      exact StepAt.yes hraw.out hS2.out hrow2.out hg2
set_option maxRecDepth 100000 in
set_option maxHeartbeats 4000000 in
theorem stepPool_rake (B : Nat) (st a s c i r l v z : Int) (w : World) (h : Row w B 30 (Pl.enc ⟨st, a, s, c, i, r, l⟩)) (hb : 0 ≤ a ∧ a ≤ 1000000 ∧ 0 ≤ s ∧ s ≤ 1000000 ∧ 0 ≤ c ∧ c ≤ 1000000 ∧ 0 ≤ i ∧ i ≤ 1000000 ∧ 0 ≤ r ∧ r ≤ 1000000 ∧ 0 ≤ l ∧ l ≤ 1000000) (hv : 1 ≤ v) (hv2 : v ≤ 9223372036854775807) :
    Calls Tryd.prog 31 #[.pointer (some ⟨B, 0, none⟩), .agg #[.int .i64 4, .int .i64 v, .int .i64 z]] w fun e w' => StepAt w B (Pl.raw ⟨st, a, s, c, i, r, l⟩ 4 v z) e w' := by
  have hB := h.lt
  have hne := Nat.ne_of_lt hB
  have g0 := h.cell (j := 0) (by simp [Pl.enc])
  have g1 := h.cell (j := 1) (by simp [Pl.enc])
  have g2 := h.cell (j := 2) (by simp [Pl.enc])
  have g3 := h.cell (j := 3) (by simp [Pl.enc])
  simp only [Pl.enc, List.getElem_cons_zero, List.getElem_cons_succ] at g0 g1 g2 g3
  have hS0 := Lib.hid (Sp.start (k := 4) (v := v) (z := z) h)
  clear h
  by_cases ht : c < v
  · have hraw := Lib.hid (show Pl.raw ⟨st, a, s, c, i, r, l⟩ 4 v z = none by simp [Pl.raw, ht])
    have hcv : c < v := ht
    clear ht
    go_enter Tryd.func31, Tryd.ntmps31
    go_wp2_with fail
    refine cut_world (fun W => Sp w B 4 v z W ⟨st, a, s, c, i, r, l⟩) hS0.out ?_
    clear hS0 g0 g1 g2 g3
    intro W0 hS
    obtain ⟨⟨c0, c1, c2, c3, c4, c5, c6⟩, ⟨s0, s1, s2⟩, fz, hlB, hlw⟩ := hS.cells
    simp only at c0 c1 c2 c3 c4 c5 c6
    have HS := Lib.hid hS
    clear hS
    refine wp_region_quiet_below (by kernel_rfl) (by kernel_rfl) ?_
    repeat (go_big_quiet_step (fail))
    (refine wpQuiet_nil ?_; intro W0' hwq; have hb1 := of_cls hwq; clear hwq)
    have hS := HS.out.to hb1
    clear hb1 HS c0 c1 c2 c3 c4 c5 c6 s0 s1 s2 fz hlB hlw
    go_wp2_with fail
    go_ret
    exact StepAt.no (k := 4) (v := v) (z := z) hraw.out hS
  · have hraw := Lib.hid (show Pl.raw ⟨st, a, s, c, i, r, l⟩ 4 v z = some ⟨st, a, s, c - v, i, r + v, l⟩ by simp [Pl.raw, ht])
    have hcv : ¬ c < v := ht
    clear ht
    go_enter Tryd.func31, Tryd.ntmps31
    go_wp2_with fail
    refine cut_world (fun W => Sp w B 4 v z W ⟨st, a, s, c, i, r, l⟩) hS0.out ?_
    clear hS0 g0 g1 g2 g3
    intro W0 hS
    obtain ⟨⟨c0, c1, c2, c3, c4, c5, c6⟩, ⟨s0, s1, s2⟩, fz, hlB, hlw⟩ := hS.cells
    simp only at c0 c1 c2 c3 c4 c5 c6
    have HS := Lib.hid hS
    clear hS
    refine wp_region_quiet_below (by kernel_rfl) (by kernel_rfl) ?_
    repeat (go_big_quiet_step (fail))
    (refine wpQuiet_nil ?_; intro W0' hwq; have hb1 := of_cls hwq; clear hwq)
    have hS := HS.out.to hb1
    clear hb1 HS c0 c1 c2 c3 c4 c5 c6 s0 s1 s2 fz hlB hlw
    go_wp2_with fail
    obtain ⟨⟨c0, c1, c2, c3, c4, c5, c6⟩, ⟨s0, s1, s2⟩, fz, hlB, hlw⟩ := hS.cells
    simp only at c0 c1 c2 c3 c4 c5 c6
    have HS := Lib.hid hS
    clear hS
    refine wp_region_below_tail 7 (by kernel_rfl) (by kernel_rfl) ?_
    simp only [List.take_succ_cons, List.take_zero, List.drop_succ_cons, List.drop_zero]
    repeat (go_big_quiet_step (fail))
    (refine wpQuiet_nil ?_; intro W1 hwq; have hb1 := of_cls hwq; clear hwq)
    obtain ⟨hc1, hf1, hn1⟩ := bcell hb1
    have hs1 := hb1.size
    have hlB1 : B < W1.heap.size := by omega
    go_wp2_with fail
    refine cut_world (fun W => Sp w B 4 v z W ⟨st, a, s, c - v, i, r, l⟩) ((HS.out.to hb1).set (j := 3) (u := .int .i64 (c - v)) (q' := ⟨st, a, s, c - v, i, r, l⟩) hB rfl) ?_
    clear hc1 hf1 hn1 hb1 hs1 hlB1 HS c0 c1 c2 c3 c4 c5 c6 s0 s1 s2 fz hlB hlw W1
    intro W0 hS
    obtain ⟨⟨c0, c1, c2, c3, c4, c5, c6⟩, ⟨s0, s1, s2⟩, fz, hlB, hlw⟩ := hS.cells
    simp only at c0 c1 c2 c3 c4 c5 c6
    have HS := Lib.hid hS
    clear hS
    refine wp_region_below_tail 7 (by kernel_rfl) (by kernel_rfl) ?_
    simp only [List.take_succ_cons, List.take_zero, List.drop_succ_cons, List.drop_zero]
    repeat (go_big_quiet_step (fail))
    (refine wpQuiet_nil ?_; intro W1 hwq; have hb1 := of_cls hwq; clear hwq)
    obtain ⟨hc1, hf1, hn1⟩ := bcell hb1
    have hs1 := hb1.size
    have hlB1 : B < W1.heap.size := by omega
    go_wp2_with fail
    have hS2 := Lib.hid ((HS.out.to hb1).set (j := 5) (u := .int .i64 (r + v)) (q' := ⟨st, a, s, c - v, i, r + v, l⟩) hB rfl)
    refine (settle_row B ⟨st, a, s, c - v, i, r + v, l⟩ _ hS2.out.1 (by refine ⟨?_, ?_, ?_, ?_, ?_, ?_⟩ <;> simp only <;> omega)).mono ?_
    rintro e W2 ⟨rfl, hrow2, hg2⟩
    replace hrow2 := Lib.hid hrow2
    go_wp2_with fail
    go_ret
    exact StepAt.yes hraw.out hS2.out hrow2.out hg2
set_option maxRecDepth 100000 in
set_option maxHeartbeats 4000000 in
theorem stepPool_drain (B : Nat) (st a s c i r l v z : Int) (w : World) (h : Row w B 30 (Pl.enc ⟨st, a, s, c, i, r, l⟩)) (hb : 0 ≤ a ∧ a ≤ 1000000 ∧ 0 ≤ s ∧ s ≤ 1000000 ∧ 0 ≤ c ∧ c ≤ 1000000 ∧ 0 ≤ i ∧ i ≤ 1000000 ∧ 0 ≤ r ∧ r ≤ 1000000 ∧ 0 ≤ l ∧ l ≤ 1000000)  :
    Calls Tryd.prog 31 #[.pointer (some ⟨B, 0, none⟩), .agg #[.int .i64 5, .int .i64 v, .int .i64 z]] w fun e w' => StepAt w B (Pl.raw ⟨st, a, s, c, i, r, l⟩ 5 v z) e w' := by
  have hB := h.lt
  have hne := Nat.ne_of_lt hB
  have g0 := h.cell (j := 0) (by simp [Pl.enc])
  have g1 := h.cell (j := 1) (by simp [Pl.enc])
  have g2 := h.cell (j := 2) (by simp [Pl.enc])
  have g3 := h.cell (j := 3) (by simp [Pl.enc])
  simp only [Pl.enc, List.getElem_cons_zero, List.getElem_cons_succ] at g0 g1 g2 g3
  have hS0 := Lib.hid (Sp.start (k := 5) (v := v) (z := z) h)
  clear h
  by_cases ht : a + s = 0
  · have hraw := Lib.hid (show Pl.raw ⟨st, a, s, c, i, r, l⟩ 5 v z = none by simp [Pl.raw, ht])
    have hm : (a + s == 0) = true := by simpa using ht
    clear ht
    go_enter Tryd.func31, Tryd.ntmps31
    go_wp2_with fail
    refine (mass_any a s _ (by omega) (by omega) (by omega) (by omega)).mono ?_
    rintro e W0 ⟨rfl, hb1⟩
    have hS := hS0.out.to hb1
    clear hS0 g0 g1 g2 g3 hb1
    go_wp2_with fail
    go_ret
    exact StepAt.no (k := 5) (v := v) (z := z) hraw.out hS
  · have hraw := Lib.hid (show Pl.raw ⟨st, a, s, c, i, r, l⟩ 5 v z = some ⟨st, 0, 0, c, i, r, l + s⟩ by simp [Pl.raw, ht])
    have hm : (a + s == 0) = false := by simpa using ht
    clear ht
    go_enter Tryd.func31, Tryd.ntmps31
    go_wp2_with fail
    refine (mass_any a s _ (by omega) (by omega) (by omega) (by omega)).mono ?_
    rintro e W0 ⟨rfl, hb1⟩
    have hS := hS0.out.to hb1
    clear hS0 g0 g1 g2 g3 hb1
    obtain ⟨⟨c0, c1, c2, c3, c4, c5, c6⟩, ⟨s0, s1, s2⟩, fz, hlB, hlw⟩ := hS.cells
    simp only at c0 c1 c2 c3 c4 c5 c6
    have HS := Lib.hid hS
    clear hS
    go_wp2_with fail
    refine wp_region_below_tail 10 (by kernel_rfl) (by kernel_rfl) ?_
    simp only [List.take_succ_cons, List.take_zero, List.drop_succ_cons, List.drop_zero]
    repeat (go_big_quiet_step (fail))
    (refine wpQuiet_nil ?_; intro W1 hwq; have hb1 := of_cls hwq; clear hwq)
    obtain ⟨hc1, hf1, hn1⟩ := bcell hb1
    have hs1 := hb1.size
    have hlB1 : B < W1.heap.size := by omega
    go_wp2_with fail
    have hS2 := Lib.hid ((((HS.out.to hb1).set (j := 6) (u := .int .i64 (l + s)) (q' := ⟨st, a, s, c, i, r, l + s⟩) hB rfl).set (j := 1) (u := .int .i64 (0)) (q' := ⟨st, 0, s, c, i, r, l + s⟩) hB rfl).set (j := 2) (u := .int .i64 (0)) (q' := ⟨st, 0, 0, c, i, r, l + s⟩) hB rfl)
    refine (settle_row B ⟨st, 0, 0, c, i, r, l + s⟩ _ hS2.out.1 (by refine ⟨?_, ?_, ?_, ?_, ?_, ?_⟩ <;> simp only <;> omega)).mono ?_
    rintro e W2 ⟨rfl, hrow2, hg2⟩
    replace hrow2 := Lib.hid hrow2
    go_wp2_with fail
    go_ret
    exact StepAt.yes hraw.out hS2.out hrow2.out hg2
set_option maxRecDepth 100000 in
set_option maxHeartbeats 4000000 in
theorem stepPool_clean (B : Nat) (st a s c i r l v z : Int) (w : World) (h : Row w B 30 (Pl.enc ⟨st, a, s, c, i, r, l⟩)) (hb : 0 ≤ a ∧ a ≤ 1000000 ∧ 0 ≤ s ∧ s ≤ 1000000 ∧ 0 ≤ c ∧ c ≤ 1000000 ∧ 0 ≤ i ∧ i ≤ 1000000 ∧ 0 ≤ r ∧ r ≤ 1000000 ∧ 0 ≤ l ∧ l ≤ 1000000)  :
    Calls Tryd.prog 31 #[.pointer (some ⟨B, 0, none⟩), .agg #[.int .i64 6, .int .i64 v, .int .i64 z]] w fun e w' => StepAt w B (Pl.raw ⟨st, a, s, c, i, r, l⟩ 6 v z) e w' := by
  have hB := h.lt
  have hne := Nat.ne_of_lt hB
  have g0 := h.cell (j := 0) (by simp [Pl.enc])
  have g1 := h.cell (j := 1) (by simp [Pl.enc])
  have g2 := h.cell (j := 2) (by simp [Pl.enc])
  have g3 := h.cell (j := 3) (by simp [Pl.enc])
  simp only [Pl.enc, List.getElem_cons_zero, List.getElem_cons_succ] at g0 g1 g2 g3
  have hS0 := Lib.hid (Sp.start (k := 6) (v := v) (z := z) h)
  clear h
  by_cases h0 : st = 2
  · by_cases h1 : 0 < a + s
    · have hraw := Lib.hid (show Pl.raw ⟨st, a, s, c, i, r, l⟩ 6 v z = none by simp [Pl.raw, h1])
      have hst : (st != 2) = false := by simpa using h0
      have hst2 : (st == 2) = true := by simpa using h0
      clear h0
      go_enter Tryd.func31, Tryd.ntmps31
      go_wp2_with fail
      refine (mass_any a s _ (by omega) (by omega) (by omega) (by omega)).mono ?_
      rintro e W0 ⟨rfl, hb1⟩
      have hS := hS0.out.to hb1
      clear hS0 g0 g1 g2 g3 hb1
      go_wp2_with fail
      go_ret
      exact StepAt.no (k := 6) (v := v) (z := z) hraw.out hS
    · have hraw := Lib.hid (show Pl.raw ⟨st, a, s, c, i, r, l⟩ 6 v z = some ⟨st, a, s, 0, i, r, l + c⟩ by simp [Pl.raw, h0, h1])
      have hst : (st != 2) = false := by simpa using h0
      have hst2 : (st == 2) = true := by simpa using h0
      clear h0
      go_enter Tryd.func31, Tryd.ntmps31
      go_wp2_with fail
      refine (mass_any a s _ (by omega) (by omega) (by omega) (by omega)).mono ?_
      rintro e W0 ⟨rfl, hb1⟩
      have hS := hS0.out.to hb1
      clear hS0 g0 g1 g2 g3 hb1
      obtain ⟨⟨c0, c1, c2, c3, c4, c5, c6⟩, ⟨s0, s1, s2⟩, fz, hlB, hlw⟩ := hS.cells
      simp only at c0 c1 c2 c3 c4 c5 c6
      have HS := Lib.hid hS
      clear hS
      go_wp2_with fail
      refine wp_region_below_tail 9 (by kernel_rfl) (by kernel_rfl) ?_
      simp only [List.take_succ_cons, List.take_zero, List.drop_succ_cons, List.drop_zero]
      repeat (go_big_quiet_step (fail))
      (refine wpQuiet_nil ?_; intro W1 hwq; have hb1 := of_cls hwq; clear hwq)
      obtain ⟨hc1, hf1, hn1⟩ := bcell hb1
      have hs1 := hb1.size
      have hlB1 : B < W1.heap.size := by omega
      go_wp2_with fail
      have hS2 := Lib.hid (((HS.out.to hb1).set (j := 6) (u := .int .i64 (l + c)) (q' := ⟨st, a, s, c, i, r, l + c⟩) hB rfl).set (j := 3) (u := .int .i64 (0)) (q' := ⟨st, a, s, 0, i, r, l + c⟩) hB rfl)
      refine (settle_row B ⟨st, a, s, 0, i, r, l + c⟩ _ hS2.out.1 (by refine ⟨?_, ?_, ?_, ?_, ?_, ?_⟩ <;> simp only <;> omega)).mono ?_
      rintro e W2 ⟨rfl, hrow2, hg2⟩
      replace hrow2 := Lib.hid hrow2
      go_wp2_with fail
      go_ret
      exact StepAt.yes hraw.out hS2.out hrow2.out hg2
  · have hraw := Lib.hid (show Pl.raw ⟨st, a, s, c, i, r, l⟩ 6 v z = none by simp [Pl.raw, h0])
    have hst : (st != 2) = true := by simpa using h0
    have hst2 : (st == 2) = false := by simpa using h0
    clear h0
    go_enter Tryd.func31, Tryd.ntmps31
    go_wp2_with fail
    go_ret
    exact StepAt.no (k := 6) (v := v) (z := z) hraw.out hS0.out
end Go.Proofs.YtmfahekkcgnndaaDoor
