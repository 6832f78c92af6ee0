/- The draw of owners (chapter 22). -/
import Derived.Test.YtimdnihadhbjpaaDoorCur
import Derived.Test.YtimdnihadhbjpaaDoorGive
import Derived.Test.YtimdnihadhbjpaaDoorStrE
import Derived.Test.YtimdnihadhbjpaaDoorCmpM
import Derived.Test.YtimdnihadhbjpaaDoorHeirMath
import Derived.Test.YtimdnihadhbjpaaDoorMarkO
set_option linter.unusedSimpArgs false
set_option linter.unusedVariables false
namespace Go.Proofs.YtimdnihadhbjpaaDoor
open Go.RowKit Go.Sort Go.Salt
attribute [local go_sem] cell_rg
attribute [local go_sem] conv_one
/-- The strings ss lie at A, not in block p. -/
def StrsAt (w : World) (p : Nat) (A : Option Addr) (xs : List ByteArray) : Prop := ∃ b o, A = some ⟨b, o, none⟩ ∧ b < w.heap.size ∧ b ≠ p ∧ ∀ i, i < xs.length → w.cell? ⟨b, o + i, none⟩ = some (.string (el xs i))
set_option maxHeartbeats 4000000 in
theorem of_any (xs : List ByteArray) (B : Option Addr) (c' : Nat) (p : Nat) (A : Option Addr) (n c K : Nat) (w : World) (h : Cur w p A n c K) (hn : n ≤ 65536) (hK : K ≤ 999999990) (hx : StrsAt w p B xs) (h0 : 0 < xs.length) (h1 : xs.length ≤ 1000000) :
    Calls Tryd.prog 95 #[.pointer (some ⟨p, 0, none⟩), .slice B xs.length c'] w fun e w' => Drawn (fun v => ∃ i, i < xs.length ∧ v = .string (el xs i)) w p A n c (K + 2) e w' := by
  obtain ⟨b, o, rfl, hb1, hb2, hc⟩ := hx
  replace h := Lib.hid h
  replace hc := Lib.hid hc
  go_enter Tryd.func95, Tryd.ntmps95
  go_wp2_with fail
  refine (pick_any _ _ _ _ _ _ _ h.out hn hK (by omega) (by omega)).mono ?_
  rintro e w1 ⟨_, rfl, ⟨x, rfl, x0, x1⟩, hC1, hG1⟩
  obtain ⟨i, rfl⟩ : ∃ i : Nat, x = i := ⟨x.toNat, by omega⟩
  have hi : i < xs.length := by omega
  have hI : (i : Int) < xs.length := by omega
  have hcell : w1.cell? ⟨b, o + i, none⟩ = some (.string (el xs i)) := (World.cell?_of_block (hG1.block b hb1 (by simpa using hb2))).trans (hc.out i hi)
  replace hC1 := Lib.hid hC1
  go_wp2_with fail
  go_ret
  exact ⟨_, rfl, ⟨i, hi, rfl⟩, hC1.out, hG1⟩
def nmL : List ByteArray := [⟨#[97, 110, 110, 97]⟩, ⟨#[98, 101, 114, 116]⟩, ⟨#[99, 97, 114, 108]⟩, ⟨#[100, 111, 114, 97]⟩, ⟨#[101, 109, 105, 108]⟩, ⟨#[102, 105, 110, 110]⟩, ⟨#[103, 101, 114, 100]⟩, ⟨#[104, 97, 110, 115]⟩]
/-- The state of the draw of owners: the cursor, the names, the owners so far. -/
structure DS (w0 wr : World) (p : Nat) (A : Option Addr) (n c K gn : Nat) (v : Value) (xs : List Ow) : Prop where
  cur : Cur wr p A n c K
  nm : Row wr gn 9 (nmL.flatMap se)
  own : wr.ownsRow w0.heap.size 54 3 v xs.length (xs.flatMap Ow.enc)
  fr : w0.grownBy wr (some p)
  pl : p < w0.heap.size
  gl : w0.heap.size ≤ gn
section
variable {w0 wr w' : World} {p n c K K' gn : Nat} {A : Option Addr} {v : Value} {xs : List Ow}
theorem DS.to (h : DS w0 wr p A n c K gn v xs) (hb : Below wr.heap.size wr w') : DS w0 w' p A n c K gn v xs :=
  ⟨h.cur.to hb, h.nm.to hb, own_keep h.own fun g _ hl => hb.block g hl, only_to h.fr hb, h.pl, h.gl⟩
theorem DS.drawn (h : DS w0 wr p A n c K gn v xs) (hg : wr.grownBy w' (some p)) (hc : Cur w' p A n c K') : DS w0 w' p A n c K' gn v xs :=
  ⟨hc, h.nm.grown hg (by have := h.gl; have := h.pl; simp; omega), own_keep h.own fun g hB hl => hg.block g hl (by have := h.pl; simp; omega), only_trans h.fr hg, h.pl, h.gl⟩
theorem DS.fm (h : DS w0 wr p A n c K gn v xs) (hp : 0 < xs.length) : ∃ g cap, v = .slice (some ⟨g, 0, none⟩) xs.length cap ∧ w0.heap.size ≤ g ∧ Row wr g 54 (xs.flatMap Ow.enc) ∧ xs.length ≤ cap ∧ cap ≤ maxLen := by
  rcases h.own.2 with ⟨_, h0⟩ | ⟨g, cap, cur, rfl, hg, hh, h1, h2, h3, h4⟩
  · omega
  · exact ⟨g, cap, rfl, hg, (Row.of_own h.own).1, h1, h2⟩
end
theorem own_lit_at (W : World) (cs : Array Value) (k : Nat) {g B : Nat} {E : TypeId} {size : Nat} (hg : W.heap.size = g) (hb : B ≤ W.heap.size) (hm : k ≤ maxLen) (hs : cs.size = k * size) : (W.alloc (.cells cs E)).ownsRow B E size (.slice (some ⟨g, 0, none⟩) k k) k cs.toList := by
  subst hg; exact World.ownsRow_lit W cs k hb hm hs
theorem ints_new {W : World} {p : Nat} (zs : List Int) (arr : Array Value) (h : arr.toList = zs.flatMap ie) (hp : p < W.heap.size) : IntsAt (W.alloc (.cells arr 3)) p (some ⟨W.heap.size, 0, none⟩) zs := by
  have hr : Row (W.alloc (.cells arr 3)) W.heap.size 3 (zs.flatMap ie) := by rw [← h]; exact Row.new _ _ _
  refine ⟨W.heap.size, 0, rfl, by simp, by omega, fun i hi => ?_⟩
  obtain ⟨b, o, e, _, hc⟩ := int_cell (hr.rd ie_len hr.lt) hi
  cases e; exact hc
/-- Shares of at most 1. -/
def BdO (xs : List Ow) : Prop := ∀ j, 1 ≤ (el xs j).n ∧ (el xs j).n ≤ (el xs j).d ∧ (el xs j).d ≤ 1000
theorem BdO.one (s : ByteArray) : BdO [⟨s, 1, 1⟩] := fun j => by
  by_cases hj : j < 1
  · obtain rfl : j = 0 := by omega
    exact ⟨show (1 : Int) ≤ 1 by omega, show (1 : Int) ≤ 1 by omega, show (1 : Int) ≤ 1000 by omega⟩
  · rw [el_out (by simp; omega)]; exact ⟨by decide, by decide, by decide⟩
theorem OwSz.one {B : Nat} {x : Ow} (h : x.s.size ≤ B) : OwSz B [x] := fun k hk => by
  obtain rfl : k = 0 := by simpa using hk
  exact h
theorem own_setCell {w : World} {B E k n g cap : Nat} {cs : List Value} (h : w.ownsRow B E k (.slice (some ⟨g, 0, none⟩) n cap) n cs) (j : Nat) (u : Value) : (w.setCell ⟨g, j, none⟩ u).ownsRow B E k (.slice (some ⟨g, 0, none⟩) n cap) n (cs.set j u) := by
  refine ⟨by rw [List.length_set]; exact h.1, ?_⟩
  rcases h.2 with ⟨h2, _⟩ | ⟨g', cap', cur, hv, hB, hh, h1, h2, h3, h4⟩
  · cases h2
  · obtain ⟨rfl, rfl⟩ : g = g' ∧ cap = cap' := by simpa using hv
    exact .inr ⟨g, cap, cur.setIfInBounds j u, rfl, hB, by simp [World.setCell, Array.getElem?_modify, hh], h1, h2, by simpa using h3, by rw [Array.toList_setIfInBounds, List.take_set, h4]⟩
theorem row_ne {w : World} {a b E E' : Nat} {cs cs' : List Value} (h : Row w a E cs) (h' : Row w b E' cs') (he : E ≠ E') : a ≠ b := fun e => by
  subst e
  obtain ⟨x, h1, _⟩ := h
  obtain ⟨y, h2, _⟩ := h'
  rw [h1] at h2
  simp only [Option.some.injEq, Obj.cells.injEq] at h2
  exact he h2.2.1
theorem only_own {a b c : World} {p g : Nat} (h : a.grownBy b (some p)) (k : b.grownBy c (some g)) (hg : a.heap.size ≤ g) : a.grownBy c (some p) :=
  ⟨k.os.trans h.os, k.tape.trans h.tape, k.output.trans h.output, Nat.le_trans h.size k.size, fun i hi hn => (k.block i (Nat.lt_of_lt_of_le hi h.size) (by simp; omega)).trans (h.block i hi hn)⟩
section
variable {w0 wr w' : World} {p n c K K' gn g cap : Nat} {A : Option Addr} {v : Value} {xs : List Ow}
theorem DS.blk (h : DS w0 wr p A n c K gn (.slice (some ⟨g, 0, none⟩) xs.length cap) xs) : w0.heap.size ≤ g ∧ gn ≠ g := by
  obtain ⟨r1, r2⟩ := Row.of_own h.own
  exact ⟨r2, row_ne h.nm r1 (by decide)⟩
theorem DS.app {v9 : Value} {ys : List Ow} (h : DS w0 wr p A n c K gn (.slice (some ⟨g, 0, none⟩) xs.length cap) xs) (hg : wr.grownBy w' (some g)) (ho : w'.ownsRow w0.heap.size 54 3 v9 ys.length (ys.flatMap Ow.enc)) : DS w0 w' p A n c K gn v9 ys := by
  obtain ⟨h1, h2⟩ := h.blk
  have hp := h.pl
  exact ⟨h.cur.grown hg (by omega), h.nm.grown hg (by simpa using h2), ho, only_own h.fr hg h1, hp, h.gl⟩
theorem DS.set3 (h : DS w0 wr p A n c K gn (.slice (some ⟨g, 0, none⟩) xs.length cap) xs) {k : Nat} (hk : k < xs.length) (s : ByteArray) (a d : Int) (W : World) (hW : World.setCell (World.setCell (World.setCell wr (⟨g, k * 3, none⟩ : Addr) (Value.string s)) (⟨g, k * 3 + 1, none⟩ : Addr) (Value.int .i64 a)) (⟨g, k * 3 + 2, none⟩ : Addr) (Value.int .i64 d) = W) :
    DS w0 W p A n c K gn (.slice (some ⟨g, 0, none⟩) xs.length cap) (xs.set k (⟨s, a, d⟩ : Ow)) := by
  have ho := own_setCell (own_setCell (own_setCell h.own (k * 3) (.string s)) (k * 3 + 1) (.int .i64 a)) (k * 3 + 2) (.int .i64 d)
  rw [set_ow xs k hk, hW] at ho
  have hg : wr.grownBy W (some g) := by
    rw [← hW]
    exact only_setCell (only_setCell (only_setCell (World.grownBy.refl wr (some g)) (p := ⟨g, k * 3, none⟩) (.inl rfl) (.string s)) (p := ⟨g, k * 3 + 1, none⟩) (.inl rfl) (.int .i64 a)) (p := ⟨g, k * 3 + 2, none⟩) (.inl rfl) (.int .i64 d)
  clear hW
  refine DS.app (ys := xs.set k ⟨s, a, d⟩) h hg ?_
  rw [List.length_set]
  exact ho
end
theorem r_le {n m : Int} (hm : 0 < m) (h : n ≤ m) : rN n m ≤ rD n m := by
  obtain ⟨q, hq, e1, e2, _⟩ := r_eq (n := n) hm
  generalize rN n m = a at *
  generalize rD n m = b at *
  rw [e1, e2] at h
  exact Int.le_of_mul_le_mul_left h hq
theorem nmL_sz (j : Nat) : (el nmL j).size ≤ 100 := by
  by_cases hj : j < 8
  · have : ∀ j : Fin 8, (el nmL j.val).size ≤ 100 := by decide
    exact this ⟨j, hj⟩
  · rw [el_out (by simp [nmL]; omega)]; decide
theorem nm_cell {w : World} {gn j : Nat} (h : Row w gn 9 (nmL.flatMap se)) (hj : j < 8) : w.cell? ⟨gn, j, none⟩ = some (.string (el nmL j)) := by
  obtain ⟨b, o, e, _, hc⟩ := str_cell (h.rd se_len h.lt) (show j < nmL.length from hj)
  obtain ⟨rfl, rfl⟩ : gn = b ∧ 0 = o := by simpa using e
  simpa using hc
theorem BdO.next {xs : List Ow} (h : BdO xs) {k : Nat} (hk : k < xs.length) {s t : ByteArray} {a b d e : Int} (h1 : 1 ≤ a ∧ a ≤ b ∧ b ≤ 1000) (h2 : 1 ≤ d ∧ d ≤ e ∧ e ≤ 1000) : BdO (xs.set k ⟨s, a, b⟩ ++ [⟨t, d, e⟩]) := fun j => by
  rw [el_snoc]; split
  · exact h2
  · rw [el_put hk]; split
    · exact h1
    · exact h j
theorem strs_new {W : World} {p : Nat} (zs : List ByteArray) (arr : Array Value) (h : arr.toList = zs.flatMap se) (hp : p < W.heap.size) : StrsAt (W.alloc (.cells arr 9)) p (some ⟨W.heap.size, 0, none⟩) zs := by
  have hr : Row (W.alloc (.cells arr 9)) W.heap.size 9 (zs.flatMap se) := by rw [← h]; exact Row.new _ _ _
  refine ⟨W.heap.size, 0, rfl, by simp, by omega, fun i hi => ?_⟩
  obtain ⟨b, o, e, _, hc⟩ := str_cell (hr.rd se_len hr.lt) hi
  cases e; exact hc
/-- Writes into another block of the draw's own. -/
theorem DS.side {w0 wr w' : World} {p n c K gn g cap gx : Nat} {A : Option Addr} {xs : List Ow} (h : DS w0 wr p A n c K gn (.slice (some ⟨g, 0, none⟩) xs.length cap) xs) (hx : w0.heap.size < gx ∧ gn < gx) (hne : g ≠ gx) (hg : wr.grownBy w' (some gx)) : DS w0 w' p A n c K gn (.slice (some ⟨g, 0, none⟩) xs.length cap) xs := by
  have hp := h.pl
  refine ⟨h.cur.grown hg (by omega), h.nm.grown hg (by simp; omega), ?_, only_own h.fr hg (by omega), hp, h.gl⟩
  refine ⟨h.own.1, ?_⟩
  rcases h.own.2 with ⟨h2, _⟩ | ⟨g', cap', cur, hv, hB, hh, r⟩
  · cases h2
  · obtain ⟨rfl, rfl⟩ : g = g' ∧ cap = cap' := by simpa using hv
    have hlt : g < wr.heap.size := by
      rcases Nat.lt_or_ge g wr.heap.size with hlt | hge
      · exact hlt
      · rw [Array.getElem?_eq_none hge] at hh; cases hh
    exact .inr ⟨g, cap, cur, rfl, hB, (hg.block g hlt (by simpa using hne)).trans hh, r⟩
theorem spoil_bd {v : Int} (hv : 1 ≤ v ∧ v ≤ 1001) {i : Nat} (hi : i < [0, 1001, v, -1].length) : -1 ≤ el [0, 1001, v, -1] i ∧ el [0, 1001, v, -1] i ≤ 1001 := by
  match i, hi with
  | 0, _ => exact ⟨show (-1 : Int) ≤ 0 by omega, show (0 : Int) ≤ 1001 by omega⟩
  | 1, _ => exact ⟨show (-1 : Int) ≤ 1001 by omega, show (1001 : Int) ≤ 1001 by omega⟩
  | 2, _ => exact ⟨show (-1 : Int) ≤ v by omega, show v ≤ 1001 by omega⟩
  | 3, _ => exact ⟨show (-1 : Int) ≤ -1 by omega, show (-1 : Int) ≤ 1001 by omega⟩
def sixL : List Ow := [⟨⟨#[97, 110, 110, 97]⟩, 110, 331⟩, ⟨⟨#[98, 101, 114, 116]⟩, 1, 993⟩, ⟨⟨#[99, 97, 114, 108]⟩, 331, 996⟩, ⟨⟨#[100, 111, 114, 97]⟩, 1, 996⟩, ⟨⟨#[101, 109, 105, 108]⟩, 332, 999⟩, ⟨⟨#[102, 105, 110, 110]⟩, 1, 999⟩]
theorem sixL_sz : OwSz 100 sixL := fun k hk => by
  have : ∀ k : Fin 6, (el sixL k.val).s.size ≤ 100 := by decide
  exact this ⟨k, hk⟩
/-- Owners of equal shares. -/
def pO (n : Int) (j : Nat) : Ow := ⟨⟨#[112 + UInt8.ofNat j]⟩, 1, n⟩
def pL (n : Int) (k : Nat) : List Ow := (List.range k).map (pO n)
theorem pL_succ (n : Int) (k : Nat) : pL n (k + 1) = pL n k ++ [pO n k] := by simp [pL, List.range_succ]
theorem pL_len (n : Int) (k : Nat) : (pL n k).length = k := by simp [pL]
theorem pL_sz (n : Int) (k : Nat) : OwSz 100 (pL n k) := fun j hj => by
  rw [el_get hj]
  simp only [pL, List.getElem_map, pO]
  show 1 ≤ 100
  omega
theorem own_vfm {w : World} {B E k n : Nat} {v : Value} {cs : List Value} (h : w.ownsRow B E k v n cs) : ∃ A c, v = .slice A n c := by
  rcases h.2 with ⟨rfl, rfl⟩ | ⟨g, c, cur, rfl, _⟩
  · exact ⟨_, _, rfl⟩
  · exact ⟨_, _, rfl⟩
/-- What the draw of owners returns. -/
def DrawnO (w : World) (p : Nat) (A : Option Addr) (n c K : Nat) (e : Ending) (w' : World) : Prop :=
  ∃ A' c' xs, e = .returned (.slice A' (xs : List Ow).length c') ∧ OwnAt w' w.heap.size 54 (xs.flatMap Ow.enc) xs.length A' ∧ xs.length ≤ c' ∧ xs.length ≤ 10 ∧ OwSz 100 xs ∧ Cur w' p A n c K ∧ w.grownBy w' (some p)
theorem five_out {w w4 w5 wr : World} {p n c K K2 zn co : Nat} {A Ao : Option Addr} {z : Int} (ho : wr.ownsRow w4.heap.size 54 3 (.slice Ao zn co) zn ((pL z zn).flatMap Ow.enc)) (hc : Cur w5 p A n c K) (hf : w.grownBy w5 (some p)) (hb : Below w4.heap.size w5 wr) (h1 : w.heap.size ≤ w4.heap.size) (h2 : p < w4.heap.size) (hz : zn ≤ 10) (hK : K ≤ K2) :
    DrawnO w p A n c K2 (.returned (.slice Ao zn co)) wr := by
  have hcap : zn ≤ co := by
    rcases ho.2 with ⟨h, h0⟩ | ⟨g, cap, cur, hv, _, _, h3, _⟩
    · omega
    · cases hv; exact h3
  obtain ⟨A', c', e, hO⟩ := OwnAt.of_own ho
  cases e
  refine ⟨Ao, co, pL z zn, by rw [pL_len], by rw [pL_len]; exact hO.mono h1, by rw [pL_len]; exact hcap, by rw [pL_len]; exact hz, pL_sz z zn, ?_, ?_⟩
  · obtain ⟨q1, k, s, q2, q3⟩ := hc
    exact ⟨q1.below (hb.mono (by omega)), k, s, by omega, q3.below hb h2⟩
  · exact ⟨hb.os.trans hf.os, hb.tape.trans hf.tape, hb.output.trans hf.output, Nat.le_trans hf.size hb.size, fun i hi hn => (hb.block i (by omega)).trans (hf.block i hi hn)⟩
theorem fin_out {w W : World} {p n c K K2 gn g cap m : Nat} {A : Option Addr} {xs : List Ow} (h : DS w W p A n c K gn (.slice (some ⟨g, 0, none⟩) m cap) xs) (hl : xs.length = m) (h0 : 1 ≤ m) (h1 : m ≤ 10) (hc : m ≤ cap) (hz : OwSz 100 xs) (hK : K ≤ K2) :
    DrawnO w p A n c K2 (.returned (.slice (some ⟨g, 0, none⟩) m cap)) W := by
  subst hl
  obtain ⟨r1, r2⟩ := Row.of_own h.own
  exact ⟨some ⟨g, 0, none⟩, cap, xs, rfl, OwnAt.row r2 r1, hc, h1, hz, h.cur.le hK, h.fr⟩
set_option maxRecDepth 100000 in
set_option maxHeartbeats 16000000 in
theorem owners_any (p : Nat) (A : Option Addr) (n c K : Nat) (w : World) (h : Cur w p A n c K) (hn : n ≤ 65536) (hK : K ≤ 999999000) :
    Calls Tryd.prog 85 #[.pointer (some ⟨p, 0, none⟩)] w fun e w' => DrawnO w p A n c (K + 60) e w' := by
  obtain ⟨i0, hii, hz0, hz1, hz2⟩ := info_parts ow_info
  have hinfo := Lib.hid (And.intro hii (And.intro hz0 (And.intro hz1 hz2)))
  clear hii hz0 hz1 hz2
  have hpl := h.lt
  have HC := Lib.hid h
  clear h
  go_enter Tryd.func85, Tryd.ntmps85
  go_upto_region 3 with (fail)
  refine cut_world (fun W => DS w W p A n c K w.heap.size (.slice (some ⟨w.heap.size + 1, 0, none⟩) 1 1) [⟨⟨#[97, 110, 110, 97]⟩, 1, 1⟩]) ⟨HC.out.to (by repeat' (first | (with_reducible exact Below.refl _ _) | (with_reducible refine Below.alloc ?_ ?_ _) | (with_reducible refine Below.setCell ?_ ?_ _) | (with_reducible refine Below.drew ?_) | (with_reducible refine Below.trans ?_ (Below.mono (by with_reducible assumption) ?_)) | omega | (simp; done) | (simp; omega))), by first | exact Row.alloc (Row.new _ _ _) _ | exact (Row.new _ _ _).to (by repeat' (first | (with_reducible exact Below.refl _ _) | (with_reducible refine Below.alloc ?_ ?_ _) | (with_reducible refine Below.setCell ?_ ?_ _) | (with_reducible refine Below.drew ?_) | (with_reducible refine Below.trans ?_ (Below.mono (by with_reducible assumption) ?_)) | omega | (simp; done) | (simp; omega))), ?_, only_to (World.grownBy.refl _ _) (by repeat' (first | (with_reducible exact Below.refl _ _) | (with_reducible refine Below.alloc ?_ ?_ _) | (with_reducible refine Below.setCell ?_ ?_ _) | (with_reducible refine Below.drew ?_) | (with_reducible refine Below.trans ?_ (Below.mono (by with_reducible assumption) ?_)) | omega | (simp; done) | (simp; omega))), hpl, Nat.le_refl _⟩ ?_
  · exact own_lit_at (w.alloc _) #[.string ⟨#[97, 110, 110, 97]⟩, .int .i64 1, .int .i64 1] 1 (by simp) (by simp) (by unfold maxLen; omega) rfl
  rintro w1 hD
  have HD := Lib.hid hD
  have hs1 := hD.fr.size
  clear hD
  go_wp2_with fail
  refine (pick_any 6 p A n c K _ (HD.out.cur.to (by repeat' (first | (with_reducible exact Below.refl _ _) | (with_reducible refine Below.alloc ?_ ?_ _) | (with_reducible refine Below.setCell ?_ ?_ _) | (with_reducible refine Below.drew ?_) | (with_reducible refine Below.trans ?_ (Below.mono (by with_reducible assumption) ?_)) | omega | (simp; done) | (simp; omega)))) hn (by omega) (by omega) (by omega)).mono ?_
  rintro e w2 ⟨_, rfl, ⟨mI, rfl, m0, m1⟩, hC2, hG2⟩
  obtain ⟨m, rfl⟩ : ∃ m : Nat, mI = m := ⟨mI.toNat, by omega⟩
  have HD2 := Lib.hid (DS.drawn (DS.to HD.out (by repeat' (first | (with_reducible exact Below.refl _ _) | (with_reducible refine Below.alloc ?_ ?_ _) | (with_reducible refine Below.setCell ?_ ?_ _) | (with_reducible refine Below.drew ?_) | (with_reducible refine Below.trans ?_ (Below.mono (by with_reducible assumption) ?_)) | omega | (simp; done) | (simp; omega)))) hG2 hC2)
  clear HD hC2 hG2 hs1
  go_wp2_with fail
  go_loopw [4, 5] (fun v nn wr => ∃ (xs : List Ow) (m : Nat) (K' : Nat), nn = .int .i64 m ∧ m ≤ 5 ∧ 1 ≤ xs.length ∧ xs.length + m ≤ 6 ∧ K' + 6 * m ≤ K + 32 ∧ Hid (BdO xs) ∧ Hid (OwSz 100 xs) ∧ Hid (DS w wr p A n c K' w.heap.size v xs)) (fun _ nn _ => (intOf nn).toNat)
  case atStart => exact ⟨[⟨⟨#[97, 110, 110, 97]⟩, 1, 1⟩], m, K + 2, rfl, by omega, by simp, by simp; omega, by omega, Lib.hid (BdO.one _), Lib.hid (OwSz.one (by decide)), HD2⟩
  case round =>
    clear HD2 HC
    obtain ⟨xs, m, K', rfl, hm5, hl1, hlm, hK', HB, HZ, HS⟩ := hrel
    obtain ⟨g, cap, rfl, hg, row, k1, k2⟩ := HS.out.fm hl1
    have hgl := row.lt
    have hsr := HS.out.fr.size
    clear row
    by_cases hm0 : 0 < m
    · have hmI : (0 : Int) < m := by omega
      go_wp2_with fail
      refine (pick_any (xs.length : Int) p A n c K' _ (HS.out.cur.to (by repeat' (first | (with_reducible exact Below.refl _ _) | (with_reducible refine Below.alloc ?_ ?_ _) | (with_reducible refine Below.setCell ?_ ?_ _) | (with_reducible refine Below.drew ?_) | (with_reducible refine Below.trans ?_ (Below.mono (by with_reducible assumption) ?_)) | omega | (simp; done) | (simp; omega)))) hn (by omega) (by omega) (by omega)).mono ?_
      rintro e w2 ⟨_, rfl, ⟨kI, rfl, k0, kk1⟩, hC2, hG2⟩
      obtain ⟨k, rfl⟩ : ∃ k : Nat, kI = k := ⟨kI.toNat, by omega⟩
      have hk : k < xs.length := by omega
      have hkI : (k : Int) < xs.length := by omega
      have HS2 := Lib.hid (DS.drawn (DS.to HS.out (by repeat' (first | (with_reducible exact Below.refl _ _) | (with_reducible refine Below.alloc ?_ ?_ _) | (with_reducible refine Below.setCell ?_ ?_ _) | (with_reducible refine Below.drew ?_) | (with_reducible refine Below.trans ?_ (Below.mono (by with_reducible assumption) ?_)) | omega | (simp; done) | (simp; omega)))) hG2 hC2)
      have hs2 := HS2.out.fr.size
      clear hC2 hG2
      go_wp2_with fail
      refine (among_any 1 2 [1, 1, 1, 2] _ 4 p A n c (K' + 2) _ (HS2.out.cur.to (by repeat' (first | (with_reducible exact Below.refl _ _) | (with_reducible refine Below.alloc ?_ ?_ _) | (with_reducible refine Below.setCell ?_ ?_ _) | (with_reducible refine Below.drew ?_) | (with_reducible refine Below.trans ?_ (Below.mono (by with_reducible assumption) ?_)) | omega | (simp; done) | (simp; omega)))) hn (by omega) (ints_new _ _ rfl (by omega)) (by decide) (by decide) (by decide)).mono ?_
      rintro e w3 ⟨_, rfl, ⟨nu, rfl, nu0, nu1⟩, hC3, hG3⟩
      have HS3 := Lib.hid (DS.drawn (DS.to HS2.out (by repeat' (first | (with_reducible exact Below.refl _ _) | (with_reducible refine Below.alloc ?_ ?_ _) | (with_reducible refine Below.setCell ?_ ?_ _) | (with_reducible refine Below.drew ?_) | (with_reducible refine Below.trans ?_ (Below.mono (by with_reducible assumption) ?_)) | omega | (simp; done) | (simp; omega)))) hG3 hC3)
      have hs3 := HS3.out.fr.size
      clear hC3 hG3
      go_wp2_with fail
      refine (among_any 2 7 [2, 3, 4, 5, 7] _ 5 p A n c (K' + 4) _ (HS3.out.cur.to (by repeat' (first | (with_reducible exact Below.refl _ _) | (with_reducible refine Below.alloc ?_ ?_ _) | (with_reducible refine Below.setCell ?_ ?_ _) | (with_reducible refine Below.drew ?_) | (with_reducible refine Below.trans ?_ (Below.mono (by with_reducible assumption) ?_)) | omega | (simp; done) | (simp; omega)))) hn (by omega) (ints_new _ _ rfl (by omega)) (by decide) (by decide) (by decide)).mono ?_
      rintro e w4 ⟨_, rfl, ⟨de, rfl, de0, de1⟩, hC4, hG4⟩
      have HS4 := Lib.hid (DS.drawn (DS.to HS3.out (by repeat' (first | (with_reducible exact Below.refl _ _) | (with_reducible refine Below.alloc ?_ ?_ _) | (with_reducible refine Below.setCell ?_ ?_ _) | (with_reducible refine Below.drew ?_) | (with_reducible refine Below.trans ?_ (Below.mono (by with_reducible assumption) ?_)) | omega | (simp; done) | (simp; omega)))) hG4 hC4)
      have hs4 := HS4.out.fr.size
      clear hC4 hG4 HS HS2 HS3 hs2 hs3
      obtain ⟨g', cap', e', _, row4, _⟩ := HS4.out.fm hl1
      obtain ⟨rfl, rfl⟩ : g = g' ∧ cap = cap' := by simpa using e'
      have hgl4 := row4.lt
      obtain ⟨b, o, e, _, q0, q1, q2⟩ := ow_cells (row4.rd Ow.enc_len row4.lt) hk
      obtain ⟨rfl, rfl⟩ : g = b ∧ 0 = o := by simpa using e
      simp only [Nat.zero_add] at q0 q1 q2
      have hbk := HB.out k
      have hzk := HZ.out k hk
      rcases hx : el xs k with ⟨x0, xn, xd⟩
      rw [hx] at q0 q1 q2 hbk hzk
      simp only at q0 q1 q2 hbk hzk
      clear row4 e e' hx
      go_upto_region 9 with (fail)
      refine cut_world (fun W => Row W w4.heap.size 54 [.string x0, .int .i64 xn, .int .i64 xd] ∧ DS w W p A n c (K' + 6) w.heap.size (.slice (some ⟨g, 0, none⟩) xs.length cap) xs) ⟨by first | exact Row.new _ _ _ | exact (Row.new _ _ _).to (by repeat' (first | (with_reducible exact Below.refl _ _) | (with_reducible refine Below.alloc ?_ ?_ _) | (with_reducible refine Below.setCell ?_ ?_ _) | (with_reducible refine Below.drew ?_) | (with_reducible refine Below.trans ?_ (Below.mono (by with_reducible assumption) ?_)) | omega | (simp; done) | (simp; omega))), HS4.out.to (by repeat' (first | (with_reducible exact Below.refl _ _) | (with_reducible refine Below.alloc ?_ ?_ _) | (with_reducible refine Below.setCell ?_ ?_ _) | (with_reducible refine Below.drew ?_) | (with_reducible refine Below.trans ?_ (Below.mono (by with_reducible assumption) ?_)) | omega | (simp; done) | (simp; omega)))⟩ ?_
      obtain ⟨gx, hgx⟩ : ∃ g, w4.heap.size = g := ⟨_, rfl⟩
      rw [hgx]
      rw [hgx] at hgl4 hs4
      clear q0 q1 q2 HS4 hgx
      rintro w5 ⟨rx, hD5⟩
      have HS5 := Lib.hid hD5
      have RX5 := Lib.hid rx
      have hs5 := hD5.fr.size
      obtain ⟨x0c, x1c, x2c⟩ := row3o rx
      have hlx := rx.lt
      clear rx hD5
      by_cases hnd : de ≤ nu
      · have hndi : nu ≥ de := hnd
        go_wp2
        go_roundw
        case rel => exact ⟨xs, m - 1, K' + 6, by go_num, by omega, hl1, by omega, by omega, HB, HZ, Lib.hid (HS5.out.to (by repeat' (first | (with_reducible exact Below.refl _ _) | (with_reducible refine Below.alloc ?_ ?_ _) | (with_reducible refine Below.setCell ?_ ?_ _) | (with_reducible refine Below.drew ?_) | (with_reducible refine Below.trans ?_ (Below.mono (by with_reducible assumption) ?_)) | omega | (simp; done) | (simp; omega))))⟩
        case measure => simp [intOf] <;> omega
      · have hndi : ¬ nu ≥ de := hnd
        have b1 := mulb (a := xn) (b := nu) (by omega) (by omega)
        have b2 := mulb (a := xd) (b := de) (by omega) (by omega)
        have b3 := mulb (a := xn) (b := de - nu) (by omega) (by omega)
        have p1 := Int.mul_pos (show 0 < xn by omega) (show 0 < nu by omega)
        have p2 := Int.mul_pos (show 0 < xd by omega) (show 0 < de by omega)
        have p3 := Int.mul_pos (show 0 < xn by omega) (show 0 < de - nu by omega)
        have l1 : xn * nu ≤ xd * de := Int.mul_le_mul (by omega) (by omega) (by omega) (by omega)
        have l3 : xn * (de - nu) ≤ xd * de := Int.mul_le_mul (by omega) (by omega) (by omega) (by omega)
        obtain ⟨P1, hP1⟩ : ∃ z, xn * nu = z := ⟨_, rfl⟩
        obtain ⟨P2, hP2⟩ : ∃ z, xd * de = z := ⟨_, rfl⟩
        obtain ⟨P3, hP3⟩ : ∃ z, xn * (de - nu) = z := ⟨_, rfl⟩
        rw [hP1] at b1 p1 l1
        rw [hP2] at b2 p2 l1 l3
        rw [hP3] at b3 p3 l3
        have v1 : wrap64 (xn * nu) = P1 := by rw [hP1]; exact wrap_in' ⟨by omega, by omega⟩
        have v2 : wrap64 (xd * de) = P2 := by rw [hP2]; exact wrap_in' ⟨by omega, by omega⟩
        have v3 : wrap64 (xn * (de - nu)) = P3 := by rw [hP3]; exact wrap_in' ⟨by omega, by omega⟩
        have hc1 := fun W => red_any P1 P2 W (by omega) p2 (by omega) (by omega)
        have hc2 := fun W => red_any P3 P2 W (by omega) p2 (by omega) (by omega)
        have r1 := rN_pos p1 p2
        have r2 := rN_pos p3 p2
        have e1 := r_le p2 l1
        have e2 := r_le p2 l3
        obtain ⟨ra, hra⟩ : ∃ z, rN P1 P2 = z := ⟨_, rfl⟩
        obtain ⟨rb, hrb⟩ : ∃ z, rD P1 P2 = z := ⟨_, rfl⟩
        obtain ⟨rd, hrd⟩ : ∃ z, rN P3 P2 = z := ⟨_, rfl⟩
        obtain ⟨re, hre⟩ : ∃ z, rD P3 P2 = z := ⟨_, rfl⟩
        rw [hra, hrb] at hc1 r1 e1
        rw [hrd, hre] at hc2 r2 e2
        have HC1 := Lib.hid hc1
        have HC2 := Lib.hid hc2
        clear hc1 hc2 hra hrb hrd hre hP1 hP2 hP3 b1 b2 b3 l1 l3 p1 p2 p3
        go_wp2_with fail
        refine (HC1.out _).mono ?_
        rintro e w6 ⟨rfl, hb6⟩
        have hs6 := hb6.size
        have RX6 := Lib.hid (RX5.out.to (show Below w5.heap.size w5 w6 from (by repeat' (first | (with_reducible exact Below.refl _ _) | (with_reducible refine Below.alloc ?_ ?_ _) | (with_reducible refine Below.setCell ?_ ?_ _) | (with_reducible refine Below.drew ?_) | (with_reducible refine Below.trans ?_ (Below.mono (by with_reducible assumption) ?_)) | omega | (simp; done) | (simp; omega)))))
        have HS6 := Lib.hid (HS5.out.to (show Below w5.heap.size w5 w6 from (by repeat' (first | (with_reducible exact Below.refl _ _) | (with_reducible refine Below.alloc ?_ ?_ _) | (with_reducible refine Below.setCell ?_ ?_ _) | (with_reducible refine Below.drew ?_) | (with_reducible refine Below.trans ?_ (Below.mono (by with_reducible assumption) ?_)) | omega | (simp; done) | (simp; omega)))))
        clear x0c x1c x2c
        obtain ⟨x0c, x1c, x2c⟩ := row3o RX6.out
        have hlx6 := RX6.out.lt
        go_wp2_with fail
        refine (HC2.out _).mono ?_
        rintro e w7 ⟨rfl, hb7⟩
        have hs7 := hb7.size
        have RX7 := Lib.hid (RX6.out.to (show Below w6.heap.size w6 w7 from (by repeat' (first | (with_reducible exact Below.refl _ _) | (with_reducible refine Below.alloc ?_ ?_ _) | (with_reducible refine Below.setCell ?_ ?_ _) | (with_reducible refine Below.drew ?_) | (with_reducible refine Below.trans ?_ (Below.mono (by with_reducible assumption) ?_)) | omega | (simp; done) | (simp; omega)))))
        have HS7 := Lib.hid (HS6.out.to (show Below w6.heap.size w6 w7 from (by repeat' (first | (with_reducible exact Below.refl _ _) | (with_reducible refine Below.alloc ?_ ?_ _) | (with_reducible refine Below.setCell ?_ ?_ _) | (with_reducible refine Below.drew ?_) | (with_reducible refine Below.trans ?_ (Below.mono (by with_reducible assumption) ?_)) | omega | (simp; done) | (simp; omega)))))
        clear x0c x1c x2c
        obtain ⟨x0c, x1c, x2c⟩ := row3o RX7.out
        have hlx7 := RX7.out.lt
        clear HS5 HS6 RX5 RX6 hb6 hb7 v1 v2 v3
        by_cases hbb : rb ≤ 1000
        · by_cases hee : re ≤ 1000
          · obtain ⟨g', cap', e', _, row7, _⟩ := HS7.out.fm hl1
            obtain ⟨rfl, rfl⟩ : g = g' ∧ cap = cap' := by simpa using e'
            have hgl7 := row7.lt
            obtain ⟨b, o, e, _, q0, q1, q2⟩ := ow_cells (row7.rd Ow.enc_len row7.lt) hk
            obtain ⟨rfl, rfl⟩ : g = b ∧ 0 = o := by simpa using e
            simp only [Nat.zero_add] at q0 q1 q2
            have f0 := row7.frozen (k * 3)
            have f1 := row7.frozen (k * 3 + 1)
            have f2 := row7.frozen (k * 3 + 2)
            clear row7 e e'
            go_upto_region 14 with (fail)
            refine cut_world (fun W => DS w W p A n c (K' + 6) w.heap.size (.slice (some ⟨g, 0, none⟩) xs.length cap) (xs.set k ⟨x0, ra, rb⟩)) (HS7.out.set3 hk x0 ra rb _ rfl) ?_
            clear q0 q1 q2 f0 f1 f2 x0c x1c x2c HS7 RX7
            rintro w8 hD8
            have HS8 := Lib.hid hD8
            have hlen : (xs.set k (⟨x0, ra, rb⟩ : Ow)).length = xs.length := List.length_set
            have hnm := nm_cell hD8.nm (show xs.length < 8 by omega)
            have hnl := hD8.nm.lt
            have hs8 := hD8.fr.size
            clear hD8
            have HO8 : Hid (w8.ownsRow w.heap.size 54 3 (.slice (some ⟨g, 0, none⟩) xs.length cap) xs.length ((xs.set k (⟨x0, ra, rb⟩ : Ow)).flatMap Ow.enc)) := Lib.hid (by have := HS8.out.own; rwa [hlen] at this)
            have HB9 := Lib.hid (BdO.next HB.out (t := el nmL xs.length) (s := x0) (a := ra) (b := rb) (d := rd) (e := re) hk (And.intro (by omega) (And.intro e1 hbb)) (And.intro (by omega) (And.intro e2 hee)))
            have HZ9 := Lib.hid ((HZ.out.put (j := k) (u := (⟨x0, ra, rb⟩ : Ow)) hzk).snoc (u := (⟨el nmL xs.length, rd, re⟩ : Ow)) (nmL_sz _))
            go_wp2_with (at_builtin; refine wpList_append_own_at _ rfl _ _ 25 rfl w.heap.size 54 _ _ 3 32 Tryd.underlying25 hinfo.out.1 hinfo.out.2.1 hinfo.out.2.2.1 hinfo.out.2.2.2 rfl (by decide) _ _ _ rfl (own_to HO8.out (by repeat' (first | (with_reducible exact Below.refl _ _) | (with_reducible refine Below.alloc ?_ ?_ _) | (with_reducible refine Below.setCell ?_ ?_ _) | (with_reducible refine Below.drew ?_) | (with_reducible refine Below.trans ?_ (Below.mono (by with_reducible assumption) ?_)) | omega | (simp; done) | (simp; omega)))) _ 1 1 [.string (el nmL xs.length), .int .i64 rd, .int .i64 re] rfl rfl (news_top (cs := #[.string (el nmL xs.length), .int .i64 rd, .int .i64 re]) (t := 54) (by simp)) (by simp [Value.oneCell']) (by unfold maxLen; omega) (by omega) (by simp; omega) ?_)
            intro v9 w9 hown9 hgrow9 hnil9 hat9
            have e9 : (xs.set k (⟨x0, ra, rb⟩ : Ow)).flatMap Ow.enc ++ [.string (el nmL xs.length), .int .i64 rd, .int .i64 re] = (xs.set k (⟨x0, ra, rb⟩ : Ow) ++ [(⟨el nmL xs.length, rd, re⟩ : Ow)]).flatMap Ow.enc := by rw [List.flatMap_append]; rfl
            have l9 : (xs.set k (⟨x0, ra, rb⟩ : Ow) ++ [(⟨el nmL xs.length, rd, re⟩ : Ow)]).length = xs.length + 1 := by simp
            rw [e9] at hown9
            have h8 : DS w w8 p A n c (K' + 6) w.heap.size (.slice (some ⟨g, 0, none⟩) (xs.set k (⟨x0, ra, rb⟩ : Ow)).length cap) (xs.set k ⟨x0, ra, rb⟩) := by rw [hlen]; exact HS8.out
            have HS9 := Lib.hid (DS.app (v9 := v9) (ys := xs.set k (⟨x0, ra, rb⟩ : Ow) ++ [(⟨el nmL xs.length, rd, re⟩ : Ow)]) (DS.to h8 (by repeat' (first | (with_reducible exact Below.refl _ _) | (with_reducible refine Below.alloc ?_ ?_ _) | (with_reducible refine Below.setCell ?_ ?_ _) | (with_reducible refine Below.drew ?_) | (with_reducible refine Below.trans ?_ (Below.mono (by with_reducible assumption) ?_)) | omega | (simp; done) | (simp; omega)))) hgrow9 (by rw [l9]; exact hown9))
            clear hown9 hgrow9 hnil9 hat9 e9 h8
            go_wp2_with fail
            go_roundw
            case rel => exact ⟨xs.set k (⟨x0, ra, rb⟩ : Ow) ++ [(⟨el nmL xs.length, rd, re⟩ : Ow)], m - 1, K' + 6, by go_num, by omega, by omega, by omega, by omega, HB9, HZ9, HS9⟩
            case measure => simp [intOf] <;> omega
          · have heei : ¬ re ≤ 1000 := hee
            go_wp2
            go_roundw
            case rel => exact ⟨xs, m - 1, K' + 6, by go_num, by omega, hl1, by omega, by omega, HB, HZ, Lib.hid (HS7.out.to (by repeat' (first | (with_reducible exact Below.refl _ _) | (with_reducible refine Below.alloc ?_ ?_ _) | (with_reducible refine Below.setCell ?_ ?_ _) | (with_reducible refine Below.drew ?_) | (with_reducible refine Below.trans ?_ (Below.mono (by with_reducible assumption) ?_)) | omega | (simp; done) | (simp; omega))))⟩
            case measure => simp [intOf] <;> omega
        · have hbbi : ¬ rb ≤ 1000 := hbb
          go_wp2
          go_roundw
          case rel => exact ⟨xs, m - 1, K' + 6, by go_num, by omega, hl1, by omega, by omega, HB, HZ, Lib.hid (HS7.out.to (by repeat' (first | (with_reducible exact Below.refl _ _) | (with_reducible refine Below.alloc ?_ ?_ _) | (with_reducible refine Below.setCell ?_ ?_ _) | (with_reducible refine Below.drew ?_) | (with_reducible refine Below.trans ?_ (Below.mono (by with_reducible assumption) ?_)) | omega | (simp; done) | (simp; omega))))⟩
          case measure => simp [intOf] <;> omega
    · obtain rfl : m = 0 := by omega
      go_wp2_with fail
      refine (pick_any (xs.length : Int) p A n c K' _ (HS.out.cur.to (by repeat' (first | (with_reducible exact Below.refl _ _) | (with_reducible refine Below.alloc ?_ ?_ _) | (with_reducible refine Below.setCell ?_ ?_ _) | (with_reducible refine Below.drew ?_) | (with_reducible refine Below.trans ?_ (Below.mono (by with_reducible assumption) ?_)) | omega | (simp; done) | (simp; omega)))) hn (by omega) (by omega) (by omega)).mono ?_
      rintro e w2 ⟨_, rfl, ⟨kI, rfl, k0, kk1⟩, hC2, hG2⟩
      obtain ⟨k, rfl⟩ : ∃ k : Nat, kI = k := ⟨kI.toNat, by omega⟩
      have hk : k < xs.length := by omega
      have hkI : (k : Int) < xs.length := by omega
      have hkI0 : (0 : Int) ≤ k := by omega
      have HS2 := Lib.hid (DS.drawn (DS.to HS.out (by repeat' (first | (with_reducible exact Below.refl _ _) | (with_reducible refine Below.alloc ?_ ?_ _) | (with_reducible refine Below.setCell ?_ ?_ _) | (with_reducible refine Below.drew ?_) | (with_reducible refine Below.trans ?_ (Below.mono (by with_reducible assumption) ?_)) | omega | (simp; done) | (simp; omega)))) hG2 hC2)
      have hs2 := HS2.out.fr.size
      clear hC2 hG2 HS
      obtain ⟨g', cap', e', _, row2, _⟩ := HS2.out.fm hl1
      obtain ⟨rfl, rfl⟩ : g = g' ∧ cap = cap' := by simpa using e'
      have hgl2 := row2.lt
      obtain ⟨b, o, e, _, q0, q1, q2⟩ := ow_cells (row2.rd Ow.enc_len row2.lt) hk
      obtain ⟨rfl, rfl⟩ : g = b ∧ 0 = o := by simpa using e
      simp only [Nat.zero_add] at q0 q1 q2
      have hbk := HB.out k
      have hzk := HZ.out k hk
      rcases hx : el xs k with ⟨x0, xn, xd⟩
      rw [hx] at q0 q1 q2 hbk hzk
      simp only at q0 q1 q2 hbk hzk
      clear row2 e e' hx
      go_upto_region 17 with (fail)
      refine cut_world (fun W => Row W w2.heap.size 54 [.string x0, .int .i64 xn, .int .i64 xd] ∧ DS w W p A n c (K' + 2) w.heap.size (.slice (some ⟨g, 0, none⟩) xs.length cap) xs) ⟨by first | exact Row.new _ _ _ | exact (Row.new _ _ _).to (by repeat' (first | (with_reducible exact Below.refl _ _) | (with_reducible refine Below.alloc ?_ ?_ _) | (with_reducible refine Below.setCell ?_ ?_ _) | (with_reducible refine Below.drew ?_) | (with_reducible refine Below.trans ?_ (Below.mono (by with_reducible assumption) ?_)) | omega | (simp; done) | (simp; omega))), HS2.out.to (by repeat' (first | (with_reducible exact Below.refl _ _) | (with_reducible refine Below.alloc ?_ ?_ _) | (with_reducible refine Below.setCell ?_ ?_ _) | (with_reducible refine Below.drew ?_) | (with_reducible refine Below.trans ?_ (Below.mono (by with_reducible assumption) ?_)) | omega | (simp; done) | (simp; omega)))⟩ ?_
      obtain ⟨gx, hgx⟩ : ∃ g, w2.heap.size = g := ⟨_, rfl⟩
      rw [hgx]
      rw [hgx] at hgl2 hs2
      clear q0 q1 q2 HS2 hgx
      rintro w3 ⟨rx, hD3⟩
      have HS3 := Lib.hid hD3
      have RX3 := Lib.hid rx
      have hs3 := hD3.fr.size
      have hgxp : some gx ≠ some p := by have := hD3.pl; simp; omega
      have hgx0 : w.heap.size < gx ∧ w.heap.size < gx := by omega
      have hgxg : g ≠ gx := by omega
      clear rx hD3
      go_wp2_with fail
      refine (pick_any 60 p A n c (K' + 2) _ (HS3.out.cur.to (by repeat' (first | (with_reducible exact Below.refl _ _) | (with_reducible refine Below.alloc ?_ ?_ _) | (with_reducible refine Below.setCell ?_ ?_ _) | (with_reducible refine Below.drew ?_) | (with_reducible refine Below.trans ?_ (Below.mono (by with_reducible assumption) ?_)) | omega | (simp; done) | (simp; omega)))) hn (by omega) (by omega) (by omega)).mono ?_
      rintro e w4 ⟨_, rfl, ⟨z, rfl, z0, z1⟩, hC4, hG4⟩
      have HS4 := Lib.hid (DS.drawn (DS.to HS3.out (by repeat' (first | (with_reducible exact Below.refl _ _) | (with_reducible refine Below.alloc ?_ ?_ _) | (with_reducible refine Below.setCell ?_ ?_ _) | (with_reducible refine Below.drew ?_) | (with_reducible refine Below.trans ?_ (Below.mono (by with_reducible assumption) ?_)) | omega | (simp; done) | (simp; omega)))) hG4 hC4)
      have RX4 := Lib.hid (Row.grown (Row.to RX3.out (by repeat' (first | (with_reducible exact Below.refl _ _) | (with_reducible refine Below.alloc ?_ ?_ _) | (with_reducible refine Below.setCell ?_ ?_ _) | (with_reducible refine Below.drew ?_) | (with_reducible refine Below.trans ?_ (Below.mono (by with_reducible assumption) ?_)) | omega | (simp; done) | (simp; omega)))) hG4 hgxp)
      have hs4 := HS4.out.fr.size
      have hlx4 := RX4.out.lt
      obtain ⟨x0c, x1c, x2c⟩ := row3o RX4.out
      have xf0 := RX4.out.frozen 0
      have xf1 := RX4.out.frozen 1
      have xf2 := RX4.out.frozen 2
      clear hC4 hG4 HS3 RX3 hs3
      by_cases h0 : z = 0
      · obtain rfl := h0
        go_wp2_with fail
        refine (of_any [⟨#[]⟩, ⟨#[65]⟩, ⟨#[98, 101, 114, 116]⟩, ⟨#[97, 98, 99, 100, 101, 102, 103, 104, 105, 106, 107]⟩] _ 4 p A n c (K' + 4) _ (HS4.out.cur.to (by repeat' (first | (with_reducible exact Below.refl _ _) | (with_reducible refine Below.alloc ?_ ?_ _) | (with_reducible refine Below.setCell ?_ ?_ _) | (with_reducible refine Below.drew ?_) | (with_reducible refine Below.trans ?_ (Below.mono (by with_reducible assumption) ?_)) | omega | (simp; done) | (simp; omega)))) hn (by omega) (strs_new _ _ rfl (by omega)) (by decide) (by decide)).mono ?_
        rintro e w5 ⟨_, rfl, ⟨j, hj, rfl⟩, hC5, hG5⟩
        obtain ⟨s5, hs5e⟩ : ∃ s, el [(⟨#[]⟩ : ByteArray), ⟨#[65]⟩, ⟨#[98, 101, 114, 116]⟩, ⟨#[97, 98, 99, 100, 101, 102, 103, 104, 105, 106, 107]⟩] j = s := ⟨_, rfl⟩
        have hs5z : s5.size ≤ 100 := by
          rw [← hs5e]
          have : ∀ j : Fin 4, (el [(⟨#[]⟩ : ByteArray), ⟨#[65]⟩, ⟨#[98, 101, 114, 116]⟩, ⟨#[97, 98, 99, 100, 101, 102, 103, 104, 105, 106, 107]⟩] j.val).size ≤ 100 := by decide
          exact this ⟨j, hj⟩
        rw [hs5e]
        have HS5 := Lib.hid (DS.drawn (DS.to HS4.out (by repeat' (first | (with_reducible exact Below.refl _ _) | (with_reducible refine Below.alloc ?_ ?_ _) | (with_reducible refine Below.setCell ?_ ?_ _) | (with_reducible refine Below.drew ?_) | (with_reducible refine Below.trans ?_ (Below.mono (by with_reducible assumption) ?_)) | omega | (simp; done) | (simp; omega)))) hG5 hC5)
        have RX5 := Lib.hid (Row.grown (Row.to RX4.out (by repeat' (first | (with_reducible exact Below.refl _ _) | (with_reducible refine Below.alloc ?_ ?_ _) | (with_reducible refine Below.setCell ?_ ?_ _) | (with_reducible refine Below.drew ?_) | (with_reducible refine Below.trans ?_ (Below.mono (by with_reducible assumption) ?_)) | omega | (simp; done) | (simp; omega)))) hG5 hgxp)
        have hlx5 := RX5.out.lt
        clear x0c x1c x2c xf0 xf1 xf2 hC5 hG5 hs5e
        obtain ⟨x0c, x1c, x2c⟩ := row3o RX5.out
        have xf0 := RX5.out.frozen 0
        go_upto_region 39 with (fail)
        refine cut_world (fun W => Row W gx 54 [.string s5, .int .i64 xn, .int .i64 xd] ∧ DS w W p A n c (K' + 6) w.heap.size (.slice (some ⟨g, 0, none⟩) xs.length cap) xs) ⟨by simpa using RX5.out.set (j := 0) (.string s5), DS.side HS5.out hgx0 hgxg (only_setCell (World.grownBy.refl w5 (some gx)) (p := ⟨gx, 0, none⟩) (.inl rfl) (.string s5))⟩ ?_
        rintro w8 ⟨rx8, hD8⟩
        have HS8 := Lib.hid hD8
        have RX8 := Lib.hid rx8
        clear rx8 hD8
        obtain ⟨g', cap', e', _, row8, k81, k82⟩ := HS8.out.fm hl1
        obtain ⟨rfl, rfl⟩ : g = g' ∧ cap = cap' := by simpa using e'
        have hgl8 := row8.lt
        obtain ⟨b, o, e, _, q0, q1, q2⟩ := ow_cells (row8.rd Ow.enc_len row8.lt) hk
        obtain ⟨rfl, rfl⟩ : g = b ∧ 0 = o := by simpa using e
        simp only [Nat.zero_add] at q0 q1 q2
        have f0 := row8.frozen (k * 3)
        have f1 := row8.frozen (k * 3 + 1)
        have f2 := row8.frozen (k * 3 + 2)
        obtain ⟨y0c, y1c, y2c⟩ := row3o RX8.out
        have hlx8 := RX8.out.lt
        clear row8 e e'
        go_upto_region 40 with (fail)
        refine cut_world (fun W => DS w W p A n c (K' + 6) w.heap.size (.slice (some ⟨g, 0, none⟩) xs.length cap) (xs.set k ⟨s5, xn, xd⟩)) (HS8.out.set3 hk s5 xn xd _ rfl) ?_
        clear q0 q1 q2 f0 f1 f2 y0c y1c y2c HS8 RX8
        rintro w9 hD9
        have HS9 := Lib.hid hD9
        clear hD9
        go_wp2
        go_ret
        exact fin_out HS9.out List.length_set hl1 (by omega) k1 (HZ.out.put hs5z) (by omega)
      by_cases h1 : z = 1
      · obtain rfl := h1
        have vq : wrap64 (xn + 1) = xn + 1 := wrap_in' ⟨by omega, by omega⟩
        go_wp2_with fail
        refine (among_any (-1) 1001 [0, 1001, xn + 1, -1] _ 4 p A n c (K' + 4) _ (HS4.out.cur.to (by repeat' (first | (with_reducible exact Below.refl _ _) | (with_reducible refine Below.alloc ?_ ?_ _) | (with_reducible refine Below.setCell ?_ ?_ _) | (with_reducible refine Below.drew ?_) | (with_reducible refine Below.trans ?_ (Below.mono (by with_reducible assumption) ?_)) | omega | (simp; done) | (simp; omega)))) hn (by omega) (ints_new _ _ rfl (by omega)) (by simp) (by simp) (fun i hi => spoil_bd (by omega) hi)).mono ?_
        rintro e w5 ⟨_, rfl, ⟨q5, rfl, q50, q51⟩, hC5, hG5⟩
        have HS5 := Lib.hid (DS.drawn (DS.to HS4.out (by repeat' (first | (with_reducible exact Below.refl _ _) | (with_reducible refine Below.alloc ?_ ?_ _) | (with_reducible refine Below.setCell ?_ ?_ _) | (with_reducible refine Below.drew ?_) | (with_reducible refine Below.trans ?_ (Below.mono (by with_reducible assumption) ?_)) | omega | (simp; done) | (simp; omega)))) hG5 hC5)
        have RX5 := Lib.hid (Row.grown (Row.to RX4.out (by repeat' (first | (with_reducible exact Below.refl _ _) | (with_reducible refine Below.alloc ?_ ?_ _) | (with_reducible refine Below.setCell ?_ ?_ _) | (with_reducible refine Below.drew ?_) | (with_reducible refine Below.trans ?_ (Below.mono (by with_reducible assumption) ?_)) | omega | (simp; done) | (simp; omega)))) hG5 hgxp)
        have hlx5 := RX5.out.lt
        clear x0c x1c x2c xf0 xf1 xf2 hC5 hG5 vq
        obtain ⟨x0c, x1c, x2c⟩ := row3o RX5.out
        have xf1 := RX5.out.frozen 1
        go_upto_region 39 with (fail)
        refine cut_world (fun W => Row W gx 54 [.string x0, .int .i64 q5, .int .i64 xd] ∧ DS w W p A n c (K' + 6) w.heap.size (.slice (some ⟨g, 0, none⟩) xs.length cap) xs) ⟨by simpa using RX5.out.set (j := 1) (.int .i64 q5), DS.side HS5.out hgx0 hgxg (only_setCell (World.grownBy.refl w5 (some gx)) (p := ⟨gx, 1, none⟩) (.inl rfl) (.int .i64 q5))⟩ ?_
        rintro w8 ⟨rx8, hD8⟩
        have HS8 := Lib.hid hD8
        have RX8 := Lib.hid rx8
        clear rx8 hD8
        obtain ⟨g', cap', e', _, row8, k81, k82⟩ := HS8.out.fm hl1
        obtain ⟨rfl, rfl⟩ : g = g' ∧ cap = cap' := by simpa using e'
        have hgl8 := row8.lt
        obtain ⟨b, o, e, _, q0, q1, q2⟩ := ow_cells (row8.rd Ow.enc_len row8.lt) hk
        obtain ⟨rfl, rfl⟩ : g = b ∧ 0 = o := by simpa using e
        simp only [Nat.zero_add] at q0 q1 q2
        have f0 := row8.frozen (k * 3)
        have f1 := row8.frozen (k * 3 + 1)
        have f2 := row8.frozen (k * 3 + 2)
        obtain ⟨y0c, y1c, y2c⟩ := row3o RX8.out
        have hlx8 := RX8.out.lt
        clear row8 e e'
        go_upto_region 40 with (fail)
        refine cut_world (fun W => DS w W p A n c (K' + 6) w.heap.size (.slice (some ⟨g, 0, none⟩) xs.length cap) (xs.set k ⟨x0, q5, xd⟩)) (HS8.out.set3 hk x0 q5 xd _ rfl) ?_
        clear q0 q1 q2 f0 f1 f2 y0c y1c y2c HS8 RX8
        rintro w9 hD9
        have HS9 := Lib.hid hD9
        clear hD9
        go_wp2
        go_ret
        exact fin_out HS9.out List.length_set hl1 (by omega) k1 (HZ.out.put hzk) (by omega)
      by_cases h2 : z = 2
      · obtain rfl := h2
        have vq : wrap64 (xd + 1) = xd + 1 := wrap_in' ⟨by omega, by omega⟩
        go_wp2_with fail
        refine (among_any (-1) 1001 [0, 1001, xd + 1, -1] _ 4 p A n c (K' + 4) _ (HS4.out.cur.to (by repeat' (first | (with_reducible exact Below.refl _ _) | (with_reducible refine Below.alloc ?_ ?_ _) | (with_reducible refine Below.setCell ?_ ?_ _) | (with_reducible refine Below.drew ?_) | (with_reducible refine Below.trans ?_ (Below.mono (by with_reducible assumption) ?_)) | omega | (simp; done) | (simp; omega)))) hn (by omega) (ints_new _ _ rfl (by omega)) (by simp) (by simp) (fun i hi => spoil_bd (by omega) hi)).mono ?_
        rintro e w5 ⟨_, rfl, ⟨q5, rfl, q50, q51⟩, hC5, hG5⟩
        have HS5 := Lib.hid (DS.drawn (DS.to HS4.out (by repeat' (first | (with_reducible exact Below.refl _ _) | (with_reducible refine Below.alloc ?_ ?_ _) | (with_reducible refine Below.setCell ?_ ?_ _) | (with_reducible refine Below.drew ?_) | (with_reducible refine Below.trans ?_ (Below.mono (by with_reducible assumption) ?_)) | omega | (simp; done) | (simp; omega)))) hG5 hC5)
        have RX5 := Lib.hid (Row.grown (Row.to RX4.out (by repeat' (first | (with_reducible exact Below.refl _ _) | (with_reducible refine Below.alloc ?_ ?_ _) | (with_reducible refine Below.setCell ?_ ?_ _) | (with_reducible refine Below.drew ?_) | (with_reducible refine Below.trans ?_ (Below.mono (by with_reducible assumption) ?_)) | omega | (simp; done) | (simp; omega)))) hG5 hgxp)
        have hlx5 := RX5.out.lt
        clear x0c x1c x2c xf0 xf1 xf2 hC5 hG5 vq
        obtain ⟨x0c, x1c, x2c⟩ := row3o RX5.out
        have xf2 := RX5.out.frozen 2
        go_upto_region 39 with (fail)
        refine cut_world (fun W => Row W gx 54 [.string x0, .int .i64 xn, .int .i64 q5] ∧ DS w W p A n c (K' + 6) w.heap.size (.slice (some ⟨g, 0, none⟩) xs.length cap) xs) ⟨by simpa using RX5.out.set (j := 2) (.int .i64 q5), DS.side HS5.out hgx0 hgxg (only_setCell (World.grownBy.refl w5 (some gx)) (p := ⟨gx, 2, none⟩) (.inl rfl) (.int .i64 q5))⟩ ?_
        rintro w8 ⟨rx8, hD8⟩
        have HS8 := Lib.hid hD8
        have RX8 := Lib.hid rx8
        clear rx8 hD8
        obtain ⟨g', cap', e', _, row8, k81, k82⟩ := HS8.out.fm hl1
        obtain ⟨rfl, rfl⟩ : g = g' ∧ cap = cap' := by simpa using e'
        have hgl8 := row8.lt
        obtain ⟨b, o, e, _, q0, q1, q2⟩ := ow_cells (row8.rd Ow.enc_len row8.lt) hk
        obtain ⟨rfl, rfl⟩ : g = b ∧ 0 = o := by simpa using e
        simp only [Nat.zero_add] at q0 q1 q2
        have f0 := row8.frozen (k * 3)
        have f1 := row8.frozen (k * 3 + 1)
        have f2 := row8.frozen (k * 3 + 2)
        obtain ⟨y0c, y1c, y2c⟩ := row3o RX8.out
        have hlx8 := RX8.out.lt
        clear row8 e e'
        go_upto_region 40 with (fail)
        refine cut_world (fun W => DS w W p A n c (K' + 6) w.heap.size (.slice (some ⟨g, 0, none⟩) xs.length cap) (xs.set k ⟨x0, xn, q5⟩)) (HS8.out.set3 hk x0 xn q5 _ rfl) ?_
        clear q0 q1 q2 f0 f1 f2 y0c y1c y2c HS8 RX8
        rintro w9 hD9
        have HS9 := Lib.hid hD9
        clear hD9
        go_wp2
        go_ret
        exact fin_out HS9.out List.length_set hl1 (by omega) k1 (HZ.out.put hzk) (by omega)
      by_cases h3 : z = 3
      · obtain rfl := h3
        have vq : wrap64 (2 * xn) = 2 * xn := wrap_in' ⟨by omega, by omega⟩
        have vr : wrap64 (2 * xd) = 2 * xd := wrap_in' ⟨by omega, by omega⟩
        go_upto_region 39 with (fail)
        refine cut_world (fun W => Row W gx 54 [.string x0, .int .i64 (2 * xn), .int .i64 (2 * xd)] ∧ DS w W p A n c (K' + 4) w.heap.size (.slice (some ⟨g, 0, none⟩) xs.length cap) xs) ⟨by simpa using (RX4.out.set (j := 1) (.int .i64 (2 * xn))).set (j := 2) (.int .i64 (2 * xd)), DS.side HS4.out hgx0 hgxg (only_setCell (only_setCell (World.grownBy.refl w4 (some gx)) (p := ⟨gx, 1, none⟩) (.inl rfl) (.int .i64 (2 * xn))) (p := ⟨gx, 2, none⟩) (.inl rfl) (.int .i64 (2 * xd)))⟩ ?_
        rintro w8 ⟨rx8, hD8⟩
        have HS8 := Lib.hid hD8
        have RX8 := Lib.hid rx8
        clear rx8 hD8
        obtain ⟨g', cap', e', _, row8, k81, k82⟩ := HS8.out.fm hl1
        obtain ⟨rfl, rfl⟩ : g = g' ∧ cap = cap' := by simpa using e'
        have hgl8 := row8.lt
        obtain ⟨b, o, e, _, q0, q1, q2⟩ := ow_cells (row8.rd Ow.enc_len row8.lt) hk
        obtain ⟨rfl, rfl⟩ : g = b ∧ 0 = o := by simpa using e
        simp only [Nat.zero_add] at q0 q1 q2
        have f0 := row8.frozen (k * 3)
        have f1 := row8.frozen (k * 3 + 1)
        have f2 := row8.frozen (k * 3 + 2)
        obtain ⟨y0c, y1c, y2c⟩ := row3o RX8.out
        have hlx8 := RX8.out.lt
        clear row8 e e'
        go_upto_region 40 with (fail)
        refine cut_world (fun W => DS w W p A n c (K' + 4) w.heap.size (.slice (some ⟨g, 0, none⟩) xs.length cap) (xs.set k ⟨x0, (2 * xn), (2 * xd)⟩)) (HS8.out.set3 hk x0 (2 * xn) (2 * xd) _ rfl) ?_
        clear q0 q1 q2 f0 f1 f2 y0c y1c y2c HS8 RX8
        rintro w9 hD9
        have HS9 := Lib.hid hD9
        clear hD9
        go_wp2
        go_ret
        exact fin_out HS9.out List.length_set hl1 (by omega) k1 (HZ.out.put hzk) (by omega)
      by_cases h4 : z = 4
      · obtain rfl := h4
        go_wp2
        go_ret
        obtain ⟨g', cap', e', _, row8, k81, k82⟩ := HS4.out.fm hl1
        obtain ⟨rfl, rfl⟩ : g = g' ∧ cap = cap' := by simpa using e'
        exact ⟨some ⟨g, 0, none⟩, cap, [], rfl, OwnAt.row hg (row_prefix (cs := []) row8), Nat.zero_le _, by simp, (fun j hj => absurd hj (by simp)), HS4.out.cur.le (by omega), HS4.out.fr⟩
      by_cases h6 : z = 6
      · obtain rfl := h6
        go_wp2
        go_ret
        have r6 : Row (w4.alloc (.cells #[.string ⟨#[97, 110, 110, 97]⟩, .int .i64 110, .int .i64 331, .string ⟨#[98, 101, 114, 116]⟩, .int .i64 1, .int .i64 993, .string ⟨#[99, 97, 114, 108]⟩, .int .i64 331, .int .i64 996, .string ⟨#[100, 111, 114, 97]⟩, .int .i64 1, .int .i64 996, .string ⟨#[101, 109, 105, 108]⟩, .int .i64 332, .int .i64 999, .string ⟨#[102, 105, 110, 110]⟩, .int .i64 1, .int .i64 999] 54)) w4.heap.size 54 (sixL.flatMap Ow.enc) := Row.new _ _ _
        exact ⟨some ⟨w4.heap.size, 0, none⟩, 6, sixL, rfl, OwnAt.row (by omega) r6, by decide, by decide, sixL_sz, (HS4.out.cur.to (by repeat' (first | (with_reducible exact Below.refl _ _) | (with_reducible refine Below.alloc ?_ ?_ _) | (with_reducible refine Below.setCell ?_ ?_ _) | (with_reducible refine Below.drew ?_) | (with_reducible refine Below.trans ?_ (Below.mono (by with_reducible assumption) ?_)) | omega | (simp; done) | (simp; omega)))).le (by omega), only_to HS4.out.fr (by repeat' (first | (with_reducible exact Below.refl _ _) | (with_reducible refine Below.alloc ?_ ?_ _) | (with_reducible refine Below.setCell ?_ ?_ _) | (with_reducible refine Below.drew ?_) | (with_reducible refine Below.trans ?_ (Below.mono (by with_reducible assumption) ?_)) | omega | (simp; done) | (simp; omega)))⟩
      by_cases h5 : z = 5
      · obtain rfl := h5
        have hs4w : w.heap.size ≤ w4.heap.size := by omega
        have hp4 : p < w4.heap.size := by omega
        go_wp2_with fail
        refine (pick_any 2 p A n c (K' + 4) _ (HS4.out.cur.to (by repeat' (first | (with_reducible exact Below.refl _ _) | (with_reducible refine Below.alloc ?_ ?_ _) | (with_reducible refine Below.setCell ?_ ?_ _) | (with_reducible refine Below.drew ?_) | (with_reducible refine Below.trans ?_ (Below.mono (by with_reducible assumption) ?_)) | omega | (simp; done) | (simp; omega)))) hn (by omega) (by omega) (by omega)).mono ?_
        rintro e w5 ⟨_, rfl, ⟨zI, rfl, zz0, zz1⟩, hC5, hG5⟩
        obtain ⟨zn, rfl⟩ : ∃ zn : Nat, zI = zn := ⟨zI.toNat, by omega⟩
        have ho5 : w5.ownsRow w4.heap.size 54 3 (.slice (some ⟨w4.heap.size, 0, none⟩) 0 0) 0 [] := own_keep (own_empty (W := w4.alloc (.cells #[] 54)) 3 (Nat.le_refl _) (heap_alloc_new w4 _)) fun g hB hl => hG5.block g hl (by simp; omega)
        have HO5 := Lib.hid ho5
        have HC5 := Lib.hid hC5
        have HF5 := Lib.hid (show w.grownBy w5 (some p) from only_trans (only_to HS4.out.fr (show Below w4.heap.size w4 (w4.alloc (.cells #[] 54)) from (by repeat' (first | (with_reducible exact Below.refl _ _) | (with_reducible refine Below.alloc ?_ ?_ _) | (with_reducible refine Below.setCell ?_ ?_ _) | (with_reducible refine Below.drew ?_) | (with_reducible refine Below.trans ?_ (Below.mono (by with_reducible assumption) ?_)) | omega | (simp; done) | (simp; omega))))) hG5)
        have hs5 : w4.heap.size ≤ w5.heap.size := Nat.le_trans (show w4.heap.size ≤ (w4.alloc (.cells #[] 54)).heap.size by simp) hG5.size
        clear x0c x1c x2c xf0 xf1 xf2 hC5 hG5 HS4 RX4 ho5
        go_wp2_with fail
        go_loopw [4, 17] (fun v i wr => ∃ ii : Nat, ii ≤ 8 + zn ∧ i = .int .i64 ii ∧ Hid (wr.ownsRow w4.heap.size 54 3 v ii ((pL (8 + (zn : Int)) ii).flatMap Ow.enc)) ∧ Below w4.heap.size w5 wr) (fun _ i _ => 8 + zn - (intOf i).toNat)
        case atStart => exact ⟨0, Nat.zero_le _, rfl, HO5, Below.refl _ _⟩
        case round =>
          obtain ⟨ii, hii, rfl, HO, hb⟩ := hrel
          have hsb := hb.size
          obtain ⟨Ao, co, rfl⟩ := own_vfm HO.out
          by_cases hlt : ii < 8 + zn
          · have hI : (ii : Int) < 8 + (zn : Int) := by omega
            have hI0 : (0 : Int) ≤ ii := by omega
            go_wp2_with (at_builtin; refine wpList_append_own_at _ rfl _ _ 25 rfl w4.heap.size 54 _ _ 3 32 Tryd.underlying25 hinfo.out.1 hinfo.out.2.1 hinfo.out.2.2.1 hinfo.out.2.2.2 rfl (by decide) _ _ _ rfl (own_to HO.out (by repeat' (first | (with_reducible exact Below.refl _ _) | (with_reducible refine Below.alloc ?_ ?_ _) | (with_reducible refine Below.setCell ?_ ?_ _) | (with_reducible refine Below.drew ?_) | (with_reducible refine Below.trans ?_ (Below.mono (by with_reducible assumption) ?_)) | omega | (simp; done) | (simp; omega)))) _ 1 1 [.string ⟨#[112 + UInt8.ofNat ii]⟩, .int .i64 1, .int .i64 (8 + (zn : Int))] rfl rfl (news_top (cs := #[.string ⟨#[112 + UInt8.ofNat ii]⟩, .int .i64 1, .int .i64 (8 + (zn : Int))]) (t := 54) (by simp)) (by simp [Value.oneCell']) (by unfold maxLen; omega) (by omega) (by simp; omega) ?_)
            intro v9 w9 hown9 hgrow9 hnil9 hat9
            have hb9 : Below w4.heap.size w5 w9 := own_grew HO.out (by repeat' (first | (with_reducible exact Below.refl _ _) | (with_reducible refine Below.alloc ?_ ?_ _) | (with_reducible refine Below.setCell ?_ ?_ _) | (with_reducible refine Below.drew ?_) | (with_reducible refine Below.trans ?_ (Below.mono (by with_reducible assumption) ?_)) | omega | (simp; done) | (simp; omega))) (by first | omega | (simp; done) | (simp; omega)) hgrow9
            have e9 : (pL (8 + (zn : Int)) ii).flatMap Ow.enc ++ [.string ⟨#[112 + UInt8.ofNat ii]⟩, .int .i64 1, .int .i64 (8 + (zn : Int))] = (pL (8 + (zn : Int)) (ii + 1)).flatMap Ow.enc := by rw [pL_succ, List.flatMap_append]; rfl
            rw [e9] at hown9
            have HO9 := Lib.hid hown9
            clear hown9 hgrow9 hnil9 hat9 e9
            go_wp2_with fail
            go_roundw
            case rel => exact ⟨ii + 1, by omega, by go_num, HO9, hb9⟩
            case measure => simp [intOf] <;> omega
          · obtain rfl : ii = 8 + zn := by omega
            have hI : ¬ ((8 + zn : Nat) : Int) < 8 + (zn : Int) := by omega
            have hI2 : ¬ (8 + (zn : Int)) < 8 + (zn : Int) := by omega
            go_wp2
            go_ret
            exact five_out HO.out HC5.out HF5.out hb hs4w hp4 (by omega) (by omega)
      go_upto_region 39 with (fail)
      refine cut_world (fun W => Row W gx 54 [.string x0, .int .i64 xn, .int .i64 xd] ∧ DS w W p A n c (K' + 4) w.heap.size (.slice (some ⟨g, 0, none⟩) xs.length cap) xs) ⟨RX4.out, HS4.out⟩ ?_
      rintro w8 ⟨rx8, hD8⟩
      have HS8 := Lib.hid hD8
      have RX8 := Lib.hid rx8
      clear rx8 hD8
      obtain ⟨g', cap', e', _, row8, k81, k82⟩ := HS8.out.fm hl1
      obtain ⟨rfl, rfl⟩ : g = g' ∧ cap = cap' := by simpa using e'
      have hgl8 := row8.lt
      obtain ⟨b, o, e, _, q0, q1, q2⟩ := ow_cells (row8.rd Ow.enc_len row8.lt) hk
      obtain ⟨rfl, rfl⟩ : g = b ∧ 0 = o := by simpa using e
      simp only [Nat.zero_add] at q0 q1 q2
      have f0 := row8.frozen (k * 3)
      have f1 := row8.frozen (k * 3 + 1)
      have f2 := row8.frozen (k * 3 + 2)
      obtain ⟨y0c, y1c, y2c⟩ := row3o RX8.out
      have hlx8 := RX8.out.lt
      clear row8 e e'
      go_upto_region 40 with (fail)
      refine cut_world (fun W => DS w W p A n c (K' + 4) w.heap.size (.slice (some ⟨g, 0, none⟩) xs.length cap) (xs.set k ⟨x0, xn, xd⟩)) (HS8.out.set3 hk x0 xn xd _ rfl) ?_
      clear q0 q1 q2 f0 f1 f2 y0c y1c y2c HS8 RX8
      rintro w9 hD9
      have HS9 := Lib.hid hD9
      clear hD9
      go_wp2
      go_ret
      exact fin_out HS9.out List.length_set hl1 (by omega) k1 (HZ.out.put hzk) (by omega)
end Go.Proofs.YtimdnihadhbjpaaDoor
