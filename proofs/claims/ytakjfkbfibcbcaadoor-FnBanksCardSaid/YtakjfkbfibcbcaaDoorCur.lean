/- Contracts of the draws: a cursor that reads choices from bytes (chapter 1). -/
import Derived.Test.YtakjfkbfibcbcaaDoorLeaf
import Derived.Test.YtakjfkbfibcbcaaDoorSlice
import Derived.Lib.Hide
import Derived.OwnWalk
import Derived.Laws.Bits64b
set_option linter.unusedSimpArgs false
set_option linter.unusedVariables false
namespace Go.Proofs.YtakjfkbfibcbcaaDoor
open Go.RowKit Go.Sort Go.Salt
attribute [local go_sem] cell_rg
/-- n bytes at A can be read, below block B. -/
def Byt (w : World) (B : Nat) (A : Option Addr) (n : Nat) : Prop := 0 < n → ∃ b o, A = some ⟨b, o, none⟩ ∧ b < B ∧ ∀ i, i < n → ∃ z : Int, w.cell? ⟨b, o + i, none⟩ = some (.int .u8 z) ∧ 0 ≤ z ∧ z ≤ 255
theorem Byt.keep {w w' : World} {B n : Nat} {A : Option Addr} (h : Byt w B A n) (hk : ∀ b o, b < B → w'.cell? ⟨b, o, none⟩ = w.cell? ⟨b, o, none⟩) : Byt w' B A n := fun hn => by
  obtain ⟨b, o, e, hb, hc⟩ := h hn
  exact ⟨b, o, e, hb, fun i hi => by rw [hk b _ hb]; exact hc i hi⟩
theorem Byt.below {w w' : World} {B n : Nat} {A : Option Addr} (h : Byt w B A n) (hb : Below B w w') : Byt w' B A n := h.keep fun b o hp => hb.cell (p := ⟨b, o, none⟩) hp
theorem Byt.more {w : World} {B B' n : Nat} {A : Option Addr} (h : Byt w B A n) (hB : B ≤ B') : Byt w B' A n := fun hn => by
  obtain ⟨b, o, e, hb, hc⟩ := h hn
  exact ⟨b, o, e, Nat.lt_of_lt_of_le hb hB, hc⟩
/-- Block p is a cursor over n bytes, of which at most K were read. -/
def Cur (w : World) (p : Nat) (A : Option Addr) (n c K : Nat) : Prop :=
  Byt w p A n ∧ ∃ (k : Nat) (s : Int), k ≤ K ∧ Row w p 55 [.slice A n c, .int .i64 k, .int .u64 s]
theorem Cur.le {w : World} {p n c K K' : Nat} {A : Option Addr} (h : Cur w p A n c K) (hk : K ≤ K') : Cur w p A n c K' := by
  obtain ⟨h1, k, s, h2, h3⟩ := h
  exact ⟨h1, k, s, by omega, h3⟩
theorem Cur.lt {w : World} {p n c K : Nat} {A : Option Addr} (h : Cur w p A n c K) : p < w.heap.size := by
  obtain ⟨_, k, s, _, h3⟩ := h
  exact h3.lt
theorem Cur.to {w w' : World} {p n c K : Nat} {A : Option Addr} (h : Cur w p A n c K) (hb : Below w.heap.size w w') : Cur w' p A n c K := by
  have hp := h.lt
  obtain ⟨h1, k, s, h2, h3⟩ := h
  exact ⟨h1.below (hb.mono (by omega)), k, s, h2, h3.to hb⟩
theorem Cur.grown {w w' : World} {p n c K row : Nat} {A : Option Addr} (h : Cur w p A n c K) (hb : w.grownBy w' (some row)) (hr : p < row) : Cur w' p A n c K := by
  have hp := h.lt
  obtain ⟨h1, k, s, h2, h3⟩ := h
  exact ⟨h1.keep fun b o hlt => World.cell?_of_block (hb.block b (by omega) (by simp; omega)), k, s, h2, h3.grown hb (by simp; omega)⟩
/-- A draw: a value with P, the cursor read on, all else as it was. -/
def Drawn (P : Value → Prop) (w : World) (p : Nat) (A : Option Addr) (n c K : Nat) (e : Ending) (w' : World) : Prop :=
  ∃ v, e = .returned v ∧ P v ∧ Cur w' p A n c K ∧ w.grownBy w' (some p)
def IntIn (a b : Int) : Value → Prop := fun v => ∃ z : Int, v = .int .i64 z ∧ a ≤ z ∧ z ≤ b
theorem only_of_below {a w : World} (h : Below a.heap.size a w) (row : Option Nat) : a.grownBy w row := ⟨h.os, h.tape, h.output, h.size, fun i hi _ => h.block i hi⟩
theorem only_to {a w w' : World} {row : Option Nat} (h : a.grownBy w row) (hb : Below w.heap.size w w') : a.grownBy w' row :=
  ⟨hb.os.trans h.os, hb.tape.trans h.tape, hb.output.trans h.output, Nat.le_trans h.size hb.size, fun i hi hn => (hb.block i (Nat.lt_of_lt_of_le hi h.size)).trans (h.block i hi hn)⟩
theorem only_trans {a b c : World} {row : Option Nat} (h : a.grownBy b row) (k : b.grownBy c row) : a.grownBy c row :=
  ⟨k.os.trans h.os, k.tape.trans h.tape, k.output.trans h.output, Nat.le_trans h.size k.size, fun i hi hn => (k.block i (Nat.lt_of_lt_of_le hi h.size) hn).trans (h.block i hi hn)⟩
/-- Behind writes to a row that was not there: all is as it was. -/
theorem only_below {a w : World} {g : Nat} (h : a.grownBy w (some g)) (B : Nat) (hB : B ≤ g) (hs : B ≤ a.heap.size) : Below B a w := grown_below h hB hs
section
variable {H : Type} {encH : TypeId × Value → H} {P : Program}
open Go.ChangeShapes Go.WideShapes Go.Deep in
theorem open_byt {w : World} {base : Nat} {sp : Nat → Bool} {held : Bool} {t e : TypeId} {n len cap : Nat} {a : Option Addr} {x : DataW H × List MemPlace} (ht : P.underlying t = some (.slice e)) (he : P.underlying e = some (.int .u8)) (hC : P.cellsOf e = 1)
    (h : DataW.trod encH P w base sp held n t (Value.slice a len cap).cells.toList = some x) : len ≤ maxLen ∧ Byt w w.heap.size a len := by
  rcases open_slice ht h with ⟨h1, _⟩ | ⟨ad, l, c, m, n', D, Pl, hcs, hb, hl, hm, hmm, hx, hi⟩
  · simp [Value.cells] at h1
    obtain ⟨rfl, rfl, rfl⟩ := h1
    exact ⟨Nat.zero_le _, fun h => absurd h (by simp)⟩
  · simp [Value.cells] at hcs
    obtain ⟨rfl, rfl, rfl⟩ := hcs
    have hall : ∀ i, i < len → ∃ z : Int, w.cell? (ad.add i) = some (.int .u8 z) ∧ 0 ≤ z ∧ z ≤ 255 := by
      intro i hil
      have him : i < m := by rw [hmm]; split <;> omega
      obtain ⟨cs', hc, ht'⟩ := hi i him
      obtain ⟨_, hcl, hat⟩ := World.cells?_some hc
      obtain ⟨z, rfl, _, wz⟩ := DataW.trod_int he ht'
      have h3 := hat 0 (by rw [hC]; omega)
      rw [Go.Deep.add_add, hC] at h3
      refine ⟨z, by simpa using h3, ?_⟩
      simpa [Lit.wf, IntKind.min, IntKind.max, IntKind.signed, IntKind.bits] using wz
    refine ⟨by omega, fun hp => ?_⟩
    obtain ⟨z, hz, _⟩ := hall 0 hp
    have hz' : w.cell? ad = some (.int .u8 z) := by simpa [Addr.add] using hz
    have hsp := World.cell?_spot hz'
    obtain ⟨b, o, spot⟩ := ad
    obtain rfl : spot = none := hsp
    refine ⟨b, o, rfl, block_lt_of_cell hz', fun i hi => ?_⟩
    obtain ⟨z, hz, h2⟩ := hall i hi
    refine ⟨z, ?_, h2⟩
    rw [← hz]
    congr 1
    unfold Addr.add
    split <;> simp_all
end
def CurStep (w : World) (p : Nat) (A : Option Addr) (n c K k : Nat) (W : World) : Prop := (∃ s' : Int, Row W p 55 [.slice A n c, .int .i64 ((k : Int) + 1), .int .u64 s']) ∧ Cur W p A n c (K + 1) ∧ w.grownBy W (some p)
theorem cur_step {w w1 : World} {p n c K k : Nat} {s s' : Int} {A : Option Addr} (hB : Byt w p A n) (hr : Row w p 55 [.slice A n c, .int .i64 k, .int .u64 s]) (hk : k ≤ K) (hb : Below w.heap.size w w1) :
    CurStep w p A n c K k ((w1.setCell ⟨p, 1, none⟩ (.int .i64 ((k : Int) + 1))).setCell ⟨p, 2, none⟩ (.int .u64 s')) := by
  have hlt := hr.lt
  have g1 : w.grownBy w1 (some p) := only_of_below hb _
  have g2 := only_setCell (p := ⟨p, 1, none⟩) g1 (.inl rfl) (.int .i64 ((k : Int) + 1))
  have hg := only_setCell (p := ⟨p, 2, none⟩) g2 (.inl rfl) (.int .u64 s')
  have h := (((hr.to hb).set (j := 1) (.int .i64 ((k : Int) + 1))).set (j := 2) (.int .u64 s'))
  refine ⟨⟨s', h⟩, ⟨hB.keep fun b o hl => World.cell?_of_block (hg.block b (by omega) (by simp; omega)), k + 1, s', by omega, ?_⟩, hg⟩
  rw [show ((k + 1 : Nat) : Int) = (k : Int) + 1 by omega]
  exact h
theorem and255 (x : Int) : 0 ≤ bits .and .u64 x 255 ∧ bits .and .u64 x 255 ≤ 255 := by
  have h2 : (BitVec.ofInt 64 (255 : Int)).toNat = 255 := by decide
  have e : bits .and .u64 x 255 = ((((BitVec.ofInt 64 x).toNat &&& 255 : Nat)) : Int) := by
    show IntKind.u64.wrap ((BitVec.ofInt 64 x &&& BitVec.ofInt 64 (255 : Int)).toNat : Int) = _
    rw [BitVec.toNat_and, h2, IntKind.wrap_u64]
    have : (BitVec.ofInt 64 x).toNat &&& 255 ≤ 255 := Nat.and_le_right
    omega
  have : (BitVec.ofInt 64 x).toNat &&& 255 ≤ 255 := Nat.and_le_right
  omega
theorem and255_in (x : Int) : IntIn 0 255 (.int .i64 (wrap64 (bits .and .u64 x 255))) := by
  have h := and255 x
  have e : wrap64 (bits .and .u64 x 255) = bits .and .u64 x 255 := by unfold wrap64; omega
  rw [e]
  exact ⟨_, rfl, h⟩
theorem cut_world {α : Type} {G : α → World → Prop} {a : α} {W : World} (R : World → Prop) (h1 : R W) (h2 : ∀ W, R W → G a W) : G a W := h2 W h1
set_option maxHeartbeats 4000000 in
theorem next_any (p : Nat) (A : Option Addr) (n c K : Nat) (w : World) (h : Cur w p A n c K) (hn : n ≤ 65536) (hK : K ≤ 1000000000) :
    Calls Tryd.prog 56 #[.pointer (some ⟨p, 0, none⟩)] w fun e w' => Drawn (IntIn 0 255) w p A n c (K + 1) e w' := by
  have hlt := h.lt
  obtain ⟨hB, k, s, hk, hr⟩ := h
  have r0 := hr.cell (j := 0) (by simp)
  have r1 := hr.cell (j := 1) (by simp)
  have r2 := hr.cell (j := 2) (by simp)
  simp only [List.getElem_cons_zero, List.getElem_cons_succ] at r0 r1 r2
  have fz := hr.frozen
  have HR := Lib.hid hr
  clear hr
  by_cases hkn : k < n
  · obtain ⟨b, o, rfl, hb, hc⟩ := hB (by omega)
    obtain ⟨z, hz, z0, z1⟩ := hc k hkn
    have hI : (k : Int) < n := by omega
    have HB := Lib.hid hB
    clear hB hc
    have hI0 : (0 : Int) ≤ k := by omega
    have hI1 : (k : Int) + 1 ≤ n := by omega
    have hbw : b < w.heap.size := by omega
    go_enter Tryd.func56, Tryd.ntmps56
    go_wp2_with fail
    refine wp_region_quiet_below (by kernel_rfl) (by kernel_rfl) ?_
    repeat (go_big_quiet_step (fail))
    (refine wpQuiet_nil ?_; intro w1 hwq; have hb1 := of_cls hwq; clear hwq)
    (have hs1 := hb1.size; (try simp at hs1); obtain ⟨hc1, hf1, hn1⟩ := bcell hb1; (try have hz1_w_0 : w.heap.size < w1.heap.size := by omega); (try have hz1_w_1 : w.heap.size + 1 < w1.heap.size := by omega); (try have hz1_w_2 : w.heap.size + 2 < w1.heap.size := by omega); (try have hz1_w_2b : w.heap.size + 1 + 1 < w1.heap.size := by omega))
    go_wp2_with fail
    refine wp_region_quiet_below (by kernel_rfl) (by kernel_rfl) ?_
    repeat (go_big_quiet_step (fail))
    (refine wpQuiet_nil ?_; intro w2 hwq; have hb2 := of_cls hwq; clear hwq)
    (have hs2 := hb2.size; (try simp at hs2); obtain ⟨hc2, hf2, hn2⟩ := bcell hb2; (try have hz2_w_0 : w.heap.size < w2.heap.size := by omega); (try have hz2_w_1 : w.heap.size + 1 < w2.heap.size := by omega); (try have hz2_w_2 : w.heap.size + 2 < w2.heap.size := by omega); (try have hz2_w_2b : w.heap.size + 1 + 1 < w2.heap.size := by omega); (try have hz2_w1_0 : w1.heap.size < w2.heap.size := by omega); (try have hz2_w1_1 : w1.heap.size + 1 < w2.heap.size := by omega); (try have hz2_w1_2 : w1.heap.size + 2 < w2.heap.size := by omega); (try have hz2_w1_2b : w1.heap.size + 1 + 1 < w2.heap.size := by omega))
    go_wp2_with fail
    refine cut_world (CurStep w p _ n c K k) (cur_step HB.out HR.out hk (hb1.trans (hb2.mono hs1))) ?_
    rintro W3 ⟨⟨s3, hr3⟩, hC3, hG3⟩
    have hlt3 := hr3.lt
    have q0 := hr3.cell (j := 0) (by simp)
    have q1 := hr3.cell (j := 1) (by simp)
    have q2 := hr3.cell (j := 2) (by simp)
    simp only [List.getElem_cons_zero, List.getElem_cons_succ] at q0 q1 q2
    clear hr3
    go_wp2_with fail
    refine wp_region_quiet_below (by kernel_rfl) (by kernel_rfl) ?_
    repeat (go_big_quiet_step (fail))
    (refine wpQuiet_nil ?_; intro w3 hwq; have hb3 := of_cls hwq; clear hwq)
    (have hs3 := hb3.size; (try simp at hs3); obtain ⟨hc3, hf3, hn3⟩ := bcell hb3; (try have hz3_w_0 : w.heap.size < w3.heap.size := by omega); (try have hz3_w_1 : w.heap.size + 1 < w3.heap.size := by omega); (try have hz3_w_2 : w.heap.size + 2 < w3.heap.size := by omega); (try have hz3_w_2b : w.heap.size + 1 + 1 < w3.heap.size := by omega); (try have hz3_w1_0 : w1.heap.size < w3.heap.size := by omega); (try have hz3_w1_1 : w1.heap.size + 1 < w3.heap.size := by omega); (try have hz3_w1_2 : w1.heap.size + 2 < w3.heap.size := by omega); (try have hz3_w1_2b : w1.heap.size + 1 + 1 < w3.heap.size := by omega); (try have hz3_w2_0 : w2.heap.size < w3.heap.size := by omega); (try have hz3_w2_1 : w2.heap.size + 1 < w3.heap.size := by omega); (try have hz3_w2_2 : w2.heap.size + 2 < w3.heap.size := by omega); (try have hz3_w2_2b : w2.heap.size + 1 + 1 < w3.heap.size := by omega))
    go_wp2_with fail
    go_ret
    exact ⟨_, rfl, ⟨z, rfl, z0, z1⟩, hC3.to hb3, only_to hG3 hb3⟩
  · have hI : ¬ (k : Int) < n := by omega
    have hI1 : ¬ (k : Int) + 1 ≤ n := by omega
    have hI0 : (0 : Int) ≤ k := by omega
    have HB := Lib.hid hB
    clear hB
    go_enter Tryd.func56, Tryd.ntmps56
    go_wp2_with fail
    refine wp_region_quiet_below (by kernel_rfl) (by kernel_rfl) ?_
    repeat (go_big_quiet_step (fail))
    (refine wpQuiet_nil ?_; intro w1 hwq; have hb1 := of_cls hwq; clear hwq)
    (have hs1 := hb1.size; (try simp at hs1); obtain ⟨hc1, hf1, hn1⟩ := bcell hb1; (try have hz1_w_0 : w.heap.size < w1.heap.size := by omega); (try have hz1_w_1 : w.heap.size + 1 < w1.heap.size := by omega); (try have hz1_w_2 : w.heap.size + 2 < w1.heap.size := by omega); (try have hz1_w_2b : w.heap.size + 1 + 1 < w1.heap.size := by omega))
    go_wp2_with fail
    refine cut_world (CurStep w p _ n c K k) (cur_step HB.out HR.out hk hb1) ?_
    rintro W3 ⟨⟨s3, hr3⟩, hC3, hG3⟩
    have hlt3 := hr3.lt
    have q0 := hr3.cell (j := 0) (by simp)
    have q1 := hr3.cell (j := 1) (by simp)
    have q2 := hr3.cell (j := 2) (by simp)
    simp only [List.getElem_cons_zero, List.getElem_cons_succ] at q0 q1 q2
    clear hr3
    go_wp2_with fail
    refine wp_region_quiet_below (by kernel_rfl) (by kernel_rfl) ?_
    repeat (go_big_quiet_step (fail))
    (refine wpQuiet_nil ?_; intro w2 hwq; have hb2 := of_cls hwq; clear hwq)
    (have hs2 := hb2.size; (try simp at hs2); obtain ⟨hc2, hf2, hn2⟩ := bcell hb2; (try have hz2_w_0 : w.heap.size < w2.heap.size := by omega); (try have hz2_w_1 : w.heap.size + 1 < w2.heap.size := by omega); (try have hz2_w_2 : w.heap.size + 2 < w2.heap.size := by omega); (try have hz2_w_2b : w.heap.size + 1 + 1 < w2.heap.size := by omega); (try have hz2_w1_0 : w1.heap.size < w2.heap.size := by omega); (try have hz2_w1_1 : w1.heap.size + 1 < w2.heap.size := by omega); (try have hz2_w1_2 : w1.heap.size + 2 < w2.heap.size := by omega); (try have hz2_w1_2b : w1.heap.size + 1 + 1 < w2.heap.size := by omega))
    go_wp2_with fail
    go_ret
    exact ⟨_, rfl, and255_in _, hC3.to hb2, only_to hG3 hb2⟩
set_option maxHeartbeats 4000000 in
theorem pick_any (m : Int) (p : Nat) (A : Option Addr) (n c K : Nat) (w : World) (h : Cur w p A n c K) (hn : n ≤ 65536) (hK : K ≤ 999999990) (h1 : 1 ≤ m) (h2 : m ≤ 1000000000) :
    Calls Tryd.prog 31 #[.pointer (some ⟨p, 0, none⟩), .int .i64 m] w fun e w' => Drawn (IntIn 0 (m - 1)) w p A n c (K + 2) e w' := by
  by_cases hm : m ≤ 1
  · obtain rfl : m = 1 := by omega
    go_enter Tryd.func31, Tryd.ntmps31
    go_wp2_with fail
    go_ret
    exact ⟨_, rfl, ⟨0, rfl, by omega, by omega⟩, h.le (by omega), World.grownBy.refl _ _⟩
  · by_cases hm2 : m ≤ 200
    · replace h := Lib.hid h
      go_enter Tryd.func31, Tryd.ntmps31
      go_wp2_with fail
      refine (next_any _ _ _ _ _ _ h.out hn (by omega)).mono ?_
      rintro e w1 ⟨_, rfl, ⟨x, rfl, x0, x1⟩, hC1, hG1⟩
      replace hC1 := Lib.hid hC1
      go_wp2_with fail
      go_ret
      have e1 := Int.emod_nonneg x (show m ≠ 0 by omega)
      have e2 := Int.emod_lt_of_pos x (show 0 < m by omega)
      exact ⟨_, rfl, ⟨_, rfl, by omega, by omega⟩, hC1.out.le (by omega), hG1⟩
    · replace h := Lib.hid h
      go_enter Tryd.func31, Tryd.ntmps31
      go_wp2_with fail
      refine (next_any _ _ _ _ _ _ h.out hn (by omega)).mono ?_
      rintro e w1 ⟨_, rfl, ⟨x, rfl, x0, x1⟩, hC1, hG1⟩
      replace hC1 := Lib.hid hC1
      go_wp2_with fail
      refine (next_any _ _ _ _ _ _ hC1.out hn (by omega)).mono ?_
      rintro e w2 ⟨_, rfl, ⟨y, rfl, y0, y1⟩, hC2, hG2⟩
      replace hC2 := Lib.hid hC2
      go_wp2_with fail
      go_ret
      have e1 := Int.emod_nonneg (x * 256 + y) (show m ≠ 0 by omega)
      have e2 := Int.emod_lt_of_pos (x * 256 + y) (show 0 < m by omega)
      exact ⟨_, rfl, ⟨_, rfl, by omega, by omega⟩, hC2.out.le (by omega), only_trans hG1 hG2⟩
def BoolV : Value → Prop := fun v => ∃ b : Bool, v = .bool b
set_option maxHeartbeats 4000000 in
theorem one_any (m : Int) (p : Nat) (A : Option Addr) (n c K : Nat) (w : World) (h : Cur w p A n c K) (hn : n ≤ 65536) (hK : K ≤ 999999990) (h1 : 1 ≤ m) (h2 : m ≤ 1000000000) :
    Calls Tryd.prog 55 #[.pointer (some ⟨p, 0, none⟩), .int .i64 m] w fun e w' => Drawn BoolV w p A n c (K + 2) e w' := by
  replace h := Lib.hid h
  go_enter Tryd.func55, Tryd.ntmps55
  go_wp2_with fail
  refine (pick_any _ _ _ _ _ _ _ h.out hn hK h1 h2).mono ?_
  rintro e w1 ⟨_, rfl, ⟨x, rfl, x0, x1⟩, hC1, hG1⟩
  replace hC1 := Lib.hid hC1
  go_wp2_with fail
  go_ret
  exact ⟨_, rfl, ⟨_, rfl⟩, hC1.out, hG1⟩
/-- The ints xs lie at A, not in block p. -/
def IntsAt (w : World) (p : Nat) (A : Option Addr) (xs : List Int) : Prop := ∃ b o, A = some ⟨b, o, none⟩ ∧ b < w.heap.size ∧ b ≠ p ∧ ∀ i, i < xs.length → w.cell? ⟨b, o + i, none⟩ = some (.int .i64 (el xs i))
set_option maxHeartbeats 4000000 in
theorem among_any (lo hi : Int) (xs : List Int) (B : Option Addr) (c' : Nat) (p : Nat) (A : Option Addr) (n c K : Nat) (w : World) (h : Cur w p A n c K) (hn : n ≤ 65536) (hK : K ≤ 999999990) (hx : IntsAt w p B xs) (h0 : 0 < xs.length) (h1 : xs.length ≤ 1000000) (hb : ∀ i, i < xs.length → lo ≤ el xs i ∧ el xs i ≤ hi) :
    Calls Tryd.prog 30 #[.pointer (some ⟨p, 0, none⟩), .slice B xs.length c'] w fun e w' => Drawn (IntIn lo hi) w p A n c (K + 2) e w' := by
  obtain ⟨b, o, rfl, hb1, hb2, hc⟩ := hx
  replace h := Lib.hid h
  replace hc := Lib.hid hc
  replace hb := Lib.hid hb
  go_enter Tryd.func30, Tryd.ntmps30
  go_wp2_with fail
  refine (pick_any _ _ _ _ _ _ _ h.out hn hK (by omega) (by omega)).mono ?_
  rintro e w1 ⟨_, rfl, ⟨x, rfl, x0, x1⟩, hC1, hG1⟩
  obtain ⟨i, rfl⟩ : ∃ i : Nat, x = i := ⟨x.toNat, by omega⟩
  have hi : i < xs.length := by omega
  have hI : (i : Int) < xs.length := by omega
  have hcell : w1.cell? ⟨b, o + i, none⟩ = some (.int .i64 (el xs i)) := (World.cell?_of_block (hG1.block b hb1 (by simpa using hb2))).trans (hc.out i hi)
  replace hC1 := Lib.hid hC1
  go_wp2_with fail
  go_ret
  exact ⟨_, rfl, ⟨_, rfl, (hb.out i hi).1, (hb.out i hi).2⟩, hC1.out, hG1⟩
end Go.Proofs.YtakjfkbfibcbcaaDoor
