/- Contracts: how many workers go to each break (chapter 23). -/
import Derived.Test.YtakjfkbfibcbcaaDoorOrder
import Derived.Laws.MakeOwn
set_option linter.unusedSimpArgs false
set_option linter.unusedVariables false
namespace Go.Proofs.YtakjfkbfibcbcaaDoor
open Go.RowKit Go.Sort Go.Salt
attribute [local go_sem] cell_rg
attribute [local go_sem ↓] run_max_mx run_min_mn
theorem madeCells_one (z : Value) (n : Nat) : (madeCells #[z] n).toList = List.replicate n z := by
  apply List.ext_getElem
  · simp [madeCells]
  · intro i h1 h2
    simp [madeCells, Nat.mod_one]
def intVals (l : List Int) : List Value := l.map (Value.int .i64)
theorem intVals_len (l : List Int) : (intVals l).length = l.length := by simp [intVals]
theorem intVals_cell {w : World} {g : Nat} {E : TypeId} {l : List Int} (h : Row w g E (intVals l)) {j : Nat} (hj : j < l.length) : w.cell? ⟨g, j, none⟩ = some (.int .i64 (el l j)) := by
  have := h.cell (j := j) (by rw [intVals_len]; exact hj)
  rw [this]; simp [intVals, el, hj]
theorem intVals_set (l : List Int) (j : Nat) (z : Int) : (intVals l).set j (.int .i64 z) = intVals (l.set j z) := by simp [intVals, List.map_set]
theorem el_set (l : List Int) {i : Nat} (h : i < l.length) (z : Int) : el (l.set i z) i = z := by simp [el, h]
theorem cut_calls {P : Program} {f : FuncId} {args : Array Value} {W : World} {post : Ending → World → Prop} (R : World → Prop) (h1 : R W) (h2 : ∀ W, R W → Calls P f args W post) : Calls P f args W post := h2 W h1
/-- What a break is like. -/
def Ok6 (x : Brk) : Prop := 0 ≤ x.d ∧ x.d ≤ x.m ∧ x.m ≤ 60 ∧ 1 ≤ x.g ∧ x.g ≤ 3
def wkQ (x : Brk) : Int := (x.m - x.d + 4 - 1) / 4
theorem wkQ_bd {x : Brk} (h : Ok6 x) : 0 ≤ wkQ x ∧ wkQ x ≤ 15 := by unfold Ok6 at h; unfold wkQ; omega
def wkSt (xs : List Brk) (os : List Nat) (W : Int) : Nat → List Int × Int
  | 0 => (List.replicate xs.length 0, W)
  | t + 1 => ((wkSt xs os W t).1.set (el os t) (mn (wkQ (el xs (el os t))) (wkSt xs os W t).2), (wkSt xs os W t).2 - mn (wkQ (el xs (el os t))) (wkSt xs os W t).2)
theorem wkSt_len (xs : List Brk) (os : List Nat) (W : Int) : ∀ t, (wkSt xs os W t).1.length = xs.length
  | 0 => by simp [wkSt]
  | t + 1 => by rw [wkSt, List.length_set, wkSt_len xs os W t]
theorem wkSt_bd {xs : List Brk} {os : List Nat} {W : Int} (hv : ∀ i, i < xs.length → Ok6 (el xs i)) (ho : ∀ i, i < os.length → el os i < xs.length) (h0 : 0 ≤ W) (h1 : W ≤ 40) : ∀ t, t ≤ os.length → (0 ≤ (wkSt xs os W t).2 ∧ (wkSt xs os W t).2 ≤ 40) ∧ ∀ z ∈ (wkSt xs os W t).1, 0 ≤ z ∧ z ≤ 40
  | 0, _ => ⟨⟨h0, h1⟩, fun z hz => by simp [wkSt] at hz; omega⟩
  | t + 1, ht => by
    obtain ⟨⟨a, b⟩, hz⟩ := wkSt_bd hv ho h0 h1 t (by omega)
    have hq := wkQ_bd (hv _ (ho t (by omega)))
    rw [wkSt]
    have hm := mn_or (wkQ (el xs (el os t))) (wkSt xs os W t).2
    refine ⟨by simp only []; omega, fun z hzm => ?_⟩
    rcases List.mem_or_eq_of_mem_set hzm with h | h
    · exact hz z h
    · omega
def wkL (xs : List Brk) (W : Int) : List Int := (wkSt xs (needO xs xs.length) W (needO xs xs.length).length).1
theorem wkL_len (xs : List Brk) (W : Int) : (wkL xs W).length = xs.length := wkSt_len _ _ _ _
theorem needO_el (xs : List Brk) : ∀ i, i < (needO xs xs.length).length → el (needO xs xs.length) i < xs.length := fun i hi => needO_lt _ (el_mem hi)
theorem wkL_bd {xs : List Brk} {W : Int} (hv : ∀ i, i < xs.length → Ok6 (el xs i)) (h0 : 0 ≤ W) (h1 : W ≤ 40) : ∀ i, i < xs.length → 0 ≤ el (wkL xs W) i ∧ el (wkL xs W) i ≤ 40 := fun i hi =>
  (wkSt_bd hv (needO_el xs) h0 h1 _ (Nat.le_refl _)).2 _ (el_mem (by rw [← wkL, wkL_len]; exact hi))
theorem own_nat {w : World} {base n : Nat} {E : TypeId} {os : List Nat} {A : Option Addr} (h : OwnAt w base E (natVals os) n A) (hn : n = os.length) {k : Nat} (hk : k < os.length) : ∃ g, A = some ⟨g, 0, none⟩ ∧ base ≤ g ∧ g < w.heap.size ∧ w.cell? ⟨g, k, none⟩ = some (.int .i64 ((el os k : Nat) : Int)) := by
  rcases h with ⟨_, h, _⟩ | ⟨g, rfl, hg, hr⟩
  · omega
  · exact ⟨g, rfl, hg, hr.lt, natVals_cell hr hk⟩
theorem _root_.Go.Salt.OwnAt.far' {w : World} {base : Nat} {E : TypeId} {cs : List Value} {n : Nat} {A : Option Addr} (h : OwnAt w base E cs n A) {p : Addr} (hp : p.block < base) (u : Value) : OwnAt (w.setCell p u) base E cs n A := by
  rcases h with h | ⟨g, e, hg, hr⟩
  · exact .inl h
  · exact .inr ⟨g, e, hg, hr.far (by omega) u⟩
end Go.Proofs.YtakjfkbfibcbcaaDoor
