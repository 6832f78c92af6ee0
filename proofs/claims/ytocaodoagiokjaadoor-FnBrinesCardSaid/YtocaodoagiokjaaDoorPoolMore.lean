/- Contracts of SaltIn, SettledBrine, SunToCrop, RainToMelt and of the laws over them (chapter 21). -/
import Derived.Test.YtocaodoagiokjaaDoorPoolStep
import Derived.Lib.Hide
set_option linter.unusedSimpArgs false
set_option linter.unusedVariables false
namespace Go.Proofs.YtocaodoagiokjaaDoor
open Go.RowKit Go.Sort Go.Salt
attribute [local go_sem] cell_rg
attribute [local go_sem ↓] run_max_mx run_min_mn
theorem poolOK_bd {st a s c i r l : Int} (h : poolOK st a s c i r l = true) : 0 ≤ a ∧ a ≤ 1000000 ∧ 0 ≤ s ∧ s ≤ 1000000 ∧ 0 ≤ c ∧ c ≤ 1000000 ∧ 0 ≤ i ∧ i ≤ 1000000 ∧ 0 ≤ r ∧ r ≤ 1000000 ∧ 0 ≤ l ∧ l ≤ 1000000 := by
  simp [poolOK, inB] at h; omega
theorem poolOK_st {st a s c i r l : Int} (h : poolOK st a s c i r l = true) : st = stB a s c ∧ i = s + c + r + l := by
  simp [poolOK, inB] at h; exact ⟨by omega, by omega⟩
def satV (st a s c i r l : Int) : Int := if poolOK st a s c i r l then s + c else 0
def rtmB (st a s c i r l : Int) : Bool := poolOK st a s c i r l && st == 2
def rtmV (st a s c i r l : Int) : Int := if rtmB st a s c i r l then mx ((1000 * (s + c) + 355) / 356 - a) 1 else 0
def stcB (st a s c i r l : Int) : Bool := poolOK st a s c i r l && st == 1 && !(s == 0)
def stcV (st a s c i r l : Int) : Int := if stcB st a s c i r l then mx (a - (1000 * s - 1) / 356) 1 else 0
theorem mx_comm (a b : Int) : mx a b = mx b a := by unfold mx; split <;> split <;> omega
theorem ret_ib {x y : Int} {p q : Bool} (h : x = y) (k : p = q) : Ending.returned (.tuple #[.int .i64 x, .bool p]) = .returned (.tuple #[.int .i64 y, .bool q]) := by rw [h, k]
theorem ret_bib {a s c a' s' c' : Int} {p q : Bool} (h1 : a = a') (h2 : s = s') (h3 : c = c') (k : p = q) : Ending.returned (.tuple #[.agg #[.int .i64 a, .int .i64 s], .int .i64 c, .bool p]) = .returned (.tuple #[.agg #[.int .i64 a', .int .i64 s'], .int .i64 c', .bool q]) := by rw [h1, h2, h3, k]
def stlB (a s c : Int) : Bool := inB a 0 1000000 && inB s 0 1000000 && inB c 0 1000000 && (inB a 0 1000000 && inB (s + imN a s c) 0 1000000) && inB (c - imN a s c) 0 1000000
def stlA (a s c : Int) : Int := if stlB a s c then a else 0
def stlS (a s c : Int) : Int := if stlB a s c then s + imN a s c else 0
def stlC (a s c : Int) : Int := if stlB a s c then c - imN a s c else 0
end Go.Proofs.YtocaodoagiokjaaDoor
