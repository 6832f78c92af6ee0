/- Contracts of the pool's steps (chapter 21). -/
import Derived.Test.YtocaodoagiokjaaDoorPool
set_option linter.unusedSimpArgs false
set_option linter.unusedVariables false
namespace Go.Proofs.YtocaodoagiokjaaDoor
open Go.RowKit Go.Sort Go.Salt
attribute [local go_sem] cell_rg
attribute [local go_sem ↓] run_max_mx run_min_mn
/-- What the water keeps; what falls out or melts, as the program and as the reference reckon it. -/
def kp (a : Int) : Int := 356 * a / 1000
def imN (a s c : Int) : Int := mn (kp a - s) c
def spN (a s c : Int) : Int := if s - kp a < 0 then mx (s - kp a) (-c) else s - kp a
theorem kp_bd (a : Int) (h : 0 ≤ a) (h2 : a ≤ 1000000000000000) : 0 ≤ kp a ∧ kp a ≤ 1000000000000000 := by unfold kp; omega
theorem imN_bd {a s c : Int} : imN a s c = kp a - s ∨ imN a s c = c := by unfold imN; rcases mn_or (kp a - s) c with h | h <;> simp [h.1]
theorem spN_bd {a s c : Int} : spN a s c = s - kp a ∨ spN a s c = -c := by
  unfold spN; split
  · rcases mx_or (s - kp a) (-c) with h | h <;> simp [h.1]
  · exact .inl rfl
theorem spN_im {a s c : Int} (h : 0 ≤ c) : spN a s c = -imN a s c := by
  unfold spN imN
  rcases mx_or (s - kp a) (-c) with h1 | h1 <;> rcases mn_or (kp a - s) c with h2 | h2 <;> split <;> omega
end Go.Proofs.YtocaodoagiokjaaDoor
