/- Contracts of the pool's functions (chapter 21), of the program and of the reference. -/
import Derived.Test.YtocaodoagiokjaaDoorLeaf
set_option linter.unusedSimpArgs false
set_option linter.unusedVariables false
namespace Go.Proofs.YtocaodoagiokjaaDoor
open Go.RowKit Go.Sort Go.Salt
attribute [local go_sem] cell_rg
def stB (a s c : Int) : Int := if 0 < c then 2 else if 0 < a + s then 1 else 0
def poolOK (st a s c i r l : Int) : Bool := inB a 0 1000000 && inB s 0 1000000 && inB c 0 1000000 && inB i 0 1000000 && inB r 0 1000000 && inB l 0 1000000 && (st == stB a s c) && (i == s + c + r + l)
set_option maxHeartbeats 400000 in
theorem mass_any (a s : Int) (w : World) (_h1 : -1000000000000000 ≤ a) (_h2 : a ≤ 1000000000000000) (_h3 : -1000000000000000 ≤ s) (_h4 : s ≤ 1000000000000000) :
    Calls Tryd.prog 37 #[.agg #[.int .i64 a, .int .i64 s]] w fun e w' => e = .returned (.int .i64 (a + s)) ∧ Below w.heap.size w w' := by
  go_enter Tryd.func37, Tryd.ntmps37
  go_wp2
  go_ret
  exact ⟨rfl, (by repeat' (first | (with_reducible exact Below.refl _ _) | (with_reducible refine Below.alloc ?_ ?_ _) | (with_reducible refine Below.setCell ?_ ?_ _) | (with_reducible refine Below.drew ?_) | (with_reducible refine Below.trans ?_ (Below.mono (by with_reducible assumption) ?_)) | omega | (simp; done) | (simp; omega)))⟩
set_option maxHeartbeats 400000 in
theorem l2Mass_any (a s : Int) (w : World) (_h1 : -1000000000000000 ≤ a) (_h2 : a ≤ 1000000000000000) (_h3 : -1000000000000000 ≤ s) (_h4 : s ≤ 1000000000000000) :
    Calls Tryd.prog 35 #[.agg #[.int .i64 a, .int .i64 s]] w fun e w' => e = .returned (.int .i64 (a + s)) ∧ Below w.heap.size w w' := by
  go_enter Tryd.func35, Tryd.ntmps35
  go_wp2
  go_ret
  exact ⟨rfl, (by repeat' (first | (with_reducible exact Below.refl _ _) | (with_reducible refine Below.alloc ?_ ?_ _) | (with_reducible refine Below.setCell ?_ ?_ _) | (with_reducible refine Below.drew ?_) | (with_reducible refine Below.trans ?_ (Below.mono (by with_reducible assumption) ?_)) | omega | (simp; done) | (simp; omega)))⟩
end Go.Proofs.YtocaodoagiokjaaDoor
