/- What the draws of series return. No conditions. -/
import Derived.Test.YtocaodoagiokjaaDrFun
set_option linter.unusedSimpArgs false
set_option linter.unusedVariables false
namespace Go.Proofs.Ytocaodoagiokjaa
open Go.RowKit Go.Sort Go.Salt Go.Dr
def serTab : Tab := ⟨[(3, ⟨[.int], false, []⟩), (25, ⟨[.int, .int], true, [(0, 3), (1, 3)]⟩), (62, ⟨[.int, .int, .int], true, [(0, 3), (1, 25)]⟩)], [(84, 3), (28, 62)], []⟩
theorem serTab_ok : TabOk Try.prog serTab := tabOk_of (by kernel_rfl)
theorem ser0 : Ok Try.prog serTab [pickEnt 2, pickEnt 5, pickEnt 32, pickEnt 48, amongEnt] := ⟨serTab_ok, fun A n c => by kernel_rfl, fun e he => by
  simp only [List.mem_cons, List.not_mem_nil, or_false] at he
  rcases he with rfl | rfl | rfl | rfl | rfl
  · exact pick_con 2 (by omega)
  · exact pick_con 5 (by omega)
  · exact pick_con 32 (by omega)
  · exact pick_con 48 (by omega)
  · exact among_con (by kernel_rfl) (by kernel_rfl)⟩
def brineEnt : Ent := ⟨54, true, [.cur], .one (.agg [.int, .int]), 10⟩
theorem brine_con : Con Try.prog serTab brineEnt := chk_con ser0 100 Try.func54 (by kernel_rfl)
def passSizeEnt : Ent := ⟨55, true, [.cur], .one full, 10⟩
theorem passSize_con : Con Try.prog serTab passSizeEnt := chk_con ser0 100 Try.func55 (by kernel_rfl)
def seriesEnt : Ent := ⟨53, true, [.cur], .one (.sl true 62 0 20 1), 100⟩
theorem series_con : Con Try.prog serTab seriesEnt := chk_con ser0 100 Try.func53 (by kernel_rfl)
theorem ser1 : Ok Try.prog serTab [brineEnt, passSizeEnt, seriesEnt, pickEnt 2, pickEnt 5, pickEnt 32, pickEnt 48, amongEnt] := ((ser0.cons series_con).cons passSize_con).cons brine_con
def dIsSeriesEnt : Ent := ⟨59, false, [.bytes], .one (.sl true 62 0 20 1), 200⟩
theorem dIsSeries_con : Con Try.prog serTab dIsSeriesEnt := chk_con ser1 100 Try.func59 (by kernel_rfl)
theorem ser2 : Ok Try.prog serTab [dIsSeriesEnt, brineEnt, passSizeEnt, seriesEnt, pickEnt 2, pickEnt 5, pickEnt 32, pickEnt 48, amongEnt] := ser1.cons dIsSeries_con
def dSeriesSumEnt : Ent := ⟨34, false, [.bytes], .one (.sl true 62 0 20 1), 200⟩
theorem dSeriesSum_con : Con Try.prog serTab dSeriesSumEnt := chk_con ser2 100 Try.func34 (by kernel_rfl)
def dAfterPassEnt : Ent := ⟨27, false, [.bytes], .tup [.sl true 62 0 20 1, .agg [.int, .int], full], 200⟩
theorem dAfterPass_con : Con Try.prog serTab dAfterPassEnt := chk_con ser2 100 Try.func27 (by kernel_rfl)
def dAfterPassesEnt : Ent := ⟨31, false, [.bytes], .tup [.sl true 62 0 20 1, .agg [.int, .int], full, full], 200⟩
theorem dAfterPasses_con : Con Try.prog serTab dAfterPassesEnt := chk_con ser2 100 Try.func31 (by kernel_rfl)
def dPassesToEmptyEnt : Ent := ⟨32, false, [.bytes], .tup [.sl true 62 0 20 1, full], 200⟩
theorem dPassesToEmpty_con : Con Try.prog serTab dPassesToEmptyEnt := chk_con ser2 100 Try.func32 (by kernel_rfl)
def dFillFirstEnt : Ent := ⟨33, false, [.bytes], .tup [.sl true 62 0 20 1, .agg [.int, .int]], 200⟩
theorem dFillFirst_con : Con Try.prog serTab dFillFirstEnt := chk_con ser2 100 Try.func33 (by kernel_rfl)
end Go.Proofs.Ytocaodoagiokjaa
