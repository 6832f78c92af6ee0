/- What the draws of breaks return. No conditions. -/
import Derived.Test.YtakjfkbfibcbcaaDrFun
set_option linter.unusedSimpArgs false
set_option linter.unusedVariables false
namespace Go.Proofs.Ytakjfkbfibcbcaa
open Go.RowKit Go.Sort Go.Salt Go.Dr
def brkTab : Tab := ⟨[(3, ⟨[.int], false, []⟩), (25, ⟨[.int, .int, .int, .int, .int, .int], true, [(0, 3), (1, 3), (2, 3), (3, 3), (4, 3), (5, 3)]⟩)], [(56, 3), (37, 25)], []⟩
theorem brkTab_ok : TabOk Try.prog brkTab := tabOk_of (by kernel_rfl)
theorem brkTab0 : Ok Try.prog brkTab [pickEnt 2, pickEnt 3, pickEnt 8, pickEnt 24, pickEnt 90, pickEnt 120, oneEnt, amongEnt] := ⟨brkTab_ok, fun A n c => by kernel_rfl, fun e he => by
  simp only [List.mem_cons, List.not_mem_nil, or_false] at he
  rcases he with rfl | rfl | rfl | rfl | rfl | rfl | rfl | rfl
  · exact pick_con 2 (by omega)
  · exact pick_con 3 (by omega)
  · exact pick_con 8 (by omega)
  · exact pick_con 24 (by omega)
  · exact pick_con 90 (by omega)
  · exact pick_con 120 (by omega)
  · exact one_con
  · exact among_con (by kernel_rfl) (by kernel_rfl)⟩
def breachEnt : Ent := ⟨101, true, [.cur, full], .one (.agg [.int, .int, .int, .int, .int, .int]), 40⟩
theorem breach_con : Con Try.prog brkTab breachEnt := chk_con brkTab0 60 Try.func101 (by kernel_rfl)
theorem brkTab1 : Ok Try.prog brkTab [breachEnt, pickEnt 2, pickEnt 3, pickEnt 8, pickEnt 24, pickEnt 90, pickEnt 120, oneEnt, amongEnt] := brkTab0.cons breach_con
def breachesEnt : Ent := ⟨88, true, [.cur], .one (.sl true 25 0 20 1), 800⟩
theorem breaches_con : Con Try.prog brkTab breachesEnt := chk_con brkTab1 60 Try.func88 (by kernel_rfl)
theorem brkTab2 : Ok Try.prog brkTab [breachesEnt, breachEnt, pickEnt 2, pickEnt 3, pickEnt 8, pickEnt 24, pickEnt 90, pickEnt 120, oneEnt, amongEnt] := brkTab1.cons breaches_con
def handsEnt : Ent := ⟨100, true, [.cur], .one full, 10⟩
theorem hands_con : Con Try.prog brkTab handsEnt := chk_con brkTab2 60 Try.func100 (by kernel_rfl)
theorem brkTab3 : Ok Try.prog brkTab [handsEnt, breachesEnt, breachEnt, pickEnt 2, pickEnt 3, pickEnt 8, pickEnt 24, pickEnt 90, pickEnt 120, oneEnt, amongEnt] := brkTab2.cons hands_con
def dWorkersOnEnt : Ent := ⟨87, false, [.bytes], .tup [.sl true 25 0 20 1, full], 900⟩
theorem dWorkersOn_con : Con Try.prog brkTab dWorkersOnEnt := chk_con brkTab3 60 Try.func87 (by kernel_rfl)
theorem brkTab4 : Ok Try.prog brkTab [dWorkersOnEnt, handsEnt, breachesEnt, breachEnt, pickEnt 2, pickEnt 3, pickEnt 8, pickEnt 24, pickEnt 90, pickEnt 120, oneEnt, amongEnt] := brkTab3.cons dWorkersOn_con
def dNextDayEnt : Ent := ⟨59, false, [.bytes], .tup [.sl true 25 0 20 1, full], 900⟩
theorem dNextDay_con : Con Try.prog brkTab dNextDayEnt := chk_con brkTab4 60 Try.func59 (by kernel_rfl)
def dDaysToMendEnt : Ent := ⟨57, false, [.bytes], .tup [.sl true 25 0 20 1, full], 900⟩
theorem dDaysToMend_con : Con Try.prog brkTab dDaysToMendEnt := chk_con brkTab4 60 Try.func57 (by kernel_rfl)
def dFewestWorkersEnt : Ent := ⟨58, false, [.bytes], .tup [.sl true 25 0 20 1, full], 900⟩
theorem dFewestWorkers_con : Con Try.prog brkTab dFewestWorkersEnt := chk_con brkTab4 60 Try.func58 (by kernel_rfl)
theorem brkTab_brk : brkTab.td 25 = some ⟨[.int, .int, .int, .int, .int, .int], true, [(0, 3), (1, 3), (2, 3), (3, 3), (4, 3), (5, 3)]⟩ := by kernel_rfl
end Go.Proofs.Ytakjfkbfibcbcaa
