/- What the draws of brines return. No conditions. -/
import Derived.Test.YtocaodoagiokjaaDoorLawKit
import Derived.Test.YtocaodoagiokjaaDoorBrineList
set_option linter.unusedSimpArgs false
set_option linter.unusedVariables false
namespace Go.Proofs.YtocaodoagiokjaaDoor
open Go.RowKit Go.Sort Go.Salt Go.Dr
def brnTab : Tab := ⟨[(3, ⟨[.int], false, []⟩), (25, ⟨[.int, .int], true, [(0, 3), (1, 3)]⟩)], [(61, 3), (38, 25)], []⟩
theorem brnTab_ok : TabOk Tryd.prog brnTab := tabOk_of (by kernel_rfl)
theorem brnTab0 : Ok Tryd.prog brnTab [pickEnt 2, pickEnt 5, pickEnt 48, oneEnt, amongEnt] := ⟨by kernel_rfl, brnTab_ok, fun A n c => by kernel_rfl, fun e he => by
  simp only [List.mem_cons, List.not_mem_nil, or_false] at he
  rcases he with rfl | rfl | rfl | rfl | rfl
  · exact pick_con 2 (by omega)
  · exact pick_con 5 (by omega)
  · exact pick_con 48 (by omega)
  · exact one_con
  · exact among_con (by kernel_rfl) (by kernel_rfl)⟩
def massEnt : Ent := ⟨35, false, [.agg [.int, .int]], .one full, 0⟩
theorem mass_con : Con Tryd.prog brnTab massEnt := chk_con brnTab0 60 Tryd.func35 (by kernel_rfl)
theorem brnTab1 : Ok Tryd.prog brnTab [massEnt, pickEnt 2, pickEnt 5, pickEnt 48, oneEnt, amongEnt] := brnTab0.cons mass_con
def brineEnt : Ent := ⟨30, true, [.cur], .one (.agg [.int, .int]), 10⟩
theorem brine_con : Con Tryd.prog brnTab brineEnt := chk_con brnTab1 60 Tryd.func30 (by kernel_rfl)
theorem brnTab2 : Ok Tryd.prog brnTab [brineEnt, massEnt, pickEnt 2, pickEnt 5, pickEnt 48, oneEnt, amongEnt] := brnTab1.cons brine_con
def dIsBrineEnt : Ent := ⟨22, false, [.bytes], .one (.agg [.int, .int]), 50⟩
theorem dIsBrine_con : Con Tryd.prog brnTab dIsBrineEnt := chk_con brnTab2 60 Tryd.func22 (by kernel_rfl)
theorem brnTab3 : Ok Tryd.prog brnTab [dIsBrineEnt, brineEnt, massEnt, pickEnt 2, pickEnt 5, pickEnt 48, oneEnt, amongEnt] := brnTab2.cons dIsBrine_con
def dBrineTextEnt : Ent := ⟨5, false, [.bytes], .one (.agg [.int, .int]), 60⟩
theorem dBrineText_con : Con Tryd.prog brnTab dBrineTextEnt := chk_con brnTab3 60 Tryd.func5 (by kernel_rfl)
def dTakePartEnt : Ent := ⟨12, false, [.bytes], .tup [.agg [.int, .int], full], 50⟩
theorem dTakePart_con : Con Tryd.prog brnTab dTakePartEnt := chk_con brnTab3 60 Tryd.func12 (by kernel_rfl)
def dSplitBrineEnt : Ent := ⟨16, false, [.bytes], .tup [.agg [.int, .int], full], 50⟩
theorem dSplitBrine_con : Con Tryd.prog brnTab dSplitBrineEnt := chk_con brnTab3 60 Tryd.func16 (by kernel_rfl)
def dMixBrinesEnt : Ent := ⟨20, false, [.bytes], .one (.sl true 25 0 60 1), 300⟩
theorem dMixBrines_con : Con Tryd.prog brnTab dMixBrinesEnt := chk_con brnTab3 120 Tryd.func20 (by kernel_rfl)
theorem brnTab_brine : brnTab.td 25 = some ⟨[.int, .int], true, [(0, 3), (1, 3)]⟩ := by kernel_rfl
end Go.Proofs.YtocaodoagiokjaaDoor
