/- What the draws of breaks return, for the law FnBanks. No conditions. -/
import Derived.Test.YtakjfkbfibcbcaaDoorLawKit
set_option linter.unusedSimpArgs false
set_option linter.unusedVariables false
namespace Go.Dr
open Go.RowKit Go.Sort Go.Salt Go.Proofs.YtakjfkbfibcbcaaDoor
section
variable {tb : Tab}
theorem tup5 {base : Nat} {g q : Option CI} {w : World} {x y z t s : AV} {v : Value} (h : TVok tb base g q w (.tup [x, y, z, t, s]) v) : ∃ u1 u2 u3 u4 u5, v = .tuple #[u1, u2, u3, u4, u5] ∧ AVok tb base g q w x u1 ∧ AVok tb base g q w y u2 ∧ AVok tb base g q w z u3 ∧ AVok tb base g q w t u4 ∧ AVok tb base g q w s u5 := by
  obtain ⟨vs, rfl, h1, h2⟩ := h
  obtain ⟨u1, k1, a1⟩ := h2 0 x rfl
  obtain ⟨u2, k2, a2⟩ := h2 1 y rfl
  obtain ⟨u3, k3, a3⟩ := h2 2 z rfl
  obtain ⟨u4, k4, a4⟩ := h2 3 t rfl
  obtain ⟨u5, k5, a5⟩ := h2 4 s rfl
  refine ⟨u1, u2, u3, u4, u5, ?_, a1, a2, a3, a4, a5⟩
  congr 1
  apply Array.ext_getElem?
  intro i
  match i with
  | 0 => simpa using k1
  | 1 => simpa using k2
  | 2 => simpa using k3
  | 3 => simpa using k4
  | 4 => simpa using k5
  | i + 5 =>
    rw [Array.getElem?_eq_none (by rw [h1]; simp), Array.getElem?_eq_none (by simp)]
end
end Go.Dr
namespace Go.Proofs.YtakjfkbfibcbcaaDoor
open Go.RowKit Go.Sort Go.Salt Go.Dr
def brkTab : Tab := ⟨[(3, ⟨[.int], false, []⟩), (26, ⟨[.int, .int, .int, .int, .int, .int], true, [(0, 3), (1, 3), (2, 3), (3, 3), (4, 3), (5, 3)]⟩)], [(39, 3), (31, 26)], []⟩
theorem brkTab_ok : TabOk Tryd.prog brkTab := tabOk_of (by kernel_rfl)
theorem brkTab0 : Ok Tryd.prog brkTab [pickEnt 2, pickEnt 3, pickEnt 8, pickEnt 24, pickEnt 90, pickEnt 120, oneEnt, amongEnt] := ⟨by kernel_rfl, brkTab_ok, fun A n c => by kernel_rfl, fun e he => by
  simp only [List.mem_cons, List.not_mem_nil, or_false] at he
  rcases he with rfl | rfl | rfl | rfl | rfl | rfl | rfl | rfl
  · exact pick_con 2 (by omega)
  · exact pick_con 3 (by omega)
  · exact pick_con 8 (by omega)
  · exact pick_con 24 (by omega)
  · exact pick_con 90 (by omega)
  · exact pick_con 120 (by omega)
  · exact one_con
  · exact among_con (by kernel_rfl) (by kernel_rfl)⟩
def breachEnt : Ent := ⟨54, true, [.cur, full], .one (.agg [.int, .int, .int, .int, .int, .int]), 40⟩
theorem breach_con : Con Tryd.prog brkTab breachEnt := chk_con brkTab0 60 Tryd.func54 (by kernel_rfl)
theorem brkTab1 : Ok Tryd.prog brkTab [breachEnt, pickEnt 2, pickEnt 3, pickEnt 8, pickEnt 24, pickEnt 90, pickEnt 120, oneEnt, amongEnt] := brkTab0.cons breach_con
def breachesEnt : Ent := ⟨29, true, [.cur], .one (.sl true 26 0 20 1), 800⟩
theorem breaches_con : Con Tryd.prog brkTab breachesEnt := chk_con brkTab1 60 Tryd.func29 (by kernel_rfl)
theorem brkTab2 : Ok Tryd.prog brkTab [breachesEnt, breachEnt, pickEnt 2, pickEnt 3, pickEnt 8, pickEnt 24, pickEnt 90, pickEnt 120, oneEnt, amongEnt] := brkTab1.cons breaches_con
def dAreBreaksEnt : Ent := ⟨39, false, [.bytes], .one (.sl true 26 0 20 1), 900⟩
theorem dAreBreaks_con : Con Tryd.prog brkTab dAreBreaksEnt := chk_con brkTab2 60 Tryd.func39 (by kernel_rfl)
theorem brkTab3 : Ok Tryd.prog brkTab [dAreBreaksEnt, breachesEnt, breachEnt, pickEnt 2, pickEnt 3, pickEnt 8, pickEnt 24, pickEnt 90, pickEnt 120, oneEnt, amongEnt] := brkTab2.cons dAreBreaks_con
def dIsBreakEnt : Ent := ⟨42, false, [.bytes], .one (.agg [.int, .int, .int, .int, .int, .int]), 900⟩
theorem dIsBreak_con : Con Tryd.prog brkTab dIsBreakEnt := chk_con brkTab3 60 Tryd.func42 (by kernel_rfl)
theorem brkTab4 : Ok Tryd.prog brkTab [dIsBreakEnt, dAreBreaksEnt, breachesEnt, breachEnt, pickEnt 2, pickEnt 3, pickEnt 8, pickEnt 24, pickEnt 90, pickEnt 120, oneEnt, amongEnt] := brkTab3.cons dIsBreak_con
def dTellBreakEnt : Ent := ⟨9, false, [.bytes], .tup [.sl true 26 0 20 1, full, full, full, full], 900⟩
theorem dTellBreak_con : Con Tryd.prog brkTab dTellBreakEnt := chk_con brkTab4 60 Tryd.func9 (by kernel_rfl)
def dClearDoneEnt : Ent := ⟨16, false, [.bytes], .one (.sl true 26 0 20 1), 910⟩
theorem dClearDone_con : Con Tryd.prog brkTab dClearDoneEnt := chk_con brkTab4 60 Tryd.func16 (by kernel_rfl)
def dMetersLeftEnt : Ent := ⟨21, false, [.bytes], .tup [.sl true 26 0 20 1, full], 900⟩
theorem dMetersLeft_con : Con Tryd.prog brkTab dMetersLeftEnt := chk_con brkTab4 60 Tryd.func21 (by kernel_rfl)
def dBreakTextEnt : Ent := ⟨23, false, [.bytes], .one (.agg [.int, .int, .int, .int, .int, .int]), 910⟩
theorem dBreakText_con : Con Tryd.prog brkTab dBreakTextEnt := chk_con brkTab4 60 Tryd.func23 (by kernel_rfl)
theorem brkTab_brk : brkTab.td 26 = some ⟨[.int, .int, .int, .int, .int, .int], true, [(0, 3), (1, 3), (2, 3), (3, 3), (4, 3), (5, 3)]⟩ := by kernel_rfl
end Go.Proofs.YtakjfkbfibcbcaaDoor
