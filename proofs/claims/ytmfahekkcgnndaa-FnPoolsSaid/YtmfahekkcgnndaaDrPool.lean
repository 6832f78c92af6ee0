/- What the draws of pools return. No conditions. -/
import Derived.Test.YtmfahekkcgnndaaLawKit
import Derived.Test.YtmfahekkcgnndaaStepRef
set_option linter.unusedSimpArgs false
set_option linter.unusedVariables false
namespace Go.Proofs.Ytmfahekkcgnndaa
open Go.RowKit Go.Sort Go.Salt Go.Dr
theorem step_bd (p : Pl) (k v z : Int) : ∀ x ∈ [(p.step k v z).st, (p.step k v z).a, (p.step k v z).s, (p.step k v z).c, (p.step k v z).i, (p.step k v z).r, (p.step k v z).l], -9223372036854775808 ≤ x ∧ x ≤ 9223372036854775807 := by
  have h0 : (p.step k v z) = Pl.zero ∨ (p.step k v z).ok = true := by
    unfold Pl.step
    split
    · rename_i h
      simp only [Pl.stepB, Bool.and_eq_true] at h
      have := h.2.2
      unfold Pl.can at this
      split
      · rename_i q hq
        rw [hq] at this
        exact .inr this
      · exact .inl rfl
    · exact .inl rfl
  rcases h0 with h | h
  · rw [h]; intro x hx; simp [Pl.zero] at hx; omega
  · generalize p.step k v z = q at h
    simp only [Pl.ok, poolOK, Bool.and_eq_true, inB_iff, beq_iff_eq] at h
    have hst : 0 ≤ stB q.a q.s q.c ∧ stB q.a q.s q.c ≤ 2 := by unfold stB; repeat' split <;> omega
    intro x hx
    simp only [List.mem_cons, List.not_mem_nil, or_false] at hx
    rcases hx with rfl | rfl | rfl | rfl | rfl | rfl | rfl <;> omega
def stepEnt : Ent := ⟨30, false, [.agg [.int, .int, .int, .int, .int, .int, .int], .agg [.int, .int, .int]], .tup [.agg [.int, .int, .int, .int, .int, .int, .int], .bool true true], 0⟩
theorem step_con {tb : Tab} : Con Try.prog tb stepEnt := by
  refine Con.pure Try.func30 (by kernel_rfl) (by kernel_rfl) rfl fun w args hs ha => ?_
  obtain ⟨u, v, rfl, hu, hv⟩ := arg_at ha rfl hs
  obtain ⟨f, rfl, _⟩ := agg_of (k := 7) hu
  obtain ⟨g, rfl, hg⟩ := agg_of (k := 3) hv
  refine (sStepPool_any (f 0) (f 1) (f 2) (f 3) (f 4) (f 5) (f 6) (g 0) (g 1) (g 2) w (hg 1 (by omega)).2).mono fun e w' he => ?_
  obtain ⟨rfl, hb⟩ := he
  exact ⟨_, rfl, tup_mk2 (agg_mk _ (step_bd _ _ _ _)) (bool_mk _), hb⟩
def mostEnt : Ent := ⟨51, false, [full, full], .one full, 0⟩
theorem most_con {tb : Tab} : Con Try.prog tb mostEnt := by
  refine Con.pure Try.func51 (by kernel_rfl) (by kernel_rfl) rfl fun w args hs ha => ?_
  obtain ⟨u, v, rfl, hu, hv⟩ := arg_at ha rfl hs
  obtain ⟨x, rfl, x1, x2⟩ := int_of hu
  obtain ⟨y, rfl, y1, y2⟩ := int_of hv
  refine (l1Most_any x y w).mono fun e w' he => ?_
  obtain ⟨rfl, rfl⟩ := he
  have := mx_or x y
  exact ⟨_, rfl, ⟨mx x y, rfl, by omega, by omega⟩, Below.refl _ _⟩
def poolTab : Tab := ⟨[(3, ⟨[.int], false, []⟩), (27, ⟨[.int, .int], true, [(0, 3), (1, 3)]⟩), (29, ⟨[.int, .int, .int, .int, .int, .int, .int], true, [(0, 3), (1, 27), (3, 3), (4, 3), (5, 3), (6, 3)]⟩), (51, ⟨[.int, .int, .int], true, [(0, 3), (1, 3), (2, 3)]⟩)], [(91, 3), (59, 51)], []⟩
theorem poolTab_ok : TabOk Try.prog poolTab := tabOk_of (by kernel_rfl)
theorem poolTab0 : Ok Try.prog poolTab [pickEnt 2, pickEnt 4, pickEnt 10, pickEnt 12, pickEnt 14, pickEnt 32, pickEnt 48, oneEnt, amongEnt, stepEnt, mostEnt] := ⟨by kernel_rfl, poolTab_ok, fun A n c => by kernel_rfl, fun e he => by
  simp only [List.mem_cons, List.not_mem_nil, or_false] at he
  rcases he with rfl | rfl | rfl | rfl | rfl | rfl | rfl | rfl | rfl | rfl | rfl
  · exact pick_con 2 (by omega)
  · exact pick_con 4 (by omega)
  · exact pick_con 10 (by omega)
  · exact pick_con 12 (by omega)
  · exact pick_con 14 (by omega)
  · exact pick_con 32 (by omega)
  · exact pick_con 48 (by omega)
  · exact one_con
  · exact among_con (by kernel_rfl) (by kernel_rfl)
  · exact step_con
  · exact most_con⟩
def brineEnt : Ent := ⟨64, true, [.cur], .one (.agg [.int, .int]), 10⟩
theorem brine_con : Con Try.prog poolTab brineEnt := chk_con poolTab0 60 Try.func64 (by kernel_rfl)
theorem poolTab1 : Ok Try.prog poolTab [brineEnt, pickEnt 2, pickEnt 4, pickEnt 10, pickEnt 12, pickEnt 14, pickEnt 32, pickEnt 48, oneEnt, amongEnt, stepEnt, mostEnt] := poolTab0.cons brine_con
def poolStepEnt : Ent := ⟨61, true, [.cur, .agg [.int, .int, .int, .int, .int, .int, .int]], .one (.agg [.int, .int, .int]), 12⟩
theorem poolStep_con : Con Try.prog poolTab poolStepEnt := chk_con poolTab1 60 Try.func61 (by kernel_rfl)
theorem poolTab2 : Ok Try.prog poolTab [poolStepEnt, brineEnt, pickEnt 2, pickEnt 4, pickEnt 10, pickEnt 12, pickEnt 14, pickEnt 32, pickEnt 48, oneEnt, amongEnt, stepEnt, mostEnt] := poolTab1.cons poolStep_con
def poolEnt : Ent := ⟨60, true, [.cur], .one (.agg [.int, .int, .int, .int, .int, .int, .int]), 400⟩
theorem pool_con : Con Try.prog poolTab poolEnt := chk_con poolTab2 60 Try.func60 (by kernel_rfl)
theorem poolTab3 : Ok Try.prog poolTab [poolEnt, poolStepEnt, brineEnt, pickEnt 2, pickEnt 4, pickEnt 10, pickEnt 12, pickEnt 14, pickEnt 32, pickEnt 48, oneEnt, amongEnt, stepEnt, mostEnt] := poolTab2.cons pool_con
def dStepPoolEnt : Ent := ⟨40, false, [.bytes], .tup [.agg [.int, .int, .int, .int, .int, .int, .int], .agg [.int, .int, .int]], 500⟩
theorem dStepPool_con : Con Try.prog poolTab dStepPoolEnt := chk_con poolTab3 60 Try.func40 (by kernel_rfl)
def dRunPoolEnt : Ent := ⟨41, false, [.bytes], .tup [.agg [.int, .int, .int, .int, .int, .int, .int], .sl true 51 0 60 1], 900⟩
theorem dRunPool_con : Con Try.prog poolTab dRunPoolEnt := chk_con poolTab3 60 Try.func41 (by kernel_rfl)
def dSettledEnt : Ent := ⟨42, false, [.bytes], .tup [.agg [.int, .int], full], 50⟩
theorem dSettled_con : Con Try.prog poolTab dSettledEnt := chk_con poolTab3 60 Try.func42 (by kernel_rfl)
theorem poolTab_step : poolTab.td 51 = some ⟨[.int, .int, .int], true, [(0, 3), (1, 3), (2, 3)]⟩ := by kernel_rfl
end Go.Proofs.Ytmfahekkcgnndaa
