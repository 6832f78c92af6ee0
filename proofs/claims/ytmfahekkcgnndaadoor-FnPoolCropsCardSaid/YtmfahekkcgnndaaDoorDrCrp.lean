/- What the draws of pools return. No conditions. -/
import Derived.Test.YtmfahekkcgnndaaDoorLawKit
import Derived.Test.YtmfahekkcgnndaaDoorStepRef
set_option linter.unusedSimpArgs false
set_option linter.unusedVariables false
namespace Go.Proofs.YtmfahekkcgnndaaDoor
open Go.RowKit Go.Sort Go.Salt Go.Dr
theorem step_bd (p : Pl) (k v z : Int) : ∀ x ∈ [(p.step k v z).st, (p.step k v z).a, (p.step k v z).s, (p.step k v z).c, (p.step k v z).i, (p.step k v z).r, (p.step k v z).l], -9223372036854775808 ≤ x ∧ x ≤ 9223372036854775807 := by
  have h0 : (p.step k v z) = Pl.zero ∨ (p.step k v z).ok = true := by
    unfold Pl.step
    split
    · rename_i h
      simp only [Pl.stepB, Bool.and_eq_true] at h
      have := h.2.2
      unfold Pl.can at this
      split
      · rename_i q hq
        rw [hq] at this
        exact .inr this
      · exact .inl rfl
    · exact .inl rfl
  rcases h0 with h | h
  · rw [h]; intro x hx; simp [Pl.zero] at hx; omega
  · generalize p.step k v z = q at h
    simp only [Pl.ok, poolOK, Bool.and_eq_true, inB_iff, beq_iff_eq] at h
    have hst : 0 ≤ stB q.a q.s q.c ∧ stB q.a q.s q.c ≤ 2 := by unfold stB; repeat' split <;> omega
    intro x hx
    simp only [List.mem_cons, List.not_mem_nil, or_false] at hx
    rcases hx with rfl | rfl | rfl | rfl | rfl | rfl | rfl <;> omega
def stepEnt : Ent := ⟨48, false, [.agg [.int, .int, .int, .int, .int, .int, .int], .agg [.int, .int, .int]], .tup [.agg [.int, .int, .int, .int, .int, .int, .int], .bool true true], 0⟩
theorem step_con {tb : Tab} : Con Tryd.prog tb stepEnt := by
  refine Con.pure Tryd.func48 (by kernel_rfl) (by kernel_rfl) rfl fun w args hs ha => ?_
  obtain ⟨u, v, rfl, hu, hv⟩ := arg_at ha rfl hs
  obtain ⟨f, rfl, _⟩ := agg_of (k := 7) hu
  obtain ⟨g, rfl, hg⟩ := agg_of (k := 3) hv
  refine (sStepPool_any (f 0) (f 1) (f 2) (f 3) (f 4) (f 5) (f 6) (g 0) (g 1) (g 2) w (hg 1 (by omega)).2).mono fun e w' he => ?_
  obtain ⟨rfl, hb⟩ := he
  exact ⟨_, rfl, tup_mk2 (agg_mk _ (step_bd _ _ _ _)) (bool_mk _), hb⟩
def mostEnt : Ent := ⟨29, false, [full, full], .one full, 0⟩
theorem most_con {tb : Tab} : Con Tryd.prog tb mostEnt := by
  refine Con.pure Tryd.func29 (by kernel_rfl) (by kernel_rfl) rfl fun w args hs ha => ?_
  obtain ⟨u, v, rfl, hu, hv⟩ := arg_at ha rfl hs
  obtain ⟨x, rfl, x1, x2⟩ := int_of hu
  obtain ⟨y, rfl, y1, y2⟩ := int_of hv
  refine (l1Most_any x y w).mono fun e w' he => ?_
  obtain ⟨rfl, rfl⟩ := he
  have := mx_or x y
  exact ⟨_, rfl, ⟨mx x y, rfl, by omega, by omega⟩, Below.refl _ _⟩
def crpTab : Tab := ⟨[(3, ⟨[.int], false, []⟩), (28, ⟨[.int, .int], true, [(0, 3), (1, 3)]⟩), (30, ⟨[.int, .int, .int, .int, .int, .int, .int], true, [(0, 3), (1, 28), (3, 3), (4, 3), (5, 3), (6, 3)]⟩), (41, ⟨[.int, .int, .int], true, [(0, 3), (1, 3), (2, 3)]⟩)], [(67, 3)], []⟩
theorem crpTab_ok : TabOk Tryd.prog crpTab := tabOk_of (by kernel_rfl)
theorem crpTab0 : Ok Tryd.prog crpTab [pickEnt 4, pickEnt 10, pickEnt 14, pickEnt 32, oneEnt, amongEnt, stepEnt, mostEnt] := ⟨by kernel_rfl, crpTab_ok, fun A n c => by kernel_rfl, fun e he => by
  simp only [List.mem_cons, List.not_mem_nil, or_false] at he
  rcases he with rfl | rfl | rfl | rfl | rfl | rfl | rfl | rfl
  · exact pick_con 4 (by omega)
  · exact pick_con 10 (by omega)
  · exact pick_con 14 (by omega)
  · exact pick_con 32 (by omega)
  · exact one_con
  · exact among_con (by kernel_rfl) (by kernel_rfl)
  · exact step_con
  · exact most_con⟩
def poolStepEnt : Ent := ⟨49, true, [.cur, .agg [.int, .int, .int, .int, .int, .int, .int]], .one (.agg [.int, .int, .int]), 12⟩
theorem poolStep_con : Con Tryd.prog crpTab poolStepEnt := chk_con crpTab0 60 Tryd.func49 (by kernel_rfl)
theorem crpTab1 : Ok Tryd.prog crpTab [poolStepEnt, pickEnt 4, pickEnt 10, pickEnt 14, pickEnt 32, oneEnt, amongEnt, stepEnt, mostEnt] := crpTab0.cons poolStep_con
def poolEnt : Ent := ⟨39, true, [.cur], .one (.agg [.int, .int, .int, .int, .int, .int, .int]), 400⟩
theorem pool_con : Con Tryd.prog crpTab poolEnt := chk_con crpTab1 60 Tryd.func39 (by kernel_rfl)
theorem crpTab2 : Ok Tryd.prog crpTab [poolEnt, poolStepEnt, pickEnt 4, pickEnt 10, pickEnt 14, pickEnt 32, oneEnt, amongEnt, stepEnt, mostEnt] := crpTab1.cons pool_con
def dIsPoolEnt : Ent := ⟨27, false, [.bytes], .one (.agg [.int, .int, .int, .int, .int, .int, .int]), 500⟩
theorem dIsPool_con : Con Tryd.prog crpTab dIsPoolEnt := chk_con crpTab2 60 Tryd.func27 (by kernel_rfl)
theorem crpTab3 : Ok Tryd.prog crpTab [dIsPoolEnt, poolEnt, poolStepEnt, pickEnt 4, pickEnt 10, pickEnt 14, pickEnt 32, oneEnt, amongEnt, stepEnt, mostEnt] := crpTab2.cons dIsPool_con
def dSunToCropEnt : Ent := ⟨9, false, [.bytes], .one (.agg [.int, .int, .int, .int, .int, .int, .int]), 500⟩
theorem dSunToCrop_con : Con Tryd.prog crpTab dSunToCropEnt := chk_con crpTab3 60 Tryd.func9 (by kernel_rfl)
def dRainToMeltEnt : Ent := ⟨13, false, [.bytes], .one (.agg [.int, .int, .int, .int, .int, .int, .int]), 500⟩
theorem dRainToMelt_con : Con Tryd.prog crpTab dRainToMeltEnt := chk_con crpTab3 60 Tryd.func13 (by kernel_rfl)
def dSaltInEnt : Ent := ⟨16, false, [.bytes], .one (.agg [.int, .int, .int, .int, .int, .int, .int]), 500⟩
theorem dSaltIn_con : Con Tryd.prog crpTab dSaltInEnt := chk_con crpTab3 60 Tryd.func16 (by kernel_rfl)
def dPoolTextEnt : Ent := ⟨19, false, [.bytes], .one (.agg [.int, .int, .int, .int, .int, .int, .int]), 500⟩
theorem dPoolText_con : Con Tryd.prog crpTab dPoolTextEnt := chk_con crpTab3 60 Tryd.func19 (by kernel_rfl)
end Go.Proofs.YtmfahekkcgnndaaDoor
