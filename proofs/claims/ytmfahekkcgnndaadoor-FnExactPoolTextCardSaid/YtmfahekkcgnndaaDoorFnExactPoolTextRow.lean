/- 'FnExactPoolText': the law returns true whatever its arguments, and each argument reads afterwards as before. No conditions. -/
import Derived.Test.YtmfahekkcgnndaaDoorRows
import Derived.Test.YtmfahekkcgnndaaDoorTie
import Derived.Test.YtmfahekkcgnndaaDoorCards
import Derived.Test.YtmfahekkcgnndaaDoorDoor
import Derived.SevenTiedAt
import Derived.Test.YtmfahekkcgnndaaDoorPtextLaw
import Derived.ShutString
namespace Go.Proofs.YtmfahekkcgnndaaDoor.fnExactPoolText
open Go.ChangeShapes Go.WideShapes Go.ChangeAt Go.RowKit Go.Salt
open Go.ChangeMaps (open_string shut_string)
set_option linter.unusedVariables false
theorem own : ownKnob Tryd.prog.godebug = none := by kernel_rfl
theorem laidOut : laidOutB Tryd.prog = true := by kernel_rfl
theorem readable : ∀ t ∈ Tryd.f3.params.toList, Tryd.prog.readableRec t = true ∧ t < Tryd.prog.types.size := by
  rw [Tryd.params3]
  intro t ht
  simp only [List.mem_cons, List.not_mem_nil, or_false] at ht
  rcases ht with rfl <;> exact ⟨by kernel_rfl, of_decide_eq_true (by kernel_rfl)⟩
set_option maxRecDepth 1000000 in
theorem walk {H : Type} {enc : TypeId × Value → H} (W : World) (args : Array Value) (ds : List (DataW H)) (p : List MemPlace) (hval : ∀ (j : Nat) t v, Tryd.f3.params[j]? = some t → args[j]? = some v → Value.okWide Tryd.prog W .any 0 t v)
    (hA : DataW.TrodAll enc Tryd.prog W 0 (fun _ => true) true Tryd.f3.params.toList args.toList ds p) (hL : laidMetH Tryd.prog Rows.fnExactPoolTextRow.laid W) : Calls Tryd.prog 3 args W fun e W' => e = .returned (.bool true) ∧ Below W.heap.size W W' := by
  rw [Tryd.params3] at hA hval
  obtain ⟨v0, vs0, d0, ds0, p0, q0, hargs, rfl, rfl, h0, r0⟩ := trodAll_cons hA
  obtain ⟨rfl, rfl, rfl⟩ := trodAll_nil r0
  obtain rfl : args = #[v0] := by cases args; simp_all
  obtain ⟨zs0, rfl, hz0, wz0⟩ := open_flat Tryd.underlying25 3 (by kernel_rfl) (hval 0 25 v0 rfl rfl) h0
  rw [show Tryd.prog.cellsOf 25 = 7 from by kernel_rfl] at hz0
  match zs0, hz0 with
  | [z0_0, z0_1, z0_2, z0_3, z0_4, z0_5, z0_6], _ =>
  exact FnExactPoolText_law _ _ _ _ _ _ _ _ (tab_row hL (by kernel_rfl) (.tail _ (.tail _ (.head _))))
set_option maxRecDepth 1000000 in
theorem door_met (os : Os) (args : Array Value) : laidMetH Tryd.prog Rows.fnExactPoolTextRow.laid ((World.doorLaid Tryd.prog 400 os).forCall (fun _ _ => 0) ⟨#[], args, []⟩).memory :=
  laidMetH_of_parts3 (fuel := 8) (laidMet_of_run' 8 (by kernel_rfl) (by kernel_rfl)) (by kernel_rfl) (by kernel_rfl)
set_option maxRecDepth 100000 in
theorem lifted (os : Os) (started : os.Started) (H : Type) (enc : TypeId × Value → H) :
    ReturnsInHanded {} Tryd.checked os 3 .any (fun w args => (Rows.fnExactPoolTextSpec.pre enc Tryd.prog Tryd.f3 [] false w args ∧ laidMetH Tryd.prog Rows.fnExactPoolTextRow.laid w) ∧ sizedMet enc Tryd.prog Tryd.f3 (OpenSpec.ofChange Rows.fnExactPoolTextSpec) false w args) (Rows.fnExactPoolTextSpec.post enc Tryd.prog Tryd.f3 false true false false) :=
  law_lift_laid own started (by kernel_rfl) Tryd.func3
    (ChangeSpec.witness_shaped (enc := enc) (C := Tryd.checked) (os := os) (X := fun w _ => laidMetH Tryd.prog Rows.fnExactPoolTextRow.laid w) false (World.doorLaid Tryd.prog 400 os) #[.agg #[.int .i64 0, .int .i64 0, .int .i64 0, .int .i64 0, .int .i64 0, .int .i64 0, .int .i64 0]] 8 rfl (World.shaped_of_RefB (by kernel_rfl) (by kernel_rfl)) (by kernel_rfl) (by kernel_rfl) (by kernel_rfl) (door_met os _))
    laidOut readable (show Tryd.f3.resultTypes = #[4] from rfl) Tryd.underlying4 rfl
    (fun ds hd => by
      rw [Tryd.params3] at hd
      match ds, hd with
      | [d0], _ => exact ⟨rfl, rfl, rfl⟩) walk
theorem over : Rows.fnExactPoolTextRow.holds Tryd.pinned (OpenSpec.ofChange Rows.fnExactPoolTextSpec) :=
  OpenClaim.holds_of_wide 3 Tryd.f3 rfl rfl rfl rfl rfl rfl rfl ⟨rfl, rfl, rfl, rfl, rfl⟩ rfl rfl rfl rfl rfl (by kernel_rfl) Tryd.func3 (by kernel_rfl)
    (of_decide_eq_true (by kernel_rfl)) (by unfold Func.isWrapper; first | (rw [if_pos (by decide +kernel)]; kernel_rfl) | (rw [if_neg (by decide +kernel)]; exact ⟨rfl, rfl⟩))
    (fun os started H enc _ => lifted os started H enc)
set_option maxRecDepth 100000 in
theorem proved : Rows.FnExactPoolTextCardSaid :=
  Claim7.holds_tied_plain_at .later [] [.data, .data, .data] true (true, "02ac16ebe41175f6a39267c6d312b126a0443f5c5811482f0332d1bfcbcee21d") false
    over (fun _ h => by cases h) (by kernel_rfl) (fun _ h => by cases h) fnExactPoolText_row_tie rfl ⟨rfl, rfl⟩ (by kernel_rfl) rfl
    (fun f fn hf hfn => by
      obtain rfl : f = 3 := Option.some.inj ((show Tryd.prog.funcNamed "loop.example/g01019/laws.FnExactPoolText" = some 3 by kernel_rfl).symm.trans hf) |>.symm
      obtain rfl : fn = Tryd.f3 := (Option.some.inj (Tryd.func3.symm.trans hfn)).symm
      exact ⟨by kernel_rfl, fun j t ht => by
        rw [Tryd.params3] at ht
        have hm : t ∈ [25] := by simpa using Array.mem_of_getElem? ht
        have hall : ([25].all fun u => !Tryd.prog.wantsStandIn u) = true := by kernel_rfl
        exact (show Tryd.prog.wantsStandIn t = false by simpa using List.all_eq_true.1 hall t hm)⟩)
    (by kernel_rfl)
end Go.Proofs.YtmfahekkcgnndaaDoor.fnExactPoolText
