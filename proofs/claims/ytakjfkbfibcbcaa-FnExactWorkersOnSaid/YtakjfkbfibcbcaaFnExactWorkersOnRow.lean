/- 'FnExactWorkersOn': the law returns true whatever its arguments, and each argument reads afterwards as before. No conditions. -/
import Derived.Test.YtakjfkbfibcbcaaRows
import Derived.Test.YtakjfkbfibcbcaaOnLaw
import Derived.ShutString
namespace Go.Proofs.Ytakjfkbfibcbcaa.fnExactWorkersOn
open Go.ChangeShapes Go.WideShapes Go.ChangeAt Go.RowKit Go.Salt
open Go.ChangeMaps (open_string shut_string)
set_option linter.unusedVariables false
theorem own : ownKnob Try.prog.godebug = none := by kernel_rfl
theorem laidOut : laidOutB Try.prog = true := by kernel_rfl
theorem readable : ∀ t ∈ Try.f14.params.toList, Try.prog.readableRec t = true ∧ t < Try.prog.types.size := by
  rw [Try.params14]
  intro t ht
  simp only [List.mem_cons, List.not_mem_nil, or_false] at ht
  rcases ht with rfl | rfl <;> exact ⟨by kernel_rfl, of_decide_eq_true (by kernel_rfl)⟩
theorem walk {H : Type} {enc : TypeId × Value → H} (W : World) (args : Array Value) (ds : List (DataW H)) (p : List MemPlace) (hval : ∀ (j : Nat) t v, Try.f14.params[j]? = some t → args[j]? = some v → Value.okWide Try.prog W .any 0 t v)
    (hA : DataW.TrodAll enc Try.prog W 0 (fun _ => true) true Try.f14.params.toList args.toList ds p) : Calls Try.prog 14 args W fun e W' => e = .returned (.bool true) ∧ Below W.heap.size W W' := by
  rw [Try.params14] at hA hval
  obtain ⟨v0, vs0, d0, ds0, p0, q0, hargs, rfl, rfl, h0, r0⟩ := trodAll_cons hA
  obtain ⟨v1, vs1, d1, ds1, p1, q1, rfl, rfl, rfl, h1, r1⟩ := trodAll_cons r0
  obtain ⟨rfl, rfl, rfl⟩ := trodAll_nil r1
  obtain rfl : args = #[v0, v1] := by cases args; simp_all
  obtain ⟨a0, len0, cap0, rfl⟩ := okWide_slice Try.underlying34 (hval 0 34 v0 rfl rfl)
  obtain ⟨n0, hn0⟩ := h0
  obtain ⟨hm0, xs0, hl0, hr0⟩ := open_rows Try.underlying34 3 (by kernel_rfl) (show Try.prog.cellsOf 23 = 6 from by kernel_rfl) (by decide) Brk.enc (fun g => ⟨g 0, g 1, g 2, g 3, g 4, g 5⟩) (fun _ => rfl) hn0
  subst hl0
  obtain ⟨a1, rfl, rfl, rfl, w1⟩ := open_int Try.underlying3 (hval 1 3 v1 rfl rfl) h1
  have wi1 := wf64 w1
  exact FnExactWorkersOn_law _ _ _ _ _ hr0 (by unfold maxLen at hm0; omega)
set_option maxRecDepth 100000 in
theorem lifted (os : Os) (started : os.Started) (H : Type) (enc : TypeId × Value → H) :
    ReturnsInHanded {} Try.checked os 14 .any (Rows.fnExactWorkersOnSpec.pre6 enc Try.prog Try.f14 Rows.fnExactWorkersOnRow.domain false) (Rows.fnExactWorkersOnSpec.post enc Try.prog Try.f14 false true false false) :=
  law_lift own started (by kernel_rfl) Try.func14
    (ChangeSpec.witness6 (enc := enc) (C := Try.checked) false ⟨#[], #[.slice none 0 0, .int .i64 0], []⟩ 8 (by kernel_rfl) (by kernel_rfl) (by kernel_rfl) (by kernel_rfl))
    laidOut readable (show Try.f14.resultTypes = #[4] from rfl) Try.underlying4 rfl
    (fun ds hd => by
      rw [Try.params14] at hd
      match ds, hd with
      | [d0, d1], _ => exact ⟨rfl, rfl, rfl⟩) walk
theorem over : Rows.fnExactWorkersOnRow.holds Try.pinned (OpenSpec.ofChange Rows.fnExactWorkersOnSpec) :=
  OpenClaim.holds_of_wide 14 Try.f14 rfl rfl rfl rfl rfl rfl rfl ⟨rfl, rfl, rfl, rfl, rfl⟩ rfl rfl rfl rfl rfl (by kernel_rfl) Try.func14 (by kernel_rfl)
    (of_decide_eq_true (by kernel_rfl)) (by unfold Func.isWrapper; first | (rw [if_pos (by decide +kernel)]; kernel_rfl) | (rw [if_neg (by decide +kernel)]; exact ⟨rfl, rfl⟩))
    (fun os started H enc _ => lifted os started H enc)
theorem proved : Rows.FnExactWorkersOnSaid := over
end Go.Proofs.Ytakjfkbfibcbcaa.fnExactWorkersOn
