/- 'FnExactPutBooking': the law returns true whatever its arguments, and each argument reads afterwards as before. No conditions. -/
import Derived.Test.YtkhldmicejdggaaRows
import Derived.Test.YtkhldmicejdggaaPutLaw
import Derived.ShutString
namespace Go.Proofs.Ytkhldmicejdggaa.fnExactPutBooking
open Go.ChangeShapes Go.WideShapes Go.ChangeAt Go.RowKit Go.Salt
open Go.ChangeMaps (open_string shut_string)
set_option linter.unusedVariables false
theorem own : ownKnob Try.prog.godebug = none := by kernel_rfl
theorem laidOut : laidOutB Try.prog = true := by kernel_rfl
theorem readable : ∀ t ∈ Try.f10.params.toList, Try.prog.readableRec t = true ∧ t < Try.prog.types.size := by
  rw [Try.params10]
  intro t ht
  simp only [List.mem_cons, List.not_mem_nil, or_false] at ht
  rcases ht with rfl | rfl <;> exact ⟨by kernel_rfl, of_decide_eq_true (by kernel_rfl)⟩
theorem walk {H : Type} {enc : TypeId × Value → H} (W : World) (args : Array Value) (ds : List (DataW H)) (p : List MemPlace) (hval : ∀ (j : Nat) t v, Try.f10.params[j]? = some t → args[j]? = some v → Value.okWide Try.prog W .any 0 t v)
    (hA : DataW.TrodAll enc Try.prog W 0 (fun _ => true) true Try.f10.params.toList args.toList ds p) : Calls Try.prog 10 args W fun e W' => e = .returned (.bool true) ∧ Below W.heap.size W W' := by
  rw [Try.params10] at hA hval
  obtain ⟨v0, vs0, d0, ds0, p0, q0, hargs, rfl, rfl, h0, r0⟩ := trodAll_cons hA
  obtain ⟨v1, vs1, d1, ds1, p1, q1, rfl, rfl, rfl, h1, r1⟩ := trodAll_cons r0
  obtain ⟨rfl, rfl, rfl⟩ := trodAll_nil r1
  obtain rfl : args = #[v0, v1] := by cases args; simp_all
  obtain ⟨a0, len0, cap0, rfl⟩ := okWide_slice Try.underlying22 (hval 0 22 v0 rfl rfl)
  obtain ⟨n0, hn0⟩ := h0
  obtain ⟨hm0, xs0, hl0, hr0⟩ := open_rows Try.underlying22 3 (by kernel_rfl) (show Try.prog.cellsOf 43 = 3 from by kernel_rfl) (by decide) Bk.enc (fun g => ⟨g 0, g 1, g 2⟩) (fun _ => rfl) hn0
  subst hl0
  obtain ⟨zs1, rfl, hz1, wz1⟩ := open_flat Try.underlying43 3 (by kernel_rfl) (hval 1 43 v1 rfl rfl) h1
  rw [show Try.prog.cellsOf 43 = 3 from by kernel_rfl] at hz1
  match zs1, hz1 with
  | [z1_0, z1_1, z1_2], _ =>
  exact FnExactPutBooking_law _ _ _ _ _ _ _ hr0 (by unfold maxLen at hm0; omega)
set_option maxRecDepth 100000 in
theorem lifted (os : Os) (started : os.Started) (H : Type) (enc : TypeId × Value → H) :
    ReturnsInHanded {} Try.checked os 10 .any (Rows.fnExactPutBookingSpec.pre6 enc Try.prog Try.f10 Rows.fnExactPutBookingRow.domain false) (Rows.fnExactPutBookingSpec.post enc Try.prog Try.f10 false true false false) :=
  law_lift own started (by kernel_rfl) Try.func10
    (ChangeSpec.witness6 (enc := enc) (C := Try.checked) false ⟨#[], #[.slice none 0 0, .agg #[.int .i64 0, .int .i64 0, .int .i64 0]], []⟩ 8 (by kernel_rfl) (by kernel_rfl) (by kernel_rfl) (by kernel_rfl))
    laidOut readable (show Try.f10.resultTypes = #[4] from rfl) Try.underlying4 rfl
    (fun ds hd => by
      rw [Try.params10] at hd
      match ds, hd with
      | [d0, d1], _ => exact ⟨rfl, rfl, rfl⟩) walk
theorem over : Rows.fnExactPutBookingRow.holds Try.pinned (OpenSpec.ofChange Rows.fnExactPutBookingSpec) :=
  OpenClaim.holds_of_wide 10 Try.f10 rfl rfl rfl rfl rfl rfl rfl ⟨rfl, rfl, rfl, rfl, rfl⟩ rfl rfl rfl rfl rfl (by kernel_rfl) Try.func10 (by kernel_rfl)
    (of_decide_eq_true (by kernel_rfl)) (by unfold Func.isWrapper; first | (rw [if_pos (by decide +kernel)]; kernel_rfl) | (rw [if_neg (by decide +kernel)]; exact ⟨rfl, rfl⟩))
    (fun os started H enc _ => lifted os started H enc)
theorem proved : Rows.FnExactPutBookingSaid := over
end Go.Proofs.Ytkhldmicejdggaa.fnExactPutBooking
