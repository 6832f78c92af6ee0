/- 'FnExactRunPool': the law returns true whatever its arguments, and each argument reads afterwards as before. No conditions. -/
import Derived.Test.YtmfahekkcgnndaaRows
import Derived.Test.YtmfahekkcgnndaaRunLaw
import Derived.ShutString
namespace Go.Proofs.Ytmfahekkcgnndaa.fnExactRunPool
open Go.ChangeShapes Go.WideShapes Go.ChangeAt Go.RowKit Go.Salt
open Go.ChangeMaps (open_string shut_string)
set_option linter.unusedVariables false
theorem own : ownKnob Try.prog.godebug = none := by kernel_rfl
theorem laidOut : laidOutB Try.prog = true := by kernel_rfl
theorem readable : ∀ t ∈ Try.f10.params.toList, Try.prog.readableRec t = true ∧ t < Try.prog.types.size := by
  rw [Try.params10]
  intro t ht
  simp only [List.mem_cons, List.not_mem_nil, or_false] at ht
  rcases ht with rfl | rfl <;> exact ⟨by kernel_rfl, of_decide_eq_true (by kernel_rfl)⟩
theorem walk {H : Type} {enc : TypeId × Value → H} (W : World) (args : Array Value) (ds : List (DataW H)) (p : List MemPlace) (hval : ∀ (j : Nat) t v, Try.f10.params[j]? = some t → args[j]? = some v → Value.okWide Try.prog W .any 0 t v)
    (hA : DataW.TrodAll enc Try.prog W 0 (fun _ => true) true Try.f10.params.toList args.toList ds p) : Calls Try.prog 10 args W fun e W' => e = .returned (.bool true) ∧ Below W.heap.size W W' := by
  rw [Try.params10] at hA hval
  obtain ⟨v0, vs0, d0, ds0, p0, q0, hargs, rfl, rfl, h0, r0⟩ := trodAll_cons hA
  obtain ⟨v1, vs1, d1, ds1, p1, q1, rfl, rfl, rfl, h1, r1⟩ := trodAll_cons r0
  obtain ⟨rfl, rfl, rfl⟩ := trodAll_nil r1
  obtain rfl : args = #[v0, v1] := by cases args; simp_all
  obtain ⟨zs0, rfl, hz0, wz0⟩ := open_flat Try.underlying25 3 (by kernel_rfl) (hval 0 25 v0 rfl rfl) h0
  rw [show Try.prog.cellsOf 25 = 7 from by kernel_rfl] at hz0
  match zs0, hz0 with
  | [z0_0, z0_1, z0_2, z0_3, z0_4, z0_5, z0_6], _ =>
  obtain ⟨a1, len1, cap1, rfl⟩ := okWide_slice Try.underlying55 (hval 1 55 v1 rfl rfl)
  obtain ⟨n1, hn1⟩ := h1
  obtain ⟨hm1, xs1, hl1, hr1⟩ := open_rows Try.underlying55 3 (by kernel_rfl) (show Try.prog.cellsOf 48 = 3 from by kernel_rfl) (by decide) PSt.enc (fun g => ⟨g 0, g 1, g 2⟩) (fun _ => rfl) hn1
  subst hl1
  have hv : ∀ k, k < xs1.length → (el xs1 k).v ≤ 9223372036854775807 := fun k hk => by
    obtain ⟨z, h1, h2⟩ := rows_wf Try.underlying55 3 (by kernel_rfl) (show Try.prog.cellsOf 48 = 3 from by kernel_rfl) hn1 rfl hr1 (fun _ => rfl) k hk 1 (by decide)
    have h3 : (el xs1 k).v = z := by simpa [PSt.enc] using h1
    rw [h3]; exact h2.2
  exact FnExactRunPool_law _ _ _ _ _ _ _ _ _ _ _ hr1 (by unfold maxLen at hm1; omega) (Lib.hid hv)
set_option maxRecDepth 100000 in
theorem lifted (os : Os) (started : os.Started) (H : Type) (enc : TypeId × Value → H) :
    ReturnsInHanded {} Try.checked os 10 .any (Rows.fnExactRunPoolSpec.pre6 enc Try.prog Try.f10 Rows.fnExactRunPoolRow.domain false) (Rows.fnExactRunPoolSpec.post enc Try.prog Try.f10 false true false false) :=
  law_lift own started (by kernel_rfl) Try.func10
    (ChangeSpec.witness6 (enc := enc) (C := Try.checked) false ⟨#[], #[.agg #[.int .i64 0, .int .i64 0, .int .i64 0, .int .i64 0, .int .i64 0, .int .i64 0, .int .i64 0], .slice none 0 0], []⟩ 8 (by kernel_rfl) (by kernel_rfl) (by kernel_rfl) (by kernel_rfl))
    laidOut readable (show Try.f10.resultTypes = #[4] from rfl) Try.underlying4 rfl
    (fun ds hd => by
      rw [Try.params10] at hd
      match ds, hd with
      | [d0, d1], _ => exact ⟨rfl, rfl, rfl⟩) walk
theorem over : Rows.fnExactRunPoolRow.holds Try.pinned (OpenSpec.ofChange Rows.fnExactRunPoolSpec) :=
  OpenClaim.holds_of_wide 10 Try.f10 rfl rfl rfl rfl rfl rfl rfl ⟨rfl, rfl, rfl, rfl, rfl⟩ rfl rfl rfl rfl rfl (by kernel_rfl) Try.func10 (by kernel_rfl)
    (of_decide_eq_true (by kernel_rfl)) (by unfold Func.isWrapper; first | (rw [if_pos (by decide +kernel)]; kernel_rfl) | (rw [if_neg (by decide +kernel)]; exact ⟨rfl, rfl⟩))
    (fun os started H enc _ => lifted os started H enc)
theorem proved : Rows.FnExactRunPoolSaid := over
end Go.Proofs.Ytmfahekkcgnndaa.fnExactRunPool
