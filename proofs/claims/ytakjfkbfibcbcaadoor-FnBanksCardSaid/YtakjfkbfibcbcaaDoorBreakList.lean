/- Contracts of the laws' own functions over breaks and slices of them. -/
import Derived.Test.YtakjfkbfibcbcaaDoorLeaf
import Derived.Test.YtakjfkbfibcbcaaDoorSlice
import Derived.Lib.Hide
set_option linter.unusedSimpArgs false
set_option linter.unusedVariables false
namespace Go.Proofs.YtakjfkbfibcbcaaDoor
open Go.RowKit Go.Sort Go.Salt
attribute [local go_sem] cell_rg
/-- A Break. -/
structure Brk where
  i : Int
  p : Int
  m : Int
  g : Int
  t : Int
  d : Int
instance : Inhabited Brk := ⟨⟨0, 0, 0, 0, 0, 0⟩⟩
def Brk.enc (x : Brk) : List Value := [.int .i64 x.i, .int .i64 x.p, .int .i64 x.m, .int .i64 x.g, .int .i64 x.t, .int .i64 x.d]
theorem Brk.enc_len (x : Brk) : x.enc.length = 6 := rfl
theorem brk_cells {w : World} {B : Nat} {A : Option Addr} {xs : List Brk} (h : Rd w B A 6 Brk.enc xs) {i : Nat} (hi : i < xs.length) :
    ∃ b o, A = some ⟨b, o, none⟩ ∧ b < B ∧ w.cell? ⟨b, o + i * 6, none⟩ = some (.int .i64 (el xs i).i) ∧ w.cell? ⟨b, o + i * 6 + 1, none⟩ = some (.int .i64 (el xs i).p) ∧ w.cell? ⟨b, o + i * 6 + 2, none⟩ = some (.int .i64 (el xs i).m) ∧ w.cell? ⟨b, o + i * 6 + 3, none⟩ = some (.int .i64 (el xs i).g) ∧ w.cell? ⟨b, o + i * 6 + 4, none⟩ = some (.int .i64 (el xs i).t) ∧ w.cell? ⟨b, o + i * 6 + 5, none⟩ = some (.int .i64 (el xs i).d) := by
  obtain ⟨b, o, e, hb, hc⟩ := h (by omega)
  have h1 := hc i hi
  exact ⟨b, o, e, hb, h1 0 (by simp [Brk.enc]), h1 1 (by simp [Brk.enc]), h1 2 (by simp [Brk.enc]), h1 3 (by simp [Brk.enc]), h1 4 (by simp [Brk.enc]), h1 5 (by simp [Brk.enc])⟩
set_option maxHeartbeats 1000000 in
theorem toBreak_any (i p m g t d : Int) (w : World) :
    Calls Tryd.prog 6 #[.agg #[.int .i64 i, .int .i64 p, .int .i64 m, .int .i64 g, .int .i64 t, .int .i64 d]] w fun e w' => e = .returned (.agg #[.int .i64 i, .int .i64 p, .int .i64 m, .int .i64 g, .int .i64 t, .int .i64 d]) ∧ Below w.heap.size w w' := by
  go_enter Tryd.func6, Tryd.ntmps6
  go_wp2
  go_returns
  exact ⟨rfl, (by repeat' (first | (with_reducible exact Below.refl _ _) | (with_reducible refine Below.alloc ?_ ?_ _) | (with_reducible refine Below.setCell ?_ ?_ _) | (with_reducible refine Below.drew ?_) | (with_reducible refine Below.trans ?_ (Below.mono (by with_reducible assumption) ?_)) | omega | (simp; done) | (simp; omega)))⟩
theorem brk_info : (Tryd.prog.info? 26).map (fun i => (i.zero, i.size, i.bytes)) = some (some (.agg #[.int .i64 0, .int .i64 0, .int .i64 0, .int .i64 0, .int .i64 0, .int .i64 0]), 6, 48) := by kernel_rfl
end Go.Proofs.YtakjfkbfibcbcaaDoor
