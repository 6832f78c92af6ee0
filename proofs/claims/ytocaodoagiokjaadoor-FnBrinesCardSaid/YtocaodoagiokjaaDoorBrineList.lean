/- Contracts of the laws' own functions over brines and slices of them. -/
import Derived.Test.YtocaodoagiokjaaDoorPoolMore
import Derived.Test.YtocaodoagiokjaaDoorSlice
import Derived.Lib.Hide
set_option linter.unusedSimpArgs false
set_option linter.unusedVariables false
namespace Go.Proofs.YtocaodoagiokjaaDoor
open Go.RowKit Go.Sort Go.Salt
attribute [local go_sem] cell_rg
/-- A Brine. -/
structure Brn where
  a : Int
  s : Int
instance : Inhabited Brn := ⟨⟨0, 0⟩⟩
def Brn.enc (x : Brn) : List Value := [.int .i64 x.a, .int .i64 x.s]
theorem Brn.enc_len (x : Brn) : x.enc.length = 2 := rfl
theorem brn_cells {w : World} {B : Nat} {A : Option Addr} {xs : List Brn} (h : Rd w B A 2 Brn.enc xs) {i : Nat} (hi : i < xs.length) :
    ∃ b o, A = some ⟨b, o, none⟩ ∧ b < B ∧ w.cell? ⟨b, o + i * 2, none⟩ = some (.int .i64 (el xs i).a) ∧ w.cell? ⟨b, o + i * 2 + 1, none⟩ = some (.int .i64 (el xs i).s) := by
  obtain ⟨b, o, e, hb, hc⟩ := h (by omega)
  have h1 := hc i hi
  exact ⟨b, o, e, hb, h1 0 (by simp [Brn.enc]), h1 1 (by simp [Brn.enc])⟩
end Go.Proofs.YtocaodoagiokjaaDoor
