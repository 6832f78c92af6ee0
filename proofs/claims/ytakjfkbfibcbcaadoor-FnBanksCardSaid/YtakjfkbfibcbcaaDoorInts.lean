/- Contracts over lists of ints: eq, mark, held. -/
import Derived.Test.YtakjfkbfibcbcaaDoorWork
import Derived.OwnWalk
set_option linter.unusedSimpArgs false
set_option linter.unusedVariables false
namespace Go.Proofs.YtakjfkbfibcbcaaDoor
open Go.RowKit Go.Sort Go.Salt
attribute [local go_sem] cell_rg
def ie (z : Int) : List Value := [.int .i64 z]
theorem ie_len (z : Int) : (ie z).length = 1 := rfl
theorem ie_snoc (l : List Int) (z : Int) : (l ++ [z]).flatMap ie = l.flatMap ie ++ [.int .i64 z] := by simp [ie]
theorem int_cell {w : World} {B : Nat} {A : Option Addr} {xs : List Int} (h : Rd w B A 1 ie xs) {i : Nat} (hi : i < xs.length) :
    ∃ b o, A = some ⟨b, o, none⟩ ∧ b < B ∧ w.cell? ⟨b, o + i, none⟩ = some (.int .i64 (el xs i)) := by
  obtain ⟨b, o, e, hb, hc⟩ := h (by omega)
  have h1 := hc i hi
  exact ⟨b, o, e, hb, by simpa [ie] using h1 0 (by simp [ie])⟩
theorem row_setn (n : Nat) (hn : n ≤ 2097152) : (n * 1 : Nat) = n := by omega
end Go.Proofs.YtakjfkbfibcbcaaDoor
