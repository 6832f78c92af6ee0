/- Contracts: slices.Insert at bookings, all roads; PutBooking (chapter 20). -/
import Derived.Test.YtkhldmicejdggaaInsGrow
import Derived.Test.YtkhldmicejdggaaStkLaw
import Derived.Test.YtkhldmicejdggaaDropLaw
set_option linter.unusedSimpArgs false
set_option linter.unusedVariables false
namespace Go.Proofs.Ytkhldmicejdggaa
open Go.RowKit Go.Sort Go.Salt
attribute [local go_sem] cell_rg
theorem below_of_grown {base : Nat} {w w' : World} {row : Option Nat} (h : w.grownBy w' row) (hb : base ≤ w.heap.size) (hr : ∀ g, row = some g → base ≤ g) : Below base w w' :=
  ⟨h.os, h.tape, h.output, h.size, fun k hk => h.block k (by omega) (fun e => by have := hr k e.symm; omega)⟩
/-- A whole block: no cell behind these. -/
def Blk (w : World) (g : Nat) (E : TypeId) (arr : Array Value) : Prop := w.heap[g]? = some (.cells arr E (0, 0))
theorem Blk.lt {w : World} {g : Nat} {E : TypeId} {arr : Array Value} (h : Blk w g E arr) : g < w.heap.size := by
  rcases Nat.lt_or_ge g w.heap.size with h1 | h1
  · exact h1
  · unfold Blk at h; rw [Array.getElem?_eq_none h1] at h; cases h
theorem Blk.to {w w' : World} {g : Nat} {E : TypeId} {arr : Array Value} (h : Blk w g E arr) (hb : Below w.heap.size w w') : Blk w' g E arr := (hb.block g h.lt).trans h
theorem Blk.row {w : World} {g : Nat} {E : TypeId} {arr : Array Value} (h : Blk w g E arr) : Row w g E arr.toList := ⟨arr, h, List.take_of_length_le (by simp)⟩
theorem insertBk_any (base vb i : Nat) (v : Value) (xs : List Bk) (x : Bk) (w : World) (h : w.ownsRow base 45 3 v xs.length (xs.flatMap Bk.enc)) (hb : base ≤ w.heap.size) (hv0 : Blk w vb 45 x.enc.toArray) (hx : xs.length ≤ 1048576) (hi : i ≤ xs.length) :
    Calls Try.prog 66 #[v, .int .i64 i, .slice (some ⟨vb, 0, none⟩) 1 1] w fun e w' => ∃ g c, e = .returned (.slice (some ⟨g, 0, none⟩) (xs.length + 1) c) ∧ base ≤ g ∧ Row w' g 45 ((putL xs i x).flatMap Bk.enc) ∧ Below base w w' := by
  have hv : Row w vb 45 x.enc := hv0.row
  by_cases hin : i = xs.length
  · subst hin
    have hg0 : ∀ g, v.ownBlock = some g → base ≤ g := fun g hg => by
      rcases h.2 with ⟨rfl, _⟩ | ⟨g', cap, cur, rfl, hg', _⟩
      · cases hg
      · cases hg; exact hg'
    refine (insertBk_end base vb v xs x w h hb hv hx).mono ?_
    rintro e w' ⟨v', rfl, ho, hg⟩
    have hbel := below_of_grown hg hb hg0
    rcases ho.2 with ⟨_, h0⟩ | ⟨g, cap, cur, rfl, hgb, hh, _, _, _, hct⟩
    · omega
    · exact ⟨g, cap, rfl, hgb, heap_row hh (by rw [flat_len Bk.enc_len, putL_len (Nat.le_refl _)]; exact hct), hbel⟩
  · rcases h.2 with ⟨rfl, h0⟩ | ⟨g, cap, cur, rfl, hgb, hh, hnc, _, hsz, hct⟩
    · omega
    · by_cases hc : cap = xs.length
      · subst hc
        refine (insertBk_grow base g vb i xs x w h hv hx (by omega)).mono ?_
        rintro e w' ⟨c, rfl, hr, hbel⟩
        exact ⟨_, c, rfl, hb, hr, hbel.mono hb⟩
      · refine (insertBk_room base g cap vb i xs x w h hv (fun e => by subst e; unfold Blk at hv0; rw [hh] at hv0; cases hv0; have : x.enc.toArray.size = 3 := rfl; omega) hx (by omega) (by omega)).mono ?_
        rintro e w' ⟨rfl, hr, hg⟩
        exact ⟨g, cap, rfl, hgb, hr, below_of_grown hg hb (fun g' e => by cases e; exact hgb)⟩
end Go.Proofs.Ytkhldmicejdggaa
