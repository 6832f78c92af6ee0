/- BookingS: mark and held over results. -/
import Derived.Test.YtkhldmicejdggaaBkList
import Derived.OwnWalk
set_option linter.unusedSimpArgs false
set_option linter.unusedVariables false
namespace Go.Proofs.Ytkhldmicejdggaa
open Go.RowKit Go.Sort Go.Salt
attribute [local go_sem] cell_rg
set_option maxHeartbeats 400000 in
theorem markBookingS_own (A : Option Addr) (c n : Nat) (cs : List Value) (base : Nat) (w : World) (h : OwnAt w base 45 cs n A) (hl : cs.length = n * 3) (hn : n ≤ 2097152) :
    Calls Try.prog 30 #[.slice A n c, .int .i64 1] w fun e w' => e = .returned (.int .i64 (mkz n 3)) ∧ OwnAt w' base 45 (nums 1 (n * 3)) n A ∧ w.grownBy w' (A.map Addr.block) ∧ Below base w w' := by
  rcases h with ⟨rfl, rfl, rfl⟩ | ⟨g, rfl, hb, hr⟩
  · refine (markBookingS_nil none c w).mono ?_
    rintro e w' ⟨rfl, rfl⟩
    exact ⟨by simp [mkz], .inl ⟨rfl, rfl, rfl⟩, World.grownBy.refl _ _, Below.refl _ _⟩
  · refine (markBookingS_row g c n cs w hr hl hn).mono ?_
    rintro e w' ⟨rfl, h1, h2⟩
    have hlt := hr.lt
    exact ⟨rfl, .inr ⟨g, rfl, hb, h1⟩, h2, grown_below h2 hb (by omega)⟩
set_option maxHeartbeats 400000 in
theorem heldBookingS_own (A : Option Addr) (c n base : Nat) (w : World) (h : OwnAt w base 45 (nums 1 (n * 3)) n A) (hn : n ≤ 2097152) :
    Calls Try.prog 31 #[.slice A n c, .int .i64 1] w fun e w' => e = .returned (.int .i64 (mkz n 3)) ∧ w = w' := by
  rcases h with ⟨rfl, rfl, _⟩ | ⟨g, rfl, hb, hr⟩
  · refine (heldBookingS_nil none c w).mono ?_
    rintro e w' ⟨rfl, rfl⟩
    exact ⟨by simp [mkz], rfl⟩
  · exact (heldBookingS_row g c n w hr hn)
end Go.Proofs.Ytkhldmicejdggaa
