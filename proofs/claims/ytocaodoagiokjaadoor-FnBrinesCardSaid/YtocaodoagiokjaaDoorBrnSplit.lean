/- A text split at its blanks (chapter 1). -/
import Derived.Test.YtocaodoagiokjaaDoorBrnParse
import Derived.OwnWalk
set_option linter.unusedSimpArgs false
set_option linter.unusedVariables false
namespace Go.Proofs.YtocaodoagiokjaaDoor
open Go.RowKit Go.Sort Go.Salt
attribute [local go_sem] cell_rg
def se (s : ByteArray) : List Value := [.string s]
theorem se_len (s : ByteArray) : (se s).length = 1 := rfl
theorem str_cell {w : World} {B : Nat} {A : Option Addr} {xs : List ByteArray} (h : Rd w B A 1 se xs) {i : Nat} (hi : i < xs.length) :
    ∃ b o, A = some ⟨b, o, none⟩ ∧ b < B ∧ w.cell? ⟨b, o + i, none⟩ = some (.string (el xs i)) := by
  obtain ⟨b, o, e, hb, hc⟩ := h (by omega)
  have h1 := hc i hi
  exact ⟨b, o, e, hb, by simpa [se] using h1 0 (by simp [se])⟩
theorem str_info : (Tryd.prog.info? 9).map (fun i => (i.zero, i.size, i.bytes)) = some (some (.string ByteArray.empty), 1, 16) := by kernel_rfl
theorem u8_32 {b : UInt8} : ((b.toNat : Int) = 32) ↔ b = 32 := by
  constructor
  · intro h
    have : b.toNat = 32 := by omega
    exact UInt8.toNat_inj.1 (by rw [this]; rfl)
  · rintro rfl; rfl
set_option maxHeartbeats 8000000 in
theorem l1Split_any (s : ByteArray) (w : World) (hs : s.size ≤ 1000) :
    Calls Tryd.prog 33 #[.string s, .int .u8 32] w fun e w' => MadeAt w 9 ((spL s).flatMap se) (spL s).length (fun v => .returned v) e w' := by
  obtain ⟨i0, hi, hz0, hz1, hz2⟩ := info_parts str_info
  have hinfo := Lib.hid (And.intro hi (And.intro hz0 (And.intro hz1 hz2)))
  clear hi hz0 hz1 hz2
  go_enter Tryd.func33, Tryd.ntmps33
  go_wp2_with fail
  have hown0 := Lib.hid (own_empty (W := w.alloc (.cells #[] 9)) (base := w.heap.size) (E := 9) 1 (Nat.le_refl _) (heap_alloc_new w _))
  have hb0 : Below w.heap.size w (w.alloc (.cells #[] 9)) := (by repeat' (first | (with_reducible exact Below.refl _ _) | (with_reducible refine Below.alloc ?_ ?_ _) | (with_reducible refine Below.setCell ?_ ?_ _) | (with_reducible refine Below.drew ?_) | (with_reducible refine Below.trans ?_ (Below.mono (by with_reducible assumption) ?_)) | omega | (simp; done) | (simp; omega)))
  generalize w.alloc (.cells #[] 9) = W1 at *
  go_loopw [5, 6, 7] (fun v f i wr => ∃ k : Nat, k ≤ s.size ∧ i = .int .i64 k ∧ f = .int .i64 (spF s k) ∧ Hid (wr.ownsRow w.heap.size 9 1 v (spO s k).length ((spO s k).flatMap se)) ∧ Below w.heap.size w wr) (fun _ _ i _ => s.size - (intOf i).toNat)
  case atStart => exact ⟨0, Nat.zero_le _, rfl, rfl, hown0, hb0⟩
  case round =>
    clear hown0 hb0
    obtain ⟨k, hk, rfl, rfl, hown, hb⟩ := hrel
    have hsr := hb.size
    have hfl := spF_le s k
    have hol := spO_len s k
    by_cases hlt : k < s.size
    · have hI : (k : Int) < s.size := by omega
      have hI0 : (0 : Int) ≤ k := by omega
      by_cases h32 : s[k] = 32
      · have hI32 : (s[k].toNat : Int) = 32 := u8_32.2 h32
        obtain ⟨e1, e2⟩ := spF_yes hlt h32
        obtain ⟨f, hf⟩ : ∃ f, spF s k = f := ⟨_, rfl⟩
        obtain ⟨os, hos⟩ : ∃ os, spO s k = os := ⟨_, rfl⟩
        rw [hf, hos] at e2
        rw [hf] at hfl ⊢
        rw [hos] at hol hown
        have E1 := Lib.hid e1
        have E2 := Lib.hid e2
        clear e1 e2 hf hos h32
        have f0 : (0 : Int) ≤ (f : Int) := by omega
        have f1 : (f : Int) ≤ k := by omega
        have f2 : (k : Int) ≤ s.size := by omega
        go_wp2_with (at_builtin; refine wpList_append_own_at _ rfl _ _ 57 rfl w.heap.size 9 _ _ 1 16 Tryd.underlying57 hinfo.out.1 hinfo.out.2.1 hinfo.out.2.2.1 hinfo.out.2.2.2 rfl (by decide) _ _ _ rfl (own_to hown.out (by repeat' (first | (with_reducible exact Below.refl _ _) | (with_reducible refine Below.alloc ?_ ?_ _) | (with_reducible refine Below.setCell ?_ ?_ _) | (with_reducible refine Below.drew ?_) | (with_reducible refine Below.trans ?_ (Below.mono (by with_reducible assumption) ?_)) | omega | (simp; done) | (simp; omega)))) _ 1 1 [.string (s.extract f k)] rfl rfl (news_top (cs := #[.string (s.extract f k)]) (t := 9) (by simp)) (by simp [Value.oneCell']) (by unfold maxLen; omega) (by omega) (by simp; omega) ?_)
        intro v9 w9 hown9 hgrow9 hnil9 hat9
        have hb9 : Below w.heap.size w w9 := own_grew hown.out (by repeat' (first | (with_reducible exact Below.refl _ _) | (with_reducible refine Below.alloc ?_ ?_ _) | (with_reducible refine Below.setCell ?_ ?_ _) | (with_reducible refine Below.drew ?_) | (with_reducible refine Below.trans ?_ (Below.mono (by with_reducible assumption) ?_)) | omega | (simp; done) | (simp; omega))) (by first | omega | (simp; done) | (simp; omega)) hgrow9
        have e9 : os.flatMap se ++ [.string (s.extract f k)] = (spO s (k + 1)).flatMap se := by rw [E2.out, List.flatMap_append]; rfl
        have l9 : os.length + 1 = (spO s (k + 1)).length := by rw [E2.out]; simp
        rw [e9, l9] at hown9
        have HO9 := Lib.hid hown9
        clear hown9 hgrow9 hnil9 hat9 e9 l9
        go_wp2_with fail
        go_roundw
        case rel => exact ⟨k + 1, by omega, by go_num, by rw [E1.out]; go_num, HO9, hb9⟩
        case measure => simp [intOf] <;> omega
      · have hI32 : ¬ (s[k].toNat : Int) = 32 := fun h => h32 (u8_32.1 h)
        obtain ⟨e1, e2⟩ := spF_no hlt h32
        have E1 := Lib.hid e1
        have E2 := Lib.hid e2
        clear e1 e2 h32
        go_wp2
        go_roundw
        case rel => exact ⟨k + 1, by omega, by go_num, by rw [E1.out], by rw [E2.out]; exact hown, hb⟩
        case measure => simp [intOf] <;> omega
    · obtain rfl : k = s.size := by omega
      have hI : ¬ ((s.size : Nat) : Int) < s.size := by omega
      have E : Hid (spL s = spO s s.size ++ [s.extract (spF s s.size) s.size]) := Lib.hid rfl
      obtain ⟨f, hf⟩ : ∃ f, spF s s.size = f := ⟨_, rfl⟩
      obtain ⟨os, hos⟩ : ∃ os, spO s s.size = os := ⟨_, rfl⟩
      rw [hf, hos] at E
      rw [hf] at hfl ⊢
      rw [hos] at hol hown
      clear hf hos
      have f0 : (0 : Int) ≤ (f : Int) := by omega
      have f1 : (f : Int) ≤ s.size := by omega
      go_wp2_with (at_builtin; refine wpList_append_own_at _ rfl _ _ 57 rfl w.heap.size 9 _ _ 1 16 Tryd.underlying57 hinfo.out.1 hinfo.out.2.1 hinfo.out.2.2.1 hinfo.out.2.2.2 rfl (by decide) _ _ _ rfl (own_to hown.out (by repeat' (first | (with_reducible exact Below.refl _ _) | (with_reducible refine Below.alloc ?_ ?_ _) | (with_reducible refine Below.setCell ?_ ?_ _) | (with_reducible refine Below.drew ?_) | (with_reducible refine Below.trans ?_ (Below.mono (by with_reducible assumption) ?_)) | omega | (simp; done) | (simp; omega)))) _ 1 1 [.string (s.extract f s.size)] rfl rfl (news_top (cs := #[.string (s.extract f s.size)]) (t := 9) (by simp)) (by simp [Value.oneCell']) (by unfold maxLen; omega) (by omega) (by simp; omega) ?_)
      intro v9 w9 hown9 hgrow9 hnil9 hat9
      have hb9 : Below w.heap.size w w9 := own_grew hown.out (by repeat' (first | (with_reducible exact Below.refl _ _) | (with_reducible refine Below.alloc ?_ ?_ _) | (with_reducible refine Below.setCell ?_ ?_ _) | (with_reducible refine Below.drew ?_) | (with_reducible refine Below.trans ?_ (Below.mono (by with_reducible assumption) ?_)) | omega | (simp; done) | (simp; omega))) (by first | omega | (simp; done) | (simp; omega)) hgrow9
      have e9 : os.flatMap se ++ [.string (s.extract f s.size)] = (spL s).flatMap se := by rw [E.out, List.flatMap_append]; rfl
      have l9 : os.length + 1 = (spL s).length := by rw [E.out]; simp
      rw [e9, l9] at hown9
      have HO9 := Lib.hid hown9
      clear hown9 hgrow9 hnil9 hat9 e9 l9
      go_wp2_with fail
      go_ret
      exact MadeAt.of_own _ HO9.out hb9
end Go.Proofs.YtocaodoagiokjaaDoor
