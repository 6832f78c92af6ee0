/- The draws of the laws over owners (chapter 22). -/
import Derived.Test.YtimdnihadhbjpaaDoorOwners
set_option linter.unusedSimpArgs false
set_option linter.unusedVariables false
namespace Go.Proofs.YtimdnihadhbjpaaDoor
open Go.RowKit Go.Sort Go.Salt
attribute [local go_sem] cell_rg
def StrV : Value → Prop := fun v => ∃ s : ByteArray, v = .string s ∧ s.size ≤ 100
theorem of4_sz {j : Nat} (hj : j < 4) : (el [(⟨#[122, 111, 101]⟩ : ByteArray), ⟨#[]⟩, ⟨#[97, 110, 110, 97]⟩, ⟨#[113]⟩] j).size ≤ 100 := by
  have : ∀ j : Fin 4, (el [(⟨#[122, 111, 101]⟩ : ByteArray), ⟨#[]⟩, ⟨#[97, 110, 110, 97]⟩, ⟨#[113]⟩] j.val).size ≤ 100 := by decide
  exact this ⟨j, hj⟩
set_option maxRecDepth 100000 in
set_option maxHeartbeats 8000000 in
theorem owner_any (A' : Option Addr) (c' B : Nat) (xs : List Ow) (p : Nat) (A : Option Addr) (n c K : Nat) (w : World) (h : Cur w p A n c K) (hn : n ≤ 65536) (hK : K ≤ 999999900) (ho : OwnAt w B 54 (xs.flatMap Ow.enc) xs.length A') (hp : p < B) (hz : OwSz 100 xs) (hl : xs.length ≤ 10) :
    Calls Tryd.prog 89 #[.pointer (some ⟨p, 0, none⟩), .slice A' xs.length c'] w fun e w' => Drawn StrV w p A n c (K + 4) e w' := by
  have HC := Lib.hid h
  have HO := Lib.hid ho
  have HZ := Lib.hid hz
  have hpl := h.lt
  clear h ho hz
  by_cases h0 : xs.length = 0
  · have h0i : (xs.length : Int) = 0 := by omega
    go_enter Tryd.func89, Tryd.ntmps89
    go_wp2_with fail
    refine (of_any [(⟨#[122, 111, 101]⟩ : ByteArray), ⟨#[]⟩, ⟨#[97, 110, 110, 97]⟩, ⟨#[113]⟩] _ 4 p A n c K _ (HC.out.to (by repeat' (first | (with_reducible exact Below.refl _ _) | (with_reducible refine Below.alloc ?_ ?_ _) | (with_reducible refine Below.setCell ?_ ?_ _) | (with_reducible refine Below.drew ?_) | (with_reducible refine Below.trans ?_ (Below.mono (by with_reducible assumption) ?_)) | omega | (simp; done) | (simp; omega)))) hn (by omega) (strs_new _ _ rfl (by omega)) (by decide) (by decide)).mono ?_
    rintro e w1 ⟨_, rfl, ⟨j, hj, rfl⟩, hC1, hG1⟩
    have hj4 := of4_sz hj
    obtain ⟨s1, hs1⟩ : ∃ s, el [(⟨#[122, 111, 101]⟩ : ByteArray), ⟨#[]⟩, ⟨#[97, 110, 110, 97]⟩, ⟨#[113]⟩] j = s := ⟨_, rfl⟩
    rw [hs1] at hj4 ⊢
    replace hC1 := Lib.hid hC1
    clear hs1
    go_wp2
    go_ret
    exact ⟨_, rfl, ⟨s1, rfl, hj4⟩, hC1.out.le (by omega), only_trans (only_of_below (by repeat' (first | (with_reducible exact Below.refl _ _) | (with_reducible refine Below.alloc ?_ ?_ _) | (with_reducible refine Below.setCell ?_ ?_ _) | (with_reducible refine Below.drew ?_) | (with_reducible refine Below.trans ?_ (Below.mono (by with_reducible assumption) ?_)) | omega | (simp; done) | (simp; omega))) _) hG1⟩
  · have h0i : ¬ (xs.length : Int) = 0 := by omega
    go_enter Tryd.func89, Tryd.ntmps89
    go_wp2_with fail
    refine (one_any 6 p A n c K _ (HC.out.to (by repeat' (first | (with_reducible exact Below.refl _ _) | (with_reducible refine Below.alloc ?_ ?_ _) | (with_reducible refine Below.setCell ?_ ?_ _) | (with_reducible refine Below.drew ?_) | (with_reducible refine Below.trans ?_ (Below.mono (by with_reducible assumption) ?_)) | omega | (simp; done) | (simp; omega)))) hn (by omega) (by omega) (by omega)).mono ?_
    rintro e w1 ⟨_, rfl, ⟨bb, rfl⟩, hC1, hG1⟩
    have hG1' := only_trans (only_of_below (show Below w.heap.size w _ from (by repeat' (first | (with_reducible exact Below.refl _ _) | (with_reducible refine Below.alloc ?_ ?_ _) | (with_reducible refine Below.setCell ?_ ?_ _) | (with_reducible refine Below.drew ?_) | (with_reducible refine Below.trans ?_ (Below.mono (by with_reducible assumption) ?_)) | omega | (simp; done) | (simp; omega)))) (some p)) hG1
    have hs1 := hG1'.size
    replace hC1 := Lib.hid hC1
    cases bb
    · go_wp2_with fail
      refine (pick_any (xs.length : Int) p A n c (K + 2) _ (hC1.out.to (by repeat' (first | (with_reducible exact Below.refl _ _) | (with_reducible refine Below.alloc ?_ ?_ _) | (with_reducible refine Below.setCell ?_ ?_ _) | (with_reducible refine Below.drew ?_) | (with_reducible refine Below.trans ?_ (Below.mono (by with_reducible assumption) ?_)) | omega | (simp; done) | (simp; omega)))) hn (by omega) (by omega) (by omega)).mono ?_
      rintro e w2 ⟨_, rfl, ⟨kI, rfl, k0, kk1⟩, hC2, hG2⟩
      obtain ⟨k, rfl⟩ : ∃ k : Nat, kI = k := ⟨kI.toNat, by omega⟩
      have hk : k < xs.length := by omega
      have hkI : (k : Int) < xs.length := by omega
      have hG2' := only_trans hG1' (only_trans (only_of_below (show Below w1.heap.size w1 _ from (by repeat' (first | (with_reducible exact Below.refl _ _) | (with_reducible refine Below.alloc ?_ ?_ _) | (with_reducible refine Below.setCell ?_ ?_ _) | (with_reducible refine Below.drew ?_) | (with_reducible refine Below.trans ?_ (Below.mono (by with_reducible assumption) ?_)) | omega | (simp; done) | (simp; omega)))) (some p)) hG2)
      rcases HO.out with ⟨_, h9, _⟩ | ⟨g, rfl, hg, hr⟩
      · omega
      have hr2 := hr.grown hG2' (by simp; omega)
      obtain ⟨b, o, e, _, q0, q1, q2⟩ := ow_cells (hr2.rd Ow.enc_len hr2.lt) hk
      obtain ⟨rfl, rfl⟩ : g = b ∧ 0 = o := by simpa using e
      simp only [Nat.zero_add] at q0
      have hzk := HZ.out k hk
      replace hC2 := Lib.hid hC2
      have hgl := hr2.lt
      clear hr hr2 q1 q2 e
      go_wp2
      go_ret
      exact ⟨_, rfl, ⟨_, rfl, hzk⟩, hC2.out, hG2'⟩
    · go_wp2_with fail
      refine (of_any [(⟨#[122, 111, 101]⟩ : ByteArray), ⟨#[]⟩, ⟨#[97, 110, 110, 97]⟩, ⟨#[113]⟩] _ 4 p A n c (K + 2) _ (hC1.out.to (by repeat' (first | (with_reducible exact Below.refl _ _) | (with_reducible refine Below.alloc ?_ ?_ _) | (with_reducible refine Below.setCell ?_ ?_ _) | (with_reducible refine Below.drew ?_) | (with_reducible refine Below.trans ?_ (Below.mono (by with_reducible assumption) ?_)) | omega | (simp; done) | (simp; omega)))) hn (by omega) (strs_new _ _ rfl (by omega)) (by decide) (by decide)).mono ?_
      rintro e w2 ⟨_, rfl, ⟨j, hj, rfl⟩, hC2, hG2⟩
      have hj4 := of4_sz hj
      obtain ⟨s2, hs2⟩ : ∃ s, el [(⟨#[122, 111, 101]⟩ : ByteArray), ⟨#[]⟩, ⟨#[97, 110, 110, 97]⟩, ⟨#[113]⟩] j = s := ⟨_, rfl⟩
      rw [hs2] at hj4 ⊢
      replace hC2 := Lib.hid hC2
      clear hs2
      go_wp2
      go_ret
      exact ⟨_, rfl, ⟨s2, rfl, hj4⟩, hC2.out, only_trans hG1' (only_trans (only_of_below (by repeat' (first | (with_reducible exact Below.refl _ _) | (with_reducible refine Below.alloc ?_ ?_ _) | (with_reducible refine Below.setCell ?_ ?_ _) | (with_reducible refine Below.drew ?_) | (with_reducible refine Below.trans ?_ (Below.mono (by with_reducible assumption) ?_)) | omega | (simp; done) | (simp; omega))) _) hG2)⟩
theorem own_drawn {w w' : World} {base p : Nat} {E : TypeId} {cs : List Value} {n : Nat} {A : Option Addr} (h : OwnAt w base E cs n A) (hg : w.grownBy w' (some p)) (hp : p < base) : OwnAt w' base E cs n A := by
  rcases h with h | ⟨g, e, hb, hr⟩
  · exact .inl h
  · exact .inr ⟨g, e, hb, hr.grown hg (by simp; omega)⟩
/-- A new cursor. -/
theorem cur_new {w : World} {A : Option Addr} {n c : Nat} (h : Byt w w.heap.size A n) : Cur (w.alloc (.cells #[.slice A n c, .int .i64 0, .int .u64 0] 94)) w.heap.size A n c 0 :=
  ⟨h.below (Below.alloc (Below.refl _ _) (Nat.le_refl _) _), 0, 0, Nat.le_refl _, Row.new _ _ _⟩
def OutO (w w' : World) (A' : Option Addr) (c' : Nat) (xs : List Ow) : Prop := OwnAt w' w.heap.size 54 (xs.flatMap Ow.enc) xs.length A' ∧ xs.length ≤ c' ∧ xs.length ≤ 10 ∧ OwSz 100 xs
set_option maxRecDepth 100000 in
set_option maxHeartbeats 8000000 in
theorem dAreOwners_any (A : Option Addr) (n c : Nat) (w : World) (h : Byt w w.heap.size A n) (hn : n ≤ 65536) :
    Calls Tryd.prog 88 #[.slice A n c] w fun e w' => (∃ A' c' xs, e = .returned (.slice A' (xs : List Ow).length c') ∧ OutO w w' A' c' xs) ∧ Below w.heap.size w w' := by
  have HB := Lib.hid h
  clear h
  go_enter Tryd.func88, Tryd.ntmps88
  go_wp2_with fail
  refine (owners_any w.heap.size A n c 0 _ (cur_new HB.out) hn (by omega)).mono ?_
  rintro e w1 ⟨A', c', xs, rfl, ho, hc', hl, hz, hC1, hG1⟩
  have hb1 : Below w.heap.size w w1 := (show Below w.heap.size w (w.alloc (.cells #[.slice A n c, .int .i64 0, .int .u64 0] 94)) from (by repeat' (first | (with_reducible exact Below.refl _ _) | (with_reducible refine Below.alloc ?_ ?_ _) | (with_reducible refine Below.setCell ?_ ?_ _) | (with_reducible refine Below.drew ?_) | (with_reducible refine Below.trans ?_ (Below.mono (by with_reducible assumption) ?_)) | omega | (simp; done) | (simp; omega)))).trans (grown_below hG1 (Nat.le_refl _) (by simp))
  have HO := Lib.hid (ho.mono (show w.heap.size ≤ _ by simp))
  clear ho hC1 hG1
  go_wp2
  go_ret
  exact ⟨⟨A', c', xs, rfl, HO.out, hc', hl, hz⟩, hb1⟩
set_option maxHeartbeats 8000000 in
theorem dExactParts_any (A : Option Addr) (n c : Nat) (w : World) (h : Byt w w.heap.size A n) (hn : n ≤ 65536) :
    Calls Tryd.prog 43 #[.slice A n c] w fun e w' => (∃ A' c' xs, e = .returned (.slice A' (xs : List Ow).length c') ∧ OutO w w' A' c' xs) ∧ Below w.heap.size w w' := by
  have HB := Lib.hid h
  clear h
  go_enter Tryd.func43, Tryd.ntmps43
  go_wp2_with fail
  refine (dAreOwners_any A n c _ HB.out hn).mono ?_
  rintro e w1 ⟨⟨A', c', xs, rfl, ho⟩, hb1⟩
  have HO := Lib.hid ho
  clear ho
  go_wp2
  go_ret
  exact ⟨⟨A', c', xs, rfl, HO.out⟩, hb1⟩
set_option maxHeartbeats 8000000 in
theorem dMajority_any (A : Option Addr) (n c : Nat) (w : World) (h : Byt w w.heap.size A n) (hn : n ≤ 65536) :
    Calls Tryd.prog 56 #[.slice A n c] w fun e w' => (∃ A' c' xs, e = .returned (.slice A' (xs : List Ow).length c') ∧ OutO w w' A' c' xs) ∧ Below w.heap.size w w' := by
  have HB := Lib.hid h
  clear h
  go_enter Tryd.func56, Tryd.ntmps56
  go_wp2_with fail
  refine (dAreOwners_any A n c _ HB.out hn).mono ?_
  rintro e w1 ⟨⟨A', c', xs, rfl, ho⟩, hb1⟩
  have HO := Lib.hid ho
  clear ho
  go_wp2
  go_ret
  exact ⟨⟨A', c', xs, rfl, HO.out⟩, hb1⟩
set_option maxRecDepth 100000 in
set_option maxHeartbeats 8000000 in
theorem dShareOf_any (A : Option Addr) (n c : Nat) (w : World) (h : Byt w w.heap.size A n) (hn : n ≤ 65536) :
    Calls Tryd.prog 44 #[.slice A n c] w fun e w' => (∃ A' c' xs s, e = .returned (.tuple #[.slice A' (xs : List Ow).length c', .string s]) ∧ s.size ≤ 100 ∧ OutO w w' A' c' xs) ∧ Below w.heap.size w w' := by
  have HB := Lib.hid h
  clear h
  go_enter Tryd.func44, Tryd.ntmps44
  go_wp2_with fail
  refine (owners_any w.heap.size A n c 0 _ (cur_new HB.out) hn (by omega)).mono ?_
  rintro e w1 ⟨A', c', xs, rfl, ho, hc', hl, hz, hC1, hG1⟩
  have hb1 : Below w.heap.size w w1 := (show Below w.heap.size w (w.alloc (.cells #[.slice A n c, .int .i64 0, .int .u64 0] 94)) from (by repeat' (first | (with_reducible exact Below.refl _ _) | (with_reducible refine Below.alloc ?_ ?_ _) | (with_reducible refine Below.setCell ?_ ?_ _) | (with_reducible refine Below.drew ?_) | (with_reducible refine Below.trans ?_ (Below.mono (by with_reducible assumption) ?_)) | omega | (simp; done) | (simp; omega)))).trans (grown_below hG1 (Nat.le_refl _) (by simp))
  have ho1 := ho.mono (show w.heap.size + 1 ≤ _ by simp)
  have HO := Lib.hid ho1
  have HC1 := Lib.hid hC1
  have HZ := Lib.hid hz
  have HB1 := Lib.hid hb1
  have hs1 := hb1.size
  clear ho hC1 hG1 ho1 hz hb1
  go_wp2_with fail
  refine (owner_any A' c' (w.heap.size + 1) xs w.heap.size A n c (0 + 60) _ (HC1.out.to (by repeat' (first | (with_reducible exact Below.refl _ _) | (with_reducible refine Below.alloc ?_ ?_ _) | (with_reducible refine Below.setCell ?_ ?_ _) | (with_reducible refine Below.drew ?_) | (with_reducible refine Below.trans ?_ (Below.mono (by with_reducible assumption) ?_)) | omega | (simp; done) | (simp; omega)))) hn (by omega) (HO.out.to (by repeat' (first | (with_reducible exact Below.refl _ _) | (with_reducible refine Below.alloc ?_ ?_ _) | (with_reducible refine Below.setCell ?_ ?_ _) | (with_reducible refine Below.drew ?_) | (with_reducible refine Below.trans ?_ (Below.mono (by with_reducible assumption) ?_)) | omega | (simp; done) | (simp; omega)))) (by omega) HZ.out hl).mono ?_
  rintro e w2 ⟨_, rfl, ⟨s, rfl, hs⟩, hC2, hG2⟩
  have hG2' := only_trans (only_of_below (show Below w1.heap.size w1 _ from (by repeat' (first | (with_reducible exact Below.refl _ _) | (with_reducible refine Below.alloc ?_ ?_ _) | (with_reducible refine Below.setCell ?_ ?_ _) | (with_reducible refine Below.drew ?_) | (with_reducible refine Below.trans ?_ (Below.mono (by with_reducible assumption) ?_)) | omega | (simp; done) | (simp; omega)))) (some w.heap.size)) hG2
  have HO2 := Lib.hid (own_drawn HO.out hG2' (by omega))
  have hb2 : Below w.heap.size w w2 := HB1.out.trans (grown_below hG2' (Nat.le_refl _) hs1)
  clear hC2 hG2 hG2'
  go_wp2
  go_ret2
  exact ⟨⟨A', c', xs, s, rfl, hs, HO2.out.mono (by omega), hc', hl, HZ.out⟩, hb2⟩
end Go.Proofs.YtimdnihadhbjpaaDoor
