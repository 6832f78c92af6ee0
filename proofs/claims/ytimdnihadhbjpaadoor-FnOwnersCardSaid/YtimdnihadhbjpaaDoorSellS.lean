/- Contracts: a share is sold (chapter 22). -/
import Derived.Test.YtimdnihadhbjpaaDoorGets
import Derived.Test.YtimdnihadhbjpaaDoorFloor
set_option linter.unusedSimpArgs false
set_option linter.unusedVariables false
namespace Go.Proofs.YtimdnihadhbjpaaDoor
open Go.RowKit Go.Sort Go.Salt
attribute [local go_sem] cell_rg
/-! What giving does to lengths and names. -/
theorem giveL_len (xs : List Ow) (t : ByteArray) (n d : Int) : (giveL xs t n d).length ≤ xs.length + 1 := by
  rcases owAtN_or xs t xs.length with ⟨_, hno⟩ | ⟨j, hj, _, h1, h2⟩
  · rw [giveL_no hno]; simp
  · rw [giveL_at hj h1 h2]; split
    · rw [del_len hj]; omega
    · rw [List.length_set]; omega
theorem getsL_len (xs : List Ow) (t : ByteArray) (n d : Int) : xs.length ≤ (getsL xs t n d).length ∧ (getsL xs t n d).length ≤ xs.length + 1 := by
  rcases owAtN_or xs t xs.length with ⟨_, hno⟩ | ⟨j, hj, _, h1, h2⟩
  · rw [getsL_no hno]; simp
  · rw [getsL_at hj h1 h2, List.length_set]; omega
theorem OwSz.put {B : Nat} {xs : List Ow} (h : OwSz B xs) {j : Nat} {u : Ow} (hu : u.s.size ≤ B) : OwSz B (xs.set j u) := fun k hk => by
  rw [List.length_set] at hk
  by_cases hj : j < xs.length
  · rw [el_put hj]; split
    · exact hu
    · exact h k hk
  · rw [List.set_eq_of_length_le (by omega)]; exact h k hk
theorem OwSz.del {B : Nat} {xs : List Ow} (h : OwSz B xs) {j : Nat} (hj : j < xs.length) : OwSz B (delL xs j) := fun k hk => by
  rw [del_len hj] at hk
  rw [el_del hj]; split
  · exact h k (by omega)
  · exact h _ (by omega)
theorem OwSz.snoc {B : Nat} {xs : List Ow} (h : OwSz B xs) {u : Ow} (hu : u.s.size ≤ B) : OwSz B (xs ++ [u]) := fun k hk => by
  rw [List.length_append] at hk
  rw [el_snoc]; split
  · exact hu
  · exact h k (by simp at hk; omega)
theorem OwSz.give {B : Nat} {xs : List Ow} (h : OwSz B xs) {t : ByteArray} (ht : t.size ≤ B) (n d : Int) : OwSz B (giveL xs t n d) := by
  rcases owAtN_or xs t xs.length with ⟨_, hno⟩ | ⟨j, hj, _, h1, h2⟩
  · rw [giveL_no hno]; exact h.snoc ht
  · rw [giveL_at hj h1 h2]; split
    · exact h.del hj
    · exact h.put ht
theorem OwSz.gets {B : Nat} {xs : List Ow} (h : OwSz B xs) {t : ByteArray} (ht : t.size ≤ B) (n d : Int) : OwSz B (getsL xs t n d) := by
  rcases owAtN_or xs t xs.length with ⟨_, hno⟩ | ⟨j, hj, _, h1, h2⟩
  · rw [getsL_no hno]; exact h.snoc ht
  · rw [getsL_at hj h1 h2]; exact h.put ht
/-- Whoever bears another name is as before. -/
theorem give_other {xs : List Ow} {f t : ByteArray} {n d : Int} {i : Nat} (hi : i < xs.length) (h1 : (el xs i).s = f) (h2 : ∀ j, j < i → (el xs j).s ≠ f) (hft : f ≠ t) {j : Nat} (hs : (el (giveL xs f n d) j).s = t) : ∃ k, el (giveL xs f n d) j = el xs k := by
  rw [giveL_at hi h1 h2] at hs ⊢
  split at hs
  · rename_i h0
    rw [if_pos h0, el_del hi]
    split
    · exact ⟨_, rfl⟩
    · exact ⟨_, rfl⟩
  · rename_i h0
    rw [el_put hi] at hs
    rw [if_neg h0, el_put hi]
    split at hs
    · exact absurd hs hft
    · rename_i hji
      rw [if_neg hji]; exact ⟨_, rfl⟩
theorem owOK_neg {x : Ow} (h : x.n < 1) : owOK x = false := by
  have : inB x.n 1 1000 = false := by
    cases hb : inB x.n 1 1000
    · rfl
    · have := inB_iff.1 hb; omega
  unfold owOK; rw [this]; simp
/-- Whether the question is one. -/
def slC (xs : List Ow) (f t : ByteArray) (num den : Int) : Bool := arB xs && (decide (0 ≤ owAtN xs f xs.length) && (decide (f ≠ t) && (inB num 1 1000 && inB den 1 1000)))
def slR (xs : List Ow) (f t : ByteArray) (num den : Int) : List Ow := giveL (giveL xs f (-(rN num den)) (rD num den)) t (rN num den) (rD num den)
def slB (xs : List Ow) (f t : ByteArray) (num den : Int) : Bool := slC xs f t num den && arB (slR xs f t num den)
def slL (xs : List Ow) (f t : ByteArray) (num den : Int) : List Ow := if slB xs f t num den = true then slR xs f t num den else []
theorem slL_len (xs : List Ow) (f t : ByteArray) (num den : Int) : (slL xs f t num den).length ≤ 8 := by
  unfold slL; split
  · rename_i h
    unfold slB at h; rw [Bool.and_eq_true] at h
    exact (arOK_len h.2).2
  · simp
theorem sl_no {w w' : World} {xs : List Ow} {f t : ByteArray} {num den : Int} {e : Ending} (hB : slB xs f t num den = false) (h : MadeAt w 54 [] 0 (fun v => .returned (.tuple #[v, .bool false])) e w') :
    MadeAt w 54 ((slL xs f t num den).flatMap Ow.enc) (slL xs f t num den).length (fun v => .returned (.tuple #[v, .bool (slB xs f t num den)])) e w' :=
  MadeAt.cast h (by simp [slL, hB]) (by simp [slL, hB]) (by rw [hB]) rfl
theorem sl_yes {w w' : World} {xs ys : List Ow} {f t : ByteArray} {num den : Int} {e : Ending} (hy : slR xs f t num den = ys) (hB : slB xs f t num den = true) (h : MadeAt w 54 (ys.flatMap Ow.enc) ys.length (fun v => .returned (.tuple #[v, .bool true])) e w') :
    MadeAt w 54 ((slL xs f t num den).flatMap Ow.enc) (slL xs f t num den).length (fun v => .returned (.tuple #[v, .bool (slB xs f t num den)])) e w' :=
  MadeAt.cast h (by simp [slL, hB, hy]) (by simp [slL, hB, hy]) (by rw [hB]) rfl
set_option maxRecDepth 100000 in
set_option maxHeartbeats 16000000 in
theorem sSellShare_main (A : Option Addr) (c : Nat) (xs : List Ow) (f t : ByteArray) (num den : Int) (w : World) (h : Rd w w.heap.size A 3 Ow.enc xs) (hx : xs.length ≤ 1048576) (hz : OwSz 1048576 xs) (hsf : f.size ≤ 1048576) (hst : t.size ≤ 1048576)
    (hg : arB xs = true) (hat : ¬ owAtN xs f xs.length < 0) (hft : f ≠ t) (hn : inB num 1 1000 = true) (hd : inB den 1 1000 = true) :
    Calls Tryd.prog 36 #[.slice A xs.length c, .string f, .string t, .int .i64 num, .int .i64 den] w fun e w' => MadeAt w 54 ((slL xs f t num den).flatMap Ow.enc) (slL xs f t num den).length (fun v => .returned (.tuple #[v, .bool (slB xs f t num den)])) e w' := by
  have HX := Lib.hid h
  have HZ := Lib.hid hz
  have Hg := Lib.hid hg
  have HBD := Lib.hid (arOK_bd hg)
  have hl := arOK_len hg
  clear h hz hg
  have hip : 0 < xs.length := by have := (owAtN_ge (xs := xs) (s := f) (k := xs.length)).2; omega
  obtain ⟨ad, rfl⟩ : ∃ ad, A = some ad := by
    obtain ⟨b, o, e, _⟩ := HX.out hip
    exact ⟨_, e⟩
  rcases owAtN_or xs f xs.length with ⟨h9, _⟩ | ⟨i, hi, hai, hf1, hf2⟩
  · omega
  have Hat := Lib.hid hai
  have hi0 : ¬ (i : Int) < 0 := by omega
  have hiI : (i : Int) < xs.length := by omega
  have hiI0 : (0 : Int) ≤ i := by omega
  have hft2 := ba_beq hft
  have HF1 := Lib.hid hf1
  have HF2 := Lib.hid hf2
  have HFT := Lib.hid hft
  have hnr := inB_iff.1 hn
  have hdr := inB_iff.1 hd
  have HCC : Hid (slC xs f t num den = true) := Lib.hid (by unfold slC; rw [Hg.out, hai, hn, hd, decide_eq_true hiI0, decide_eq_true hft]; rfl)
  have hrb := r_bd (n := num) (m := den) (by omega)
  have HR : Hid (slR xs f t num den = giveL (giveL xs f (-(rN num den)) (rD num den)) t (rN num den) (rD num den)) := Lib.hid rfl
  obtain ⟨a, hA⟩ : ∃ a, rN num den = a := ⟨_, rfl⟩
  obtain ⟨b, hD⟩ : ∃ b, rD num den = b := ⟨_, rfl⟩
  rw [hA, hD] at hrb HR
  have hra := hrb.2.2 (by omega)
  have hrb1 := hrb.1
  have hrb2 := hrb.2.1
  have hna : wrap64 (-a) = -a := wrap_in' ⟨by omega, by omega⟩
  clear hai hrb hf1 hf2 hft
  go_enter Tryd.func36, Tryd.ntmps36
  go_wp2_with fail
  refine (l22Good_any _ c xs _ (HX.out.to (by repeat' (first | (with_reducible exact Below.refl _ _) | (with_reducible refine Below.alloc ?_ ?_ _) | (with_reducible refine Below.setCell ?_ ?_ _) | (with_reducible refine Below.drew ?_) | (with_reducible refine Below.trans ?_ (Below.mono (by with_reducible assumption) ?_)) | omega | (simp; done) | (simp; omega)))) hx HZ.out).mono ?_
  rintro e w1 ⟨rfl, hb1⟩
  have hs1 := hb1.size
  rw [Hg.out]
  go_wp2_with fail
  refine (l22Find_any _ c xs f _ (HX.out.to (by repeat' (first | (with_reducible exact Below.refl _ _) | (with_reducible refine Below.alloc ?_ ?_ _) | (with_reducible refine Below.setCell ?_ ?_ _) | (with_reducible refine Below.drew ?_) | (with_reducible refine Below.trans ?_ (Below.mono (by with_reducible assumption) ?_)) | omega | (simp; done) | (simp; omega)))) hx).mono ?_
  rintro e w2 ⟨rfl, hb2⟩
  have hs2 := hb2.size
  rw [Hat.out]
  go_wp2_with fail
  (go_at_call 80; refine (l1In_any _ _ _ _).mono ?_; rintro e w1 ⟨rfl, rfl⟩)
  rw [hn]
  go_wp2_with fail
  (go_at_call 80; refine (l1In_any _ _ _ _).mono ?_; rintro e w1 ⟨rfl, rfl⟩)
  rw [hd]
  go_wp2_with fail
  refine (red_any num den _ (by omega) (by omega) (by omega) (by omega)).mono ?_
  rintro e w3 ⟨rfl, hb3⟩
  have hs3 := hb3.size
  rw [hA, hD]
  go_wp2_with fail
  refine (l22Give_any _ c xs f (-a) b _ (HX.out.to (by repeat' (first | (with_reducible exact Below.refl _ _) | (with_reducible refine Below.alloc ?_ ?_ _) | (with_reducible refine Below.setCell ?_ ?_ _) | (with_reducible refine Below.drew ?_) | (with_reducible refine Below.trans ?_ (Below.mono (by with_reducible assumption) ?_)) | omega | (simp; done) | (simp; omega)))) (by omega) (fun j _ _ => by have := HBD.out j; exact ⟨⟨⟨by omega, by omega⟩, by omega, by omega⟩, ⟨by omega, by omega⟩, by omega, by omega⟩)).mono ?_
  rintro e w4 ⟨g4, c4, rfl, k41, k42, hg4, row4, hb4⟩
  have hs4 := hb4.size
  have hr4 := row4.rd Ow.enc_len row4.lt
  have hl4 := giveL_len xs f (-a) b
  go_wp2_with fail
  refine (l22Give_any _ c4 (giveL xs f (-a) b) t a b _ (hr4.to (by repeat' (first | (with_reducible exact Below.refl _ _) | (with_reducible refine Below.alloc ?_ ?_ _) | (with_reducible refine Below.setCell ?_ ?_ _) | (with_reducible refine Below.drew ?_) | (with_reducible refine Below.trans ?_ (Below.mono (by with_reducible assumption) ?_)) | omega | (simp; done) | (simp; omega)))) (by omega) (fun j _ hs => by
    obtain ⟨k, hk⟩ := give_other hi HF1.out HF2.out HFT.out hs
    rw [hk]; have := HBD.out k
    exact ⟨⟨⟨by omega, by omega⟩, by omega, by omega⟩, ⟨by omega, by omega⟩, by omega, by omega⟩)).mono ?_
  rintro e w5 ⟨g5, c5, rfl, k51, k52, hg5, row5, hb5⟩
  have hs5 := hb5.size
  have hl5 := giveL_len (giveL xs f (-a) b) t a b
  have hz5 := (HZ.out.give hsf (-a) b).give hst a b
  obtain ⟨ys, hys⟩ : ∃ ys, giveL (giveL xs f (-a) b) t a b = ys := ⟨_, rfl⟩
  rw [hys] at row5 hl5 hz5 k51 HR
  rw [hys]
  clear hys
  have hr5 := row5.rd Ow.enc_len row5.lt
  have HR5 := Lib.hid row5
  have HB5 : Hid (Below w.heap.size w w5) := Lib.hid (by repeat' (first | (with_reducible exact Below.refl _ _) | (with_reducible refine Below.alloc ?_ ?_ _) | (with_reducible refine Below.setCell ?_ ?_ _) | (with_reducible refine Below.drew ?_) | (with_reducible refine Below.trans ?_ (Below.mono (by with_reducible assumption) ?_)) | omega | (simp; done) | (simp; omega)))
  have hgw : w.heap.size ≤ g5 := by omega
  clear row5 row4 hr4
  cases hG : arB ys
  · have HB : Hid (slB xs f t num den = false) := Lib.hid (by unfold slB; rw [HR.out, hG, Bool.and_false])
    go_wp2_with fail
    refine (l22Good_any _ c5 ys _ (hr5.to (by repeat' (first | (with_reducible exact Below.refl _ _) | (with_reducible refine Below.alloc ?_ ?_ _) | (with_reducible refine Below.setCell ?_ ?_ _) | (with_reducible refine Below.drew ?_) | (with_reducible refine Below.trans ?_ (Below.mono (by with_reducible assumption) ?_)) | omega | (simp; done) | (simp; omega)))) (by omega) hz5).mono ?_
    rintro e w6 ⟨rfl, hb6⟩
    have hs6 := hb6.size
    rw [hG]
    go_wp2
    go_ret2
    exact sl_no HB.out (MadeAt.empty (g := _) (fun v => .returned (.tuple #[v, .bool false])) (by first | omega | (simp; omega)) (heap_alloc_new _ _) (by repeat' (first | (with_reducible exact Below.refl _ _) | (with_reducible refine Below.alloc ?_ ?_ _) | (with_reducible refine Below.setCell ?_ ?_ _) | (with_reducible refine Below.drew ?_) | (with_reducible refine Below.trans ?_ (Below.mono (by with_reducible assumption) ?_)) | omega | (simp; done) | (simp; omega))))
  · have HB : Hid (slB xs f t num den = true) := Lib.hid (by unfold slB; rw [HR.out, hG, HCC.out]; rfl)
    go_wp2_with fail
    refine (l22Good_any _ c5 ys _ (hr5.to (by repeat' (first | (with_reducible exact Below.refl _ _) | (with_reducible refine Below.alloc ?_ ?_ _) | (with_reducible refine Below.setCell ?_ ?_ _) | (with_reducible refine Below.drew ?_) | (with_reducible refine Below.trans ?_ (Below.mono (by with_reducible assumption) ?_)) | omega | (simp; done) | (simp; omega)))) (by omega) hz5).mono ?_
    rintro e w6 ⟨rfl, hb6⟩
    have hs6 := hb6.size
    rw [hG]
    go_wp2
    go_ret2
    exact sl_yes HR.out HB.out ⟨_, c5, rfl, OwnAt.row hgw (HR5.out.to hb6), HB5.out.trans (hb6.mono (by omega))⟩
set_option maxRecDepth 10000 in
set_option maxHeartbeats 8000000 in
theorem sSellShare_any (A : Option Addr) (c : Nat) (xs : List Ow) (f t : ByteArray) (num den : Int) (w : World) (h : Rd w w.heap.size A 3 Ow.enc xs) (hx : xs.length ≤ 1048576) (hz : OwSz 1048576 xs) (hsf : f.size ≤ 1048576) (hst : t.size ≤ 1048576) :
    Calls Tryd.prog 36 #[.slice A xs.length c, .string f, .string t, .int .i64 num, .int .i64 den] w fun e w' => MadeAt w 54 ((slL xs f t num den).flatMap Ow.enc) (slL xs f t num den).length (fun v => .returned (.tuple #[v, .bool (slB xs f t num den)])) e w' := by
  have HX := Lib.hid h
  have HZ := Lib.hid hz
  cases hg : arB xs
  · have HB : Hid (slB xs f t num den = false) := Lib.hid (by simp [slB, slC, hg])
    have Hg := Lib.hid hg
    obtain ⟨ai, hai0⟩ : ∃ a, owAtN xs f xs.length = a := ⟨_, rfl⟩
    have Hai := Lib.hid hai0
    clear h hz hg hai0
    go_enter Tryd.func36, Tryd.ntmps36
    go_wp2_with fail
    refine (l22Good_any _ c xs _ (HX.out.to (by repeat' (first | (with_reducible exact Below.refl _ _) | (with_reducible refine Below.alloc ?_ ?_ _) | (with_reducible refine Below.setCell ?_ ?_ _) | (with_reducible refine Below.drew ?_) | (with_reducible refine Below.trans ?_ (Below.mono (by with_reducible assumption) ?_)) | omega | (simp; done) | (simp; omega)))) hx HZ.out).mono ?_
    rintro e w1 ⟨rfl, hb1⟩
    have hs1 := hb1.size
    rw [Hg.out]
    go_wp2
    go_ret2
    exact sl_no HB.out (MadeAt.empty (g := _) (fun v => .returned (.tuple #[v, .bool false])) (by first | omega | (simp; omega)) (heap_alloc_new _ _) (by repeat' (first | (with_reducible exact Below.refl _ _) | (with_reducible refine Below.alloc ?_ ?_ _) | (with_reducible refine Below.setCell ?_ ?_ _) | (with_reducible refine Below.drew ?_) | (with_reducible refine Below.trans ?_ (Below.mono (by with_reducible assumption) ?_)) | omega | (simp; done) | (simp; omega))))
  by_cases hat : owAtN xs f xs.length < 0
  · have HB : Hid (slB xs f t num den = false) := Lib.hid (by simp [slB, slC, show ¬ 0 ≤ owAtN xs f xs.length by omega])
    have Hg := Lib.hid hg
    have Hat := Lib.hid (owAtN_neg hat).1
    clear h hz hg hat
    go_enter Tryd.func36, Tryd.ntmps36
    go_wp2_with fail
    refine (l22Good_any _ c xs _ (HX.out.to (by repeat' (first | (with_reducible exact Below.refl _ _) | (with_reducible refine Below.alloc ?_ ?_ _) | (with_reducible refine Below.setCell ?_ ?_ _) | (with_reducible refine Below.drew ?_) | (with_reducible refine Below.trans ?_ (Below.mono (by with_reducible assumption) ?_)) | omega | (simp; done) | (simp; omega)))) hx HZ.out).mono ?_
    rintro e w1 ⟨rfl, hb1⟩
    have hs1 := hb1.size
    rw [Hg.out]
    go_wp2_with fail
    refine (l22Find_any _ c xs f _ (HX.out.to (by repeat' (first | (with_reducible exact Below.refl _ _) | (with_reducible refine Below.alloc ?_ ?_ _) | (with_reducible refine Below.setCell ?_ ?_ _) | (with_reducible refine Below.drew ?_) | (with_reducible refine Below.trans ?_ (Below.mono (by with_reducible assumption) ?_)) | omega | (simp; done) | (simp; omega)))) hx).mono ?_
    rintro e w2 ⟨rfl, hb2⟩
    have hs2 := hb2.size
    rw [Hat.out]
    go_wp2
    go_ret2
    exact sl_no HB.out (MadeAt.empty (g := _) (fun v => .returned (.tuple #[v, .bool false])) (by first | omega | (simp; omega)) (heap_alloc_new _ _) (by repeat' (first | (with_reducible exact Below.refl _ _) | (with_reducible refine Below.alloc ?_ ?_ _) | (with_reducible refine Below.setCell ?_ ?_ _) | (with_reducible refine Below.drew ?_) | (with_reducible refine Below.trans ?_ (Below.mono (by with_reducible assumption) ?_)) | omega | (simp; done) | (simp; omega))))
  by_cases hft : f = t
  · subst hft
    have HB : Hid (slB xs f f num den = false) := Lib.hid (by simp [slB, slC])
    have Hg := Lib.hid hg
    obtain ⟨ai, hai0⟩ : ∃ a, owAtN xs f xs.length = a := ⟨_, rfl⟩
    rw [hai0] at hat
    have Hat := Lib.hid hai0
    clear h hz hg hai0
    go_enter Tryd.func36, Tryd.ntmps36
    go_wp2_with fail
    refine (l22Good_any _ c xs _ (HX.out.to (by repeat' (first | (with_reducible exact Below.refl _ _) | (with_reducible refine Below.alloc ?_ ?_ _) | (with_reducible refine Below.setCell ?_ ?_ _) | (with_reducible refine Below.drew ?_) | (with_reducible refine Below.trans ?_ (Below.mono (by with_reducible assumption) ?_)) | omega | (simp; done) | (simp; omega)))) hx HZ.out).mono ?_
    rintro e w1 ⟨rfl, hb1⟩
    have hs1 := hb1.size
    rw [Hg.out]
    go_wp2_with fail
    refine (l22Find_any _ c xs f _ (HX.out.to (by repeat' (first | (with_reducible exact Below.refl _ _) | (with_reducible refine Below.alloc ?_ ?_ _) | (with_reducible refine Below.setCell ?_ ?_ _) | (with_reducible refine Below.drew ?_) | (with_reducible refine Below.trans ?_ (Below.mono (by with_reducible assumption) ?_)) | omega | (simp; done) | (simp; omega)))) hx).mono ?_
    rintro e w2 ⟨rfl, hb2⟩
    have hs2 := hb2.size
    rw [Hat.out]
    go_wp2
    go_ret2
    exact sl_no HB.out (MadeAt.empty (g := _) (fun v => .returned (.tuple #[v, .bool false])) (by first | omega | (simp; omega)) (heap_alloc_new _ _) (by repeat' (first | (with_reducible exact Below.refl _ _) | (with_reducible refine Below.alloc ?_ ?_ _) | (with_reducible refine Below.setCell ?_ ?_ _) | (with_reducible refine Below.drew ?_) | (with_reducible refine Below.trans ?_ (Below.mono (by with_reducible assumption) ?_)) | omega | (simp; done) | (simp; omega))))
  cases hn : inB num 1 1000
  · have HB : Hid (slB xs f t num den = false) := Lib.hid (by simp [slB, slC, hn])
    have Hg := Lib.hid hg
    have hft2 := ba_beq hft
    obtain ⟨ai, hai0⟩ : ∃ a, owAtN xs f xs.length = a := ⟨_, rfl⟩
    rw [hai0] at hat
    have Hat := Lib.hid hai0
    clear h hz hg hai0
    go_enter Tryd.func36, Tryd.ntmps36
    go_wp2_with fail
    refine (l22Good_any _ c xs _ (HX.out.to (by repeat' (first | (with_reducible exact Below.refl _ _) | (with_reducible refine Below.alloc ?_ ?_ _) | (with_reducible refine Below.setCell ?_ ?_ _) | (with_reducible refine Below.drew ?_) | (with_reducible refine Below.trans ?_ (Below.mono (by with_reducible assumption) ?_)) | omega | (simp; done) | (simp; omega)))) hx HZ.out).mono ?_
    rintro e w1 ⟨rfl, hb1⟩
    have hs1 := hb1.size
    rw [Hg.out]
    go_wp2_with fail
    refine (l22Find_any _ c xs f _ (HX.out.to (by repeat' (first | (with_reducible exact Below.refl _ _) | (with_reducible refine Below.alloc ?_ ?_ _) | (with_reducible refine Below.setCell ?_ ?_ _) | (with_reducible refine Below.drew ?_) | (with_reducible refine Below.trans ?_ (Below.mono (by with_reducible assumption) ?_)) | omega | (simp; done) | (simp; omega)))) hx).mono ?_
    rintro e w2 ⟨rfl, hb2⟩
    have hs2 := hb2.size
    rw [Hat.out]
    go_wp2_with fail
    (go_at_call 80; refine (l1In_any _ _ _ _).mono ?_; rintro e w1 ⟨rfl, rfl⟩)
    rw [hn]
    go_wp2
    go_ret2
    exact sl_no HB.out (MadeAt.empty (g := _) (fun v => .returned (.tuple #[v, .bool false])) (by first | omega | (simp; omega)) (heap_alloc_new _ _) (by repeat' (first | (with_reducible exact Below.refl _ _) | (with_reducible refine Below.alloc ?_ ?_ _) | (with_reducible refine Below.setCell ?_ ?_ _) | (with_reducible refine Below.drew ?_) | (with_reducible refine Below.trans ?_ (Below.mono (by with_reducible assumption) ?_)) | omega | (simp; done) | (simp; omega))))
  cases hd : inB den 1 1000
  · have HB : Hid (slB xs f t num den = false) := Lib.hid (by simp [slB, slC, hd])
    have Hg := Lib.hid hg
    have hft2 := ba_beq hft
    obtain ⟨ai, hai0⟩ : ∃ a, owAtN xs f xs.length = a := ⟨_, rfl⟩
    rw [hai0] at hat
    have Hat := Lib.hid hai0
    clear h hz hg hai0
    go_enter Tryd.func36, Tryd.ntmps36
    go_wp2_with fail
    refine (l22Good_any _ c xs _ (HX.out.to (by repeat' (first | (with_reducible exact Below.refl _ _) | (with_reducible refine Below.alloc ?_ ?_ _) | (with_reducible refine Below.setCell ?_ ?_ _) | (with_reducible refine Below.drew ?_) | (with_reducible refine Below.trans ?_ (Below.mono (by with_reducible assumption) ?_)) | omega | (simp; done) | (simp; omega)))) hx HZ.out).mono ?_
    rintro e w1 ⟨rfl, hb1⟩
    have hs1 := hb1.size
    rw [Hg.out]
    go_wp2_with fail
    refine (l22Find_any _ c xs f _ (HX.out.to (by repeat' (first | (with_reducible exact Below.refl _ _) | (with_reducible refine Below.alloc ?_ ?_ _) | (with_reducible refine Below.setCell ?_ ?_ _) | (with_reducible refine Below.drew ?_) | (with_reducible refine Below.trans ?_ (Below.mono (by with_reducible assumption) ?_)) | omega | (simp; done) | (simp; omega)))) hx).mono ?_
    rintro e w2 ⟨rfl, hb2⟩
    have hs2 := hb2.size
    rw [Hat.out]
    go_wp2_with fail
    (go_at_call 80; refine (l1In_any _ _ _ _).mono ?_; rintro e w1 ⟨rfl, rfl⟩)
    rw [hn]
    go_wp2_with fail
    (go_at_call 80; refine (l1In_any _ _ _ _).mono ?_; rintro e w1 ⟨rfl, rfl⟩)
    rw [hd]
    go_wp2
    go_ret2
    exact sl_no HB.out (MadeAt.empty (g := _) (fun v => .returned (.tuple #[v, .bool false])) (by first | omega | (simp; omega)) (heap_alloc_new _ _) (by repeat' (first | (with_reducible exact Below.refl _ _) | (with_reducible refine Below.alloc ?_ ?_ _) | (with_reducible refine Below.setCell ?_ ?_ _) | (with_reducible refine Below.drew ?_) | (with_reducible refine Below.trans ?_ (Below.mono (by with_reducible assumption) ?_)) | omega | (simp; done) | (simp; omega))))
  exact sSellShare_main A c xs f t num den w h hx hz hsf hst hg hat hft hn hd
end Go.Proofs.YtimdnihadhbjpaaDoor
