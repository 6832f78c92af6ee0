/- Contracts: somebody gets a share, by the program (chapter 22). -/
import Derived.Test.YtimdnihadhbjpaaDoorGive
import Derived.Test.YtimdnihadhbjpaaDoorFree
set_option linter.unusedSimpArgs false
set_option linter.unusedVariables false
namespace Go.Proofs.YtimdnihadhbjpaaDoor
open Go.RowKit Go.Sort Go.Salt
attribute [local go_sem] cell_rg
theorem set_ow2 {s : ByteArray} {a d : Int} : ∀ (xs : List Ow) (k : Nat), k < xs.length → (el xs k).s = s → ((xs.flatMap Ow.enc).set (k * 3 + 1) (.int .i64 a)).set (k * 3 + 2) (.int .i64 d) = (xs.set k ⟨s, a, d⟩).flatMap Ow.enc
  | [], k, h, _ => by simp at h
  | x :: xs, 0, h, hs => by
    have : x.s = s := by simpa [el] using hs
    simp [Ow.enc, this]
  | x :: xs, k + 1, h, hs => by
    have h1 := set_ow2 (s := s) (a := a) (d := d) xs k (by simpa using h) (by simpa [el] using hs)
    rw [List.flatMap_cons, List.set_cons_succ, List.flatMap_cons, ← h1, List.set_append_right _ _ (by simp [Ow.enc]; omega), List.set_append_right _ _ (by simp [Ow.enc]; omega)]
    simp only [Ow.enc_len]
    rw [show (k + 1) * 3 + 1 - 3 = k * 3 + 1 by omega, show (k + 1) * 3 + 2 - 3 = k * 3 + 2 by omega]
set_option maxHeartbeats 4000000 in
theorem cloneOw_some (ad : Addr) (c : Nat) (xs : List Ow) (w : World) (h : Rd w w.heap.size (some ad) 3 Ow.enc xs) (hx : xs.length ≤ 1048576) :
    Calls Tryd.prog 91 #[.slice (some ad) xs.length c] w fun e w' => ∃ g cap, e = .returned (.slice (some ⟨g, 0, none⟩) xs.length cap) ∧ (xs.length ≤ cap ∧ cap ≤ maxLen ∧ w.heap.size ≤ g) ∧ Hid (w'.ownsRow w.heap.size 54 3 (.slice (some ⟨g, 0, none⟩) xs.length cap) xs.length (xs.flatMap Ow.enc)) ∧ Below w.heap.size w w' := by
  have q := fun (w : World) (a : Option Addr) (n c n' c' : Nat) => Lib.run_eql_slice_nil w 25 _ a n c n' c' Tryd.underlying25
  obtain ⟨i0, hi, hz0, hz1, hz2⟩ := info_parts ow_info
  have hinfo := Lib.hid (And.intro hi (And.intro hz0 (And.intro hz1 hz2)))
  clear hi hz0 hz1 hz2
  go_enter Tryd.func91, Tryd.ntmps91
  go_wp2_with (at_builtin; refine wpList_append_own _ rfl _ _ 25 rfl w.heap.size 54 i0 _ 3 32 Tryd.underlying25 hinfo.out.1 hinfo.out.2.1 hinfo.out.2.2.1 hinfo.out.2.2.2 rfl (by decide) _ _ _ rfl (own_empty 3 (Nat.le_refl _) (heap_alloc_new w _)) ad _ _ (xs.flatMap Ow.enc) rfl (flat_len Ow.enc_len xs) ((h.to (by repeat' (first | (with_reducible exact Below.refl _ _) | (with_reducible refine Below.alloc ?_ ?_ _) | (with_reducible refine Below.setCell ?_ ?_ _) | (with_reducible refine Below.drew ?_) | (with_reducible refine Below.trans ?_ (Below.mono (by with_reducible assumption) ?_)) | omega | (simp; done) | (simp; omega)))).news Ow.enc_len) (flat_one Ow.enc_one) (by unfold maxLen; omega) (by omega) (by simp) ?_)
  intro v1 w1 hown1 hgrow hnil
  have hb1 : Below w.heap.size w w1 := own_grew (own_empty (W := w.alloc (.cells #[] 54)) 3 (Nat.le_refl _) (heap_alloc_new w _)) (show Below w.heap.size w (w.alloc _) from (by repeat' (first | (with_reducible exact Below.refl _ _) | (with_reducible refine Below.alloc ?_ ?_ _) | (with_reducible refine Below.setCell ?_ ?_ _) | (with_reducible refine Below.drew ?_) | (with_reducible refine Below.trans ?_ (Below.mono (by with_reducible assumption) ?_)) | omega | (simp; done) | (simp; omega)))) (by simp) hgrow
  have hown1 : w1.ownsRow w.heap.size 54 3 v1 xs.length (xs.flatMap Ow.enc) := by simpa using hown1
  have hn1 : v1 ≠ .slice none 0 0 := hnil
  obtain ⟨g1, c1, rfl, k1, k2⟩ := own_some hown1 hn1
  go_wp2
  go_ret
  exact ⟨g1, c1, rfl, ⟨k1, k2, (Row.of_own hown1).2⟩, Lib.hid hown1, hb1⟩
set_option maxRecDepth 10000 in
set_option maxHeartbeats 8000000 in
theorem gets_no (ad : Addr) (c : Nat) (xs : List Ow) (t : ByteArray) (n d : Int) (w : World) (h : Rd w w.heap.size (some ad) 3 Ow.enc xs) (hx : xs.length ≤ 1048575) (hno : ∀ j, j < xs.length → (el xs j).s ≠ t) (hn0 : 0 ≤ n) (hd0 : 0 < d) (hn1 : n ≤ 9223372036854775807) (hd1 : d ≤ 9223372036854775807) :
    Calls Tryd.prog 82 #[.slice (some ad) xs.length c, .string t, .int .i64 n, .int .i64 d] w fun e w' => GivenAt w (getsL xs t n d) e w' := by
  rw [getsL_no hno]
  have hat := owAtN_none (xs := xs) (s := t) hno
  obtain ⟨i0, hi, hz0, hz1, hz2⟩ := info_parts ow_info
  have hinfo := Lib.hid (And.intro hi (And.intro hz0 (And.intro hz1 hz2)))
  clear hi hz0 hz1 hz2 hno
  go_enter Tryd.func82, Tryd.ntmps82
  go_wp2_with fail
  refine (cloneOw_some ad c xs _ (h.to (by repeat' (first | (with_reducible exact Below.refl _ _) | (with_reducible refine Below.alloc ?_ ?_ _) | (with_reducible refine Below.setCell ?_ ?_ _) | (with_reducible refine Below.drew ?_) | (with_reducible refine Below.trans ?_ (Below.mono (by with_reducible assumption) ?_)) | omega | (simp; done) | (simp; omega)))) (by omega)).mono ?_
  rintro e w1 ⟨g1, c1, rfl, ⟨k1, k2, hg1⟩, HO, hb1⟩
  have hs1 := hb1.size
  have HR := Lib.hid (Row.of_own HO.out).1
  go_wp2_with fail
  refine (ownerAt_any _ _ xs.length xs t _ (HR.out.rdTo Ow.enc_len (by repeat' (first | (with_reducible exact Below.refl _ _) | (with_reducible refine Below.alloc ?_ ?_ _) | (with_reducible refine Below.setCell ?_ ?_ _) | (with_reducible refine Below.drew ?_) | (with_reducible refine Below.trans ?_ (Below.mono (by with_reducible assumption) ?_)) | omega | (simp; done) | (simp; omega)))) (by omega) rfl).mono ?_
  rintro e w2 ⟨rfl, hb2⟩
  have hs2 := hb2.size
  rw [hat]
  go_wp2_with fail
  refine (reduced_any n d _ hn0 hd0 hn1 hd1).mono ?_
  rintro e w3 ⟨rfl, hb3⟩
  have hs3 := hb3.size
  go_wp2_with (at_builtin; refine wpList_append_own_at _ rfl _ _ 25 rfl w.heap.size 54 _ _ 3 32 Tryd.underlying25 hinfo.out.1 hinfo.out.2.1 hinfo.out.2.2.1 hinfo.out.2.2.2 rfl (by decide) _ _ _ rfl (own_to (own_to HO.out (show Below w1.heap.size w1 w3 from (by repeat' (first | (with_reducible exact Below.refl _ _) | (with_reducible refine Below.alloc ?_ ?_ _) | (with_reducible refine Below.setCell ?_ ?_ _) | (with_reducible refine Below.drew ?_) | (with_reducible refine Below.trans ?_ (Below.mono (by with_reducible assumption) ?_)) | omega | (simp; done) | (simp; omega))))) (by repeat' (first | (with_reducible exact Below.refl _ _) | (with_reducible refine Below.alloc ?_ ?_ _) | (with_reducible refine Below.setCell ?_ ?_ _) | (with_reducible refine Below.drew ?_) | (with_reducible refine Below.trans ?_ (Below.mono (by with_reducible assumption) ?_)) | omega | (simp; done) | (simp; omega)))) _ 1 1 [.string t, .int .i64 (rN n d), .int .i64 (rD n d)] rfl rfl (news_top (cs := #[.string t, .int .i64 (rN n d), .int .i64 (rD n d)]) (t := 54) (by simp)) (by simp [Value.oneCell']) (by unfold maxLen; omega) (by omega) (by simp; omega) ?_)
  intro v9 w9 hown9 hgrow9 hnil9 hat9
  have hb9 : Below w.heap.size w w9 := own_grew HO.out (by repeat' (first | (with_reducible exact Below.refl _ _) | (with_reducible refine Below.alloc ?_ ?_ _) | (with_reducible refine Below.setCell ?_ ?_ _) | (with_reducible refine Below.drew ?_) | (with_reducible refine Below.trans ?_ (Below.mono (by with_reducible assumption) ?_)) | omega | (simp; done) | (simp; omega))) (by first | omega | (simp; done) | (simp; omega)) hgrow9
  have hn9 : v9 ≠ .slice none 0 0 := hnil9
  have e1 : xs.flatMap Ow.enc ++ [.string t, .int .i64 (rN n d), .int .i64 (rD n d)] = (xs ++ ([⟨t, rN n d, rD n d⟩] : List Ow)).flatMap Ow.enc := by simp [Ow.enc]
  rw [e1] at hown9
  have H9 := Lib.hid hown9
  clear hown9 hgrow9 hnil9 hat9
  go_wp2_with fail
  go_ret
  exact GivenAt.of_own (by simpa using H9.out) hn9 hb9
set_option maxRecDepth 100000 in
set_option maxHeartbeats 8000000 in
theorem gets_at (ad : Addr) (c : Nat) (xs : List Ow) (t : ByteArray) (n d : Int) (j : Nat) (w : World) (h : Rd w w.heap.size (some ad) 3 Ow.enc xs) (hx : xs.length ≤ 1048575) (hj : j < xs.length) (h1 : (el xs j).s = t) (h2 : ∀ i, i < j → (el xs i).s ≠ t) (hb : ((-1000000 ≤ (el xs j).n ∧ (el xs j).n ≤ 1000000) ∧ 1 ≤ (el xs j).d ∧ (el xs j).d ≤ 1000000) ∧ (-1000000 ≤ n ∧ n ≤ 1000000) ∧ 1 ≤ d ∧ d ≤ 1000000) (hs : 0 ≤ (el xs j).n * d + n * (el xs j).d) :
    Calls Tryd.prog 82 #[.slice (some ad) xs.length c, .string t, .int .i64 n, .int .i64 d] w fun e w' => GivenAt w (getsL xs t n d) e w' := by
  rw [getsL_at hj h1 h2]
  have hat := owAtN_first h1 h2 hj
  have hts := h1
  have b1 := mulb hb.1.1 hb.2.2
  have b2 := mulb hb.2.1 hb.1.2
  have b3 := mulb (show -1000000 ≤ (el xs j).d ∧ (el xs j).d ≤ 1000000 by omega) hb.2.2
  have b4 := Int.mul_pos (show 0 < (el xs j).d by omega) (show 0 < d by omega)
  have b5 : 0 ≤ (el xs j).n * d + n * (el xs j).d := hs
  obtain ⟨p1, hp1⟩ : ∃ p, (el xs j).n * d = p := ⟨_, rfl⟩
  obtain ⟨p2, hp2⟩ : ∃ p, n * (el xs j).d = p := ⟨_, rfl⟩
  obtain ⟨m, hm⟩ : ∃ p, (el xs j).d * d = p := ⟨_, rfl⟩
  obtain ⟨s, hss⟩ : ∃ p, p1 + p2 = p := ⟨_, rfl⟩
  rw [hp1, hp2, hm]
  rw [hp1, hp2] at b5
  rw [hp1] at b1
  rw [hp2] at b2
  rw [hm] at b3 b4
  rw [hss] at b5 ⊢
  have v1 : wrap64 ((el xs j).n * d) = p1 := by rw [hp1]; exact wrap_in' ⟨by omega, by omega⟩
  have v2 : wrap64 (n * (el xs j).d) = p2 := by rw [hp2]; exact wrap_in' ⟨by omega, by omega⟩
  have v3 : wrap64 (p1 + p2) = s := by rw [hss]; exact wrap_in' ⟨by omega, by omega⟩
  have v4 : wrap64 ((el xs j).d * d) = m := by rw [hm]; exact wrap_in' ⟨by omega, by omega⟩
  have HC := Lib.hid (fun W => reduced_any s m W b5 b4 (by omega) (by omega))
  obtain ⟨rn, hrN⟩ : ∃ u, rN s m = u := ⟨_, rfl⟩
  obtain ⟨rd, hrD⟩ : ∃ u, rD s m = u := ⟨_, rfl⟩
  rw [hrN, hrD] at HC
  rw [hrN, hrD]
  clear hp1 hp2 hm hb h1 h2 hs hrN hrD
  go_enter Tryd.func82, Tryd.ntmps82
  go_wp2_with fail
  refine (cloneOw_some ad c xs _ (h.to (by repeat' (first | (with_reducible exact Below.refl _ _) | (with_reducible refine Below.alloc ?_ ?_ _) | (with_reducible refine Below.setCell ?_ ?_ _) | (with_reducible refine Below.drew ?_) | (with_reducible refine Below.trans ?_ (Below.mono (by with_reducible assumption) ?_)) | omega | (simp; done) | (simp; omega)))) (by omega)).mono ?_
  rintro e w1 ⟨g1, c1, rfl, ⟨k1, k2, hg1⟩, HO, hb1⟩
  have hs1 := hb1.size
  have HR := Lib.hid (Row.of_own HO.out).1
  go_wp2_with fail
  refine (ownerAt_any _ _ xs.length xs t _ (HR.out.rdTo Ow.enc_len (by repeat' (first | (with_reducible exact Below.refl _ _) | (with_reducible refine Below.alloc ?_ ?_ _) | (with_reducible refine Below.setCell ?_ ?_ _) | (with_reducible refine Below.drew ?_) | (with_reducible refine Below.trans ?_ (Below.mono (by with_reducible assumption) ?_)) | omega | (simp; done) | (simp; omega)))) (by omega) rfl).mono ?_
  rintro e w2 ⟨rfl, hb2⟩
  have hs2 := hb2.size
  rw [hat]
  have hj0 : ¬ (j : Int) < 0 := by omega
  have hjI : (j : Int) < xs.length := by omega
  have hjI0 : (0 : Int) ≤ j := by omega
  have hrow2 := HR.out.to hb2
  have HB2 := Lib.hid (hb1.trans (hb2.mono hs1))
  clear HR HO
  go_upto_region 6 with (fail)
  refine cut_world (fun W => Row W g1 54 (xs.flatMap Ow.enc) ∧ Below w.heap.size w W) ⟨hrow2.to (by repeat' (first | (with_reducible exact Below.refl _ _) | (with_reducible refine Below.alloc ?_ ?_ _) | (with_reducible refine Below.setCell ?_ ?_ _) | (with_reducible refine Below.drew ?_) | (with_reducible refine Below.trans ?_ (Below.mono (by with_reducible assumption) ?_)) | omega | (simp; done) | (simp; omega))), (by repeat' (first | (with_reducible exact Below.refl _ _) | (with_reducible refine Below.alloc ?_ ?_ _) | (with_reducible refine Below.setCell ?_ ?_ _) | (with_reducible refine Below.drew ?_) | (with_reducible refine Below.trans ?_ (Below.mono (by with_reducible assumption) ?_)) | omega | (simp; done) | (simp; omega)))⟩ ?_
  clear hrow2 HB2 hb1 hb2 hs1 hs2
  rintro w3 ⟨row3, hb3⟩
  have hs3 := hb3.size
  have hB1 := row3.lt
  obtain ⟨b, o, e, _, c0, c1', c2⟩ := ow_cells (row3.rd Ow.enc_len hB1) hj
  obtain ⟨rfl, rfl⟩ : g1 = b ∧ 0 = o := by simpa using e
  simp only [Nat.zero_add] at c0 c1' c2
  have R3 := Lib.hid row3
  clear row3 e
  apply wp_region_chain 30 [2, 3, 29] [] noJ (fun W W' => Below W.heap.size W W') [Sum.inl _, Sum.inl _, Sum.inl _, Sum.inl _, Sum.inl _, Sum.inl _, Sum.inl _, Sum.inl _, Sum.inl _, Sum.inl _, Sum.inl _, Sum.inl _, Sum.inl _, Sum.inl _, Sum.inl _, Sum.inl _, Sum.inl _, Sum.inl _, Sum.inl _, Sum.inl _, Sum.inl _, Sum.inl _, Sum.inl _, Sum.inl _, Sum.inl _, Sum.inl _, Sum.inl _, Sum.inl _, Sum.inl _, Sum.inl _] (by kernel_rfl) (by kernel_rfl) (fun _ _ _ => below_trans) (below_draw _) trivial ?_
  rotate_left 30
  simp only [List.take_succ_cons, List.take_zero, List.drop_succ_cons, List.drop_zero]
  apply free_val (by rfl)
  · intro W hE hp hF; obtain ⟨hcE, hfE, hnE⟩ := bcell hE; have hsE := hE.size; unfold opOb; go_wp2_with fail; exact ⟨rfl, _, rfl, rfl, ⟨Below.refl _ _, noJ_post _ _ _⟩⟩
  simp only [Act.put, List.setIfInBounds_toArray, List.set_cons_succ, List.set_cons_zero]
  apply free_val (by rfl)
  · intro W hE hp hF; obtain ⟨hcE, hfE, hnE⟩ := bcell hE; have hsE := hE.size; unfold opOb; go_wp2_with fail; exact ⟨rfl, _, rfl, rfl, ⟨Below.refl _ _, noJ_post _ _ _⟩⟩
  simp only [Act.put, List.setIfInBounds_toArray, List.set_cons_succ, List.set_cons_zero]
  apply free_late (by rfl) (by rfl)
  · intro W; unfold opOb; go_wp2_with fail; exact ⟨rfl, _, rfl, rfl, rfl⟩
  simp only [Act.put, List.setIfInBounds_toArray, List.set_cons_succ, List.set_cons_zero]
  apply free_late (by rfl) (by rfl)
  · intro W; unfold opOb; go_wp2_with fail; exact ⟨rfl, _, rfl, rfl, rfl⟩
  simp only [Act.put, List.setIfInBounds_toArray, List.set_cons_succ, List.set_cons_zero]
  apply free_val (by rfl)
  · intro W hE hp hF; obtain ⟨hcE, hfE, hnE⟩ := bcell hE; have hsE := hE.size; unfold opOb; go_wp2_with fail; exact ⟨rfl, _, rfl, rfl, ⟨Below.refl _ _, noJ_post _ _ _⟩⟩
  simp only [Act.put, List.setIfInBounds_toArray, List.set_cons_succ, List.set_cons_zero]
  apply free_val (by rfl)
  · intro W hE hp hF; obtain ⟨hcE, hfE, hnE⟩ := bcell hE; have hsE := hE.size; unfold opOb; go_wp2_with fail; exact ⟨rfl, _, rfl, rfl, ⟨Below.refl _ _, noJ_post _ _ _⟩⟩
  simp only [Act.put, List.setIfInBounds_toArray, List.set_cons_succ, List.set_cons_zero]
  apply free_val (by rfl)
  · intro W hE hp hF; obtain ⟨hcE, hfE, hnE⟩ := bcell hE; have hsE := hE.size; unfold opOb; go_wp2_with fail; exact ⟨rfl, _, rfl, rfl, ⟨Below.refl _ _, noJ_post _ _ _⟩⟩
  simp only [Act.put, List.setIfInBounds_toArray, List.set_cons_succ, List.set_cons_zero]
  apply free_val (by rfl)
  · intro W hE hp hF; obtain ⟨hcE, hfE, hnE⟩ := bcell hE; have hsE := hE.size; unfold opOb; go_wp2_with fail; exact ⟨rfl, _, rfl, rfl, ⟨Below.refl _ _, noJ_post _ _ _⟩⟩
  simp only [Act.put, List.setIfInBounds_toArray, List.set_cons_succ, List.set_cons_zero]
  apply free_val (by rfl)
  · intro W hE hp hF; obtain ⟨hcE, hfE, hnE⟩ := bcell hE; have hsE := hE.size; unfold opOb; go_wp2_with fail; exact ⟨rfl, _, rfl, rfl, ⟨Below.refl _ _, noJ_post _ _ _⟩⟩
  simp only [Act.put, List.setIfInBounds_toArray, List.set_cons_succ, List.set_cons_zero]
  apply free_val (by rfl)
  · intro W hE hp hF; obtain ⟨hcE, hfE, hnE⟩ := bcell hE; have hsE := hE.size; unfold opOb; go_wp2_with fail; exact ⟨rfl, _, rfl, rfl, ⟨Below.refl _ _, noJ_post _ _ _⟩⟩
  simp only [Act.put, List.setIfInBounds_toArray, List.set_cons_succ, List.set_cons_zero]
  apply free_val (by rfl)
  · intro W hE hp hF; obtain ⟨hcE, hfE, hnE⟩ := bcell hE; have hsE := hE.size; unfold opOb; go_wp2_with fail; exact ⟨rfl, _, rfl, rfl, ⟨Below.refl _ _, noJ_post _ _ _⟩⟩
  simp only [Act.put, List.setIfInBounds_toArray, List.set_cons_succ, List.set_cons_zero]
  apply free_val (by rfl)
  · intro W hE hp hF; obtain ⟨hcE, hfE, hnE⟩ := bcell hE; have hsE := hE.size; unfold opOb; go_wp2_with fail; exact ⟨rfl, _, rfl, rfl, ⟨Below.refl _ _, noJ_post _ _ _⟩⟩
  simp only [Act.put, List.setIfInBounds_toArray, List.set_cons_succ, List.set_cons_zero]
  apply free_val (by rfl)
  · intro W hE hp hF; obtain ⟨hcE, hfE, hnE⟩ := bcell hE; have hsE := hE.size; unfold opOb; go_wp2_with fail; exact ⟨rfl, _, rfl, rfl, ⟨Below.refl _ _, noJ_post _ _ _⟩⟩
  simp only [Act.put, List.setIfInBounds_toArray, List.set_cons_succ, List.set_cons_zero]
  apply free_val (by rfl)
  · intro W hE hp hF; obtain ⟨hcE, hfE, hnE⟩ := bcell hE; have hsE := hE.size; unfold opOb; go_wp2_with fail; exact ⟨rfl, _, rfl, rfl, ⟨Below.refl _ _, noJ_post _ _ _⟩⟩
  simp only [Act.put, List.setIfInBounds_toArray, List.set_cons_succ, List.set_cons_zero]
  apply free_val (by rfl)
  · intro W hE hp hF; obtain ⟨hcE, hfE, hnE⟩ := bcell hE; have hsE := hE.size; unfold opOb; go_wp2_with fail; exact ⟨rfl, _, rfl, rfl, ⟨Below.refl _ _, noJ_post _ _ _⟩⟩
  simp only [Act.put, List.setIfInBounds_toArray, List.set_cons_succ, List.set_cons_zero]
  apply free_val (by rfl)
  · intro W hE hp hF; obtain ⟨hcE, hfE, hnE⟩ := bcell hE; have hsE := hE.size; unfold opOb; go_wp2_with fail; exact ⟨rfl, _, rfl, rfl, ⟨Below.refl _ _, noJ_post _ _ _⟩⟩
  simp only [Act.put, List.setIfInBounds_toArray, List.set_cons_succ, List.set_cons_zero]
  apply free_val (by rfl)
  · intro W hE hp hF; obtain ⟨hcE, hfE, hnE⟩ := bcell hE; have hsE := hE.size; unfold opOb; go_wp2_with fail; exact ⟨rfl, _, rfl, rfl, ⟨Below.refl _ _, noJ_post _ _ _⟩⟩
  simp only [Act.put, List.setIfInBounds_toArray, List.set_cons_succ, List.set_cons_zero]
  apply free_val (by rfl)
  · intro W hE hp hF; obtain ⟨hcE, hfE, hnE⟩ := bcell hE; have hsE := hE.size; unfold opOb; go_wp2_with fail; exact ⟨rfl, _, rfl, rfl, ⟨Below.refl _ _, noJ_post _ _ _⟩⟩
  simp only [Act.put, List.setIfInBounds_toArray, List.set_cons_succ, List.set_cons_zero]
  apply free_val (by rfl)
  · intro W hE hp hF; obtain ⟨hcE, hfE, hnE⟩ := bcell hE; have hsE := hE.size; unfold opOb; go_wp2_with fail; exact ⟨rfl, _, rfl, rfl, ⟨Below.refl _ _, noJ_post _ _ _⟩⟩
  simp only [Act.put, List.setIfInBounds_toArray, List.set_cons_succ, List.set_cons_zero]
  apply free_val (by rfl)
  · intro W hE hp hF; obtain ⟨hcE, hfE, hnE⟩ := bcell hE; have hsE := hE.size; unfold opOb; go_wp2_with fail; exact ⟨rfl, _, rfl, rfl, ⟨Below.refl _ _, noJ_post _ _ _⟩⟩
  simp only [Act.put, List.setIfInBounds_toArray, List.set_cons_succ, List.set_cons_zero]
  apply free_val (by rfl)
  · intro W hE hp hF; obtain ⟨hcE, hfE, hnE⟩ := bcell hE; have hsE := hE.size; unfold opOb; go_wp2_with fail; exact ⟨rfl, _, rfl, rfl, ⟨Below.refl _ _, noJ_post _ _ _⟩⟩
  simp only [Act.put, List.setIfInBounds_toArray, List.set_cons_succ, List.set_cons_zero]
  apply free_val (by rfl)
  · intro W hE hp hF; obtain ⟨hcE, hfE, hnE⟩ := bcell hE; have hsE := hE.size; unfold opOb; go_wp2_with fail; exact ⟨rfl, _, rfl, rfl, ⟨Below.refl _ _, noJ_post _ _ _⟩⟩
  simp only [Act.put, List.setIfInBounds_toArray, List.set_cons_succ, List.set_cons_zero]
  apply free_val (by rfl)
  · intro W hE hp hF; obtain ⟨hcE, hfE, hnE⟩ := bcell hE; have hsE := hE.size; unfold opOb; go_wp2_with fail; exact ⟨rfl, _, rfl, rfl, ⟨Below.refl _ _, noJ_post _ _ _⟩⟩
  simp only [Act.put, List.setIfInBounds_toArray, List.set_cons_succ, List.set_cons_zero]
  apply free_val (by rfl)
  · intro W hE hp hF; obtain ⟨hcE, hfE, hnE⟩ := bcell hE; have hsE := hE.size; unfold opOb; go_wp2_with fail; exact ⟨rfl, _, rfl, rfl, ⟨Below.refl _ _, noJ_post _ _ _⟩⟩
  simp only [Act.put, List.setIfInBounds_toArray, List.set_cons_succ, List.set_cons_zero]
  apply free_val (by rfl)
  · intro W hE hp hF; obtain ⟨hcE, hfE, hnE⟩ := bcell hE; have hsE := hE.size; unfold opOb; go_wp2_with fail; exact ⟨rfl, _, rfl, rfl, ⟨Below.refl _ _, noJ_post _ _ _⟩⟩
  simp only [Act.put, List.setIfInBounds_toArray, List.set_cons_succ, List.set_cons_zero]
  apply free_val (by rfl)
  · intro W hE hp hF; obtain ⟨hcE, hfE, hnE⟩ := bcell hE; have hsE := hE.size; unfold opOb; go_wp2_with fail; exact ⟨rfl, _, rfl, rfl, ⟨Below.refl _ _, noJ_post _ _ _⟩⟩
  simp only [Act.put, List.setIfInBounds_toArray, List.set_cons_succ, List.set_cons_zero]
  apply free_val (by rfl)
  · intro W hE hp hF; obtain ⟨hcE, hfE, hnE⟩ := bcell hE; have hsE := hE.size; unfold opOb; go_wp2_with fail; (go_at_call 84; refine (HC.out _).mono ?_; rintro e WX ⟨rfl, hbX⟩); go_wp2_with fail; exact ⟨rfl, _, rfl, rfl, ⟨hbX, noJ_post _ _ _⟩⟩
  simp only [Act.put, List.setIfInBounds_toArray, List.set_cons_succ, List.set_cons_zero]
  apply free_val (by rfl)
  · intro W hE hp hF; obtain ⟨hcE, hfE, hnE⟩ := bcell hE; have hsE := hE.size; unfold opOb; go_wp2_with fail; exact ⟨rfl, _, rfl, rfl, ⟨Below.refl _ _, noJ_post _ _ _⟩⟩
  simp only [Act.put, List.setIfInBounds_toArray, List.set_cons_succ, List.set_cons_zero]
  apply free_val (by rfl)
  · intro W hE hp hF; obtain ⟨hcE, hfE, hnE⟩ := bcell hE; have hsE := hE.size; unfold opOb; go_wp2_with fail; exact ⟨rfl, _, rfl, rfl, ⟨Below.refl _ _, noJ_post _ _ _⟩⟩
  simp only [Act.put, List.setIfInBounds_toArray, List.set_cons_succ, List.set_cons_zero]
  apply free_late (by rfl) (by rfl)
  · intro W; unfold opOb; go_wp2_with fail; exact ⟨rfl, _, rfl, rfl, rfl⟩
  simp only [Act.put, List.setIfInBounds_toArray, List.set_cons_succ, List.set_cons_zero]
  apply free_end
  intro w4 hEw4 hJF hGF
  clear hJF
  clear hGF
  have hr4 := R3.out.to hEw4
  have hlt4 := hr4.lt
  obtain ⟨b, o, e, _, c0, c1', c2⟩ := ow_cells (hr4.rd Ow.enc_len hlt4) hj
  obtain ⟨rfl, rfl⟩ : g1 = b ∧ 0 = o := by simpa using e
  simp only [Nat.zero_add] at c0 c1' c2
  have f1 := hr4.frozen (j * 3 + 1)
  have f2 := hr4.frozen (j * 3 + 2)
  have r4 := (hr4.set (j := j * 3 + 1) (.int .i64 rn)).set (j := j * 3 + 2) (.int .i64 rd)
  have e5 : ((xs.flatMap Ow.enc).set (j * 3 + 1) (.int .i64 rn)).set (j * 3 + 2) (.int .i64 rd) = (xs.set j ⟨t, rn, rd⟩).flatMap Ow.enc := set_ow2 xs j hj hts
  rw [e5] at r4
  have R4 := Lib.hid r4
  have hb4 : Below w.heap.size w w4 := hb3.trans (hEw4.mono hs3)
  have hs4 := hb4.size
  clear r4 hr4 e5 e
  go_wp2_with fail
  refine normal_of ?_
  go_wp2_with fail
  go_ret
  exact GivenAt.mk' List.length_set k1 k2 hg1 R4.out (by repeat' (first | (with_reducible exact Below.refl _ _) | (with_reducible refine Below.alloc ?_ ?_ _) | (with_reducible refine Below.setCell ?_ ?_ _) | (with_reducible refine Below.drew ?_) | (with_reducible refine Below.trans ?_ (Below.mono (by with_reducible assumption) ?_)) | omega | (simp; done) | (simp; omega)))
theorem gets_any (ad : Addr) (c : Nat) (xs : List Ow) (t : ByteArray) (n d : Int) (w : World) (h : Rd w w.heap.size (some ad) 3 Ow.enc xs) (hx : xs.length ≤ 1048575)
    (hb : ∀ j, j < xs.length → (el xs j).s = t → 1 ≤ (el xs j).n ∧ (el xs j).n ≤ 1000000 ∧ 1 ≤ (el xs j).d ∧ (el xs j).d ≤ 1000000) (hnd : (1 ≤ n ∧ n ≤ 1000000) ∧ 1 ≤ d ∧ d ≤ 1000000) :
    Calls Tryd.prog 82 #[.slice (some ad) xs.length c, .string t, .int .i64 n, .int .i64 d] w fun e w' => GivenAt w (getsL xs t n d) e w' := by
  rcases owAtN_or xs t xs.length with ⟨_, hno⟩ | ⟨j, hj, _, h1, h2⟩
  · exact gets_no ad c xs t n d w h hx hno (by omega) (by omega) (by omega) (by omega)
  · have hbj := hb j hj h1
    have m1 := Int.mul_pos (show 0 < (el xs j).n by omega) (show 0 < d by omega)
    have m2 := Int.mul_pos (show 0 < n by omega) (show 0 < (el xs j).d by omega)
    exact gets_at ad c xs t n d j w h hx hj h1 h2 ⟨⟨⟨by omega, by omega⟩, by omega, by omega⟩, ⟨by omega, by omega⟩, by omega, by omega⟩ (by omega)
end Go.Proofs.YtimdnihadhbjpaaDoor
