/- Law: a booking is put (chapter 20). -/
import Derived.Test.YtkhldmicejdggaaPutS
import Derived.Test.YtkhldmicejdggaaDropLaw
import Derived.Test.YtkhldmicejdggaaCur
set_option linter.unusedSimpArgs false
set_option linter.unusedVariables false
namespace Go.Proofs.Ytkhldmicejdggaa
open Go.RowKit Go.Sort Go.Salt
attribute [local go_sem] cell_rg
def TupAt (base : Nat) (E : TypeId) (cs : List Value) (n : Nat) (b : Bool) (u : Value) (W : World) : Prop := ∃ A c, u = .tuple #[.slice A n c, .bool b] ∧ OwnAt W base E cs n A
def SlAt (base : Nat) (E : TypeId) (cs : List Value) (n : Nat) (u : Value) (W : World) : Prop := ∃ A c, u = .slice A n c ∧ OwnAt W base E cs n A
theorem pbL_len (xs : List Bk) (x : Bk) : (pbL xs x).length ≤ 20 := by
  unfold pbL
  split
  · rename_i h
    simp only [pbB, Bool.and_eq_true] at h
    exact (bksOK_bd h.2).1
  · simp
set_option maxRecDepth 100000 in
set_option maxHeartbeats 8000000 in
theorem FnExactPutBooking_law (A : Option Addr) (c : Nat) (xs : List Bk) (d k q : Int) (w : World) (h : Rd w w.heap.size A 3 Bk.enc xs) (hm : xs.length ≤ 9223372036854775807) :
    Calls Try.prog 10 #[.slice A xs.length c, .agg #[.int .i64 d, .int .i64 k, .int .i64 q]] w fun e w' => e = .returned (.bool true) ∧ Below w.heap.size w w' := by
  by_cases hx : xs.length ≤ 1048576
  · have Hy := Lib.hid (show (pbL xs ⟨d, k, q⟩).length ≤ 1048576 from Nat.le_trans (pbL_len xs _) (by omega))
    have Hx := Lib.hid (show xs.length ≤ 2097152 by omega)
    have Hy2 := Lib.hid (show (pbL xs ⟨d, k, q⟩).length ≤ 2097152 by have := Hy.out; omega)
    have hz1 := mkz_pos xs.length 3
    have hz2 := mkz_pos (pbL xs ⟨d, k, q⟩).length 3
    go_enter Try.func10, Try.ntmps10
    go_wp2_with (first | (go_at_call 13; refine (szBookingS_le _ _ _ _ hx).mono ?_; rintro e wX ⟨rfl, rfl⟩))
    refine cut_world (fun W => Below w.heap.size w W ∧ Row W w.heap.size 43 [.int .i64 d, .int .i64 k, .int .i64 q]) ⟨(by repeat' (first | (with_reducible exact Below.refl _ _) | (with_reducible refine Below.alloc ?_ ?_ _) | (with_reducible refine Below.setCell ?_ ?_ _) | (with_reducible refine Below.drew ?_) | (with_reducible refine Below.trans ?_ (Below.mono (by with_reducible assumption) ?_)) | omega | (simp; done) | (simp; omega))), Row.new w _ #[.int .i64 d, .int .i64 k, .int .i64 q]⟩ ?_
    rintro p1 ⟨hbp1, hbx1⟩
    obtain ⟨c0, c1, c2⟩ := row3b hbx1
    have hzB1 := hbx1.lt
    apply wp_region_chain 9 [] [] noJ (fun W W' => Below W.heap.size W W') [Sum.inl _, Sum.inr (fun u W => ∃ g, u = .slice (some ⟨g, 0, none⟩) xs.length xs.length ∧ p1.heap.size ≤ g ∧ Row W g 45 (xs.flatMap Bk.enc)), Sum.inl _, Sum.inl _, Sum.inr (fun u W => TupAt p1.heap.size 45 ((pbL xs ⟨d, k, q⟩).flatMap Bk.enc) (pbL xs ⟨d, k, q⟩).length (pbB xs ⟨d, k, q⟩) u W), Sum.inr (fun u W => TupAt p1.heap.size 45 ((pbL xs ⟨d, k, q⟩).flatMap Bk.enc) (pbL xs ⟨d, k, q⟩).length (pbB xs ⟨d, k, q⟩) u W), Sum.inr (fun u W => SlAt p1.heap.size 45 ((pbL xs ⟨d, k, q⟩).flatMap Bk.enc) (pbL xs ⟨d, k, q⟩).length u W), Sum.inl _, Sum.inr (fun u W => SlAt p1.heap.size 45 ((pbL xs ⟨d, k, q⟩).flatMap Bk.enc) (pbL xs ⟨d, k, q⟩).length u W)] (by kernel_rfl) (by kernel_rfl) (fun _ _ _ => below_trans) (below_draw _) trivial ?_
    rotate_left 4
    simp only [List.take_succ_cons, List.take_zero, List.drop_succ_cons, List.drop_zero]
    apply free_val (by rfl)
    · intro W hE hp hF; obtain ⟨hcE, hfE, hnE⟩ := bcell hE; have hsE := hE.size; unfold opOb; go_wp2_with fail; exact ⟨rfl, _, rfl, rfl, ⟨Below.refl _ _, noJ_post _ _ _⟩⟩
    simp only [Act.put, List.setIfInBounds_toArray, List.set_cons_succ, List.set_cons_zero]
    apply free_has (by rfl)
    · rintro u W W' hb ⟨gX1, rfl, hlX1, rowX1⟩; exact ⟨gX1, rfl, hlX1, (rowX1.to hb)⟩
    · intro W hE hp hF; obtain ⟨hcE, hfE, hnE⟩ := bcell hE; have hsE := hE.size; unfold opOb; go_wp2_with fail; (go_at_call 15; refine (toBookingS_cap _ _ _ _ (h.to (hbp1.trans (hE.mono hbp1.size))) hx).mono ?_; rintro e WX ⟨gR, rfl, hlR, rowR, hbX⟩); go_wp2_with fail; exact ⟨rfl, _, rfl, ⟨_, rfl, (by omega), rowR⟩, ⟨hbX, noJ_post _ _ _⟩⟩
    intro uX1
    simp only [Act.put, List.setIfInBounds_toArray, List.set_cons_succ, List.set_cons_zero]
    apply free_val (by rfl)
    · intro W hE hp hF; obtain ⟨hcE, hfE, hnE⟩ := bcell hE; have hsE := hE.size; unfold opOb; go_wp2_with fail; exact ⟨rfl, _, rfl, rfl, ⟨Below.refl _ _, noJ_post _ _ _⟩⟩
    simp only [Act.put, List.setIfInBounds_toArray, List.set_cons_succ, List.set_cons_zero]
    apply free_val (by rfl)
    · intro W hE hp hF; obtain ⟨hcE, hfE, hnE⟩ := bcell hE; have hsE := hE.size; unfold opOb; go_wp2_with fail; (go_at_call 33; refine (toBooking_any _ _ _ _).mono ?_; rintro e WX ⟨rfl, hbX⟩); go_wp2_with fail; exact ⟨rfl, _, rfl, rfl, ⟨hbX, noJ_post _ _ _⟩⟩
    simp only [Act.put, List.setIfInBounds_toArray, List.set_cons_succ, List.set_cons_zero]
    apply free_has (by rfl)
    · rintro u W W' hb ⟨AX2, cX2, rfl, ownX2⟩; exact ⟨AX2, cX2, rfl, (ownX2.to hb)⟩
    · intro W hE hp hF; obtain ⟨hcE, hfE, hnE⟩ := bcell hE; have hsE := hE.size; obtain ⟨gX1, rfl, hlX1, rowX1⟩ := hF.2 (by kernel_rfl); unfold opOb; go_wp2_with fail; (go_at_call 32; refine (sPutBooking_any gX1 0 xs.length xs d k q _ (rowX1.rd Bk.enc_len rowX1.lt) hx (Nat.le_refl _) hm).mono ?_; rintro e WX ⟨A3, c3, rfl, own3, hbX⟩); go_wp2_with fail; exact ⟨rfl, _, rfl, ⟨A3, c3, rfl, own3.mono hsE⟩, ⟨hbX, noJ_post _ _ _⟩⟩
    intro uX2
    simp only [Act.put, List.setIfInBounds_toArray, List.set_cons_succ, List.set_cons_zero]
    apply free_has (by rfl)
    · rintro u W W' hb ⟨AX2, cX2, rfl, ownX2⟩; exact ⟨AX2, cX2, rfl, (ownX2.to hb)⟩
    · intro W hE hp hF; obtain ⟨hcE, hfE, hnE⟩ := bcell hE; have hsE := hE.size; unfold opOb; go_wp2_with fail; exact ⟨rfl, _, rfl, hF.2 (by kernel_rfl), ⟨Below.refl _ _, noJ_post _ _ _⟩⟩
    intro uX3
    simp only [Act.put, List.setIfInBounds_toArray, List.set_cons_succ, List.set_cons_zero]
    apply free_has (by rfl)
    · rintro u W W' hb ⟨AX4, cX4, rfl, ownX4⟩; exact ⟨AX4, cX4, rfl, (ownX4.to hb)⟩
    · intro W hE hp hF; obtain ⟨hcE, hfE, hnE⟩ := bcell hE; have hsE := hE.size; obtain ⟨AX3, cX3, rfl, ownX3⟩ := hF.2 (by kernel_rfl); unfold opOb; go_wp2_with fail; exact ⟨rfl, _, rfl, ⟨_, _, rfl, ownX3⟩, ⟨Below.refl _ _, noJ_post _ _ _⟩⟩
    intro uX4
    simp only [Act.put, List.setIfInBounds_toArray, List.set_cons_succ, List.set_cons_zero]
    apply free_val (by rfl)
    · intro W hE hp hF; obtain ⟨hcE, hfE, hnE⟩ := bcell hE; have hsE := hE.size; obtain ⟨AX3, cX3, rfl, ownX3⟩ := hF.1.2 (by kernel_rfl); unfold opOb; go_wp2_with fail; exact ⟨rfl, _, rfl, rfl, ⟨Below.refl _ _, noJ_post _ _ _⟩⟩
    simp only [Act.put, List.setIfInBounds_toArray, List.set_cons_succ, List.set_cons_zero]
    apply free_has (by rfl)
    · rintro u W W' hb ⟨AX4, cX4, rfl, ownX4⟩; exact ⟨AX4, cX4, rfl, (ownX4.to hb)⟩
    · intro W hE hp hF; obtain ⟨hcE, hfE, hnE⟩ := bcell hE; have hsE := hE.size; unfold opOb; go_wp2_with fail; exact ⟨rfl, _, rfl, hF.2 (by kernel_rfl), ⟨Below.refl _ _, noJ_post _ _ _⟩⟩
    intro uX5
    simp only [Act.put, List.setIfInBounds_toArray, List.set_cons_succ, List.set_cons_zero]
    apply free_end
    intro p2 hEp2 hJF hGF
    clear hJF
    obtain ⟨gX1, rfl, hlX1, rowX1⟩ := hGF.1.1.1.1.2
    obtain ⟨AX2, cX2, rfl, ownX2⟩ := hGF.1.1.1.2
    obtain ⟨AX3, cX3, rfl, ownX3⟩ := hGF.1.1.2
    obtain ⟨AX4, cX4, rfl, ownX4⟩ := hGF.1.2
    obtain ⟨AX5, cX5, rfl, ownX5⟩ := hGF.2
    clear hGF
    have hs12 := hEp2.size
    have hs1 := hbp1.size
    have ownS := ownX5.mono (b' := w.heap.size + 1) (by omega)
    have hbp2 := hbp1.trans (hEp2.mono hs1)
    have hbx2 := hbx1.to hEp2
    clear c0 c1 c2 hbx1 rowX1 hEp2 ownX2 ownX3 ownX4 ownX5
    go_wp2_with fail
    refine normal_of ?_
    obtain ⟨c0, c1, c2⟩ := row3b hbx2
    have hzB2 := hbx2.lt
    have hsp2 := hbp2.size
    clear hs12 hlX1 hzB1 hs1 hbp1
    go_wp2_with (first | (go_at_call 13; refine (szBookingS_le _ _ _ _ hx).mono ?_; rintro e wX ⟨rfl, rfl⟩))
    (go_at_call 15; refine (toBookingS_any _ _ _ _ (h.to (by repeat' (first | (with_reducible exact Below.refl _ _) | (with_reducible refine Below.alloc ?_ ?_ _) | (with_reducible refine Below.setCell ?_ ?_ _) | (with_reducible refine Below.drew ?_) | (with_reducible refine Below.trans ?_ (Below.mono (by with_reducible assumption) ?_)) | omega | (simp; done) | (simp; omega)))) hx).mono ?_; rintro e w1 ⟨g1, cap1, rfl, hg1, row1, hb1⟩)
    (have hs1 := hb1.size; (try simp at hs1); obtain ⟨hc1, hf1, hn1⟩ := bcell hb1; (try have hz1_w_0 : w.heap.size < w1.heap.size := by omega); (try have hz1_w_1 : w.heap.size + 1 < w1.heap.size := by omega); (try have hz1_w_2 : w.heap.size + 2 < w1.heap.size := by omega); (try have hz1_w_2b : w.heap.size + 1 + 1 < w1.heap.size := by omega))
    have hz1B : w.heap.size < w1.heap.size := by omega
    go_wp2_with (first | (go_at_call 13; refine (szBookingS_le _ _ _ _ hx).mono ?_; rintro e wX ⟨rfl, rfl⟩))
    (go_at_call 33; refine (toBooking_any _ _ _ _).mono ?_; rintro e w2 ⟨rfl, hb2⟩)
    (have hs2 := hb2.size; (try simp at hs2); obtain ⟨hc2, hf2, hn2⟩ := bcell hb2; (try have hz2_w_0 : w.heap.size < w2.heap.size := by omega); (try have hz2_w_1 : w.heap.size + 1 < w2.heap.size := by omega); (try have hz2_w_2 : w.heap.size + 2 < w2.heap.size := by omega); (try have hz2_w_2b : w.heap.size + 1 + 1 < w2.heap.size := by omega); (try have hz2_w1_0 : w1.heap.size < w2.heap.size := by omega); (try have hz2_w1_1 : w1.heap.size + 1 < w2.heap.size := by omega); (try have hz2_w1_2 : w1.heap.size + 2 < w2.heap.size := by omega); (try have hz2_w1_2b : w1.heap.size + 1 + 1 < w2.heap.size := by omega))
    clear c0 c1 c2
    go_wp2_with (first | (go_at_call 13; refine (szBookingS_le _ _ _ _ hx).mono ?_; rintro e wX ⟨rfl, rfl⟩))
    (go_at_call 34; refine (iPutBooking_any _ _ _ _ _ _ _ (row1.rdTo Bk.enc_len (by repeat' (first | (with_reducible exact Below.refl _ _) | (with_reducible refine Below.alloc ?_ ?_ _) | (with_reducible refine Below.setCell ?_ ?_ _) | (with_reducible refine Below.drew ?_) | (with_reducible refine Below.trans ?_ (Below.mono (by with_reducible assumption) ?_)) | omega | (simp; done) | (simp; omega)))) hx).mono ?_; rintro e w3 ⟨A3, c3, rfl, own3, hb3⟩)
    (have hs3 := hb3.size; (try simp at hs3); obtain ⟨hc3, hf3, hn3⟩ := bcell hb3; (try have hz3_w_0 : w.heap.size < w3.heap.size := by omega); (try have hz3_w_1 : w.heap.size + 1 < w3.heap.size := by omega); (try have hz3_w_2 : w.heap.size + 2 < w3.heap.size := by omega); (try have hz3_w_2b : w.heap.size + 1 + 1 < w3.heap.size := by omega); (try have hz3_w1_0 : w1.heap.size < w3.heap.size := by omega); (try have hz3_w1_1 : w1.heap.size + 1 < w3.heap.size := by omega); (try have hz3_w1_2 : w1.heap.size + 2 < w3.heap.size := by omega); (try have hz3_w1_2b : w1.heap.size + 1 + 1 < w3.heap.size := by omega); (try have hz3_w2_0 : w2.heap.size < w3.heap.size := by omega); (try have hz3_w2_1 : w2.heap.size + 1 < w3.heap.size := by omega); (try have hz3_w2_2 : w2.heap.size + 2 < w3.heap.size := by omega); (try have hz3_w2_2b : w2.heap.size + 1 + 1 < w3.heap.size := by omega))
    go_wp2_with (first | (go_at_call 13; refine (szBookingS_le _ _ _ _ hx).mono ?_; rintro e wX ⟨rfl, rfl⟩))
    (go_at_call 17; refine (eqBookingS_same _ _ _ _ _ _ (own3.rd Bk.enc_len) ((ownS.to (by repeat' (first | (with_reducible exact Below.refl _ _) | (with_reducible refine Below.alloc ?_ ?_ _) | (with_reducible refine Below.setCell ?_ ?_ _) | (with_reducible refine Below.drew ?_) | (with_reducible refine Below.trans ?_ (Below.mono (by with_reducible assumption) ?_)) | omega | (simp; done) | (simp; omega)))).rd Bk.enc_len) Hy.out).mono ?_; rintro e w4 ⟨rfl, hb4⟩)
    (have hs4 := hb4.size; (try simp at hs4); obtain ⟨hc4, hf4, hn4⟩ := bcell hb4; (try have hz4_w_0 : w.heap.size < w4.heap.size := by omega); (try have hz4_w_1 : w.heap.size + 1 < w4.heap.size := by omega); (try have hz4_w_2 : w.heap.size + 2 < w4.heap.size := by omega); (try have hz4_w_2b : w.heap.size + 1 + 1 < w4.heap.size := by omega); (try have hz4_w1_0 : w1.heap.size < w4.heap.size := by omega); (try have hz4_w1_1 : w1.heap.size + 1 < w4.heap.size := by omega); (try have hz4_w1_2 : w1.heap.size + 2 < w4.heap.size := by omega); (try have hz4_w1_2b : w1.heap.size + 1 + 1 < w4.heap.size := by omega); (try have hz4_w2_0 : w2.heap.size < w4.heap.size := by omega); (try have hz4_w2_1 : w2.heap.size + 1 < w4.heap.size := by omega); (try have hz4_w2_2 : w2.heap.size + 2 < w4.heap.size := by omega); (try have hz4_w2_2b : w2.heap.size + 1 + 1 < w4.heap.size := by omega); (try have hz4_w3_0 : w3.heap.size < w4.heap.size := by omega); (try have hz4_w3_1 : w3.heap.size + 1 < w4.heap.size := by omega); (try have hz4_w3_2 : w3.heap.size + 2 < w4.heap.size := by omega); (try have hz4_w3_2b : w3.heap.size + 1 + 1 < w4.heap.size := by omega))
    go_wp2_with (first | (go_at_call 13; refine (szBookingS_le _ _ _ _ hx).mono ?_; rintro e wX ⟨rfl, rfl⟩))
    (go_at_call 15; refine (toBookingS_any _ _ _ _ (h.to (by repeat' (first | (with_reducible exact Below.refl _ _) | (with_reducible refine Below.alloc ?_ ?_ _) | (with_reducible refine Below.setCell ?_ ?_ _) | (with_reducible refine Below.drew ?_) | (with_reducible refine Below.trans ?_ (Below.mono (by with_reducible assumption) ?_)) | omega | (simp; done) | (simp; omega)))) hx).mono ?_; rintro e w5 ⟨g5, cap5, rfl, hg5, row5, hb5⟩)
    (have hs5 := hb5.size; (try simp at hs5); obtain ⟨hc5, hf5, hn5⟩ := bcell hb5; (try have hz5_w_0 : w.heap.size < w5.heap.size := by omega); (try have hz5_w_1 : w.heap.size + 1 < w5.heap.size := by omega); (try have hz5_w_2 : w.heap.size + 2 < w5.heap.size := by omega); (try have hz5_w_2b : w.heap.size + 1 + 1 < w5.heap.size := by omega); (try have hz5_w1_0 : w1.heap.size < w5.heap.size := by omega); (try have hz5_w1_1 : w1.heap.size + 1 < w5.heap.size := by omega); (try have hz5_w1_2 : w1.heap.size + 2 < w5.heap.size := by omega); (try have hz5_w1_2b : w1.heap.size + 1 + 1 < w5.heap.size := by omega); (try have hz5_w2_0 : w2.heap.size < w5.heap.size := by omega); (try have hz5_w2_1 : w2.heap.size + 1 < w5.heap.size := by omega); (try have hz5_w2_2 : w2.heap.size + 2 < w5.heap.size := by omega); (try have hz5_w2_2b : w2.heap.size + 1 + 1 < w5.heap.size := by omega); (try have hz5_w3_0 : w3.heap.size < w5.heap.size := by omega); (try have hz5_w3_1 : w3.heap.size + 1 < w5.heap.size := by omega); (try have hz5_w3_2 : w3.heap.size + 2 < w5.heap.size := by omega); (try have hz5_w3_2b : w3.heap.size + 1 + 1 < w5.heap.size := by omega); (try have hz5_w4_0 : w4.heap.size < w5.heap.size := by omega); (try have hz5_w4_1 : w4.heap.size + 1 < w5.heap.size := by omega); (try have hz5_w4_2 : w4.heap.size + 2 < w5.heap.size := by omega); (try have hz5_w4_2b : w4.heap.size + 1 + 1 < w5.heap.size := by omega))
    go_wp2_with (first | (go_at_call 13; refine (szBookingS_le _ _ _ _ hx).mono ?_; rintro e wX ⟨rfl, rfl⟩))
    (go_at_call 17; refine (eqBookingS_same _ _ _ _ _ _ (row1.rdTo Bk.enc_len (by repeat' (first | (with_reducible exact Below.refl _ _) | (with_reducible refine Below.alloc ?_ ?_ _) | (with_reducible refine Below.setCell ?_ ?_ _) | (with_reducible refine Below.drew ?_) | (with_reducible refine Below.trans ?_ (Below.mono (by with_reducible assumption) ?_)) | omega | (simp; done) | (simp; omega)))) (row5.rdTo Bk.enc_len (by repeat' (first | (with_reducible exact Below.refl _ _) | (with_reducible refine Below.alloc ?_ ?_ _) | (with_reducible refine Below.setCell ?_ ?_ _) | (with_reducible refine Below.drew ?_) | (with_reducible refine Below.trans ?_ (Below.mono (by with_reducible assumption) ?_)) | omega | (simp; done) | (simp; omega)))) hx).mono ?_; rintro e w6 ⟨rfl, hb6⟩)
    (have hs6 := hb6.size; (try simp at hs6); obtain ⟨hc6, hf6, hn6⟩ := bcell hb6; (try have hz6_w_0 : w.heap.size < w6.heap.size := by omega); (try have hz6_w_1 : w.heap.size + 1 < w6.heap.size := by omega); (try have hz6_w_2 : w.heap.size + 2 < w6.heap.size := by omega); (try have hz6_w_2b : w.heap.size + 1 + 1 < w6.heap.size := by omega); (try have hz6_w1_0 : w1.heap.size < w6.heap.size := by omega); (try have hz6_w1_1 : w1.heap.size + 1 < w6.heap.size := by omega); (try have hz6_w1_2 : w1.heap.size + 2 < w6.heap.size := by omega); (try have hz6_w1_2b : w1.heap.size + 1 + 1 < w6.heap.size := by omega); (try have hz6_w2_0 : w2.heap.size < w6.heap.size := by omega); (try have hz6_w2_1 : w2.heap.size + 1 < w6.heap.size := by omega); (try have hz6_w2_2 : w2.heap.size + 2 < w6.heap.size := by omega); (try have hz6_w2_2b : w2.heap.size + 1 + 1 < w6.heap.size := by omega); (try have hz6_w3_0 : w3.heap.size < w6.heap.size := by omega); (try have hz6_w3_1 : w3.heap.size + 1 < w6.heap.size := by omega); (try have hz6_w3_2 : w3.heap.size + 2 < w6.heap.size := by omega); (try have hz6_w3_2b : w3.heap.size + 1 + 1 < w6.heap.size := by omega); (try have hz6_w4_0 : w4.heap.size < w6.heap.size := by omega); (try have hz6_w4_1 : w4.heap.size + 1 < w6.heap.size := by omega); (try have hz6_w4_2 : w4.heap.size + 2 < w6.heap.size := by omega); (try have hz6_w4_2b : w4.heap.size + 1 + 1 < w6.heap.size := by omega); (try have hz6_w5_0 : w5.heap.size < w6.heap.size := by omega); (try have hz6_w5_1 : w5.heap.size + 1 < w6.heap.size := by omega); (try have hz6_w5_2 : w5.heap.size + 2 < w6.heap.size := by omega); (try have hz6_w5_2b : w5.heap.size + 1 + 1 < w6.heap.size := by omega))
    go_wp2_with (first | (go_at_call 13; refine (szBookingS_le _ _ _ _ hx).mono ?_; rintro e wX ⟨rfl, rfl⟩))
    (go_at_call 30; refine (markBookingS_own _ _ _ _ _ _ (OwnAt.row hg1 (row1.to (by repeat' (first | (with_reducible exact Below.refl _ _) | (with_reducible refine Below.alloc ?_ ?_ _) | (with_reducible refine Below.setCell ?_ ?_ _) | (with_reducible refine Below.drew ?_) | (with_reducible refine Below.trans ?_ (Below.mono (by with_reducible assumption) ?_)) | omega | (simp; done) | (simp; omega))))) (flat_len Bk.enc_len _) Hx.out).mono ?_; rintro e w7 ⟨rfl, own7, hg7, hb7⟩; have hs7 := hb7.size; (try have hz7_w_0 : w.heap.size < w7.heap.size := by omega))
    have own7' := (own3.to (show Below w3.heap.size w3 w6 from (by repeat' (first | (with_reducible exact Below.refl _ _) | (with_reducible refine Below.alloc ?_ ?_ _) | (with_reducible refine Below.setCell ?_ ?_ _) | (with_reducible refine Below.drew ?_) | (with_reducible refine Below.trans ?_ (Below.mono (by with_reducible assumption) ?_)) | omega | (simp; done) | (simp; omega))))).other hg7 (by have := row1.lt; show g1 < _; omega)
    go_wp2_with (first | (go_at_call 13; refine (szBookingS_le _ _ _ _ hx).mono ?_; rintro e wX ⟨rfl, rfl⟩))
    (go_at_call 17; refine (eqBookingS_same _ _ _ _ _ _ (own7'.rd Bk.enc_len) ((ownS.to (by repeat' (first | (with_reducible exact Below.refl _ _) | (with_reducible refine Below.alloc ?_ ?_ _) | (with_reducible refine Below.setCell ?_ ?_ _) | (with_reducible refine Below.drew ?_) | (with_reducible refine Below.trans ?_ (Below.mono (by with_reducible assumption) ?_)) | omega | (simp; done) | (simp; omega)))).rd Bk.enc_len) Hy.out).mono ?_; rintro e w8 ⟨rfl, hb8⟩)
    (have hs8 := hb8.size; (try simp at hs8); obtain ⟨hc8, hf8, hn8⟩ := bcell hb8; (try have hz8_w_0 : w.heap.size < w8.heap.size := by omega); (try have hz8_w_1 : w.heap.size + 1 < w8.heap.size := by omega); (try have hz8_w_2 : w.heap.size + 2 < w8.heap.size := by omega); (try have hz8_w_2b : w.heap.size + 1 + 1 < w8.heap.size := by omega); (try have hz8_w1_0 : w1.heap.size < w8.heap.size := by omega); (try have hz8_w1_1 : w1.heap.size + 1 < w8.heap.size := by omega); (try have hz8_w1_2 : w1.heap.size + 2 < w8.heap.size := by omega); (try have hz8_w1_2b : w1.heap.size + 1 + 1 < w8.heap.size := by omega); (try have hz8_w2_0 : w2.heap.size < w8.heap.size := by omega); (try have hz8_w2_1 : w2.heap.size + 1 < w8.heap.size := by omega); (try have hz8_w2_2 : w2.heap.size + 2 < w8.heap.size := by omega); (try have hz8_w2_2b : w2.heap.size + 1 + 1 < w8.heap.size := by omega); (try have hz8_w3_0 : w3.heap.size < w8.heap.size := by omega); (try have hz8_w3_1 : w3.heap.size + 1 < w8.heap.size := by omega); (try have hz8_w3_2 : w3.heap.size + 2 < w8.heap.size := by omega); (try have hz8_w3_2b : w3.heap.size + 1 + 1 < w8.heap.size := by omega); (try have hz8_w4_0 : w4.heap.size < w8.heap.size := by omega); (try have hz8_w4_1 : w4.heap.size + 1 < w8.heap.size := by omega); (try have hz8_w4_2 : w4.heap.size + 2 < w8.heap.size := by omega); (try have hz8_w4_2b : w4.heap.size + 1 + 1 < w8.heap.size := by omega); (try have hz8_w5_0 : w5.heap.size < w8.heap.size := by omega); (try have hz8_w5_1 : w5.heap.size + 1 < w8.heap.size := by omega); (try have hz8_w5_2 : w5.heap.size + 2 < w8.heap.size := by omega); (try have hz8_w5_2b : w5.heap.size + 1 + 1 < w8.heap.size := by omega); (try have hz8_w6_0 : w6.heap.size < w8.heap.size := by omega); (try have hz8_w6_1 : w6.heap.size + 1 < w8.heap.size := by omega); (try have hz8_w6_2 : w6.heap.size + 2 < w8.heap.size := by omega); (try have hz8_w6_2b : w6.heap.size + 1 + 1 < w8.heap.size := by omega); (try have hz8_w7_0 : w7.heap.size < w8.heap.size := by omega); (try have hz8_w7_1 : w7.heap.size + 1 < w8.heap.size := by omega); (try have hz8_w7_2 : w7.heap.size + 2 < w8.heap.size := by omega); (try have hz8_w7_2b : w7.heap.size + 1 + 1 < w8.heap.size := by omega))
    go_wp2_with (first | (go_at_call 13; refine (szBookingS_le _ _ _ _ hx).mono ?_; rintro e wX ⟨rfl, rfl⟩))
    (go_at_call 30; refine (markBookingS_own _ _ _ _ _ _ (own7'.to (by repeat' (first | (with_reducible exact Below.refl _ _) | (with_reducible refine Below.alloc ?_ ?_ _) | (with_reducible refine Below.setCell ?_ ?_ _) | (with_reducible refine Below.drew ?_) | (with_reducible refine Below.trans ?_ (Below.mono (by with_reducible assumption) ?_)) | omega | (simp; done) | (simp; omega)))) (flat_len Bk.enc_len _) Hy2.out).mono ?_; rintro e w9 ⟨rfl, own9, hg9, hb9⟩; have hs9 := hb9.size; (try have hz9_w_0 : w.heap.size < w9.heap.size := by omega))
    have hbx9 : Row w9 w.heap.size 43 [.int .i64 d, .int .i64 k, .int .i64 q] := (hbx2.to (show Below p2.heap.size p2 w9 from (by repeat' (first | (with_reducible exact Below.refl _ _) | (with_reducible refine Below.alloc ?_ ?_ _) | (with_reducible refine Below.setCell ?_ ?_ _) | (with_reducible refine Below.drew ?_) | (with_reducible refine Below.trans ?_ (Below.mono (by with_reducible assumption) ?_)) | omega | (simp; done) | (simp; omega)))))
    have ownS9 := Lib.hid (ownS.to (show Below p2.heap.size p2 w9 from (by repeat' (first | (with_reducible exact Below.refl _ _) | (with_reducible refine Below.alloc ?_ ?_ _) | (with_reducible refine Below.setCell ?_ ?_ _) | (with_reducible refine Below.drew ?_) | (with_reducible refine Below.trans ?_ (Below.mono (by with_reducible assumption) ?_)) | omega | (simp; done) | (simp; omega)))))
    have own9' := Lib.hid (own9.mono (b' := w.heap.size + 1) (by omega))
    have hbp9 : Below w.heap.size w w9 := (by repeat' (first | (with_reducible exact Below.refl _ _) | (with_reducible refine Below.alloc ?_ ?_ _) | (with_reducible refine Below.setCell ?_ ?_ _) | (with_reducible refine Below.drew ?_) | (with_reducible refine Below.trans ?_ (Below.mono (by with_reducible assumption) ?_)) | omega | (simp; done) | (simp; omega)))
    have hs9' := hbp9.size
    obtain ⟨c0, c1, c2⟩ := row3b hbx9
    have hzB9 := hbx9.lt
    go_upto_region 24 with (first | (go_at_call 31; refine (heldBookingS_own _ _ _ _ _ (own9.to (by repeat' (first | (with_reducible exact Below.refl _ _) | (with_reducible refine Below.alloc ?_ ?_ _) | (with_reducible refine Below.setCell ?_ ?_ _) | (with_reducible refine Below.drew ?_) | (with_reducible refine Below.trans ?_ (Below.mono (by with_reducible assumption) ?_)) | omega | (simp; done) | (simp; omega)))) Hy2.out).mono ?_; rintro e wX ⟨rfl, rfl⟩))
    clear own9 own7' own3 ownS hg9 hg7 own7 row1 row5 hbx2 hb1 hb2 hb3 hb4 hb5 hb6 hb7 hb8 hb9 hc1 hc2 hc3 hc4 hc5 hc6 hc8 hf1 hf2 hf3 hf4 hf5 hf6 hf8 hn1 hn2 hn3 hn4 hn5 hn6 hn8 hbp2 hsp2 hzB2
    apply wp_region_chain 9 [] [] noJ (fun W W' => Below W.heap.size W W') [Sum.inl _, Sum.inr (fun u W => ∃ g, u = .slice (some ⟨g, 0, none⟩) xs.length xs.length ∧ w9.heap.size ≤ g ∧ Row W g 45 (xs.flatMap Bk.enc)), Sum.inl _, Sum.inl _, Sum.inr (fun u W => TupAt w9.heap.size 45 ((pbL xs ⟨d, k, q⟩).flatMap Bk.enc) (pbL xs ⟨d, k, q⟩).length (pbB xs ⟨d, k, q⟩) u W), Sum.inr (fun u W => TupAt w9.heap.size 45 ((pbL xs ⟨d, k, q⟩).flatMap Bk.enc) (pbL xs ⟨d, k, q⟩).length (pbB xs ⟨d, k, q⟩) u W), Sum.inr (fun u W => SlAt w9.heap.size 45 ((pbL xs ⟨d, k, q⟩).flatMap Bk.enc) (pbL xs ⟨d, k, q⟩).length u W), Sum.inl _, Sum.inr (fun u W => SlAt w9.heap.size 45 ((pbL xs ⟨d, k, q⟩).flatMap Bk.enc) (pbL xs ⟨d, k, q⟩).length u W)] (by kernel_rfl) (by kernel_rfl) (fun _ _ _ => below_trans) (below_draw _) trivial ?_
    rotate_left 4
    simp only [List.take_succ_cons, List.take_zero, List.drop_succ_cons, List.drop_zero]
    apply free_val (by rfl)
    · intro W hE hp hF; obtain ⟨hcE, hfE, hnE⟩ := bcell hE; have hsE := hE.size; unfold opOb; go_wp2_with fail; exact ⟨rfl, _, rfl, rfl, ⟨Below.refl _ _, noJ_post _ _ _⟩⟩
    simp only [Act.put, List.setIfInBounds_toArray, List.set_cons_succ, List.set_cons_zero]
    apply free_has (by rfl)
    · rintro u W W' hb ⟨gX6, rfl, hlX6, rowX6⟩; exact ⟨gX6, rfl, hlX6, (rowX6.to hb)⟩
    · intro W hE hp hF; obtain ⟨hcE, hfE, hnE⟩ := bcell hE; have hsE := hE.size; unfold opOb; go_wp2_with fail; (go_at_call 15; refine (toBookingS_cap _ _ _ _ (h.to (hbp9.trans (hE.mono hbp9.size))) hx).mono ?_; rintro e WX ⟨gR, rfl, hlR, rowR, hbX⟩); go_wp2_with fail; exact ⟨rfl, _, rfl, ⟨_, rfl, (by omega), rowR⟩, ⟨hbX, noJ_post _ _ _⟩⟩
    intro uX6
    simp only [Act.put, List.setIfInBounds_toArray, List.set_cons_succ, List.set_cons_zero]
    apply free_val (by rfl)
    · intro W hE hp hF; obtain ⟨hcE, hfE, hnE⟩ := bcell hE; have hsE := hE.size; unfold opOb; go_wp2_with fail; exact ⟨rfl, _, rfl, rfl, ⟨Below.refl _ _, noJ_post _ _ _⟩⟩
    simp only [Act.put, List.setIfInBounds_toArray, List.set_cons_succ, List.set_cons_zero]
    apply free_val (by rfl)
    · intro W hE hp hF; obtain ⟨hcE, hfE, hnE⟩ := bcell hE; have hsE := hE.size; unfold opOb; go_wp2_with fail; (go_at_call 33; refine (toBooking_any _ _ _ _).mono ?_; rintro e WX ⟨rfl, hbX⟩); go_wp2_with fail; exact ⟨rfl, _, rfl, rfl, ⟨hbX, noJ_post _ _ _⟩⟩
    simp only [Act.put, List.setIfInBounds_toArray, List.set_cons_succ, List.set_cons_zero]
    apply free_has (by rfl)
    · rintro u W W' hb ⟨AX7, cX7, rfl, ownX7⟩; exact ⟨AX7, cX7, rfl, (ownX7.to hb)⟩
    · intro W hE hp hF; obtain ⟨hcE, hfE, hnE⟩ := bcell hE; have hsE := hE.size; obtain ⟨gX6, rfl, hlX6, rowX6⟩ := hF.2 (by kernel_rfl); unfold opOb; go_wp2_with fail; (go_at_call 34; refine (iPutBooking_any _ _ xs d k q _ (rowX6.rd Bk.enc_len rowX6.lt) hx).mono ?_; rintro e WX ⟨A3, c3, rfl, own3, hbX⟩); go_wp2_with fail; exact ⟨rfl, _, rfl, ⟨A3, c3, rfl, own3.mono hsE⟩, ⟨hbX, noJ_post _ _ _⟩⟩
    intro uX7
    simp only [Act.put, List.setIfInBounds_toArray, List.set_cons_succ, List.set_cons_zero]
    apply free_has (by rfl)
    · rintro u W W' hb ⟨AX7, cX7, rfl, ownX7⟩; exact ⟨AX7, cX7, rfl, (ownX7.to hb)⟩
    · intro W hE hp hF; obtain ⟨hcE, hfE, hnE⟩ := bcell hE; have hsE := hE.size; unfold opOb; go_wp2_with fail; exact ⟨rfl, _, rfl, hF.2 (by kernel_rfl), ⟨Below.refl _ _, noJ_post _ _ _⟩⟩
    intro uX8
    simp only [Act.put, List.setIfInBounds_toArray, List.set_cons_succ, List.set_cons_zero]
    apply free_has (by rfl)
    · rintro u W W' hb ⟨AX9, cX9, rfl, ownX9⟩; exact ⟨AX9, cX9, rfl, (ownX9.to hb)⟩
    · intro W hE hp hF; obtain ⟨hcE, hfE, hnE⟩ := bcell hE; have hsE := hE.size; obtain ⟨AX8, cX8, rfl, ownX8⟩ := hF.2 (by kernel_rfl); unfold opOb; go_wp2_with fail; exact ⟨rfl, _, rfl, ⟨_, _, rfl, ownX8⟩, ⟨Below.refl _ _, noJ_post _ _ _⟩⟩
    intro uX9
    simp only [Act.put, List.setIfInBounds_toArray, List.set_cons_succ, List.set_cons_zero]
    apply free_val (by rfl)
    · intro W hE hp hF; obtain ⟨hcE, hfE, hnE⟩ := bcell hE; have hsE := hE.size; obtain ⟨AX8, cX8, rfl, ownX8⟩ := hF.1.2 (by kernel_rfl); unfold opOb; go_wp2_with fail; exact ⟨rfl, _, rfl, rfl, ⟨Below.refl _ _, noJ_post _ _ _⟩⟩
    simp only [Act.put, List.setIfInBounds_toArray, List.set_cons_succ, List.set_cons_zero]
    apply free_has (by rfl)
    · rintro u W W' hb ⟨AX9, cX9, rfl, ownX9⟩; exact ⟨AX9, cX9, rfl, (ownX9.to hb)⟩
    · intro W hE hp hF; obtain ⟨hcE, hfE, hnE⟩ := bcell hE; have hsE := hE.size; unfold opOb; go_wp2_with fail; exact ⟨rfl, _, rfl, hF.2 (by kernel_rfl), ⟨Below.refl _ _, noJ_post _ _ _⟩⟩
    intro uX10
    simp only [Act.put, List.setIfInBounds_toArray, List.set_cons_succ, List.set_cons_zero]
    apply free_end
    intro p10 hEp10 hJF hGF
    clear hJF
    obtain ⟨gX6, rfl, hlX6, rowX6⟩ := hGF.1.1.1.1.2
    obtain ⟨AX7, cX7, rfl, ownX7⟩ := hGF.1.1.1.2
    obtain ⟨AX8, cX8, rfl, ownX8⟩ := hGF.1.1.2
    obtain ⟨AX9, cX9, rfl, ownX9⟩ := hGF.1.2
    obtain ⟨AX10, cX10, rfl, ownX10⟩ := hGF.2
    clear hGF
    have hs910 := hEp10.size
    have own10 := ownX10.mono (b' := w.heap.size + 1) (by omega)
    have ownS10 := ownS9.out.to hEp10
    have own910 := own9'.out.to hEp10
    have hbp10 := hbp9.trans (hEp10.mono hs9')
    clear c0 c1 c2 hbx9 rowX6 hEp10 ownX7 ownX8 ownX9 ownX10
    go_wp2_with fail
    refine normal_of ?_
    clear hbp9 ownS9 own9'
    go_wp2_with (first | (go_at_call 13; refine (szBookingS_le _ _ _ _ hx).mono ?_; rintro e wX ⟨rfl, rfl⟩) | (go_at_call 31; refine (heldBookingS_own _ _ _ _ _ (own9.to (by repeat' (first | (with_reducible exact Below.refl _ _) | (with_reducible refine Below.alloc ?_ ?_ _) | (with_reducible refine Below.setCell ?_ ?_ _) | (with_reducible refine Below.drew ?_) | (with_reducible refine Below.trans ?_ (Below.mono (by with_reducible assumption) ?_)) | omega | (simp; done) | (simp; omega)))) Hy2.out).mono ?_; rintro e wX ⟨rfl, rfl⟩))
    (go_at_call 17; refine (eqBookingS_same _ _ _ _ _ _ (own10.rd Bk.enc_len) (ownS10.rd Bk.enc_len) Hy.out).mono ?_; rintro e w10 ⟨rfl, hb10⟩)
    (have hs10 := hb10.size; (try simp at hs10); obtain ⟨hc10, hf10, hn10⟩ := bcell hb10; (try have hz10_w_0 : w.heap.size < w10.heap.size := by omega); (try have hz10_w_1 : w.heap.size + 1 < w10.heap.size := by omega); (try have hz10_w_2 : w.heap.size + 2 < w10.heap.size := by omega); (try have hz10_w_2b : w.heap.size + 1 + 1 < w10.heap.size := by omega); (try have hz10_w1_0 : w1.heap.size < w10.heap.size := by omega); (try have hz10_w1_1 : w1.heap.size + 1 < w10.heap.size := by omega); (try have hz10_w1_2 : w1.heap.size + 2 < w10.heap.size := by omega); (try have hz10_w1_2b : w1.heap.size + 1 + 1 < w10.heap.size := by omega); (try have hz10_w2_0 : w2.heap.size < w10.heap.size := by omega); (try have hz10_w2_1 : w2.heap.size + 1 < w10.heap.size := by omega); (try have hz10_w2_2 : w2.heap.size + 2 < w10.heap.size := by omega); (try have hz10_w2_2b : w2.heap.size + 1 + 1 < w10.heap.size := by omega); (try have hz10_w3_0 : w3.heap.size < w10.heap.size := by omega); (try have hz10_w3_1 : w3.heap.size + 1 < w10.heap.size := by omega); (try have hz10_w3_2 : w3.heap.size + 2 < w10.heap.size := by omega); (try have hz10_w3_2b : w3.heap.size + 1 + 1 < w10.heap.size := by omega); (try have hz10_w4_0 : w4.heap.size < w10.heap.size := by omega); (try have hz10_w4_1 : w4.heap.size + 1 < w10.heap.size := by omega); (try have hz10_w4_2 : w4.heap.size + 2 < w10.heap.size := by omega); (try have hz10_w4_2b : w4.heap.size + 1 + 1 < w10.heap.size := by omega); (try have hz10_w5_0 : w5.heap.size < w10.heap.size := by omega); (try have hz10_w5_1 : w5.heap.size + 1 < w10.heap.size := by omega); (try have hz10_w5_2 : w5.heap.size + 2 < w10.heap.size := by omega); (try have hz10_w5_2b : w5.heap.size + 1 + 1 < w10.heap.size := by omega); (try have hz10_w6_0 : w6.heap.size < w10.heap.size := by omega); (try have hz10_w6_1 : w6.heap.size + 1 < w10.heap.size := by omega); (try have hz10_w6_2 : w6.heap.size + 2 < w10.heap.size := by omega); (try have hz10_w6_2b : w6.heap.size + 1 + 1 < w10.heap.size := by omega); (try have hz10_w7_0 : w7.heap.size < w10.heap.size := by omega); (try have hz10_w7_1 : w7.heap.size + 1 < w10.heap.size := by omega); (try have hz10_w7_2 : w7.heap.size + 2 < w10.heap.size := by omega); (try have hz10_w7_2b : w7.heap.size + 1 + 1 < w10.heap.size := by omega); (try have hz10_w8_0 : w8.heap.size < w10.heap.size := by omega); (try have hz10_w8_1 : w8.heap.size + 1 < w10.heap.size := by omega); (try have hz10_w8_2 : w8.heap.size + 2 < w10.heap.size := by omega); (try have hz10_w8_2b : w8.heap.size + 1 + 1 < w10.heap.size := by omega); (try have hz10_w9_0 : w9.heap.size < w10.heap.size := by omega); (try have hz10_w9_1 : w9.heap.size + 1 < w10.heap.size := by omega); (try have hz10_w9_2 : w9.heap.size + 2 < w10.heap.size := by omega); (try have hz10_w9_2b : w9.heap.size + 1 + 1 < w10.heap.size := by omega))
    go_wp2_with (first | (go_at_call 13; refine (szBookingS_le _ _ _ _ hx).mono ?_; rintro e wX ⟨rfl, rfl⟩) | (go_at_call 31; refine (heldBookingS_own _ _ _ _ _ (own9.to (by repeat' (first | (with_reducible exact Below.refl _ _) | (with_reducible refine Below.alloc ?_ ?_ _) | (with_reducible refine Below.setCell ?_ ?_ _) | (with_reducible refine Below.drew ?_) | (with_reducible refine Below.trans ?_ (Below.mono (by with_reducible assumption) ?_)) | omega | (simp; done) | (simp; omega)))) Hy2.out).mono ?_; rintro e wX ⟨rfl, rfl⟩) | (go_at_call 31; refine (heldBookingS_own _ _ _ _ _ (own910.to (by repeat' (first | (with_reducible exact Below.refl _ _) | (with_reducible refine Below.alloc ?_ ?_ _) | (with_reducible refine Below.setCell ?_ ?_ _) | (with_reducible refine Below.drew ?_) | (with_reducible refine Below.trans ?_ (Below.mono (by with_reducible assumption) ?_)) | omega | (simp; done) | (simp; omega)))) Hy2.out).mono ?_; rintro e wX ⟨rfl, rfl⟩))
    go_ret
    exact ⟨rfl, (by repeat' (first | (with_reducible exact Below.refl _ _) | (with_reducible refine Below.alloc ?_ ?_ _) | (with_reducible refine Below.setCell ?_ ?_ _) | (with_reducible refine Below.drew ?_) | (with_reducible refine Below.trans ?_ (Below.mono (by with_reducible assumption) ?_)) | omega | (simp; done) | (simp; omega)))⟩
  · have hx' : 1048576 < xs.length := by omega
    go_enter Try.func10, Try.ntmps10
    go_wp2_with (first | (go_at_call 13; refine (szBookingS_gt _ _ _ _ hm hx').mono ?_; rintro e wX ⟨rfl, rfl⟩))
    go_ret
    exact ⟨rfl, (by repeat' (first | (with_reducible exact Below.refl _ _) | (with_reducible refine Below.alloc ?_ ?_ _) | (with_reducible refine Below.setCell ?_ ?_ _) | (with_reducible refine Below.drew ?_) | (with_reducible refine Below.trans ?_ (Below.mono (by with_reducible assumption) ?_)) | omega | (simp; done) | (simp; omega)))⟩
end Go.Proofs.Ytkhldmicejdggaa
