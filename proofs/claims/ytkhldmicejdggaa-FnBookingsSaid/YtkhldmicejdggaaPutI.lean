/- The contract of impl.PutBooking (chapter 20). -/
import Derived.Test.YtkhldmicejdggaaPutMath
import Derived.Test.YtkhldmicejdggaaFree
import Derived.Deep.CutBlock
set_option linter.unusedSimpArgs false
set_option linter.unusedVariables false
namespace Go.Proofs.Ytkhldmicejdggaa
open Go.RowKit Go.Sort Go.Salt
attribute [local go_sem] cell_rg
theorem _root_.Go.World.ownsRow.to {W W' : World} {base size n : Nat} {E : TypeId} {v : Value} {cs : List Value} (h : W.ownsRow base E size v n cs) (hb : Below W.heap.size W W') : W'.ownsRow base E size v n cs := own_to h hb
theorem own_base {W : World} {base base' size n : Nat} {E : TypeId} {v : Value} {cs : List Value} (h : W.ownsRow base E size v n cs) (hb : base' ≤ base) : W.ownsRow base' E size v n cs := by
  refine ⟨h.1, ?_⟩
  rcases h.2 with h1 | ⟨g, cap, cur, e, hg, r⟩
  · exact .inl h1
  · exact .inr ⟨g, cap, cur, e, by omega, r⟩
theorem blk_new (W : World) (E : TypeId) (arr : Array Value) (g : Nat) (h : W.heap.size = g) : Blk (W.alloc (.cells arr E)) g E arr := by subst h; exact heap_alloc_new W _
theorem row3b {w : World} {g : Nat} {E : TypeId} {x0 x1 x2 : Value} (h : Row w g E [x0, x1, x2]) : w.cell? ⟨g, 0, none⟩ = some x0 ∧ w.cell? ⟨g, 1, none⟩ = some x1 ∧ w.cell? ⟨g, 2, none⟩ = some x2 :=
  ⟨h.cell (j := 0) (by simp), h.cell (j := 1) (by simp), h.cell (j := 2) (by simp)⟩
def PbAt (w : World) (xs : List Bk) (x : Bk) (e : Ending) (w' : World) : Prop := MadeAt w 45 ((pbL xs x).flatMap Bk.enc) (pbL xs x).length (fun v => .returned (.tuple #[v, .bool (pbB xs x)])) e w'
theorem pb_no {w w' : World} {xs : List Bk} {x : Bk} {v : Value} (h : pbB xs x = false) (hv : MadeAt w 45 [] 0 (fun v => .returned (.tuple #[v, .bool false])) (.returned (.tuple #[v, .bool false])) w') : PbAt w xs x (.returned (.tuple #[v, .bool false])) w' := by
  have e1 : pbL xs x = [] := by simp [pbL, h]
  unfold PbAt
  rw [e1, h]
  exact hv
theorem pb_yes {w w' : World} {xs : List Bk} {x : Bk} {g c : Nat} (h : pbB xs x = true) (hg : w.heap.size ≤ g) (hr : Row w' g 45 ((putL xs (pbK xs x) x).flatMap Bk.enc)) (hb : Below w.heap.size w w') : PbAt w xs x (.returned (.tuple #[.slice (some ⟨g, 0, none⟩) (xs.length + 1) c, .bool true])) w' := by
  have e1 : pbL xs x = putL xs (pbK xs x) x := by simp [pbL, h]
  unfold PbAt
  rw [e1, h, putL_len (pbK_le xs x)]
  exact ⟨_, c, rfl, OwnAt.row hg hr, hb⟩
def PutLoop (w : World) (xs : List Bk) (d k q : Int) (u : Value) (wx : World) : Prop := ∃ i : Nat, i ≤ xs.length ∧ u = .int .i64 i ∧ Hid (pbK xs ⟨d, k, q⟩ = i) ∧ Below w.heap.size w wx ∧ Row wx w.heap.size 45 [.int .i64 d, .int .i64 k, .int .i64 q]
set_option maxHeartbeats 8000000 in
theorem iPutBooking_any (ad : Addr) (c : Nat) (xs : List Bk) (d k q : Int) (w : World) (h : Rd w w.heap.size (some ad) 3 Bk.enc xs) (hx : xs.length ≤ 1048576) :
    Calls Try.prog 34 #[.slice (some ad) xs.length c, .agg #[.int .i64 d, .int .i64 k, .int .i64 q]] w fun e w' => PbAt w xs ⟨d, k, q⟩ e w' := by
  cases hG : bksOK xs
  · have Hno := Lib.hid (show pbB xs ⟨d, k, q⟩ = false by simp [pbB, hG])
    go_enter Try.func34, Try.ntmps34
    go_wp2_with fail
    (go_at_call 37; refine (areBookings_any _ _ _ _ (h.to (by repeat' (first | (with_reducible exact Below.refl _ _) | (with_reducible refine Below.alloc ?_ ?_ _) | (with_reducible refine Below.setCell ?_ ?_ _) | (with_reducible refine Below.drew ?_) | (with_reducible refine Below.trans ?_ (Below.mono (by with_reducible assumption) ?_)) | omega | (simp; done) | (simp; omega)))) (by omega)).mono ?_; rintro e w1 ⟨rfl, hb1⟩)
    (have hs1 := hb1.size; (try simp at hs1); obtain ⟨hc1, hf1, hn1⟩ := bcell hb1; (try have hz1_w_0 : w.heap.size < w1.heap.size := by omega); (try have hz1_w_1 : w.heap.size + 1 < w1.heap.size := by omega); (try have hz1_w_2 : w.heap.size + 2 < w1.heap.size := by omega); (try have hz1_w_2b : w.heap.size + 1 + 1 < w1.heap.size := by omega))
    go_wp2_with fail
    go_ret2
    exact pb_no Hno.out (MadeAt.nil (fun v => .returned (.tuple #[v, .bool false])) (by repeat' (first | (with_reducible exact Below.refl _ _) | (with_reducible refine Below.alloc ?_ ?_ _) | (with_reducible refine Below.setCell ?_ ?_ _) | (with_reducible refine Below.drew ?_) | (with_reducible refine Below.trans ?_ (Below.mono (by with_reducible assumption) ?_)) | omega | (simp; done) | (simp; omega))))
  · have hx20 := (bksOK_bd hG).1
    cases hI : bkOK d k q
    · have Hno := Lib.hid (show pbB xs ⟨d, k, q⟩ = false from pbB_bad hI)
      go_enter Try.func34, Try.ntmps34
      go_wp2_with fail
      (go_at_call 37; refine (areBookings_any _ _ _ _ (h.to (by repeat' (first | (with_reducible exact Below.refl _ _) | (with_reducible refine Below.alloc ?_ ?_ _) | (with_reducible refine Below.setCell ?_ ?_ _) | (with_reducible refine Below.drew ?_) | (with_reducible refine Below.trans ?_ (Below.mono (by with_reducible assumption) ?_)) | omega | (simp; done) | (simp; omega)))) (by omega)).mono ?_; rintro e w1 ⟨rfl, hb1⟩)
      (have hs1 := hb1.size; (try simp at hs1); obtain ⟨hc1, hf1, hn1⟩ := bcell hb1; (try have hz1_w_0 : w.heap.size < w1.heap.size := by omega); (try have hz1_w_1 : w.heap.size + 1 < w1.heap.size := by omega); (try have hz1_w_2 : w.heap.size + 2 < w1.heap.size := by omega); (try have hz1_w_2b : w.heap.size + 1 + 1 < w1.heap.size := by omega))
      go_wp2_with fail
      (go_at_call 64; refine (isBooking_any _ _ _ _).mono ?_; rintro e w2 ⟨rfl, hb2⟩)
      (have hs2 := hb2.size; (try simp at hs2); obtain ⟨hc2, hf2, hn2⟩ := bcell hb2; (try have hz2_w_0 : w.heap.size < w2.heap.size := by omega); (try have hz2_w_1 : w.heap.size + 1 < w2.heap.size := by omega); (try have hz2_w_2 : w.heap.size + 2 < w2.heap.size := by omega); (try have hz2_w_2b : w.heap.size + 1 + 1 < w2.heap.size := by omega); (try have hz2_w1_0 : w1.heap.size < w2.heap.size := by omega); (try have hz2_w1_1 : w1.heap.size + 1 < w2.heap.size := by omega); (try have hz2_w1_2 : w1.heap.size + 2 < w2.heap.size := by omega); (try have hz2_w1_2b : w1.heap.size + 1 + 1 < w2.heap.size := by omega))
      go_wp2_with fail
      go_ret2
      exact pb_no Hno.out (MadeAt.nil (fun v => .returned (.tuple #[v, .bool false])) (by repeat' (first | (with_reducible exact Below.refl _ _) | (with_reducible refine Below.alloc ?_ ?_ _) | (with_reducible refine Below.setCell ?_ ?_ _) | (with_reducible refine Below.drew ?_) | (with_reducible refine Below.trans ?_ (Below.mono (by with_reducible assumption) ?_)) | omega | (simp; done) | (simp; omega))))
    · go_enter Try.func34, Try.ntmps34
      go_wp2_with fail
      (go_at_call 37; refine (areBookings_any _ _ _ _ (h.to (by repeat' (first | (with_reducible exact Below.refl _ _) | (with_reducible refine Below.alloc ?_ ?_ _) | (with_reducible refine Below.setCell ?_ ?_ _) | (with_reducible refine Below.drew ?_) | (with_reducible refine Below.trans ?_ (Below.mono (by with_reducible assumption) ?_)) | omega | (simp; done) | (simp; omega)))) (by omega)).mono ?_; rintro e w1 ⟨rfl, hb1⟩)
      (have hs1 := hb1.size; (try simp at hs1); obtain ⟨hc1, hf1, hn1⟩ := bcell hb1; (try have hz1_w_0 : w.heap.size < w1.heap.size := by omega); (try have hz1_w_1 : w.heap.size + 1 < w1.heap.size := by omega); (try have hz1_w_2 : w.heap.size + 2 < w1.heap.size := by omega); (try have hz1_w_2b : w.heap.size + 1 + 1 < w1.heap.size := by omega))
      go_wp2_with fail
      (go_at_call 64; refine (isBooking_any _ _ _ _).mono ?_; rintro e w2 ⟨rfl, hb2⟩)
      (have hs2 := hb2.size; (try simp at hs2); obtain ⟨hc2, hf2, hn2⟩ := bcell hb2; (try have hz2_w_0 : w.heap.size < w2.heap.size := by omega); (try have hz2_w_1 : w.heap.size + 1 < w2.heap.size := by omega); (try have hz2_w_2 : w.heap.size + 2 < w2.heap.size := by omega); (try have hz2_w_2b : w.heap.size + 1 + 1 < w2.heap.size := by omega); (try have hz2_w1_0 : w1.heap.size < w2.heap.size := by omega); (try have hz2_w1_1 : w1.heap.size + 1 < w2.heap.size := by omega); (try have hz2_w1_2 : w1.heap.size + 2 < w2.heap.size := by omega); (try have hz2_w1_2b : w1.heap.size + 1 + 1 < w2.heap.size := by omega))
      go_upto_block 0 with (fail)
      have hr0 : Row w2 w.heap.size 45 [.int .i64 d, .int .i64 k, .int .i64 q] := (Row.new w _ #[.int .i64 d, .int .i64 k, .int .i64 q]).to (by repeat' (first | (with_reducible exact Below.refl _ _) | (with_reducible refine Below.alloc ?_ ?_ _) | (with_reducible refine Below.setCell ?_ ?_ _) | (with_reducible refine Below.drew ?_) | (with_reducible refine Below.trans ?_ (Below.mono (by with_reducible assumption) ?_)) | omega | (simp; done) | (simp; omega)))
      have hb0 : Below w.heap.size w w2 := (by repeat' (first | (with_reducible exact Below.refl _ _) | (with_reducible refine Below.alloc ?_ ?_ _) | (with_reducible refine Below.setCell ?_ ?_ _) | (with_reducible refine Below.drew ?_) | (with_reducible refine Below.trans ?_ (Below.mono (by with_reducible assumption) ?_)) | omega | (simp; done) | (simp; omega)))
      go_cut [6] from 8 (fun u wx => PutLoop w xs d k q u wx)
      case first =>
        go_wp2_with fail
        go_loopw [6] (fun ix wr => ∃ i : Nat, i ≤ xs.length ∧ ix = .int .i64 i ∧ Hid (∀ j, j < i → aft xs ⟨d, k, q⟩ j = false) ∧ Below w.heap.size w wr ∧ Row wr w.heap.size 45 [.int .i64 d, .int .i64 k, .int .i64 q]) (fun ix _ => xs.length - (intOf ix).toNat)
        case atStart => exact ⟨0, Nat.zero_le _, rfl, Lib.hid (fun j hj => by omega), hb0, hr0⟩
        case round =>
          clear hr0 hb0 hb1 hb2
          obtain ⟨i, hi, rfl, hall, hb, hbx⟩ := hrel
          have hs := hb.size
          by_cases hlt : i < xs.length
          · obtain ⟨b, o, hadr, hB, e0, e1, e2⟩ := bk_cells (h.below hb) hlt
            obtain rfl := Option.some.inj hadr
            have hB1 : b < wr.heap.size := by omega
            have hI0 : (0 : Int) ≤ i := by omega
            have hI : (i : Int) < xs.length := by omega
            cases hA : bkAft (el xs i).d (el xs i).k d k
            · have Hat := Lib.hid (show aft xs ⟨d, k, q⟩ i = false from hA)
              obtain ⟨c0, c1, c2⟩ := row3b hbx
              have hzB := hbx.lt
              go_wp2_with fail
              refine wp_region_quiet_below (by kernel_rfl) (by kernel_rfl) ?_
              repeat (go_big_quiet_step ((first | (go_at_call 65; exact Calls.regrown_of (bookedAfter_any _ _ _ _ _ _ _)))))
              (refine wpQuiet_nil ?_; intro w1 hwq; have hb1 := of_cls hwq; clear hwq)
              (have hs1 := hb1.size; (try simp at hs1); obtain ⟨hc1, hf1, hn1⟩ := bcell hb1; (try have hz1_wr_0 : wr.heap.size < w1.heap.size := by omega); (try have hz1_wr_1 : wr.heap.size + 1 < w1.heap.size := by omega); (try have hz1_wr_2 : wr.heap.size + 2 < w1.heap.size := by omega); (try have hB1 : b < w1.heap.size := by omega); (try have hB2 : b' < w1.heap.size := by omega); (try have hz1_wr_2b : wr.heap.size + 1 + 1 < w1.heap.size := by omega); (try have hz1_w_0 : w.heap.size < w1.heap.size := by omega); (try have hz1_w_1 : w.heap.size + 1 < w1.heap.size := by omega); (try have hz1_w_2 : w.heap.size + 2 < w1.heap.size := by omega); (try have hz1_w_2b : w.heap.size + 1 + 1 < w1.heap.size := by omega))
              go_wp2_with fail
              go_roundw
              case rel => exact ⟨i + 1, by omega, by go_num, Lib.hid (fun j hj => by
                                by_cases hij : j < i
                                · exact hall.out j hij
                                · obtain rfl : j = i := by omega
                                  exact Hat.out), (by repeat' (first | (with_reducible exact Below.refl _ _) | (with_reducible refine Below.alloc ?_ ?_ _) | (with_reducible refine Below.setCell ?_ ?_ _) | (with_reducible refine Below.drew ?_) | (with_reducible refine Below.trans ?_ (Below.mono (by with_reducible assumption) ?_)) | omega | (simp; done) | (simp; omega))), hbx.to (by repeat' (first | (with_reducible exact Below.refl _ _) | (with_reducible refine Below.alloc ?_ ?_ _) | (with_reducible refine Below.setCell ?_ ?_ _) | (with_reducible refine Below.drew ?_) | (with_reducible refine Below.trans ?_ (Below.mono (by with_reducible assumption) ?_)) | omega | (simp; done) | (simp; omega)))⟩
              case measure => simp [intOf]; omega
            · have hK := Lib.hid (pbK_of (x := ⟨d, k, q⟩) hi hall.out (fun _ => hA))
              obtain ⟨c0, c1, c2⟩ := row3b hbx
              have hzB := hbx.lt
              go_wp2_with fail
              refine wp_region_quiet_below (by kernel_rfl) (by kernel_rfl) ?_
              repeat (go_big_quiet_step ((first | (go_at_call 65; exact Calls.regrown_of (bookedAfter_any _ _ _ _ _ _ _)))))
              (refine wpQuiet_nil ?_; intro w1 hwq; have hb1 := of_cls hwq; clear hwq)
              (have hs1 := hb1.size; (try simp at hs1); obtain ⟨hc1, hf1, hn1⟩ := bcell hb1; (try have hz1_wr_0 : wr.heap.size < w1.heap.size := by omega); (try have hz1_wr_1 : wr.heap.size + 1 < w1.heap.size := by omega); (try have hz1_wr_2 : wr.heap.size + 2 < w1.heap.size := by omega); (try have hB1 : b < w1.heap.size := by omega); (try have hB2 : b' < w1.heap.size := by omega); (try have hz1_wr_2b : wr.heap.size + 1 + 1 < w1.heap.size := by omega); (try have hz1_w_0 : w.heap.size < w1.heap.size := by omega); (try have hz1_w_1 : w.heap.size + 1 < w1.heap.size := by omega); (try have hz1_w_2 : w.heap.size + 2 < w1.heap.size := by omega); (try have hz1_w_2b : w.heap.size + 1 + 1 < w1.heap.size := by omega))
              go_wp2_with fail
              go_meet
              exact ⟨i, hi, rfl, hK, (by repeat' (first | (with_reducible exact Below.refl _ _) | (with_reducible refine Below.alloc ?_ ?_ _) | (with_reducible refine Below.setCell ?_ ?_ _) | (with_reducible refine Below.drew ?_) | (with_reducible refine Below.trans ?_ (Below.mono (by with_reducible assumption) ?_)) | omega | (simp; done) | (simp; omega))), hbx.to (by repeat' (first | (with_reducible exact Below.refl _ _) | (with_reducible refine Below.alloc ?_ ?_ _) | (with_reducible refine Below.setCell ?_ ?_ _) | (with_reducible refine Below.drew ?_) | (with_reducible refine Below.trans ?_ (Below.mono (by with_reducible assumption) ?_)) | omega | (simp; done) | (simp; omega)))⟩
          · obtain rfl : i = xs.length := by omega
            have hK := Lib.hid (pbK_of (x := ⟨d, k, q⟩) hi hall.out (fun hc => absurd hc (by omega)))
            have hI : ¬ ((xs.length : Nat) : Int) < xs.length := by omega
            obtain ⟨c0, c1, c2⟩ := row3b hbx
            have hzB := hbx.lt
            go_wp2_with fail
            refine wp_region_quiet_below (by kernel_rfl) (by kernel_rfl) ?_
            repeat (go_big_quiet_step (fail))
            (refine wpQuiet_nil ?_; intro w1 hwq; have hb1 := of_cls hwq; clear hwq)
            (have hs1 := hb1.size; (try simp at hs1); obtain ⟨hc1, hf1, hn1⟩ := bcell hb1; (try have hz1_wr_0 : wr.heap.size < w1.heap.size := by omega); (try have hz1_wr_1 : wr.heap.size + 1 < w1.heap.size := by omega); (try have hz1_wr_2 : wr.heap.size + 2 < w1.heap.size := by omega); (try have hB1 : b < w1.heap.size := by omega); (try have hB2 : b' < w1.heap.size := by omega); (try have hz1_wr_2b : wr.heap.size + 1 + 1 < w1.heap.size := by omega); (try have hz1_w_0 : w.heap.size < w1.heap.size := by omega); (try have hz1_w_1 : w.heap.size + 1 < w1.heap.size := by omega); (try have hz1_w_2 : w.heap.size + 2 < w1.heap.size := by omega); (try have hz1_w_2b : w.heap.size + 1 + 1 < w1.heap.size := by omega))
            go_wp2_with fail
            go_meet
            exact ⟨xs.length, hi, rfl, hK, (by repeat' (first | (with_reducible exact Below.refl _ _) | (with_reducible refine Below.alloc ?_ ?_ _) | (with_reducible refine Below.setCell ?_ ?_ _) | (with_reducible refine Below.drew ?_) | (with_reducible refine Below.trans ?_ (Below.mono (by with_reducible assumption) ?_)) | omega | (simp; done) | (simp; omega))), hbx.to (by repeat' (first | (with_reducible exact Below.refl _ _) | (with_reducible refine Below.alloc ?_ ?_ _) | (with_reducible refine Below.setCell ?_ ?_ _) | (with_reducible refine Below.drew ?_) | (with_reducible refine Below.trans ?_ (Below.mono (by with_reducible assumption) ?_)) | omega | (simp; done) | (simp; omega)))⟩
      case rest =>
        clear hr0 hb0 hb1 hb2 hs1 hs2
        obtain ⟨i, hi, rfl, hK, hbw1, hbx⟩ := hcut
        obtain ⟨c0, c1, c2⟩ := row3b hbx
        have hzB := hbx.lt
        go_upto_region 6 with (fail)
        apply wp_region_chain 5 [] [] noJ (fun W W' => Below W.heap.size W W') [Sum.inl _, Sum.inr (fun u W => W.ownsRow wc.heap.size 45 3 u xs.length (xs.flatMap Bk.enc)), Sum.inl _, Sum.inl _, Sum.inr (fun u W => ∃ B, u = .slice (some ⟨B, 0, none⟩) 1 1 ∧ Blk W B 45 #[.int .i64 d, .int .i64 k, .int .i64 q])] (by kernel_rfl) (by kernel_rfl) (fun _ _ _ => below_trans) (below_draw _) trivial ?_
        rotate_left 3
        simp only [List.take_succ_cons, List.take_zero, List.drop_succ_cons, List.drop_zero]
        apply free_val (by rfl)
        · intro W hE hp hF; obtain ⟨hcE, hfE, hnE⟩ := bcell hE; have hsE := hE.size; unfold opOb; go_wp2_with fail; exact ⟨rfl, _, rfl, rfl, ⟨Below.refl _ _, noJ_post _ _ _⟩⟩
        simp only [Act.put, List.setIfInBounds_toArray, List.set_cons_succ, List.set_cons_zero]
        apply free_has (by rfl)
        · rintro u W W' hb ownX1; exact (ownX1.to hb)
        · intro W hE hp hF; obtain ⟨hcE, hfE, hnE⟩ := bcell hE; have hsE := hE.size; unfold opOb; go_wp2_with fail; (go_at_call 62; refine (cloneBk_own ad c xs _ (h.to (hbw1.trans (hE.mono hbw1.size))) (by omega)).mono ?_; rintro e WX ⟨vR, rfl, hvR, hbX⟩); go_wp2_with fail; exact ⟨rfl, _, rfl, own_base hvR (by omega), ⟨hbX, noJ_post _ _ _⟩⟩
        intro uX1
        simp only [Act.put, List.setIfInBounds_toArray, List.set_cons_succ, List.set_cons_zero]
        apply free_val (by rfl)
        · intro W hE hp hF; obtain ⟨hcE, hfE, hnE⟩ := bcell hE; have hsE := hE.size; unfold opOb; go_wp2_with fail; exact ⟨rfl, _, rfl, rfl, ⟨Below.refl _ _, noJ_post _ _ _⟩⟩
        simp only [Act.put, List.setIfInBounds_toArray, List.set_cons_succ, List.set_cons_zero]
        apply free_val (by rfl)
        · intro W hE hp hF; obtain ⟨hcE, hfE, hnE⟩ := bcell hE; have hsE := hE.size; unfold opOb; go_wp2_with fail; exact ⟨rfl, _, rfl, rfl, ⟨Below.refl _ _, noJ_post _ _ _⟩⟩
        simp only [Act.put, List.setIfInBounds_toArray, List.set_cons_succ, List.set_cons_zero]
        apply free_has (by rfl)
        · rintro u W W' hb ⟨BX2, rfl, rowX2⟩; exact ⟨BX2, rfl, (rowX2.to hb)⟩
        · intro W hE hp hF; obtain ⟨hcE, hfE, hnE⟩ := bcell hE; have hsE := hE.size; unfold opOb; go_wp2_with fail; exact ⟨rfl, _, rfl, ⟨_, rfl, blk_new _ _ _ _ rfl⟩, ⟨(Below.refl _ _).alloc (Nat.le_refl _) _, noJ_post _ _ _⟩⟩
        intro uX2
        simp only [Act.put, List.setIfInBounds_toArray, List.set_cons_succ, List.set_cons_zero]
        apply free_end
        intro w5 hEw5 hJF hGF
        clear hJF
        obtain ownX1 := hGF.1.2
        obtain ⟨BX2, rfl, rowX2⟩ := hGF.2
        clear hGF
        have hs5 := hEw5.size
        go_wp2_with fail
        have rdB := Lib.hid rowX2
        refine (insertBk_any wc.heap.size BX2 i uX1 xs ⟨d, k, q⟩ w5 ownX1 hs5 rowX2 (by omega) hi).mono ?_
        rintro e w6 ⟨g, cc, rfl, hg, hrow, hb6⟩
        have hs6 := hb6.size
        have hb6' : Below w.heap.size w w6 := hbw1.trans ((hEw5.trans (hb6)).mono (by have := hbw1.size; omega))
        have hrow' : Row w6 g 45 ((putL xs (pbK xs ⟨d, k, q⟩) ⟨d, k, q⟩).flatMap Bk.enc) := by rw [hK.out]; exact hrow
        have hgw : w.heap.size ≤ g := by have := hbw1.size; omega
        have hlen : (putL xs (pbK xs ⟨d, k, q⟩) ⟨d, k, q⟩).length = xs.length + 1 := putL_len (by rw [hK.out]; exact hi)
        have hq := areBookings_any (some ⟨g, 0, none⟩) cc (putL xs (pbK xs ⟨d, k, q⟩) ⟨d, k, q⟩) w6 (Row.rd (enc := Bk.enc) hrow' Bk.enc_len hrow'.lt) (by omega)
        rw [hlen] at hq
        clear hlen hrow hb6 hEw5 ownX1 rowX2 rdB hs5 hbw1 hbx c0 c1 c2 hzB hg hs6
        have Hrow := Lib.hid hrow'
        clear hrow'
        cases hF : bksOK (putL xs (pbK xs ⟨d, k, q⟩) ⟨d, k, q⟩)
        · have Hno := Lib.hid (show pbB xs ⟨d, k, q⟩ = false by simp [pbB, hF])
          rw [hF] at hq
          have HQ := Lib.hid hq
          clear hq hF
          go_wp2_with fail
          refine normal_of ?_
          go_wp2_with fail
          refine (HQ.out).mono ?_
          rintro e w7 ⟨rfl, hb7⟩
          go_wp2_with fail
          go_ret2
          exact pb_no Hno.out (MadeAt.nil (fun v => .returned (.tuple #[v, .bool false])) (hb6'.trans (hb7.mono hb6'.size)))
        · have Hyes := Lib.hid (show pbB xs ⟨d, k, q⟩ = true by simp [pbB, hF, hG])
          rw [hF] at hq
          have HQ := Lib.hid hq
          clear hq hF
          go_wp2_with fail
          refine normal_of ?_
          go_wp2_with fail
          refine (HQ.out).mono ?_
          rintro e w7 ⟨rfl, hb7⟩
          go_wp2_with fail
          go_ret2
          exact pb_yes Hyes.out hgw (Hrow.out.to hb7) (hb6'.trans (hb7.mono hb6'.size))
end Go.Proofs.Ytkhldmicejdggaa
