/- The contract of spec.PutBooking (chapter 20). -/
import Derived.Test.YtkhldmicejdggaaPutI
import Derived.Deep.RegionHeld3
set_option linter.unusedSimpArgs false
set_option linter.unusedVariables false
namespace Go.Proofs.Ytkhldmicejdggaa
open Go.RowKit Go.Sort Go.Salt
attribute [local go_sem] cell_rg
theorem step_append_b {P : Program} {W0 w : World} {ops : Array Oper} {o : Oper} {a : Act} {K : Act → World → Prop} {Q : Exit → Act → World → Prop} {E : Prop} (hgd : o.guard = none) (s x : Operand) (t : TypeId)
    (ho : o.op = .call { callee := .builtin .append, args := #[s, x], argTypes := #[t, t] })
    (base : Nat) (e : TypeId) (i : TypeInfo) (z : Value) (size bytes : Nat) (ht : P.underlying t = some (.slice e)) (hi : P.info? e = some i) (hz : i.zero = some z)
    (hsize : i.size = size) (hby : i.bytes = bytes) (hzs : z.cells.size = size) (hsz : 0 < size)
    (v : Value) (n : Nat) (xs : List Value) (hs : a.eval s = v) (hown : w.ownsRow base e size v n xs) (hbel : Below base W0 w)
    (ad : Addr) (X : Option Addr) (m c : Nat) (news : List Value) (hx : a.eval x = .slice X m c) (hX : X = some ad) (hl : news.length = m * size) (hnews : ∀ j u, news[j]? = some u → w.cell? (ad.add j) = some u) (h1 : ∀ u ∈ news, u.oneCell' = true)
    (h63 : n + m ≤ maxLen) (hbytes : (n + m) * bytes ≤ 140737488355328) (hbase : base ≤ w.heap.size)
    (h : ∀ v' w', w'.ownsRow base e size v' (n + m) (xs ++ news) → Below base W0 w' → w.grownBy w' v.ownBlock → K (a.put o.dst v') w') :
    if Region.wanted o (yielded ops a.tmps) = true then Oper.wp P o a w K Q else E :=
  step_append_at hgd s x t ho base e i z size bytes ht hi hz hsize hby hzs hsz v n xs hs hown ad X m c news hx hX hl hnews h1 h63 hbytes hbase
    (fun v' w' h1 h2 _ => h v' w' h1 (own_grew hown hbel hbase h2) h2)
theorem heap_at0 {α : Prop} (h : α) : α := h
def PutOut (w : World) (xs : List Bk) (i : Nat) (x : Bk) (u : Value) (wx : World) : Prop := wx.ownsRow w.heap.size 45 3 u (xs.length + 1) ((putL xs i x).flatMap Bk.enc) ∧ Below w.heap.size w wx
theorem put_out {w wx : World} {xs : List Bk} {i : Nat} {x : Bk} {u : Value} {n : Nat} (hi : i ≤ xs.length) (h : wx.ownsRow w.heap.size 45 3 u n ([] ++ (xs.take i).flatMap Bk.enc ++ x.enc ++ (xs.drop i).flatMap Bk.enc)) (hn : n = 0 + i + 1 + (xs.length - i)) (hb : Below w.heap.size w wx) : PutOut w xs i x u wx := by
  refine ⟨?_, hb⟩
  have e1 : n = xs.length + 1 := by omega
  have e2 : (putL xs i x).flatMap Bk.enc = [] ++ (xs.take i).flatMap Bk.enc ++ x.enc ++ (xs.drop i).flatMap Bk.enc := by simp [putL]
  rw [e2, ← e1]; exact h
set_option maxRecDepth 100000 in
set_option maxHeartbeats 8000000 in
theorem sPutBooking_any (b o c : Nat) (xs : List Bk) (d k q : Int) (w : World) (h : Rd w w.heap.size (some ⟨b, o, none⟩) 3 Bk.enc xs) (hx : xs.length ≤ 1048576) (hcc : xs.length ≤ c) (hcm : c ≤ 9223372036854775807) :
    Calls Try.prog 32 #[.slice (some ⟨b, o, none⟩) xs.length c, .agg #[.int .i64 d, .int .i64 k, .int .i64 q]] w fun e w' => PbAt w xs ⟨d, k, q⟩ e w' := by
  cases hG : bksOK xs
  · have Hno := Lib.hid (show pbB xs ⟨d, k, q⟩ = false by simp [pbB, hG])
    go_enter Try.func32, Try.ntmps32
    go_wp2_with fail
    (go_at_call 59; refine (l20Good_any _ _ _ _ (h.to (by repeat' (first | (with_reducible exact Below.refl _ _) | (with_reducible refine Below.alloc ?_ ?_ _) | (with_reducible refine Below.setCell ?_ ?_ _) | (with_reducible refine Below.drew ?_) | (with_reducible refine Below.trans ?_ (Below.mono (by with_reducible assumption) ?_)) | omega | (simp; done) | (simp; omega)))) (by omega)).mono ?_; rintro e w1 ⟨rfl, hb1⟩)
    (have hs1 := hb1.size; (try simp at hs1); obtain ⟨hc1, hf1, hn1⟩ := bcell hb1; (try have hz1_w_0 : w.heap.size < w1.heap.size := by omega); (try have hz1_w_1 : w.heap.size + 1 < w1.heap.size := by omega); (try have hz1_w_2 : w.heap.size + 2 < w1.heap.size := by omega); (try have hz1_w_2b : w.heap.size + 1 + 1 < w1.heap.size := by omega))
    go_wp2_with fail
    go_ret2
    exact pb_no Hno.out (MadeAt.empty (g := w1.heap.size) (fun v => .returned (.tuple #[v, .bool false])) (by omega) (heap_alloc_new _ _) (by repeat' (first | (with_reducible exact Below.refl _ _) | (with_reducible refine Below.alloc ?_ ?_ _) | (with_reducible refine Below.setCell ?_ ?_ _) | (with_reducible refine Below.drew ?_) | (with_reducible refine Below.trans ?_ (Below.mono (by with_reducible assumption) ?_)) | omega | (simp; done) | (simp; omega))))
  · have HG := Lib.hid hG
    have hx20 := (bksOK_bd hG).1
    go_enter Try.func32, Try.ntmps32
    go_wp2_with fail
    (go_at_call 59; refine (l20Good_any _ _ _ _ (h.to (by repeat' (first | (with_reducible exact Below.refl _ _) | (with_reducible refine Below.alloc ?_ ?_ _) | (with_reducible refine Below.setCell ?_ ?_ _) | (with_reducible refine Below.drew ?_) | (with_reducible refine Below.trans ?_ (Below.mono (by with_reducible assumption) ?_)) | omega | (simp; done) | (simp; omega)))) (by omega)).mono ?_; rintro e w1 ⟨rfl, hb1⟩)
    (have hs1 := hb1.size; (try simp at hs1); obtain ⟨hc1, hf1, hn1⟩ := bcell hb1; (try have hz1_w_0 : w.heap.size < w1.heap.size := by omega); (try have hz1_w_1 : w.heap.size + 1 < w1.heap.size := by omega); (try have hz1_w_2 : w.heap.size + 2 < w1.heap.size := by omega); (try have hz1_w_2b : w.heap.size + 1 + 1 < w1.heap.size := by omega))
    go_upto_block 0 with (fail)
    have hr0 : Row w1 w.heap.size 45 [.int .i64 d, .int .i64 k, .int .i64 q] := (Row.new w _ #[.int .i64 d, .int .i64 k, .int .i64 q]).to (by repeat' (first | (with_reducible exact Below.refl _ _) | (with_reducible refine Below.alloc ?_ ?_ _) | (with_reducible refine Below.setCell ?_ ?_ _) | (with_reducible refine Below.drew ?_) | (with_reducible refine Below.trans ?_ (Below.mono (by with_reducible assumption) ?_)) | omega | (simp; done) | (simp; omega)))
    have hb0 : Below w.heap.size w w1 := (by repeat' (first | (with_reducible exact Below.refl _ _) | (with_reducible refine Below.alloc ?_ ?_ _) | (with_reducible refine Below.setCell ?_ ?_ _) | (with_reducible refine Below.drew ?_) | (with_reducible refine Below.trans ?_ (Below.mono (by with_reducible assumption) ?_)) | omega | (simp; done) | (simp; omega)))
    go_cut [6] from 8 (fun u wx => PutLoop w xs d k q u wx)
    case first =>
      go_wp2_with fail
      go_loopw [6] (fun ix wr => ∃ i : Nat, i ≤ xs.length ∧ ix = .int .i64 i ∧ Hid (∀ j, i ≤ j → j < xs.length → aft xs ⟨d, k, q⟩ j = true) ∧ Below w.heap.size w wr ∧ Row wr w.heap.size 45 [.int .i64 d, .int .i64 k, .int .i64 q]) (fun ix _ => (intOf ix).toNat)
      case atStart => exact ⟨xs.length, Nat.le_refl _, rfl, Lib.hid (fun j hj => by omega), hb0, hr0⟩
      case round =>
        clear hr0 hb0 hb1 hs1
        obtain ⟨i, hi, rfl, hall, hb, hbx⟩ := hrel
        have hs := hb.size
        by_cases hlt : 0 < i
        · obtain ⟨b', o', hadr, hB, e0, e1, e2⟩ := bk_cells (h.below hb) (show i - 1 < xs.length by omega)
          obtain ⟨rfl, rfl⟩ : b = b' ∧ o = o' := by simpa using hadr
          clear hadr
          have hB1 : b < wr.heap.size := by omega
          have hI0 : (0 : Int) ≤ (i : Int) - 1 := by omega
          have hI : (i : Int) - 1 < xs.length := by omega
          have hI1 : (1 : Int) ≤ i := by omega
          have hwr : IntKind.i64.wrap ((i : Int) - 1) = (i : Int) - 1 := IntWalk.i64_in _ (by omega)
          have htn : ((i : Int) - 1).toNat = i - 1 := by omega
          cases hA : bkAft (el xs (i - 1)).d (el xs (i - 1)).k d k
          · have hK := Lib.hid (pbK_back (x := ⟨d, k, q⟩) HG.out hi hall.out (fun _ => hA))
            obtain ⟨c0, c1, c2⟩ := row3b hbx
            have hzB := hbx.lt
            go_wp2_with fail
            refine wp_region_quiet_below (by kernel_rfl) (by kernel_rfl) ?_
            repeat (go_big_quiet_step ((first | (go_at_call 63; exact Calls.regrown_of (l20After_any _ _ _ _ _ _ _)))))
            (refine wpQuiet_nil ?_; intro w1 hwq; have hb1 := of_cls hwq; clear hwq)
            (have hs1 := hb1.size; (try simp at hs1); obtain ⟨hc1, hf1, hn1⟩ := bcell hb1; (try have hz1_wr_0 : wr.heap.size < w1.heap.size := by omega); (try have hz1_wr_1 : wr.heap.size + 1 < w1.heap.size := by omega); (try have hz1_wr_2 : wr.heap.size + 2 < w1.heap.size := by omega); (try have hB1 : b < w1.heap.size := by omega); (try have hB2 : b' < w1.heap.size := by omega); (try have hz1_wr_2b : wr.heap.size + 1 + 1 < w1.heap.size := by omega); (try have hz1_w_0 : w.heap.size < w1.heap.size := by omega); (try have hz1_w_1 : w.heap.size + 1 < w1.heap.size := by omega); (try have hz1_w_2 : w.heap.size + 2 < w1.heap.size := by omega); (try have hz1_w_2b : w.heap.size + 1 + 1 < w1.heap.size := by omega))
            go_wp2_with fail
            go_meet
            exact ⟨i, hi, rfl, hK, (by repeat' (first | (with_reducible exact Below.refl _ _) | (with_reducible refine Below.alloc ?_ ?_ _) | (with_reducible refine Below.setCell ?_ ?_ _) | (with_reducible refine Below.drew ?_) | (with_reducible refine Below.trans ?_ (Below.mono (by with_reducible assumption) ?_)) | omega | (simp; done) | (simp; omega))), hbx.to (by repeat' (first | (with_reducible exact Below.refl _ _) | (with_reducible refine Below.alloc ?_ ?_ _) | (with_reducible refine Below.setCell ?_ ?_ _) | (with_reducible refine Below.drew ?_) | (with_reducible refine Below.trans ?_ (Below.mono (by with_reducible assumption) ?_)) | omega | (simp; done) | (simp; omega)))⟩
          · have Hat := Lib.hid (show aft xs ⟨d, k, q⟩ (i - 1) = true from hA)
            obtain ⟨c0, c1, c2⟩ := row3b hbx
            have hzB := hbx.lt
            go_wp2_with fail
            refine wp_region_quiet_below (by kernel_rfl) (by kernel_rfl) ?_
            repeat (go_big_quiet_step ((first | (go_at_call 63; exact Calls.regrown_of (l20After_any _ _ _ _ _ _ _)))))
            (refine wpQuiet_nil ?_; intro w1 hwq; have hb1 := of_cls hwq; clear hwq)
            (have hs1 := hb1.size; (try simp at hs1); obtain ⟨hc1, hf1, hn1⟩ := bcell hb1; (try have hz1_wr_0 : wr.heap.size < w1.heap.size := by omega); (try have hz1_wr_1 : wr.heap.size + 1 < w1.heap.size := by omega); (try have hz1_wr_2 : wr.heap.size + 2 < w1.heap.size := by omega); (try have hB1 : b < w1.heap.size := by omega); (try have hB2 : b' < w1.heap.size := by omega); (try have hz1_wr_2b : wr.heap.size + 1 + 1 < w1.heap.size := by omega); (try have hz1_w_0 : w.heap.size < w1.heap.size := by omega); (try have hz1_w_1 : w.heap.size + 1 < w1.heap.size := by omega); (try have hz1_w_2 : w.heap.size + 2 < w1.heap.size := by omega); (try have hz1_w_2b : w.heap.size + 1 + 1 < w1.heap.size := by omega))
            clear hwr htn
            go_wp2_with fail
            go_roundw
            case rel => exact ⟨i - 1, by omega, by go_num, Lib.hid (fun j hj hj2 => by
                              by_cases hij : i ≤ j
                              · exact hall.out j hij hj2
                              · obtain rfl : j = i - 1 := by omega
                                exact Hat.out), (by repeat' (first | (with_reducible exact Below.refl _ _) | (with_reducible refine Below.alloc ?_ ?_ _) | (with_reducible refine Below.setCell ?_ ?_ _) | (with_reducible refine Below.drew ?_) | (with_reducible refine Below.trans ?_ (Below.mono (by with_reducible assumption) ?_)) | omega | (simp; done) | (simp; omega))), hbx.to (by repeat' (first | (with_reducible exact Below.refl _ _) | (with_reducible refine Below.alloc ?_ ?_ _) | (with_reducible refine Below.setCell ?_ ?_ _) | (with_reducible refine Below.drew ?_) | (with_reducible refine Below.trans ?_ (Below.mono (by with_reducible assumption) ?_)) | omega | (simp; done) | (simp; omega)))⟩
            case measure => simp [intOf]; omega
        · obtain rfl : i = 0 := by omega
          have hK := Lib.hid (pbK_back (x := ⟨d, k, q⟩) HG.out hi hall.out (fun hc => absurd hc (by omega)))
          obtain ⟨c0, c1, c2⟩ := row3b hbx
          have hzB := hbx.lt
          go_wp2_with fail
          refine wp_region_quiet_below (by kernel_rfl) (by kernel_rfl) ?_
          repeat (go_big_quiet_step (fail))
          (refine wpQuiet_nil ?_; intro w1 hwq; have hb1 := of_cls hwq; clear hwq)
          (have hs1 := hb1.size; (try simp at hs1); obtain ⟨hc1, hf1, hn1⟩ := bcell hb1; (try have hz1_wr_0 : wr.heap.size < w1.heap.size := by omega); (try have hz1_wr_1 : wr.heap.size + 1 < w1.heap.size := by omega); (try have hz1_wr_2 : wr.heap.size + 2 < w1.heap.size := by omega); (try have hB1 : b < w1.heap.size := by omega); (try have hB2 : b' < w1.heap.size := by omega); (try have hz1_wr_2b : wr.heap.size + 1 + 1 < w1.heap.size := by omega); (try have hz1_w_0 : w.heap.size < w1.heap.size := by omega); (try have hz1_w_1 : w.heap.size + 1 < w1.heap.size := by omega); (try have hz1_w_2 : w.heap.size + 2 < w1.heap.size := by omega); (try have hz1_w_2b : w.heap.size + 1 + 1 < w1.heap.size := by omega))
          go_wp2_with fail
          go_meet
          exact ⟨0, hi, rfl, hK, (by repeat' (first | (with_reducible exact Below.refl _ _) | (with_reducible refine Below.alloc ?_ ?_ _) | (with_reducible refine Below.setCell ?_ ?_ _) | (with_reducible refine Below.drew ?_) | (with_reducible refine Below.trans ?_ (Below.mono (by with_reducible assumption) ?_)) | omega | (simp; done) | (simp; omega))), hbx.to (by repeat' (first | (with_reducible exact Below.refl _ _) | (with_reducible refine Below.alloc ?_ ?_ _) | (with_reducible refine Below.setCell ?_ ?_ _) | (with_reducible refine Below.drew ?_) | (with_reducible refine Below.trans ?_ (Below.mono (by with_reducible assumption) ?_)) | omega | (simp; done) | (simp; omega)))⟩
    case rest =>
      clear hr0 hb0 hb1 hs1
      obtain ⟨i, hi, rfl, hK, hbw1, hbx⟩ := hcut
      go_upto_region 6 with (fail)
      obtain ⟨i0, hi0, hz0, hz1, hz2⟩ := info_parts bk_info
      have hinfo := Lib.hid (And.intro hi0 (And.intro hz0 (And.intro hz1 hz2)))
      clear hi0 hz0 hz1 hz2
      have hcc2 : (xs.length : Int) ≤ c := by omega
      have hic : i ≤ c := by omega
      have hic0 : (0 : Int) ≤ (i : Int) := by omega
      have hic1 : (i : Int) ≤ xs.length := by omega
      have hic2 : (i : Int) ≤ c := by omega
      have hic3 : i ≤ xs.length := by omega
      have hsw := hbw1.size
      have hzB := hbx.lt
      have hrd := Lib.hid (h.below hbw1)
      obtain ⟨c0, c1, c2⟩ := row3b hbx
      by_cases hci : i = c
      · have hlen0 := Lib.hid (show xs.length - i = 0 by omega)
        subst hci
        go_cut [7] from 8 (fun u wx => PutOut w xs i ⟨d, k, q⟩ u wx)
        case first =>
          go_region_held3 (fun W => W.cell? ⟨w.heap.size, 0, none⟩ = some (.int .i64 d) ∧ W.cell? ⟨w.heap.size, 1, none⟩ = some (.int .i64 k) ∧ W.cell? ⟨w.heap.size, 2, none⟩ = some (.int .i64 q))
            (first | (exact row3b (hbx.to (by repeat' (first | (with_reducible exact Below.refl _ _) | (with_reducible refine Below.alloc ?_ ?_ _) | (with_reducible refine Below.setCell ?_ ?_ _) | (with_reducible refine Below.drew ?_) | (with_reducible refine Below.trans ?_ (Below.mono (by with_reducible assumption) ?_)) | omega | (simp; done) | (simp; omega))))) | go_keep)
            (first
              | (refine step_append_b (by rfl) (.tmp 27) _ _ (by rfl) wc.heap.size 45 i0 _ 3 24 Try.underlying26 hinfo.out.1 hinfo.out.2.1 hinfo.out.2.2.1 hinfo.out.2.2.2 rfl (by decide) _ _ _ (by rfl) (own_empty 3 (by first | omega | (simp; done) | (simp; omega)) (by first | exact heap_alloc_new _ _ | (refine blk_new _ _ _ _ ?_; simp; done) | (refine (Below.heap_alloc _ _ _ ?_).trans (blk_new _ _ _ _ ?_) <;> (first | (simp; done) | (simp; omega))))) (W0 := wc) (by repeat' (first | (with_reducible exact Below.refl _ _) | (with_reducible refine Below.alloc ?_ ?_ _) | (with_reducible refine Below.setCell ?_ ?_ _) | (with_reducible refine Below.drew ?_) | (with_reducible refine Below.trans ?_ (Below.mono (by with_reducible assumption) ?_)) | omega | (simp; done) | (simp; omega))) ⟨b, o, none⟩ _ _ _ ((xs.take i).flatMap Bk.enc) (by rfl) rfl (len_take Bk.enc_len xs hic3) (news_take (hrd.out.below (((by repeat' (first | (with_reducible exact Below.refl _ _) | (with_reducible refine Below.alloc ?_ ?_ _) | (with_reducible refine Below.setCell ?_ ?_ _) | (with_reducible refine Below.drew ?_) | (with_reducible refine Below.trans ?_ (Below.mono (by with_reducible assumption) ?_)) | omega | (simp; done) | (simp; omega))) : Below wc.heap.size wc _).mono hsw)) Bk.enc_len hic3) (flat_one Bk.enc_one) (by unfold maxLen; omega) (by omega) (by first | omega | (simp; done) | (simp; omega)) ?_; intro v2 w2 own2 hb2 hgr2; have hs2 := hb2.size)
              | (refine step_append_b (by rfl) (.tmp 31) _ _ (by rfl) wc.heap.size 45 i0 _ 3 24 Try.underlying26 hinfo.out.1 hinfo.out.2.1 hinfo.out.2.2.1 hinfo.out.2.2.2 rfl (by decide) _ _ _ (by rfl) (own_to own2 (by repeat' (first | (with_reducible exact Below.refl _ _) | (with_reducible refine Below.alloc ?_ ?_ _) | (with_reducible refine Below.setCell ?_ ?_ _) | (with_reducible refine Below.drew ?_) | (with_reducible refine Below.trans ?_ (Below.mono (by with_reducible assumption) ?_)) | omega | (simp; done) | (simp; omega)))) (W0 := wc) (by repeat' (first | (with_reducible exact Below.refl _ _) | (with_reducible refine Below.alloc ?_ ?_ _) | (with_reducible refine Below.setCell ?_ ?_ _) | (with_reducible refine Below.drew ?_) | (with_reducible refine Below.trans ?_ (Below.mono (by with_reducible assumption) ?_)) | omega | (simp; done) | (simp; omega))) _ _ _ _ [.int .i64 d, .int .i64 k, .int .i64 q] (by rfl) rfl rfl (World.news_of_block (cs := #[.int .i64 d, .int .i64 k, .int .i64 q]) (t := 45) (fr := (0, 0)) (by (first | exact heap_alloc_new _ _ | (refine (hgr2.block _ ?_ ?_).trans (blk_new _ _ _ _ ?_) <;> (first | (simp [Value.ownBlock]; done) | (simp; omega)); done) | (refine (hgr2.block _ ?_ ?_).trans ((Below.heap_alloc _ _ _ ?_).trans (blk_new _ _ _ _ ?_)) <;> (first | (simp [Value.ownBlock]; done) | (simp; omega)); done)))) (by simp [Value.oneCell']) (by unfold maxLen; omega) (by omega) (by first | omega | (simp; done) | (simp; omega)) ?_; intro v3 w3 own3 hb3 hgr3; have hs3 := hb3.size)
              | (refine step_append_b (by rfl) (.tmp 34) _ _ (by rfl) wc.heap.size 45 i0 _ 3 24 Try.underlying26 hinfo.out.1 hinfo.out.2.1 hinfo.out.2.2.1 hinfo.out.2.2.2 rfl (by decide) _ _ _ (by rfl) (own_to own3 (by repeat' (first | (with_reducible exact Below.refl _ _) | (with_reducible refine Below.alloc ?_ ?_ _) | (with_reducible refine Below.setCell ?_ ?_ _) | (with_reducible refine Below.drew ?_) | (with_reducible refine Below.trans ?_ (Below.mono (by with_reducible assumption) ?_)) | omega | (simp; done) | (simp; omega)))) (W0 := wc) (by repeat' (first | (with_reducible exact Below.refl _ _) | (with_reducible refine Below.alloc ?_ ?_ _) | (with_reducible refine Below.setCell ?_ ?_ _) | (with_reducible refine Below.drew ?_) | (with_reducible refine Below.trans ?_ (Below.mono (by with_reducible assumption) ?_)) | omega | (simp; done) | (simp; omega))) _ _ _ _ ([] : List Value) (by rfl) rfl rfl (fun j u hu => by simp at hu) (fun u hu => by simp at hu) (by unfold maxLen; omega) (by omega) (by first | omega | (simp; done) | (simp; omega)) ?_; intro v4 w4 own4 hb4 hgr4; have hs4 := hb4.size))
          all_goals
            go_wp2_with fail
            go_meet
            exact put_out hi (by rw [List.drop_of_length_le hcc]; exact own_base own4 hsw) (by have := hlen0.out; omega) (hbw1.trans (hb4.mono hsw))
        case rest =>
          obtain ⟨own5, hb5⟩ := hcut
          obtain ⟨g, cc, rfl, hgw, hlt5⟩ := own5.form (by omega)
          have row5 := (Row.of_own own5).1
          have hs5 := hb5.size
          have hrow' : Row wc g 45 ((putL xs (pbK xs ⟨d, k, q⟩) ⟨d, k, q⟩).flatMap Bk.enc) := by rw [hK.out]; exact row5
          have hlen : (putL xs (pbK xs ⟨d, k, q⟩) ⟨d, k, q⟩).length = xs.length + 1 := putL_len (by rw [hK.out]; exact hi)
          have hq := l20Good_any (some ⟨g, 0, none⟩) cc (putL xs (pbK xs ⟨d, k, q⟩) ⟨d, k, q⟩) wc (Row.rd (enc := Bk.enc) hrow' Bk.enc_len hrow'.lt) (by omega)
          rw [hlen] at hq
          have Hrow := Lib.hid hrow'
          clear hlen own5 row5 hrow'
          cases hF : bksOK (putL xs (pbK xs ⟨d, k, q⟩) ⟨d, k, q⟩)
          · have Hno := Lib.hid (show pbB xs ⟨d, k, q⟩ = false by simp [pbB, hF])
            rw [hF] at hq
            have HQ := Lib.hid hq
            clear hq hF
            go_wp2_with fail
            refine (HQ.out).mono ?_
            rintro e w7 ⟨rfl, hb7⟩
            go_wp2_with fail
            go_ret2
            exact pb_no Hno.out (MadeAt.empty (g := w7.heap.size) (fun v => .returned (.tuple #[v, .bool false])) (by have := hb7.size; omega) (heap_alloc_new _ _) ((hb5.trans (hb7.mono hs5)).alloc (by have := hb7.size; omega) _))
          · have Hyes := Lib.hid (show pbB xs ⟨d, k, q⟩ = true by simp [pbB, hF, HG.out])
            rw [hF] at hq
            have HQ := Lib.hid hq
            clear hq hF
            go_wp2_with fail
            refine (HQ.out).mono ?_
            rintro e w7 ⟨rfl, hb7⟩
            go_wp2_with fail
            go_ret2
            exact pb_yes Hyes.out hgw (Hrow.out.to hb7) (hb5.trans (hb7.mono hs5))
      · have hci2 : ¬ c = i := fun e => hci e.symm
        go_cut [7] from 8 (fun u wx => PutOut w xs i ⟨d, k, q⟩ u wx)
        case first =>
          go_region_held3 (fun W => W.cell? ⟨w.heap.size, 0, none⟩ = some (.int .i64 d) ∧ W.cell? ⟨w.heap.size, 1, none⟩ = some (.int .i64 k) ∧ W.cell? ⟨w.heap.size, 2, none⟩ = some (.int .i64 q))
            (first | (exact row3b (hbx.to (by repeat' (first | (with_reducible exact Below.refl _ _) | (with_reducible refine Below.alloc ?_ ?_ _) | (with_reducible refine Below.setCell ?_ ?_ _) | (with_reducible refine Below.drew ?_) | (with_reducible refine Below.trans ?_ (Below.mono (by with_reducible assumption) ?_)) | omega | (simp; done) | (simp; omega))))) | go_keep)
            (first
              | (refine step_append_b (by rfl) (.tmp 27) _ _ (by rfl) wc.heap.size 45 i0 _ 3 24 Try.underlying26 hinfo.out.1 hinfo.out.2.1 hinfo.out.2.2.1 hinfo.out.2.2.2 rfl (by decide) _ _ _ (by rfl) (own_empty 3 (by first | omega | (simp; done) | (simp; omega)) (by first | exact heap_alloc_new _ _ | (refine blk_new _ _ _ _ ?_; simp; done) | (refine (Below.heap_alloc _ _ _ ?_).trans (blk_new _ _ _ _ ?_) <;> (first | (simp; done) | (simp; omega))))) (W0 := wc) (by repeat' (first | (with_reducible exact Below.refl _ _) | (with_reducible refine Below.alloc ?_ ?_ _) | (with_reducible refine Below.setCell ?_ ?_ _) | (with_reducible refine Below.drew ?_) | (with_reducible refine Below.trans ?_ (Below.mono (by with_reducible assumption) ?_)) | omega | (simp; done) | (simp; omega))) ⟨b, o, none⟩ _ _ _ ((xs.take i).flatMap Bk.enc) (by rfl) rfl (len_take Bk.enc_len xs hic3) (news_take (hrd.out.below (((by repeat' (first | (with_reducible exact Below.refl _ _) | (with_reducible refine Below.alloc ?_ ?_ _) | (with_reducible refine Below.setCell ?_ ?_ _) | (with_reducible refine Below.drew ?_) | (with_reducible refine Below.trans ?_ (Below.mono (by with_reducible assumption) ?_)) | omega | (simp; done) | (simp; omega))) : Below wc.heap.size wc _).mono hsw)) Bk.enc_len hic3) (flat_one Bk.enc_one) (by unfold maxLen; omega) (by omega) (by first | omega | (simp; done) | (simp; omega)) ?_; intro v2 w2 own2 hb2 hgr2; have hs2 := hb2.size)
              | (refine step_append_b (by rfl) (.tmp 31) _ _ (by rfl) wc.heap.size 45 i0 _ 3 24 Try.underlying26 hinfo.out.1 hinfo.out.2.1 hinfo.out.2.2.1 hinfo.out.2.2.2 rfl (by decide) _ _ _ (by rfl) (own_to own2 (by repeat' (first | (with_reducible exact Below.refl _ _) | (with_reducible refine Below.alloc ?_ ?_ _) | (with_reducible refine Below.setCell ?_ ?_ _) | (with_reducible refine Below.drew ?_) | (with_reducible refine Below.trans ?_ (Below.mono (by with_reducible assumption) ?_)) | omega | (simp; done) | (simp; omega)))) (W0 := wc) (by repeat' (first | (with_reducible exact Below.refl _ _) | (with_reducible refine Below.alloc ?_ ?_ _) | (with_reducible refine Below.setCell ?_ ?_ _) | (with_reducible refine Below.drew ?_) | (with_reducible refine Below.trans ?_ (Below.mono (by with_reducible assumption) ?_)) | omega | (simp; done) | (simp; omega))) _ _ _ _ [.int .i64 d, .int .i64 k, .int .i64 q] (by rfl) rfl rfl (World.news_of_block (cs := #[.int .i64 d, .int .i64 k, .int .i64 q]) (t := 45) (fr := (0, 0)) (by (first | exact heap_alloc_new _ _ | (refine (hgr2.block _ ?_ ?_).trans (blk_new _ _ _ _ ?_) <;> (first | (simp [Value.ownBlock]; done) | (simp; omega)); done) | (refine (hgr2.block _ ?_ ?_).trans ((Below.heap_alloc _ _ _ ?_).trans (blk_new _ _ _ _ ?_)) <;> (first | (simp [Value.ownBlock]; done) | (simp; omega)); done)))) (by simp [Value.oneCell']) (by unfold maxLen; omega) (by omega) (by first | omega | (simp; done) | (simp; omega)) ?_; intro v3 w3 own3 hb3 hgr3; have hs3 := hb3.size)
              | (refine step_append_b (by rfl) (.tmp 34) _ _ (by rfl) wc.heap.size 45 i0 _ 3 24 Try.underlying26 hinfo.out.1 hinfo.out.2.1 hinfo.out.2.2.1 hinfo.out.2.2.2 rfl (by decide) _ _ _ (by rfl) (own_to own3 (by repeat' (first | (with_reducible exact Below.refl _ _) | (with_reducible refine Below.alloc ?_ ?_ _) | (with_reducible refine Below.setCell ?_ ?_ _) | (with_reducible refine Below.drew ?_) | (with_reducible refine Below.trans ?_ (Below.mono (by with_reducible assumption) ?_)) | omega | (simp; done) | (simp; omega)))) (W0 := wc) (by repeat' (first | (with_reducible exact Below.refl _ _) | (with_reducible refine Below.alloc ?_ ?_ _) | (with_reducible refine Below.setCell ?_ ?_ _) | (with_reducible refine Below.drew ?_) | (with_reducible refine Below.trans ?_ (Below.mono (by with_reducible assumption) ?_)) | omega | (simp; done) | (simp; omega))) _ _ _ _ ((xs.drop i).flatMap Bk.enc) (by rfl) rfl (len_drop Bk.enc_len xs _) (news_drop (hrd.out.below (((by repeat' (first | (with_reducible exact Below.refl _ _) | (with_reducible refine Below.alloc ?_ ?_ _) | (with_reducible refine Below.setCell ?_ ?_ _) | (with_reducible refine Below.drew ?_) | (with_reducible refine Below.trans ?_ (Below.mono (by with_reducible assumption) ?_)) | omega | (simp; done) | (simp; omega))) : Below wc.heap.size wc _).mono hsw)) Bk.enc_len hic3 (by first | exact Or.inr rfl | exact Or.inl hlen0.out)) (flat_one Bk.enc_one) (by unfold maxLen; omega) (by omega) (by first | omega | (simp; done) | (simp; omega)) ?_; intro v4 w4 own4 hb4 hgr4; have hs4 := hb4.size))
          all_goals
            go_wp2_with fail
            go_meet
            exact put_out hi (own_base own4 hsw) rfl (hbw1.trans (hb4.mono hsw))
        case rest =>
          obtain ⟨own5, hb5⟩ := hcut
          obtain ⟨g, cc, rfl, hgw, hlt5⟩ := own5.form (by omega)
          have row5 := (Row.of_own own5).1
          have hs5 := hb5.size
          have hrow' : Row wc g 45 ((putL xs (pbK xs ⟨d, k, q⟩) ⟨d, k, q⟩).flatMap Bk.enc) := by rw [hK.out]; exact row5
          have hlen : (putL xs (pbK xs ⟨d, k, q⟩) ⟨d, k, q⟩).length = xs.length + 1 := putL_len (by rw [hK.out]; exact hi)
          have hq := l20Good_any (some ⟨g, 0, none⟩) cc (putL xs (pbK xs ⟨d, k, q⟩) ⟨d, k, q⟩) wc (Row.rd (enc := Bk.enc) hrow' Bk.enc_len hrow'.lt) (by omega)
          rw [hlen] at hq
          have Hrow := Lib.hid hrow'
          clear hlen own5 row5 hrow'
          cases hF : bksOK (putL xs (pbK xs ⟨d, k, q⟩) ⟨d, k, q⟩)
          · have Hno := Lib.hid (show pbB xs ⟨d, k, q⟩ = false by simp [pbB, hF])
            rw [hF] at hq
            have HQ := Lib.hid hq
            clear hq hF
            go_wp2_with fail
            refine (HQ.out).mono ?_
            rintro e w7 ⟨rfl, hb7⟩
            go_wp2_with fail
            go_ret2
            exact pb_no Hno.out (MadeAt.empty (g := w7.heap.size) (fun v => .returned (.tuple #[v, .bool false])) (by have := hb7.size; omega) (heap_alloc_new _ _) ((hb5.trans (hb7.mono hs5)).alloc (by have := hb7.size; omega) _))
          · have Hyes := Lib.hid (show pbB xs ⟨d, k, q⟩ = true by simp [pbB, hF, HG.out])
            rw [hF] at hq
            have HQ := Lib.hid hq
            clear hq hF
            go_wp2_with fail
            refine (HQ.out).mono ?_
            rintro e w7 ⟨rfl, hb7⟩
            go_wp2_with fail
            go_ret2
            exact pb_yes Hyes.out hgw (Hrow.out.to hb7) (hb5.trans (hb7.mono hs5))
end Go.Proofs.Ytkhldmicejdggaa
