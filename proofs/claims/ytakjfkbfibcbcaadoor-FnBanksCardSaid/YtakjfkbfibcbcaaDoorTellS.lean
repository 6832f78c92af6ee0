/- Contracts: a told break, of the reference (chapter 23). -/
import Derived.Test.YtakjfkbfibcbcaaDoorTell
set_option linter.unusedSimpArgs false
set_option linter.unusedVariables false
namespace Go.Proofs.YtakjfkbfibcbcaaDoor
open Go.RowKit Go.Sort Go.Salt
attribute [local go_sem] cell_rg
attribute [local go_sem ↓] run_max_mx run_min_mn
set_option maxRecDepth 100000 in
set_option maxHeartbeats 1000000 in
theorem sTellBreak_any (ad : Addr) (c : Nat) (xs : List Brk) (p m g day : Int) (w : World) (h : Rd w w.heap.size (some ad) 6 Brk.enc xs) (hx : xs.length ≤ 1048576) :
    Calls Tryd.prog 11 #[.slice (some ad) xs.length c, .int .i64 p, .int .i64 m, .int .i64 g, .int .i64 day] w fun e w' => MadeAt w 26 ((tbR xs p m g day).flatMap Brk.enc) (tbR xs p m g day).length (fun v => .returned (.tuple #[v, .int .i64 (tbI xs p m g day), .bool (tbOK xs p m g day)])) e w' := by
  obtain ⟨i0, hi, hz0, hz1, hz2⟩ := info_parts brk_info
  have hinfo := Lib.hid (And.intro hi (And.intro hz0 (And.intro hz1 hz2)))
  clear hi hz0 hz1 hz2
  by_cases h0 : xs.length = 0
  · have hd0 : decide (0 < xs.length) = false := by simp [h0]
    have Hnew := Lib.hid (show tbNew xs p m g day = ⟨1, p, m, g, day, 0⟩ by simp [tbNew, h0])
    have hG0 : brksOK xs = true := by rw [List.eq_nil_of_length_eq_zero h0]; rfl
    have h00 := Lib.hid h0
    have hn : xs.length ≤ 10 := by omega
    clear h0
    go_enter Tryd.func11, Tryd.ntmps11
    go_wp2_with fail
    go_loopw [15] (fun i wr => ∃ k : Nat, k ≤ xs.length ∧ i = .int .i64 k ∧ Below w.heap.size w wr ∧ Hid (∀ j, j < k → lateAt xs day j = false)) (fun i _ => xs.length - (intOf i).toNat)
    case atStart => exact ⟨0, Nat.zero_le _, rfl, Below.refl _ _, fun i hi => by omega⟩
    case round =>
      obtain ⟨k, hk, rfl, hb, Hall⟩ := hrel
      have hs := hb.size
      by_cases hkl : k < xs.length
      · obtain ⟨b', o', hA', hB', d0, d1, d2, d3, d4, d5⟩ := brk_cells (h.below hb) hkl
        exfalso; rw [h00.out] at hkl; omega
      · obtain rfl : k = xs.length := by omega
        have hL := lateIn_no Hall.out
        have HL := Lib.hid hL
        clear hL
        go_wp2_with (at_builtin; refine wpList_append_own _ rfl _ _ 31 rfl w.heap.size 26 i0 _ 6 48 Tryd.underlying31 hinfo.out.1 hinfo.out.2.1 hinfo.out.2.2.1 hinfo.out.2.2.2 rfl (by decide) _ _ _ rfl (own_empty 6 hs (heap_alloc_new wr _)) ad _ _ (xs.flatMap Brk.enc) rfl (flat_len Brk.enc_len xs) ((h.to (by repeat' (first | (with_reducible exact Below.refl _ _) | (with_reducible refine Below.alloc ?_ ?_ _) | (with_reducible refine Below.setCell ?_ ?_ _) | (with_reducible refine Below.drew ?_) | (with_reducible refine Below.trans ?_ (Below.mono (by with_reducible assumption) ?_)) | omega | (simp; done) | (simp; omega)))).news Brk.enc_len) (flat_one Brk.enc_one) (by unfold maxLen; omega) (by omega) (by simp; omega) ?_)
        intro v1 w1 hown1 hgrow1 hnil1
        have hb1 : Below w.heap.size w w1 := own_grew (own_empty (W := wr.alloc (.cells #[] 26)) 6 hs (heap_alloc_new wr _)) (show Below w.heap.size w (wr.alloc _) from (by repeat' (first | (with_reducible exact Below.refl _ _) | (with_reducible refine Below.alloc ?_ ?_ _) | (with_reducible refine Below.setCell ?_ ?_ _) | (with_reducible refine Below.drew ?_) | (with_reducible refine Below.trans ?_ (Below.mono (by with_reducible assumption) ?_)) | omega | (simp; done) | (simp; omega)))) (by simp; omega) hgrow1
        have hs1 := hb1.size
        have hown1 : w1.ownsRow w.heap.size 26 6 v1 xs.length (xs.flatMap Brk.enc) := by simpa using hown1
        have Hown1 := Lib.hid hown1
        clear hown1 hgrow1 hnil1
        go_wp2_with (at_builtin; refine wpList_append_own _ rfl _ _ 31 rfl w.heap.size 26 _ _ 6 48 Tryd.underlying31 hinfo.out.1 hinfo.out.2.1 hinfo.out.2.2.1 hinfo.out.2.2.2 rfl (by decide) _ _ _ rfl (own_to Hown1.out (by repeat' (first | (with_reducible exact Below.refl _ _) | (with_reducible refine Below.alloc ?_ ?_ _) | (with_reducible refine Below.setCell ?_ ?_ _) | (with_reducible refine Below.drew ?_) | (with_reducible refine Below.trans ?_ (Below.mono (by with_reducible assumption) ?_)) | omega | (simp; done) | (simp; omega)))) _ 1 1 [.int .i64 1, .int .i64 p, .int .i64 m, .int .i64 g, .int .i64 day, .int .i64 0] rfl rfl (news_top (cs := #[.int .i64 1, .int .i64 p, .int .i64 m, .int .i64 g, .int .i64 day, .int .i64 0]) (t := 26) (by simp)) (by simp [Value.oneCell']) (by unfold maxLen; omega) (by omega) (by simp; omega) ?_)
        intro v2 w2 hown2 hgrow2 hnil2
        have hb2 : Below w.heap.size w w2 := own_grew Hown1.out (by repeat' (first | (with_reducible exact Below.refl _ _) | (with_reducible refine Below.alloc ?_ ?_ _) | (with_reducible refine Below.setCell ?_ ?_ _) | (with_reducible refine Below.drew ?_) | (with_reducible refine Below.trans ?_ (Below.mono (by with_reducible assumption) ?_)) | omega | (simp; done) | (simp; omega))) (by simp; omega) hgrow2
        have hs2 := hb2.size
        obtain ⟨gg, cap, rfl, hgg, hlt4⟩ := hown2.form (by omega)
        have Hown2 := Lib.hid hown2
        clear hown2 hgrow2 hnil2
        have r4 : Row w2 gg 26 ((xs ++ [tbNew xs p m g day]).flatMap Brk.enc) := by have h4 := (Row.of_own Hown2.out).1; rw [List.flatMap_append, Hnew.out]; simpa [Brk.enc] using h4
        have own4 : w2.ownsRow w.heap.size 26 6 (.slice (some ⟨gg, 0, none⟩) (xs.length + 1) cap) (xs.length + 1) (xs.flatMap Brk.enc ++ (tbNew xs p m g day).enc) := by rw [Hnew.out]; exact Hown2.out
        have Hown := Lib.hid own4
        clear own4
        have hA4 := fun (w5 : World) (hb : Below w2.heap.size w2 w5) => l23Good_any (some ⟨gg, 0, none⟩) cap (xs ++ [tbNew xs p m g day]) w5 (r4.rdTo Brk.enc_len hb) (by simp; omega)
        simp only [List.length_append, List.length_singleton] at hA4
        have HA4 := Lib.hid hA4
        clear hA4
        have hA3 := l23Good_any (some ad) c xs w2 (h.to (by repeat' (first | (with_reducible exact Below.refl _ _) | (with_reducible refine Below.alloc ?_ ?_ _) | (with_reducible refine Below.setCell ?_ ?_ _) | (with_reducible refine Below.drew ?_) | (with_reducible refine Below.trans ?_ (Below.mono (by with_reducible assumption) ?_)) | omega | (simp; done) | (simp; omega)))) hx
        rw [hG0] at hA3
        go_wp2_with fail
        refine hA3.mono ?_
        rintro e w3 ⟨rfl, hb3⟩
        have hs3 := hb3.size
        have hA4 := HA4.out w3 hb3
        clear hA3 HA4
        cases hE : brksOK (xs ++ [tbNew xs p m g day])
        · rw [hE] at hA4
          have Hq := Lib.hid (show tbOK xs p m g day = false by simp [tbOK, hE])
          go_wp2_with fail
          refine hA4.mono ?_
          rintro e w4 ⟨rfl, hb4⟩
          have hs4 := hb4.size
          go_wp2
          go_ret3
          exact tb_no Hq.out fun _ => MadeAt.empty (g := w4.heap.size) _ (by omega) (heap_alloc_new w4 _) (by repeat' (first | (with_reducible exact Below.refl _ _) | (with_reducible refine Below.alloc ?_ ?_ _) | (with_reducible refine Below.setCell ?_ ?_ _) | (with_reducible refine Below.drew ?_) | (with_reducible refine Below.trans ?_ (Below.mono (by with_reducible assumption) ?_)) | omega | (simp; done) | (simp; omega)))
        · rw [hE] at hA4
          have Hq := Lib.hid (show tbOK xs p m g day = true by simp [tbOK, hE, hG0, HL.out])
          go_wp2_with fail
          refine hA4.mono ?_
          rintro e w4 ⟨rfl, hb4⟩
          have hs4 := hb4.size
          go_wp2
          go_ret3
          have hz := tb_yes (w := w) (w' := w4) (E := 26) Hq.out (own_to Hown.out (hb3.trans (hb4.mono hs3))) (by repeat' (first | (with_reducible exact Below.refl _ _) | (with_reducible refine Below.alloc ?_ ?_ _) | (with_reducible refine Below.setCell ?_ ?_ _) | (with_reducible refine Below.drew ?_) | (with_reducible refine Below.trans ?_ (Below.mono (by with_reducible assumption) ?_)) | omega | (simp; done) | (simp; omega)))
          rw [show (tbNew xs p m g day).i = 1 by rw [Hnew.out]] at hz
          exact hz
  · have hlt : xs.length - 1 < xs.length := by omega
    obtain ⟨b, o, hA, hB, c0, c1, c2, c3, c4, c5⟩ := brk_cells h hlt
    cases hA
    have hI1 : (0 : Int) ≤ (xs.length : Int) - 1 := by omega
    have hI2 : (xs.length : Int) - 1 < xs.length := by omega
    have hI3 : 0 < xs.length := by omega
    have hd0 : decide (0 < xs.length) = true := by simpa using hI3
    cases hG0 : brksOK xs
    · go_enter Tryd.func11, Tryd.ntmps11
      go_wp2_with fail
      clear c0 c1 c2 c3 c4 c5
      go_loopw [15] (fun i wr => ∃ k : Nat, k ≤ xs.length ∧ i = .int .i64 k ∧ Below w.heap.size w wr ∧ Hid (∀ j, j < k → lateAt xs day j = false)) (fun i _ => xs.length - (intOf i).toNat)
      case atStart => exact ⟨0, Nat.zero_le _, rfl, Below.refl _ _, fun i hi => by omega⟩
      case round =>
        obtain ⟨k, hk, rfl, hb, Hall⟩ := hrel
        have hs := hb.size
        by_cases hkl : k < xs.length
        · obtain ⟨b', o', hA', hB', d0, d1, d2, d3, d4, d5⟩ := brk_cells (h.below hb) hkl
          obtain ⟨rfl, rfl⟩ : b = b' ∧ o = o' := by simpa using hA'
          clear hA'
          have hB1 : b < wr.heap.size := by omega
          have hI : (k : Int) < xs.length := by omega
          have hI0 : (0 : Int) ≤ k := by omega
          cases hq : lateAt xs day k
          · have hq' := hq
            unfold lateAt at hq'
            have Hq := Lib.hid hq
            clear hq
            go_wp2_with fail
            go_roundw
            case rel => exact ⟨k + 1, by omega, by go_num, (by repeat' (first | (with_reducible exact Below.refl _ _) | (with_reducible refine Below.alloc ?_ ?_ _) | (with_reducible refine Below.setCell ?_ ?_ _) | (with_reducible refine Below.drew ?_) | (with_reducible refine Below.trans ?_ (Below.mono (by with_reducible assumption) ?_)) | omega | (simp; done) | (simp; omega))), fun j hj => by
              by_cases e : j = k
              · subst e; exact Hq.out
              · exact Hall.out j (by omega)⟩
            case measure => simp [intOf]; omega
          · have hq' := hq
            unfold lateAt at hq'
            have Hq := Lib.hid (show tbOK xs p m g day = false by simp [tbOK, lateIn_yes hkl hq])
            clear hq
            go_wp2_with fail
            go_ret3
            exact tb_no Hq.out fun _ => MadeAt.empty (g := wr.heap.size) _ hs (heap_alloc_new wr _) (by repeat' (first | (with_reducible exact Below.refl _ _) | (with_reducible refine Below.alloc ?_ ?_ _) | (with_reducible refine Below.setCell ?_ ?_ _) | (with_reducible refine Below.drew ?_) | (with_reducible refine Below.trans ?_ (Below.mono (by with_reducible assumption) ?_)) | omega | (simp; done) | (simp; omega)))
        · obtain rfl : k = xs.length := by omega
          have hL := lateIn_no Hall.out
          have HL := Lib.hid hL
          clear hL
          go_wp2_with (at_builtin; refine wpList_append_own _ rfl _ _ 31 rfl w.heap.size 26 i0 _ 6 48 Tryd.underlying31 hinfo.out.1 hinfo.out.2.1 hinfo.out.2.2.1 hinfo.out.2.2.2 rfl (by decide) _ _ _ rfl (own_empty 6 hs (heap_alloc_new wr _)) ⟨b, o, none⟩ _ _ (xs.flatMap Brk.enc) rfl (flat_len Brk.enc_len xs) ((h.to (by repeat' (first | (with_reducible exact Below.refl _ _) | (with_reducible refine Below.alloc ?_ ?_ _) | (with_reducible refine Below.setCell ?_ ?_ _) | (with_reducible refine Below.drew ?_) | (with_reducible refine Below.trans ?_ (Below.mono (by with_reducible assumption) ?_)) | omega | (simp; done) | (simp; omega)))).news Brk.enc_len) (flat_one Brk.enc_one) (by unfold maxLen; omega) (by omega) (by simp; omega) ?_)
          intro v1 w1 hown1 hgrow1 hnil1
          have hb1 : Below w.heap.size w w1 := own_grew (own_empty (W := wr.alloc (.cells #[] 26)) 6 hs (heap_alloc_new wr _)) (show Below w.heap.size w (wr.alloc _) from (by repeat' (first | (with_reducible exact Below.refl _ _) | (with_reducible refine Below.alloc ?_ ?_ _) | (with_reducible refine Below.setCell ?_ ?_ _) | (with_reducible refine Below.drew ?_) | (with_reducible refine Below.trans ?_ (Below.mono (by with_reducible assumption) ?_)) | omega | (simp; done) | (simp; omega)))) (by simp; omega) hgrow1
          have hs1 := hb1.size
          have hown1 : w1.ownsRow w.heap.size 26 6 v1 xs.length (xs.flatMap Brk.enc) := by simpa using hown1
          have Hown1 := Lib.hid hown1
          clear hown1 hgrow1 hnil1
          go_wp2_with (at_builtin; refine wpList_append_own _ rfl _ _ 31 rfl w.heap.size 26 _ _ 6 48 Tryd.underlying31 hinfo.out.1 hinfo.out.2.1 hinfo.out.2.2.1 hinfo.out.2.2.2 rfl (by decide) _ _ _ rfl (own_to Hown1.out (by repeat' (first | (with_reducible exact Below.refl _ _) | (with_reducible refine Below.alloc ?_ ?_ _) | (with_reducible refine Below.setCell ?_ ?_ _) | (with_reducible refine Below.drew ?_) | (with_reducible refine Below.trans ?_ (Below.mono (by with_reducible assumption) ?_)) | omega | (simp; done) | (simp; omega)))) _ 1 1 [.int .i64 (wrap64 ((el xs (xs.length - 1)).i + 1)), .int .i64 p, .int .i64 m, .int .i64 g, .int .i64 day, .int .i64 0] rfl rfl (news_top (cs := #[.int .i64 (wrap64 ((el xs (xs.length - 1)).i + 1)), .int .i64 p, .int .i64 m, .int .i64 g, .int .i64 day, .int .i64 0]) (t := 26) (by simp)) (by simp [Value.oneCell']) (by unfold maxLen; omega) (by omega) (by simp; omega) ?_)
          intro v2 w2 hown2 hgrow2 hnil2
          have hb2 : Below w.heap.size w w2 := own_grew Hown1.out (by repeat' (first | (with_reducible exact Below.refl _ _) | (with_reducible refine Below.alloc ?_ ?_ _) | (with_reducible refine Below.setCell ?_ ?_ _) | (with_reducible refine Below.drew ?_) | (with_reducible refine Below.trans ?_ (Below.mono (by with_reducible assumption) ?_)) | omega | (simp; done) | (simp; omega))) (by simp; omega) hgrow2
          have hs2 := hb2.size
          obtain ⟨gg, cap, rfl, hgg, hlt4⟩ := hown2.form (by omega)
          have Hown2 := Lib.hid hown2
          clear hown2 hgrow2 hnil2
          have Hq := Lib.hid (show tbOK xs p m g day = false by simp [tbOK, hG0])
          have hA3 := l23Good_any (some ⟨b, o, none⟩) c xs w2 (h.to (by repeat' (first | (with_reducible exact Below.refl _ _) | (with_reducible refine Below.alloc ?_ ?_ _) | (with_reducible refine Below.setCell ?_ ?_ _) | (with_reducible refine Below.drew ?_) | (with_reducible refine Below.trans ?_ (Below.mono (by with_reducible assumption) ?_)) | omega | (simp; done) | (simp; omega)))) hx
          rw [hG0] at hA3
          go_wp2_with fail
          refine hA3.mono ?_
          rintro e w3 ⟨rfl, hb3⟩
          have hs3 := hb3.size
          go_wp2
          go_ret3
          exact tb_no Hq.out fun _ => MadeAt.empty (g := w3.heap.size) _ (by omega) (heap_alloc_new w3 _) (by repeat' (first | (with_reducible exact Below.refl _ _) | (with_reducible refine Below.alloc ?_ ?_ _) | (with_reducible refine Below.setCell ?_ ?_ _) | (with_reducible refine Below.drew ?_) | (with_reducible refine Below.trans ?_ (Below.mono (by with_reducible assumption) ?_)) | omega | (simp; done) | (simp; omega)))
    · have hbd := brksOK_bd hG0
      have hv := Lib.hid hbd.2
      have hn := hbd.1
      clear hbd
      have hq := brkAt_bd (hv.out _ hlt)
      have Hnew := Lib.hid (show tbNew xs p m g day = ⟨(el xs (xs.length - 1)).i + 1, p, m, g, day, 0⟩ by simp [tbNew, h0])
      go_enter Tryd.func11, Tryd.ntmps11
      go_wp2_with fail
      clear c0 c1 c2 c3 c4 c5
      go_loopw [15] (fun i wr => ∃ k : Nat, k ≤ xs.length ∧ i = .int .i64 k ∧ Below w.heap.size w wr ∧ Hid (∀ j, j < k → lateAt xs day j = false)) (fun i _ => xs.length - (intOf i).toNat)
      case atStart => exact ⟨0, Nat.zero_le _, rfl, Below.refl _ _, fun i hi => by omega⟩
      case round =>
        obtain ⟨k, hk, rfl, hb, Hall⟩ := hrel
        have hs := hb.size
        by_cases hkl : k < xs.length
        · obtain ⟨b', o', hA', hB', d0, d1, d2, d3, d4, d5⟩ := brk_cells (h.below hb) hkl
          obtain ⟨rfl, rfl⟩ : b = b' ∧ o = o' := by simpa using hA'
          clear hA'
          have hB1 : b < wr.heap.size := by omega
          have hI : (k : Int) < xs.length := by omega
          have hI0 : (0 : Int) ≤ k := by omega
          cases hq : lateAt xs day k
          · have hq' := hq
            unfold lateAt at hq'
            have Hq := Lib.hid hq
            clear hq
            go_wp2_with fail
            go_roundw
            case rel => exact ⟨k + 1, by omega, by go_num, (by repeat' (first | (with_reducible exact Below.refl _ _) | (with_reducible refine Below.alloc ?_ ?_ _) | (with_reducible refine Below.setCell ?_ ?_ _) | (with_reducible refine Below.drew ?_) | (with_reducible refine Below.trans ?_ (Below.mono (by with_reducible assumption) ?_)) | omega | (simp; done) | (simp; omega))), fun j hj => by
              by_cases e : j = k
              · subst e; exact Hq.out
              · exact Hall.out j (by omega)⟩
            case measure => simp [intOf]; omega
          · have hq' := hq
            unfold lateAt at hq'
            have Hq := Lib.hid (show tbOK xs p m g day = false by simp [tbOK, lateIn_yes hkl hq])
            clear hq
            go_wp2_with fail
            go_ret3
            exact tb_no Hq.out fun _ => MadeAt.empty (g := wr.heap.size) _ hs (heap_alloc_new wr _) (by repeat' (first | (with_reducible exact Below.refl _ _) | (with_reducible refine Below.alloc ?_ ?_ _) | (with_reducible refine Below.setCell ?_ ?_ _) | (with_reducible refine Below.drew ?_) | (with_reducible refine Below.trans ?_ (Below.mono (by with_reducible assumption) ?_)) | omega | (simp; done) | (simp; omega)))
        · obtain rfl : k = xs.length := by omega
          have hL := lateIn_no Hall.out
          have HL := Lib.hid hL
          clear hL
          go_wp2_with (at_builtin; refine wpList_append_own _ rfl _ _ 31 rfl w.heap.size 26 i0 _ 6 48 Tryd.underlying31 hinfo.out.1 hinfo.out.2.1 hinfo.out.2.2.1 hinfo.out.2.2.2 rfl (by decide) _ _ _ rfl (own_empty 6 hs (heap_alloc_new wr _)) ⟨b, o, none⟩ _ _ (xs.flatMap Brk.enc) rfl (flat_len Brk.enc_len xs) ((h.to (by repeat' (first | (with_reducible exact Below.refl _ _) | (with_reducible refine Below.alloc ?_ ?_ _) | (with_reducible refine Below.setCell ?_ ?_ _) | (with_reducible refine Below.drew ?_) | (with_reducible refine Below.trans ?_ (Below.mono (by with_reducible assumption) ?_)) | omega | (simp; done) | (simp; omega)))).news Brk.enc_len) (flat_one Brk.enc_one) (by unfold maxLen; omega) (by omega) (by simp; omega) ?_)
          intro v1 w1 hown1 hgrow1 hnil1
          have hb1 : Below w.heap.size w w1 := own_grew (own_empty (W := wr.alloc (.cells #[] 26)) 6 hs (heap_alloc_new wr _)) (show Below w.heap.size w (wr.alloc _) from (by repeat' (first | (with_reducible exact Below.refl _ _) | (with_reducible refine Below.alloc ?_ ?_ _) | (with_reducible refine Below.setCell ?_ ?_ _) | (with_reducible refine Below.drew ?_) | (with_reducible refine Below.trans ?_ (Below.mono (by with_reducible assumption) ?_)) | omega | (simp; done) | (simp; omega)))) (by simp; omega) hgrow1
          have hs1 := hb1.size
          have hown1 : w1.ownsRow w.heap.size 26 6 v1 xs.length (xs.flatMap Brk.enc) := by simpa using hown1
          have Hown1 := Lib.hid hown1
          clear hown1 hgrow1 hnil1
          go_wp2_with (at_builtin; refine wpList_append_own _ rfl _ _ 31 rfl w.heap.size 26 _ _ 6 48 Tryd.underlying31 hinfo.out.1 hinfo.out.2.1 hinfo.out.2.2.1 hinfo.out.2.2.2 rfl (by decide) _ _ _ rfl (own_to Hown1.out (by repeat' (first | (with_reducible exact Below.refl _ _) | (with_reducible refine Below.alloc ?_ ?_ _) | (with_reducible refine Below.setCell ?_ ?_ _) | (with_reducible refine Below.drew ?_) | (with_reducible refine Below.trans ?_ (Below.mono (by with_reducible assumption) ?_)) | omega | (simp; done) | (simp; omega)))) _ 1 1 [.int .i64 ((el xs (xs.length - 1)).i + 1), .int .i64 p, .int .i64 m, .int .i64 g, .int .i64 day, .int .i64 0] rfl rfl (news_top (cs := #[.int .i64 ((el xs (xs.length - 1)).i + 1), .int .i64 p, .int .i64 m, .int .i64 g, .int .i64 day, .int .i64 0]) (t := 26) (by simp)) (by simp [Value.oneCell']) (by unfold maxLen; omega) (by omega) (by simp; omega) ?_)
          intro v2 w2 hown2 hgrow2 hnil2
          have hb2 : Below w.heap.size w w2 := own_grew Hown1.out (by repeat' (first | (with_reducible exact Below.refl _ _) | (with_reducible refine Below.alloc ?_ ?_ _) | (with_reducible refine Below.setCell ?_ ?_ _) | (with_reducible refine Below.drew ?_) | (with_reducible refine Below.trans ?_ (Below.mono (by with_reducible assumption) ?_)) | omega | (simp; done) | (simp; omega))) (by simp; omega) hgrow2
          have hs2 := hb2.size
          obtain ⟨gg, cap, rfl, hgg, hlt4⟩ := hown2.form (by omega)
          have Hown2 := Lib.hid hown2
          clear hown2 hgrow2 hnil2
          have r4 : Row w2 gg 26 ((xs ++ [tbNew xs p m g day]).flatMap Brk.enc) := by have h4 := (Row.of_own Hown2.out).1; rw [List.flatMap_append, Hnew.out]; simpa [Brk.enc] using h4
          have own4 : w2.ownsRow w.heap.size 26 6 (.slice (some ⟨gg, 0, none⟩) (xs.length + 1) cap) (xs.length + 1) (xs.flatMap Brk.enc ++ (tbNew xs p m g day).enc) := by rw [Hnew.out]; exact Hown2.out
          have Hown := Lib.hid own4
          clear own4
          have hA4 := fun (w5 : World) (hb : Below w2.heap.size w2 w5) => l23Good_any (some ⟨gg, 0, none⟩) cap (xs ++ [tbNew xs p m g day]) w5 (r4.rdTo Brk.enc_len hb) (by simp; omega)
          simp only [List.length_append, List.length_singleton] at hA4
          have HA4 := Lib.hid hA4
          clear hA4
          have hA3 := l23Good_any (some ⟨b, o, none⟩) c xs w2 (h.to (by repeat' (first | (with_reducible exact Below.refl _ _) | (with_reducible refine Below.alloc ?_ ?_ _) | (with_reducible refine Below.setCell ?_ ?_ _) | (with_reducible refine Below.drew ?_) | (with_reducible refine Below.trans ?_ (Below.mono (by with_reducible assumption) ?_)) | omega | (simp; done) | (simp; omega)))) hx
          rw [hG0] at hA3
          go_wp2_with fail
          refine hA3.mono ?_
          rintro e w3 ⟨rfl, hb3⟩
          have hs3 := hb3.size
          have hA4 := HA4.out w3 hb3
          clear hA3 HA4
          cases hE : brksOK (xs ++ [tbNew xs p m g day])
          · rw [hE] at hA4
            have Hq := Lib.hid (show tbOK xs p m g day = false by simp [tbOK, hE])
            go_wp2_with fail
            refine hA4.mono ?_
            rintro e w4 ⟨rfl, hb4⟩
            have hs4 := hb4.size
            go_wp2
            go_ret3
            exact tb_no Hq.out fun _ => MadeAt.empty (g := w4.heap.size) _ (by omega) (heap_alloc_new w4 _) (by repeat' (first | (with_reducible exact Below.refl _ _) | (with_reducible refine Below.alloc ?_ ?_ _) | (with_reducible refine Below.setCell ?_ ?_ _) | (with_reducible refine Below.drew ?_) | (with_reducible refine Below.trans ?_ (Below.mono (by with_reducible assumption) ?_)) | omega | (simp; done) | (simp; omega)))
          · rw [hE] at hA4
            have Hq := Lib.hid (show tbOK xs p m g day = true by simp [tbOK, hE, hG0, HL.out])
            go_wp2_with fail
            refine hA4.mono ?_
            rintro e w4 ⟨rfl, hb4⟩
            have hs4 := hb4.size
            go_wp2
            go_ret3
            have hz := tb_yes (w := w) (w' := w4) (E := 26) Hq.out (own_to Hown.out (hb3.trans (hb4.mono hs3))) (by repeat' (first | (with_reducible exact Below.refl _ _) | (with_reducible refine Below.alloc ?_ ?_ _) | (with_reducible refine Below.setCell ?_ ?_ _) | (with_reducible refine Below.drew ?_) | (with_reducible refine Below.trans ?_ (Below.mono (by with_reducible assumption) ?_)) | omega | (simp; done) | (simp; omega)))
            rw [show (tbNew xs p m g day).i = ((el xs (xs.length - 1)).i + 1) by rw [Hnew.out]] at hz
            exact hz
end Go.Proofs.YtakjfkbfibcbcaaDoor
