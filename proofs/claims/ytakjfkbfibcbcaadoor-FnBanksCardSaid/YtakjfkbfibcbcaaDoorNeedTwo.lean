/- Contracts: the order of need of breaks, of the implementation (chapter 23). -/
import Derived.Test.YtakjfkbfibcbcaaDoorNeed
set_option linter.unusedSimpArgs false
set_option linter.unusedVariables false
namespace Go.Proofs.YtakjfkbfibcbcaaDoor
open Go.RowKit Go.Sort Go.Salt
attribute [local go_sem] cell_rg
set_option maxRecDepth 100000 in
set_option maxHeartbeats 16000000 in
theorem iNeed_any (A : Option Addr) (c : Nat) (xs : List Brk) (w : World) (h : Rd w w.heap.size A 6 Brk.enc xs) (hx : xs.length ≤ 19) :
    Calls Tryd.prog 38 #[.slice A xs.length c] w fun e w' => MadeAt w 3 (natVals (needO xs xs.length)) (needO xs xs.length).length .returned e w' := by
  obtain ⟨i0, hi, hz0, hz1, hz2⟩ := info_parts int_info
  have hinfo := Lib.hid (And.intro hi (And.intro hz0 (And.intro hz1 hz2)))
  clear hi hz0 hz1 hz2
  go_enter Tryd.func38, Tryd.ntmps38
  go_wp2_with fail
  refine cut_worldN (fun W => Row W w.heap.size 31 [.slice A xs.length c] ∧ Below w.heap.size w W) ⟨(Row.new w 31 #[.slice A xs.length c]).to (by repeat' (first | (with_reducible exact Below.refl _ _) | (with_reducible refine Below.alloc ?_ ?_ _) | (with_reducible refine Below.setCell ?_ ?_ _) | (with_reducible refine Below.drew ?_) | (with_reducible refine Below.trans ?_ (Below.mono (by with_reducible assumption) ?_)) | omega | (simp; done) | (simp; omega))), (by repeat' (first | (with_reducible exact Below.refl _ _) | (with_reducible refine Below.alloc ?_ ?_ _) | (with_reducible refine Below.setCell ?_ ?_ _) | (with_reducible refine Below.drew ?_) | (with_reducible refine Below.trans ?_ (Below.mono (by with_reducible assumption) ?_)) | omega | (simp; done) | (simp; omega)))⟩ ?_
  rintro w0 ⟨hL0, hb0⟩
  have hL := hL0.lt
  have h0 := Lib.hid ((h.below hb0).more hb0.size)
  replace hL0 := Lib.hid hL0
  have hs0 := hb0.size
  clear h
  have hown := World.ownsRow_nil w0 w0.heap.size 3 1
  go_loopw [3, 8] (fun v i wr => ∃ k : Nat, k ≤ xs.length ∧ i = .int .i64 k ∧ Hid (wr.ownsRow w0.heap.size 3 1 v (needL xs k).length (natVals (needL xs k))) ∧ Below w0.heap.size w0 wr) (fun _ i _ => xs.length - (intOf i).toNat)
  case atStart => exact ⟨0, Nat.zero_le _, rfl, hown, Below.refl _ _⟩
  case round =>
    obtain ⟨k, hk, rfl, hown, hb⟩ := hrel
    have hs := hb.size
    by_cases hlt : k < xs.length
    · obtain ⟨b, o, rfl, hB, c0, c1, c2, c3, c4, c5⟩ := brk_cells (h0.out.below hb) hlt
      have hB1 : b < wr.heap.size := by omega
      have hI : (k : Int) < xs.length := by omega
      have hI0 : (0 : Int) ≤ k := by omega
      have hll := needL_len xs k
      by_cases hd : (el xs k).d < (el xs k).m
      · have Hl := Lib.hid (needL_yes hd)
        go_wp2_with (at_builtin; refine wpList_append_own _ rfl _ _ 39 rfl w0.heap.size 3 _ _ 1 8 Tryd.underlying39 hinfo.out.1 hinfo.out.2.1 hinfo.out.2.2.1 hinfo.out.2.2.2 rfl (by decide) _ _ _ rfl (own_to hown.out (by repeat' (first | (with_reducible exact Below.refl _ _) | (with_reducible refine Below.alloc ?_ ?_ _) | (with_reducible refine Below.setCell ?_ ?_ _) | (with_reducible refine Below.drew ?_) | (with_reducible refine Below.trans ?_ (Below.mono (by with_reducible assumption) ?_)) | omega | (simp; done) | (simp; omega)))) _ 1 1 [.int .i64 (k : Int)] rfl rfl (news_top (cs := #[.int .i64 (k : Int)]) (t := 3) (by simp)) (by simp [Value.oneCell']) (by unfold maxLen; omega) (by omega) (by simp; omega) ?_)
        intro v2 w2 hown2 hgrow hnil
        have hb2 : Below w0.heap.size w0 w2 := own_grew hown.out (by repeat' (first | (with_reducible exact Below.refl _ _) | (with_reducible refine Below.alloc ?_ ?_ _) | (with_reducible refine Below.setCell ?_ ?_ _) | (with_reducible refine Below.drew ?_) | (with_reducible refine Below.trans ?_ (Below.mono (by with_reducible assumption) ?_)) | omega | (simp; done) | (simp; omega))) (by simp; omega) hgrow
        have hs2 := hb2.size
        go_wp2_with fail
        go_roundw
        case rel => exact ⟨k + 1, by omega, by go_num, by rw [Hl.out, List.length_append, natVals_snoc]; simpa [Hid] using hown2, hb2⟩
        case measure => simp [intOf]; omega
      · have Hl := Lib.hid (needL_no hd)
        go_wp2_with fail
        go_roundw
        case rel => exact ⟨k + 1, by omega, by go_num, by rw [Hl.out]; exact own_to hown.out (by repeat' (first | (with_reducible exact Below.refl _ _) | (with_reducible refine Below.alloc ?_ ?_ _) | (with_reducible refine Below.setCell ?_ ?_ _) | (with_reducible refine Below.drew ?_) | (with_reducible refine Below.trans ?_ (Below.mono (by with_reducible assumption) ?_)) | omega | (simp; done) | (simp; omega))), (by repeat' (first | (with_reducible exact Below.refl _ _) | (with_reducible refine Below.alloc ?_ ?_ _) | (with_reducible refine Below.setCell ?_ ?_ _) | (with_reducible refine Below.drew ?_) | (with_reducible refine Below.trans ?_ (Below.mono (by with_reducible assumption) ?_)) | omega | (simp; done) | (simp; omega)))⟩
        case measure => simp [intOf]; omega
    · obtain rfl : k = xs.length := by omega
      obtain ⟨A', c', rfl, ho⟩ := OwnAt.of_own hown.out
      have hbw := hb0.trans (hb.mono hs0)
      have hmem := needL_el xs
      have hle : (needO xs xs.length).length = (needL xs xs.length).length := ordL_len _ _
      have hio := insTo_all (ahead xs) (needL xs xs.length)
      obtain ⟨ns, hns⟩ : ∃ ns, needL xs xs.length = ns := ⟨_, rfl⟩
      have hord : needO xs xs.length = ordL (ahead xs) ns := by rw [needO, hns]
      have hnl := needL_len xs xs.length
      rw [hns] at hmem hle hio ho hnl
      simp only [hns]
      clear hown hns
      rw [← hord] at hio
      replace hio := Lib.hid hio
      replace hle := Lib.hid hle
      replace hmem := Lib.hid hmem
      replace hord := Lib.hid hord
      replace ho := Lib.hid ho
      by_cases hz : ns.length = 0
      · have hnil : ns = [] := List.eq_nil_of_length_eq_zero hz
        subst hnil
        clear hz
        go_wp2_with (first | (go_at_call 58; refine (sortStable_none _ _ _ _).mono ?_; rintro e wX ⟨rfl, rfl⟩))
        go_ret
        exact ⟨A', c', by rw [hle.out]; rfl, by rw [hle.out, hord.out]; exact ho.out.mono hs0, hbw⟩
      · have h1 : 1 ≤ ns.length := by omega
        rcases ho.out with ⟨_, hc, _⟩ | ⟨g, rfl, hg, hrow⟩
        · exact absurd hc (by omega)
        · have hst := Lib.hid (sortStable_row A c w.heap.size w0.heap.size g c' xs ns wr (h0.out.below hb) ((hb.cell (p := ⟨w.heap.size, 0, none⟩) hL).trans (by have := hL0.out.cell (j := 0) (by simp); simpa using this)) hL hg hs hrow hmem.out (by omega) (by omega) h1)
          clear ho hz hrow
          go_wp2_with fail
          refine hst.out.mono ?_
          rintro e w2 ⟨rfl, hr2, hg2⟩
          replace hr2 := Lib.hid hr2
          have hb2 : Below w0.heap.size w0 w2 := hb.trans (grown_below hg2 hg hs)
          go_wp2_with (first | (go_at_call 58; refine (sortStable_none _ _ _ _).mono ?_; rintro e wX ⟨rfl, rfl⟩))
          go_ret
          exact ⟨some ⟨g, 0, none⟩, c', by rw [hle.out]; rfl, .inr ⟨g, rfl, by omega, by rw [← hio.out]; exact hr2.out⟩, hb0.trans (hb2.mono hs0)⟩
end Go.Proofs.YtakjfkbfibcbcaaDoor
