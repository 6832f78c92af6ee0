/- Contracts: a clone, a predicate over a list, a told break (chapter 23). -/
import Derived.Test.YtakjfkbfibcbcaaDoorMend
import Derived.Laws.AppendOwnNone
import Derived.Deep.RegionHeld3
import Derived.Lib.SliceRun
import Derived.Shelf.Abstract
set_option linter.unusedSimpArgs false
set_option linter.unusedVariables false
namespace Go.Proofs.YtakjfkbfibcbcaaDoor
open Go.RowKit Go.Sort Go.Salt
attribute [local go_sem] cell_rg
attribute [local go_sem ↓] run_max_mx run_min_mn
theorem Brk.enc_one (x : Brk) : ∀ u ∈ x.enc, u.oneCell' = true := fun u hu => by simp [Brk.enc] at hu; rcases hu with rfl | rfl | rfl | rfl | rfl | rfl <;> rfl
set_option maxHeartbeats 4000000 in
theorem cloneBrk_own (ad : Addr) (c : Nat) (xs : List Brk) (w : World) (h : Rd w w.heap.size (some ad) 6 Brk.enc xs) (hx : xs.length ≤ 1048576) :
    Calls Tryd.prog 35 #[.slice (some ad) xs.length c] w fun e w' => ∃ v, e = .returned v ∧ w'.ownsRow w.heap.size 26 6 v xs.length (xs.flatMap Brk.enc) ∧ Below w.heap.size w w' := by
  have q := fun (w : World) (a : Option Addr) (n c n' c' : Nat) => Lib.run_eql_slice_nil w 31 _ a n c n' c' Tryd.underlying31
  obtain ⟨i0, hi, hz0, hz1, hz2⟩ := info_parts brk_info
  have hinfo := Lib.hid (And.intro hi (And.intro hz0 (And.intro hz1 hz2)))
  clear hi hz0 hz1 hz2
  go_enter Tryd.func35, Tryd.ntmps35
  go_wp2_with (at_builtin; refine wpList_append_own _ rfl _ _ 31 rfl w.heap.size 26 i0 _ 6 48 Tryd.underlying31 hinfo.out.1 hinfo.out.2.1 hinfo.out.2.2.1 hinfo.out.2.2.2 rfl (by decide) _ _ _ rfl (own_empty 6 (Nat.le_refl _) (heap_alloc_new w _)) ad _ _ (xs.flatMap Brk.enc) rfl (flat_len Brk.enc_len xs) ((h.to (by repeat' (first | (with_reducible exact Below.refl _ _) | (with_reducible refine Below.alloc ?_ ?_ _) | (with_reducible refine Below.setCell ?_ ?_ _) | (with_reducible refine Below.drew ?_) | (with_reducible refine Below.trans ?_ (Below.mono (by with_reducible assumption) ?_)) | omega | (simp; done) | (simp; omega)))).news Brk.enc_len) (flat_one Brk.enc_one) (by unfold maxLen; omega) (by omega) (by simp) ?_)
  intro v1 w1 hown1 hgrow hnil
  have hb1 : Below w.heap.size w w1 := own_grew (own_empty (W := w.alloc (.cells #[] 26)) 6 (Nat.le_refl _) (heap_alloc_new w _)) (show Below w.heap.size w (w.alloc _) from (by repeat' (first | (with_reducible exact Below.refl _ _) | (with_reducible refine Below.alloc ?_ ?_ _) | (with_reducible refine Below.setCell ?_ ?_ _) | (with_reducible refine Below.drew ?_) | (with_reducible refine Below.trans ?_ (Below.mono (by with_reducible assumption) ?_)) | omega | (simp; done) | (simp; omega)))) (by simp) hgrow
  have hown1 : w1.ownsRow w.heap.size 26 6 v1 xs.length (xs.flatMap Brk.enc) := by simpa using hown1
  go_wp2
  go_ret
  exact ⟨v1, rfl, hown1, hb1⟩
set_option maxHeartbeats 4000000 in
theorem tellFn_any (i p m g t d day : Int) (B : Nat) (w : World) (hB : B < w.heap.size) (hc : w.cell? ⟨B, 0, none⟩ = some (.int .i64 day)) :
    Calls Tryd.prog 34 #[.agg #[.int .i64 i, .int .i64 p, .int .i64 m, .int .i64 g, .int .i64 t, .int .i64 d], .pointer (some ⟨B, 0, none⟩)] w fun e w' => e = .returned (.bool (decide (day < t))) ∧ Below w.heap.size w w' := by
  have hne : B ≠ w.heap.size := by omega
  cases hd : decide (day < t)
  · have hd' : ¬ day < t := by simpa using hd
    go_enter Tryd.func34, Tryd.ntmps34
    go_wp2_with fail
    go_ret
    exact ⟨ret_bool (by simp [*]), (by repeat' (first | (with_reducible exact Below.refl _ _) | (with_reducible refine Below.alloc ?_ ?_ _) | (with_reducible refine Below.setCell ?_ ?_ _) | (with_reducible refine Below.drew ?_) | (with_reducible refine Below.trans ?_ (Below.mono (by with_reducible assumption) ?_)) | omega | (simp; done) | (simp; omega)))⟩
  · have hd' : day < t := by simpa using hd
    go_enter Tryd.func34, Tryd.ntmps34
    go_wp2_with fail
    go_ret
    exact ⟨ret_bool (by simp [*]), (by repeat' (first | (with_reducible exact Below.refl _ _) | (with_reducible refine Below.alloc ?_ ?_ _) | (with_reducible refine Below.setCell ?_ ?_ _) | (with_reducible refine Below.drew ?_) | (with_reducible refine Below.trans ?_ (Below.mono (by with_reducible assumption) ?_)) | omega | (simp; done) | (simp; omega)))⟩
/-- A break among the first k that was told after that day. -/
def lateAt (xs : List Brk) (day : Int) (k : Nat) : Bool := decide (day < (el xs k).t)
def lateIn (xs : List Brk) (day : Int) : Bool := (List.range xs.length).any (lateAt xs day)
theorem lateIn_yes {xs : List Brk} {day : Int} {k : Nat} (hk : k < xs.length) (h : lateAt xs day k = true) : lateIn xs day = true := List.any_eq_true.2 ⟨k, List.mem_range.2 hk, h⟩
theorem lateIn_no {xs : List Brk} {day : Int} (h : ∀ k, k < xs.length → lateAt xs day k = false) : lateIn xs day = false := by
  cases hq : lateIn xs day
  · rfl
  · obtain ⟨k, hk, h2⟩ := List.any_eq_true.1 hq
    rw [h k (List.mem_range.1 hk)] at h2; cases h2
set_option maxHeartbeats 4000000 in
theorem tellIndex_any (A : Option Addr) (c : Nat) (xs : List Brk) (day : Int) (B : Nat) (w : World) (h : Rd w w.heap.size A 6 Brk.enc xs) (hx : xs.length ≤ 1048576) (hB : B < w.heap.size) (hc : w.cell? ⟨B, 0, none⟩ = some (.int .i64 day)) :
    Calls Tryd.prog 57 #[.slice A xs.length c, .func (.func 34) #[] #[.pointer (some ⟨B, 0, none⟩)]] w fun e w' => (∃ z : Int, e = .returned (.int .i64 z) ∧ decide (0 ≤ z) = lateIn xs day) ∧ Below w.heap.size w w' := by
  have eg := enters_of Tryd.func34 (by kernel_rfl) rfl
  go_enter Tryd.func57, Tryd.ntmps57
  go_wp2
  go_loopw [8] (fun i wr => ∃ k : Nat, k ≤ xs.length ∧ i = .int .i64 k ∧ Below w.heap.size w wr ∧ Hid (∀ j, j < k → lateAt xs day j = false)) (fun i _ => xs.length - (intOf i).toNat)
  case atStart => exact ⟨0, Nat.zero_le _, rfl, Below.refl _ _, fun i hi => by omega⟩
  case round =>
    obtain ⟨k, hk, rfl, hb, Hall⟩ := hrel
    by_cases hlt : k < xs.length
    · obtain ⟨b, o, rfl, hB2, c0, c1, c2, c3, c4, c5⟩ := brk_cells (h.below hb) hlt
      have hs := hb.size
      have hB1 : b < wr.heap.size := by omega
      have hI : (k : Int) < xs.length := by omega
      have hI0 : (0 : Int) ≤ k := by omega
      have hcb : wr.cell? ⟨B, 0, none⟩ = some (.int .i64 day) := (hb.cell (p := ⟨B, 0, none⟩) hB).trans hc
      have hcall := tellFn_any (el xs k).i (el xs k).p (el xs k).m (el xs k).g (el xs k).t (el xs k).d day B wr (by omega) hcb
      cases hq : lateAt xs day k
      · have hq' := hq
        unfold lateAt at hq'
        rw [hq'] at hcall
        clear hq' hcb
        have Hq := Lib.hid hq
        clear hq
        go_wp2_with (go_at_call 34; refine hcall.mono ?_; rintro e w1 ⟨rfl, hb1⟩)
        have hs1 := hb1.size
        go_wp2
        go_roundw
        case rel => exact ⟨k + 1, by omega, by go_num, (by repeat' (first | (with_reducible exact Below.refl _ _) | (with_reducible refine Below.alloc ?_ ?_ _) | (with_reducible refine Below.setCell ?_ ?_ _) | (with_reducible refine Below.drew ?_) | (with_reducible refine Below.trans ?_ (Below.mono (by with_reducible assumption) ?_)) | omega | (simp; done) | (simp; omega))), fun j hj => by
          by_cases e : j = k
          · subst e; exact Hq.out
          · exact Hall.out j (by omega)⟩
        case measure => simp [intOf]; omega
      · have hq' := hq
        unfold lateAt at hq'
        rw [hq'] at hcall
        clear hq' hcb
        have Hq := Lib.hid (lateIn_yes hlt hq)
        clear hq
        go_wp2_with (go_at_call 34; refine hcall.mono ?_; rintro e w1 ⟨rfl, hb1⟩)
        have hs1 := hb1.size
        go_wp2
        go_ret
        exact ⟨⟨_, rfl, by rw [Hq.out]; simp⟩, (by repeat' (first | (with_reducible exact Below.refl _ _) | (with_reducible refine Below.alloc ?_ ?_ _) | (with_reducible refine Below.setCell ?_ ?_ _) | (with_reducible refine Below.drew ?_) | (with_reducible refine Below.trans ?_ (Below.mono (by with_reducible assumption) ?_)) | omega | (simp; done) | (simp; omega)))⟩
    · obtain rfl : k = xs.length := by omega
      go_wp2
      go_ret
      exact ⟨⟨_, rfl, by rw [lateIn_no Hall.out]; rfl⟩, hb⟩
set_option maxHeartbeats 4000000 in
theorem tellContains_any (A : Option Addr) (c : Nat) (xs : List Brk) (day : Int) (B : Nat) (w : World) (h : Rd w w.heap.size A 6 Brk.enc xs) (hx : xs.length ≤ 1048576) (hB : B < w.heap.size) (hc : w.cell? ⟨B, 0, none⟩ = some (.int .i64 day)) :
    Calls Tryd.prog 33 #[.slice A xs.length c, .func (.func 34) #[] #[.pointer (some ⟨B, 0, none⟩)]] w fun e w' => e = .returned (.bool (lateIn xs day)) ∧ Below w.heap.size w w' := by
  have hcall := tellIndex_any A c xs day B w h hx hB hc
  go_enter Tryd.func33, Tryd.ntmps33
  go_wp2_with (go_at_call 57; refine hcall.mono ?_; rintro e w1 ⟨⟨z, rfl, hz⟩, hb1⟩)
  go_wp2
  go_ret
  exact ⟨by first | rfl | exact ret_bool hz, (by repeat' (first | (with_reducible exact Below.refl _ _) | (with_reducible refine Below.alloc ?_ ?_ _) | (with_reducible refine Below.setCell ?_ ?_ _) | (with_reducible refine Below.drew ?_) | (with_reducible refine Below.trans ?_ (Below.mono (by with_reducible assumption) ?_)) | omega | (simp; done) | (simp; omega)))⟩
/-- The break that is told; whether it may be; what is returned. -/
def tbNew (xs : List Brk) (p m g day : Int) : Brk := ⟨if xs.length = 0 then 1 else (el xs (xs.length - 1)).i + 1, p, m, g, day, 0⟩
def tbOK (xs : List Brk) (p m g day : Int) : Bool := brksOK xs && !lateIn xs day && brksOK (xs ++ [tbNew xs p m g day])
def tbR (xs : List Brk) (p m g day : Int) : List Brk := if tbOK xs p m g day = true then xs ++ [tbNew xs p m g day] else []
def tbI (xs : List Brk) (p m g day : Int) : Int := if tbOK xs p m g day = true then (tbNew xs p m g day).i else 0
theorem tbR_len (xs : List Brk) (p m g day : Int) : (tbR xs p m g day).length ≤ 10 := by
  unfold tbR; split
  · rename_i h
    simp only [tbOK, Bool.and_eq_true] at h
    exact (brksOK_bd h.2).1
  · simp
theorem tb_no {w w' : World} {xs : List Brk} {p m g day : Int} {v : Value} {E : TypeId} (h : tbOK xs p m g day = false) (hv : OwnAt w' w.heap.size E [] 0 none → MadeAt w E [] 0 (fun v => .returned (.tuple #[v, .int .i64 0, .bool false])) (.returned (.tuple #[v, .int .i64 0, .bool false])) w') : MadeAt w E ((tbR xs p m g day).flatMap Brk.enc) (tbR xs p m g day).length (fun v => .returned (.tuple #[v, .int .i64 (tbI xs p m g day), .bool (tbOK xs p m g day)])) (.returned (.tuple #[v, .int .i64 0, .bool false])) w' := by
  have e1 : tbR xs p m g day = [] := by simp [tbR, h]
  have e2 : tbI xs p m g day = 0 := by simp [tbI, h]
  rw [e1, e2, h]
  exact hv OwnAt.none_
theorem tb_yes {w w' : World} {xs : List Brk} {p m g day : Int} {v : Value} {E : TypeId} (h : tbOK xs p m g day = true) (hown : w'.ownsRow w.heap.size E 6 v (xs.length + 1) (xs.flatMap Brk.enc ++ (tbNew xs p m g day).enc)) (hb : Below w.heap.size w w') : MadeAt w E ((tbR xs p m g day).flatMap Brk.enc) (tbR xs p m g day).length (fun v => .returned (.tuple #[v, .int .i64 (tbI xs p m g day), .bool (tbOK xs p m g day)])) (.returned (.tuple #[v, .int .i64 (tbNew xs p m g day).i, .bool true])) w' := by
  have e1 : tbR xs p m g day = xs ++ [tbNew xs p m g day] := by simp [tbR, h]
  have e2 : tbI xs p m g day = (tbNew xs p m g day).i := by simp [tbI, h]
  rw [e1, e2, h, List.flatMap_append, List.length_append]
  exact MadeAt.of_own (fun v => .returned (.tuple #[v, .int .i64 (tbNew xs p m g day).i, .bool true])) (by simpa using hown) hb
set_option maxRecDepth 100000 in
set_option maxHeartbeats 8000000 in
theorem iTellBreak_any (ad : Addr) (c : Nat) (xs : List Brk) (p m g day : Int) (w : World) (h : Rd w w.heap.size (some ad) 6 Brk.enc xs) (hx : xs.length ≤ 1048576) :
    Calls Tryd.prog 10 #[.slice (some ad) xs.length c, .int .i64 p, .int .i64 m, .int .i64 g, .int .i64 day] w fun e w' => MadeAt w 26 ((tbR xs p m g day).flatMap Brk.enc) (tbR xs p m g day).length (fun v => .returned (.tuple #[v, .int .i64 (tbI xs p m g day), .bool (tbOK xs p m g day)])) e w' := by
  cases hG0 : brksOK xs
  · have Hq := Lib.hid (show tbOK xs p m g day = false by simp [tbOK, hG0])
    go_enter Tryd.func10, Tryd.ntmps10
    go_wp2_with fail
    (go_at_call 32; refine (areBreaks_any _ _ _ _ (h.to (by repeat' (first | (with_reducible exact Below.refl _ _) | (with_reducible refine Below.alloc ?_ ?_ _) | (with_reducible refine Below.setCell ?_ ?_ _) | (with_reducible refine Below.drew ?_) | (with_reducible refine Below.trans ?_ (Below.mono (by with_reducible assumption) ?_)) | omega | (simp; done) | (simp; omega)))) hx).mono ?_; rintro e w1 ⟨rfl, hb1⟩)
    (have hs1 := hb1.size; (try simp at hs1); obtain ⟨hc1, hf1, hn1⟩ := bcell hb1; (try have hz1_w_0 : w.heap.size < w1.heap.size := by omega); (try have hz1_w_1 : w.heap.size + 1 < w1.heap.size := by omega); (try have hz1_w_2 : w.heap.size + 2 < w1.heap.size := by omega); (try have hz1_w_2b : w.heap.size + 1 + 1 < w1.heap.size := by omega))
    go_wp2_with fail
    go_ret3
    exact tb_no Hq.out fun _ => MadeAt.nil _ (by repeat' (first | (with_reducible exact Below.refl _ _) | (with_reducible refine Below.alloc ?_ ?_ _) | (with_reducible refine Below.setCell ?_ ?_ _) | (with_reducible refine Below.drew ?_) | (with_reducible refine Below.trans ?_ (Below.mono (by with_reducible assumption) ?_)) | omega | (simp; done) | (simp; omega)))
  · cases hL : lateIn xs day
    · have hbd := brksOK_bd hG0
      have hv := Lib.hid hbd.2
      have hn := hbd.1
      clear hbd
      obtain ⟨i0, hi, hz0, hz1, hz2⟩ := info_parts brk_info
      have hinfo := Lib.hid (And.intro hi (And.intro hz0 (And.intro hz1 hz2)))
      clear hi hz0 hz1 hz2
      by_cases h0 : xs.length = 0
      · have hd0 : decide (0 < xs.length) = false := by simp [h0]
        have Hnew := Lib.hid (show tbNew xs p m g day = ⟨1, p, m, g, day, 0⟩ by simp [tbNew, h0])
        clear h0
        go_enter Tryd.func10, Tryd.ntmps10
        go_wp2_with fail
        (go_at_call 32; refine (areBreaks_any _ _ _ _ (h.to (by repeat' (first | (with_reducible exact Below.refl _ _) | (with_reducible refine Below.alloc ?_ ?_ _) | (with_reducible refine Below.setCell ?_ ?_ _) | (with_reducible refine Below.drew ?_) | (with_reducible refine Below.trans ?_ (Below.mono (by with_reducible assumption) ?_)) | omega | (simp; done) | (simp; omega)))) hx).mono ?_; rintro e w1 ⟨rfl, hb1⟩)
        (have hs1 := hb1.size; (try simp at hs1); obtain ⟨hc1, hf1, hn1⟩ := bcell hb1; (try have hz1_w_0 : w.heap.size < w1.heap.size := by omega); (try have hz1_w_1 : w.heap.size + 1 < w1.heap.size := by omega); (try have hz1_w_2 : w.heap.size + 2 < w1.heap.size := by omega); (try have hz1_w_2b : w.heap.size + 1 + 1 < w1.heap.size := by omega))
        go_wp2_with fail
        (go_at_call 33; refine (tellContains_any _ _ _ day w.heap.size _ (h.to (by repeat' (first | (with_reducible exact Below.refl _ _) | (with_reducible refine Below.alloc ?_ ?_ _) | (with_reducible refine Below.setCell ?_ ?_ _) | (with_reducible refine Below.drew ?_) | (with_reducible refine Below.trans ?_ (Below.mono (by with_reducible assumption) ?_)) | omega | (simp; done) | (simp; omega)))) hx (by omega) ((hb1.cell (p := ⟨w.heap.size, 0, none⟩) (by simp)).trans (by simp))).mono ?_; rintro e w2 ⟨rfl, hb2⟩)
        (have hs2 := hb2.size; (try simp at hs2); obtain ⟨hc2, hf2, hn2⟩ := bcell hb2; (try have hz2_w_0 : w.heap.size < w2.heap.size := by omega); (try have hz2_w_1 : w.heap.size + 1 < w2.heap.size := by omega); (try have hz2_w_2 : w.heap.size + 2 < w2.heap.size := by omega); (try have hz2_w_2b : w.heap.size + 1 + 1 < w2.heap.size := by omega); (try have hz2_w1_0 : w1.heap.size < w2.heap.size := by omega); (try have hz2_w1_1 : w1.heap.size + 1 < w2.heap.size := by omega); (try have hz2_w1_2 : w1.heap.size + 2 < w2.heap.size := by omega); (try have hz2_w1_2b : w1.heap.size + 1 + 1 < w2.heap.size := by omega))
        go_wp2_with fail
        have HS : w2.cell? ⟨w.heap.size, 0, none⟩ = some (.int .i64 day) := (hc2 _ _ (by omega)).trans ((hc1 _ _ (by simp)).trans (by simp))
        go_region_held3 (fun w' => w'.cell? ⟨w.heap.size, 0, none⟩ = some (.int .i64 day))
          (first | go_keep | ((rw [hb3.cell (p := ⟨w.heap.size, 0, none⟩) (by simp; omega)]); first | assumption | (simp [*]; done)) | ((rw [hgrow.cell_far _ (by simp; omega) hne3]); assumption))
          (first
            | (go_at_call 35; refine (cloneBrk_own ad _ xs _ (h.to (by repeat' (first | (with_reducible exact Below.refl _ _) | (with_reducible refine Below.alloc ?_ ?_ _) | (with_reducible refine Below.setCell ?_ ?_ _) | (with_reducible refine Below.drew ?_) | (with_reducible refine Below.trans ?_ (Below.mono (by with_reducible assumption) ?_)) | omega | (simp; done) | (simp; omega)))) hx).mono ?_; rintro e w3 ⟨v3, rfl, own3, hb3⟩; have hs3 := hb3.size; (try simp at hs3); have hne3 : some w.heap.size ≠ v3.ownBlock := fun e => by have := own_low own3 _ e.symm; (try simp at this); omega)
            | (refine step_append_lies _ (by rfl) _ _ _ (by rfl) _ 26 i0 _ 6 48 Tryd.underlying31 hinfo.out.1 hinfo.out.2.1 hinfo.out.2.2.1 hinfo.out.2.2.2 rfl (by omega) v3 _ _ (by rfl) (own_to own3 (by repeat' (first | (with_reducible exact Below.refl _ _) | (with_reducible refine Below.alloc ?_ ?_ _) | (with_reducible refine Below.setCell ?_ ?_ _) | (with_reducible refine Below.drew ?_) | (with_reducible refine Below.trans ?_ (Below.mono (by with_reducible assumption) ?_)) | omega | (simp; done) | (simp; omega)))) _ 1 1 [.int .i64 1, .int .i64 p, .int .i64 m, .int .i64 g, .int .i64 day, .int .i64 0] (by rfl) (by rfl) (World.news_of_block (cs := #[.int .i64 1, .int .i64 p, .int .i64 m, .int .i64 g, .int .i64 day, .int .i64 0]) (t := 26) (fr := (0, 0)) (by first | exact heap_alloc_new _ _ | exact (hb3.block _ (by simp)).trans (heap_alloc_new _ _))) (by simp [Value.oneCell']) (by omega) (by unfold maxLen; omega) (by omega) (by simp; omega) _ rfl ?_; intro gg cap w4 hown4 hgrow hat hlt4))
        all_goals
          have own4 := own_mono (base' := w.heap.size) hown4 (by first | omega | (simp; omega))
          have hb4 : Below w.heap.size w w4 := own_grew (own_mono (base' := w.heap.size) own3 (by first | omega | (simp; omega))) (by repeat' (first | (with_reducible exact Below.refl _ _) | (with_reducible refine Below.alloc ?_ ?_ _) | (with_reducible refine Below.setCell ?_ ?_ _) | (with_reducible refine Below.drew ?_) | (with_reducible refine Below.trans ?_ (Below.mono (by with_reducible assumption) ?_)) | omega | (simp; done) | (simp; omega))) (by first | omega | (simp; omega)) hgrow
          have hs4 := hb4.size
          have r4 : Row w4 gg 26 ((xs ++ [tbNew xs p m g day]).flatMap Brk.enc) := by have h4 := (Row.of_own hown4).1; rw [List.flatMap_append, Hnew.out]; simpa [Brk.enc] using h4
          have hA4 := areBreaks_any (some ⟨gg, 0, none⟩) cap (xs ++ [tbNew xs p m g day]) w4 (r4.rd Brk.enc_len hlt4) (by simp; omega)
          rw [List.length_append, List.length_singleton] at hA4
          have own4 : w4.ownsRow w.heap.size 26 6 (.slice (some ⟨gg, 0, none⟩) (xs.length + 1) cap) (xs.length + 1) (xs.flatMap Brk.enc ++ (tbNew xs p m g day).enc) := by rw [Hnew.out]; exact own4
          clear hown4 hgrow hat
          have Hown := Lib.hid own4
          clear own4
          cases hE : brksOK (xs ++ [tbNew xs p m g day])
          · rw [hE] at hA4
            have Hq := Lib.hid (show tbOK xs p m g day = false by simp [tbOK, hE])
            go_wp2_with (go_at_call 32; refine hA4.mono ?_; rintro e w5 ⟨rfl, hb5⟩)
            have hs5 := hb5.size
            go_wp2
            go_ret3
            exact tb_no Hq.out fun _ => MadeAt.nil _ (by repeat' (first | (with_reducible exact Below.refl _ _) | (with_reducible refine Below.alloc ?_ ?_ _) | (with_reducible refine Below.setCell ?_ ?_ _) | (with_reducible refine Below.drew ?_) | (with_reducible refine Below.trans ?_ (Below.mono (by with_reducible assumption) ?_)) | omega | (simp; done) | (simp; omega)))
          · rw [hE] at hA4
            have Hq := Lib.hid (show tbOK xs p m g day = true by simp [tbOK, hE, hG0, hL])
            go_wp2_with (go_at_call 32; refine hA4.mono ?_; rintro e w5 ⟨rfl, hb5⟩)
            have hs5 := hb5.size
            go_wp2
            go_ret3
            have hz := tb_yes (w := w) (w' := w5) (E := 26) Hq.out (own_to Hown.out hb5) (by repeat' (first | (with_reducible exact Below.refl _ _) | (with_reducible refine Below.alloc ?_ ?_ _) | (with_reducible refine Below.setCell ?_ ?_ _) | (with_reducible refine Below.drew ?_) | (with_reducible refine Below.trans ?_ (Below.mono (by with_reducible assumption) ?_)) | omega | (simp; done) | (simp; omega)))
            rw [show (tbNew xs p m g day).i = 1 by rw [Hnew.out]] at hz
            exact hz
      · have hlt : xs.length - 1 < xs.length := by omega
        obtain ⟨b, o, hA, hB, c0, c1, c2, c3, c4, c5⟩ := brk_cells h hlt
        cases hA
        have hq := brkAt_bd (hv.out _ hlt)
        have hI1 : (0 : Int) ≤ (xs.length : Int) - 1 := by omega
        have hI2 : (xs.length : Int) - 1 < xs.length := by omega
        have hI3 : 0 < xs.length := by omega
        have hd0 : decide (0 < xs.length) = true := by simpa using hI3
        have Hnew := Lib.hid (show tbNew xs p m g day = ⟨(el xs (xs.length - 1)).i + 1, p, m, g, day, 0⟩ by simp [tbNew, h0])
        have hBs : b < w.heap.size + 1 := by omega
        have hBne : b ≠ w.heap.size := by omega
        go_enter Tryd.func10, Tryd.ntmps10
        go_wp2_with fail
        (go_at_call 32; refine (areBreaks_any _ _ _ _ (h.to (by repeat' (first | (with_reducible exact Below.refl _ _) | (with_reducible refine Below.alloc ?_ ?_ _) | (with_reducible refine Below.setCell ?_ ?_ _) | (with_reducible refine Below.drew ?_) | (with_reducible refine Below.trans ?_ (Below.mono (by with_reducible assumption) ?_)) | omega | (simp; done) | (simp; omega)))) hx).mono ?_; rintro e w1 ⟨rfl, hb1⟩)
        (have hs1 := hb1.size; (try simp at hs1); obtain ⟨hc1, hf1, hn1⟩ := bcell hb1; (try have hz1_w_0 : w.heap.size < w1.heap.size := by omega); (try have hz1_w_1 : w.heap.size + 1 < w1.heap.size := by omega); (try have hz1_w_2 : w.heap.size + 2 < w1.heap.size := by omega); (try have hz1_w_2b : w.heap.size + 1 + 1 < w1.heap.size := by omega))
        have hBw1 : b < w1.heap.size := by omega
        go_wp2_with fail
        (go_at_call 33; refine (tellContains_any _ _ _ day w.heap.size _ (h.to (by repeat' (first | (with_reducible exact Below.refl _ _) | (with_reducible refine Below.alloc ?_ ?_ _) | (with_reducible refine Below.setCell ?_ ?_ _) | (with_reducible refine Below.drew ?_) | (with_reducible refine Below.trans ?_ (Below.mono (by with_reducible assumption) ?_)) | omega | (simp; done) | (simp; omega)))) hx (by omega) ((hb1.cell (p := ⟨w.heap.size, 0, none⟩) (by simp)).trans (by simp))).mono ?_; rintro e w2 ⟨rfl, hb2⟩)
        (have hs2 := hb2.size; (try simp at hs2); obtain ⟨hc2, hf2, hn2⟩ := bcell hb2; (try have hz2_w_0 : w.heap.size < w2.heap.size := by omega); (try have hz2_w_1 : w.heap.size + 1 < w2.heap.size := by omega); (try have hz2_w_2 : w.heap.size + 2 < w2.heap.size := by omega); (try have hz2_w_2b : w.heap.size + 1 + 1 < w2.heap.size := by omega); (try have hz2_w1_0 : w1.heap.size < w2.heap.size := by omega); (try have hz2_w1_1 : w1.heap.size + 1 < w2.heap.size := by omega); (try have hz2_w1_2 : w1.heap.size + 2 < w2.heap.size := by omega); (try have hz2_w1_2b : w1.heap.size + 1 + 1 < w2.heap.size := by omega))
        have hBw2 : b < w2.heap.size := by omega
        go_wp2_with fail
        have HS : w2.cell? ⟨w.heap.size, 0, none⟩ = some (.int .i64 day) := (hc2 _ _ (by omega)).trans ((hc1 _ _ (by simp)).trans (by simp))
        go_region_held3 (fun w' => w'.cell? ⟨w.heap.size, 0, none⟩ = some (.int .i64 day))
          (first | go_keep | ((rw [hb3.cell (p := ⟨w.heap.size, 0, none⟩) (by simp; omega)]); first | assumption | (simp [*]; done)) | ((rw [hgrow.cell_far _ (by simp; omega) hne3]); assumption))
          (first
            | (go_at_call 35; refine (cloneBrk_own ⟨b, o, none⟩ _ xs _ (h.to (by repeat' (first | (with_reducible exact Below.refl _ _) | (with_reducible refine Below.alloc ?_ ?_ _) | (with_reducible refine Below.setCell ?_ ?_ _) | (with_reducible refine Below.drew ?_) | (with_reducible refine Below.trans ?_ (Below.mono (by with_reducible assumption) ?_)) | omega | (simp; done) | (simp; omega)))) hx).mono ?_; rintro e w3 ⟨v3, rfl, own3, hb3⟩; have hs3 := hb3.size; (try simp at hs3); have hne3 : some w.heap.size ≠ v3.ownBlock := fun e => by have := own_low own3 _ e.symm; (try simp at this); omega)
            | (refine step_append_lies _ (by rfl) _ _ _ (by rfl) _ 26 i0 _ 6 48 Tryd.underlying31 hinfo.out.1 hinfo.out.2.1 hinfo.out.2.2.1 hinfo.out.2.2.2 rfl (by omega) v3 _ _ (by rfl) (own_to own3 (by repeat' (first | (with_reducible exact Below.refl _ _) | (with_reducible refine Below.alloc ?_ ?_ _) | (with_reducible refine Below.setCell ?_ ?_ _) | (with_reducible refine Below.drew ?_) | (with_reducible refine Below.trans ?_ (Below.mono (by with_reducible assumption) ?_)) | omega | (simp; done) | (simp; omega)))) _ 1 1 [.int .i64 ((el xs (xs.length - 1)).i + 1), .int .i64 p, .int .i64 m, .int .i64 g, .int .i64 day, .int .i64 0] (by rfl) (by rfl) (World.news_of_block (cs := #[.int .i64 ((el xs (xs.length - 1)).i + 1), .int .i64 p, .int .i64 m, .int .i64 g, .int .i64 day, .int .i64 0]) (t := 26) (fr := (0, 0)) (by first | exact heap_alloc_new _ _ | exact (hb3.block _ (by simp)).trans (heap_alloc_new _ _))) (by simp [Value.oneCell']) (by omega) (by unfold maxLen; omega) (by omega) (by simp; omega) _ rfl ?_; intro gg cap w4 hown4 hgrow hat hlt4))
        all_goals
          have own4 := own_mono (base' := w.heap.size) hown4 (by first | omega | (simp; omega))
          have hb4 : Below w.heap.size w w4 := own_grew (own_mono (base' := w.heap.size) own3 (by first | omega | (simp; omega))) (by repeat' (first | (with_reducible exact Below.refl _ _) | (with_reducible refine Below.alloc ?_ ?_ _) | (with_reducible refine Below.setCell ?_ ?_ _) | (with_reducible refine Below.drew ?_) | (with_reducible refine Below.trans ?_ (Below.mono (by with_reducible assumption) ?_)) | omega | (simp; done) | (simp; omega))) (by first | omega | (simp; omega)) hgrow
          have hs4 := hb4.size
          have r4 : Row w4 gg 26 ((xs ++ [tbNew xs p m g day]).flatMap Brk.enc) := by have h4 := (Row.of_own hown4).1; rw [List.flatMap_append, Hnew.out]; simpa [Brk.enc] using h4
          have hA4 := areBreaks_any (some ⟨gg, 0, none⟩) cap (xs ++ [tbNew xs p m g day]) w4 (r4.rd Brk.enc_len hlt4) (by simp; omega)
          rw [List.length_append, List.length_singleton] at hA4
          have own4 : w4.ownsRow w.heap.size 26 6 (.slice (some ⟨gg, 0, none⟩) (xs.length + 1) cap) (xs.length + 1) (xs.flatMap Brk.enc ++ (tbNew xs p m g day).enc) := by rw [Hnew.out]; exact own4
          clear hown4 hgrow hat
          have Hown := Lib.hid own4
          clear own4
          cases hE : brksOK (xs ++ [tbNew xs p m g day])
          · rw [hE] at hA4
            have Hq := Lib.hid (show tbOK xs p m g day = false by simp [tbOK, hE])
            go_wp2_with (go_at_call 32; refine hA4.mono ?_; rintro e w5 ⟨rfl, hb5⟩)
            have hs5 := hb5.size
            go_wp2
            go_ret3
            exact tb_no Hq.out fun _ => MadeAt.nil _ (by repeat' (first | (with_reducible exact Below.refl _ _) | (with_reducible refine Below.alloc ?_ ?_ _) | (with_reducible refine Below.setCell ?_ ?_ _) | (with_reducible refine Below.drew ?_) | (with_reducible refine Below.trans ?_ (Below.mono (by with_reducible assumption) ?_)) | omega | (simp; done) | (simp; omega)))
          · rw [hE] at hA4
            have Hq := Lib.hid (show tbOK xs p m g day = true by simp [tbOK, hE, hG0, hL])
            go_wp2_with (go_at_call 32; refine hA4.mono ?_; rintro e w5 ⟨rfl, hb5⟩)
            have hs5 := hb5.size
            go_wp2
            go_ret3
            have hz := tb_yes (w := w) (w' := w5) (E := 26) Hq.out (own_to Hown.out hb5) (by repeat' (first | (with_reducible exact Below.refl _ _) | (with_reducible refine Below.alloc ?_ ?_ _) | (with_reducible refine Below.setCell ?_ ?_ _) | (with_reducible refine Below.drew ?_) | (with_reducible refine Below.trans ?_ (Below.mono (by with_reducible assumption) ?_)) | omega | (simp; done) | (simp; omega)))
            rw [show (tbNew xs p m g day).i = ((el xs (xs.length - 1)).i + 1) by rw [Hnew.out]] at hz
            exact hz
    · have Hq := Lib.hid (show tbOK xs p m g day = false by simp [tbOK, hL])
      go_enter Tryd.func10, Tryd.ntmps10
      go_wp2_with fail
      (go_at_call 32; refine (areBreaks_any _ _ _ _ (h.to (by repeat' (first | (with_reducible exact Below.refl _ _) | (with_reducible refine Below.alloc ?_ ?_ _) | (with_reducible refine Below.setCell ?_ ?_ _) | (with_reducible refine Below.drew ?_) | (with_reducible refine Below.trans ?_ (Below.mono (by with_reducible assumption) ?_)) | omega | (simp; done) | (simp; omega)))) hx).mono ?_; rintro e w1 ⟨rfl, hb1⟩)
      (have hs1 := hb1.size; (try simp at hs1); obtain ⟨hc1, hf1, hn1⟩ := bcell hb1; (try have hz1_w_0 : w.heap.size < w1.heap.size := by omega); (try have hz1_w_1 : w.heap.size + 1 < w1.heap.size := by omega); (try have hz1_w_2 : w.heap.size + 2 < w1.heap.size := by omega); (try have hz1_w_2b : w.heap.size + 1 + 1 < w1.heap.size := by omega))
      go_wp2_with fail
      (go_at_call 33; refine (tellContains_any _ _ _ day w.heap.size _ (h.to (by repeat' (first | (with_reducible exact Below.refl _ _) | (with_reducible refine Below.alloc ?_ ?_ _) | (with_reducible refine Below.setCell ?_ ?_ _) | (with_reducible refine Below.drew ?_) | (with_reducible refine Below.trans ?_ (Below.mono (by with_reducible assumption) ?_)) | omega | (simp; done) | (simp; omega)))) hx (by omega) ((hb1.cell (p := ⟨w.heap.size, 0, none⟩) (by simp)).trans (by simp))).mono ?_; rintro e w2 ⟨rfl, hb2⟩)
      (have hs2 := hb2.size; (try simp at hs2); obtain ⟨hc2, hf2, hn2⟩ := bcell hb2; (try have hz2_w_0 : w.heap.size < w2.heap.size := by omega); (try have hz2_w_1 : w.heap.size + 1 < w2.heap.size := by omega); (try have hz2_w_2 : w.heap.size + 2 < w2.heap.size := by omega); (try have hz2_w_2b : w.heap.size + 1 + 1 < w2.heap.size := by omega); (try have hz2_w1_0 : w1.heap.size < w2.heap.size := by omega); (try have hz2_w1_1 : w1.heap.size + 1 < w2.heap.size := by omega); (try have hz2_w1_2 : w1.heap.size + 2 < w2.heap.size := by omega); (try have hz2_w1_2b : w1.heap.size + 1 + 1 < w2.heap.size := by omega))
      go_wp2_with fail
      go_ret3
      exact tb_no Hq.out fun _ => MadeAt.nil _ (by repeat' (first | (with_reducible exact Below.refl _ _) | (with_reducible refine Below.alloc ?_ ?_ _) | (with_reducible refine Below.setCell ?_ ?_ _) | (with_reducible refine Below.drew ?_) | (with_reducible refine Below.trans ?_ (Below.mono (by with_reducible assumption) ?_)) | omega | (simp; done) | (simp; omega)))
end Go.Proofs.YtakjfkbfibcbcaaDoor
