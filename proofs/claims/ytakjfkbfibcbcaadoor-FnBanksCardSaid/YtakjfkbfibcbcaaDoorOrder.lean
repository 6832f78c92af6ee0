/- Contracts: the order of need of breaks, of the reference model (chapter 23). -/
import Derived.Test.YtakjfkbfibcbcaaDoorNeedTwo
import Derived.Deep.RegionHeld3
import Derived.IntWalk
set_option linter.unusedSimpArgs false
set_option linter.unusedVariables false
namespace Go.Proofs.YtakjfkbfibcbcaaDoor
open Go.RowKit Go.Sort Go.Salt
attribute [local go_sem] cell_rg
theorem step_append_own {P : Program} {w : World} {ops : Array Oper} {o : Oper} {a : Act} {K : Act → World → Prop} {Q : Exit → Act → World → Prop} {E : Prop} (hgd : o.guard = none) (s x : Operand) (t : TypeId)
    (ho : o.op = .call { callee := .builtin .append, args := #[s, x], argTypes := #[t, t] })
    (base : Nat) (e : TypeId) (i : TypeInfo) (z : Value) (size bytes : Nat) (ht : P.underlying t = some (.slice e)) (hi : P.info? e = some i) (hz : i.zero = some z)
    (hsize : i.size = size) (hby : i.bytes = bytes) (hzs : z.cells.size = size) (hsz : 0 < size)
    (v : Value) (n : Nat) (xs : List Value) (hs : a.eval s = v) (hown : w.ownsRow base e size v n xs)
    (ad : Addr) (X : Option Addr) (m c : Nat) (news : List Value) (hx : a.eval x = .slice X m c) (hX : X = some ad) (hl : news.length = m * size) (hnews : ∀ j u, news[j]? = some u → w.cell? (ad.add j) = some u) (h1 : ∀ u ∈ news, u.oneCell' = true)
    (h63 : n + m ≤ maxLen) (hbytes : (n + m) * bytes ≤ 140737488355328) (hbase : base ≤ w.heap.size)
    (h : ∀ v' w', w'.ownsRow base e size v' (n + m) (xs ++ news) → w.grownBy w' v.ownBlock → (v' = .slice none 0 0 ↔ v = .slice none 0 0 ∧ m = 0) → K (a.put o.dst v') w') :
    if Region.wanted o (yielded ops a.tmps) = true then Oper.wp P o a w K Q else E := by
  subst hX
  rw [if_pos (by simp [Region.wanted, hgd])]
  exact wp_append_own w s x t ho base e i z size bytes ht hi hz hsize hby hzs hsz v n xs hs hown ad m c news hx hl hnews h1 h63 hbytes hbase h
theorem natVals_one (l : List Nat) : ∀ u ∈ natVals l, u.oneCell' = true := fun u hu => by
  obtain ⟨k, _, rfl⟩ := List.mem_map.1 hu; rfl
theorem natVals_app (l m : List Nat) : natVals (l ++ m) = natVals l ++ natVals m := by simp [natVals]
theorem natVals_take (l : List Nat) (p : Nat) : natVals (l.take p) = (natVals l).take p := by simp [natVals, List.map_take]
theorem natVals_drop (l : List Nat) (p : Nat) : natVals (l.drop p) = (natVals l).drop p := by simp [natVals, List.map_drop]
theorem add_off (g j : Nat) : (⟨g, 0, none⟩ : Addr).add j = ⟨g, j, none⟩ := by unfold Addr.add; split <;> simp_all
theorem nat_news {w : World} {g : Nat} {E : TypeId} {l : List Nat} (h : Row w g E (natVals l)) : ∀ j u, (natVals l)[j]? = some u → w.cell? ((⟨g, 0, none⟩ : Addr).add j) = some u := fun j u hu => by
  rw [add_off]
  obtain ⟨hj, e⟩ := List.getElem?_eq_some_iff.1 hu
  rw [h.cell hj, e]
theorem nat_take {w : World} {g : Nat} {E : TypeId} {l : List Nat} (p : Nat) (h : Row w g E (natVals l)) : ∀ j u, (natVals (l.take p))[j]? = some u → w.cell? ((⟨g, 0, none⟩ : Addr).add j) = some u := fun j u hu => by
  rw [natVals_take, List.getElem?_take] at hu
  split at hu
  · exact nat_news h j u hu
  · cases hu
theorem nat_drop {w : World} {g : Nat} {E : TypeId} {l : List Nat} (p : Nat) (h : Row w g E (natVals l)) {ad : Addr} (hA : l.length - p = 0 ∨ ad = ⟨g, p, none⟩) : ∀ j u, (natVals (l.drop p))[j]? = some u → w.cell? (ad.add j) = some u := fun j u hu => by
  rcases hA with hA | rfl
  · rw [List.drop_of_length_le (by omega)] at hu; simp [natVals] at hu
  · rw [natVals_drop, List.getElem?_drop] at hu
    have h1 := nat_news h _ u hu
    rw [add_off] at h1
    rw [show (⟨g, p, none⟩ : Addr).add j = ⟨g, p + j, none⟩ from by unfold Addr.add; split <;> simp_all]
    exact h1
theorem own_row {w : World} {base size n : Nat} {E : TypeId} {v : Value} {cs : List Value} (h : w.ownsRow base E size v n cs) (hv : v ≠ .slice none 0 0) : ∃ g cap, v = .slice (some ⟨g, 0, none⟩) n cap ∧ base ≤ g ∧ n ≤ cap ∧ cap ≤ maxLen ∧ Row w g E cs := by
  rcases h.2 with ⟨h2, _⟩ | ⟨g, cap, cur, rfl, hg, hh, h3, h4, _⟩
  · exact absurd h2 hv
  · exact ⟨g, cap, rfl, hg, h3, h4, (Row.of_own h).1⟩
theorem insPut_eq (less : Nat → Nat → Bool) (l : List Nat) (x p : Nat) (h : posDown less l x l.length = p) : insPut less l x = l.take p ++ x :: l.drop p := by rw [insPut, h]
theorem ahead_yes {xs : List Brk} {x p : Nat} (h : (el xs p).g < (el xs x).g ∨ ((el xs p).g = (el xs x).g ∧ (el xs x).t < (el xs p).t)) : ahead xs x p = true := by simpa [ahead] using h
theorem ahead_no {xs : List Brk} {x p : Nat} (h : ¬ ((el xs p).g < (el xs x).g ∨ ((el xs p).g = (el xs x).g ∧ (el xs x).t < (el xs p).t))) : ¬ (ahead xs x p = true) := fun hc => h (by simpa [ahead] using hc)
theorem row_news {w : World} {g : Nat} {E : TypeId} {cs : List Value} (h : Row w g E cs) : ∀ j u, cs[j]? = some u → w.cell? ((⟨g, 0, none⟩ : Addr).add j) = some u := fun j u hu => by
  rw [add_off]
  obtain ⟨hj, e⟩ := List.getElem?_eq_some_iff.1 hu
  rw [h.cell hj, e]
theorem row_new_at' (W : World) (E : TypeId) (arr : Array Value) (g : Nat) (h : W.heap.size = g) : Row (W.alloc (.cells arr E)) g E arr.toList := by subst h; exact Row.new W E arr
theorem heap_new_at' {W : World} {o : Obj} {g : Nat} (h : W.heap.size = g) : (W.alloc o).heap[g]? = some o := by subst h; exact heap_alloc_new W o
theorem grew2 {B g0 n c : Nat} {w W w2 : World} (hb : Below B w W) (hs : B ≤ W.heap.size) (h : W.grownBy w2 (Value.slice (some ⟨g0, 0, none⟩) n c).ownBlock) (hg : B ≤ g0) : Below B w w2 := by
  refine hb.grown h hs ?_
  intro k hk
  simp [Value.ownBlock] at hk
  omega
set_option maxRecDepth 100000 in
set_option maxHeartbeats 16000000 in
theorem sOrder_any (A : Option Addr) (c : Nat) (xs : List Brk) (w : World) (h : Rd w w.heap.size A 6 Brk.enc xs) (hx : xs.length ≤ 19) (hv : Hid (∀ i, i < xs.length → (el xs i).d ≤ (el xs i).m)) :
    Calls Tryd.prog 40 #[.slice A xs.length c] w fun e w' => MadeAt w 3 (natVals (needO xs xs.length)) (needO xs xs.length).length .returned e w' := by
  obtain ⟨i0, hi, hz0, hz1, hz2⟩ := info_parts int_info
  have hinfo := Lib.hid (And.intro hi (And.intro hz0 (And.intro hz1 hz2)))
  clear hi hz0 hz1 hz2
  go_enter Tryd.func40, Tryd.ntmps40
  go_wp2_with fail
  have hown : (w.alloc (.cells #[] 3)).ownsRow w.heap.size 3 1 (.slice (some ⟨w.heap.size, 0, none⟩) 0 0) 0 (natVals []) := own_empty 1 (Nat.le_refl _) (heap_alloc_new w _)
  have hb0 : Below w.heap.size w (w.alloc (.cells #[] 3)) := (by repeat' (first | (with_reducible exact Below.refl _ _) | (with_reducible refine Below.alloc ?_ ?_ _) | (with_reducible refine Below.setCell ?_ ?_ _) | (with_reducible refine Below.drew ?_) | (with_reducible refine Below.trans ?_ (Below.mono (by with_reducible assumption) ?_)) | omega | (simp; done) | (simp; omega)))
  go_loopw [3, 4] (fun v i wr => ∃ k : Nat, k ≤ xs.length ∧ i = .int .i64 k ∧ v ≠ .slice none 0 0 ∧ Hid (wr.ownsRow w.heap.size 3 1 v (needO xs k).length (natVals (needO xs k))) ∧ Below w.heap.size w wr) (fun _ i _ => xs.length - (intOf i).toNat)
  case atStart => exact ⟨0, Nat.zero_le _, rfl, by simp, hown, hb0⟩
  case round =>
    obtain ⟨k, hk, rfl, hvn, hown, hb⟩ := hrel
    clear hb0
    have hs := hb.size
    by_cases hlt : k < xs.length
    · obtain ⟨b, o, rfl, hB, c0, c1, c2, c3, c4, c5⟩ := brk_cells (h.below hb) hlt
      have hB1 : b < wr.heap.size := by omega
      have hI : (k : Int) < xs.length := by omega
      have hI0 : (0 : Int) ≤ k := by omega
      have hll := needO_len xs k
      have hvk := hv.out k hlt
      have hmem : ∀ i, i < (needO xs k).length → el (needO xs k) i < xs.length := fun i hi => Nat.lt_trans (needO_lt _ (el_mem hi)) hlt
      replace hmem := Lib.hid hmem
      by_cases hd : (el xs k).d < (el xs k).m
      · have Hl := Lib.hid (needO_yes hd)
        have hdm : ((el xs k).d == (el xs k).m) = false := by simp; omega
        obtain ⟨g, cap, rfl, hg, hnc, hcm, hrow⟩ := own_row hown.out hvn
        obtain ⟨l, hl⟩ : ∃ l, needO xs k = l := ⟨_, rfl⟩
        simp only [hl] at hown hll hmem hrow hnc Hl ⊢
        clear hl
        go_wp2_with fail
        have hbox : Row (wr.alloc (.cells #[.int .i64 (el xs k).i, .int .i64 (el xs k).p, .int .i64 (el xs k).m, .int .i64 (el xs k).g, .int .i64 (el xs k).t, .int .i64 (el xs k).d] 26)) wr.heap.size 26 (el xs k).enc := Row.new wr 26 #[.int .i64 (el xs k).i, .int .i64 (el xs k).p, .int .i64 (el xs k).m, .int .i64 (el xs k).g, .int .i64 (el xs k).t, .int .i64 (el xs k).d]
        generalize hBB : wr.heap.size = BB at hbox ⊢
        refine cut_worldN (fun W => Row W BB 26 (el xs k).enc ∧ Below wr.heap.size wr W) ⟨hbox, (by repeat' (first | (with_reducible exact Below.refl _ _) | (with_reducible refine Below.alloc ?_ ?_ _) | (with_reducible refine Below.setCell ?_ ?_ _) | (with_reducible refine Below.drew ?_) | (with_reducible refine Below.trans ?_ (Below.mono (by with_reducible assumption) ?_)) | omega | (simp; done) | (simp; omega)))⟩ ?_
        clear hbox c0 c1 c2 c3 c4 c5
        rintro w0 ⟨hbox, hb0⟩
        have hs0 := hb0.size
        have hr0 := hrow.to hb0
        have hown0 := own_to hown.out hb0
        have hbw0 := hb.trans (hb0.mono hs)
        have hlb := hbox.lt
        have b3 := hbox.cell (j := 3) (by simp [Brk.enc])
        have b4 := hbox.cell (j := 4) (by simp [Brk.enc])
        simp only [Brk.enc, List.getElem_cons_zero, List.getElem_cons_succ] at b3 b4
        have hBx : b < w0.heap.size := by omega
        have hgl := hr0.lt
        have hRd0 := Lib.hid (h.below hbw0)
        replace hbox := Lib.hid hbox
        replace hr0 := Lib.hid hr0
        replace hown0 := Lib.hid hown0
        replace hbw0 := Lib.hid hbw0
        clear hb0 hown hrow hb hBB
        have hlk : l.length ≤ 19 := by omega
        go_loopw [6, 7] (fun v _ wi => ∃ j : Nat, j ≤ l.length ∧ v = .int .i64 j ∧ posDown (ahead xs) l k j = posDown (ahead xs) l k l.length ∧ Below w0.heap.size w0 wi) (fun v _ _ => (intOf v).toNat)
        case atStart => exact ⟨l.length, Nat.le_refl _, rfl, rfl, Below.refl _ _⟩
        case round =>
          obtain ⟨j, hj, rfl, hpos, hbi⟩ := hrel
          have hsi := hbi.size
          rcases Nat.eq_zero_or_pos j with hj0 | hj0
          · obtain ⟨p, rfl⟩ : ∃ p, p = j := ⟨_, rfl⟩
            have hpp := Lib.hid (show posDown (ahead xs) l k l.length = p by rw [← hpos, hj0]; rfl)
            have hjI : ¬ (0 : Int) < p := by omega
            clear hpos hj0
            go_wp2_with fail
            have hple : p ≤ l.length := by omega
            have hbw := Lib.hid (hbw0.out.trans (hbi.mono (by have := hbw0.out.size; omega)))
            have hsw := hbw.out.size
            have hr1 := Lib.hid (hr0.out.to hbi)
            have hown1 := Lib.hid (own_to hown0.out hbi)
            have hpI : (p : Int) ≤ l.length := by omega
            have hpI0 : (0 : Int) ≤ p := by omega
            have hpc : p ≤ cap := by omega
            have hpcI : (p : Int) ≤ cap := by omega
            have hlcI : (l.length : Int) ≤ cap := by omega
            have hgl1 : g < wr.heap.size := by omega
            have hadr : l.length - p = 0 ∨ (if cap = p then (⟨g, 0, none⟩ : Addr) else ⟨g, p, none⟩) = ⟨g, p, none⟩ := by
              by_cases hc : cap = p
              · left; omega
              · right; rw [if_neg hc]
            have hX : (if cap = p then some (⟨g, 0, none⟩ : Addr) else some ⟨g, p, none⟩) = some (if cap = p then ⟨g, 0, none⟩ else ⟨g, p, none⟩) := by
              by_cases hc : cap = p <;> simp [hc]
            have HX := Lib.hid (And.intro hadr hX)
            clear hadr hX
            have hltk : (l.take p).length = p := by simp; omega
            have hldk : (l.drop p).length = l.length - p := by simp
            go_region_held3 (fun _ => True) (trivial)
              (first
                | (refine step_append_own (w := ((wr.alloc (.cells #[] 3)).drew)) (by rfl) (.tmp 57) (.tmp 60) 39 (by rfl) wr.heap.size 3 i0 _ 1 8 Tryd.underlying39 hinfo.out.1 hinfo.out.2.1 hinfo.out.2.2.1 hinfo.out.2.2.2 rfl (by decide) _ _ _ (by rfl) (own_empty 1 (by first | omega | (simp; done) | (simp; omega)) (heap_alloc_new wr _)) ⟨g, 0, none⟩ _ _ _ (natVals (l.take p)) (by rfl) rfl (by rw [natVals_len, hltk]; omega) (nat_take p (hr1.out.to (by repeat' (first | (with_reducible exact Below.refl _ _) | (with_reducible refine Below.alloc ?_ ?_ _) | (with_reducible refine Below.setCell ?_ ?_ _) | (with_reducible refine Below.drew ?_) | (with_reducible refine Below.trans ?_ (Below.mono (by with_reducible assumption) ?_)) | omega | (simp; done) | (simp; omega))))) (natVals_one _) (by unfold maxLen; omega) (by omega) (by first | omega | (simp; done) | (simp; omega)) ?_; intro v2 w2 own2 hgr2 hnil2; have hb2 := grew2 (show Below wr.heap.size wr ((wr.alloc (.cells #[] 3)).drew) from (by repeat' (first | (with_reducible exact Below.refl _ _) | (with_reducible refine Below.alloc ?_ ?_ _) | (with_reducible refine Below.setCell ?_ ?_ _) | (with_reducible refine Below.drew ?_) | (with_reducible refine Below.trans ?_ (Below.mono (by with_reducible assumption) ?_)) | omega | (simp; done) | (simp; omega)))) (by first | omega | (simp; done) | (simp; omega)) hgr2 (by first | omega | (simp; done) | (simp; omega)); have hs2 := hb2.size; (try simp at hs2))
                | (refine step_append_own (w := (((wr.alloc (.cells #[] 3)).alloc (.cells #[.int .i64 (k : Int)] 3)).drew)) (by rfl) (.tmp 57) (.tmp 60) 39 (by rfl) wr.heap.size 3 i0 _ 1 8 Tryd.underlying39 hinfo.out.1 hinfo.out.2.1 hinfo.out.2.2.1 hinfo.out.2.2.2 rfl (by decide) _ _ _ (by rfl) (own_empty 1 (by first | omega | (simp; done) | (simp; omega)) ((Below.heap_alloc _ _ _ (by simp)).trans (heap_alloc_new wr _))) ⟨g, 0, none⟩ _ _ _ (natVals (l.take p)) (by rfl) rfl (by rw [natVals_len, hltk]; omega) (nat_take p (hr1.out.to (by repeat' (first | (with_reducible exact Below.refl _ _) | (with_reducible refine Below.alloc ?_ ?_ _) | (with_reducible refine Below.setCell ?_ ?_ _) | (with_reducible refine Below.drew ?_) | (with_reducible refine Below.trans ?_ (Below.mono (by with_reducible assumption) ?_)) | omega | (simp; done) | (simp; omega))))) (natVals_one _) (by unfold maxLen; omega) (by omega) (by first | omega | (simp; done) | (simp; omega)) ?_; intro v2 w2 own2 hgr2 hnil2; have hb2 := grew2 (show Below wr.heap.size wr (((wr.alloc (.cells #[] 3)).alloc (.cells #[.int .i64 (k : Int)] 3)).drew) from (by repeat' (first | (with_reducible exact Below.refl _ _) | (with_reducible refine Below.alloc ?_ ?_ _) | (with_reducible refine Below.setCell ?_ ?_ _) | (with_reducible refine Below.drew ?_) | (with_reducible refine Below.trans ?_ (Below.mono (by with_reducible assumption) ?_)) | omega | (simp; done) | (simp; omega)))) (by first | omega | (simp; done) | (simp; omega)) hgr2 (by first | omega | (simp; done) | (simp; omega)); have hs2 := hb2.size; (try simp at hs2); have rk : Row w2 (wr.heap.size + 1) 3 [.int .i64 (k : Int)] := ((row_new_at' (wr.alloc (.cells #[] 3)) 3 #[.int .i64 (k : Int)] (wr.heap.size + 1) (by simp)).to (show Below _ _ (((wr.alloc (.cells #[] 3)).alloc (.cells #[.int .i64 (k : Int)] 3)).drew) from (by repeat' (first | (with_reducible exact Below.refl _ _) | (with_reducible refine Below.alloc ?_ ?_ _) | (with_reducible refine Below.setCell ?_ ?_ _) | (with_reducible refine Below.drew ?_) | (with_reducible refine Below.trans ?_ (Below.mono (by with_reducible assumption) ?_)) | omega | (simp; done) | (simp; omega))))).grown hgr2 (by simp [Value.ownBlock]))
                | (refine step_append_own (w := (((wr.alloc (.cells #[.int .i64 (k : Int)] 3)).alloc (.cells #[] 3)).drew)) (by rfl) (.tmp 57) (.tmp 60) 39 (by rfl) wr.heap.size 3 i0 _ 1 8 Tryd.underlying39 hinfo.out.1 hinfo.out.2.1 hinfo.out.2.2.1 hinfo.out.2.2.2 rfl (by decide) _ _ _ (by rfl) (own_empty 1 (by first | omega | (simp; done) | (simp; omega)) (heap_new_at' (by simp))) ⟨g, 0, none⟩ _ _ _ (natVals (l.take p)) (by rfl) rfl (by rw [natVals_len, hltk]; omega) (nat_take p (hr1.out.to (by repeat' (first | (with_reducible exact Below.refl _ _) | (with_reducible refine Below.alloc ?_ ?_ _) | (with_reducible refine Below.setCell ?_ ?_ _) | (with_reducible refine Below.drew ?_) | (with_reducible refine Below.trans ?_ (Below.mono (by with_reducible assumption) ?_)) | omega | (simp; done) | (simp; omega))))) (natVals_one _) (by unfold maxLen; omega) (by omega) (by first | omega | (simp; done) | (simp; omega)) ?_; intro v2 w2 own2 hgr2 hnil2; have hb2 := grew2 (show Below wr.heap.size wr (((wr.alloc (.cells #[.int .i64 (k : Int)] 3)).alloc (.cells #[] 3)).drew) from (by repeat' (first | (with_reducible exact Below.refl _ _) | (with_reducible refine Below.alloc ?_ ?_ _) | (with_reducible refine Below.setCell ?_ ?_ _) | (with_reducible refine Below.drew ?_) | (with_reducible refine Below.trans ?_ (Below.mono (by with_reducible assumption) ?_)) | omega | (simp; done) | (simp; omega)))) (by first | omega | (simp; done) | (simp; omega)) hgr2 (by first | omega | (simp; done) | (simp; omega)); have hs2 := hb2.size; (try simp at hs2); have rk : Row w2 wr.heap.size 3 [.int .i64 (k : Int)] := ((Row.new wr 3 #[.int .i64 (k : Int)]).to (show Below _ _ (((wr.alloc (.cells #[.int .i64 (k : Int)] 3)).alloc (.cells #[] 3)).drew) from (by repeat' (first | (with_reducible exact Below.refl _ _) | (with_reducible refine Below.alloc ?_ ?_ _) | (with_reducible refine Below.setCell ?_ ?_ _) | (with_reducible refine Below.drew ?_) | (with_reducible refine Below.trans ?_ (Below.mono (by with_reducible assumption) ?_)) | omega | (simp; done) | (simp; omega))))).grown hgr2 (by simp [Value.ownBlock]))
                | (refine step_append_own (by rfl) (.tmp 61) (.tmp 63) 39 (by rfl) wr.heap.size 3 i0 _ 1 8 Tryd.underlying39 hinfo.out.1 hinfo.out.2.1 hinfo.out.2.2.1 hinfo.out.2.2.2 rfl (by decide) v2 _ _ (by rfl) (own_to own2 (by repeat' (first | (with_reducible exact Below.refl _ _) | (with_reducible refine Below.alloc ?_ ?_ _) | (with_reducible refine Below.setCell ?_ ?_ _) | (with_reducible refine Below.drew ?_) | (with_reducible refine Below.trans ?_ (Below.mono (by with_reducible assumption) ?_)) | omega | (simp; done) | (simp; omega)))) _ _ 1 _ [.int .i64 (k : Int)] (by rfl) (by rfl) rfl (row_news rk) (natVals_one [k]) (by unfold maxLen; omega) (by omega) (by first | omega | (simp; done) | (simp; omega)) ?_; intro v3 w3 own3 hgr3 hnil3; have hb3 : Below wr.heap.size wr w3 := own_grew own2 (by repeat' (first | (with_reducible exact Below.refl _ _) | (with_reducible refine Below.alloc ?_ ?_ _) | (with_reducible refine Below.setCell ?_ ?_ _) | (with_reducible refine Below.drew ?_) | (with_reducible refine Below.trans ?_ (Below.mono (by with_reducible assumption) ?_)) | omega | (simp; done) | (simp; omega))) (by first | omega | (simp; done) | (simp; omega)) hgr3; have hs3 := hb3.size; (try simp at hs3))
                | (refine step_append_own (by rfl) (.tmp 61) (.tmp 63) 39 (by rfl) wr.heap.size 3 i0 _ 1 8 Tryd.underlying39 hinfo.out.1 hinfo.out.2.1 hinfo.out.2.2.1 hinfo.out.2.2.2 rfl (by decide) v2 _ _ (by rfl) (own_to own2 (by repeat' (first | (with_reducible exact Below.refl _ _) | (with_reducible refine Below.alloc ?_ ?_ _) | (with_reducible refine Below.setCell ?_ ?_ _) | (with_reducible refine Below.drew ?_) | (with_reducible refine Below.trans ?_ (Below.mono (by with_reducible assumption) ?_)) | omega | (simp; done) | (simp; omega)))) _ _ 1 _ [.int .i64 (k : Int)] (by rfl) (by rfl) rfl (news_top (by simp)) (natVals_one [k]) (by unfold maxLen; omega) (by omega) (by first | omega | (simp; done) | (simp; omega)) ?_; intro v3 w3 own3 hgr3 hnil3; have hb3 : Below wr.heap.size wr w3 := own_grew own2 (by repeat' (first | (with_reducible exact Below.refl _ _) | (with_reducible refine Below.alloc ?_ ?_ _) | (with_reducible refine Below.setCell ?_ ?_ _) | (with_reducible refine Below.drew ?_) | (with_reducible refine Below.trans ?_ (Below.mono (by with_reducible assumption) ?_)) | omega | (simp; done) | (simp; omega))) (by first | omega | (simp; done) | (simp; omega)) hgr3; have hs3 := hb3.size; (try simp at hs3))
                | (refine step_append_own (by rfl) (.tmp 64) (.tmp 67) 39 (by rfl) wr.heap.size 3 i0 _ 1 8 Tryd.underlying39 hinfo.out.1 hinfo.out.2.1 hinfo.out.2.2.1 hinfo.out.2.2.2 rfl (by decide) v3 _ _ (by rfl) own3 (if cap = p then ⟨g, 0, none⟩ else ⟨g, p, none⟩) _ _ _ (natVals (l.drop p)) (by rfl) HX.out.2 (by rw [natVals_len, hldk]; omega) (nat_drop p (hr1.out.to (by repeat' (first | (with_reducible exact Below.refl _ _) | (with_reducible refine Below.alloc ?_ ?_ _) | (with_reducible refine Below.setCell ?_ ?_ _) | (with_reducible refine Below.drew ?_) | (with_reducible refine Below.trans ?_ (Below.mono (by with_reducible assumption) ?_)) | omega | (simp; done) | (simp; omega)))) HX.out.1) (natVals_one _) (by unfold maxLen; omega) (by omega) (by first | omega | (simp; done) | (simp; omega)) ?_; intro v4 w4 own4 hgr4 hnil4; have hb4 : Below wr.heap.size wr w4 := own_grew own3 (by repeat' (first | (with_reducible exact Below.refl _ _) | (with_reducible refine Below.alloc ?_ ?_ _) | (with_reducible refine Below.setCell ?_ ?_ _) | (with_reducible refine Below.drew ?_) | (with_reducible refine Below.trans ?_ (Below.mono (by with_reducible assumption) ?_)) | omega | (simp; done) | (simp; omega))) (by first | omega | (simp; done) | (simp; omega)) hgr4; have hs4 := hb4.size; (try simp at hs4)))
            all_goals
              have hcs : [] ++ natVals (l.take p) ++ [.int .i64 (k : Int)] ++ natVals (l.drop p) = natVals (needO xs (k + 1)) := by
                rw [Hl.out, insPut_eq _ _ _ _ hpp.out, natVals_app]; simp [natVals]
              have hcl : 0 + p + 1 + (l.length - p) = (needO xs (k + 1)).length := by rw [Hl.out, insPut_len]; omega
              rw [hcs, hcl] at own4
              have hv4 : v4 ≠ .slice none 0 0 := fun h => by
                have h1 := (hnil3.1 (hnil4.1 h).1).2
                simp at h1
              have Hown4 := Lib.hid (own_mono own4 hsw)
              have hbf := hbw.out.trans (hb4.mono hsw)
              clear own4 hcs hcl hgr4 hgr3 hnil4 hnil3
              go_wp2_with fail
              go_roundw
              case rel => exact ⟨k + 1, by omega, by go_num, hv4, Hown4, hbf⟩
              case measure => first | (simp [intOf]; done) | (simp [intOf]; omega)
          · obtain ⟨j, rfl⟩ : ∃ i, j = i + 1 := ⟨j - 1, by omega⟩
            have hJ : (j : Int) < l.length := by omega
            have hJ0 : (0 : Int) ≤ j := by omega
            have hJ1 : (j : Int) + 1 ≤ l.length := by omega
            have d0 := natVals_cell (hr0.out.to hbi) (j := j) (by omega)
            have hmj := hmem.out j (by omega)
            obtain ⟨m, hm⟩ : ∃ m, el l j = m := ⟨_, rfl⟩
            rw [hm] at d0 hmj
            rw [posDown, hm] at hpos
            obtain ⟨b', o', e', hB', e0, e1, e2, e3, e4, e5⟩ := brk_cells (hRd0.out.below (hbi.mono (by omega))) hmj
            simp only [Option.some.injEq, Addr.mk.injEq, and_true] at e'
            obtain ⟨rfl, rfl⟩ := e'
            have hmI : (m : Int) < xs.length := by omega
            have hmI0 : (0 : Int) ≤ m := by omega
            clear hm
            have b3' := (hbi.cell (p := ⟨BB, 3, none⟩) hlb).trans b3
            have b4' := (hbi.cell (p := ⟨BB, 4, none⟩) hlb).trans b4
            have hlb' : BB < wr.heap.size := by omega
            have hgl' : g < wr.heap.size := by omega
            have hbl' : b < wr.heap.size := by omega
            by_cases h1 : (el xs k).g < (el xs m).g
            · have hpp := Lib.hid (show posDown (ahead xs) l k l.length = j + 1 by rw [← hpos, if_neg (ahead_no (by omega))])
              clear hpos
              go_wp2_with fail
              refine cut_worldN (fun W => Below w0.heap.size w0 W) (by repeat' (first | (with_reducible exact Below.refl _ _) | (with_reducible refine Below.alloc ?_ ?_ _) | (with_reducible refine Below.setCell ?_ ?_ _) | (with_reducible refine Below.drew ?_) | (with_reducible refine Below.trans ?_ (Below.mono (by with_reducible assumption) ?_)) | omega | (simp; done) | (simp; omega))) ?_
              clear hbi hsi b3' b4' d0 e0 e1 e2 e3 e4 e5 hlb' hgl' hbl'
              rintro wz hbi
              have hsi := hbi.size
              obtain ⟨p, hp⟩ : ∃ p : Nat, j + 1 = p := ⟨_, rfl⟩
              first | rw [show (j : Int) + 1 = (p : Int) by omega] | rw [hp]
              have hple : p ≤ l.length := by omega
              replace hpp := Lib.hid (hpp.out.trans hp)
              clear hp
              have hbw := Lib.hid (hbw0.out.trans (hbi.mono (by have := hbw0.out.size; omega)))
              have hsw := hbw.out.size
              have hr1 := Lib.hid (hr0.out.to hbi)
              have hown1 := Lib.hid (own_to hown0.out hbi)
              have hpI : (p : Int) ≤ l.length := by omega
              have hpI0 : (0 : Int) ≤ p := by omega
              have hpc : p ≤ cap := by omega
              have hpcI : (p : Int) ≤ cap := by omega
              have hlcI : (l.length : Int) ≤ cap := by omega
              have hgl1 : g < wz.heap.size := by omega
              have hadr : l.length - p = 0 ∨ (if cap = p then (⟨g, 0, none⟩ : Addr) else ⟨g, p, none⟩) = ⟨g, p, none⟩ := by
                by_cases hc : cap = p
                · left; omega
                · right; rw [if_neg hc]
              have hX : (if cap = p then some (⟨g, 0, none⟩ : Addr) else some ⟨g, p, none⟩) = some (if cap = p then ⟨g, 0, none⟩ else ⟨g, p, none⟩) := by
                by_cases hc : cap = p <;> simp [hc]
              have HX := Lib.hid (And.intro hadr hX)
              clear hadr hX
              have hltk : (l.take p).length = p := by simp; omega
              have hldk : (l.drop p).length = l.length - p := by simp
              go_region_held3 (fun _ => True) (trivial)
                (first
                  | (refine step_append_own (w := ((wz.alloc (.cells #[] 3)).drew)) (by rfl) (.tmp 57) (.tmp 60) 39 (by rfl) wz.heap.size 3 i0 _ 1 8 Tryd.underlying39 hinfo.out.1 hinfo.out.2.1 hinfo.out.2.2.1 hinfo.out.2.2.2 rfl (by decide) _ _ _ (by rfl) (own_empty 1 (by first | omega | (simp; done) | (simp; omega)) (heap_alloc_new wz _)) ⟨g, 0, none⟩ _ _ _ (natVals (l.take p)) (by rfl) rfl (by rw [natVals_len, hltk]; omega) (nat_take p (hr1.out.to (by repeat' (first | (with_reducible exact Below.refl _ _) | (with_reducible refine Below.alloc ?_ ?_ _) | (with_reducible refine Below.setCell ?_ ?_ _) | (with_reducible refine Below.drew ?_) | (with_reducible refine Below.trans ?_ (Below.mono (by with_reducible assumption) ?_)) | omega | (simp; done) | (simp; omega))))) (natVals_one _) (by unfold maxLen; omega) (by omega) (by first | omega | (simp; done) | (simp; omega)) ?_; intro v2 w2 own2 hgr2 hnil2; have hb2 := grew2 (show Below wz.heap.size wz ((wz.alloc (.cells #[] 3)).drew) from (by repeat' (first | (with_reducible exact Below.refl _ _) | (with_reducible refine Below.alloc ?_ ?_ _) | (with_reducible refine Below.setCell ?_ ?_ _) | (with_reducible refine Below.drew ?_) | (with_reducible refine Below.trans ?_ (Below.mono (by with_reducible assumption) ?_)) | omega | (simp; done) | (simp; omega)))) (by first | omega | (simp; done) | (simp; omega)) hgr2 (by first | omega | (simp; done) | (simp; omega)); have hs2 := hb2.size; (try simp at hs2))
                  | (refine step_append_own (w := (((wz.alloc (.cells #[] 3)).alloc (.cells #[.int .i64 (k : Int)] 3)).drew)) (by rfl) (.tmp 57) (.tmp 60) 39 (by rfl) wz.heap.size 3 i0 _ 1 8 Tryd.underlying39 hinfo.out.1 hinfo.out.2.1 hinfo.out.2.2.1 hinfo.out.2.2.2 rfl (by decide) _ _ _ (by rfl) (own_empty 1 (by first | omega | (simp; done) | (simp; omega)) ((Below.heap_alloc _ _ _ (by simp)).trans (heap_alloc_new wz _))) ⟨g, 0, none⟩ _ _ _ (natVals (l.take p)) (by rfl) rfl (by rw [natVals_len, hltk]; omega) (nat_take p (hr1.out.to (by repeat' (first | (with_reducible exact Below.refl _ _) | (with_reducible refine Below.alloc ?_ ?_ _) | (with_reducible refine Below.setCell ?_ ?_ _) | (with_reducible refine Below.drew ?_) | (with_reducible refine Below.trans ?_ (Below.mono (by with_reducible assumption) ?_)) | omega | (simp; done) | (simp; omega))))) (natVals_one _) (by unfold maxLen; omega) (by omega) (by first | omega | (simp; done) | (simp; omega)) ?_; intro v2 w2 own2 hgr2 hnil2; have hb2 := grew2 (show Below wz.heap.size wz (((wz.alloc (.cells #[] 3)).alloc (.cells #[.int .i64 (k : Int)] 3)).drew) from (by repeat' (first | (with_reducible exact Below.refl _ _) | (with_reducible refine Below.alloc ?_ ?_ _) | (with_reducible refine Below.setCell ?_ ?_ _) | (with_reducible refine Below.drew ?_) | (with_reducible refine Below.trans ?_ (Below.mono (by with_reducible assumption) ?_)) | omega | (simp; done) | (simp; omega)))) (by first | omega | (simp; done) | (simp; omega)) hgr2 (by first | omega | (simp; done) | (simp; omega)); have hs2 := hb2.size; (try simp at hs2); have rk : Row w2 (wz.heap.size + 1) 3 [.int .i64 (k : Int)] := ((row_new_at' (wz.alloc (.cells #[] 3)) 3 #[.int .i64 (k : Int)] (wz.heap.size + 1) (by simp)).to (show Below _ _ (((wz.alloc (.cells #[] 3)).alloc (.cells #[.int .i64 (k : Int)] 3)).drew) from (by repeat' (first | (with_reducible exact Below.refl _ _) | (with_reducible refine Below.alloc ?_ ?_ _) | (with_reducible refine Below.setCell ?_ ?_ _) | (with_reducible refine Below.drew ?_) | (with_reducible refine Below.trans ?_ (Below.mono (by with_reducible assumption) ?_)) | omega | (simp; done) | (simp; omega))))).grown hgr2 (by simp [Value.ownBlock]))
                  | (refine step_append_own (w := (((wz.alloc (.cells #[.int .i64 (k : Int)] 3)).alloc (.cells #[] 3)).drew)) (by rfl) (.tmp 57) (.tmp 60) 39 (by rfl) wz.heap.size 3 i0 _ 1 8 Tryd.underlying39 hinfo.out.1 hinfo.out.2.1 hinfo.out.2.2.1 hinfo.out.2.2.2 rfl (by decide) _ _ _ (by rfl) (own_empty 1 (by first | omega | (simp; done) | (simp; omega)) (heap_new_at' (by simp))) ⟨g, 0, none⟩ _ _ _ (natVals (l.take p)) (by rfl) rfl (by rw [natVals_len, hltk]; omega) (nat_take p (hr1.out.to (by repeat' (first | (with_reducible exact Below.refl _ _) | (with_reducible refine Below.alloc ?_ ?_ _) | (with_reducible refine Below.setCell ?_ ?_ _) | (with_reducible refine Below.drew ?_) | (with_reducible refine Below.trans ?_ (Below.mono (by with_reducible assumption) ?_)) | omega | (simp; done) | (simp; omega))))) (natVals_one _) (by unfold maxLen; omega) (by omega) (by first | omega | (simp; done) | (simp; omega)) ?_; intro v2 w2 own2 hgr2 hnil2; have hb2 := grew2 (show Below wz.heap.size wz (((wz.alloc (.cells #[.int .i64 (k : Int)] 3)).alloc (.cells #[] 3)).drew) from (by repeat' (first | (with_reducible exact Below.refl _ _) | (with_reducible refine Below.alloc ?_ ?_ _) | (with_reducible refine Below.setCell ?_ ?_ _) | (with_reducible refine Below.drew ?_) | (with_reducible refine Below.trans ?_ (Below.mono (by with_reducible assumption) ?_)) | omega | (simp; done) | (simp; omega)))) (by first | omega | (simp; done) | (simp; omega)) hgr2 (by first | omega | (simp; done) | (simp; omega)); have hs2 := hb2.size; (try simp at hs2); have rk : Row w2 wz.heap.size 3 [.int .i64 (k : Int)] := ((Row.new wz 3 #[.int .i64 (k : Int)]).to (show Below _ _ (((wz.alloc (.cells #[.int .i64 (k : Int)] 3)).alloc (.cells #[] 3)).drew) from (by repeat' (first | (with_reducible exact Below.refl _ _) | (with_reducible refine Below.alloc ?_ ?_ _) | (with_reducible refine Below.setCell ?_ ?_ _) | (with_reducible refine Below.drew ?_) | (with_reducible refine Below.trans ?_ (Below.mono (by with_reducible assumption) ?_)) | omega | (simp; done) | (simp; omega))))).grown hgr2 (by simp [Value.ownBlock]))
                  | (refine step_append_own (by rfl) (.tmp 61) (.tmp 63) 39 (by rfl) wz.heap.size 3 i0 _ 1 8 Tryd.underlying39 hinfo.out.1 hinfo.out.2.1 hinfo.out.2.2.1 hinfo.out.2.2.2 rfl (by decide) v2 _ _ (by rfl) (own_to own2 (by repeat' (first | (with_reducible exact Below.refl _ _) | (with_reducible refine Below.alloc ?_ ?_ _) | (with_reducible refine Below.setCell ?_ ?_ _) | (with_reducible refine Below.drew ?_) | (with_reducible refine Below.trans ?_ (Below.mono (by with_reducible assumption) ?_)) | omega | (simp; done) | (simp; omega)))) _ _ 1 _ [.int .i64 (k : Int)] (by rfl) (by rfl) rfl (row_news rk) (natVals_one [k]) (by unfold maxLen; omega) (by omega) (by first | omega | (simp; done) | (simp; omega)) ?_; intro v3 w3 own3 hgr3 hnil3; have hb3 : Below wz.heap.size wz w3 := own_grew own2 (by repeat' (first | (with_reducible exact Below.refl _ _) | (with_reducible refine Below.alloc ?_ ?_ _) | (with_reducible refine Below.setCell ?_ ?_ _) | (with_reducible refine Below.drew ?_) | (with_reducible refine Below.trans ?_ (Below.mono (by with_reducible assumption) ?_)) | omega | (simp; done) | (simp; omega))) (by first | omega | (simp; done) | (simp; omega)) hgr3; have hs3 := hb3.size; (try simp at hs3))
                  | (refine step_append_own (by rfl) (.tmp 61) (.tmp 63) 39 (by rfl) wz.heap.size 3 i0 _ 1 8 Tryd.underlying39 hinfo.out.1 hinfo.out.2.1 hinfo.out.2.2.1 hinfo.out.2.2.2 rfl (by decide) v2 _ _ (by rfl) (own_to own2 (by repeat' (first | (with_reducible exact Below.refl _ _) | (with_reducible refine Below.alloc ?_ ?_ _) | (with_reducible refine Below.setCell ?_ ?_ _) | (with_reducible refine Below.drew ?_) | (with_reducible refine Below.trans ?_ (Below.mono (by with_reducible assumption) ?_)) | omega | (simp; done) | (simp; omega)))) _ _ 1 _ [.int .i64 (k : Int)] (by rfl) (by rfl) rfl (news_top (by simp)) (natVals_one [k]) (by unfold maxLen; omega) (by omega) (by first | omega | (simp; done) | (simp; omega)) ?_; intro v3 w3 own3 hgr3 hnil3; have hb3 : Below wz.heap.size wz w3 := own_grew own2 (by repeat' (first | (with_reducible exact Below.refl _ _) | (with_reducible refine Below.alloc ?_ ?_ _) | (with_reducible refine Below.setCell ?_ ?_ _) | (with_reducible refine Below.drew ?_) | (with_reducible refine Below.trans ?_ (Below.mono (by with_reducible assumption) ?_)) | omega | (simp; done) | (simp; omega))) (by first | omega | (simp; done) | (simp; omega)) hgr3; have hs3 := hb3.size; (try simp at hs3))
                  | (refine step_append_own (by rfl) (.tmp 64) (.tmp 67) 39 (by rfl) wz.heap.size 3 i0 _ 1 8 Tryd.underlying39 hinfo.out.1 hinfo.out.2.1 hinfo.out.2.2.1 hinfo.out.2.2.2 rfl (by decide) v3 _ _ (by rfl) own3 (if cap = p then ⟨g, 0, none⟩ else ⟨g, p, none⟩) _ _ _ (natVals (l.drop p)) (by rfl) HX.out.2 (by rw [natVals_len, hldk]; omega) (nat_drop p (hr1.out.to (by repeat' (first | (with_reducible exact Below.refl _ _) | (with_reducible refine Below.alloc ?_ ?_ _) | (with_reducible refine Below.setCell ?_ ?_ _) | (with_reducible refine Below.drew ?_) | (with_reducible refine Below.trans ?_ (Below.mono (by with_reducible assumption) ?_)) | omega | (simp; done) | (simp; omega)))) HX.out.1) (natVals_one _) (by unfold maxLen; omega) (by omega) (by first | omega | (simp; done) | (simp; omega)) ?_; intro v4 w4 own4 hgr4 hnil4; have hb4 : Below wz.heap.size wz w4 := own_grew own3 (by repeat' (first | (with_reducible exact Below.refl _ _) | (with_reducible refine Below.alloc ?_ ?_ _) | (with_reducible refine Below.setCell ?_ ?_ _) | (with_reducible refine Below.drew ?_) | (with_reducible refine Below.trans ?_ (Below.mono (by with_reducible assumption) ?_)) | omega | (simp; done) | (simp; omega))) (by first | omega | (simp; done) | (simp; omega)) hgr4; have hs4 := hb4.size; (try simp at hs4)))
              all_goals
                have hcs : [] ++ natVals (l.take p) ++ [.int .i64 (k : Int)] ++ natVals (l.drop p) = natVals (needO xs (k + 1)) := by
                  rw [Hl.out, insPut_eq _ _ _ _ hpp.out, natVals_app]; simp [natVals]
                have hcl : 0 + p + 1 + (l.length - p) = (needO xs (k + 1)).length := by rw [Hl.out, insPut_len]; omega
                rw [hcs, hcl] at own4
                have hv4 : v4 ≠ .slice none 0 0 := fun h => by
                  have h1 := (hnil3.1 (hnil4.1 h).1).2
                  simp at h1
                have Hown4 := Lib.hid (own_mono own4 hsw)
                have hbf := hbw.out.trans (hb4.mono hsw)
                clear own4 hcs hcl hgr4 hgr3 hnil4 hnil3
                go_wp2_with fail
                go_roundw
                case rel => exact ⟨k + 1, by omega, by go_num, hv4, Hown4, hbf⟩
                case measure => first | (simp [intOf]; done) | (simp [intOf]; omega)
            · have h1' : ¬ (el xs m).g > (el xs k).g := by omega
              by_cases h2 : (el xs m).g < (el xs k).g
              · have h3 : ((el xs m).g == (el xs k).g) = false := by simp; omega
                have hpp := Lib.hid (show posDown (ahead xs) l k j = posDown (ahead xs) l k l.length by rw [← hpos, if_pos (ahead_yes (by omega))])
                clear hpos
                go_wp2_with fail
                go_roundw
                case rel => exact ⟨j, by omega, by go_num, hpp.out, (by repeat' (first | (with_reducible exact Below.refl _ _) | (with_reducible refine Below.alloc ?_ ?_ _) | (with_reducible refine Below.setCell ?_ ?_ _) | (with_reducible refine Below.drew ?_) | (with_reducible refine Below.trans ?_ (Below.mono (by with_reducible assumption) ?_)) | omega | (simp; done) | (simp; omega)))⟩
                case measure => first | (simp [intOf]; done) | (simp [intOf]; omega)
              · have h3 : ((el xs m).g == (el xs k).g) = true := by simp; omega
                by_cases h4 : (el xs m).t ≤ (el xs k).t
                · have hpp := Lib.hid (show posDown (ahead xs) l k l.length = j + 1 by rw [← hpos, if_neg (ahead_no (by omega))])
                  clear hpos
                  go_wp2_with fail
                  refine cut_worldN (fun W => Below w0.heap.size w0 W) (by repeat' (first | (with_reducible exact Below.refl _ _) | (with_reducible refine Below.alloc ?_ ?_ _) | (with_reducible refine Below.setCell ?_ ?_ _) | (with_reducible refine Below.drew ?_) | (with_reducible refine Below.trans ?_ (Below.mono (by with_reducible assumption) ?_)) | omega | (simp; done) | (simp; omega))) ?_
                  clear hbi hsi b3' b4' d0 e0 e1 e2 e3 e4 e5 hlb' hgl' hbl'
                  rintro wz hbi
                  have hsi := hbi.size
                  obtain ⟨p, hp⟩ : ∃ p : Nat, j + 1 = p := ⟨_, rfl⟩
                  first | rw [show (j : Int) + 1 = (p : Int) by omega] | rw [hp]
                  have hple : p ≤ l.length := by omega
                  replace hpp := Lib.hid (hpp.out.trans hp)
                  clear hp
                  have hbw := Lib.hid (hbw0.out.trans (hbi.mono (by have := hbw0.out.size; omega)))
                  have hsw := hbw.out.size
                  have hr1 := Lib.hid (hr0.out.to hbi)
                  have hown1 := Lib.hid (own_to hown0.out hbi)
                  have hpI : (p : Int) ≤ l.length := by omega
                  have hpI0 : (0 : Int) ≤ p := by omega
                  have hpc : p ≤ cap := by omega
                  have hpcI : (p : Int) ≤ cap := by omega
                  have hlcI : (l.length : Int) ≤ cap := by omega
                  have hgl1 : g < wz.heap.size := by omega
                  have hadr : l.length - p = 0 ∨ (if cap = p then (⟨g, 0, none⟩ : Addr) else ⟨g, p, none⟩) = ⟨g, p, none⟩ := by
                    by_cases hc : cap = p
                    · left; omega
                    · right; rw [if_neg hc]
                  have hX : (if cap = p then some (⟨g, 0, none⟩ : Addr) else some ⟨g, p, none⟩) = some (if cap = p then ⟨g, 0, none⟩ else ⟨g, p, none⟩) := by
                    by_cases hc : cap = p <;> simp [hc]
                  have HX := Lib.hid (And.intro hadr hX)
                  clear hadr hX
                  have hltk : (l.take p).length = p := by simp; omega
                  have hldk : (l.drop p).length = l.length - p := by simp
                  go_region_held3 (fun _ => True) (trivial)
                    (first
                      | (refine step_append_own (w := ((wz.alloc (.cells #[] 3)).drew)) (by rfl) (.tmp 57) (.tmp 60) 39 (by rfl) wz.heap.size 3 i0 _ 1 8 Tryd.underlying39 hinfo.out.1 hinfo.out.2.1 hinfo.out.2.2.1 hinfo.out.2.2.2 rfl (by decide) _ _ _ (by rfl) (own_empty 1 (by first | omega | (simp; done) | (simp; omega)) (heap_alloc_new wz _)) ⟨g, 0, none⟩ _ _ _ (natVals (l.take p)) (by rfl) rfl (by rw [natVals_len, hltk]; omega) (nat_take p (hr1.out.to (by repeat' (first | (with_reducible exact Below.refl _ _) | (with_reducible refine Below.alloc ?_ ?_ _) | (with_reducible refine Below.setCell ?_ ?_ _) | (with_reducible refine Below.drew ?_) | (with_reducible refine Below.trans ?_ (Below.mono (by with_reducible assumption) ?_)) | omega | (simp; done) | (simp; omega))))) (natVals_one _) (by unfold maxLen; omega) (by omega) (by first | omega | (simp; done) | (simp; omega)) ?_; intro v2 w2 own2 hgr2 hnil2; have hb2 := grew2 (show Below wz.heap.size wz ((wz.alloc (.cells #[] 3)).drew) from (by repeat' (first | (with_reducible exact Below.refl _ _) | (with_reducible refine Below.alloc ?_ ?_ _) | (with_reducible refine Below.setCell ?_ ?_ _) | (with_reducible refine Below.drew ?_) | (with_reducible refine Below.trans ?_ (Below.mono (by with_reducible assumption) ?_)) | omega | (simp; done) | (simp; omega)))) (by first | omega | (simp; done) | (simp; omega)) hgr2 (by first | omega | (simp; done) | (simp; omega)); have hs2 := hb2.size; (try simp at hs2))
                      | (refine step_append_own (w := (((wz.alloc (.cells #[] 3)).alloc (.cells #[.int .i64 (k : Int)] 3)).drew)) (by rfl) (.tmp 57) (.tmp 60) 39 (by rfl) wz.heap.size 3 i0 _ 1 8 Tryd.underlying39 hinfo.out.1 hinfo.out.2.1 hinfo.out.2.2.1 hinfo.out.2.2.2 rfl (by decide) _ _ _ (by rfl) (own_empty 1 (by first | omega | (simp; done) | (simp; omega)) ((Below.heap_alloc _ _ _ (by simp)).trans (heap_alloc_new wz _))) ⟨g, 0, none⟩ _ _ _ (natVals (l.take p)) (by rfl) rfl (by rw [natVals_len, hltk]; omega) (nat_take p (hr1.out.to (by repeat' (first | (with_reducible exact Below.refl _ _) | (with_reducible refine Below.alloc ?_ ?_ _) | (with_reducible refine Below.setCell ?_ ?_ _) | (with_reducible refine Below.drew ?_) | (with_reducible refine Below.trans ?_ (Below.mono (by with_reducible assumption) ?_)) | omega | (simp; done) | (simp; omega))))) (natVals_one _) (by unfold maxLen; omega) (by omega) (by first | omega | (simp; done) | (simp; omega)) ?_; intro v2 w2 own2 hgr2 hnil2; have hb2 := grew2 (show Below wz.heap.size wz (((wz.alloc (.cells #[] 3)).alloc (.cells #[.int .i64 (k : Int)] 3)).drew) from (by repeat' (first | (with_reducible exact Below.refl _ _) | (with_reducible refine Below.alloc ?_ ?_ _) | (with_reducible refine Below.setCell ?_ ?_ _) | (with_reducible refine Below.drew ?_) | (with_reducible refine Below.trans ?_ (Below.mono (by with_reducible assumption) ?_)) | omega | (simp; done) | (simp; omega)))) (by first | omega | (simp; done) | (simp; omega)) hgr2 (by first | omega | (simp; done) | (simp; omega)); have hs2 := hb2.size; (try simp at hs2); have rk : Row w2 (wz.heap.size + 1) 3 [.int .i64 (k : Int)] := ((row_new_at' (wz.alloc (.cells #[] 3)) 3 #[.int .i64 (k : Int)] (wz.heap.size + 1) (by simp)).to (show Below _ _ (((wz.alloc (.cells #[] 3)).alloc (.cells #[.int .i64 (k : Int)] 3)).drew) from (by repeat' (first | (with_reducible exact Below.refl _ _) | (with_reducible refine Below.alloc ?_ ?_ _) | (with_reducible refine Below.setCell ?_ ?_ _) | (with_reducible refine Below.drew ?_) | (with_reducible refine Below.trans ?_ (Below.mono (by with_reducible assumption) ?_)) | omega | (simp; done) | (simp; omega))))).grown hgr2 (by simp [Value.ownBlock]))
                      | (refine step_append_own (w := (((wz.alloc (.cells #[.int .i64 (k : Int)] 3)).alloc (.cells #[] 3)).drew)) (by rfl) (.tmp 57) (.tmp 60) 39 (by rfl) wz.heap.size 3 i0 _ 1 8 Tryd.underlying39 hinfo.out.1 hinfo.out.2.1 hinfo.out.2.2.1 hinfo.out.2.2.2 rfl (by decide) _ _ _ (by rfl) (own_empty 1 (by first | omega | (simp; done) | (simp; omega)) (heap_new_at' (by simp))) ⟨g, 0, none⟩ _ _ _ (natVals (l.take p)) (by rfl) rfl (by rw [natVals_len, hltk]; omega) (nat_take p (hr1.out.to (by repeat' (first | (with_reducible exact Below.refl _ _) | (with_reducible refine Below.alloc ?_ ?_ _) | (with_reducible refine Below.setCell ?_ ?_ _) | (with_reducible refine Below.drew ?_) | (with_reducible refine Below.trans ?_ (Below.mono (by with_reducible assumption) ?_)) | omega | (simp; done) | (simp; omega))))) (natVals_one _) (by unfold maxLen; omega) (by omega) (by first | omega | (simp; done) | (simp; omega)) ?_; intro v2 w2 own2 hgr2 hnil2; have hb2 := grew2 (show Below wz.heap.size wz (((wz.alloc (.cells #[.int .i64 (k : Int)] 3)).alloc (.cells #[] 3)).drew) from (by repeat' (first | (with_reducible exact Below.refl _ _) | (with_reducible refine Below.alloc ?_ ?_ _) | (with_reducible refine Below.setCell ?_ ?_ _) | (with_reducible refine Below.drew ?_) | (with_reducible refine Below.trans ?_ (Below.mono (by with_reducible assumption) ?_)) | omega | (simp; done) | (simp; omega)))) (by first | omega | (simp; done) | (simp; omega)) hgr2 (by first | omega | (simp; done) | (simp; omega)); have hs2 := hb2.size; (try simp at hs2); have rk : Row w2 wz.heap.size 3 [.int .i64 (k : Int)] := ((Row.new wz 3 #[.int .i64 (k : Int)]).to (show Below _ _ (((wz.alloc (.cells #[.int .i64 (k : Int)] 3)).alloc (.cells #[] 3)).drew) from (by repeat' (first | (with_reducible exact Below.refl _ _) | (with_reducible refine Below.alloc ?_ ?_ _) | (with_reducible refine Below.setCell ?_ ?_ _) | (with_reducible refine Below.drew ?_) | (with_reducible refine Below.trans ?_ (Below.mono (by with_reducible assumption) ?_)) | omega | (simp; done) | (simp; omega))))).grown hgr2 (by simp [Value.ownBlock]))
                      | (refine step_append_own (by rfl) (.tmp 61) (.tmp 63) 39 (by rfl) wz.heap.size 3 i0 _ 1 8 Tryd.underlying39 hinfo.out.1 hinfo.out.2.1 hinfo.out.2.2.1 hinfo.out.2.2.2 rfl (by decide) v2 _ _ (by rfl) (own_to own2 (by repeat' (first | (with_reducible exact Below.refl _ _) | (with_reducible refine Below.alloc ?_ ?_ _) | (with_reducible refine Below.setCell ?_ ?_ _) | (with_reducible refine Below.drew ?_) | (with_reducible refine Below.trans ?_ (Below.mono (by with_reducible assumption) ?_)) | omega | (simp; done) | (simp; omega)))) _ _ 1 _ [.int .i64 (k : Int)] (by rfl) (by rfl) rfl (row_news rk) (natVals_one [k]) (by unfold maxLen; omega) (by omega) (by first | omega | (simp; done) | (simp; omega)) ?_; intro v3 w3 own3 hgr3 hnil3; have hb3 : Below wz.heap.size wz w3 := own_grew own2 (by repeat' (first | (with_reducible exact Below.refl _ _) | (with_reducible refine Below.alloc ?_ ?_ _) | (with_reducible refine Below.setCell ?_ ?_ _) | (with_reducible refine Below.drew ?_) | (with_reducible refine Below.trans ?_ (Below.mono (by with_reducible assumption) ?_)) | omega | (simp; done) | (simp; omega))) (by first | omega | (simp; done) | (simp; omega)) hgr3; have hs3 := hb3.size; (try simp at hs3))
                      | (refine step_append_own (by rfl) (.tmp 61) (.tmp 63) 39 (by rfl) wz.heap.size 3 i0 _ 1 8 Tryd.underlying39 hinfo.out.1 hinfo.out.2.1 hinfo.out.2.2.1 hinfo.out.2.2.2 rfl (by decide) v2 _ _ (by rfl) (own_to own2 (by repeat' (first | (with_reducible exact Below.refl _ _) | (with_reducible refine Below.alloc ?_ ?_ _) | (with_reducible refine Below.setCell ?_ ?_ _) | (with_reducible refine Below.drew ?_) | (with_reducible refine Below.trans ?_ (Below.mono (by with_reducible assumption) ?_)) | omega | (simp; done) | (simp; omega)))) _ _ 1 _ [.int .i64 (k : Int)] (by rfl) (by rfl) rfl (news_top (by simp)) (natVals_one [k]) (by unfold maxLen; omega) (by omega) (by first | omega | (simp; done) | (simp; omega)) ?_; intro v3 w3 own3 hgr3 hnil3; have hb3 : Below wz.heap.size wz w3 := own_grew own2 (by repeat' (first | (with_reducible exact Below.refl _ _) | (with_reducible refine Below.alloc ?_ ?_ _) | (with_reducible refine Below.setCell ?_ ?_ _) | (with_reducible refine Below.drew ?_) | (with_reducible refine Below.trans ?_ (Below.mono (by with_reducible assumption) ?_)) | omega | (simp; done) | (simp; omega))) (by first | omega | (simp; done) | (simp; omega)) hgr3; have hs3 := hb3.size; (try simp at hs3))
                      | (refine step_append_own (by rfl) (.tmp 64) (.tmp 67) 39 (by rfl) wz.heap.size 3 i0 _ 1 8 Tryd.underlying39 hinfo.out.1 hinfo.out.2.1 hinfo.out.2.2.1 hinfo.out.2.2.2 rfl (by decide) v3 _ _ (by rfl) own3 (if cap = p then ⟨g, 0, none⟩ else ⟨g, p, none⟩) _ _ _ (natVals (l.drop p)) (by rfl) HX.out.2 (by rw [natVals_len, hldk]; omega) (nat_drop p (hr1.out.to (by repeat' (first | (with_reducible exact Below.refl _ _) | (with_reducible refine Below.alloc ?_ ?_ _) | (with_reducible refine Below.setCell ?_ ?_ _) | (with_reducible refine Below.drew ?_) | (with_reducible refine Below.trans ?_ (Below.mono (by with_reducible assumption) ?_)) | omega | (simp; done) | (simp; omega)))) HX.out.1) (natVals_one _) (by unfold maxLen; omega) (by omega) (by first | omega | (simp; done) | (simp; omega)) ?_; intro v4 w4 own4 hgr4 hnil4; have hb4 : Below wz.heap.size wz w4 := own_grew own3 (by repeat' (first | (with_reducible exact Below.refl _ _) | (with_reducible refine Below.alloc ?_ ?_ _) | (with_reducible refine Below.setCell ?_ ?_ _) | (with_reducible refine Below.drew ?_) | (with_reducible refine Below.trans ?_ (Below.mono (by with_reducible assumption) ?_)) | omega | (simp; done) | (simp; omega))) (by first | omega | (simp; done) | (simp; omega)) hgr4; have hs4 := hb4.size; (try simp at hs4)))
                  all_goals
                    have hcs : [] ++ natVals (l.take p) ++ [.int .i64 (k : Int)] ++ natVals (l.drop p) = natVals (needO xs (k + 1)) := by
                      rw [Hl.out, insPut_eq _ _ _ _ hpp.out, natVals_app]; simp [natVals]
                    have hcl : 0 + p + 1 + (l.length - p) = (needO xs (k + 1)).length := by rw [Hl.out, insPut_len]; omega
                    rw [hcs, hcl] at own4
                    have hv4 : v4 ≠ .slice none 0 0 := fun h => by
                      have h1 := (hnil3.1 (hnil4.1 h).1).2
                      simp at h1
                    have Hown4 := Lib.hid (own_mono own4 hsw)
                    have hbf := hbw.out.trans (hb4.mono hsw)
                    clear own4 hcs hcl hgr4 hgr3 hnil4 hnil3
                    go_wp2_with fail
                    go_roundw
                    case rel => exact ⟨k + 1, by omega, by go_num, hv4, Hown4, hbf⟩
                    case measure => first | (simp [intOf]; done) | (simp [intOf]; omega)
                · have hpp := Lib.hid (show posDown (ahead xs) l k j = posDown (ahead xs) l k l.length by rw [← hpos, if_pos (ahead_yes (by omega))])
                  clear hpos
                  go_wp2_with fail
                  go_roundw
                  case rel => exact ⟨j, by omega, by go_num, hpp.out, (by repeat' (first | (with_reducible exact Below.refl _ _) | (with_reducible refine Below.alloc ?_ ?_ _) | (with_reducible refine Below.setCell ?_ ?_ _) | (with_reducible refine Below.drew ?_) | (with_reducible refine Below.trans ?_ (Below.mono (by with_reducible assumption) ?_)) | omega | (simp; done) | (simp; omega)))⟩
                  case measure => first | (simp [intOf]; done) | (simp [intOf]; omega)
      · have Hl := Lib.hid (needO_no hd)
        have hdm : ((el xs k).d == (el xs k).m) = true := by simp; omega
        go_wp2_with fail
        go_roundw
        case rel => exact ⟨k + 1, by omega, by go_num, hvn, by rw [Hl.out]; exact own_to hown.out (by repeat' (first | (with_reducible exact Below.refl _ _) | (with_reducible refine Below.alloc ?_ ?_ _) | (with_reducible refine Below.setCell ?_ ?_ _) | (with_reducible refine Below.drew ?_) | (with_reducible refine Below.trans ?_ (Below.mono (by with_reducible assumption) ?_)) | omega | (simp; done) | (simp; omega))), (by repeat' (first | (with_reducible exact Below.refl _ _) | (with_reducible refine Below.alloc ?_ ?_ _) | (with_reducible refine Below.setCell ?_ ?_ _) | (with_reducible refine Below.drew ?_) | (with_reducible refine Below.trans ?_ (Below.mono (by with_reducible assumption) ?_)) | omega | (simp; done) | (simp; omega)))⟩
        case measure => simp [intOf]; omega
    · obtain rfl : k = xs.length := by omega
      go_wp2
      go_ret
      exact MadeAt.of_own .returned hown.out hb
end Go.Proofs.YtakjfkbfibcbcaaDoor
