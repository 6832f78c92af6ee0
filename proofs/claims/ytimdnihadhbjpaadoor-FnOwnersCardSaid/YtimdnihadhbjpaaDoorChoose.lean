/- The program's search for the fewest owners with a majority (chapter 22). -/
import Derived.Test.YtimdnihadhbjpaaDoorCmpM
import Derived.Test.YtimdnihadhbjpaaDoorOwDel
import Derived.Test.YtimdnihadhbjpaaDoorAreI
set_option linter.unusedSimpArgs false
set_option linter.unusedVariables false
namespace Go.Proofs.YtimdnihadhbjpaaDoor
open Go.RowKit Go.Sort Go.Salt
attribute [local go_sem] cell_rg
theorem grown_two {a w w' : World} {g : Nat} (h : a.grownBy w (some g)) (h' : w.grownBy w' (some g)) : a.grownBy w' (some g) :=
  ⟨h'.os.trans h.os, h'.tape.trans h.tape, h'.output.trans h.output, Nat.le_trans h.size h'.size, fun i hi hne => (h'.block i (Nat.lt_of_lt_of_le hi h.size) hne).trans (h.block i hi hne)⟩
theorem grown_below' {a w w' : World} {g : Nat} (h : a.grownBy w (some g)) (hb : Below w.heap.size w w') : a.grownBy w' (some g) :=
  ⟨hb.os.trans h.os, hb.tape.trans h.tape, hb.output.trans h.output, Nat.le_trans h.size hb.size, fun i hi hne => (hb.block i (Nat.lt_of_lt_of_le hi h.size)).trans (h.block i hi hne)⟩
theorem below_grown {w w' : World} {g : Nat} (hb : Below w.heap.size w w') : w.grownBy w' (some g) :=
  ⟨hb.os, hb.tape, hb.output, hb.size, fun i hi _ => hb.block i hi⟩
theorem row_nv (w : World) (j : Nat) : Row (w.alloc (.cells #[.int .i64 (j : Int)] 3)) w.heap.size 3 [nv j] := Row.new _ _ _
theorem row1_cell {w : World} {g : Nat} {E : TypeId} {u : Value} (h : Row w g E [u]) : w.cell? ⟨g, 0, none⟩ = some u := by simpa using h.cell (j := 0) (by simp)
theorem sgn_pos {n : Int} : 0 < sgn n ↔ 0 < n := by
  unfold sgn; split
  · omega
  · split <;> omega
def fnC (gl gb gc : Nat) : Value := .func (.func 76) #[] #[.pointer (some ⟨gb, 0, none⟩), .pointer (some ⟨gl, 0, none⟩), .pointer (some ⟨gc, 0, none⟩)]
/-- What the search captures: the owners, and itself. -/
def ChW (w : World) (xs : List Ow) (AX : Option Addr) (cx gl gb gc : Nat) : Prop :=
  gl < gb ∧ gb < gc ∧ Rd w gb AX 3 Ow.enc xs ∧ Row w gl 25 [.slice AX xs.length cx] ∧ Row w gc 86 [fnC gl gb gc]
theorem ChW.grown {w w' : World} {xs : List Ow} {AX : Option Addr} {cx gl gb gc : Nat} (h : ChW w xs AX cx gl gb gc) (hg : w.grownBy w' (some gb)) : ChW w' xs AX cx gl gb gc := by
  obtain ⟨h1, h2, h3, h4, h5⟩ := h
  have h6 := h5.lt
  refine ⟨h1, h2, h3.keep fun b o hb => ?_, h4.grown hg (by simp; omega), h5.grown hg (by simp; omega)⟩
  exact World.cell?_of_block (a := ⟨b, o, none⟩) (hg.block b (by omega) (by simp; omega))
/-- What a round of the search's loop finds. -/
def StW (w wr : World) (xs : List Ow) (AX : Option Addr) (cx gl gb gc g6 : Nat) (v : Value) (ids b : List Nat) (vb : Value) : Prop :=
  ChW wr xs AX cx gl gb gc ∧ Row wr gb 38 [vb] ∧ NIds wr (gc + 1) vb b ∧ Row wr g6 38 [v] ∧ NIds wr (gc + 1) v ids ∧ w.grownBy wr (some gb)
theorem StW.next {w wr W W3 : World} {xs : List Ow} {AX : Option Addr} {cx gl gb gc g6 : Nat} {v vb vb3 : Value} {ids b b3 : List Nat} (h : StW w wr xs AX cx gl gb gc g6 v ids b vb) (h6 : gb < g6) (hb : Below wr.heap.size wr W) (hg : W.grownBy W3 (some gb)) (hr : Row W3 gb 38 [vb3]) (hn : NIds W3 (gc + 1) vb3 b3) : StW w W3 xs AX cx gl gb gc g6 v ids b3 vb3 := by
  obtain ⟨h1, _, _, h4, h5, h7⟩ := h
  have hgc := h1.2.1
  have hG := grown_two (below_grown (g := gb) hb) hg
  exact ⟨h1.grown hG, hr, hn, h4.grown hG (by simp; omega), h5.grown hG (by omega), grown_two h7 hG⟩
theorem NIds.fm {w : World} {B : Nat} {v : Value} {ids : List Nat} (h : NIds w B v ids) : ∃ A c, v = .slice A ids.length c := by
  rcases h.shape with ⟨rfl, rfl⟩ | ⟨g, c, rfl, _⟩
  · exact ⟨_, _, rfl⟩
  · exact ⟨_, _, rfl⟩
theorem grown_own {B : Nat} {w w' : World} {v : Value} (h : w.grownBy w' v.ownBlock) (hb : ∀ g, v.ownBlock = some g → B ≤ g) (hB : B ≤ w.heap.size) : Below B w w' :=
  ⟨h.os, h.tape, h.output, h.size, fun i hi => h.block i (by omega) (fun e => by have := hb i e.symm; omega)⟩
theorem NIds.own {w : World} {B : Nat} {v : Value} {ids : List Nat} (h : NIds w B v ids) : ∀ g, v.ownBlock = some g → B ≤ g := fun g hg => by
  rcases h.shape with ⟨rfl, rfl⟩ | ⟨g', c, rfl, _, hB, _⟩
  · simp [Value.ownBlock] at hg
  · simp [Value.ownBlock] at hg; omega
theorem int_info2 : ∃ i0, Tryd.prog.info? 3 = some i0 ∧ i0.zero = some (.int .i64 0) ∧ i0.size = 1 ∧ i0.bytes = 8 := by
  obtain ⟨i0, h0, h1, h2, h3⟩ := info_parts int_info
  exact ⟨i0, h0, h1, h2, h3⟩
theorem step_append_n {w : World} {ops : Array Oper} {o : Oper} {a : Act} {K : Act → World → Prop} {Q : Exit → Act → World → Prop} {E : Prop} (hgd : o.guard = none) (s x : Operand)
    (ho : o.op = .call { callee := .builtin .append, args := #[s, x], argTypes := #[38, 38] })
    (B : Nat) (v : Value) (ids : List Nat) (j g c : Nat) (hs : a.eval s = v) (hv : NIds w B v ids) (hx : a.eval x = .slice (some ⟨g, 0, none⟩) 1 c) (hr : Row w g 3 [nv j]) (hl : ids.length ≤ 8) (hbase : B ≤ w.heap.size)
    (h : ∀ v' w', NIds w' B v' (ids ++ [j]) → Below B w w' → K (a.put o.dst v') w') :
    if Region.wanted o (yielded ops a.tmps) = true then Oper.wp Tryd.prog o a w K Q else E := by
  obtain ⟨i0, h0, h1, h2, h3⟩ := int_info2
  refine step_append_own hgd s x 38 ho B 3 i0 _ 1 8 Tryd.underlying38 h0 h1 h2 h3 rfl (by decide) v ids.length (ids.map nv) hs hv.1 ⟨g, 0, none⟩ 1 c [nv j] hx rfl (fun i u hu => ?_) (by simp [nv, Value.oneCell']) (by unfold maxLen; omega) (by omega) hbase fun v' w' ho hg hn => ?_
  · obtain rfl : i = 0 := by rcases i with _ | i; rfl; simp at hu
    obtain rfl : nv j = u := by simpa using hu
    have := hr.cell (j := 0) (by simp)
    simpa [Addr.add] using this
  · refine h v' w' ⟨?_, ?_⟩ (grown_own hg hv.own hbase)
    · rw [List.map_append, List.length_append]; exact ho
    · rw [hn]; simp
set_option maxHeartbeats 1000000 in
theorem cloneN_any (v : Value) (ids : List Nat) (B : Nat) (w : World) (hv : NIds w B v ids) (hl : ids.length ≤ 8) :
    Calls Tryd.prog 79 #[v] w fun e w' => ∃ v', e = .returned v' ∧ NIds w' w.heap.size v' ids ∧ Below w.heap.size w w' := by
  rcases hv.shape with ⟨rfl, rfl⟩ | ⟨b, c, rfl, hne, hB, hrow⟩
  · refine (Tryd.slices_Clone_int_nil 0 0 w).mono ?_
    rintro e w' ⟨rfl, rfl⟩
    exact ⟨_, rfl, NIds.nil _ _, Below.refl _ _⟩
  · refine (Tryd.slices_Clone_int b 0 ids.length c (ids.map fun (j : Nat) => (j : Int)) w (by simp) (by omega) (nids_cells hrow)).mono ?_
    rintro e w' ⟨v', rfl, h1, h2, h3⟩
    rw [List.take_of_length_le (by simp), List.map_map] at h1
    exact ⟨v', rfl, ⟨h1, ⟨fun h => absurd h h2, fun h => absurd h hne⟩⟩, h3⟩
set_option maxRecDepth 100000 in
set_option maxHeartbeats 16000000 in
theorem choose_any (xs : List Ow) (AX : Option Addr) (cx gl gb gc : Nat) (hx : xs.length ≤ 8) (hbd : OwBd xs) : ∀ (r k : Nat) (kI : Int) (ids b : List Nat) (v vb : Value) (w : World), kI = k → k + r = xs.length → ids.length ≤ k →
    ChW w xs AX cx gl gb gc → Row w gb 38 [vb] → NIds w (gc + 1) vb b → NIds w (gc + 1) v ids →
    Calls Tryd.prog 76 #[.int .i64 kI, v, .pointer (some ⟨gb, 0, none⟩), .pointer (some ⟨gl, 0, none⟩), .pointer (some ⟨gc, 0, none⟩)] w fun e w' => e = .returned (.tuple #[]) ∧ (∃ vb', Row w' gb 38 [vb'] ∧ NIds w' (gc + 1) vb' (dfM (mjO xs) k r ids b)) ∧ w.grownBy w' (some gb) := by
  have HBD := Lib.hid hbd
  clear hbd
  have eg := enters_of Tryd.func76 (by kernel_rfl) rfl
  intro r
  induction r using Nat.strongRecOn with
  | _ r ih =>
  intro k kI ids b v vb w hkI hkr hil hC hrb hvb hv
  subst hkI
  have IH := Lib.hid ih
  have HC := Lib.hid hC
  have HV := Lib.hid hv
  have HVB := Lib.hid hvb
  have HRB := Lib.hid hrb
  have hgl := hC.1
  have hgc := hC.2.1
  have hgs := hC.2.2.2.2.lt
  have hil8 : ids.length ≤ 8 := by omega
  have hgbs : gb < w.heap.size := by omega
  obtain ⟨A, c, rfl⟩ := hv.fm
  have cb := row1_cell hrb
  clear ih hC hv hrb
  by_cases h1 : b ≠ [] ∧ b.length ≤ ids.length
  · have HD : Hid (dfM (mjO xs) k r ids b = b) := Lib.hid (by unfold dfM; rw [if_pos h1])
    rcases hvb.shape with ⟨rfl, rfl⟩ | ⟨g, c', rfl, hne, hB, hrow⟩
    · exact absurd rfl h1.1
    have hle : (b.length : Int) ≤ ids.length := by have := h1.2; omega
    clear hvb hrow h1
    go_enter Tryd.func76, Tryd.ntmps76
    go_wp2
    ((try simp only [Exit.inBlock, Exit.then]); first | go_end0 | refine bodyPost_ret (results_none (by rfl) _ _ _) rfl ?_)
    have hbw : Below w.heap.size w (w.alloc (.cells #[.slice A ids.length c] 38)) := (by repeat' (first | (with_reducible exact Below.refl _ _) | (with_reducible refine Below.alloc ?_ ?_ _) | (with_reducible refine Below.setCell ?_ ?_ _) | (with_reducible refine Below.drew ?_) | (with_reducible refine Below.trans ?_ (Below.mono (by with_reducible assumption) ?_)) | omega | (simp; done) | (simp; omega)))
    exact ⟨rfl, ⟨_, HRB.out.to hbw, by rw [HD.out]; exact HVB.out.below hbw⟩, below_grown hbw⟩
  have H1 := Lib.hid h1
  rcases hvb.shape with ⟨rfl, rfl⟩ | ⟨g, c', rfl, hne, hB, hrow⟩
  · clear hvb
    go_enter Tryd.func76, Tryd.ntmps76
    go_upto_region 1 with (fail)
    refine cut_world (fun W => Row W w.heap.size 38 [.slice A ids.length c] ∧ Below w.heap.size w W) ⟨by first | exact Row.new _ _ _ | exact (Row.new _ _ _).to (by repeat' (first | (with_reducible exact Below.refl _ _) | (with_reducible refine Below.alloc ?_ ?_ _) | (with_reducible refine Below.setCell ?_ ?_ _) | (with_reducible refine Below.drew ?_) | (with_reducible refine Below.trans ?_ (Below.mono (by with_reducible assumption) ?_)) | omega | (simp; done) | (simp; omega))), (by repeat' (first | (with_reducible exact Below.refl _ _) | (with_reducible refine Below.alloc ?_ ?_ _) | (with_reducible refine Below.setCell ?_ ?_ _) | (with_reducible refine Below.drew ?_) | (with_reducible refine Below.trans ?_ (Below.mono (by with_reducible assumption) ?_)) | omega | (simp; done) | (simp; omega)))⟩ ?_
    obtain ⟨g6, hg6⟩ : ∃ g, w.heap.size = g := ⟨_, rfl⟩
    rw [hg6]
    have hg6b : gb < g6 := by omega
    clear cb
    rintro w0 ⟨r6, hb0'⟩
    have hb0 : Below w.heap.size w w0 := by rw [hg6]; exact hb0'
    have hs0 := hb0.size
    have rb0 := HRB.out.to hb0
    have cb := row1_cell rb0
    have c6 := row1_cell r6
    have cl := row1_cell (HC.out.2.2.2.1.to hb0)
    have R6 := Lib.hid r6
    have hl6 := r6.lt
    have hlb := rb0.lt
    have hlg : gl < w0.heap.size := by omega
    have HV0 := Lib.hid (HV.out.below hb0)
    have HX0 := Lib.hid (((HC.out.2.2.1).more (show gb ≤ w.heap.size by omega)).to hb0)
    have HB0 := Lib.hid hb0
    have HST : Hid (StW w w0 xs AX cx gl gb gc g6 (.slice A ids.length c) ids [] (.slice none 0 0)) := Lib.hid ⟨HC.out.grown (below_grown hb0), rb0, HVB.out.below hb0, r6, HV0.out, below_grown hb0⟩
    clear rb0 r6 hb0'
    obtain ⟨sg, hsg⟩ : ∃ z, sgn (2 * sP (fun j => ids.contains j) (nuO xs) (deO xs) xs.length - dP (deO xs) xs.length) = z := ⟨_, rfl⟩
    have hmj : mjO xs ids = decide (0 < sg) := by
      unfold mjO; rw [← hsg]
      exact decide_eq_decide.2 (by rw [sgn_pos]; omega)
    by_cases hp : 0 < sg
    · have HD : Hid (dfM (mjO xs) k r ids [] = ids) := Lib.hid (by unfold dfM; rw [if_neg H1.out, hmj, decide_eq_true hp, if_pos rfl])
      clear hmj
      go_wp2_with fail
      refine (cmpMaj_any AX cx xs ids _ g6 (gc + 1) _ (HX0.out.to (by repeat' (first | (with_reducible exact Below.refl _ _) | (with_reducible refine Below.alloc ?_ ?_ _) | (with_reducible refine Below.setCell ?_ ?_ _) | (with_reducible refine Below.drew ?_) | (with_reducible refine Below.trans ?_ (Below.mono (by with_reducible assumption) ?_)) | omega | (simp; done) | (simp; omega)))) hx HBD.out (R6.out.to (by repeat' (first | (with_reducible exact Below.refl _ _) | (with_reducible refine Below.alloc ?_ ?_ _) | (with_reducible refine Below.setCell ?_ ?_ _) | (with_reducible refine Below.drew ?_) | (with_reducible refine Below.trans ?_ (Below.mono (by with_reducible assumption) ?_)) | omega | (simp; done) | (simp; omega)))) (HV0.out.below (by repeat' (first | (with_reducible exact Below.refl _ _) | (with_reducible refine Below.alloc ?_ ?_ _) | (with_reducible refine Below.setCell ?_ ?_ _) | (with_reducible refine Below.drew ?_) | (with_reducible refine Below.trans ?_ (Below.mono (by with_reducible assumption) ?_)) | omega | (simp; done) | (simp; omega)))) hil8).mono ?_
      rintro e w1 ⟨rfl, hb1⟩
      have hs1 := hb1.size
      rw [hsg]
      have h01 : Below w0.heap.size w0 w1 := (by repeat' (first | (with_reducible exact Below.refl _ _) | (with_reducible refine Below.alloc ?_ ?_ _) | (with_reducible refine Below.setCell ?_ ?_ _) | (with_reducible refine Below.drew ?_) | (with_reducible refine Below.trans ?_ (Below.mono (by with_reducible assumption) ?_)) | omega | (simp; done) | (simp; omega)))
      have c61 := row1_cell (R6.out.to h01)
      go_wp2_with fail
      refine (cloneN_any _ ids (gc + 1) _ (HV0.out.below (by repeat' (first | (with_reducible exact Below.refl _ _) | (with_reducible refine Below.alloc ?_ ?_ _) | (with_reducible refine Below.setCell ?_ ?_ _) | (with_reducible refine Below.drew ?_) | (with_reducible refine Below.trans ?_ (Below.mono (by with_reducible assumption) ?_)) | omega | (simp; done) | (simp; omega)))) hil8).mono ?_
      rintro e w2 ⟨v2, rfl, hn2, hb2⟩
      have hs2 := hb2.size
      obtain ⟨A2, c2, rfl⟩ := hn2.fm
      have hw2 := HB0.out.trans ((h01.trans (hb2.mono hs1)).mono hs0)
      have rb2 := HRB.out.to hw2
      have cb2 := row1_cell rb2
      have f2 := rb2.frozen 0
      have hgb2 := rb2.lt
      go_wp2_with fail
      ((try simp only [Exit.inBlock, Exit.then]); first | go_end0 | refine bodyPost_ret (results_none (by rfl) _ _ _) rfl ?_)
      have hG : w2.grownBy (w2.setCell ⟨gb, 0, none⟩ (.slice A2 ids.length c2)) (some gb) := only_setCell (World.grownBy.refl _ _) (.inl rfl) _
      exact ⟨rfl, ⟨_, by simpa using rb2.set (j := 0) (.slice A2 ids.length c2), by rw [HD.out]; exact (hn2.base (by omega)).grown hG (by omega)⟩, grown_two (below_grown hw2) hG⟩
    have HD : Hid (dfM (mjO xs) k r ids [] = lpM (mjO xs) k r ids []) := Lib.hid (by unfold dfM; rw [if_neg H1.out, hmj, decide_eq_false hp]; rfl)
    clear hmj
    go_wp2_with fail
    refine (cmpMaj_any AX cx xs ids _ g6 (gc + 1) _ (HX0.out.to (by repeat' (first | (with_reducible exact Below.refl _ _) | (with_reducible refine Below.alloc ?_ ?_ _) | (with_reducible refine Below.setCell ?_ ?_ _) | (with_reducible refine Below.drew ?_) | (with_reducible refine Below.trans ?_ (Below.mono (by with_reducible assumption) ?_)) | omega | (simp; done) | (simp; omega)))) hx HBD.out (R6.out.to (by repeat' (first | (with_reducible exact Below.refl _ _) | (with_reducible refine Below.alloc ?_ ?_ _) | (with_reducible refine Below.setCell ?_ ?_ _) | (with_reducible refine Below.drew ?_) | (with_reducible refine Below.trans ?_ (Below.mono (by with_reducible assumption) ?_)) | omega | (simp; done) | (simp; omega)))) (HV0.out.below (by repeat' (first | (with_reducible exact Below.refl _ _) | (with_reducible refine Below.alloc ?_ ?_ _) | (with_reducible refine Below.setCell ?_ ?_ _) | (with_reducible refine Below.drew ?_) | (with_reducible refine Below.trans ?_ (Below.mono (by with_reducible assumption) ?_)) | omega | (simp; done) | (simp; omega)))) hil8).mono ?_
    rintro e w1 ⟨rfl, hb1⟩
    have hs1 := hb1.size
    rw [hsg]
    have h01 : Below w0.heap.size w0 w1 := (by repeat' (first | (with_reducible exact Below.refl _ _) | (with_reducible refine Below.alloc ?_ ?_ _) | (with_reducible refine Below.setCell ?_ ?_ _) | (with_reducible refine Below.drew ?_) | (with_reducible refine Below.trans ?_ (Below.mono (by with_reducible assumption) ?_)) | omega | (simp; done) | (simp; omega)))
    have HST1 : Hid (StW w w1 xs AX cx gl gb gc g6 (.slice A ids.length c) ids [] (.slice none 0 0)) := Lib.hid (HST.out.next hg6b (Below.refl _ _) (below_grown h01) (HST.out.2.1.to h01) (HST.out.2.2.1.below h01))
    clear cb c6 cl hb1 HST h01 hsg
    have hkn : k ≤ xs.length := by omega
    go_wp2_with fail
    go_loopw [7] (fun i wr => ∃ (j : Nat) (b' : List Nat) (vb' : Value), j ≤ xs.length ∧ k ≤ j ∧ i = .int .i64 j ∧ Hid (lpM (mjO xs) j (xs.length - j) ids b' = lpM (mjO xs) k r ids []) ∧ Hid (StW w wr xs AX cx gl gb gc g6 (.slice A ids.length c) ids b' vb')) (fun i _ => xs.length - (intOf i).toNat)
    case atStart => exact ⟨k, [], _, hkn, Nat.le_refl _, rfl, Lib.hid (by rw [show xs.length - k = r by omega]), HST1⟩
    case round =>
      obtain ⟨j, b', vb', hjn, hkj, rfl, HE, HS⟩ := hrel
      have cl := row1_cell HS.out.1.2.2.2.1
      have hlg : gl < wr.heap.size := HS.out.1.2.2.2.1.lt
      have hlc : gc < wr.heap.size := HS.out.1.2.2.2.2.lt
      have hl6 : g6 < wr.heap.size := HS.out.2.2.2.1.lt
      by_cases hlt : j < xs.length
      · have hI : (j : Int) < xs.length := by omega
        have hwj : IntKind.i64.wrap ((j : Int) + 1) = (j : Int) + 1 := IntWalk.i64_in _ (by omega)
        have IHj : Hid (∀ (v2 : Value) (W : World), Below wr.heap.size wr W → NIds W wr.heap.size v2 (ids ++ [j]) → Calls Tryd.prog 76 #[.int .i64 (j + 1), v2, .pointer (some ⟨gb, 0, none⟩), .pointer (some ⟨gl, 0, none⟩), .pointer (some ⟨gc, 0, none⟩)] W fun e w' => e = .returned (.tuple #[]) ∧ (∃ vb', Row w' gb 38 [vb'] ∧ NIds w' (gc + 1) vb' (dfM (mjO xs) (j + 1) (xs.length - (j + 1)) (ids ++ [j]) b')) ∧ W.grownBy w' (some gb)) := Lib.hid fun v2 W hb hn =>
          IH.out (xs.length - (j + 1)) (by omega) (j + 1) ((j : Int) + 1) (ids ++ [j]) b' v2 vb' W (by omega) (by omega) (by simp; omega) (HS.out.1.grown (below_grown hb)) (HS.out.2.1.to hb) (HS.out.2.2.1.below hb) (hn.base (by omega))
        have HE2 : Hid (lpM (mjO xs) (j + 1) (xs.length - (j + 1)) ids (dfM (mjO xs) (j + 1) (xs.length - (j + 1)) (ids ++ [j]) b') = lpM (mjO xs) k r ids []) := Lib.hid (by
          have := HE.out
          rw [show xs.length - j = (xs.length - (j + 1)) + 1 by omega, lpM_succ] at this
          exact this)
        have HGC := Lib.hid HS.out.1.2.2.2.2
        have HG6 := Lib.hid HS.out.2.2.2.1
        have hngc : some gc ≠ some gb := by simp; omega
        have hng6 : some g6 ≠ some gb := by simp; omega
        have HVr := Lib.hid HS.out.2.2.2.2.1
        have cc := row1_cell HGC.out
        simp only [fnC] at cc
        have c6 := row1_cell HG6.out
        go_wp2_with fail
        go_region_held3 (fun W => W.cell? ⟨gc, 0, none⟩ = some (.func (.func 76) #[] #[.pointer (some ⟨gb, 0, none⟩), .pointer (some ⟨gl, 0, none⟩), .pointer (some ⟨gc, 0, none⟩)]) ∧ W.cell? ⟨g6, 0, none⟩ = some (.slice A ids.length c))
          (first | (exact ⟨cc4, c64⟩) | (exact ⟨row1_cell (HGC.out.to (by repeat' (first | (with_reducible exact Below.refl _ _) | (with_reducible refine Below.alloc ?_ ?_ _) | (with_reducible refine Below.setCell ?_ ?_ _) | (with_reducible refine Below.drew ?_) | (with_reducible refine Below.trans ?_ (Below.mono (by with_reducible assumption) ?_)) | omega | (simp; done) | (simp; omega)))), row1_cell (HG6.out.to (by repeat' (first | (with_reducible exact Below.refl _ _) | (with_reducible refine Below.alloc ?_ ?_ _) | (with_reducible refine Below.setCell ?_ ?_ _) | (with_reducible refine Below.drew ?_) | (with_reducible refine Below.trans ?_ (Below.mono (by with_reducible assumption) ?_)) | omega | (simp; done) | (simp; omega))))⟩) | go_keep)
          (first
            | (go_at_call 79; refine (cloneN_any _ ids (gc + 1) _ (HVr.out.below (by repeat' (first | (with_reducible exact Below.refl _ _) | (with_reducible refine Below.alloc ?_ ?_ _) | (with_reducible refine Below.setCell ?_ ?_ _) | (with_reducible refine Below.drew ?_) | (with_reducible refine Below.trans ?_ (Below.mono (by with_reducible assumption) ?_)) | omega | (simp; done) | (simp; omega)))) hil8).mono ?_; rintro e w2 ⟨v2, rfl, hn2, hb2⟩; have hq2 : Below wr.heap.size wr w2 := (by repeat' (first | (with_reducible exact Below.refl _ _) | (with_reducible refine Below.alloc ?_ ?_ _) | (with_reducible refine Below.setCell ?_ ?_ _) | (with_reducible refine Below.drew ?_) | (with_reducible refine Below.trans ?_ (Below.mono (by with_reducible assumption) ?_)) | omega | (simp; done) | (simp; omega))); have hs2 := hq2.size)
            | (refine step_append_n (by rfl) (.tmp 34) (.tmp 36) (by rfl) wr.heap.size v2 ids j _ _ (by rfl) ((hn2.base ((by repeat' (first | (with_reducible exact Below.refl _ _) | (with_reducible refine Below.alloc ?_ ?_ _) | (with_reducible refine Below.setCell ?_ ?_ _) | (with_reducible refine Below.drew ?_) | (with_reducible refine Below.trans ?_ (Below.mono (by with_reducible assumption) ?_)) | omega | (simp; done) | (simp; omega))) : Below wr.heap.size wr _).size).below (by repeat' (first | (with_reducible exact Below.refl _ _) | (with_reducible refine Below.alloc ?_ ?_ _) | (with_reducible refine Below.setCell ?_ ?_ _) | (with_reducible refine Below.drew ?_) | (with_reducible refine Below.trans ?_ (Below.mono (by with_reducible assumption) ?_)) | omega | (simp; done) | (simp; omega)))) (by rfl) (by first | exact row_nv _ j | exact Row.to (row_nv wr j) hb2 | exact Row.to (show Row (wr.alloc (.cells #[.int .i64 (j : Int)] 3)).drew wr.heap.size 3 [nv j] from row_nv wr j) hb2) hil8 ((by repeat' (first | (with_reducible exact Below.refl _ _) | (with_reducible refine Below.alloc ?_ ?_ _) | (with_reducible refine Below.setCell ?_ ?_ _) | (with_reducible refine Below.drew ?_) | (with_reducible refine Below.trans ?_ (Below.mono (by with_reducible assumption) ?_)) | omega | (simp; done) | (simp; omega))) : Below wr.heap.size wr _).size ?_; intro v3 w3 hn3 hb3; have hq3 := (show Below wr.heap.size wr _ from (by repeat' (first | (with_reducible exact Below.refl _ _) | (with_reducible refine Below.alloc ?_ ?_ _) | (with_reducible refine Below.setCell ?_ ?_ _) | (with_reducible refine Below.drew ?_) | (with_reducible refine Below.trans ?_ (Below.mono (by with_reducible assumption) ?_)) | omega | (simp; done) | (simp; omega)))).trans hb3; have hs3 := hq3.size)
            | (go_at_call 76; refine (IHj.out v3 w3 hq3 hn3).mono ?_; rintro e w4 ⟨rfl, ⟨vb4, hrb4, hnb4⟩, hgr4⟩; have cc4 := row1_cell ((HGC.out.to hq3).grown hgr4 hngc); have c64 := row1_cell ((HG6.out.to hq3).grown hgr4 hng6)))
        all_goals
          go_wp2_with fail
          go_roundw
          case rel => exact ⟨j + 1, _, vb4, by omega, by omega, by go_num, HE2, Lib.hid (HS.out.next hg6b hq3 hgr4 hrb4 hnb4)⟩
          case measure => simp [intOf]; omega
      · obtain rfl : j = xs.length := by omega
        have hI : ¬ ((xs.length : Nat) : Int) < xs.length := by omega
        go_wp2
        ((try simp only [Exit.inBlock, Exit.then]); first | go_end0 | refine bodyPost_ret (results_none (by rfl) _ _ _) rfl ?_)
        refine ⟨rfl, ⟨vb', HS.out.2.1, ?_⟩, HS.out.2.2.2.2.2⟩
        have := HE.out
        rw [Nat.sub_self, lpM] at this
        rw [HD.out, ← this]
        exact HS.out.2.2.1
  · have hle : ¬ (b.length : Int) ≤ ids.length := fun h => h1 ⟨hne, by omega⟩
    clear hvb hrow h1
    go_enter Tryd.func76, Tryd.ntmps76
    go_upto_region 1 with (fail)
    refine cut_world (fun W => Row W w.heap.size 38 [.slice A ids.length c] ∧ Below w.heap.size w W) ⟨by first | exact Row.new _ _ _ | exact (Row.new _ _ _).to (by repeat' (first | (with_reducible exact Below.refl _ _) | (with_reducible refine Below.alloc ?_ ?_ _) | (with_reducible refine Below.setCell ?_ ?_ _) | (with_reducible refine Below.drew ?_) | (with_reducible refine Below.trans ?_ (Below.mono (by with_reducible assumption) ?_)) | omega | (simp; done) | (simp; omega))), (by repeat' (first | (with_reducible exact Below.refl _ _) | (with_reducible refine Below.alloc ?_ ?_ _) | (with_reducible refine Below.setCell ?_ ?_ _) | (with_reducible refine Below.drew ?_) | (with_reducible refine Below.trans ?_ (Below.mono (by with_reducible assumption) ?_)) | omega | (simp; done) | (simp; omega)))⟩ ?_
    obtain ⟨g6, hg6⟩ : ∃ g, w.heap.size = g := ⟨_, rfl⟩
    rw [hg6]
    have hg6b : gb < g6 := by omega
    clear cb
    rintro w0 ⟨r6, hb0'⟩
    have hb0 : Below w.heap.size w w0 := by rw [hg6]; exact hb0'
    have hs0 := hb0.size
    have rb0 := HRB.out.to hb0
    have cb := row1_cell rb0
    have c6 := row1_cell r6
    have cl := row1_cell (HC.out.2.2.2.1.to hb0)
    have R6 := Lib.hid r6
    have hl6 := r6.lt
    have hlb := rb0.lt
    have hlg : gl < w0.heap.size := by omega
    have HV0 := Lib.hid (HV.out.below hb0)
    have HX0 := Lib.hid (((HC.out.2.2.1).more (show gb ≤ w.heap.size by omega)).to hb0)
    have HB0 := Lib.hid hb0
    have HST : Hid (StW w w0 xs AX cx gl gb gc g6 (.slice A ids.length c) ids b (.slice (some ⟨g, 0, none⟩) b.length c')) := Lib.hid ⟨HC.out.grown (below_grown hb0), rb0, HVB.out.below hb0, r6, HV0.out, below_grown hb0⟩
    clear rb0 r6 hb0'
    obtain ⟨sg, hsg⟩ : ∃ z, sgn (2 * sP (fun j => ids.contains j) (nuO xs) (deO xs) xs.length - dP (deO xs) xs.length) = z := ⟨_, rfl⟩
    have hmj : mjO xs ids = decide (0 < sg) := by
      unfold mjO; rw [← hsg]
      exact decide_eq_decide.2 (by rw [sgn_pos]; omega)
    by_cases hp : 0 < sg
    · have HD : Hid (dfM (mjO xs) k r ids b = ids) := Lib.hid (by unfold dfM; rw [if_neg H1.out, hmj, decide_eq_true hp, if_pos rfl])
      clear hmj
      go_wp2_with fail
      refine (cmpMaj_any AX cx xs ids _ g6 (gc + 1) _ (HX0.out.to (by repeat' (first | (with_reducible exact Below.refl _ _) | (with_reducible refine Below.alloc ?_ ?_ _) | (with_reducible refine Below.setCell ?_ ?_ _) | (with_reducible refine Below.drew ?_) | (with_reducible refine Below.trans ?_ (Below.mono (by with_reducible assumption) ?_)) | omega | (simp; done) | (simp; omega)))) hx HBD.out (R6.out.to (by repeat' (first | (with_reducible exact Below.refl _ _) | (with_reducible refine Below.alloc ?_ ?_ _) | (with_reducible refine Below.setCell ?_ ?_ _) | (with_reducible refine Below.drew ?_) | (with_reducible refine Below.trans ?_ (Below.mono (by with_reducible assumption) ?_)) | omega | (simp; done) | (simp; omega)))) (HV0.out.below (by repeat' (first | (with_reducible exact Below.refl _ _) | (with_reducible refine Below.alloc ?_ ?_ _) | (with_reducible refine Below.setCell ?_ ?_ _) | (with_reducible refine Below.drew ?_) | (with_reducible refine Below.trans ?_ (Below.mono (by with_reducible assumption) ?_)) | omega | (simp; done) | (simp; omega)))) hil8).mono ?_
      rintro e w1 ⟨rfl, hb1⟩
      have hs1 := hb1.size
      rw [hsg]
      have h01 : Below w0.heap.size w0 w1 := (by repeat' (first | (with_reducible exact Below.refl _ _) | (with_reducible refine Below.alloc ?_ ?_ _) | (with_reducible refine Below.setCell ?_ ?_ _) | (with_reducible refine Below.drew ?_) | (with_reducible refine Below.trans ?_ (Below.mono (by with_reducible assumption) ?_)) | omega | (simp; done) | (simp; omega)))
      have c61 := row1_cell (R6.out.to h01)
      go_wp2_with fail
      refine (cloneN_any _ ids (gc + 1) _ (HV0.out.below (by repeat' (first | (with_reducible exact Below.refl _ _) | (with_reducible refine Below.alloc ?_ ?_ _) | (with_reducible refine Below.setCell ?_ ?_ _) | (with_reducible refine Below.drew ?_) | (with_reducible refine Below.trans ?_ (Below.mono (by with_reducible assumption) ?_)) | omega | (simp; done) | (simp; omega)))) hil8).mono ?_
      rintro e w2 ⟨v2, rfl, hn2, hb2⟩
      have hs2 := hb2.size
      obtain ⟨A2, c2, rfl⟩ := hn2.fm
      have hw2 := HB0.out.trans ((h01.trans (hb2.mono hs1)).mono hs0)
      have rb2 := HRB.out.to hw2
      have cb2 := row1_cell rb2
      have f2 := rb2.frozen 0
      have hgb2 := rb2.lt
      go_wp2_with fail
      ((try simp only [Exit.inBlock, Exit.then]); first | go_end0 | refine bodyPost_ret (results_none (by rfl) _ _ _) rfl ?_)
      have hG : w2.grownBy (w2.setCell ⟨gb, 0, none⟩ (.slice A2 ids.length c2)) (some gb) := only_setCell (World.grownBy.refl _ _) (.inl rfl) _
      exact ⟨rfl, ⟨_, by simpa using rb2.set (j := 0) (.slice A2 ids.length c2), by rw [HD.out]; exact (hn2.base (by omega)).grown hG (by omega)⟩, grown_two (below_grown hw2) hG⟩
    have HD : Hid (dfM (mjO xs) k r ids b = lpM (mjO xs) k r ids b) := Lib.hid (by unfold dfM; rw [if_neg H1.out, hmj, decide_eq_false hp]; rfl)
    clear hmj
    go_wp2_with fail
    refine (cmpMaj_any AX cx xs ids _ g6 (gc + 1) _ (HX0.out.to (by repeat' (first | (with_reducible exact Below.refl _ _) | (with_reducible refine Below.alloc ?_ ?_ _) | (with_reducible refine Below.setCell ?_ ?_ _) | (with_reducible refine Below.drew ?_) | (with_reducible refine Below.trans ?_ (Below.mono (by with_reducible assumption) ?_)) | omega | (simp; done) | (simp; omega)))) hx HBD.out (R6.out.to (by repeat' (first | (with_reducible exact Below.refl _ _) | (with_reducible refine Below.alloc ?_ ?_ _) | (with_reducible refine Below.setCell ?_ ?_ _) | (with_reducible refine Below.drew ?_) | (with_reducible refine Below.trans ?_ (Below.mono (by with_reducible assumption) ?_)) | omega | (simp; done) | (simp; omega)))) (HV0.out.below (by repeat' (first | (with_reducible exact Below.refl _ _) | (with_reducible refine Below.alloc ?_ ?_ _) | (with_reducible refine Below.setCell ?_ ?_ _) | (with_reducible refine Below.drew ?_) | (with_reducible refine Below.trans ?_ (Below.mono (by with_reducible assumption) ?_)) | omega | (simp; done) | (simp; omega)))) hil8).mono ?_
    rintro e w1 ⟨rfl, hb1⟩
    have hs1 := hb1.size
    rw [hsg]
    have h01 : Below w0.heap.size w0 w1 := (by repeat' (first | (with_reducible exact Below.refl _ _) | (with_reducible refine Below.alloc ?_ ?_ _) | (with_reducible refine Below.setCell ?_ ?_ _) | (with_reducible refine Below.drew ?_) | (with_reducible refine Below.trans ?_ (Below.mono (by with_reducible assumption) ?_)) | omega | (simp; done) | (simp; omega)))
    have HST1 : Hid (StW w w1 xs AX cx gl gb gc g6 (.slice A ids.length c) ids b (.slice (some ⟨g, 0, none⟩) b.length c')) := Lib.hid (HST.out.next hg6b (Below.refl _ _) (below_grown h01) (HST.out.2.1.to h01) (HST.out.2.2.1.below h01))
    clear cb c6 cl hb1 HST h01 hsg
    have hkn : k ≤ xs.length := by omega
    go_wp2_with fail
    go_loopw [7] (fun i wr => ∃ (j : Nat) (b' : List Nat) (vb' : Value), j ≤ xs.length ∧ k ≤ j ∧ i = .int .i64 j ∧ Hid (lpM (mjO xs) j (xs.length - j) ids b' = lpM (mjO xs) k r ids b) ∧ Hid (StW w wr xs AX cx gl gb gc g6 (.slice A ids.length c) ids b' vb')) (fun i _ => xs.length - (intOf i).toNat)
    case atStart => exact ⟨k, b, _, hkn, Nat.le_refl _, rfl, Lib.hid (by rw [show xs.length - k = r by omega]), HST1⟩
    case round =>
      obtain ⟨j, b', vb', hjn, hkj, rfl, HE, HS⟩ := hrel
      have cl := row1_cell HS.out.1.2.2.2.1
      have hlg : gl < wr.heap.size := HS.out.1.2.2.2.1.lt
      have hlc : gc < wr.heap.size := HS.out.1.2.2.2.2.lt
      have hl6 : g6 < wr.heap.size := HS.out.2.2.2.1.lt
      by_cases hlt : j < xs.length
      · have hI : (j : Int) < xs.length := by omega
        have hwj : IntKind.i64.wrap ((j : Int) + 1) = (j : Int) + 1 := IntWalk.i64_in _ (by omega)
        have IHj : Hid (∀ (v2 : Value) (W : World), Below wr.heap.size wr W → NIds W wr.heap.size v2 (ids ++ [j]) → Calls Tryd.prog 76 #[.int .i64 (j + 1), v2, .pointer (some ⟨gb, 0, none⟩), .pointer (some ⟨gl, 0, none⟩), .pointer (some ⟨gc, 0, none⟩)] W fun e w' => e = .returned (.tuple #[]) ∧ (∃ vb', Row w' gb 38 [vb'] ∧ NIds w' (gc + 1) vb' (dfM (mjO xs) (j + 1) (xs.length - (j + 1)) (ids ++ [j]) b')) ∧ W.grownBy w' (some gb)) := Lib.hid fun v2 W hb hn =>
          IH.out (xs.length - (j + 1)) (by omega) (j + 1) ((j : Int) + 1) (ids ++ [j]) b' v2 vb' W (by omega) (by omega) (by simp; omega) (HS.out.1.grown (below_grown hb)) (HS.out.2.1.to hb) (HS.out.2.2.1.below hb) (hn.base (by omega))
        have HE2 : Hid (lpM (mjO xs) (j + 1) (xs.length - (j + 1)) ids (dfM (mjO xs) (j + 1) (xs.length - (j + 1)) (ids ++ [j]) b') = lpM (mjO xs) k r ids b) := Lib.hid (by
          have := HE.out
          rw [show xs.length - j = (xs.length - (j + 1)) + 1 by omega, lpM_succ] at this
          exact this)
        have HGC := Lib.hid HS.out.1.2.2.2.2
        have HG6 := Lib.hid HS.out.2.2.2.1
        have hngc : some gc ≠ some gb := by simp; omega
        have hng6 : some g6 ≠ some gb := by simp; omega
        have HVr := Lib.hid HS.out.2.2.2.2.1
        have cc := row1_cell HGC.out
        simp only [fnC] at cc
        have c6 := row1_cell HG6.out
        go_wp2_with fail
        go_region_held3 (fun W => W.cell? ⟨gc, 0, none⟩ = some (.func (.func 76) #[] #[.pointer (some ⟨gb, 0, none⟩), .pointer (some ⟨gl, 0, none⟩), .pointer (some ⟨gc, 0, none⟩)]) ∧ W.cell? ⟨g6, 0, none⟩ = some (.slice A ids.length c))
          (first | (exact ⟨cc4, c64⟩) | (exact ⟨row1_cell (HGC.out.to (by repeat' (first | (with_reducible exact Below.refl _ _) | (with_reducible refine Below.alloc ?_ ?_ _) | (with_reducible refine Below.setCell ?_ ?_ _) | (with_reducible refine Below.drew ?_) | (with_reducible refine Below.trans ?_ (Below.mono (by with_reducible assumption) ?_)) | omega | (simp; done) | (simp; omega)))), row1_cell (HG6.out.to (by repeat' (first | (with_reducible exact Below.refl _ _) | (with_reducible refine Below.alloc ?_ ?_ _) | (with_reducible refine Below.setCell ?_ ?_ _) | (with_reducible refine Below.drew ?_) | (with_reducible refine Below.trans ?_ (Below.mono (by with_reducible assumption) ?_)) | omega | (simp; done) | (simp; omega))))⟩) | go_keep)
          (first
            | (go_at_call 79; refine (cloneN_any _ ids (gc + 1) _ (HVr.out.below (by repeat' (first | (with_reducible exact Below.refl _ _) | (with_reducible refine Below.alloc ?_ ?_ _) | (with_reducible refine Below.setCell ?_ ?_ _) | (with_reducible refine Below.drew ?_) | (with_reducible refine Below.trans ?_ (Below.mono (by with_reducible assumption) ?_)) | omega | (simp; done) | (simp; omega)))) hil8).mono ?_; rintro e w2 ⟨v2, rfl, hn2, hb2⟩; have hq2 : Below wr.heap.size wr w2 := (by repeat' (first | (with_reducible exact Below.refl _ _) | (with_reducible refine Below.alloc ?_ ?_ _) | (with_reducible refine Below.setCell ?_ ?_ _) | (with_reducible refine Below.drew ?_) | (with_reducible refine Below.trans ?_ (Below.mono (by with_reducible assumption) ?_)) | omega | (simp; done) | (simp; omega))); have hs2 := hq2.size)
            | (refine step_append_n (by rfl) (.tmp 34) (.tmp 36) (by rfl) wr.heap.size v2 ids j _ _ (by rfl) ((hn2.base ((by repeat' (first | (with_reducible exact Below.refl _ _) | (with_reducible refine Below.alloc ?_ ?_ _) | (with_reducible refine Below.setCell ?_ ?_ _) | (with_reducible refine Below.drew ?_) | (with_reducible refine Below.trans ?_ (Below.mono (by with_reducible assumption) ?_)) | omega | (simp; done) | (simp; omega))) : Below wr.heap.size wr _).size).below (by repeat' (first | (with_reducible exact Below.refl _ _) | (with_reducible refine Below.alloc ?_ ?_ _) | (with_reducible refine Below.setCell ?_ ?_ _) | (with_reducible refine Below.drew ?_) | (with_reducible refine Below.trans ?_ (Below.mono (by with_reducible assumption) ?_)) | omega | (simp; done) | (simp; omega)))) (by rfl) (by first | exact row_nv _ j | exact Row.to (row_nv wr j) hb2 | exact Row.to (show Row (wr.alloc (.cells #[.int .i64 (j : Int)] 3)).drew wr.heap.size 3 [nv j] from row_nv wr j) hb2) hil8 ((by repeat' (first | (with_reducible exact Below.refl _ _) | (with_reducible refine Below.alloc ?_ ?_ _) | (with_reducible refine Below.setCell ?_ ?_ _) | (with_reducible refine Below.drew ?_) | (with_reducible refine Below.trans ?_ (Below.mono (by with_reducible assumption) ?_)) | omega | (simp; done) | (simp; omega))) : Below wr.heap.size wr _).size ?_; intro v3 w3 hn3 hb3; have hq3 := (show Below wr.heap.size wr _ from (by repeat' (first | (with_reducible exact Below.refl _ _) | (with_reducible refine Below.alloc ?_ ?_ _) | (with_reducible refine Below.setCell ?_ ?_ _) | (with_reducible refine Below.drew ?_) | (with_reducible refine Below.trans ?_ (Below.mono (by with_reducible assumption) ?_)) | omega | (simp; done) | (simp; omega)))).trans hb3; have hs3 := hq3.size)
            | (go_at_call 76; refine (IHj.out v3 w3 hq3 hn3).mono ?_; rintro e w4 ⟨rfl, ⟨vb4, hrb4, hnb4⟩, hgr4⟩; have cc4 := row1_cell ((HGC.out.to hq3).grown hgr4 hngc); have c64 := row1_cell ((HG6.out.to hq3).grown hgr4 hng6)))
        all_goals
          go_wp2_with fail
          go_roundw
          case rel => exact ⟨j + 1, _, vb4, by omega, by omega, by go_num, HE2, Lib.hid (HS.out.next hg6b hq3 hgr4 hrb4 hnb4)⟩
          case measure => simp [intOf]; omega
      · obtain rfl : j = xs.length := by omega
        have hI : ¬ ((xs.length : Nat) : Int) < xs.length := by omega
        go_wp2
        ((try simp only [Exit.inBlock, Exit.then]); first | go_end0 | refine bodyPost_ret (results_none (by rfl) _ _ _) rfl ?_)
        refine ⟨rfl, ⟨vb', HS.out.2.1, ?_⟩, HS.out.2.2.2.2.2⟩
        have := HE.out
        rw [Nat.sub_self, lpM] at this
        rw [HD.out, ← this]
        exact HS.out.2.2.1
end Go.Proofs.YtimdnihadhbjpaaDoor
