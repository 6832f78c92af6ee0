/- Contracts: slices.Insert at bookings, in a new row (chapter 20). -/
import Derived.Test.YtkhldmicejdggaaInsTwo
import Derived.Lib.AppendZerosOnto
import Derived.Laws.NewBlocks
set_option linter.unusedSimpArgs false
set_option linter.unusedVariables false
namespace Go.Proofs.Ytkhldmicejdggaa
open Go.RowKit Go.Sort Go.Salt
attribute [local go_sem] cell_rg
theorem below_setRow {w W : World} {g : Nat} {brr : Array Value} (h : Below w.heap.size w W) (hg : w.heap.size ≤ g) : Below w.heap.size w (W.setRow g brr) := by
  have q := setRow_grown W g brr
  exact ⟨q.os.trans h.os, q.tape.trans h.tape, q.output.trans h.output, Nat.le_trans h.size q.size, fun i hi => (q.block i (Nat.lt_of_lt_of_le hi h.size) (by simp; omega)).trans (h.block i hi)⟩
theorem grow_cells {xs : List Bk} {x : Bk} {i : Nat} {row : List Value} (hi : i < xs.length) (hl : (xs.length + 1) * 3 ≤ row.length) (ht : row.take (i * 3) = (xs.take i).flatMap Bk.enc) :
    (((row.take (i * 3) ++ x.enc ++ row.drop (i * 3 + 3)).take ((i + 1) * 3) ++ (xs.drop i).flatMap Bk.enc ++ (row.take (i * 3) ++ x.enc ++ row.drop (i * 3 + 3)).drop ((i + 1) * 3 + ((xs.drop i).flatMap Bk.enc).length)).take ((putL xs i x).flatMap Bk.enc).length) = (putL xs i x).flatMap Bk.enc := by
  have hd : ((xs.drop i).flatMap Bk.enc).length = (xs.length - i) * 3 := by rw [flat_len Bk.enc_len, List.length_drop]
  have hp : ((putL xs i x).flatMap Bk.enc).length = (xs.length + 1) * 3 := by rw [flat_len Bk.enc_len, putL_len (by omega)]
  have hx : x.enc.length = 3 := Bk.enc_len x
  have a1 : (row.take (i * 3)).length = i * 3 := by rw [List.length_take]; omega
  have a2 : (row.take (i * 3) ++ x.enc).length = (i + 1) * 3 := by rw [List.length_append, a1, hx]; omega
  have e2 : (row.take (i * 3) ++ x.enc ++ row.drop (i * 3 + 3)).take ((i + 1) * 3) = row.take (i * 3) ++ x.enc := List.take_left' a2
  have e4 : (putL xs i x).flatMap Bk.enc = (xs.take i).flatMap Bk.enc ++ x.enc ++ (xs.drop i).flatMap Bk.enc := by simp [putL]
  rw [e2, hp, e4, ← ht]
  refine List.take_left' ?_
  rw [List.length_append, a2, hd]
  omega
set_option maxHeartbeats 4000000 in
set_option maxRecDepth 100000 in
theorem insertBk_grow (base g vb i : Nat) (xs : List Bk) (x : Bk) (w : World) (h : w.ownsRow base 45 3 (.slice (some ⟨g, 0, none⟩) xs.length xs.length) xs.length (xs.flatMap Bk.enc)) (hv : Row w vb 45 x.enc) (hx : xs.length ≤ 1048576) (hi : i < xs.length) :
    Calls Try.prog 66 #[.slice (some ⟨g, 0, none⟩) xs.length xs.length, .int .i64 i, .slice (some ⟨vb, 0, none⟩) 1 1] w fun e w' => ∃ c, e = .returned (.slice (some ⟨w.heap.size, 0, none⟩) (xs.length + 1) c) ∧ Row w' w.heap.size 45 ((putL xs i x).flatMap Bk.enc) ∧ Below w.heap.size w w' := by
  obtain ⟨i0, hi0, hz0, hz1, hz2⟩ := info_parts bk_info
  obtain ⟨cur, hh, hcs, hct⟩ : ∃ cur, w.heap[g]? = some (.cells cur 45 (0, 0)) ∧ cur.size = xs.length * 3 ∧ cur.toList.take (xs.length * 3) = xs.flatMap Bk.enc := by
    rcases h.2 with ⟨h1, _⟩ | ⟨g', cap', cur, hv', _, hh, _, hm, hcs, hct⟩
    · cases h1
    · cases hv'
      exact ⟨cur, hh, hcs, hct⟩
  clear h
  have hcu : cur.toList = xs.flatMap Bk.enc := by rw [← hct, List.take_of_length_le (by simp [hcs])]
  have hvn := row_news (o := 0) hv
  have hvl := hv.lt
  have hgl : g < w.heap.size := by
    rcases Nat.lt_or_ge g w.heap.size with h | h
    · exact h
    · rw [Array.getElem?_eq_none h] at hh; cases hh
  have hgr : Row w g 45 (xs.flatMap Bk.enc) := ⟨cur, hh, by rw [hcu, List.take_length]⟩
  have hd : ((xs.drop i).flatMap Bk.enc).length = (xs.length - i) * 3 := by rw [flat_len Bk.enc_len, List.length_drop]
  have htk : ((xs.take i).flatMap Bk.enc).length = i * 3 := by rw [flat_len Bk.enc_len, List.length_take, Nat.min_eq_left (by omega)]
  obtain ⟨G, hG⟩ : ∃ G, G = grownCap w (xs.length + 1) xs.length 45 := ⟨_, rfl⟩
  have hGn : xs.length + 1 ≤ G := by rw [hG]; exact grownCap_ge w _ _ _
  have hG63 : G ≤ 9223372036854775807 := by
    have := grownCap_le_maxLen w (xs.length + 1) xs.length 45 (by unfold maxLen; omega)
    rw [← hG] at this
    unfold maxLen at this
    omega
  have hold : (Builtin.firstCells i0.size i (.slice (some ⟨g, 0, none⟩) i xs.length)).run Try.prog w.drew = .ok ((xs.take i).flatMap Bk.enc).toArray w.drew := by
    rw [hz1]
    refine run_firstCells_some w.drew 3 i ⟨g, 0, none⟩ i xs.length _ htk (fun j v hj => ?_)
    have := row_news (o := 0) hgr j v (by
      rw [List.drop_zero, ← (flat_split Bk.enc_len xs i (by omega)).1] at *
      rw [List.getElem?_take] at hj
      split at hj
      · exact hj
      · cases hj)
    exact this
  obtain ⟨z3, hz3⟩ : ∃ z3 : Value, z3 = .agg #[.int .i64 0, .int .i64 0, .int .i64 0] := ⟨_, rfl⟩
  rw [← hz3] at hz0
  obtain ⟨row, hrow⟩ : ∃ row, row = (((xs.take i).flatMap Bk.enc).toArray ++ Builtin.zeroCells z3.cells (xs.length + 1 - i) ++ Builtin.zeroCells z3.cells (G - (xs.length + 1))) := ⟨_, rfl⟩
  have hz3l : (Builtin.zeroCells z3.cells (xs.length + 1 - i)).size = (xs.length + 1 - i) * 3 := by rw [hz3]; simp [Builtin.zeroCells, Value.cells]
  have hrl : (xs.length + 1) * 3 ≤ row.toList.length := by
    rw [hrow]
    have q1 : ((Builtin.zeroCells z3.cells (xs.length + 1 - i)).toList).length = (xs.length + 1 - i) * 3 := hz3l
    rw [Array.toList_append, Array.toList_append, List.length_append, List.length_append, q1]
    show _ ≤ ((xs.take i).flatMap Bk.enc).length + _ + _
    rw [htk]
    omega
  have hrt : row.toList.take (i * 3) = (xs.take i).flatMap Bk.enc := by
    rw [hrow]
    simp only [Array.toList_append, List.append_assoc]
    exact List.take_left' htk
  have hrz : ∀ ty, (Builtin.append_ #[26, 3] ty #[.slice (some ⟨g, 0, none⟩) i xs.length, .int .i64 ((xs.length + 1 - i : Nat) : Int)]).run Try.prog w = .ok (.slice (some ⟨w.heap.size, 0, none⟩) (xs.length + 1) G) (w.drew.alloc (.cells row 45)) := fun ty => by
    have h := Lib.run_append_grow_zeros w 26 3 ty 45 i0 _ .i64 .i64 Try.underlying26 Try.underlying3 hi0 hz0 (some ⟨g, 0, none⟩) i xs.length _ hold (xs.length + 1 - i) (by omega) (by omega) (by omega) (by omega) (by rw [hz2]; omega) (by rw [hz2]; exact growslice_fits (by omega) (by omega))
    rw [show i + (xs.length + 1 - i) = xs.length + 1 by omega, ← hG, ← hrow] at h
    exact h
  obtain ⟨W1, hW1⟩ : ∃ W1, w.drew.alloc (.cells row 45) = W1 := ⟨_, rfl⟩
  have hb1 : Below w.heap.size w W1 := by rw [← hW1]; exact (Below.refl _ _).drew.alloc (Nat.le_refl _) _
  have hh1 : W1.heap[w.heap.size]? = some (.cells row 45 (0, 0)) := by rw [← hW1]; exact heap_alloc_new w.drew _
  rw [hW1] at hrz
  clear hW1
  obtain ⟨r1, hr1⟩ : ∃ r1, r1 = row.toList.take (i * 3) ++ x.enc ++ row.toList.drop (i * 3 + 3) := ⟨_, rfl⟩
  have hr1l : (xs.length + 1) * 3 ≤ r1.length := by
    rw [hr1, List.length_append, List.length_append, List.length_take, List.length_drop, Bk.enc_len]; omega
  have hcA : ∀ ty dc, (Builtin.copy_ #[26, 26] ty #[.slice (some ⟨w.heap.size, i * 3, none⟩) (xs.length + 1 - i) dc, .slice (some ⟨vb, 0, none⟩) 1 1]).run Try.prog W1 = .ok (goInt ((1 : Nat) : Int)) (W1.setRow w.heap.size r1.toArray) := fun ty dc => by
    rw [hr1]
    refine copy_run (P := Try.prog) (ds := x.enc) (m := 1) Try.underlying26 hi0 hz1 (show min _ _ = _ by omega) rfl hh1 (by rw [Bk.enc_len]; have : row.size = row.toList.length := rfl; omega) (fun j v hj => ?_) (Bk.enc_one x)
    rw [hb1.cell (p := (⟨vb, 0, none⟩ : Addr).add j) (by unfold Addr.add; split <;> simpa using hvl)]
    exact hvn j v hj
  obtain ⟨W2, hW2⟩ : ∃ W2, W1.setRow w.heap.size r1.toArray = W2 := ⟨_, rfl⟩
  have hb2 : Below w.heap.size w W2 := by rw [← hW2]; exact below_setRow hb1 (Nat.le_refl _)
  have hh2 : W2.heap[w.heap.size]? = some (.cells r1.toArray 45 (0, 0)) := by rw [← hW2]; exact setRow_at hh1
  rw [hW2] at hcA
  clear hW2
  have hcB : ∀ ty dc sc, (Builtin.copy_ #[26, 26] ty #[.slice (some ⟨w.heap.size, (i + 1) * 3, none⟩) (xs.length - i) dc, .slice (some ⟨g, i * 3, none⟩) (xs.length - i) sc]).run Try.prog W2.drew = .ok (goInt ((xs.length - i : Nat) : Int)) (W2.drew.setRow w.heap.size (r1.take ((i + 1) * 3) ++ (xs.drop i).flatMap Bk.enc ++ r1.drop ((i + 1) * 3 + ((xs.drop i).flatMap Bk.enc).length)).toArray) := fun ty dc sc => by
    refine copy_run (P := Try.prog) (w := W2.drew) (arr := r1.toArray) (ds := (xs.drop i).flatMap Bk.enc) (m := xs.length - i) Try.underlying26 hi0 hz1 (show min _ _ = _ by omega) hd hh2 (by rw [hd]; simp; omega) (fun j v hj => ?_) (flat_one Bk.enc_one)
    have h8 : W2.cell? ((⟨g, i * 3, none⟩ : Addr).add j) = some v := by
      rw [hb2.cell (p := (⟨g, i * 3, none⟩ : Addr).add j) (by unfold Addr.add; split <;> simpa using hgl)]
      exact row_news hgr j v (by rw [(flat_split Bk.enc_len xs i (by omega)).2]; exact hj)
    exact h8
  have hfin := grow_cells (x := x) hi hrl hrt
  rw [← hr1] at hfin
  have hR : Row (W2.drew.setRow w.heap.size (r1.take ((i + 1) * 3) ++ (xs.drop i).flatMap Bk.enc ++ r1.drop ((i + 1) * 3 + ((xs.drop i).flatMap Bk.enc).length)).toArray) w.heap.size 45 ((putL xs i x).flatMap Bk.enc) := heap_row (setRow_at (w := W2.drew) hh2) hfin
  have hB : Below w.heap.size w (W2.drew.setRow w.heap.size (r1.take ((i + 1) * 3) ++ (xs.drop i).flatMap Bk.enc ++ r1.drop ((i + 1) * 3 + ((xs.drop i).flatMap Bk.enc).length)).toArray) := below_setRow hb2.drew (Nat.le_refl _)
  obtain ⟨W3, hW3⟩ : ∃ W3, (W2.drew.setRow w.heap.size (r1.take ((i + 1) * 3) ++ (xs.drop i).flatMap Bk.enc ++ r1.drop ((i + 1) * 3 + ((xs.drop i).flatMap Bk.enc).length)).toArray) = W3 := ⟨_, rfl⟩
  rw [hW3] at hcB
  simp only [hW3] at hR hB
  have HR := Lib.hid hR
  have HB := Lib.hid hB
  have hkk : (xs.length : Int) + 1 - i = ((xs.length + 1 - i : Nat) : Int) := by omega
  rw [← hkk] at hrz
  have hkw : IntKind.i64.wrap ((xs.length : Int) + 1 - i) = (xs.length : Int) + 1 - i := by rw [IntKind.wrap_i64]; omega
  clear hR hB hW3 hfin hr1 hr1l hrl hrt hrow hz3l hz3 hold hb1 hh1 hb2 hh2 hd htk hvn hcu hct hcs hh hgr hi0 hz0 hz1 hz2 hG hkk hv
  have hcap1 : (xs.length : Int) < (xs.length : Int) + 1 := by omega
  have hn1 : ¬ ((i : Int) = xs.length) := by omega
  have hq1 : IntKind.i64.wrap ((i : Int) + 1) = (i : Int) + 1 := by rw [IntKind.wrap_i64]; omega
  have hq2 : (0 : Int) ≤ (i : Int) + 1 := by omega
  have hq3 : ((i : Int) + 1).toNat = i + 1 := by omega
  have hq4 : ¬ (G = i + 1) := by omega
  have hq5 : ¬ (G = i) := by omega
  have hq13 : ¬ (xs.length = i) := by omega
  have hq6 : IntKind.i64.wrap ((xs.length : Int) + 1) = (xs.length : Int) + 1 := by rw [IntKind.wrap_i64]; omega
  have hq8 : (i : Int) + 1 ≤ (xs.length : Int) + 1 := by omega
  have hq10 : (i : Int) ≤ xs.length := by omega
  have hq12 : (i : Int) ≤ (xs.length : Int) + 1 := by omega
  have mixed : Try.prog.follows .mixedOrders = true := by kernel_rfl
  go_enter Try.func66, Try.ntmps66
  go_wp2_with (first
    | (at_builtin; refine Lib.wpList_append_run _ rfl _ _ _ _ rfl _ _ rfl rfl _ _ (hrz _) ?_)
    | (at_builtin; refine wpList_copy_runI _ rfl _ _ 26 26 rfl _ _ rfl rfl (hcA _ _) ?_))
  go_region_law_o (refine step_copy_runI rfl _ _ 26 26 rfl _ _ (by simp [Act.eval, Act.put]) (by simp [Act.eval, Act.put]) (hcB _ _ _) ?_)
  go_wp2
  go_ret
  exact ⟨G, rfl, HR.out, HB.out⟩
end Go.Proofs.Ytkhldmicejdggaa
