/- The contract of spec.PutBooking (chapter 20). -/
import Derived.Test.YtkhldmicejdggaaPutI
import Derived.Deep.RegionHeld3
set_option linter.unusedSimpArgs false
set_option linter.unusedVariables false
namespace Go.Proofs.Ytkhldmicejdggaa
open Go.RowKit Go.Sort Go.Salt
attribute [local go_sem] cell_rg
def IntV (u : Value) : Prop := ∃ z : Int, u = .int .i64 z ∧ -9223372036854775808 ≤ z ∧ z ≤ 9223372036854775807
/-- All cells of a slice's own block are ints. -/
def BlkInts (w : World) (v : Value) : Prop := ∀ g, v.ownBlock = some g → ∃ arr e, w.heap[g]? = some (.cells arr e (0, 0)) ∧ ∀ u ∈ arr.toList, IntV u
theorem BlkInts.to {w w' : World} {v : Value} (h : BlkInts w v) (hb : Below w.heap.size w w') : BlkInts w' v := fun g hg => by
  obtain ⟨arr, e, h1, h2⟩ := h g hg
  have hlt : g < w.heap.size := (Array.getElem?_eq_some_iff.1 h1).1
  exact ⟨arr, e, (hb.block g hlt).trans h1, h2⟩
theorem BlkInts.empty {w : World} {g : Nat} {e : TypeId} (n c : Nat) (h : w.heap[g]? = some (.cells #[] e (0, 0))) : BlkInts w (.slice (some ⟨g, 0, none⟩) n c) := fun k hk => by
  obtain rfl : g = k := by simpa [Value.ownBlock] using hk
  exact ⟨#[], e, h, fun u hu => by simp at hu⟩
theorem ints_zero {z : Array Value} (hz : ∀ u ∈ z.toList, IntV u) (n : Nat) : ∀ u ∈ (Builtin.zeroCells z n).toList, IntV u := fun u hu => by
  unfold Builtin.zeroCells at hu
  obtain ⟨i, hi, rfl⟩ := Array.mem_map.1 (Array.mem_toList_iff.1 hu)
  have hlt : i < n * z.size := by simpa using hi
  have hp : 0 < z.size := by
    rcases Nat.eq_zero_or_pos z.size with h | h
    · rw [h] at hlt; omega
    · exact h
  have hm : i % z.size < z.size := Nat.mod_lt _ hp
  have e : z[i % z.size]! = z[i % z.size] := by simp [hm]
  rw [e]
  exact hz _ (Array.mem_toList_iff.2 (Array.getElem_mem hm))
/-- What an append onto a row of one's own leaves: ints, if all was ints. -/
theorem append_ints {P : Program} {w : World} (base : Nat) (t ty e : TypeId) (i : TypeInfo) (z : Value) (size bytes : Nat) (ht : P.underlying t = some (.slice e)) (hi : P.info? e = some i) (hz : i.zero = some z)
    (hsize : i.size = size) (hby : i.bytes = bytes) (hsz : 0 < size)
    (v : Value) (n : Nat) (xs : List Value) (hown : w.ownsRow base e size v n xs) (hI : BlkInts w v) (hzi : ∀ u ∈ z.cells.toList, IntV u)
    (a : Addr) (m c : Nat) (news : List Value) (hl : news.length = m * size) (hnews : ∀ j u, news[j]? = some u → w.cell? (a.add j) = some u) (h1 : ∀ u ∈ news, u.oneCell' = true) (hni : ∀ u ∈ news, IntV u)
    (h63 : n + m ≤ maxLen) (hbytes : (n + m) * bytes ≤ 140737488355328) {v' : Value} {w' : World} (hr : (Builtin.append_ #[t, t] ty #[v, .slice (some a) m c]).run P w = .ok v' w') : BlkInts w' v' := by
  subst hsize
  subst hby
  have hsmall : n + m ≤ 9223372036854775807 := by simp only [maxLen] at h63; omega
  have fin : ∀ {u : Value} {x : World}, (Builtin.append_ #[t, t] ty #[v, .slice (some a) m c]).run P w = .ok u x → BlkInts x u → BlkInts w' v' := fun h hb => by
    rw [h] at hr
    injection hr with h1 h2
    subst h1; subst h2; exact hb
  rcases hown.2 with ⟨rfl, rfl⟩ | ⟨g, cap, cur, rfl, hbg, hg, hnc, hcm, hcs, htake⟩
  · by_cases hm : m = 0
    · subst hm
      have hn : news = [] := List.eq_nil_of_length_eq_zero (by simpa using hl)
      subst hn
      refine fin (u := .slice none 0 0) (x := w) ?_ (fun k hk => by simp [Value.ownBlock] at hk)
      simp [Builtin.append_, run_underlying ht, sizeOf, typeInfo, hi, Builtin.lenOf, Builtin.firstCells, loadCells, loadCellsFrom]
    · refine fin (run_append_nil (P := P) w t ty e i z ht hi hz a m c news hl hnews (by omega) (by omega) (by have hb := hbytes; simp only [Nat.zero_add] at hb; omega)) (fun k hk => ?_)
      obtain rfl : w.heap.size = k := by simpa [Value.ownBlock] using hk
      refine ⟨_, _, heap_alloc_new w.drew _, fun u hu => ?_⟩
      simp only [Array.toList_append, List.mem_append] at hu
      rcases hu with hu | hu
      · exact hni u hu
      · exact ints_zero hzi _ u hu
  · obtain ⟨arr, e', ha, hall⟩ := hI g rfl
    rw [hg] at ha
    obtain ⟨rfl, rfl⟩ : cur = arr ∧ e = e' := by simpa using ha
    by_cases hroom : n + m ≤ cap
    · have hfit : n * i.size + news.length ≤ cur.size := by rw [hl, hcs, ← Nat.add_mul]; exact Nat.mul_le_mul_right _ hroom
      refine fin (run_append_room (P := P) w t ty e i ht hi g n cap cur hg a m c news hl hnews h1 hroom hfit) (fun k hk => ?_)
      obtain rfl : g = k := by simpa [Value.ownBlock] using hk
      refine ⟨_, _, setRow_heap w g cur _ e _ hg, fun u hu => ?_⟩
      simp only [List.mem_append] at hu
      rcases hu with (hu | hu) | hu
      · exact hall u (List.mem_of_mem_take hu)
      · exact hni u hu
      · exact hall u (List.mem_of_mem_drop hu)
    · have holds : ∀ j u, xs[j]? = some u → w.cell? ((⟨g, 0, none⟩ : Addr).add j) = some u := hown.cells (g := g) rfl
      refine fin (run_append_grow (P := P) w t ty e i z ht hi hz ⟨g, 0, none⟩ n cap xs hown.1 holds a m c news hl hnews (by omega) (by omega) (growslice_fits (by omega) hbytes)) (fun k hk => ?_)
      obtain rfl : w.heap.size = k := by simpa [Value.ownBlock] using hk
      refine ⟨_, _, heap_alloc_new w.drew _, fun u hu => ?_⟩
      simp only [Array.toList_append, List.mem_append] at hu
      rcases hu with (hu | hu) | hu
      · rw [← htake] at hu
        exact hall u (List.mem_of_mem_take (by simpa using hu))
      · exact hni u (by simpa using hu)
      · exact ints_zero hzi _ u hu
theorem step_append_b {P : Program} {W0 w : World} {ops : Array Oper} {o : Oper} {a : Act} {K : Act → World → Prop} {Q : Exit → Act → World → Prop} {E : Prop} (hgd : o.guard = none) (s x : Operand) (t : TypeId)
    (ho : o.op = .call { callee := .builtin .append, args := #[s, x], argTypes := #[t, t] })
    (base : Nat) (e : TypeId) (i : TypeInfo) (z : Value) (size bytes : Nat) (ht : P.underlying t = some (.slice e)) (hi : P.info? e = some i) (hz : i.zero = some z)
    (hsize : i.size = size) (hby : i.bytes = bytes) (hzs : z.cells.size = size) (hsz : 0 < size)
    (v : Value) (n : Nat) (xs : List Value) (hs : a.eval s = v) (hown : w.ownsRow base e size v n xs ∧ BlkInts w v) (hzi : ∀ u ∈ z.cells.toList, IntV u) (hbel : Below base W0 w)
    (ad : Addr) (X : Option Addr) (m c : Nat) (news : List Value) (hx : a.eval x = .slice X m c) (hX : X = some ad) (hl : news.length = m * size) (hnews : ∀ j u, news[j]? = some u → w.cell? (ad.add j) = some u) (h1 : ∀ u ∈ news, IntV u)
    (h63 : n + m ≤ maxLen) (hbytes : (n + m) * bytes ≤ 140737488355328) (hbase : base ≤ w.heap.size)
    (h : ∀ v' w', w'.ownsRow base e size v' (n + m) (xs ++ news) ∧ BlkInts w' v' → Below base W0 w' → w.grownBy w' v.ownBlock → K (a.put o.dst v') w') :
    if Region.wanted o (yielded ops a.tmps) = true then Oper.wp P o a w K Q else E := by
  subst hX
  rw [if_pos (by simp [Region.wanted, hgd])]
  have h1' : ∀ u ∈ news, u.oneCell' = true := fun u hu => by obtain ⟨z, rfl, _⟩ := h1 u hu; rfl
  obtain ⟨v', w', hr, g2, g3, g4⟩ := run_append_own (P := P) w base t o.type e i z size bytes ht hi hz hsize hby hzs hsz v n xs hown.1 ad m c news hl hnews h1' h63 hbytes hbase
  have hty := append_ints base t o.type e i z size bytes ht hi hz hsize hby hsz v n xs hown.1 hown.2 hzi ad m c news hl hnews h1' h1 h63 hbytes hr
  unfold Oper.wp execOp
  simp only [ho, resolve, invoke, builtin, Sem.run_bind, Sem.run_pure, Result.andThen_ok, List.map_toArray, List.map_cons, List.map_nil, hs, hx, hr]
  exact h v' w' ⟨g2, hty⟩ (own_grew hown.1 hbel hbase g3) g3
theorem own_int {W : World} {base size n : Nat} {E : TypeId} {v : Value} {cs : List Value} {W' : World} (h : W.ownsRow base E size v n cs ∧ BlkInts W v) (hb : Below W.heap.size W W') : W'.ownsRow base E size v n cs ∧ BlkInts W' v := ⟨own_to h.1 hb, h.2.to hb⟩
theorem int_lit {z : Int} (h1 : -9223372036854775808 ≤ z) (h2 : z ≤ 9223372036854775807) : IntV (.int .i64 z) := ⟨z, rfl, h1, h2⟩
/-- The elements of valid bookings are ints. -/
theorem bks_ints {xs : List Bk} (h : bksOK xs = true) : ∀ u ∈ xs.flatMap Bk.enc, IntV u := fun u hu => by
  obtain ⟨x, hx, hu⟩ := List.mem_flatMap.1 hu
  obtain ⟨i, hi, rfl⟩ := List.mem_iff_getElem.1 hx
  have hb := bkAt_bd ((bksOK_bd h).2 i hi)
  rw [el_get hi] at hb
  simp only [Bk.enc, List.mem_cons, List.not_mem_nil, or_false] at hu
  rcases hu with rfl | rfl | rfl <;> exact int_lit (by omega) (by omega)
theorem ints_take {xs : List Bk} (h : ∀ u ∈ xs.flatMap Bk.enc, IntV u) (i : Nat) : ∀ u ∈ (xs.take i).flatMap Bk.enc, IntV u := fun u hu => by
  obtain ⟨x, hx, hu⟩ := List.mem_flatMap.1 hu
  exact h u (List.mem_flatMap.2 ⟨x, List.mem_of_mem_take hx, hu⟩)
theorem ints_drop {xs : List Bk} (h : ∀ u ∈ xs.flatMap Bk.enc, IntV u) (i : Nat) : ∀ u ∈ (xs.drop i).flatMap Bk.enc, IntV u := fun u hu => by
  obtain ⟨x, hx, hu⟩ := List.mem_flatMap.1 hu
  exact h u (List.mem_flatMap.2 ⟨x, List.mem_of_mem_drop hx, hu⟩)
/-- What spec.PutBooking leaves: a row that is not nil, its block all ints. -/
def PbI (w : World) (xs : List Bk) (x : Bk) (e : Ending) (w' : World) : Prop := ∃ g c arr, e = .returned (.tuple #[.slice (some ⟨g, 0, none⟩) (pbL xs x).length c, .bool (pbB xs x)]) ∧ w.heap.size ≤ g ∧ w'.heap[g]? = some (.cells arr 45 (0, 0)) ∧ arr.size = c * 3 ∧ (pbL xs x).length ≤ c ∧ arr.toList.take ((pbL xs x).length * 3) = (pbL xs x).flatMap Bk.enc ∧ (∀ u ∈ arr.toList, IntV u) ∧ Below w.heap.size w w'
theorem PbI.at {w w' : World} {xs : List Bk} {x : Bk} {e : Ending} (h : PbI w xs x e w') : PbAt w xs x e w' := by
  obtain ⟨g, c, arr, rfl, hg, hh, _, _, ht, _, hb⟩ := h
  exact ⟨_, c, rfl, OwnAt.row hg ⟨arr, hh, by rw [flat_len Bk.enc_len]; exact ht⟩, hb⟩
theorem pb_noI {w w' : World} {xs : List Bk} {x : Bk} (h : pbB xs x = false) (hg : w.heap.size ≤ w'.heap.size) (hb : Below w.heap.size w w') : PbI w xs x (.returned (.tuple #[.slice (some ⟨w'.heap.size, 0, none⟩) 0 0, .bool false])) (w'.alloc (.cells #[] 45)) := by
  have e1 : pbL xs x = [] := by simp [pbL, h]
  refine ⟨w'.heap.size, 0, #[], by rw [e1, h]; rfl, hg, heap_alloc_new _ _, rfl, by rw [e1]; exact Nat.le_refl _, by rw [e1]; rfl, fun u hu => by simp at hu, hb.alloc hg _⟩
theorem pb_yesI {w wc w' : World} {xs : List Bk} {x : Bk} {g c : Nat} (h : pbB xs x = true) (hg : w.heap.size ≤ g) (ho : wc.ownsRow w.heap.size 45 3 (.slice (some ⟨g, 0, none⟩) (xs.length + 1) c) (xs.length + 1) ((putL xs (pbK xs x) x).flatMap Bk.enc) ∧ BlkInts wc (.slice (some ⟨g, 0, none⟩) (xs.length + 1) c)) (hb7 : Below wc.heap.size wc w') (hb : Below w.heap.size w w') : PbI w xs x (.returned (.tuple #[.slice (some ⟨g, 0, none⟩) (xs.length + 1) c, .bool true])) w' := by
  have e1 : pbL xs x = putL xs (pbK xs x) x := by simp [pbL, h]
  have e2 : (pbL xs x).length = xs.length + 1 := by rw [e1, putL_len (pbK_le xs x)]
  obtain ⟨arr, e, ha, hall⟩ := ho.2 g rfl
  rcases ho.1.2 with ⟨h1, _⟩ | ⟨g', cap, cur, hv, hbg, hh, hnc, hcm, hcs, htake⟩
  · cases h1
  · cases hv
    rw [hh] at ha
    obtain ⟨rfl, rfl⟩ : cur = arr ∧ _ = e := by simpa using ha
    refine ⟨g, c, cur, by rw [e2, h], hg, (hb7.block g (Array.getElem?_eq_some_iff.1 hh).1).trans hh, hcs, by omega, by rw [e2, e1]; exact htake, hall, hb⟩
theorem own_emp {W : World} {base g : Nat} {E : TypeId} (hg : base ≤ g) (h : W.heap[g]? = some (.cells #[] E (0, 0))) : W.ownsRow base E 3 (.slice (some ⟨g, 0, none⟩) 0 0) 0 [] ∧ BlkInts W (.slice (some ⟨g, 0, none⟩) 0 0) := ⟨own_empty 3 hg h, BlkInts.empty 0 0 h⟩
def PutOut (w : World) (xs : List Bk) (i : Nat) (x : Bk) (u : Value) (wx : World) : Prop := (wx.ownsRow w.heap.size 45 3 u (xs.length + 1) ((putL xs i x).flatMap Bk.enc) ∧ BlkInts wx u) ∧ Below w.heap.size w wx
theorem put_out {w wx : World} {xs : List Bk} {i : Nat} {x : Bk} {u : Value} {n : Nat} (hi : i ≤ xs.length) (h : wx.ownsRow w.heap.size 45 3 u n ([] ++ (xs.take i).flatMap Bk.enc ++ x.enc ++ (xs.drop i).flatMap Bk.enc)) (hI : BlkInts wx u) (hn : n = 0 + i + 1 + (xs.length - i)) (hb : Below w.heap.size w wx) : PutOut w xs i x u wx := by
  refine ⟨⟨?_, hI⟩, hb⟩
  have e1 : n = xs.length + 1 := by omega
  have e2 : (putL xs i x).flatMap Bk.enc = [] ++ (xs.take i).flatMap Bk.enc ++ x.enc ++ (xs.drop i).flatMap Bk.enc := by simp [putL]
  rw [e2, ← e1]; exact h
set_option maxRecDepth 100000 in
set_option maxHeartbeats 8000000 in
theorem sPutBooking_any (b o c : Nat) (xs : List Bk) (d k q : Int) (w : World) (h : Rd w w.heap.size (some ⟨b, o, none⟩) 3 Bk.enc xs) (hx : xs.length ≤ 1048576) (hcc : xs.length ≤ c) (hw : IntV (.int .i64 d) ∧ IntV (.int .i64 k) ∧ IntV (.int .i64 q)) :
    Calls Try.prog 32 #[.slice (some ⟨b, o, none⟩) xs.length c, .agg #[.int .i64 d, .int .i64 k, .int .i64 q]] w fun e w' => PbI w xs ⟨d, k, q⟩ e w' := by
  replace hw := Lib.hid hw
  cases hG : bksOK xs
  · have Hno := Lib.hid (show pbB xs ⟨d, k, q⟩ = false by simp [pbB, hG])
    go_enter Try.func32, Try.ntmps32
    go_wp2_with fail
    (go_at_call 59; refine (l20Good_any _ _ _ _ (h.to (by repeat' (first | (with_reducible exact Below.refl _ _) | (with_reducible refine Below.alloc ?_ ?_ _) | (with_reducible refine Below.setCell ?_ ?_ _) | (with_reducible refine Below.drew ?_) | (with_reducible refine Below.trans ?_ (Below.mono (by with_reducible assumption) ?_)) | omega | (simp; done) | (simp; omega)))) (by omega)).mono ?_; rintro e w1 ⟨rfl, hb1⟩)
    (have hs1 := hb1.size; (try simp at hs1); obtain ⟨hc1, hf1, hn1⟩ := bcell hb1; (try have hz1_w_0 : w.heap.size < w1.heap.size := by omega); (try have hz1_w_1 : w.heap.size + 1 < w1.heap.size := by omega); (try have hz1_w_2 : w.heap.size + 2 < w1.heap.size := by omega); (try have hz1_w_2b : w.heap.size + 1 + 1 < w1.heap.size := by omega))
    go_wp2_with fail
    go_ret2
    exact pb_noI Hno.out (by omega) (by repeat' (first | (with_reducible exact Below.refl _ _) | (with_reducible refine Below.alloc ?_ ?_ _) | (with_reducible refine Below.setCell ?_ ?_ _) | (with_reducible refine Below.drew ?_) | (with_reducible refine Below.trans ?_ (Below.mono (by with_reducible assumption) ?_)) | omega | (simp; done) | (simp; omega)))
  · have HG := Lib.hid hG
    have hx20 := (bksOK_bd hG).1
    go_enter Try.func32, Try.ntmps32
    go_wp2_with fail
    (go_at_call 59; refine (l20Good_any _ _ _ _ (h.to (by repeat' (first | (with_reducible exact Below.refl _ _) | (with_reducible refine Below.alloc ?_ ?_ _) | (with_reducible refine Below.setCell ?_ ?_ _) | (with_reducible refine Below.drew ?_) | (with_reducible refine Below.trans ?_ (Below.mono (by with_reducible assumption) ?_)) | omega | (simp; done) | (simp; omega)))) (by omega)).mono ?_; rintro e w1 ⟨rfl, hb1⟩)
    (have hs1 := hb1.size; (try simp at hs1); obtain ⟨hc1, hf1, hn1⟩ := bcell hb1; (try have hz1_w_0 : w.heap.size < w1.heap.size := by omega); (try have hz1_w_1 : w.heap.size + 1 < w1.heap.size := by omega); (try have hz1_w_2 : w.heap.size + 2 < w1.heap.size := by omega); (try have hz1_w_2b : w.heap.size + 1 + 1 < w1.heap.size := by omega))
    go_upto_block 0 with (fail)
    have hr0 : Row w1 w.heap.size 45 [.int .i64 d, .int .i64 k, .int .i64 q] := (Row.new w _ #[.int .i64 d, .int .i64 k, .int .i64 q]).to (by repeat' (first | (with_reducible exact Below.refl _ _) | (with_reducible refine Below.alloc ?_ ?_ _) | (with_reducible refine Below.setCell ?_ ?_ _) | (with_reducible refine Below.drew ?_) | (with_reducible refine Below.trans ?_ (Below.mono (by with_reducible assumption) ?_)) | omega | (simp; done) | (simp; omega)))
    have hb0 : Below w.heap.size w w1 := (by repeat' (first | (with_reducible exact Below.refl _ _) | (with_reducible refine Below.alloc ?_ ?_ _) | (with_reducible refine Below.setCell ?_ ?_ _) | (with_reducible refine Below.drew ?_) | (with_reducible refine Below.trans ?_ (Below.mono (by with_reducible assumption) ?_)) | omega | (simp; done) | (simp; omega)))
    go_cut [6] from 8 (fun u wx => PutLoop w xs d k q u wx)
    case first =>
      go_wp2_with fail
      go_loopw [6] (fun ix wr => ∃ i : Nat, i ≤ xs.length ∧ ix = .int .i64 i ∧ Hid (∀ j, i ≤ j → j < xs.length → aft xs ⟨d, k, q⟩ j = true) ∧ Below w.heap.size w wr ∧ Row wr w.heap.size 45 [.int .i64 d, .int .i64 k, .int .i64 q]) (fun ix _ => (intOf ix).toNat)
      case atStart => exact ⟨xs.length, Nat.le_refl _, rfl, Lib.hid (fun j hj => by omega), hb0, hr0⟩
      case round =>
        clear hr0 hb0 hb1 hs1
        obtain ⟨i, hi, rfl, hall, hb, hbx⟩ := hrel
        have hs := hb.size
        by_cases hlt : 0 < i
        · obtain ⟨b', o', hadr, hB, e0, e1, e2⟩ := bk_cells (h.below hb) (show i - 1 < xs.length by omega)
          obtain ⟨rfl, rfl⟩ : b = b' ∧ o = o' := by simpa using hadr
          clear hadr
          have hB1 : b < wr.heap.size := by omega
          have hI0 : (0 : Int) ≤ (i : Int) - 1 := by omega
          have hI : (i : Int) - 1 < xs.length := by omega
          have hI1 : (1 : Int) ≤ i := by omega
          have hwr : IntKind.i64.wrap ((i : Int) - 1) = (i : Int) - 1 := IntWalk.i64_in _ (by omega)
          have htn : ((i : Int) - 1).toNat = i - 1 := by omega
          cases hA : bkAft (el xs (i - 1)).d (el xs (i - 1)).k d k
          · have hK := Lib.hid (pbK_back (x := ⟨d, k, q⟩) HG.out hi hall.out (fun _ => hA))
            obtain ⟨c0, c1, c2⟩ := row3b hbx
            have hzB := hbx.lt
            go_wp2_with fail
            refine wp_region_quiet_below (by kernel_rfl) (by kernel_rfl) ?_
            repeat (go_big_quiet_step ((first | (go_at_call 63; exact Calls.regrown_of (l20After_any _ _ _ _ _ _ _)))))
            (refine wpQuiet_nil ?_; intro w1 hwq; have hb1 := of_cls hwq; clear hwq)
            (have hs1 := hb1.size; (try simp at hs1); obtain ⟨hc1, hf1, hn1⟩ := bcell hb1; (try have hz1_wr_0 : wr.heap.size < w1.heap.size := by omega); (try have hz1_wr_1 : wr.heap.size + 1 < w1.heap.size := by omega); (try have hz1_wr_2 : wr.heap.size + 2 < w1.heap.size := by omega); (try have hB1 : b < w1.heap.size := by omega); (try have hB2 : b' < w1.heap.size := by omega); (try have hz1_wr_2b : wr.heap.size + 1 + 1 < w1.heap.size := by omega); (try have hz1_w_0 : w.heap.size < w1.heap.size := by omega); (try have hz1_w_1 : w.heap.size + 1 < w1.heap.size := by omega); (try have hz1_w_2 : w.heap.size + 2 < w1.heap.size := by omega); (try have hz1_w_2b : w.heap.size + 1 + 1 < w1.heap.size := by omega))
            go_wp2_with fail
            go_meet
            exact ⟨i, hi, rfl, hK, (by repeat' (first | (with_reducible exact Below.refl _ _) | (with_reducible refine Below.alloc ?_ ?_ _) | (with_reducible refine Below.setCell ?_ ?_ _) | (with_reducible refine Below.drew ?_) | (with_reducible refine Below.trans ?_ (Below.mono (by with_reducible assumption) ?_)) | omega | (simp; done) | (simp; omega))), hbx.to (by repeat' (first | (with_reducible exact Below.refl _ _) | (with_reducible refine Below.alloc ?_ ?_ _) | (with_reducible refine Below.setCell ?_ ?_ _) | (with_reducible refine Below.drew ?_) | (with_reducible refine Below.trans ?_ (Below.mono (by with_reducible assumption) ?_)) | omega | (simp; done) | (simp; omega)))⟩
          · have Hat := Lib.hid (show aft xs ⟨d, k, q⟩ (i - 1) = true from hA)
            obtain ⟨c0, c1, c2⟩ := row3b hbx
            have hzB := hbx.lt
            go_wp2_with fail
            refine wp_region_quiet_below (by kernel_rfl) (by kernel_rfl) ?_
            repeat (go_big_quiet_step ((first | (go_at_call 63; exact Calls.regrown_of (l20After_any _ _ _ _ _ _ _)))))
            (refine wpQuiet_nil ?_; intro w1 hwq; have hb1 := of_cls hwq; clear hwq)
            (have hs1 := hb1.size; (try simp at hs1); obtain ⟨hc1, hf1, hn1⟩ := bcell hb1; (try have hz1_wr_0 : wr.heap.size < w1.heap.size := by omega); (try have hz1_wr_1 : wr.heap.size + 1 < w1.heap.size := by omega); (try have hz1_wr_2 : wr.heap.size + 2 < w1.heap.size := by omega); (try have hB1 : b < w1.heap.size := by omega); (try have hB2 : b' < w1.heap.size := by omega); (try have hz1_wr_2b : wr.heap.size + 1 + 1 < w1.heap.size := by omega); (try have hz1_w_0 : w.heap.size < w1.heap.size := by omega); (try have hz1_w_1 : w.heap.size + 1 < w1.heap.size := by omega); (try have hz1_w_2 : w.heap.size + 2 < w1.heap.size := by omega); (try have hz1_w_2b : w.heap.size + 1 + 1 < w1.heap.size := by omega))
            clear hwr htn
            go_wp2_with fail
            go_roundw
            case rel => exact ⟨i - 1, by omega, by go_num, Lib.hid (fun j hj hj2 => by
                              by_cases hij : i ≤ j
                              · exact hall.out j hij hj2
                              · obtain rfl : j = i - 1 := by omega
                                exact Hat.out), (by repeat' (first | (with_reducible exact Below.refl _ _) | (with_reducible refine Below.alloc ?_ ?_ _) | (with_reducible refine Below.setCell ?_ ?_ _) | (with_reducible refine Below.drew ?_) | (with_reducible refine Below.trans ?_ (Below.mono (by with_reducible assumption) ?_)) | omega | (simp; done) | (simp; omega))), hbx.to (by repeat' (first | (with_reducible exact Below.refl _ _) | (with_reducible refine Below.alloc ?_ ?_ _) | (with_reducible refine Below.setCell ?_ ?_ _) | (with_reducible refine Below.drew ?_) | (with_reducible refine Below.trans ?_ (Below.mono (by with_reducible assumption) ?_)) | omega | (simp; done) | (simp; omega)))⟩
            case measure => simp [intOf]; omega
        · obtain rfl : i = 0 := by omega
          have hK := Lib.hid (pbK_back (x := ⟨d, k, q⟩) HG.out hi hall.out (fun hc => absurd hc (by omega)))
          obtain ⟨c0, c1, c2⟩ := row3b hbx
          have hzB := hbx.lt
          go_wp2_with fail
          refine wp_region_quiet_below (by kernel_rfl) (by kernel_rfl) ?_
          repeat (go_big_quiet_step (fail))
          (refine wpQuiet_nil ?_; intro w1 hwq; have hb1 := of_cls hwq; clear hwq)
          (have hs1 := hb1.size; (try simp at hs1); obtain ⟨hc1, hf1, hn1⟩ := bcell hb1; (try have hz1_wr_0 : wr.heap.size < w1.heap.size := by omega); (try have hz1_wr_1 : wr.heap.size + 1 < w1.heap.size := by omega); (try have hz1_wr_2 : wr.heap.size + 2 < w1.heap.size := by omega); (try have hB1 : b < w1.heap.size := by omega); (try have hB2 : b' < w1.heap.size := by omega); (try have hz1_wr_2b : wr.heap.size + 1 + 1 < w1.heap.size := by omega); (try have hz1_w_0 : w.heap.size < w1.heap.size := by omega); (try have hz1_w_1 : w.heap.size + 1 < w1.heap.size := by omega); (try have hz1_w_2 : w.heap.size + 2 < w1.heap.size := by omega); (try have hz1_w_2b : w.heap.size + 1 + 1 < w1.heap.size := by omega))
          go_wp2_with fail
          go_meet
          exact ⟨0, hi, rfl, hK, (by repeat' (first | (with_reducible exact Below.refl _ _) | (with_reducible refine Below.alloc ?_ ?_ _) | (with_reducible refine Below.setCell ?_ ?_ _) | (with_reducible refine Below.drew ?_) | (with_reducible refine Below.trans ?_ (Below.mono (by with_reducible assumption) ?_)) | omega | (simp; done) | (simp; omega))), hbx.to (by repeat' (first | (with_reducible exact Below.refl _ _) | (with_reducible refine Below.alloc ?_ ?_ _) | (with_reducible refine Below.setCell ?_ ?_ _) | (with_reducible refine Below.drew ?_) | (with_reducible refine Below.trans ?_ (Below.mono (by with_reducible assumption) ?_)) | omega | (simp; done) | (simp; omega)))⟩
    case rest =>
      clear hr0 hb0 hb1 hs1
      obtain ⟨i, hi, rfl, hK, hbw1, hbx⟩ := hcut
      go_upto_region 6 with (fail)
      obtain ⟨i0, hi0, hz0, hz1, hz2⟩ := info_parts bk_info
      have hinfo := Lib.hid (And.intro hi0 (And.intro hz0 (And.intro hz1 hz2)))
      have hzi : Hid (∀ u ∈ (Value.agg #[.int .i64 0, .int .i64 0, .int .i64 0]).cells.toList, IntV u) := Lib.hid (fun u hu => by
        simp [Value.cells] at hu
        subst hu; exact int_lit (by omega) (by omega))
      have hx3 : Hid (∀ u ∈ ([.int .i64 d, .int .i64 k, .int .i64 q] : List Value), IntV u) := Lib.hid (fun u hu => by
        simp only [List.mem_cons, List.not_mem_nil, or_false] at hu
        rcases hu with rfl | rfl | rfl
        · exact hw.out.1
        · exact hw.out.2.1
        · exact hw.out.2.2)
      clear hi0 hz0 hz1 hz2
      have hcc2 : (xs.length : Int) ≤ c := by omega
      have hic : i ≤ c := by omega
      have hic0 : (0 : Int) ≤ (i : Int) := by omega
      have hic1 : (i : Int) ≤ xs.length := by omega
      have hic2 : (i : Int) ≤ c := by omega
      have hic3 : i ≤ xs.length := by omega
      have hsw := hbw1.size
      have hzB := hbx.lt
      have hrd := Lib.hid (h.below hbw1)
      obtain ⟨c0, c1, c2⟩ := row3b hbx
      by_cases hci : i = c
      · have hlen0 := Lib.hid (show xs.length - i = 0 by omega)
        subst hci
        go_cut [7] from 8 (fun u wx => PutOut w xs i ⟨d, k, q⟩ u wx)
        case first =>
          go_region_held3 (fun W => W.cell? ⟨w.heap.size, 0, none⟩ = some (.int .i64 d) ∧ W.cell? ⟨w.heap.size, 1, none⟩ = some (.int .i64 k) ∧ W.cell? ⟨w.heap.size, 2, none⟩ = some (.int .i64 q))
            (first | (exact row3b (hbx.to (by repeat' (first | (with_reducible exact Below.refl _ _) | (with_reducible refine Below.alloc ?_ ?_ _) | (with_reducible refine Below.setCell ?_ ?_ _) | (with_reducible refine Below.drew ?_) | (with_reducible refine Below.trans ?_ (Below.mono (by with_reducible assumption) ?_)) | omega | (simp; done) | (simp; omega))))) | go_keep)
            (first
              | (refine step_append_b (by rfl) (.tmp 27) _ _ (by rfl) wc.heap.size 45 i0 _ 3 24 Try.underlying26 hinfo.out.1 hinfo.out.2.1 hinfo.out.2.2.1 hinfo.out.2.2.2 rfl (by decide) _ _ _ (by rfl) (own_emp (by first | omega | (simp; done) | (simp; omega)) (by first | exact heap_alloc_new _ _ | (refine blk_new _ _ _ _ ?_; simp; done) | (refine (Below.heap_alloc _ _ _ ?_).trans (blk_new _ _ _ _ ?_) <;> (first | (simp; done) | (simp; omega))))) hzi.out (W0 := wc) (by repeat' (first | (with_reducible exact Below.refl _ _) | (with_reducible refine Below.alloc ?_ ?_ _) | (with_reducible refine Below.setCell ?_ ?_ _) | (with_reducible refine Below.drew ?_) | (with_reducible refine Below.trans ?_ (Below.mono (by with_reducible assumption) ?_)) | omega | (simp; done) | (simp; omega))) ⟨b, o, none⟩ _ _ _ ((xs.take i).flatMap Bk.enc) (by rfl) rfl (len_take Bk.enc_len xs hic3) (news_take (hrd.out.below (((by repeat' (first | (with_reducible exact Below.refl _ _) | (with_reducible refine Below.alloc ?_ ?_ _) | (with_reducible refine Below.setCell ?_ ?_ _) | (with_reducible refine Below.drew ?_) | (with_reducible refine Below.trans ?_ (Below.mono (by with_reducible assumption) ?_)) | omega | (simp; done) | (simp; omega))) : Below wc.heap.size wc _).mono hsw)) Bk.enc_len hic3) (ints_take (bks_ints HG.out) _) (by unfold maxLen; omega) (by omega) (by first | omega | (simp; done) | (simp; omega)) ?_; intro v2 w2 own2 hb2 hgr2; have hs2 := hb2.size)
              | (refine step_append_b (by rfl) (.tmp 31) _ _ (by rfl) wc.heap.size 45 i0 _ 3 24 Try.underlying26 hinfo.out.1 hinfo.out.2.1 hinfo.out.2.2.1 hinfo.out.2.2.2 rfl (by decide) _ _ _ (by rfl) (own_int own2 (by repeat' (first | (with_reducible exact Below.refl _ _) | (with_reducible refine Below.alloc ?_ ?_ _) | (with_reducible refine Below.setCell ?_ ?_ _) | (with_reducible refine Below.drew ?_) | (with_reducible refine Below.trans ?_ (Below.mono (by with_reducible assumption) ?_)) | omega | (simp; done) | (simp; omega)))) hzi.out (W0 := wc) (by repeat' (first | (with_reducible exact Below.refl _ _) | (with_reducible refine Below.alloc ?_ ?_ _) | (with_reducible refine Below.setCell ?_ ?_ _) | (with_reducible refine Below.drew ?_) | (with_reducible refine Below.trans ?_ (Below.mono (by with_reducible assumption) ?_)) | omega | (simp; done) | (simp; omega))) _ _ _ _ [.int .i64 d, .int .i64 k, .int .i64 q] (by rfl) rfl rfl (World.news_of_block (cs := #[.int .i64 d, .int .i64 k, .int .i64 q]) (t := 45) (fr := (0, 0)) (by (first | exact heap_alloc_new _ _ | (refine (hgr2.block _ ?_ ?_).trans (blk_new _ _ _ _ ?_) <;> (first | (simp [Value.ownBlock]; done) | (simp; omega)); done) | (refine (hgr2.block _ ?_ ?_).trans ((Below.heap_alloc _ _ _ ?_).trans (blk_new _ _ _ _ ?_)) <;> (first | (simp [Value.ownBlock]; done) | (simp; omega)); done)))) hx3.out (by unfold maxLen; omega) (by omega) (by first | omega | (simp; done) | (simp; omega)) ?_; intro v3 w3 own3 hb3 hgr3; have hs3 := hb3.size)
              | (refine step_append_b (by rfl) (.tmp 34) _ _ (by rfl) wc.heap.size 45 i0 _ 3 24 Try.underlying26 hinfo.out.1 hinfo.out.2.1 hinfo.out.2.2.1 hinfo.out.2.2.2 rfl (by decide) _ _ _ (by rfl) (own_int own3 (by repeat' (first | (with_reducible exact Below.refl _ _) | (with_reducible refine Below.alloc ?_ ?_ _) | (with_reducible refine Below.setCell ?_ ?_ _) | (with_reducible refine Below.drew ?_) | (with_reducible refine Below.trans ?_ (Below.mono (by with_reducible assumption) ?_)) | omega | (simp; done) | (simp; omega)))) hzi.out (W0 := wc) (by repeat' (first | (with_reducible exact Below.refl _ _) | (with_reducible refine Below.alloc ?_ ?_ _) | (with_reducible refine Below.setCell ?_ ?_ _) | (with_reducible refine Below.drew ?_) | (with_reducible refine Below.trans ?_ (Below.mono (by with_reducible assumption) ?_)) | omega | (simp; done) | (simp; omega))) _ _ _ _ ([] : List Value) (by rfl) rfl rfl (fun j u hu => by simp at hu) (fun u hu => by simp at hu) (by unfold maxLen; omega) (by omega) (by first | omega | (simp; done) | (simp; omega)) ?_; intro v4 w4 own4 hb4 hgr4; have hs4 := hb4.size))
          all_goals
            go_wp2_with fail
            go_meet
            exact put_out hi (by rw [List.drop_of_length_le hcc]; exact own_base own4.1 hsw) own4.2 (by have := hlen0.out; omega) (hbw1.trans (hb4.mono hsw))
        case rest =>
          obtain ⟨own5, hb5⟩ := hcut
          obtain ⟨g, cc, rfl, hgw, hlt5⟩ := own5.1.form (by omega)
          have row5 := (Row.of_own own5.1).1
          have hs5 := hb5.size
          have hrow' : Row wc g 45 ((putL xs (pbK xs ⟨d, k, q⟩) ⟨d, k, q⟩).flatMap Bk.enc) := by rw [hK.out]; exact row5
          have HO := Lib.hid (show wc.ownsRow w.heap.size 45 3 (.slice (some ⟨g, 0, none⟩) (xs.length + 1) cc) (xs.length + 1) ((putL xs (pbK xs ⟨d, k, q⟩) ⟨d, k, q⟩).flatMap Bk.enc) ∧ BlkInts wc (.slice (some ⟨g, 0, none⟩) (xs.length + 1) cc) by rw [hK.out]; exact own5)
          have hlen : (putL xs (pbK xs ⟨d, k, q⟩) ⟨d, k, q⟩).length = xs.length + 1 := putL_len (by rw [hK.out]; exact hi)
          have hq := l20Good_any (some ⟨g, 0, none⟩) cc (putL xs (pbK xs ⟨d, k, q⟩) ⟨d, k, q⟩) wc (Row.rd (enc := Bk.enc) hrow' Bk.enc_len hrow'.lt) (by omega)
          rw [hlen] at hq
          have Hrow := Lib.hid hrow'
          clear hlen own5 row5 hrow'
          cases hF : bksOK (putL xs (pbK xs ⟨d, k, q⟩) ⟨d, k, q⟩)
          · have Hno := Lib.hid (show pbB xs ⟨d, k, q⟩ = false by simp [pbB, hF])
            rw [hF] at hq
            have HQ := Lib.hid hq
            clear hq hF
            go_wp2_with fail
            refine (HQ.out).mono ?_
            rintro e w7 ⟨rfl, hb7⟩
            go_wp2_with fail
            go_ret2
            exact pb_noI Hno.out (by have := hb7.size; omega) (hb5.trans (hb7.mono hs5))
          · have Hyes := Lib.hid (show pbB xs ⟨d, k, q⟩ = true by simp [pbB, hF, HG.out])
            rw [hF] at hq
            have HQ := Lib.hid hq
            clear hq hF
            go_wp2_with fail
            refine (HQ.out).mono ?_
            rintro e w7 ⟨rfl, hb7⟩
            go_wp2_with fail
            go_ret2
            exact pb_yesI Hyes.out hgw HO.out hb7 (hb5.trans (hb7.mono hs5))
      · have hci2 : ¬ c = i := fun e => hci e.symm
        go_cut [7] from 8 (fun u wx => PutOut w xs i ⟨d, k, q⟩ u wx)
        case first =>
          go_region_held3 (fun W => W.cell? ⟨w.heap.size, 0, none⟩ = some (.int .i64 d) ∧ W.cell? ⟨w.heap.size, 1, none⟩ = some (.int .i64 k) ∧ W.cell? ⟨w.heap.size, 2, none⟩ = some (.int .i64 q))
            (first | (exact row3b (hbx.to (by repeat' (first | (with_reducible exact Below.refl _ _) | (with_reducible refine Below.alloc ?_ ?_ _) | (with_reducible refine Below.setCell ?_ ?_ _) | (with_reducible refine Below.drew ?_) | (with_reducible refine Below.trans ?_ (Below.mono (by with_reducible assumption) ?_)) | omega | (simp; done) | (simp; omega))))) | go_keep)
            (first
              | (refine step_append_b (by rfl) (.tmp 27) _ _ (by rfl) wc.heap.size 45 i0 _ 3 24 Try.underlying26 hinfo.out.1 hinfo.out.2.1 hinfo.out.2.2.1 hinfo.out.2.2.2 rfl (by decide) _ _ _ (by rfl) (own_emp (by first | omega | (simp; done) | (simp; omega)) (by first | exact heap_alloc_new _ _ | (refine blk_new _ _ _ _ ?_; simp; done) | (refine (Below.heap_alloc _ _ _ ?_).trans (blk_new _ _ _ _ ?_) <;> (first | (simp; done) | (simp; omega))))) hzi.out (W0 := wc) (by repeat' (first | (with_reducible exact Below.refl _ _) | (with_reducible refine Below.alloc ?_ ?_ _) | (with_reducible refine Below.setCell ?_ ?_ _) | (with_reducible refine Below.drew ?_) | (with_reducible refine Below.trans ?_ (Below.mono (by with_reducible assumption) ?_)) | omega | (simp; done) | (simp; omega))) ⟨b, o, none⟩ _ _ _ ((xs.take i).flatMap Bk.enc) (by rfl) rfl (len_take Bk.enc_len xs hic3) (news_take (hrd.out.below (((by repeat' (first | (with_reducible exact Below.refl _ _) | (with_reducible refine Below.alloc ?_ ?_ _) | (with_reducible refine Below.setCell ?_ ?_ _) | (with_reducible refine Below.drew ?_) | (with_reducible refine Below.trans ?_ (Below.mono (by with_reducible assumption) ?_)) | omega | (simp; done) | (simp; omega))) : Below wc.heap.size wc _).mono hsw)) Bk.enc_len hic3) (ints_take (bks_ints HG.out) _) (by unfold maxLen; omega) (by omega) (by first | omega | (simp; done) | (simp; omega)) ?_; intro v2 w2 own2 hb2 hgr2; have hs2 := hb2.size)
              | (refine step_append_b (by rfl) (.tmp 31) _ _ (by rfl) wc.heap.size 45 i0 _ 3 24 Try.underlying26 hinfo.out.1 hinfo.out.2.1 hinfo.out.2.2.1 hinfo.out.2.2.2 rfl (by decide) _ _ _ (by rfl) (own_int own2 (by repeat' (first | (with_reducible exact Below.refl _ _) | (with_reducible refine Below.alloc ?_ ?_ _) | (with_reducible refine Below.setCell ?_ ?_ _) | (with_reducible refine Below.drew ?_) | (with_reducible refine Below.trans ?_ (Below.mono (by with_reducible assumption) ?_)) | omega | (simp; done) | (simp; omega)))) hzi.out (W0 := wc) (by repeat' (first | (with_reducible exact Below.refl _ _) | (with_reducible refine Below.alloc ?_ ?_ _) | (with_reducible refine Below.setCell ?_ ?_ _) | (with_reducible refine Below.drew ?_) | (with_reducible refine Below.trans ?_ (Below.mono (by with_reducible assumption) ?_)) | omega | (simp; done) | (simp; omega))) _ _ _ _ [.int .i64 d, .int .i64 k, .int .i64 q] (by rfl) rfl rfl (World.news_of_block (cs := #[.int .i64 d, .int .i64 k, .int .i64 q]) (t := 45) (fr := (0, 0)) (by (first | exact heap_alloc_new _ _ | (refine (hgr2.block _ ?_ ?_).trans (blk_new _ _ _ _ ?_) <;> (first | (simp [Value.ownBlock]; done) | (simp; omega)); done) | (refine (hgr2.block _ ?_ ?_).trans ((Below.heap_alloc _ _ _ ?_).trans (blk_new _ _ _ _ ?_)) <;> (first | (simp [Value.ownBlock]; done) | (simp; omega)); done)))) hx3.out (by unfold maxLen; omega) (by omega) (by first | omega | (simp; done) | (simp; omega)) ?_; intro v3 w3 own3 hb3 hgr3; have hs3 := hb3.size)
              | (refine step_append_b (by rfl) (.tmp 34) _ _ (by rfl) wc.heap.size 45 i0 _ 3 24 Try.underlying26 hinfo.out.1 hinfo.out.2.1 hinfo.out.2.2.1 hinfo.out.2.2.2 rfl (by decide) _ _ _ (by rfl) (own_int own3 (by repeat' (first | (with_reducible exact Below.refl _ _) | (with_reducible refine Below.alloc ?_ ?_ _) | (with_reducible refine Below.setCell ?_ ?_ _) | (with_reducible refine Below.drew ?_) | (with_reducible refine Below.trans ?_ (Below.mono (by with_reducible assumption) ?_)) | omega | (simp; done) | (simp; omega)))) hzi.out (W0 := wc) (by repeat' (first | (with_reducible exact Below.refl _ _) | (with_reducible refine Below.alloc ?_ ?_ _) | (with_reducible refine Below.setCell ?_ ?_ _) | (with_reducible refine Below.drew ?_) | (with_reducible refine Below.trans ?_ (Below.mono (by with_reducible assumption) ?_)) | omega | (simp; done) | (simp; omega))) _ _ _ _ ((xs.drop i).flatMap Bk.enc) (by rfl) rfl (len_drop Bk.enc_len xs _) (news_drop (hrd.out.below (((by repeat' (first | (with_reducible exact Below.refl _ _) | (with_reducible refine Below.alloc ?_ ?_ _) | (with_reducible refine Below.setCell ?_ ?_ _) | (with_reducible refine Below.drew ?_) | (with_reducible refine Below.trans ?_ (Below.mono (by with_reducible assumption) ?_)) | omega | (simp; done) | (simp; omega))) : Below wc.heap.size wc _).mono hsw)) Bk.enc_len hic3 (by first | exact Or.inr rfl | exact Or.inl hlen0.out)) (ints_drop (bks_ints HG.out) _) (by unfold maxLen; omega) (by omega) (by first | omega | (simp; done) | (simp; omega)) ?_; intro v4 w4 own4 hb4 hgr4; have hs4 := hb4.size))
          all_goals
            go_wp2_with fail
            go_meet
            exact put_out hi (own_base own4.1 hsw) own4.2 rfl (hbw1.trans (hb4.mono hsw))
        case rest =>
          obtain ⟨own5, hb5⟩ := hcut
          obtain ⟨g, cc, rfl, hgw, hlt5⟩ := own5.1.form (by omega)
          have row5 := (Row.of_own own5.1).1
          have hs5 := hb5.size
          have hrow' : Row wc g 45 ((putL xs (pbK xs ⟨d, k, q⟩) ⟨d, k, q⟩).flatMap Bk.enc) := by rw [hK.out]; exact row5
          have HO := Lib.hid (show wc.ownsRow w.heap.size 45 3 (.slice (some ⟨g, 0, none⟩) (xs.length + 1) cc) (xs.length + 1) ((putL xs (pbK xs ⟨d, k, q⟩) ⟨d, k, q⟩).flatMap Bk.enc) ∧ BlkInts wc (.slice (some ⟨g, 0, none⟩) (xs.length + 1) cc) by rw [hK.out]; exact own5)
          have hlen : (putL xs (pbK xs ⟨d, k, q⟩) ⟨d, k, q⟩).length = xs.length + 1 := putL_len (by rw [hK.out]; exact hi)
          have hq := l20Good_any (some ⟨g, 0, none⟩) cc (putL xs (pbK xs ⟨d, k, q⟩) ⟨d, k, q⟩) wc (Row.rd (enc := Bk.enc) hrow' Bk.enc_len hrow'.lt) (by omega)
          rw [hlen] at hq
          have Hrow := Lib.hid hrow'
          clear hlen own5 row5 hrow'
          cases hF : bksOK (putL xs (pbK xs ⟨d, k, q⟩) ⟨d, k, q⟩)
          · have Hno := Lib.hid (show pbB xs ⟨d, k, q⟩ = false by simp [pbB, hF])
            rw [hF] at hq
            have HQ := Lib.hid hq
            clear hq hF
            go_wp2_with fail
            refine (HQ.out).mono ?_
            rintro e w7 ⟨rfl, hb7⟩
            go_wp2_with fail
            go_ret2
            exact pb_noI Hno.out (by have := hb7.size; omega) (hb5.trans (hb7.mono hs5))
          · have Hyes := Lib.hid (show pbB xs ⟨d, k, q⟩ = true by simp [pbB, hF, HG.out])
            rw [hF] at hq
            have HQ := Lib.hid hq
            clear hq hF
            go_wp2_with fail
            refine (HQ.out).mono ?_
            rintro e w7 ⟨rfl, hb7⟩
            go_wp2_with fail
            go_ret2
            exact pb_yesI Hyes.out hgw HO.out hb7 (hb5.trans (hb7.mono hs5))
end Go.Proofs.Ytkhldmicejdggaa
