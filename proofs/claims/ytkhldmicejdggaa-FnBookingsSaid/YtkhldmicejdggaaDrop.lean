/- Contracts: a booking is dropped (chapter 20). -/
import Derived.Test.YtkhldmicejdggaaDel
import Derived.Deep.RegionHeld3
import Derived.IntWalk
set_option linter.unusedSimpArgs false
set_option linter.unusedVariables false
namespace Go.Proofs.Ytkhldmicejdggaa
open Go.RowKit Go.Sort Go.Salt
attribute [local go_sem] cell_rg
theorem own_caps {w : World} {base n cap g : Nat} {E : TypeId} {size : Nat} {cs : List Value} (h : w.ownsRow base E size (.slice (some ⟨g, 0, none⟩) n cap) n cs) : n ≤ cap ∧ cap ≤ maxLen := by
  rcases h.2 with ⟨h2, _⟩ | ⟨g', cap', cur, hv, hg, hh, h3, h4, _⟩
  · simp at h2
  · simp only [Value.slice.injEq] at hv
    obtain ⟨_, _, rfl⟩ := hv
    exact ⟨h3, h4⟩
theorem step_append_own {P : Program} {w : World} {ops : Array Oper} {o : Oper} {a : Act} {K : Act → World → Prop} {Q : Exit → Act → World → Prop} {E : Prop} (hgd : o.guard = none) (s x : Operand) (t : TypeId)
    (ho : o.op = .call { callee := .builtin .append, args := #[s, x], argTypes := #[t, t] })
    (base : Nat) (e : TypeId) (i : TypeInfo) (z : Value) (size bytes : Nat) (ht : P.underlying t = some (.slice e)) (hi : P.info? e = some i) (hz : i.zero = some z)
    (hsize : i.size = size) (hby : i.bytes = bytes) (hzs : z.cells.size = size) (hsz : 0 < size)
    (v : Value) (n : Nat) (xs : List Value) (hs : a.eval s = v) (hown : w.ownsRow base e size v n xs)
    (ad : Addr) (m c : Nat) (news : List Value) (hx : a.eval x = .slice (some ad) m c) (hl : news.length = m * size) (hnews : ∀ j u, news[j]? = some u → w.cell? (ad.add j) = some u) (h1 : ∀ u ∈ news, u.oneCell' = true)
    (h63 : n + m ≤ maxLen) (hbytes : (n + m) * bytes ≤ 140737488355328) (hbase : base ≤ w.heap.size)
    (h : ∀ v' w', w'.ownsRow base e size v' (n + m) (xs ++ news) → w.grownBy w' v.ownBlock → (v' = .slice none 0 0 ↔ v = .slice none 0 0 ∧ m = 0) → K (a.put o.dst v') w') :
    if Region.wanted o (yielded ops a.tmps) = true then Oper.wp P o a w K Q else E := by
  rw [if_pos (by simp [Region.wanted, hgd])]
  exact wp_append_own w s x t ho base e i z size bytes ht hi hz hsize hby hzs hsz v n xs hs hown ad m c news hx hl hnews h1 h63 hbytes hbase h
theorem step_append_at {P : Program} {w : World} {ops : Array Oper} {o : Oper} {a : Act} {K : Act → World → Prop} {Q : Exit → Act → World → Prop} {E : Prop} (hgd : o.guard = none) (s x : Operand) (t : TypeId)
    (ho : o.op = .call { callee := .builtin .append, args := #[s, x], argTypes := #[t, t] })
    (base : Nat) (e : TypeId) (i : TypeInfo) (z : Value) (size bytes : Nat) (ht : P.underlying t = some (.slice e)) (hi : P.info? e = some i) (hz : i.zero = some z)
    (hsize : i.size = size) (hby : i.bytes = bytes) (hzs : z.cells.size = size) (hsz : 0 < size)
    (v : Value) (n : Nat) (xs : List Value) (hs : a.eval s = v) (hown : w.ownsRow base e size v n xs)
    (ad : Addr) (X : Option Addr) (m c : Nat) (news : List Value) (hx : a.eval x = .slice X m c) (hX : X = some ad) (hl : news.length = m * size) (hnews : ∀ j u, news[j]? = some u → w.cell? (ad.add j) = some u) (h1 : ∀ u ∈ news, u.oneCell' = true)
    (h63 : n + m ≤ maxLen) (hbytes : (n + m) * bytes ≤ 140737488355328) (hbase : base ≤ w.heap.size)
    (h : ∀ v' w', w'.ownsRow base e size v' (n + m) (xs ++ news) → w.grownBy w' v.ownBlock → (v' = .slice none 0 0 ↔ v = .slice none 0 0 ∧ m = 0) → K (a.put o.dst v') w') :
    if Region.wanted o (yielded ops a.tmps) = true then Oper.wp P o a w K Q else E := by
  subst hX
  rw [if_pos (by simp [Region.wanted, hgd])]
  exact wp_append_own w s x t ho base e i z size bytes ht hi hz hsize hby hzs hsz v n xs hs hown ad m c news hx hl hnews h1 h63 hbytes hbase h
section
variable {α : Type} [Inhabited α] {w : World} {B k : Nat} {b o : Nat} {enc : α → List Value} {xs : List α}
/-- The cells of the first elements; of those behind an element. -/
theorem news_take (h : Rd w B (some ⟨b, o, none⟩) k enc xs) (hk : ∀ x, (enc x).length = k) {i : Nat} (hi : i ≤ xs.length) : ∀ j u, ((xs.take i).flatMap enc)[j]? = some u → w.cell? ((⟨b, o, none⟩ : Addr).add j) = some u := fun j u hu => by
  rw [← (flat_split hk xs i hi).1, List.getElem?_take] at hu
  split at hu
  · exact h.news hk j u hu
  · cases hu
theorem news_drop (h : Rd w B (some ⟨b, o, none⟩) k enc xs) (hk : ∀ x, (enc x).length = k) {i : Nat} (hi : i ≤ xs.length) {ad : Addr} (hA : xs.length - i = 0 ∨ ad = ⟨b, o + i * k, none⟩) : ∀ j u, ((xs.drop i).flatMap enc)[j]? = some u → w.cell? (ad.add j) = some u := fun j u hu => by
  rcases hA with hA | rfl
  · rw [List.drop_of_length_le (by omega)] at hu; simp at hu
  · rw [← (flat_split hk xs i hi).2, List.getElem?_drop] at hu
    have h1 := h.news hk _ u hu
    rw [show (⟨b, o, none⟩ : Addr).add (i * k + j) = (⟨b, o + i * k, none⟩ : Addr).add j from by unfold Addr.add; split <;> split <;> simp_all <;> omega] at h1
    exact h1
end
theorem len_take {α : Type} {enc : α → List Value} {k : Nat} (hk : ∀ x, (enc x).length = k) (xs : List α) {i : Nat} (hi : i ≤ xs.length) : ((xs.take i).flatMap enc).length = i * k := by rw [flat_len hk, List.length_take, Nat.min_eq_left hi]
theorem len_drop {α : Type} {enc : α → List Value} {k : Nat} (hk : ∀ x, (enc x).length = k) (xs : List α) (i : Nat) : ((xs.drop i).flatMap enc).length = (xs.length - i) * k := by rw [flat_len hk, List.length_drop]
theorem grew_new {w w1 w2 : World} {T : TypeId} {n c : Nat} (hb1 : Below w.heap.size w w1) (h : ((w1.alloc (Obj.cells #[] T)).drew).grownBy w2 (Value.slice (some ⟨w1.heap.size, 0, none⟩) n c).ownBlock) : Below w.heap.size w w2 := by
  have hs := hb1.size
  refine (show Below w.heap.size w ((w1.alloc (Obj.cells #[] T)).drew) from (by repeat' (first | (with_reducible exact Below.refl _ _) | (with_reducible refine Below.alloc ?_ ?_ _) | (with_reducible refine Below.setCell ?_ ?_ _) | (with_reducible refine Below.drew ?_) | (with_reducible refine Below.trans ?_ (Below.mono (by with_reducible assumption) ?_)) | omega | (simp; done) | (simp; omega)))).grown h (by simp; omega) ?_
  intro k hk
  simp [Value.ownBlock] at hk
  omega
def dbB (xs : List Bk) (i : Int) : Bool := bksOK xs && inB i 0 ((xs.length : Int) - 1)
def dbX (xs : List Bk) (i : Nat) : List Bk := xs.take i ++ xs.drop (i + 1)
def dbL (xs : List Bk) (i : Int) : List Bk := if dbB xs i = true then dbX xs i.toNat else []
theorem dbX_len {xs : List Bk} {i : Nat} (h : i < xs.length) : (dbX xs i).length = xs.length - 1 := by
  unfold dbX; rw [List.length_append, List.length_take, List.length_drop, Nat.min_eq_left (by omega)]; omega
theorem dbL_len (xs : List Bk) (i : Int) : (dbL xs i).length ≤ xs.length := by
  unfold dbL; split
  · unfold dbX; rw [List.length_append, List.length_take, List.length_drop]; omega
  · simp
/-- What is returned. -/
def DbAt (w : World) (xs : List Bk) (i : Int) (e : Ending) (w' : World) : Prop := MadeAt w 45 ((dbL xs i).flatMap Bk.enc) (dbL xs i).length (fun v => .returned (.tuple #[v, .bool (dbB xs i)])) e w'
theorem db_no {w w' : World} {xs : List Bk} {i : Int} {v : Value} (h : dbB xs i = false) (hv : MadeAt w 45 [] 0 (fun v => .returned (.tuple #[v, .bool false])) (.returned (.tuple #[v, .bool false])) w') : DbAt w xs i (.returned (.tuple #[v, .bool false])) w' := by
  have e1 : dbL xs i = [] := by simp [dbL, h]
  unfold DbAt
  rw [e1, h]
  exact hv
theorem db_yes {w w' : World} {xs : List Bk} {i : Nat} {v : Value} (h : dbB xs i = true) (hv : MadeAt w 45 ((dbX xs i).flatMap Bk.enc) (xs.length - 1) (fun v => .returned (.tuple #[v, .bool true])) (.returned (.tuple #[v, .bool true])) w') : DbAt w xs i (.returned (.tuple #[v, .bool true])) w' := by
  have e1 : dbL xs i = dbX xs i := by simp [dbL, h]
  have hi : i < xs.length := by
    simp only [dbB, Bool.and_eq_true] at h
    have := inB_iff.1 h.2
    omega
  unfold DbAt
  rw [e1, h, dbX_len hi]
  exact hv
set_option maxHeartbeats 4000000 in
theorem cloneBk_own (ad : Addr) (c : Nat) (xs : List Bk) (w : World) (h : Rd w w.heap.size (some ad) 3 Bk.enc xs) (hx : xs.length ≤ 1048576) :
    Calls Try.prog 62 #[.slice (some ad) xs.length c] w fun e w' => ∃ v, e = .returned v ∧ w'.ownsRow w.heap.size 45 3 v xs.length (xs.flatMap Bk.enc) ∧ Below w.heap.size w w' := by
  have q := fun (w : World) (a : Option Addr) (n c n' c' : Nat) => Lib.run_eql_slice_nil w 26 _ a n c n' c' Try.underlying26
  obtain ⟨i0, hi, hz0, hz1, hz2⟩ := info_parts bk_info
  have hinfo := Lib.hid (And.intro hi (And.intro hz0 (And.intro hz1 hz2)))
  clear hi hz0 hz1 hz2
  go_enter Try.func62, Try.ntmps62
  go_wp2_with (at_builtin; refine wpList_append_own _ rfl _ _ 26 rfl w.heap.size 45 i0 _ 3 24 Try.underlying26 hinfo.out.1 hinfo.out.2.1 hinfo.out.2.2.1 hinfo.out.2.2.2 rfl (by decide) _ _ _ rfl (own_empty 3 (Nat.le_refl _) (heap_alloc_new w _)) ad _ _ (xs.flatMap Bk.enc) rfl (flat_len Bk.enc_len xs) ((h.to (by repeat' (first | (with_reducible exact Below.refl _ _) | (with_reducible refine Below.alloc ?_ ?_ _) | (with_reducible refine Below.setCell ?_ ?_ _) | (with_reducible refine Below.drew ?_) | (with_reducible refine Below.trans ?_ (Below.mono (by with_reducible assumption) ?_)) | omega | (simp; done) | (simp; omega)))).news Bk.enc_len) (flat_one Bk.enc_one) (by unfold maxLen; omega) (by omega) (by simp) ?_)
  intro v1 w1 hown1 hgrow hnil
  have hb1 : Below w.heap.size w w1 := own_grew (own_empty (W := w.alloc (.cells #[] 45)) 3 (Nat.le_refl _) (heap_alloc_new w _)) (show Below w.heap.size w (w.alloc _) from (by repeat' (first | (with_reducible exact Below.refl _ _) | (with_reducible refine Below.alloc ?_ ?_ _) | (with_reducible refine Below.setCell ?_ ?_ _) | (with_reducible refine Below.drew ?_) | (with_reducible refine Below.trans ?_ (Below.mono (by with_reducible assumption) ?_)) | omega | (simp; done) | (simp; omega)))) (by simp) hgrow
  have hown1 : w1.ownsRow w.heap.size 45 3 v1 xs.length (xs.flatMap Bk.enc) := by simpa using hown1
  go_wp2
  go_ret
  exact ⟨v1, rfl, hown1, hb1⟩
set_option maxHeartbeats 4000000 in
theorem iDropBooking_any (ad : Addr) (c : Nat) (xs : List Bk) (i : Int) (w : World) (h : Rd w w.heap.size (some ad) 3 Bk.enc xs) (hx : xs.length ≤ 1048576) :
    Calls Try.prog 29 #[.slice (some ad) xs.length c, .int .i64 i] w fun e w' => DbAt w xs i e w' := by
  cases hG : bksOK xs
  · have Hno := Lib.hid (show dbB xs i = false by simp [dbB, hG])
    go_enter Try.func29, Try.ntmps29
    go_wp2_with fail
    (go_at_call 37; refine (areBookings_any _ _ _ _ (h.to (by repeat' (first | (with_reducible exact Below.refl _ _) | (with_reducible refine Below.alloc ?_ ?_ _) | (with_reducible refine Below.setCell ?_ ?_ _) | (with_reducible refine Below.drew ?_) | (with_reducible refine Below.trans ?_ (Below.mono (by with_reducible assumption) ?_)) | omega | (simp; done) | (simp; omega)))) hx).mono ?_; rintro e w1 ⟨rfl, hb1⟩)
    (have hs1 := hb1.size; (try simp at hs1); obtain ⟨hc1, hf1, hn1⟩ := bcell hb1; (try have hz1_w_0 : w.heap.size < w1.heap.size := by omega); (try have hz1_w_1 : w.heap.size + 1 < w1.heap.size := by omega); (try have hz1_w_2 : w.heap.size + 2 < w1.heap.size := by omega); (try have hz1_w_2b : w.heap.size + 1 + 1 < w1.heap.size := by omega))
    go_wp2_with fail
    go_ret2
    exact db_no Hno.out (MadeAt.nil (fun v => .returned (.tuple #[v, .bool false])) (by repeat' (first | (with_reducible exact Below.refl _ _) | (with_reducible refine Below.alloc ?_ ?_ _) | (with_reducible refine Below.setCell ?_ ?_ _) | (with_reducible refine Below.drew ?_) | (with_reducible refine Below.trans ?_ (Below.mono (by with_reducible assumption) ?_)) | omega | (simp; done) | (simp; omega))))
  · cases hI : inB i 0 ((xs.length : Int) - 1)
    · have Hno := Lib.hid (show dbB xs i = false by simp [dbB, hI])
      go_enter Try.func29, Try.ntmps29
      go_wp2_with (first | (go_at_call 56; refine (within_any _ _ _ _).mono ?_; rintro e wX ⟨rfl, rfl⟩))
      (go_at_call 37; refine (areBookings_any _ _ _ _ (h.to (by repeat' (first | (with_reducible exact Below.refl _ _) | (with_reducible refine Below.alloc ?_ ?_ _) | (with_reducible refine Below.setCell ?_ ?_ _) | (with_reducible refine Below.drew ?_) | (with_reducible refine Below.trans ?_ (Below.mono (by with_reducible assumption) ?_)) | omega | (simp; done) | (simp; omega)))) hx).mono ?_; rintro e w1 ⟨rfl, hb1⟩)
      (have hs1 := hb1.size; (try simp at hs1); obtain ⟨hc1, hf1, hn1⟩ := bcell hb1; (try have hz1_w_0 : w.heap.size < w1.heap.size := by omega); (try have hz1_w_1 : w.heap.size + 1 < w1.heap.size := by omega); (try have hz1_w_2 : w.heap.size + 2 < w1.heap.size := by omega); (try have hz1_w_2b : w.heap.size + 1 + 1 < w1.heap.size := by omega))
      go_wp2_with (first | (go_at_call 56; refine (within_any _ _ _ _).mono ?_; rintro e wX ⟨rfl, rfl⟩))
      go_ret2
      exact db_no Hno.out (MadeAt.nil (fun v => .returned (.tuple #[v, .bool false])) (by repeat' (first | (with_reducible exact Below.refl _ _) | (with_reducible refine Below.alloc ?_ ?_ _) | (with_reducible refine Below.setCell ?_ ?_ _) | (with_reducible refine Below.drew ?_) | (with_reducible refine Below.trans ?_ (Below.mono (by with_reducible assumption) ?_)) | omega | (simp; done) | (simp; omega))))
    · have hib := inB_iff.1 hI
      obtain ⟨k, rfl⟩ : ∃ k : Nat, i = k := ⟨i.toNat, by omega⟩
      have Hyes := Lib.hid (show dbB xs k = true by simp [dbB, hG, hI])
      have hk : k < xs.length := by omega
      go_enter Try.func29, Try.ntmps29
      go_wp2_with (first | (go_at_call 56; refine (within_any _ _ _ _).mono ?_; rintro e wX ⟨rfl, rfl⟩))
      (go_at_call 37; refine (areBookings_any _ _ _ _ (h.to (by repeat' (first | (with_reducible exact Below.refl _ _) | (with_reducible refine Below.alloc ?_ ?_ _) | (with_reducible refine Below.setCell ?_ ?_ _) | (with_reducible refine Below.drew ?_) | (with_reducible refine Below.trans ?_ (Below.mono (by with_reducible assumption) ?_)) | omega | (simp; done) | (simp; omega)))) hx).mono ?_; rintro e w1 ⟨rfl, hb1⟩)
      (have hs1 := hb1.size; (try simp at hs1); obtain ⟨hc1, hf1, hn1⟩ := bcell hb1; (try have hz1_w_0 : w.heap.size < w1.heap.size := by omega); (try have hz1_w_1 : w.heap.size + 1 < w1.heap.size := by omega); (try have hz1_w_2 : w.heap.size + 2 < w1.heap.size := by omega); (try have hz1_w_2b : w.heap.size + 1 + 1 < w1.heap.size := by omega))
      go_wp2_with (first | (go_at_call 56; refine (within_any _ _ _ _).mono ?_; rintro e wX ⟨rfl, rfl⟩))
      (go_at_call 62; refine (cloneBk_own ad c xs _ (h.to (by repeat' (first | (with_reducible exact Below.refl _ _) | (with_reducible refine Below.alloc ?_ ?_ _) | (with_reducible refine Below.setCell ?_ ?_ _) | (with_reducible refine Below.drew ?_) | (with_reducible refine Below.trans ?_ (Below.mono (by with_reducible assumption) ?_)) | omega | (simp; done) | (simp; omega)))) hx).mono ?_; rintro e w2 ⟨v2, rfl, own2, hb2⟩)
      (have hs2 := hb2.size; (try simp at hs2); obtain ⟨hc2, hf2, hn2⟩ := bcell hb2; (try have hz2_w_0 : w.heap.size < w2.heap.size := by omega); (try have hz2_w_1 : w.heap.size + 1 < w2.heap.size := by omega); (try have hz2_w_2 : w.heap.size + 2 < w2.heap.size := by omega); (try have hz2_w_2b : w.heap.size + 1 + 1 < w2.heap.size := by omega); (try have hz2_w1_0 : w1.heap.size < w2.heap.size := by omega); (try have hz2_w1_1 : w1.heap.size + 1 < w2.heap.size := by omega); (try have hz2_w1_2 : w1.heap.size + 2 < w2.heap.size := by omega); (try have hz2_w1_2b : w1.heap.size + 1 + 1 < w2.heap.size := by omega))
      obtain ⟨g2, cap2, rfl, hg2, hlt2⟩ := own2.form (by omega)
      have hcap := own_caps own2
      have row2 := (Row.of_own own2).1
      clear own2
      go_wp2_with fail
      refine (deleteBk_row g2 cap2 xs k w2 row2 hk hcap.1 hcap.2).mono ?_
      rintro e w3 ⟨rfl, hrow3, hgr3⟩
      replace hrow3 := Lib.hid hrow3
      have hb3 : Below w.heap.size w w3 := (show Below w.heap.size w w2 from (by repeat' (first | (with_reducible exact Below.refl _ _) | (with_reducible refine Below.alloc ?_ ?_ _) | (with_reducible refine Below.setCell ?_ ?_ _) | (with_reducible refine Below.drew ?_) | (with_reducible refine Below.trans ?_ (Below.mono (by with_reducible assumption) ?_)) | omega | (simp; done) | (simp; omega)))).trans (grown_below hgr3 (by omega) (by omega))
      go_wp2_with (first | (go_at_call 56; refine (within_any _ _ _ _).mono ?_; rintro e wX ⟨rfl, rfl⟩))
      go_ret2
      exact db_yes Hyes.out ⟨_, cap2, rfl, OwnAt.row (by omega) hrow3.out, hb3⟩
set_option maxRecDepth 100000 in
set_option maxHeartbeats 4000000 in
theorem sDropBooking_any (ad : Addr) (c : Nat) (xs : List Bk) (i : Int) (w : World) (h : Rd w w.heap.size (some ad) 3 Bk.enc xs) (hx : xs.length ≤ 1048576) (hcc : xs.length ≤ c) :
    Calls Try.prog 28 #[.slice (some ad) xs.length c, .int .i64 i] w fun e w' => DbAt w xs i e w' := by
  cases hG : bksOK xs
  · have Hno := Lib.hid (show dbB xs i = false by simp [dbB, hG])
    go_enter Try.func28, Try.ntmps28
    go_wp2_with fail
    (go_at_call 59; refine (l20Good_any _ _ _ _ (h.to (by repeat' (first | (with_reducible exact Below.refl _ _) | (with_reducible refine Below.alloc ?_ ?_ _) | (with_reducible refine Below.setCell ?_ ?_ _) | (with_reducible refine Below.drew ?_) | (with_reducible refine Below.trans ?_ (Below.mono (by with_reducible assumption) ?_)) | omega | (simp; done) | (simp; omega)))) hx).mono ?_; rintro e w1 ⟨rfl, hb1⟩)
    (have hs1 := hb1.size; (try simp at hs1); obtain ⟨hc1, hf1, hn1⟩ := bcell hb1; (try have hz1_w_0 : w.heap.size < w1.heap.size := by omega); (try have hz1_w_1 : w.heap.size + 1 < w1.heap.size := by omega); (try have hz1_w_2 : w.heap.size + 2 < w1.heap.size := by omega); (try have hz1_w_2b : w.heap.size + 1 + 1 < w1.heap.size := by omega))
    go_wp2_with fail
    go_ret2
    exact db_no Hno.out (MadeAt.empty (g := w1.heap.size) (fun v => .returned (.tuple #[v, .bool false])) (by omega) (heap_alloc_new _ _) (by repeat' (first | (with_reducible exact Below.refl _ _) | (with_reducible refine Below.alloc ?_ ?_ _) | (with_reducible refine Below.setCell ?_ ?_ _) | (with_reducible refine Below.drew ?_) | (with_reducible refine Below.trans ?_ (Below.mono (by with_reducible assumption) ?_)) | omega | (simp; done) | (simp; omega))))
  · cases hI : inB i 0 ((xs.length : Int) - 1)
    · have Hno := Lib.hid (show dbB xs i = false by simp [dbB, hI])
      go_enter Try.func28, Try.ntmps28
      go_wp2_with (first | (go_at_call 55; refine (l1In_any _ _ _ _).mono ?_; rintro e wX ⟨rfl, rfl⟩))
      (go_at_call 59; refine (l20Good_any _ _ _ _ (h.to (by repeat' (first | (with_reducible exact Below.refl _ _) | (with_reducible refine Below.alloc ?_ ?_ _) | (with_reducible refine Below.setCell ?_ ?_ _) | (with_reducible refine Below.drew ?_) | (with_reducible refine Below.trans ?_ (Below.mono (by with_reducible assumption) ?_)) | omega | (simp; done) | (simp; omega)))) hx).mono ?_; rintro e w1 ⟨rfl, hb1⟩)
      (have hs1 := hb1.size; (try simp at hs1); obtain ⟨hc1, hf1, hn1⟩ := bcell hb1; (try have hz1_w_0 : w.heap.size < w1.heap.size := by omega); (try have hz1_w_1 : w.heap.size + 1 < w1.heap.size := by omega); (try have hz1_w_2 : w.heap.size + 2 < w1.heap.size := by omega); (try have hz1_w_2b : w.heap.size + 1 + 1 < w1.heap.size := by omega))
      go_wp2_with (first | (go_at_call 55; refine (l1In_any _ _ _ _).mono ?_; rintro e wX ⟨rfl, rfl⟩))
      go_ret2
      exact db_no Hno.out (MadeAt.empty (g := w1.heap.size) (fun v => .returned (.tuple #[v, .bool false])) (by omega) (heap_alloc_new _ _) (by repeat' (first | (with_reducible exact Below.refl _ _) | (with_reducible refine Below.alloc ?_ ?_ _) | (with_reducible refine Below.setCell ?_ ?_ _) | (with_reducible refine Below.drew ?_) | (with_reducible refine Below.trans ?_ (Below.mono (by with_reducible assumption) ?_)) | omega | (simp; done) | (simp; omega))))
    · have hib := inB_iff.1 hI
      obtain ⟨k, rfl⟩ : ∃ k : Nat, i = k := ⟨i.toNat, by omega⟩
      have Hyes := Lib.hid (show dbB xs k = true by simp [dbB, hG, hI])
      have hk : k < xs.length := by omega
      obtain ⟨i0, hi, hz0, hz1, hz2⟩ := info_parts bk_info
      have hinfo := Lib.hid (And.intro hi (And.intro hz0 (And.intro hz1 hz2)))
      clear hi hz0 hz1 hz2
      obtain ⟨b, o, e, hb, hcells⟩ := h (by omega)
      obtain rfl : ad = ⟨b, o, none⟩ := by simpa using e
      clear hcells e
      have hcc2 : (xs.length : Int) ≤ c := by omega
      have hkc : k ≤ c := by omega
      have hkc0 : (0 : Int) ≤ (k : Int) + 1 := by omega
      have hkc1 : (k : Int) + 1 ≤ xs.length := by omega
      have hkc2 : (k : Int) ≤ c := by omega
      have hkc3 : k ≤ xs.length := by omega
      have hkc4 : k + 1 ≤ xs.length := by omega
      go_enter Try.func28, Try.ntmps28
      go_wp2_with (first | (go_at_call 55; refine (l1In_any _ _ _ _).mono ?_; rintro e wX ⟨rfl, rfl⟩))
      (go_at_call 59; refine (l20Good_any _ _ _ _ (h.to (by repeat' (first | (with_reducible exact Below.refl _ _) | (with_reducible refine Below.alloc ?_ ?_ _) | (with_reducible refine Below.setCell ?_ ?_ _) | (with_reducible refine Below.drew ?_) | (with_reducible refine Below.trans ?_ (Below.mono (by with_reducible assumption) ?_)) | omega | (simp; done) | (simp; omega)))) hx).mono ?_; rintro e w1 ⟨rfl, hb1⟩)
      (have hs1 := hb1.size; (try simp at hs1); obtain ⟨hc1, hf1, hn1⟩ := bcell hb1; (try have hz1_w_0 : w.heap.size < w1.heap.size := by omega); (try have hz1_w_1 : w.heap.size + 1 < w1.heap.size := by omega); (try have hz1_w_2 : w.heap.size + 2 < w1.heap.size := by omega); (try have hz1_w_2b : w.heap.size + 1 + 1 < w1.heap.size := by omega))
      go_wp2_with (first | (go_at_call 55; refine (l1In_any _ _ _ _).mono ?_; rintro e wX ⟨rfl, rfl⟩))
      have hb1' : b < w1.heap.size := by omega
      have hadr : xs.length - (k + 1) = 0 ∨ (if c = k + 1 then (⟨b, o, none⟩ : Addr) else ⟨b, o + (k + 1) * 3, none⟩) = ⟨b, o + (k + 1) * 3, none⟩ := by
        by_cases hc : c = k + 1
        · left; omega
        · right; rw [if_neg hc]
      have hX : (if c = k + 1 then some (⟨b, o, none⟩ : Addr) else some ⟨b, o + (k + 1) * 3, none⟩) = some (if c = k + 1 then ⟨b, o, none⟩ else ⟨b, o + (k + 1) * 3, none⟩) := by
        by_cases hc : c = k + 1 <;> simp [hc]
      have HX := Lib.hid (And.intro hadr hX)
      clear hadr hX
      have hwr : IntKind.i64.wrap ((k : Int) + 1) = (k : Int) + 1 := IntWalk.i64_in _ (by omega)
      have htn : ((k : Int) + 1).toNat = k + 1 := by omega
      go_region_held3 (fun _ => True) (trivial)
        (first
          | (refine step_append_own (by rfl) (.tmp 18) _ _ (by rfl) w.heap.size 45 i0 _ 3 24 Try.underlying26 hinfo.out.1 hinfo.out.2.1 hinfo.out.2.2.1 hinfo.out.2.2.2 rfl (by decide) _ _ _ (by rfl) (own_empty 3 (by first | omega | (simp; done) | (simp; omega)) (heap_alloc_new _ _)) _ _ _ ((xs.take k).flatMap Bk.enc) (by rfl) (len_take Bk.enc_len xs hkc3) (news_take (h.to (by repeat' (first | (with_reducible exact Below.refl _ _) | (with_reducible refine Below.alloc ?_ ?_ _) | (with_reducible refine Below.setCell ?_ ?_ _) | (with_reducible refine Below.drew ?_) | (with_reducible refine Below.trans ?_ (Below.mono (by with_reducible assumption) ?_)) | omega | (simp; done) | (simp; omega)))) Bk.enc_len hkc3) (flat_one Bk.enc_one) (by unfold maxLen; omega) (by omega) (by first | omega | (simp; done) | (simp; omega)) ?_; intro v2 w2 own2 hgr2 hnil2; have hb2 := grew_new hb1 hgr2; have hs2 := hb2.size; (try simp at hs2))
          | (refine step_append_at (by rfl) (.tmp 22) _ _ (by rfl) w.heap.size 45 i0 _ 3 24 Try.underlying26 hinfo.out.1 hinfo.out.2.1 hinfo.out.2.2.1 hinfo.out.2.2.2 rfl (by decide) v2 _ _ (by rfl) own2 (if c = k + 1 then ⟨b, o, none⟩ else ⟨b, o + (k + 1) * 3, none⟩) _ _ _ ((xs.drop (k + 1)).flatMap Bk.enc) (by rfl) HX.out.2 (len_drop Bk.enc_len xs _) (news_drop (h.to (by repeat' (first | (with_reducible exact Below.refl _ _) | (with_reducible refine Below.alloc ?_ ?_ _) | (with_reducible refine Below.setCell ?_ ?_ _) | (with_reducible refine Below.drew ?_) | (with_reducible refine Below.trans ?_ (Below.mono (by with_reducible assumption) ?_)) | omega | (simp; done) | (simp; omega)))) Bk.enc_len hkc4 HX.out.1) (flat_one Bk.enc_one) (by unfold maxLen; omega) (by omega) (by first | omega | (simp; done) | (simp; omega)) ?_; intro v3 w3 own3 hgr3 hnil3; have hb3 : Below w.heap.size w w3 := own_grew own2 (by repeat' (first | (with_reducible exact Below.refl _ _) | (with_reducible refine Below.alloc ?_ ?_ _) | (with_reducible refine Below.setCell ?_ ?_ _) | (with_reducible refine Below.drew ?_) | (with_reducible refine Below.trans ?_ (Below.mono (by with_reducible assumption) ?_)) | omega | (simp; done) | (simp; omega))) (by first | omega | (simp; done) | (simp; omega)) hgr3))
      clear hwr htn
      go_wp2_with (first | (go_at_call 55; refine (l1In_any _ _ _ _).mono ?_; rintro e wX ⟨rfl, rfl⟩))
      all_goals
        go_ret2
        have hxl : 0 + k + (xs.length - (k + 1)) = xs.length - 1 := by omega
        have hfl : [] ++ (xs.take k).flatMap Bk.enc ++ (xs.drop (k + 1)).flatMap Bk.enc = (dbX xs k).flatMap Bk.enc := by simp [dbX]
        rw [hxl, hfl] at own3
        exact db_yes Hyes.out (MadeAt.of_own (fun v => .returned (.tuple #[v, .bool true])) own3 hb3)
end Go.Proofs.Ytkhldmicejdggaa
