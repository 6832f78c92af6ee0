/- Contracts: somebody has a share more, by the reference (chapter 22). -/
import Derived.Test.YtimdnihadhbjpaaDoorOwDel
import Derived.Test.YtimdnihadhbjpaaDoorAreS
import Derived.Deep.Cut
set_option linter.unusedSimpArgs false
set_option linter.unusedVariables false
namespace Go.Proofs.YtimdnihadhbjpaaDoor
open Go.RowKit Go.Sort Go.Salt
attribute [local go_sem] cell_rg
attribute [local go_sem ↓] run_max_mx run_min_mn
theorem rN_nat (a b : Nat) : rN (a : Int) (b : Int) = ((a / Nat.gcd a b : Nat) : Int) := rfl
theorem rD_nat (a b : Nat) : rD (a : Int) (b : Int) = ((b / Nat.gcd a b : Nat) : Int) := rfl
theorem r_neg (n m : Int) : rN (-n) m = -rN n m ∧ rD (-n) m = rD n m := by
  unfold rN rD
  rw [Int.neg_gcd]
  exact ⟨Int.neg_ediv_of_dvd (Int.gcd_dvd_left n m), rfl⟩
theorem wrap_in' {z : Int} (h : -9223372036854775808 ≤ z ∧ z ≤ 9223372036854775807) : wrap64 z = z := by unfold wrap64; omega
/-- A slice of owners of one's own, with room told. -/
def GivenAt (w : World) (ys : List Ow) (e : Ending) (w' : World) : Prop :=
  ∃ g cap, e = .returned (.slice (some ⟨g, 0, none⟩) ys.length cap) ∧ ys.length ≤ cap ∧ cap ≤ maxLen ∧ w.heap.size ≤ g ∧ Row w' g 54 (ys.flatMap Ow.enc) ∧ Below w.heap.size w w'
theorem own_some {w : World} {base n : Nat} {E : TypeId} {size : Nat} {v : Value} {cs : List Value} (h : w.ownsRow base E size v n cs) (hn : v ≠ .slice none 0 0) : ∃ g cap, v = .slice (some ⟨g, 0, none⟩) n cap ∧ n ≤ cap ∧ cap ≤ maxLen := by
  rcases h.2 with ⟨h2, _⟩ | ⟨g', cap', cur, hv, hg, hh, h3, h4, _⟩
  · exact absurd h2 hn
  · exact ⟨g', cap', hv, h3, h4⟩
theorem GivenAt.mk' {w w' : World} {ys : List Ow} {g n cap : Nat} (hn : ys.length = n) (h1 : n ≤ cap) (h2 : cap ≤ maxLen) (h3 : w.heap.size ≤ g) (h4 : Row w' g 54 (ys.flatMap Ow.enc)) (h5 : Below w.heap.size w w') : GivenAt w ys (.returned (.slice (some ⟨g, 0, none⟩) n cap)) w' := by
  subst hn; exact ⟨g, cap, rfl, h1, h2, h3, h4, h5⟩
theorem GivenAt.of_own {w w' : World} {ys : List Ow} {v : Value} (h : w'.ownsRow w.heap.size 54 3 v ys.length (ys.flatMap Ow.enc)) (hn : v ≠ .slice none 0 0) (hb : Below w.heap.size w w') : GivenAt w ys (.returned v) w' := by
  obtain ⟨g, cap, rfl, h1, h2⟩ := own_some h hn
  obtain ⟨h3, h4⟩ := Row.of_own h
  exact ⟨g, cap, rfl, h1, h2, h4, h3, hb⟩
/-- Dividing by the greatest common divisor: the reference. -/
theorem red_any (n m : Int) (W : World) (h0 : 0 ≤ n) (hm : 0 < m) (h1 : n ≤ 9223372036854775807) (h2 : m ≤ 9223372036854775807) :
    Calls Tryd.prog 69 #[.int .i64 n, .int .i64 m] W fun e w' => e = .returned (.tuple #[.int .i64 (rN n m), .int .i64 (rD n m)]) ∧ Below W.heap.size W w' := by
  obtain ⟨a, rfl⟩ : ∃ a : Nat, n = a := ⟨n.toNat, by omega⟩
  obtain ⟨b, rfl⟩ : ∃ b : Nat, m = b := ⟨m.toNat, by omega⟩
  exact l2Reduce_any a b W (by omega) h1 h2
theorem r_bd {n m : Int} (hm : 0 < m) : rD n m ≤ m ∧ 0 < rD n m ∧ (0 ≤ n → 0 ≤ rN n m ∧ rN n m ≤ n) := by
  obtain ⟨g, hg, e1, e2, e3⟩ := r_eq (n := n) hm
  refine ⟨?_, e3, fun h => ?_⟩
  · have := Int.mul_le_mul_of_nonneg_right (show (1 : Int) ≤ g by omega) (show 0 ≤ rD n m by omega)
    omega
  · have h0 : 0 ≤ rN n m := Int.ediv_nonneg h (by omega)
    have := Int.mul_le_mul_of_nonneg_right (show (1 : Int) ≤ g by omega) h0
    exact ⟨h0, by omega⟩
set_option maxHeartbeats 4000000 in
theorem reduced_any (n m : Int) (W : World) (h0 : 0 ≤ n) (hm : 0 < m) (h1 : n ≤ 9223372036854775807) (h2 : m ≤ 9223372036854775807) :
    Calls Tryd.prog 84 #[.int .i64 n, .int .i64 m] W fun e w' => e = .returned (.tuple #[.int .i64 (rN n m), .int .i64 (rD n m)]) ∧ Below W.heap.size W w' := by
  have hc : ∃ G : Int, 0 < G ∧ (n / G = rN n m ∧ m / G = rD n m) ∧ ∀ W, Calls Tryd.prog 63 #[.int .i64 n, .int .i64 m] W fun e w' => e = .returned (.int .i64 G) ∧ Below W.heap.size W w' := by
    refine ⟨(Int.gcd n m : Int), by have := Int.gcd_pos_of_ne_zero_right n (show m ≠ 0 by omega); omega, ⟨rfl, rfl⟩, fun W => ?_⟩
    obtain ⟨a, rfl⟩ : ∃ a : Nat, n = a := ⟨n.toNat, by omega⟩
    obtain ⟨b, rfl⟩ : ∃ b : Nat, m = b := ⟨m.toNat, by omega⟩
    exact gcd_any a b W h1 h2
  obtain ⟨G, hG, ⟨q1, q2⟩, hcc⟩ := hc
  have HC := Lib.hid hcc
  have hb := r_bd (n := n) hm
  obtain ⟨u, hu⟩ : ∃ u, rN n m = u := ⟨_, rfl⟩
  obtain ⟨v, hv⟩ : ∃ u, rD n m = u := ⟨_, rfl⟩
  rw [hu] at q1 hb ⊢
  rw [hv] at q2 hb ⊢
  have hb3 := hb.2.2 h0
  have t1 : n.tdiv G = u := by rw [Int.tdiv_eq_ediv_of_nonneg h0]; exact q1
  have t2 : m.tdiv G = v := by rw [Int.tdiv_eq_ediv_of_nonneg (by omega)]; exact q2
  have s1 : wrap64 u = u := wrap_in' ⟨by omega, by omega⟩
  have s2 : wrap64 v = v := wrap_in' ⟨by omega, by omega⟩
  have hG0 : ¬ G = 0 := by omega
  clear hcc hu hv
  go_enter Tryd.func84, Tryd.ntmps84
  go_wp2_with fail
  (go_at_call 63; refine (HC.out _).mono ?_; rintro e w1 ⟨rfl, hb1⟩)
  (have hs1 := hb1.size; (try simp at hs1); obtain ⟨hc1, hf1, hn1⟩ := bcell hb1; (try have hz1_w_0 : w.heap.size < w1.heap.size := by omega); (try have hz1_w_1 : w.heap.size + 1 < w1.heap.size := by omega); (try have hz1_w_2 : w.heap.size + 2 < w1.heap.size := by omega); (try have hz1_w_2b : w.heap.size + 1 + 1 < w1.heap.size := by omega))
  go_wp2_with fail
  refine wp_region_quiet_below (by kernel_rfl) (by kernel_rfl) ?_
  repeat (go_big_quiet_step (fail))
  (refine wpQuiet_nil ?_; intro w2 hwq; have hb2 := of_cls hwq; clear hwq)
  (have hs2 := hb2.size; (try simp at hs2); obtain ⟨hc2, hf2, hn2⟩ := bcell hb2; (try have hz2_w_0 : w.heap.size < w2.heap.size := by omega); (try have hz2_w_1 : w.heap.size + 1 < w2.heap.size := by omega); (try have hz2_w_2 : w.heap.size + 2 < w2.heap.size := by omega); (try have hz2_w_2b : w.heap.size + 1 + 1 < w2.heap.size := by omega); (try have hz2_w1_0 : w1.heap.size < w2.heap.size := by omega); (try have hz2_w1_1 : w1.heap.size + 1 < w2.heap.size := by omega); (try have hz2_w1_2 : w1.heap.size + 2 < w2.heap.size := by omega); (try have hz2_w1_2b : w1.heap.size + 1 + 1 < w2.heap.size := by omega))
  go_wp2_with fail
  go_ret2
  exact ⟨rfl, (by repeat' (first | (with_reducible exact Below.refl _ _) | (with_reducible refine Below.alloc ?_ ?_ _) | (with_reducible refine Below.setCell ?_ ?_ _) | (with_reducible refine Below.drew ?_) | (with_reducible refine Below.trans ?_ (Below.mono (by with_reducible assumption) ?_)) | omega | (simp; done) | (simp; omega)))⟩
set_option maxRecDepth 10000 in
set_option maxHeartbeats 8000000 in
theorem l22Give_no (ad : Addr) (c : Nat) (xs : List Ow) (t : ByteArray) (n d : Int) (w : World) (h : Rd w w.heap.size (some ad) 3 Ow.enc xs) (hx : xs.length ≤ 1048575) (hno : ∀ j, j < xs.length → (el xs j).s ≠ t) :
    Calls Tryd.prog 81 #[.slice (some ad) xs.length c, .string t, .int .i64 n, .int .i64 d] w fun e w' => GivenAt w (giveL xs t n d) e w' := by
  rw [giveL_no hno]
  have hat := owAtN_none (xs := xs) (s := t) hno
  obtain ⟨i0, hi, hz0, hz1, hz2⟩ := info_parts ow_info
  have hinfo := Lib.hid (And.intro hi (And.intro hz0 (And.intro hz1 hz2)))
  clear hi hz0 hz1 hz2 hno
  go_enter Tryd.func81, Tryd.ntmps81
  go_wp2_with (at_builtin; refine wpList_append_own _ rfl _ _ 25 rfl w.heap.size 54 i0 _ 3 32 Tryd.underlying25 hinfo.out.1 hinfo.out.2.1 hinfo.out.2.2.1 hinfo.out.2.2.2 rfl (by decide) _ _ _ rfl (own_empty 3 (Nat.le_refl _) (heap_alloc_new w _)) ad _ _ (xs.flatMap Ow.enc) rfl (flat_len Ow.enc_len xs) ((h.to (by repeat' (first | (with_reducible exact Below.refl _ _) | (with_reducible refine Below.alloc ?_ ?_ _) | (with_reducible refine Below.setCell ?_ ?_ _) | (with_reducible refine Below.drew ?_) | (with_reducible refine Below.trans ?_ (Below.mono (by with_reducible assumption) ?_)) | omega | (simp; done) | (simp; omega)))).news Ow.enc_len) (flat_one Ow.enc_one) (by unfold maxLen; omega) (by omega) (by simp) ?_)
  intro v1 w1 hown1 hgrow hnil
  have hb1 : Below w.heap.size w w1 := own_grew (own_empty (W := w.alloc (.cells #[] 54)) 3 (Nat.le_refl _) (heap_alloc_new w _)) (show Below w.heap.size w (w.alloc _) from (by repeat' (first | (with_reducible exact Below.refl _ _) | (with_reducible refine Below.alloc ?_ ?_ _) | (with_reducible refine Below.setCell ?_ ?_ _) | (with_reducible refine Below.drew ?_) | (with_reducible refine Below.trans ?_ (Below.mono (by with_reducible assumption) ?_)) | omega | (simp; done) | (simp; omega)))) (by simp) hgrow
  have hn1 : v1 ≠ .slice none 0 0 := hnil
  have hown1 : w1.ownsRow w.heap.size 54 3 v1 xs.length (xs.flatMap Ow.enc) := by simpa using hown1
  obtain ⟨g1, c1, rfl, k1, k2⟩ := own_some hown1 hn1
  obtain ⟨row1, hg1⟩ := Row.of_own hown1
  have hs1 := hb1.size
  have HO := Lib.hid hown1
  have HR := Lib.hid row1
  clear hown1 row1 hgrow hnil
  go_wp2_with fail
  refine (l22Find_any _ _ xs t _ (HR.out.rdTo Ow.enc_len (by repeat' (first | (with_reducible exact Below.refl _ _) | (with_reducible refine Below.alloc ?_ ?_ _) | (with_reducible refine Below.setCell ?_ ?_ _) | (with_reducible refine Below.drew ?_) | (with_reducible refine Below.trans ?_ (Below.mono (by with_reducible assumption) ?_)) | omega | (simp; done) | (simp; omega)))) (by omega)).mono ?_
  rintro e w2 ⟨rfl, hb2⟩
  have hs2 := hb2.size
  rw [hat]
  go_wp2_with (at_builtin; refine wpList_append_own_at _ rfl _ _ 25 rfl w.heap.size 54 _ _ 3 32 Tryd.underlying25 hinfo.out.1 hinfo.out.2.1 hinfo.out.2.2.1 hinfo.out.2.2.2 rfl (by decide) _ _ _ rfl (own_to (own_to HO.out (show Below w1.heap.size w1 w2 from (by repeat' (first | (with_reducible exact Below.refl _ _) | (with_reducible refine Below.alloc ?_ ?_ _) | (with_reducible refine Below.setCell ?_ ?_ _) | (with_reducible refine Below.drew ?_) | (with_reducible refine Below.trans ?_ (Below.mono (by with_reducible assumption) ?_)) | omega | (simp; done) | (simp; omega))))) (by repeat' (first | (with_reducible exact Below.refl _ _) | (with_reducible refine Below.alloc ?_ ?_ _) | (with_reducible refine Below.setCell ?_ ?_ _) | (with_reducible refine Below.drew ?_) | (with_reducible refine Below.trans ?_ (Below.mono (by with_reducible assumption) ?_)) | omega | (simp; done) | (simp; omega)))) _ 1 1 [.string t, .int .i64 n, .int .i64 d] rfl rfl (news_top (cs := #[.string t, .int .i64 n, .int .i64 d]) (t := 54) (by simp)) (by simp [Value.oneCell']) (by unfold maxLen; omega) (by omega) (by simp; omega) ?_)
  intro v9 w9 hown9 hgrow9 hnil9 hat9
  have hb9 : Below w.heap.size w w9 := own_grew HO.out (by repeat' (first | (with_reducible exact Below.refl _ _) | (with_reducible refine Below.alloc ?_ ?_ _) | (with_reducible refine Below.setCell ?_ ?_ _) | (with_reducible refine Below.drew ?_) | (with_reducible refine Below.trans ?_ (Below.mono (by with_reducible assumption) ?_)) | omega | (simp; done) | (simp; omega))) (by first | omega | (simp; done) | (simp; omega)) hgrow9
  have hn9 : v9 ≠ .slice none 0 0 := hnil9
  have e1 : xs.flatMap Ow.enc ++ [.string t, .int .i64 n, .int .i64 d] = (xs ++ ([⟨t, n, d⟩] : List Ow)).flatMap Ow.enc := by simp [Ow.enc]
  rw [e1] at hown9
  have H9 := Lib.hid hown9
  clear hown9 hgrow9 hnil9 hat9
  go_wp2_with fail
  go_ret
  exact GivenAt.of_own (by simpa using H9.out) hn9 hb9
theorem mulb {a b : Int} (ha : -1000000 ≤ a ∧ a ≤ 1000000) (hb : 1 ≤ b ∧ b ≤ 1000000) : -1000000000000 ≤ a * b ∧ a * b ≤ 1000000000000 := by
  rcases Int.lt_or_le a 0 with h | h
  · have h1 := Int.mul_le_mul (show -a ≤ 1000000 by omega) hb.2 (by omega) (by omega)
    have h2 := Int.mul_nonneg (show 0 ≤ -a by omega) (show 0 ≤ b by omega)
    rw [Int.neg_mul] at h1 h2
    omega
  · have h1 := Int.mul_le_mul ha.2 hb.2 (by omega) (by omega)
    have h2 := Int.mul_nonneg h (show 0 ≤ b by omega)
    omega
theorem set_ow {s : ByteArray} {a d : Int} : ∀ (xs : List Ow) (k : Nat), k < xs.length → (((xs.flatMap Ow.enc).set (k * 3) (.string s)).set (k * 3 + 1) (.int .i64 a)).set (k * 3 + 2) (.int .i64 d) = (xs.set k ⟨s, a, d⟩).flatMap Ow.enc
  | [], k, h => by simp at h
  | x :: xs, 0, h => by simp [Ow.enc]
  | x :: xs, k + 1, h => by
    have h1 := set_ow (s := s) (a := a) (d := d) xs k (by simpa using h)
    rw [List.flatMap_cons, List.set_cons_succ, List.flatMap_cons, ← h1, List.set_append_right _ _ (by simp [Ow.enc]; omega), List.set_append_right _ _ (by simp [Ow.enc]; omega), List.set_append_right _ _ (by simp [Ow.enc]; omega)]
    simp only [Ow.enc_len]
    rw [show (k + 1) * 3 - 3 = k * 3 by omega, show (k + 1) * 3 + 1 - 3 = k * 3 + 1 by omega, show (k + 1) * 3 + 2 - 3 = k * 3 + 2 by omega]
set_option maxRecDepth 100000 in
set_option maxHeartbeats 8000000 in
theorem l22Give_zero (ad : Addr) (c : Nat) (xs : List Ow) (t : ByteArray) (n d : Int) (j : Nat) (w : World) (h : Rd w w.heap.size (some ad) 3 Ow.enc xs) (hx : xs.length ≤ 1048575) (hj : j < xs.length) (h1 : (el xs j).s = t) (h2 : ∀ i, i < j → (el xs i).s ≠ t) (hb : ((-1000000 ≤ (el xs j).n ∧ (el xs j).n ≤ 1000000) ∧ 1 ≤ (el xs j).d ∧ (el xs j).d ≤ 1000000) ∧ (-1000000 ≤ n ∧ n ≤ 1000000) ∧ 1 ≤ d ∧ d ≤ 1000000) (hs : (el xs j).n * d + n * (el xs j).d = 0) :
    Calls Tryd.prog 81 #[.slice (some ad) xs.length c, .string t, .int .i64 n, .int .i64 d] w fun e w' => GivenAt w (giveL xs t n d) e w' := by
  rw [giveL_at hj h1 h2, if_pos hs]
  have hat := owAtN_first h1 h2 hj
  have b1 := mulb hb.1.1 hb.2.2
  have b2 := mulb hb.2.1 hb.1.2
  obtain ⟨p1, hp1⟩ : ∃ p, (el xs j).n * d = p := ⟨_, rfl⟩
  obtain ⟨p2, hp2⟩ : ∃ p, n * (el xs j).d = p := ⟨_, rfl⟩
  rw [hp1, hp2] at hs
  rw [hp1] at b1
  rw [hp2] at b2
  have v1 : wrap64 ((el xs j).n * d) = p1 := by rw [hp1]; exact wrap_in' ⟨by omega, by omega⟩
  have v2 : wrap64 (n * (el xs j).d) = p2 := by rw [hp2]; exact wrap_in' ⟨by omega, by omega⟩
  have v3 : wrap64 (p1 + p2) = 0 := by rw [hs]; exact wrap_in' ⟨by omega, by omega⟩
  clear hp1 hp2 hb h1 h2
  obtain ⟨i0, hi, hz0, hz1, hz2⟩ := info_parts ow_info
  have hinfo := Lib.hid (And.intro hi (And.intro hz0 (And.intro hz1 hz2)))
  clear hi hz0 hz1 hz2
  go_enter Tryd.func81, Tryd.ntmps81
  go_wp2_with (at_builtin; refine wpList_append_own _ rfl _ _ 25 rfl w.heap.size 54 i0 _ 3 32 Tryd.underlying25 hinfo.out.1 hinfo.out.2.1 hinfo.out.2.2.1 hinfo.out.2.2.2 rfl (by decide) _ _ _ rfl (own_empty 3 (Nat.le_refl _) (heap_alloc_new w _)) ad _ _ (xs.flatMap Ow.enc) rfl (flat_len Ow.enc_len xs) ((h.to (by repeat' (first | (with_reducible exact Below.refl _ _) | (with_reducible refine Below.alloc ?_ ?_ _) | (with_reducible refine Below.setCell ?_ ?_ _) | (with_reducible refine Below.drew ?_) | (with_reducible refine Below.trans ?_ (Below.mono (by with_reducible assumption) ?_)) | omega | (simp; done) | (simp; omega)))).news Ow.enc_len) (flat_one Ow.enc_one) (by unfold maxLen; omega) (by omega) (by simp) ?_)
  intro v1 w1 hown1 hgrow hnil
  have hb1 : Below w.heap.size w w1 := own_grew (own_empty (W := w.alloc (.cells #[] 54)) 3 (Nat.le_refl _) (heap_alloc_new w _)) (show Below w.heap.size w (w.alloc _) from (by repeat' (first | (with_reducible exact Below.refl _ _) | (with_reducible refine Below.alloc ?_ ?_ _) | (with_reducible refine Below.setCell ?_ ?_ _) | (with_reducible refine Below.drew ?_) | (with_reducible refine Below.trans ?_ (Below.mono (by with_reducible assumption) ?_)) | omega | (simp; done) | (simp; omega)))) (by simp) hgrow
  have hn1 : v1 ≠ .slice none 0 0 := hnil
  have hown1 : w1.ownsRow w.heap.size 54 3 v1 xs.length (xs.flatMap Ow.enc) := by simpa using hown1
  obtain ⟨g1, c1, rfl, k1, k2⟩ := own_some hown1 hn1
  obtain ⟨row1, hg1⟩ := Row.of_own hown1
  have hs1 := hb1.size
  have HO := Lib.hid hown1
  have HR := Lib.hid row1
  clear hown1 row1 hgrow hnil
  go_wp2_with fail
  refine (l22Find_any _ _ xs t _ (HR.out.rdTo Ow.enc_len (by repeat' (first | (with_reducible exact Below.refl _ _) | (with_reducible refine Below.alloc ?_ ?_ _) | (with_reducible refine Below.setCell ?_ ?_ _) | (with_reducible refine Below.drew ?_) | (with_reducible refine Below.trans ?_ (Below.mono (by with_reducible assumption) ?_)) | omega | (simp; done) | (simp; omega)))) (by omega)).mono ?_
  rintro e w2 ⟨rfl, hb2⟩
  have hs2 := hb2.size
  rw [hat]
  have hj0 : ¬ (j : Int) < 0 := by omega
  have hjI : (j : Int) < xs.length := by omega
  have hjI0 : (0 : Int) ≤ j := by omega
  have hR2 := HR.out.to hb2
  obtain ⟨b, o, e, _, q0, q1, q2⟩ := ow_cells (hR2.rd Ow.enc_len hR2.lt) hj
  obtain ⟨rfl, rfl⟩ : g1 = b ∧ 0 = o := by simpa using e
  simp only [Nat.zero_add] at q0 q1 q2
  have hB1 : g1 < w2.heap.size := hR2.lt
  have HR2 := Lib.hid hR2
  have HB2 := Lib.hid (hb1.trans (hb2.mono hs1))
  clear hR2 e HR HO
  go_wp2_with fail
  go_wp2_with fail
  refine wp_region_quiet_below (by kernel_rfl) (by kernel_rfl) ?_
  repeat (go_big_quiet_step (fail))
  (refine wpQuiet_nil ?_; intro w1 hwq; have hb1 := of_cls hwq; clear hwq)
  (have hs1 := hb1.size; (try simp at hs1); obtain ⟨hc1, hf1, hn1⟩ := bcell hb1; (try have hz1_w_0 : w.heap.size < w1.heap.size := by omega); (try have hz1_w_1 : w.heap.size + 1 < w1.heap.size := by omega); (try have hz1_w_2 : w.heap.size + 2 < w1.heap.size := by omega); (try have hz1_w_2b : w.heap.size + 1 + 1 < w1.heap.size := by omega))
  go_upto_region 7 with (fail)
  refine cut_world (fun W => Row W g1 54 (xs.flatMap Ow.enc) ∧ Below w.heap.size w W) ⟨HR2.out.to (by repeat' (first | (with_reducible exact Below.refl _ _) | (with_reducible refine Below.alloc ?_ ?_ _) | (with_reducible refine Below.setCell ?_ ?_ _) | (with_reducible refine Below.drew ?_) | (with_reducible refine Below.trans ?_ (Below.mono (by with_reducible assumption) ?_)) | omega | (simp; done) | (simp; omega))), (by repeat' (first | (with_reducible exact Below.refl _ _) | (with_reducible refine Below.alloc ?_ ?_ _) | (with_reducible refine Below.setCell ?_ ?_ _) | (with_reducible refine Below.drew ?_) | (with_reducible refine Below.trans ?_ (Below.mono (by with_reducible assumption) ?_)) | omega | (simp; done) | (simp; omega)))⟩ ?_
  clear q0 q1 q2 HR2 HB2 hB1 hb1 hb2 hs1 hs2
  rintro w3 ⟨row3, hb3⟩
  have hs3 := hb3.size
  have hlt3 := row3.lt
  have hR3 := row3.rd Ow.enc_len hlt3
  have hcc2 : (xs.length : Int) ≤ c1 := by omega
  have hkc : j ≤ c1 := by omega
  have hkc0 : (0 : Int) ≤ (j : Int) + 1 := by omega
  have hkc1 : (j : Int) + 1 ≤ xs.length := by omega
  have hkc2 : (j : Int) ≤ c1 := by omega
  have hkc3 : j ≤ xs.length := by omega
  have hkc4 : j + 1 ≤ xs.length := by omega
  have hadr : xs.length - (j + 1) = 0 ∨ (if c1 = j + 1 then (⟨g1, 0, none⟩ : Addr) else ⟨g1, 0 + (j + 1) * 3, none⟩) = ⟨g1, 0 + (j + 1) * 3, none⟩ := by
    by_cases hc : c1 = j + 1
    · left; omega
    · right; rw [if_neg hc]
  have hX : (if c1 = j + 1 then some (⟨g1, 0, none⟩ : Addr) else some ⟨g1, (j + 1) * 3, none⟩) = some (if c1 = j + 1 then ⟨g1, 0, none⟩ else ⟨g1, 0 + (j + 1) * 3, none⟩) := by
    by_cases hc : c1 = j + 1 <;> simp [hc]
  have HX := Lib.hid (And.intro hadr hX)
  have HR3 := Lib.hid hR3
  have hb1' := hb3
  clear hadr hX row3 hR3
  have hwr : IntKind.i64.wrap ((j : Int) + 1) = (j : Int) + 1 := IntWalk.i64_in _ (by omega)
  have htn : ((j : Int) + 1).toNat = j + 1 := by omega
  go_region_held3 (fun _ => True) (trivial)
    (first
      | (refine step_append_own (by rfl) (.tmp 46) _ _ (by rfl) w.heap.size 54 i0 _ 3 32 Tryd.underlying25 hinfo.out.1 hinfo.out.2.1 hinfo.out.2.2.1 hinfo.out.2.2.2 rfl (by decide) _ _ _ (by rfl) (own_empty 3 (by first | omega | (simp; done) | (simp; omega)) (heap_alloc_new _ _)) _ _ _ ((xs.take j).flatMap Ow.enc) (by rfl) (len_take Ow.enc_len xs hkc3) (news_take (HR3.out.to (by repeat' (first | (with_reducible exact Below.refl _ _) | (with_reducible refine Below.alloc ?_ ?_ _) | (with_reducible refine Below.setCell ?_ ?_ _) | (with_reducible refine Below.drew ?_) | (with_reducible refine Below.trans ?_ (Below.mono (by with_reducible assumption) ?_)) | omega | (simp; done) | (simp; omega)))) Ow.enc_len hkc3) (flat_one Ow.enc_one) (by unfold maxLen; omega) (by omega) (by first | omega | (simp; done) | (simp; omega)) ?_; intro v2 w4 own2 hgr2 hnil2; have hb4 := grew_new hb1' hgr2; have hb43 := grew_new (Below.refl w3.heap.size w3) hgr2; have hs4 := hb4.size; (try simp at hs4))
      | (refine step_append_at (by rfl) (.tmp 50) _ _ (by rfl) w.heap.size 54 i0 _ 3 32 Tryd.underlying25 hinfo.out.1 hinfo.out.2.1 hinfo.out.2.2.1 hinfo.out.2.2.2 rfl (by decide) v2 _ _ (by rfl) own2 (if c1 = j + 1 then ⟨g1, 0, none⟩ else ⟨g1, 0 + (j + 1) * 3, none⟩) _ _ _ ((xs.drop (j + 1)).flatMap Ow.enc) (by rfl) HX.out.2 (len_drop Ow.enc_len xs _) (news_drop (HR3.out.to hb43) Ow.enc_len hkc4 HX.out.1) (flat_one Ow.enc_one) (by unfold maxLen; omega) (by omega) (by first | omega | (simp; done) | (simp; omega)) ?_; intro v3 w5 own3 hgr3 hnil3; have hb5 : Below w.heap.size w w5 := own_grew own2 (by repeat' (first | (with_reducible exact Below.refl _ _) | (with_reducible refine Below.alloc ?_ ?_ _) | (with_reducible refine Below.setCell ?_ ?_ _) | (with_reducible refine Below.drew ?_) | (with_reducible refine Below.trans ?_ (Below.mono (by with_reducible assumption) ?_)) | omega | (simp; done) | (simp; omega))) (by first | omega | (simp; done) | (simp; omega)) hgr3))
  clear hwr htn
  go_wp2_with fail
  all_goals
    go_ret
    have hxl : 0 + j + (xs.length - (j + 1)) = (delL xs j).length := by rw [del_len hj]; omega
    have hfl : [] ++ (xs.take j).flatMap Ow.enc ++ (xs.drop (j + 1)).flatMap Ow.enc = (delL xs j).flatMap Ow.enc := by simp [delL]
    rw [hxl, hfl] at own3
    have hn2 : v2 ≠ .slice none 0 0 := fun e => by have := (hnil2.1 e).1; simp at this
    have hn3 : v3 ≠ .slice none 0 0 := fun e => hn2 (hnil3.1 e).1
    exact GivenAt.of_own own3 hn3 hb5
set_option maxRecDepth 100000 in
set_option maxHeartbeats 8000000 in
theorem l22Give_set (ad : Addr) (c : Nat) (xs : List Ow) (t : ByteArray) (n d : Int) (j : Nat) (w : World) (h : Rd w w.heap.size (some ad) 3 Ow.enc xs) (hx : xs.length ≤ 1048575) (hj : j < xs.length) (h1 : (el xs j).s = t) (h2 : ∀ i, i < j → (el xs i).s ≠ t) (hb : ((-1000000 ≤ (el xs j).n ∧ (el xs j).n ≤ 1000000) ∧ 1 ≤ (el xs j).d ∧ (el xs j).d ≤ 1000000) ∧ (-1000000 ≤ n ∧ n ≤ 1000000) ∧ 1 ≤ d ∧ d ≤ 1000000) (hs : (el xs j).n * d + n * (el xs j).d ≠ 0) :
    Calls Tryd.prog 81 #[.slice (some ad) xs.length c, .string t, .int .i64 n, .int .i64 d] w fun e w' => GivenAt w (giveL xs t n d) e w' := by
  rw [giveL_at hj h1 h2, if_neg hs]
  have hat := owAtN_first h1 h2 hj
  have b1 := mulb hb.1.1 hb.2.2
  have b2 := mulb hb.2.1 hb.1.2
  have b3 := mulb (show -1000000 ≤ (el xs j).d ∧ (el xs j).d ≤ 1000000 by omega) hb.2.2
  have b4 := Int.mul_pos (show 0 < (el xs j).d by omega) (show 0 < d by omega)
  obtain ⟨p1, hp1⟩ : ∃ p, (el xs j).n * d = p := ⟨_, rfl⟩
  obtain ⟨p2, hp2⟩ : ∃ p, n * (el xs j).d = p := ⟨_, rfl⟩
  obtain ⟨m, hm⟩ : ∃ p, (el xs j).d * d = p := ⟨_, rfl⟩
  obtain ⟨s, hss⟩ : ∃ p, p1 + p2 = p := ⟨_, rfl⟩
  rw [hp1, hp2, hm]
  rw [hp1, hp2] at hs
  rw [hp1] at b1
  rw [hp2] at b2
  rw [hm] at b3 b4
  rw [hss] at hs ⊢
  have v1 : wrap64 ((el xs j).n * d) = p1 := by rw [hp1]; exact wrap_in' ⟨by omega, by omega⟩
  have v2 : wrap64 (n * (el xs j).d) = p2 := by rw [hp2]; exact wrap_in' ⟨by omega, by omega⟩
  have v3 : wrap64 (p1 + p2) = s := by rw [hss]; exact wrap_in' ⟨by omega, by omega⟩
  have v4 : wrap64 ((el xs j).d * d) = m := by rw [hm]; exact wrap_in' ⟨by omega, by omega⟩
  have v5 : wrap64 (-s) = -s := wrap_in' ⟨by omega, by omega⟩
  have hrb := r_bd (n := s) b4
  have hrn := r_bd (n := -s) b4
  have hneg := r_neg s m
  rw [hneg.1, hneg.2] at hrn
  obtain ⟨rn, hrN⟩ : ∃ u, rN s m = u := ⟨_, rfl⟩
  obtain ⟨rd, hrD⟩ : ∃ u, rD s m = u := ⟨_, rfl⟩
  rw [hrN, hrD] at hrb hrn hneg
  rw [hrN, hrD]
  clear hp1 hp2 hm hb h1 h2
  have hcc : ∃ u a : Int, mx s (-s) = u ∧ (s < 0 → a = -rn) ∧ (0 < s → a = rn) ∧ ∀ W, Calls Tryd.prog 69 #[.int .i64 u, .int .i64 m] W fun e w' => e = .returned (.tuple #[.int .i64 a, .int .i64 rd]) ∧ Below W.heap.size W w' := by
    rcases Int.lt_or_le s 0 with hlt | hge
    · refine ⟨-s, -rn, by unfold mx; rw [if_pos (by omega)], fun _ => rfl, fun h => by omega, fun W => ?_⟩
      have := red_any (-s) m W (by omega) b4 (by omega) (by omega)
      rwa [hneg.1, hneg.2] at this
    · refine ⟨s, rn, by unfold mx; rw [if_neg (by omega)], fun h => by omega, fun _ => rfl, fun W => ?_⟩
      have := red_any s m W (by omega) b4 (by omega) (by omega)
      rwa [hrN, hrD] at this
  obtain ⟨u, a, hu, ha1, ha2, hcc⟩ := hcc
  have HC := Lib.hid hcc
  have hs0 : ¬ s = 0 := hs
  clear hcc hneg hrN hrD
  obtain ⟨i0, hi, hz0, hz1, hz2⟩ := info_parts ow_info
  have hinfo := Lib.hid (And.intro hi (And.intro hz0 (And.intro hz1 hz2)))
  clear hi hz0 hz1 hz2
  go_enter Tryd.func81, Tryd.ntmps81
  go_wp2_with (at_builtin; refine wpList_append_own _ rfl _ _ 25 rfl w.heap.size 54 i0 _ 3 32 Tryd.underlying25 hinfo.out.1 hinfo.out.2.1 hinfo.out.2.2.1 hinfo.out.2.2.2 rfl (by decide) _ _ _ rfl (own_empty 3 (Nat.le_refl _) (heap_alloc_new w _)) ad _ _ (xs.flatMap Ow.enc) rfl (flat_len Ow.enc_len xs) ((h.to (by repeat' (first | (with_reducible exact Below.refl _ _) | (with_reducible refine Below.alloc ?_ ?_ _) | (with_reducible refine Below.setCell ?_ ?_ _) | (with_reducible refine Below.drew ?_) | (with_reducible refine Below.trans ?_ (Below.mono (by with_reducible assumption) ?_)) | omega | (simp; done) | (simp; omega)))).news Ow.enc_len) (flat_one Ow.enc_one) (by unfold maxLen; omega) (by omega) (by simp) ?_)
  intro v1 w1 hown1 hgrow hnil
  have hb1 : Below w.heap.size w w1 := own_grew (own_empty (W := w.alloc (.cells #[] 54)) 3 (Nat.le_refl _) (heap_alloc_new w _)) (show Below w.heap.size w (w.alloc _) from (by repeat' (first | (with_reducible exact Below.refl _ _) | (with_reducible refine Below.alloc ?_ ?_ _) | (with_reducible refine Below.setCell ?_ ?_ _) | (with_reducible refine Below.drew ?_) | (with_reducible refine Below.trans ?_ (Below.mono (by with_reducible assumption) ?_)) | omega | (simp; done) | (simp; omega)))) (by simp) hgrow
  have hn1 : v1 ≠ .slice none 0 0 := hnil
  have hown1 : w1.ownsRow w.heap.size 54 3 v1 xs.length (xs.flatMap Ow.enc) := by simpa using hown1
  obtain ⟨g1, c1, rfl, k1, k2⟩ := own_some hown1 hn1
  obtain ⟨row1, hg1⟩ := Row.of_own hown1
  have hs1 := hb1.size
  have HO := Lib.hid hown1
  have HR := Lib.hid row1
  clear hown1 row1 hgrow hnil
  go_wp2_with fail
  refine (l22Find_any _ _ xs t _ (HR.out.rdTo Ow.enc_len (by repeat' (first | (with_reducible exact Below.refl _ _) | (with_reducible refine Below.alloc ?_ ?_ _) | (with_reducible refine Below.setCell ?_ ?_ _) | (with_reducible refine Below.drew ?_) | (with_reducible refine Below.trans ?_ (Below.mono (by with_reducible assumption) ?_)) | omega | (simp; done) | (simp; omega)))) (by omega)).mono ?_
  rintro e w2 ⟨rfl, hb2⟩
  have hs2 := hb2.size
  rw [hat]
  have hj0 : ¬ (j : Int) < 0 := by omega
  have hjI : (j : Int) < xs.length := by omega
  have hjI0 : (0 : Int) ≤ j := by omega
  have hR2 := HR.out.to hb2
  obtain ⟨b, o, e, _, q0, q1, q2⟩ := ow_cells (hR2.rd Ow.enc_len hR2.lt) hj
  obtain ⟨rfl, rfl⟩ : g1 = b ∧ 0 = o := by simpa using e
  simp only [Nat.zero_add] at q0 q1 q2
  have hB1 : g1 < w2.heap.size := hR2.lt
  have HR2 := Lib.hid hR2
  have HB2 := Lib.hid (hb1.trans (hb2.mono hs1))
  clear hR2 e HR HO
  go_wp2_with fail
  go_wp2_with fail
  refine wp_region_quiet_below (by kernel_rfl) (by kernel_rfl) ?_
  repeat (go_big_quiet_step (fail))
  (refine wpQuiet_nil ?_; intro w1 hwq; have hb1 := of_cls hwq; clear hwq)
  (have hs1 := hb1.size; (try simp at hs1); obtain ⟨hc1, hf1, hn1⟩ := bcell hb1; (try have hz1_w_0 : w.heap.size < w1.heap.size := by omega); (try have hz1_w_1 : w.heap.size + 1 < w1.heap.size := by omega); (try have hz1_w_2 : w.heap.size + 2 < w1.heap.size := by omega); (try have hz1_w_2b : w.heap.size + 1 + 1 < w1.heap.size := by omega))
  go_wp2_with fail
  go_wp2_with fail
  refine wp_region_quiet_below (by kernel_rfl) (by kernel_rfl) ?_
  repeat (go_big_quiet_step ((first | (go_at_call 104; exact Calls.regrown_of (same_below (l1Most_any _ _ _))) | (go_at_call 69; exact Calls.regrown_of (HC.out _)))))
  (refine wpQuiet_nil ?_; intro w2 hwq; have hb2 := of_cls hwq; clear hwq)
  (have hs2 := hb2.size; (try simp at hs2); obtain ⟨hc2, hf2, hn2⟩ := bcell hb2; (try have hz2_w_0 : w.heap.size < w2.heap.size := by omega); (try have hz2_w_1 : w.heap.size + 1 < w2.heap.size := by omega); (try have hz2_w_2 : w.heap.size + 2 < w2.heap.size := by omega); (try have hz2_w_2b : w.heap.size + 1 + 1 < w2.heap.size := by omega); (try have hz2_w1_0 : w1.heap.size < w2.heap.size := by omega); (try have hz2_w1_1 : w1.heap.size + 1 < w2.heap.size := by omega); (try have hz2_w1_2 : w1.heap.size + 2 < w2.heap.size := by omega); (try have hz2_w1_2b : w1.heap.size + 1 + 1 < w2.heap.size := by omega))
  refine cut_world (fun W => Row W g1 54 (xs.flatMap Ow.enc) ∧ Below w.heap.size w W) ⟨HR2.out.to (by repeat' (first | (with_reducible exact Below.refl _ _) | (with_reducible refine Below.alloc ?_ ?_ _) | (with_reducible refine Below.setCell ?_ ?_ _) | (with_reducible refine Below.drew ?_) | (with_reducible refine Below.trans ?_ (Below.mono (by with_reducible assumption) ?_)) | omega | (simp; done) | (simp; omega))), (by repeat' (first | (with_reducible exact Below.refl _ _) | (with_reducible refine Below.alloc ?_ ?_ _) | (with_reducible refine Below.setCell ?_ ?_ _) | (with_reducible refine Below.drew ?_) | (with_reducible refine Below.trans ?_ (Below.mono (by with_reducible assumption) ?_)) | omega | (simp; done) | (simp; omega)))⟩ ?_
  clear q0 q1 q2 HR2 HB2 hB1 hb1 hb2 hs1 hs2 HC
  rintro w5 ⟨row5, hb5⟩
  have hs5 := hb5.size
  have hlt5 := row5.lt
  obtain ⟨b, o, e, _, q0, q1, q2⟩ := ow_cells (row5.rd Ow.enc_len hlt5) hj
  obtain ⟨rfl, rfl⟩ : g1 = b ∧ 0 = o := by simpa using e
  simp only [Nat.zero_add] at q0 q1 q2
  have f0 := row5.frozen (j * 3)
  have f1 := row5.frozen (j * 3 + 1)
  have f2 := row5.frozen (j * 3 + 2)
  have r5 := ((row5.set (j := j * 3) (.string t)).set (j := j * 3 + 1) (.int .i64 rn)).set (j := j * 3 + 2) (.int .i64 rd)
  rw [set_ow xs j hj] at r5
  have R5 := Lib.hid r5
  clear r5 row5 e
  have hl1 : (xs.set j (⟨t, rn, rd⟩ : Ow)).length = xs.length := List.length_set
  rcases Int.lt_or_le s 0 with hlt | hge
  · have v6 : wrap64 (-a) = rn := by rw [ha1 hlt, Int.neg_neg]; exact wrap_in' ⟨by omega, by omega⟩
    clear ha1 ha2
    go_wp2_with fail
    go_ret
    exact GivenAt.mk' hl1 k1 k2 hg1 R5.out (by repeat' (first | (with_reducible exact Below.refl _ _) | (with_reducible refine Below.alloc ?_ ?_ _) | (with_reducible refine Below.setCell ?_ ?_ _) | (with_reducible refine Below.drew ?_) | (with_reducible refine Below.trans ?_ (Below.mono (by with_reducible assumption) ?_)) | omega | (simp; done) | (simp; omega)))
  · obtain rfl := ha2 (by omega)
    have hge' : ¬ s < 0 := by omega
    clear ha1 ha2
    go_wp2_with fail
    go_ret
    exact GivenAt.mk' hl1 k1 k2 hg1 R5.out (by repeat' (first | (with_reducible exact Below.refl _ _) | (with_reducible refine Below.alloc ?_ ?_ _) | (with_reducible refine Below.setCell ?_ ?_ _) | (with_reducible refine Below.drew ?_) | (with_reducible refine Below.trans ?_ (Below.mono (by with_reducible assumption) ?_)) | omega | (simp; done) | (simp; omega)))
theorem l22Give_any (ad : Addr) (c : Nat) (xs : List Ow) (t : ByteArray) (n d : Int) (w : World) (h : Rd w w.heap.size (some ad) 3 Ow.enc xs) (hx : xs.length ≤ 1048575)
    (hb : ∀ j, j < xs.length → (el xs j).s = t → ((-1000000 ≤ (el xs j).n ∧ (el xs j).n ≤ 1000000) ∧ 1 ≤ (el xs j).d ∧ (el xs j).d ≤ 1000000) ∧ (-1000000 ≤ n ∧ n ≤ 1000000) ∧ 1 ≤ d ∧ d ≤ 1000000) :
    Calls Tryd.prog 81 #[.slice (some ad) xs.length c, .string t, .int .i64 n, .int .i64 d] w fun e w' => GivenAt w (giveL xs t n d) e w' := by
  rcases owAtN_or xs t xs.length with ⟨_, hno⟩ | ⟨j, hj, _, h1, h2⟩
  · exact l22Give_no ad c xs t n d w h hx hno
  · by_cases hs : (el xs j).n * d + n * (el xs j).d = 0
    · exact l22Give_zero ad c xs t n d j w h hx hj h1 h2 (hb j hj h1) hs
    · exact l22Give_set ad c xs t n d j w h hx hj h1 h2 (hb j hj h1) hs
end Go.Proofs.YtimdnihadhbjpaaDoor
