/- Contract: the fewest owners with a majority, by the reference (chapter 22). -/
import Derived.Test.YtimdnihadhbjpaaDoorMajI
import Derived.Test.YtimdnihadhbjpaaDoorGive
set_option linter.unusedSimpArgs false
set_option linter.unusedVariables false
namespace Go.Proofs.YtimdnihadhbjpaaDoor
open Go.RowKit Go.Sort Go.Salt
attribute [local go_sem] cell_rg
theorem mk_own {w w' : World} {xs : List Ow} {v : Value} (hn : w'.ownsRow w.heap.size 3 1 v (mjR xs).length ((mjR xs).map nv)) (hw : Below w.heap.size w w') (hb : arB xs = true) :
    MadeAt w 3 ((mjL xs).flatMap ie) (mjL xs).length (fun v => .returned (.tuple #[v, .bool true])) (.returned (.tuple #[v, .bool true])) w' := by
  unfold mjL
  rw [nv_ie, List.length_map]
  exact MadeAt.of_own (fun v => .returned (.tuple #[v, .bool true])) hn hw
theorem own_below {w w' : World} {B E k n : Nat} {v : Value} {cs : List Value} (h : w.ownsRow B E k v n cs) (hb : Below w.heap.size w w') : w'.ownsRow B E k v n cs := own_keep h fun g _ hl => hb.block g hl
theorem own_fm {w : World} {B E k n : Nat} {v : Value} {cs : List Value} (h : w.ownsRow B E k v n cs) : ∃ A c, v = .slice A n c := by
  rcases h.2 with ⟨rfl, rfl⟩ | ⟨g, c, cur, rfl, _⟩
  · exact ⟨_, _, rfl⟩
  · exact ⟨_, _, rfl⟩
theorem idsM_zero : ∀ r k : Nat, idsM k r 0 = []
  | 0, _ => rfl
  | r + 1, k => by
    have hp : 0 < 2 ^ r := Nat.pow_pos (by omega)
    rw [idsM, if_neg (by omega), idsM_zero r]
theorem bit_mod {m r : Nat} : m % 2 ^ (r + 1) / 2 ^ r % 2 = m / 2 ^ r % 2 ∧ m % 2 ^ (r + 1) % 2 ^ r = m % 2 ^ r := by
  rw [Nat.pow_succ, Nat.mod_mul_right_div_self, Nat.mod_mod]
  exact ⟨rfl, Nat.mod_mod_of_dvd _ ⟨2, rfl⟩⟩
theorem bit_and (x : Nat) (h : x < 4611686018427387904) : bits .and .i64 (x : Int) 1 = ((x % 2 : Nat) : Int) := by
  have h1 : (BitVec.ofInt 64 (x : Int)).toNat = x := by
    rw [BitVec.ofInt_natCast, BitVec.toNat_ofNat]; exact Nat.mod_eq_of_lt (by omega)
  have h2 : (BitVec.ofInt 64 (1 : Int)).toNat = 1 := by decide
  show IntKind.i64.wrap ((BitVec.ofInt 64 (x : Int) &&& BitVec.ofInt 64 (1 : Int)).toNat : Int) = _
  rw [BitVec.toNat_and, h1, h2, Nat.and_one_is_mod]
  exact IntWalk.i64_in _ (by omega)
theorem bit_is {m r : Nat} (h : m ≤ 256) : (bits BinOp.and IntKind.i64 ((m : Int) / 2 ^ r) 1 == 1) = decide (m / 2 ^ r % 2 = 1) := by
  have e : (m : Int) / 2 ^ r = ((m / 2 ^ r : Nat) : Int) := by simp
  have hle : m / 2 ^ r ≤ m := Nat.div_le_self _ _
  rw [e, bit_and _ (by omega)]
  by_cases hb : m / 2 ^ r % 2 = 1
  · rw [decide_eq_true hb, hb]; rfl
  · rw [decide_eq_false hb]
    have : ¬ ((m / 2 ^ r % 2 : Nat) : Int) = 1 := by omega
    simpa using this
theorem arB_sum {xs : List Ow} (h : arB xs = true) : sP allP (nuO xs) (deO xs) xs.length = dP (deO xs) xs.length := by
  unfold arB at h
  simp only [Bool.and_eq_true, decide_eq_true_iff] at h
  exact h.2.2
/-- A sum of chosen shares in lowest terms. -/
def SumP (xs : List Ow) (p : Nat → Bool) (a b : Nat) (j : Nat) : Prop := 1 ≤ b ∧ Nat.gcd a b = 1 ∧ (a : Int) * dP (deO xs) j = b * sP p (nuO xs) (deO xs) j
theorem SumP.skip {xs : List Ow} {p : Nat → Bool} {a b j : Nat} (h : SumP xs p a b j) (hp : p j = false) : SumP xs p a b (j + 1) := by
  obtain ⟨hb, hg, he⟩ := h
  refine ⟨hb, hg, ?_⟩
  rw [dP, sP, hp, if_neg (by decide), Int.add_zero, ← Int.mul_assoc, he, Int.mul_assoc]
theorem SumP.next {xs : List Ow} {p : Nat → Bool} {a b j n d : Nat} (h : SumP xs p a b j) (hp : p j = true) (hn : (el xs j).n = n) (hd : (el xs j).d = d) (hd0 : 0 < d) :
    SumP xs p ((a * d + n * b) / Nat.gcd (a * d + n * b) (b * d)) (b * d / Nat.gcd (a * d + n * b) (b * d)) (j + 1) := by
  obtain ⟨hb, hg, he⟩ := h
  have hB : 0 < b * d := Nat.mul_pos (by omega) hd0
  obtain ⟨S, hS⟩ : ∃ S, a * d + n * b = S := ⟨_, rfl⟩
  obtain ⟨B, hBB⟩ : ∃ B, b * d = B := ⟨_, rfl⟩
  rw [hS, hBB]
  rw [hBB] at hB
  have hg0 : 0 < Nat.gcd S B := Nat.gcd_pos_of_pos_right _ hB
  obtain ⟨G, hG⟩ : ∃ G, Nat.gcd S B = G := ⟨_, rfl⟩
  have d1 : G ∣ S := by rw [← hG]; exact Nat.gcd_dvd_left _ _
  have d2 : G ∣ B := by rw [← hG]; exact Nat.gcd_dvd_right _ _
  refine ⟨?_, ?_, ?_⟩
  · rw [hG]; exact Nat.div_pos (Nat.le_of_dvd hB d2) (by rw [← hG]; exact hg0)
  · exact Nat.coprime_div_gcd_div_gcd hg0
  · rw [hG]
    rw [hG] at hg0
    obtain ⟨s, hs⟩ := d1
    obtain ⟨q, hq⟩ := d2
    rw [hs, hq, Nat.mul_div_cancel_left _ hg0, Nat.mul_div_cancel_left _ hg0]
    have hgi : (0 : Int) < (G : Int) := by omega
    refine Int.eq_of_mul_eq_mul_left (a := (G : Int)) (by omega) ?_
    have s1 : (G : Int) * (s : Int) = (a : Int) * (d : Int) + (n : Int) * (b : Int) := by
      have : ((G * s : Nat) : Int) = ((a * d + n * b : Nat) : Int) := by rw [hS, hs]
      simpa using this
    have s2 : (G : Int) * (q : Int) = (b : Int) * (d : Int) := by
      have : ((G * q : Nat) : Int) = ((b * d : Nat) : Int) := by rw [hBB, hq]
      simpa using this
    rw [← Int.mul_assoc, ← Int.mul_assoc, s1, s2, dP, sP]
    have e0 : nuO xs j = (n : Int) := hn
    have e1 : deO xs j = (d : Int) := hd
    rw [e0, e1, if_pos hp]
    generalize dP (deO xs) j = D at *
    generalize sP p (nuO xs) (deO xs) j = s at *
    have f1 : (a : Int) * d * (D * d) = a * D * (d * d) := by ac_rfl
    have f2 : (b : Int) * d * (s * d) = b * s * (d * d) := by ac_rfl
    have f3 : (n : Int) * b * (D * d) = b * d * (n * D) := by ac_rfl
    rw [Int.add_mul, Int.mul_add, f1, f2, f3, he]
theorem SumP.bd {xs : List Ow} {p : Nat → Bool} {a b j : Nat} (h : SumP xs p a b j) (hg : arB xs = true) (hj : j ≤ xs.length) : b ≤ 1000000000000 ∧ a ≤ b := by
  have hb := arOK_bd hg
  have := part_bd (p := p) (nu := nuO xs) (de := deO xs) (a := a) (b := b) (i := j) (n := xs.length) (fun i => (hb i).2) (fun i => (hb i).1.1) (arOK_len hg).2 hj (arB_sum hg) h.2.2 (by have := h.1; omega) h.2.1
  omega
theorem SumP.half {xs : List Ow} {L : List Nat} {a b : Nat} (h : SumP xs (fun j => L.contains j) a b xs.length) (hg : arB xs = true) : mjO xs L = decide ((b : Int) < 2 * a) := by
  have hb := arOK_bd hg
  unfold mjO
  exact decide_eq_decide.2 (half_iff (fun i => (hb i).2.1) h.2.2 (by have := h.1; omega)).symm
theorem mem_step {L l : List Nat} {i r m : Nat} (h : l ++ idsM i (r + 1) (m % 2 ^ (r + 1)) = L) (hl : ∀ j ∈ l, j < i) :
    L.contains i = decide (m / 2 ^ r % 2 = 1) ∧ (l ++ (if m / 2 ^ r % 2 = 1 then [i] else [])) ++ idsM (i + 1) r (m % 2 ^ r) = L := by
  have hp : 0 < 2 ^ (r + 1) := Nat.pow_pos (by omega)
  rw [idsM_step (Nat.mod_lt _ hp), bit_mod.1, bit_mod.2, ← List.append_assoc] at h
  refine ⟨?_, h⟩
  have h1 : ¬ i ∈ l := fun hi => by have := hl i hi; omega
  have h2 : ¬ i ∈ idsM (i + 1) r (m % 2 ^ r) := fun hi => by
    have := idsM_lt r (i + 1) (m % 2 ^ r) (Nat.mod_lt _ (Nat.pow_pos (by omega))) i hi; omega
  rw [← h]
  by_cases hb : m / 2 ^ r % 2 = 1
  · rw [if_pos hb, decide_eq_true hb]; simp
  · rw [if_neg hb, decide_eq_false hb]; simp [h1, h2]
theorem own_new0 {w : World} {B g : Nat} (h : w.heap[g]? = some (.cells #[] 3 (0, 0))) (hB : B ≤ g) : w.ownsRow B 3 1 (.slice (some ⟨g, 0, none⟩) 0 0) 0 [] :=
  ⟨rfl, .inr ⟨g, 0, #[], rfl, hB, h, Nat.le_refl _, by unfold maxLen; omega, rfl, rfl⟩⟩
set_option maxRecDepth 100000 in
set_option maxHeartbeats 16000000 in
theorem sMajority_any (A : Option Addr) (c : Nat) (xs : List Ow) (w : World) (h : Rd w w.heap.size A 3 Ow.enc xs) (hx : xs.length ≤ 1048576) (hz : OwSz 1048576 xs) :
    Calls Tryd.prog 34 #[.slice A xs.length c] w fun e w' => MadeAt w 3 ((mjL xs).flatMap ie) (mjL xs).length (fun v => .returned (.tuple #[v, .bool (arB xs)])) e w' := by
  have HX := Lib.hid h
  have HZ := Lib.hid hz
  clear h hz
  cases hg : arB xs
  · have HM := Lib.hid (show mjL xs = [] by unfold mjL mjR; rw [hg]; rfl)
    have Hg := Lib.hid hg
    clear hg
    go_enter Tryd.func34, Tryd.ntmps34
    go_wp2_with fail
    refine (l22Good_any _ c xs _ (HX.out.to (by repeat' (first | (with_reducible exact Below.refl _ _) | (with_reducible refine Below.alloc ?_ ?_ _) | (with_reducible refine Below.setCell ?_ ?_ _) | (with_reducible refine Below.drew ?_) | (with_reducible refine Below.trans ?_ (Below.mono (by with_reducible assumption) ?_)) | omega | (simp; done) | (simp; omega)))) hx HZ.out).mono ?_
    rintro e w2 ⟨rfl, hb2⟩
    have hs2 := hb2.size
    rw [Hg.out]
    go_wp2
    go_ret2
    rw [HM.out]
    exact MadeAt.empty (fun v => .returned (.tuple #[v, .bool false])) (Nat.le_refl w.heap.size) ((hb2.block _ (by simp)).trans (heap_alloc_new _ _)) (by repeat' (first | (with_reducible exact Below.refl _ _) | (with_reducible refine Below.alloc ?_ ?_ _) | (with_reducible refine Below.setCell ?_ ?_ _) | (with_reducible refine Below.drew ?_) | (with_reducible refine Below.trans ?_ (Below.mono (by with_reducible assumption) ?_)) | omega | (simp; done) | (simp; omega)))
  · have HN : Hid (mjR xs = fmM (mjO xs) (idsM 0 xs.length) (2 ^ xs.length) []) := Lib.hid (by unfold mjR; rw [if_pos hg, maj_eq])
    have HBD := Lib.hid (arOK_bd hg)
    have HMN := Lib.hid (mjO_nil (arOK_bd hg))
    have HG := Lib.hid hg
    have hl8 := (arOK_len hg).2
    have hp2 : 2 ^ xs.length ≤ 2 ^ 8 := Nat.pow_le_pow_right (by omega) hl8
    have hp1 : 0 < 2 ^ xs.length := Nat.pow_pos (by omega)
    obtain ⟨P, hP⟩ : ∃ P, 2 ^ xs.length = P := ⟨_, rfl⟩
    have hPi : (2 : Int) ^ xs.length = (P : Int) := by rw [← hP]; simp
    rw [hP] at hp1 hp2 HN
    have v1 : wrap64 ((2 : Int) ^ xs.length) = (P : Int) := by rw [hPi]; exact wrap_in' ⟨by omega, by omega⟩
    have v2 : wrap64 ((P : Int) - 1) = ((P - 1 : Nat) : Int) := by have := wrap_in' (z := (P : Int) - 1) ⟨by omega, by omega⟩; omega
    have HP := Lib.hid hP
    obtain ⟨i0, hi, hz0, hz1, hz2⟩ := info_parts int_info
    have hinfo := Lib.hid (And.intro hi (And.intro hz0 (And.intro hz1 hz2)))
    clear hg hPi hP hi hz0 hz1 hz2
    go_enter Tryd.func34, Tryd.ntmps34
    go_wp2_with fail
    refine (l22Good_any _ c xs _ (HX.out.to (by repeat' (first | (with_reducible exact Below.refl _ _) | (with_reducible refine Below.alloc ?_ ?_ _) | (with_reducible refine Below.setCell ?_ ?_ _) | (with_reducible refine Below.drew ?_) | (with_reducible refine Below.trans ?_ (Below.mono (by with_reducible assumption) ?_)) | omega | (simp; done) | (simp; omega)))) hx HZ.out).mono ?_
    rintro e w2 ⟨rfl, hb2⟩
    have hs2 := hb2.size
    rw [HG.out]
    have ho2 : w2.ownsRow w.heap.size 3 1 (.slice (some ⟨w.heap.size, 0, none⟩) 0 0) 0 [] := own_new0 ((hb2.block _ (by simp)).trans (heap_alloc_new _ _)) (Nat.le_refl _)
    have HO2 := Lib.hid ho2
    have hw2 : Below w.heap.size w w2 := (by repeat' (first | (with_reducible exact Below.refl _ _) | (with_reducible refine Below.alloc ?_ ?_ _) | (with_reducible refine Below.setCell ?_ ?_ _) | (with_reducible refine Below.drew ?_) | (with_reducible refine Below.trans ?_ (Below.mono (by with_reducible assumption) ?_)) | omega | (simp; done) | (simp; omega)))
    clear hb2 hs2 ho2
    go_wp2_with fail
    clear v1 v2
    go_loopw [4, 6] (fun v i wr => ∃ (m : Nat) (b : List Nat), m < P ∧ i = .int .i64 m ∧ Hid (fmM (mjO xs) (idsM 0 xs.length) (m + 1) b = mjR xs) ∧ Hid (wr.ownsRow w.heap.size 3 1 v b.length (b.map nv)) ∧ Below w.heap.size w wr) (fun _ i _ => (intOf i).toNat)
    case atStart => exact ⟨P - 1, [], by omega, by first | rfl | go_num | (congr 1; omega), Lib.hid (by rw [HN.out, Nat.sub_add_cancel (by omega)]), HO2, hw2⟩
    case round =>
      obtain ⟨m, b, hm, rfl, HR, HO, hbw⟩ := hrel
      have hs := hbw.size
      obtain ⟨Ab, cb, rfl⟩ := own_fm HO.out
      by_cases hm0 : 0 < m
      · have hI : (0 : Int) < m := by omega
        go_wp2_with fail
        obtain ⟨L, hL⟩ : ∃ L, idsM 0 xs.length m = L := ⟨_, rfl⟩
        have HL := Lib.hid hL
        have hmP : m < 2 ^ xs.length := by rw [HP.out]; exact hm
        obtain ⟨wA, rfl⟩ : ∃ wA, wA = wr := ⟨_, rfl⟩
        go_loopw [7, 8, 9, 10] (fun v7 v8 v9 v10 wi => ∃ (i : Nat) (l : List Nat) (a q : Nat), i ≤ xs.length ∧ l.length ≤ i ∧ v10 = .int .i64 i ∧ v8 = .int .i64 a ∧ v9 = .int .i64 q ∧ Hid (wi.ownsRow wA.heap.size 3 1 v7 l.length (l.map nv)) ∧ Hid (l ++ idsM i (xs.length - i) (m % 2 ^ (xs.length - i)) = L) ∧ Hid (∀ j ∈ l, j < i) ∧ Hid (SumP xs (fun j => L.contains j) a q i) ∧ Below wA.heap.size wA wi) (fun _ _ _ v10 _ => xs.length - (intOf v10).toNat)
        case atStart => exact ⟨0, [], 0, 1, Nat.zero_le _, Nat.le_refl _, rfl, rfl, rfl, Lib.hid (own_new0 (heap_alloc_new _ _) (Nat.le_refl _)), Lib.hid (by rw [Nat.sub_zero, Nat.mod_eq_of_lt hmP, hL]; rfl), Lib.hid (fun j hj => by cases hj), Lib.hid ⟨Nat.le_refl _, rfl, by simp [dP, sP]⟩, (by repeat' (first | (with_reducible exact Below.refl _ _) | (with_reducible refine Below.alloc ?_ ?_ _) | (with_reducible refine Below.setCell ?_ ?_ _) | (with_reducible refine Below.drew ?_) | (with_reducible refine Below.trans ?_ (Below.mono (by with_reducible assumption) ?_)) | omega | (simp; done) | (simp; omega)))⟩
        case round =>
          obtain ⟨i, l, a, q, hin, hll, rfl, rfl, rfl, HOl, HLl, Hlt, HF, hbA⟩ := hrel
          have hsA := hbA.size
          by_cases hlt : i < xs.length
          · have hI : (i : Int) < xs.length := by omega
            have hI0 : (0 : Int) ≤ i := by omega
            have hms := mem_step (L := L) (l := l) (i := i) (m := m) (r := xs.length - (i + 1)) (by rw [show xs.length - (i + 1) + 1 = xs.length - i by omega]; exact HLl.out) Hlt.out
            have hbt := bit_is (m := m) (r := xs.length - 1 - i) (by omega)
            rw [show xs.length - 1 - i = xs.length - (i + 1) by omega] at hbt
            have hbt2 := hbt
            rw [← show xs.length - 1 - i = xs.length - (i + 1) by omega] at hbt2
            by_cases hbit : m / 2 ^ (xs.length - (i + 1)) % 2 = 1
            · rw [decide_eq_true hbit, if_pos hbit] at hms
              rw [show xs.length - 1 - i = xs.length - (i + 1) by omega, decide_eq_true hbit, ← show xs.length - 1 - i = xs.length - (i + 1) by omega] at hbt2
              obtain ⟨b0, o, rfl, hB', c0, c1, c2⟩ := ow_cells ((HX.out.to hbw).below hbA) hlt
              have hB1 : b0 < wr.heap.size := by omega
              have hbd := HF.out.bd HG.out (by omega)
              have hob := HBD.out i
              obtain ⟨n, hn⟩ : ∃ n : Nat, (el xs i).n = n := ⟨(el xs i).n.toNat, by omega⟩
              obtain ⟨d, hd⟩ : ∃ d : Nat, (el xs i).d = d := ⟨(el xs i).d.toNat, by omega⟩
              rw [hn] at c1 hob
              rw [hd] at c2 hob
              have hnx := HF.out.next hms.1 hn hd (by omega)
              have hq1 := HF.out.1
              have m1 : a * d ≤ 1000000000000 * 1000 := Nat.mul_le_mul (by omega) (by omega)
              have m2 : n * q ≤ 1000 * 1000000000000 := Nat.mul_le_mul (by omega) (by omega)
              have m3 : q * d ≤ 1000000000000 * 1000 := Nat.mul_le_mul (by omega) (by omega)
              have hcs := fun W => l22Sum_any a q n d W (by omega) (by omega) (by omega) (by omega)
              obtain ⟨a', ha'⟩ : ∃ p, (a * d + n * q) / Nat.gcd (a * d + n * q) (q * d) = p := ⟨_, rfl⟩
              obtain ⟨q', hq'⟩ : ∃ p, q * d / Nat.gcd (a * d + n * q) (q * d) = p := ⟨_, rfl⟩
              rw [ha', hq'] at hcs hnx
              have HC := Lib.hid hcs
              have HNX := Lib.hid hnx
              have HM := Lib.hid hms.2
              clear hcs hnx ha' hq' m1 m2 m3 hms hbit hbt hn hd
              go_wp2_with fail
              go_wp2_with fail
              refine wp_region_quiet_below (by kernel_rfl) (by kernel_rfl) ?_
              repeat (go_big_quiet_step ((go_at_call 75; exact Calls.regrown_of (HC.out _))))
              (refine wpQuiet_nil ?_; intro w1 hwq; have hb1 := of_cls hwq; clear hwq)
              (have hs1 := hb1.size; (try simp at hs1); obtain ⟨hc1, hf1, hn1⟩ := bcell hb1; (try have hz1_wr_0 : wr.heap.size < w1.heap.size := by omega); (try have hz1_wr_1 : wr.heap.size + 1 < w1.heap.size := by omega); (try have hz1_wr_2 : wr.heap.size + 2 < w1.heap.size := by omega); (try have hB1 : b < w1.heap.size := by omega); (try have hB2 : b' < w1.heap.size := by omega); (try have hz1_wr_2b : wr.heap.size + 1 + 1 < w1.heap.size := by omega); (try have hz1_w_0 : w.heap.size < w1.heap.size := by omega); (try have hz1_w_1 : w.heap.size + 1 < w1.heap.size := by omega); (try have hz1_w_2 : w.heap.size + 2 < w1.heap.size := by omega); (try have hz1_w_2b : w.heap.size + 1 + 1 < w1.heap.size := by omega))
              go_wp2_with (at_builtin; refine wpList_append_own_at _ rfl _ _ 38 rfl wA.heap.size 3 _ _ 1 8 Tryd.underlying38 hinfo.out.1 hinfo.out.2.1 hinfo.out.2.2.1 hinfo.out.2.2.2 rfl (by decide) _ _ _ rfl (own_to HOl.out (by repeat' (first | (with_reducible exact Below.refl _ _) | (with_reducible refine Below.alloc ?_ ?_ _) | (with_reducible refine Below.setCell ?_ ?_ _) | (with_reducible refine Below.drew ?_) | (with_reducible refine Below.trans ?_ (Below.mono (by with_reducible assumption) ?_)) | omega | (simp; done) | (simp; omega)))) _ 1 1 [.int .i64 (i : Int)] rfl rfl (news_top (cs := #[.int .i64 (i : Int)]) (t := 3) (by simp)) (by simp [Value.oneCell']) (by unfold maxLen; omega) (by omega) (by simp; omega) ?_)
              intro v9 w9 hown9 hgrow9 hnil9 hat9
              have hb9 : Below wA.heap.size wA w9 := own_grew HOl.out (by repeat' (first | (with_reducible exact Below.refl _ _) | (with_reducible refine Below.alloc ?_ ?_ _) | (with_reducible refine Below.setCell ?_ ?_ _) | (with_reducible refine Below.drew ?_) | (with_reducible refine Below.trans ?_ (Below.mono (by with_reducible assumption) ?_)) | omega | (simp; done) | (simp; omega))) (by first | omega | (simp; done) | (simp; omega)) hgrow9
              have hs9 := hb9.size
              have HO9 : Hid (w9.ownsRow wA.heap.size 3 1 v9 (l ++ [i]).length ((l ++ [i]).map nv)) := Lib.hid (by rw [List.map_append, List.length_append]; exact hown9)
              clear hgrow9 hat9 hnil9 hown9
              go_wp2_with fail
              go_roundw
              case rel => exact ⟨i + 1, l ++ [i], a', q', by omega, by simp; omega, by go_num, rfl, rfl, HO9, HM, Lib.hid (fun j hj => by
                rcases List.mem_append.1 hj with h | h
                · have := Hlt.out j h; omega
                · simp at h; omega), HNX, hb9⟩
              case measure => simp [intOf] <;> omega
            · rw [decide_eq_false hbit, if_neg hbit, List.append_nil] at hms
              rw [show xs.length - 1 - i = xs.length - (i + 1) by omega, decide_eq_false hbit, ← show xs.length - 1 - i = xs.length - (i + 1) by omega] at hbt2
              have HNX := Lib.hid (HF.out.skip hms.1)
              have HM := Lib.hid hms.2
              clear hms hbit hbt
              go_wp2
              go_roundw
              case rel => exact ⟨i + 1, l, a, q, by omega, by omega, by go_num, rfl, rfl, HOl, HM, Lib.hid (fun j hj => by have := Hlt.out j hj; omega), HNX, (by repeat' (first | (with_reducible exact Below.refl _ _) | (with_reducible refine Below.alloc ?_ ?_ _) | (with_reducible refine Below.setCell ?_ ?_ _) | (with_reducible refine Below.drew ?_) | (with_reducible refine Below.trans ?_ (Below.mono (by with_reducible assumption) ?_)) | omega | (simp; done) | (simp; omega)))⟩
              case measure => simp [intOf] <;> omega
          · obtain rfl : i = xs.length := by omega
            have hI : ¬ ((xs.length : Nat) : Int) < xs.length := by omega
            have hLl := HLl.out
            rw [Nat.sub_self, idsM, List.append_nil] at hLl
            subst hLl
            have hbd := HF.out.bd HG.out (Nat.le_refl _)
            have hmj := HF.out.half HG.out
            have h2a : wrap64 (2 * (a : Int)) = 2 * (a : Int) := wrap_in' ⟨by omega, by omega⟩
            have hm1 : wrap64 ((m : Int) - 1) = ((m - 1 : Nat) : Int) := by have := wrap_in' (z := (m : Int) - 1) ⟨by omega, by omega⟩; omega
            have HRm := HR.out
            rw [fmM, hL, show m = (m - 1) + 1 by omega] at HRm
            have HR' : Hid (fmM (mjO xs) (idsM 0 xs.length) (m - 1 + 1) (updM (mjO xs) b l) = mjR xs) := Lib.hid HRm
            clear HRm HR
            obtain ⟨Al, cl, rfl⟩ := own_fm HOl.out
            have hwA : Below w.heap.size w wr := hbw.trans (hbA.mono hs)
            have HOb := Lib.hid (own_below HO.out hbA)
            by_cases hmaj : (q : Int) < 2 * a
            · rw [decide_eq_true hmaj] at hmj
              by_cases hb0 : b.length = 0
              · have hbi : (b.length : Int) = 0 := by omega
                have hu : updM (mjO xs) b l = l := by rw [updM, if_pos ⟨hmj, .inl (List.eq_nil_of_length_eq_zero hb0)⟩]
                rw [hu] at HR'
                clear hmj hu
                go_wp2
                go_roundw
                case rel => exact ⟨m - 1, l, by omega, by first | rfl | go_num | (congr 1; omega), HR', Lib.hid (own_base HOl.out hs), hwA⟩
                case measure => simp [intOf] <;> omega
              · have hbi : ¬ (b.length : Int) = 0 := by omega
                by_cases hlb : l.length < b.length
                · have hlbi : (l.length : Int) < b.length := by omega
                  have hu : updM (mjO xs) b l = l := by rw [updM, if_pos ⟨hmj, .inr hlb⟩]
                  rw [hu] at HR'
                  clear hmj hu
                  go_wp2
                  go_roundw
                  case rel => exact ⟨m - 1, l, by omega, by first | rfl | go_num | (congr 1; omega), HR', Lib.hid (own_base HOl.out hs), hwA⟩
                  case measure => simp [intOf] <;> omega
                · have hlbi : ¬ (l.length : Int) < b.length := by omega
                  have hu : updM (mjO xs) b l = b := by rw [updM, if_neg (by rintro ⟨_, h | h⟩; exact hb0 (by rw [h]; rfl); exact hlb h)]
                  rw [hu] at HR'
                  clear hmj hu
                  go_wp2
                  go_roundw
                  case rel => exact ⟨m - 1, b, by omega, by first | rfl | go_num | (congr 1; omega), HR', HOb, hwA⟩
                  case measure => simp [intOf] <;> omega
            · rw [decide_eq_false hmaj] at hmj
              have hu : updM (mjO xs) b l = b := by rw [updM, if_neg (by rintro ⟨h, _⟩; rw [hmj] at h; cases h)]
              rw [hu] at HR'
              clear hmj hu
              go_wp2
              go_roundw
              case rel => exact ⟨m - 1, b, by omega, by first | rfl | go_num | (congr 1; omega), HR', HOb, hwA⟩
              case measure => simp [intOf] <;> omega
      · obtain rfl : m = 0 := by omega
        go_wp2
        go_ret2
        have hr := HR.out
        rw [show 0 + 1 = 1 from rfl, fmM, fmM, updM, idsM_zero, HMN.out, if_neg (by simp)] at hr
        subst hr
        exact mk_own (v := .slice Ab (mjR xs).length cb) HO.out hbw HG.out
end Go.Proofs.YtimdnihadhbjpaaDoor
