/- The law FnSeries: passes keep the sums. -/
import Derived.Test.YtocaodoagiokjaaDrSer
import Derived.Test.YtocaodoagiokjaaLawKit
import Derived.Test.YtocaodoagiokjaaPassLawTwo
import Derived.Test.YtocaodoagiokjaaSerFill
import Derived.Test.YtocaodoagiokjaaSerSum
import Derived.Test.YtocaodoagiokjaaPassEmpty
set_option linter.unusedSimpArgs false
set_option linter.unusedVariables false
namespace Go.Proofs.Ytocaodoagiokjaa
open Go.RowKit Go.Sort Go.Salt
attribute [local go_sem] cell_rg
theorem serTab_basin : serTab.td 62 = some ⟨[.int, .int, .int], true, [(0, 3), (1, 25)]⟩ := by kernel_rfl
open Go.Dr in
theorem dAfterPass_any (A : Option Addr) (n c : Nat) (w : World) (hn : n ≤ 65536) (hB : Byt w w.heap.size A n) :
    Calls Try.prog 27 #[.slice A n c] w fun e w' => ∃ (ad1 : Addr) (xs1 : List Bsn) (c1 : Nat) (z2_0 : Int) (z2_1 : Int) (z3 : Int), e = .returned (.tuple #[.slice (some ad1) xs1.length c1, .agg #[.int .i64 z2_0, .int .i64 z2_1], .int .i64 z3]) ∧ xs1.length ≤ 20 ∧ Rd w' w'.heap.size (some ad1) 3 Bsn.enc xs1 ∧ Below w.heap.size w w' := by
  refine (Dr.draw_calls dAfterPass_con rfl rfl (by decide) A n c w hn hB).mono ?_
  rintro e w' ⟨v, rfl, hv, hb⟩
  obtain ⟨u1, u2, u3, rfl, a1, a2, a3⟩ := tup3 hv
  obtain ⟨A1, xs1, c1, rfl, _, hl1, hr1, hn1⟩ := rows_of (k := 3) (tb := serTab) (T := 62) serTab_basin rfl (by omega) Bsn.enc (fun g => ⟨g 0, g 1, g 2⟩) (fun _ => rfl) a1
  obtain ⟨ad1, rfl⟩ := hn1 (by omega)
  obtain ⟨g2, rfl, hg2⟩ := agg_of (k := 2) a2
  obtain ⟨z3, rfl, hz3a, hz3b⟩ := int_of a3
  exact ⟨ad1, xs1, c1, g2 0, g2 1, z3, rfl, hl1, hr1, hb⟩
open Go.Dr in
theorem dAfterPasses_any (A : Option Addr) (n c : Nat) (w : World) (hn : n ≤ 65536) (hB : Byt w w.heap.size A n) :
    Calls Try.prog 31 #[.slice A n c] w fun e w' => ∃ (ad1 : Addr) (xs1 : List Bsn) (c1 : Nat) (z2_0 : Int) (z2_1 : Int) (z3 : Int) (z4 : Int), e = .returned (.tuple #[.slice (some ad1) xs1.length c1, .agg #[.int .i64 z2_0, .int .i64 z2_1], .int .i64 z3, .int .i64 z4]) ∧ xs1.length ≤ 20 ∧ Rd w' w'.heap.size (some ad1) 3 Bsn.enc xs1 ∧ Below w.heap.size w w' := by
  refine (Dr.draw_calls dAfterPasses_con rfl rfl (by decide) A n c w hn hB).mono ?_
  rintro e w' ⟨v, rfl, hv, hb⟩
  obtain ⟨u1, u2, u3, u4, rfl, a1, a2, a3, a4⟩ := tup4 hv
  obtain ⟨A1, xs1, c1, rfl, _, hl1, hr1, hn1⟩ := rows_of (k := 3) (tb := serTab) (T := 62) serTab_basin rfl (by omega) Bsn.enc (fun g => ⟨g 0, g 1, g 2⟩) (fun _ => rfl) a1
  obtain ⟨ad1, rfl⟩ := hn1 (by omega)
  obtain ⟨g2, rfl, hg2⟩ := agg_of (k := 2) a2
  obtain ⟨z3, rfl, hz3a, hz3b⟩ := int_of a3
  obtain ⟨z4, rfl, hz4a, hz4b⟩ := int_of a4
  exact ⟨ad1, xs1, c1, g2 0, g2 1, z3, z4, rfl, hl1, hr1, hb⟩
open Go.Dr in
theorem dPassesToEmpty_any (A : Option Addr) (n c : Nat) (w : World) (hn : n ≤ 65536) (hB : Byt w w.heap.size A n) :
    Calls Try.prog 32 #[.slice A n c] w fun e w' => ∃ (ad1 : Addr) (xs1 : List Bsn) (c1 : Nat) (z2 : Int), e = .returned (.tuple #[.slice (some ad1) xs1.length c1, .int .i64 z2]) ∧ xs1.length ≤ 20 ∧ Rd w' w'.heap.size (some ad1) 3 Bsn.enc xs1 ∧ Below w.heap.size w w' := by
  refine (Dr.draw_calls dPassesToEmpty_con rfl rfl (by decide) A n c w hn hB).mono ?_
  rintro e w' ⟨v, rfl, hv, hb⟩
  obtain ⟨u1, u2, rfl, a1, a2⟩ := tup2 hv
  obtain ⟨A1, xs1, c1, rfl, _, hl1, hr1, hn1⟩ := rows_of (k := 3) (tb := serTab) (T := 62) serTab_basin rfl (by omega) Bsn.enc (fun g => ⟨g 0, g 1, g 2⟩) (fun _ => rfl) a1
  obtain ⟨ad1, rfl⟩ := hn1 (by omega)
  obtain ⟨z2, rfl, hz2a, hz2b⟩ := int_of a2
  exact ⟨ad1, xs1, c1, z2, rfl, hl1, hr1, hb⟩
open Go.Dr in
theorem dFillFirst_any (A : Option Addr) (n c : Nat) (w : World) (hn : n ≤ 65536) (hB : Byt w w.heap.size A n) :
    Calls Try.prog 33 #[.slice A n c] w fun e w' => ∃ (ad1 : Addr) (xs1 : List Bsn) (c1 : Nat) (z2_0 : Int) (z2_1 : Int), e = .returned (.tuple #[.slice (some ad1) xs1.length c1, .agg #[.int .i64 z2_0, .int .i64 z2_1]]) ∧ xs1.length ≤ 20 ∧ Rd w' w'.heap.size (some ad1) 3 Bsn.enc xs1 ∧ Below w.heap.size w w' := by
  refine (Dr.draw_calls dFillFirst_con rfl rfl (by decide) A n c w hn hB).mono ?_
  rintro e w' ⟨v, rfl, hv, hb⟩
  obtain ⟨u1, u2, rfl, a1, a2⟩ := tup2 hv
  obtain ⟨A1, xs1, c1, rfl, _, hl1, hr1, hn1⟩ := rows_of (k := 3) (tb := serTab) (T := 62) serTab_basin rfl (by omega) Bsn.enc (fun g => ⟨g 0, g 1, g 2⟩) (fun _ => rfl) a1
  obtain ⟨ad1, rfl⟩ := hn1 (by omega)
  obtain ⟨g2, rfl, hg2⟩ := agg_of (k := 2) a2
  exact ⟨ad1, xs1, c1, g2 0, g2 1, rfl, hl1, hr1, hb⟩
open Go.Dr in
theorem dSeriesSum_any (A : Option Addr) (n c : Nat) (w : World) (hn : n ≤ 65536) (hB : Byt w w.heap.size A n) :
    Calls Try.prog 34 #[.slice A n c] w fun e w' => ∃ (ad1 : Addr) (xs1 : List Bsn) (c1 : Nat), e = .returned (.slice (some ad1) xs1.length c1) ∧ xs1.length ≤ 20 ∧ Rd w' w'.heap.size (some ad1) 3 Bsn.enc xs1 ∧ Below w.heap.size w w' := by
  refine (Dr.draw_calls dSeriesSum_con rfl rfl (by decide) A n c w hn hB).mono ?_
  rintro e w' ⟨v, rfl, hv, hb⟩
  have a1 := Dr.one_of hv
  obtain ⟨A1, xs1, c1, rfl, _, hl1, hr1, hn1⟩ := rows_of (k := 3) (tb := serTab) (T := 62) serTab_basin rfl (by omega) Bsn.enc (fun g => ⟨g 0, g 1, g 2⟩) (fun _ => rfl) a1
  obtain ⟨ad1, rfl⟩ := hn1 (by omega)
  exact ⟨ad1, xs1, c1, rfl, hl1, hr1, hb⟩
theorem vBasins_same (A A' : Option Addr) (c c' : Nat) (xs : List Bsn) (w : World) (h : Rd w w.heap.size A 3 Bsn.enc xs) (h' : Rd w w.heap.size A' 3 Bsn.enc xs) (hx : xs.length ≤ 1048576) :
    Calls Try.prog 28 #[.slice A xs.length c, .slice A' xs.length c'] w fun e w' => e = .returned (.bool true) ∧ Below w.heap.size w w' := by
  go_enter Try.func28, Try.ntmps28
  go_wp2
  go_loopw [5] (fun i wr => ∃ k : Nat, k ≤ xs.length ∧ i = .int .i64 k ∧ Below w.heap.size w wr) (fun i _ => xs.length - (intOf i).toNat)
  case atStart => exact ⟨0, Nat.zero_le _, rfl, Below.refl _ _⟩
  case round =>
    obtain ⟨k, hk, rfl, hb⟩ := hrel
    by_cases hlt : k < xs.length
    · obtain ⟨b, o, rfl, hB, c0, c1, c2⟩ := bsn_cells (h.below hb) hlt
      obtain ⟨b', o', rfl, hB', d0, d1, d2⟩ := bsn_cells (h'.below hb) hlt
      have hs := hb.size
      have hB1 : b < wr.heap.size := by omega
      have hB2 : b' < wr.heap.size := by omega
      have hI : (k : Int) < xs.length := by omega
      have hI0 : (0 : Int) ≤ k := by omega
      go_wp2_with fail
      refine wp_region_quiet_below (by kernel_rfl) (by kernel_rfl) ?_
      repeat (go_big_quiet_step (fail))
      (refine wpQuiet_nil ?_; intro w1 hwq; have hb1 := of_cls hwq; clear hwq)
      (have hs1 := hb1.size; (try simp at hs1); obtain ⟨hc1, hf1, hn1⟩ := bcell hb1; (try have hz1_wr_0 : wr.heap.size < w1.heap.size := by omega); (try have hz1_wr_1 : wr.heap.size + 1 < w1.heap.size := by omega); (try have hz1_wr_2 : wr.heap.size + 2 < w1.heap.size := by omega); (try have hB1 : b < w1.heap.size := by omega); (try have hB2 : b' < w1.heap.size := by omega); (try have hz1_wr_2b : wr.heap.size + 1 + 1 < w1.heap.size := by omega); (try have hz1_w_0 : w.heap.size < w1.heap.size := by omega); (try have hz1_w_1 : w.heap.size + 1 < w1.heap.size := by omega); (try have hz1_w_2 : w.heap.size + 2 < w1.heap.size := by omega); (try have hz1_w_2b : w.heap.size + 1 + 1 < w1.heap.size := by omega))
      go_wp2_with fail
      go_roundw
      case rel => exact ⟨k + 1, by omega, by go_num, (by repeat' (first | (with_reducible exact Below.refl _ _) | (with_reducible refine Below.alloc ?_ ?_ _) | (with_reducible refine Below.setCell ?_ ?_ _) | (with_reducible refine Below.drew ?_) | (with_reducible refine Below.trans ?_ (Below.mono (by with_reducible assumption) ?_)) | omega | (simp; done) | (simp; omega)))⟩
      case measure => simp [intOf]; omega
    · have hI : ¬ (k : Int) < xs.length := by omega
      go_wp2
      go_ret
      exact ⟨rfl, hb⟩
theorem sIsSeries_any (A : Option Addr) (c : Nat) (xs : List Bsn) (w : World) (h : Rd w w.heap.size A 3 Bsn.enc xs) (hx : xs.length ≤ 1048576) :
    Calls Try.prog 30 #[.slice A xs.length c] w fun e w' => e = .returned (.bool (serOK xs)) ∧ Below w.heap.size w w' := by
  go_enter Try.func30, Try.ntmps30
  go_wp2_with fail
  (go_at_call 35; refine (l8Good_any _ _ _ _ h hx).mono ?_; rintro e w1 ⟨rfl, hb1⟩)
  (have hs1 := hb1.size; (try simp at hs1); obtain ⟨hc1, hf1, hn1⟩ := bcell hb1; (try have hz1_w_0 : w.heap.size < w1.heap.size := by omega); (try have hz1_w_1 : w.heap.size + 1 < w1.heap.size := by omega); (try have hz1_w_2 : w.heap.size + 2 < w1.heap.size := by omega); (try have hz1_w_2b : w.heap.size + 1 + 1 < w1.heap.size := by omega))
  go_wp2_with fail
  go_ret
  exact ⟨rfl, (by repeat' (first | (with_reducible exact Below.refl _ _) | (with_reducible refine Below.alloc ?_ ?_ _) | (with_reducible refine Below.setCell ?_ ?_ _) | (with_reducible refine Below.drew ?_) | (with_reducible refine Below.trans ?_ (Below.mono (by with_reducible assumption) ?_)) | omega | (simp; done) | (simp; omega)))⟩
theorem own_some {w : World} {base : Nat} {E : TypeId} {cs : List Value} {n : Nat} {A : Option Addr} (h0 : n ≠ 0) (h : OwnAt w base E cs n A) : ∃ ad, A = some ad := by
  rcases h with ⟨_, h, _⟩ | ⟨g, h, _⟩
  · exact absurd h h0
  · exact ⟨_, h⟩
theorem bs_pass (xs : List Bsn) (n : Int) : ∀ k, k + 1 ≤ xs.length → bsA (psL xs n 0) (k + 1) = bsA xs (k + 1) - pA xs n k ∧ bsS (psL xs n 0) (k + 1) = bsS xs (k + 1) - pS xs n k
  | 0, h => by
    unfold bsA bsS
    rw [el_psL (by omega)]
    simp [psAt, bsA, bsS]
  | k + 1, h => by
    have ih := bs_pass xs n k (by omega)
    have e1 : bsA xs (k + 1) = bsA xs k + (el xs k).a := rfl
    rw [bsA, bsS, el_psL (by omega), ih.1, ih.2, show bsA xs (k + 1 + 1) = bsA xs (k + 1) + (el xs (k + 1)).a from rfl, show bsS xs (k + 1 + 1) = bsS xs (k + 1) + (el xs (k + 1)).s from rfl]
    simp only [psAt, Nat.zero_le, if_true, if_pos (show 0 + 1 ≤ k + 1 by omega), Nat.add_sub_cancel]
    omega
theorem apO_parts {xs : List Bsn} {a s m t : Int} (hk : apB (apO xs a s m t) = true) : apV xs a s m t = true ∧ apRun m t.toNat xs a s = some (apL (apO xs a s m t), apA (apO xs a s m t), apS (apO xs a s m t)) := by
  have hv : apV xs a s m t = true := by
    cases h : apV xs a s m t with
    | true => rfl
    | false => rw [apO_no h] at hk; cases hk
  refine ⟨hv, ?_⟩
  rw [apO_run hv] at hk ⊢
  cases hr : apRun m t.toNat xs a s with
  | none => rw [hr] at hk; cases hk
  | some x => rfl
theorem apV_parts {xs : List Bsn} {a s m t : Int} (h : apV xs a s m t = true) : serOK xs = true ∧ inB a 0 1000000 = true ∧ inB s 0 1000000 = true ∧ 1 ≤ m ∧ 0 ≤ t ∧ t ≤ 100 := by
  simp only [apV, Bool.and_eq_true, decide_eq_true_eq] at h
  obtain ⟨h1, ⟨h2, h3⟩, h4, h5⟩ := h
  have := inB_iff.1 h5
  exact ⟨h1, h2, h3, h4, this.1, this.2⟩
theorem apV_of {xs : List Bsn} {a s m t : Int} (h1 : serOK xs = true) (h2 : inB a 0 1000000 = true) (h3 : inB s 0 1000000 = true) (h4 : 1 ≤ m) (h5 : 0 ≤ t) (h6 : t ≤ 100) : apV xs a s m t = true := by
  simp only [apV, Bool.and_eq_true, decide_eq_true_eq]
  exact ⟨h1, ⟨h2, h3⟩, h4, inB_iff.2 ⟨h5, h6⟩⟩
theorem psB_parts {xs : List Bsn} {n a s : Int} (h : psB xs n a s = true) : serOK (psL xs n 0) = true ∧ inB (panA xs n a 0) 0 1000000 = true ∧ inB (panS xs n s 0) 0 1000000 = true := by
  simp only [psB, Bool.and_eq_true] at h
  exact ⟨h.1, h.2.1, h.2.2⟩
theorem apRun_ok (n : Int) : ∀ (k : Nat) (xs : List Bsn) (a s : Int) (ys : List Bsn) (b t : Int), serOK xs = true → inB a 0 1000000 = true → inB s 0 1000000 = true → apRun n k xs a s = some (ys, b, t) → serOK ys = true ∧ inB b 0 1000000 = true ∧ inB t 0 1000000 = true
  | 0, xs, a, s, ys, b, t, h1, h2, h3, h => by
    cases h
    exact ⟨h1, h2, h3⟩
  | k + 1, xs, a, s, ys, b, t, h1, h2, h3, h => by
    unfold apRun at h
    split at h
    · rename_i hp
      obtain ⟨p1, p2, p3⟩ := psB_parts hp
      exact apRun_ok n k _ _ _ ys b t p1 p2 p3 h
    · cases h
theorem apRun_snoc (n : Int) : ∀ (k : Nat) (xs : List Bsn) (a s : Int) (ys : List Bsn) (b t : Int), apRun n k xs a s = some (ys, b, t) → apRun n (k + 1) xs a s = apRun n 1 ys b t
  | 0, xs, a, s, ys, b, t, h => by cases h; rfl
  | k + 1, xs, a, s, ys, b, t, h => by
    unfold apRun at h
    split at h
    · rename_i hp
      rw [apRun, if_pos hp]
      exact apRun_snoc n k _ _ _ ys b t h
    · cases h
theorem ap_pos {xs : List Bsn} {a s m t : Int} (hk : apB (apO xs a s m t) = true) : (apL (apO xs a s m t)).length ≠ 0 := by
  obtain ⟨h1, h2⟩ := apO_parts hk
  obtain ⟨v1, v2, v3, v4, v5, v6⟩ := apV_parts h1
  have := (serOK_bd (apRun_ok m _ xs a s _ _ _ v1 v2 v3 h2).1).1.1
  omega
theorem ap_more {xs : List Bsn} {a s m t : Int} (hk : apB (apO xs a s m t) = true) (ht : t < 100) : apO (apL (apO xs a s m t)) (apA (apO xs a s m t)) (apS (apO xs a s m t)) m 1 = apO xs a s m (t + 1) := by
  obtain ⟨h1, h2⟩ := apO_parts hk
  obtain ⟨v1, v2, v3, v4, v5, v6⟩ := apV_parts h1
  obtain ⟨r1, r2, r3⟩ := apRun_ok m _ xs a s _ _ _ v1 v2 v3 h2
  rw [apO_run (xs := apL (apO xs a s m t)) (apV_of r1 r2 r3 v4 (by omega) (by omega)), apO_run (t := t + 1) (apV_of v1 v2 v3 v4 (by omega) (by omega))]
  rw [show (t + 1).toNat = t.toNat + 1 by omega]
  exact (apRun_snoc m _ _ _ _ _ _ _ h2).symm
theorem iAfterPass_at (ad : Addr) (c : Nat) (xs : List Bsn) (a s n : Int) (w : World) (o : Option (List Bsn × Int × Int)) (ho : apO xs a s n 1 = o) (h : Rd w w.heap.size (some ad) 3 Bsn.enc xs) (hx : xs.length ≤ 1048576) :
    Calls Try.prog 23 #[.slice (some ad) xs.length c, .agg #[.int .i64 a, .int .i64 s], .int .i64 n] w fun e w' => ApAt w o e w' := ho ▸ iAfterPass_any ad c xs a s n w h hx
theorem ap_sums {xs : List Bsn} {a s m : Int} (hk : apB (apO xs a s m 1) = true) (h1 : ssB xs = true) (h2 : ssB (apL (apO xs a s m 1)) = true) :
    ssA xs + a = ssA (apL (apO xs a s m 1)) + apA (apO xs a s m 1) ∧ ssS xs + s = ssS (apL (apO xs a s m 1)) + apS (apO xs a s m 1) := by
  obtain ⟨g1, g2⟩ := apO_parts hk
  obtain ⟨v1, _⟩ := apV_parts g1
  have hl := (serOK_bd v1).1.1
  unfold ssA ssS
  rw [if_pos h1, if_pos h2, if_pos h1, if_pos h2]
  generalize apO xs a s m 1 = o at *
  have g3 : apRun m (0 + 1) xs a s = some (apL o, apA o, apS o) := g2
  unfold apRun at g3
  split at g3
  · have g4 := Option.some.inj g3
    have e1 := congrArg Prod.fst g4
    have e2 := congrArg (fun x => x.2.1) g4
    have e3 := congrArg (fun x => x.2.2) g4
    simp only at e1 e2 e3
    rw [← e1, ← e2, ← e3, psL_len]
    obtain ⟨k, hk'⟩ : ∃ k, xs.length = k + 1 := ⟨xs.length - 1, by omega⟩
    have := bs_pass xs m k (by omega)
    rw [hk', this.1, this.2]
    unfold panA panS
    rw [if_neg (by omega), if_neg (by omega), hk', Nat.add_sub_cancel]
    omega
  · cases g3
set_option maxRecDepth 100000 in
set_option maxHeartbeats 40000000 in
theorem FnSeries_p13 {u1 u2 u3 u4 u5 u6 u7 u8 u9 u10 u11 u12 u13 u14 u15 u16 u17 u18 u19 u20 u21 u22 u23 u24 u25 u26 u27 u28 u29 u30 u31 u32 u33 u34 u35 u36 u37 u38 u39 u40 u41 u42 u43 u44 u45 u46 u47 u48 u49 u50 u51 u52 u53 u54 u55 u56 u57 u58 u59 u60 u61 u62 u63 u64 u65 u66 u67 u68 u69 u70 u71 u72 u73 u74 u75 u76 u77 u78 u79 u80 u81 u82 u83 u84 u85 u86 u87 u88 u89 u90 u91 u92 u93 u94 u95 u96 u97 u98 u99 u100 u101 u102 u103 u104 u105 u106 u107 u108 u109 u110 u111 u112 u113 u114 u115 u116 u117 u118 u119 u120 u121 u122 u123 u124 u125 u126 u127 u128 u129 u130 u131 u132 u133 u134 u135 u136 u137 u138 u139 u140 u141 u142 u143 u144 u145 u146 u147 u148 u149 u150 u151 u152 u153 u154 u155 u156 u157 u158 u159 u160 u161 u162 u163 u164 u165 u166 u167 u168 u169 u170 u171 u172 u173 u174 u175 u176 u177 u178 u179 u180 u181 u182 u183 u184 u185 u186 u187 u188 u189 u190 u191 u192 u193 u194 u195 u196 u197 u198 u199 u200 u201 u202 u203 u204 u205 u206 u207 u208 u209 u210 u211 u212 u213 u214 u215 u216 u217 u218 u219 u220 u221 u222 u223 u224 u225 u226 u227 u228 u229 u230 u231 u232 u233 u234 u235 u236 u237 u238 u239 u240 u241 u242 u243 u244 u245 u246 u247 u248 u249 u250 u251 u252 u253 u254 u255 u256 u257 u258 u259 u260 u261 u262 u263 u264 u265 u266 u267 u268 u269 u270 u271 u272 u273 u274 u275 u276 u277 u278 u279 u280 u281 : Value} (A : Option Addr) (n c : Nat) (w wc : World) (hn : n ≤ 65536) (hB : Byt w w.heap.size A n) (h_below : Below w.heap.size w wc) (K : Act → World → Prop) (hK : ∀ a w1, (tailOf 14 (Try.f8.body.getD .skip)).wp Try.prog (bodyPost Try.prog Try.f8 fun e w' => e = .returned (.bool true) ∧ Below w.heap.size w w') a w1 → K a w1) :
    (headOf (tailOf 13 (Try.f8.body.getD .skip))).wp Try.prog (Exit.then K (bodyPost Try.prog Try.f8 fun e w' => e = .returned (.bool true) ∧ Below w.heap.size w w')) ⟨#[.slice A n c, u1, u2, u3, u4, u5, u6, u7, u8, u9, u10, u11, u12, u13, u14, u15, u16, u17, u18, u19, u20, u21, u22, u23, u24, u25, u26, u27, u28, u29, u30, u31, u32, u33, u34, u35, u36, u37, u38, u39, u40, u41, u42, u43, u44, u45, u46, u47, u48, u49, u50, u51, u52, u53, u54, u55, u56, u57, u58, u59, u60, u61, u62, u63, u64, u65, u66, u67, u68, u69, u70, u71, u72, u73, u74, u75, u76, u77, u78, u79, u80, u81, u82, u83, u84, u85, u86, u87, u88, u89, u90, u91, u92, u93, u94, u95, u96, u97, u98, u99, u100, u101, u102, u103, u104, u105, u106, u107, u108, u109, u110, u111, u112, u113, u114, u115, u116, u117, u118, u119, u120, u121, u122, u123, u124, u125, u126, u127, u128, u129, u130, u131, u132, u133, u134, u135, u136, u137, u138, u139, u140, u141, u142, u143, u144, u145, u146, u147, u148, u149, u150, u151, u152, u153, u154, u155, u156, u157, u158, u159, u160, u161, u162, u163, u164, u165, u166, u167, u168, u169, u170, u171, u172, u173, u174, u175, u176, u177, u178, u179, u180, u181, u182, u183, u184, u185, u186, u187, u188, u189, u190, u191, u192, u193, u194, u195, u196, u197, u198, u199, u200, u201, u202, u203, u204, u205, u206, u207, u208, u209, u210, u211, u212, u213, u214, u215, u216, u217, u218, u219, u220, u221, u222, u223, u224, u225, u226, u227, u228, u229, u230, u231, u232, u233, u234, u235, u236, u237, u238, u239, u240, u241, u242, u243, u244, u245, u246, u247, u248, u249, u250, u251, u252, u253, u254, u255, u256, u257, u258, u259, u260, u261, u262, u263, u264, u265, u266, u267, u268, u269, u270, u271, u272, u273, u274, u275, u276, u277, u278, u279, u280, u281], []⟩ wc := by
  have s_below := h_below.size
  simp only [tailOf, headOf, Option.getD, Try.f8] at hK ⊢
  go_wp2_with fail
  refine Dr.cut_calls (fun X => (Below w.heap.size w X)) ((by repeat' (first | (with_reducible exact Below.refl _ _) | (with_reducible refine Below.alloc ?_ ?_ _) | (with_reducible refine Below.setCell ?_ ?_ _) | (with_reducible refine Below.drew ?_) | (with_reducible refine Below.trans ?_ (Below.mono (by with_reducible assumption) ?_)) | omega | (simp; done) | (simp; omega)))) ?_
  clear h_below s_below
  intro Y1 h_below
  refine (dFillFirst_any _ _ _ _ hn (Dr.byt_more (hB.below h_below) h_below.size)).mono ?_
  rintro e X1 ⟨adF, xsF, cF, aF, sF, rfl, hlF, hrF, hb1⟩
  have h_below0 := h_below
  replace h_below := h_below.trans (hb1.mono h_below.size)
  clear hb1
  have h_xf := hrF
  clear h_below0
  have s_below := h_below.size
  go_wp2_with fail
  refine Dr.cut_calls (fun X => (Below w.heap.size w X) ∧ (Rd X X.heap.size (some adF) 3 Bsn.enc xsF) ∧ (Row X (X1.heap.size) 25 [.int .i64 aF, .int .i64 sF])) ⟨(by repeat' (first | (with_reducible exact Below.refl _ _) | (with_reducible refine Below.alloc ?_ ?_ _) | (with_reducible refine Below.setCell ?_ ?_ _) | (with_reducible refine Below.drew ?_) | (with_reducible refine Below.trans ?_ (Below.mono (by with_reducible assumption) ?_)) | omega | (simp; done) | (simp; omega))), (h_xf.to (by repeat' (first | (with_reducible exact Below.refl _ _) | (with_reducible refine Below.alloc ?_ ?_ _) | (with_reducible refine Below.setCell ?_ ?_ _) | (with_reducible refine Below.drew ?_) | (with_reducible refine Below.trans ?_ (Below.mono (by with_reducible assumption) ?_)) | omega | (simp; done) | (simp; omega)))), (by first | exact Row.new _ _ _ | exact (Row.new _ _ _).to (by repeat' (first | (with_reducible exact Below.refl _ _) | (with_reducible refine Below.alloc ?_ ?_ _) | (with_reducible refine Below.setCell ?_ ?_ _) | (with_reducible refine Below.drew ?_) | (with_reducible refine Below.trans ?_ (Below.mono (by with_reducible assumption) ?_)) | omega | (simp; done) | (simp; omega))) | exact row_new_at _ _ _ _ (by simp) | exact (row_new_at _ _ _ _ (by simp)).to (by repeat' (first | (with_reducible exact Below.refl _ _) | (with_reducible refine Below.alloc ?_ ?_ _) | (with_reducible refine Below.setCell ?_ ?_ _) | (with_reducible refine Below.drew ?_) | (with_reducible refine Below.trans ?_ (Below.mono (by with_reducible assumption) ?_)) | omega | (simp; done) | (simp; omega))))⟩ ?_
  clear h_below s_below h_xf
  obtain ⟨BX2, hBX2⟩ : ∃ B, X1.heap.size = B := ⟨_, rfl⟩
  simp only [hBX2]
  clear hBX2
  rintro Y2 ⟨h_below, h_xf, h_pf⟩
  refine (iFillFirst_any _ _ _ aF sF _ h_xf (by omega)).mono ?_
  rintro e X2 ⟨AG, cG, rfl, hoG, hb2⟩
  have h_below0 := h_below
  replace h_below := h_below.trans (hb2.mono h_below.size)
  replace h_xf := h_xf.to hb2
  replace h_pf := Row.to h_pf hb2
  clear hb2
  have h_og := hoG.mono h_below0.size
  clear h_below0
  have s_below := h_below.size
  have hffl := ffR_len xsF aF sF
  have l_pf := Row.lt h_pf
  have z_pf := Row.frozen h_pf
  obtain ⟨c_pf0, c_pf1⟩ := row2c h_pf
  go_wp2_with fail
  refine Dr.cut_calls (fun X => (Below w.heap.size w X) ∧ (Rd X X.heap.size (some adF) 3 Bsn.enc xsF) ∧ (Row X (BX2) 25 [.int .i64 aF, .int .i64 sF]) ∧ (OwnAt X w.heap.size 62 ((ffR xsF aF sF).flatMap Bsn.enc) (ffR xsF aF sF).length AG)) ⟨(by repeat' (first | (with_reducible exact Below.refl _ _) | (with_reducible refine Below.alloc ?_ ?_ _) | (with_reducible refine Below.setCell ?_ ?_ _) | (with_reducible refine Below.drew ?_) | (with_reducible refine Below.trans ?_ (Below.mono (by with_reducible assumption) ?_)) | omega | (simp; done) | (simp; omega))), (h_xf.to (by repeat' (first | (with_reducible exact Below.refl _ _) | (with_reducible refine Below.alloc ?_ ?_ _) | (with_reducible refine Below.setCell ?_ ?_ _) | (with_reducible refine Below.drew ?_) | (with_reducible refine Below.trans ?_ (Below.mono (by with_reducible assumption) ?_)) | omega | (simp; done) | (simp; omega)))), (Row.to h_pf (by repeat' (first | (with_reducible exact Below.refl _ _) | (with_reducible refine Below.alloc ?_ ?_ _) | (with_reducible refine Below.setCell ?_ ?_ _) | (with_reducible refine Below.drew ?_) | (with_reducible refine Below.trans ?_ (Below.mono (by with_reducible assumption) ?_)) | omega | (simp; done) | (simp; omega)))), (h_og.to (by repeat' (first | (with_reducible exact Below.refl _ _) | (with_reducible refine Below.alloc ?_ ?_ _) | (with_reducible refine Below.setCell ?_ ?_ _) | (with_reducible refine Below.drew ?_) | (with_reducible refine Below.trans ?_ (Below.mono (by with_reducible assumption) ?_)) | omega | (simp; done) | (simp; omega))))⟩ ?_
  clear h_below s_below h_xf h_pf l_pf z_pf c_pf0 c_pf1 h_og
  rintro Y3 ⟨h_below, h_xf, h_pf, h_og⟩
  refine (sFillFirst_any _ _ _ aF sF _ h_xf (by omega)).mono ?_
  rintro e X3 ⟨AH, cH, rfl, hoH, hb3⟩
  have h_below0 := h_below
  replace h_below := h_below.trans (hb3.mono h_below.size)
  replace h_xf := h_xf.to hb3
  replace h_og := h_og.to hb3
  clear hb3
  have h_oh := hoH.mono h_below0.size
  clear h_below0
  have s_below := h_below.size
  clear h_pf
  go_wp2_with fail
  refine Dr.cut_calls (fun X => (Below w.heap.size w X) ∧ (Rd X X.heap.size (some adF) 3 Bsn.enc xsF) ∧ (OwnAt X w.heap.size 62 ((ffR xsF aF sF).flatMap Bsn.enc) (ffR xsF aF sF).length AG) ∧ (OwnAt X w.heap.size 62 ((ffR xsF aF sF).flatMap Bsn.enc) (ffR xsF aF sF).length AH)) ⟨(by repeat' (first | (with_reducible exact Below.refl _ _) | (with_reducible refine Below.alloc ?_ ?_ _) | (with_reducible refine Below.setCell ?_ ?_ _) | (with_reducible refine Below.drew ?_) | (with_reducible refine Below.trans ?_ (Below.mono (by with_reducible assumption) ?_)) | omega | (simp; done) | (simp; omega))), (h_xf.to (by repeat' (first | (with_reducible exact Below.refl _ _) | (with_reducible refine Below.alloc ?_ ?_ _) | (with_reducible refine Below.setCell ?_ ?_ _) | (with_reducible refine Below.drew ?_) | (with_reducible refine Below.trans ?_ (Below.mono (by with_reducible assumption) ?_)) | omega | (simp; done) | (simp; omega)))), (h_og.to (by repeat' (first | (with_reducible exact Below.refl _ _) | (with_reducible refine Below.alloc ?_ ?_ _) | (with_reducible refine Below.setCell ?_ ?_ _) | (with_reducible refine Below.drew ?_) | (with_reducible refine Below.trans ?_ (Below.mono (by with_reducible assumption) ?_)) | omega | (simp; done) | (simp; omega)))), (h_oh.to (by repeat' (first | (with_reducible exact Below.refl _ _) | (with_reducible refine Below.alloc ?_ ?_ _) | (with_reducible refine Below.setCell ?_ ?_ _) | (with_reducible refine Below.drew ?_) | (with_reducible refine Below.trans ?_ (Below.mono (by with_reducible assumption) ?_)) | omega | (simp; done) | (simp; omega))))⟩ ?_
  clear h_below s_below h_xf h_og h_oh
  rintro Y4 ⟨h_below, h_xf, h_og, h_oh⟩
  refine (vBasins_same _ _ _ _ _ _ (h_og.rd Bsn.enc_len) (h_oh.rd Bsn.enc_len) (by omega)).mono ?_
  rintro e X4 ⟨rfl, hb4⟩
  have h_below0 := h_below
  replace h_below := h_below.trans (hb4.mono h_below.size)
  clear hb4
  clear h_below0
  have s_below := h_below.size
  clear h_og
  clear h_oh
  clear h_xf
  go_wp2_with fail
  refine Dr.cut_calls (fun X => (Below w.heap.size w X)) ((by repeat' (first | (with_reducible exact Below.refl _ _) | (with_reducible refine Below.alloc ?_ ?_ _) | (with_reducible refine Below.setCell ?_ ?_ _) | (with_reducible refine Below.drew ?_) | (with_reducible refine Below.trans ?_ (Below.mono (by with_reducible assumption) ?_)) | omega | (simp; done) | (simp; omega)))) ?_
  clear h_below s_below
  intro Y5 h_below
  refine (dSeriesSum_any _ _ _ _ hn (Dr.byt_more (hB.below h_below) h_below.size)).mono ?_
  rintro e X5 ⟨adW, xsW, cW, rfl, hlW, hrW, hb5⟩
  have h_below0 := h_below
  replace h_below := h_below.trans (hb5.mono h_below.size)
  clear hb5
  have h_xw := hrW
  clear h_below0
  have s_below := h_below.size
  go_wp2_with fail
  refine Dr.cut_calls (fun X => (Below w.heap.size w X) ∧ (Rd X X.heap.size (some adW) 3 Bsn.enc xsW)) ⟨(by repeat' (first | (with_reducible exact Below.refl _ _) | (with_reducible refine Below.alloc ?_ ?_ _) | (with_reducible refine Below.setCell ?_ ?_ _) | (with_reducible refine Below.drew ?_) | (with_reducible refine Below.trans ?_ (Below.mono (by with_reducible assumption) ?_)) | omega | (simp; done) | (simp; omega))), (h_xw.to (by repeat' (first | (with_reducible exact Below.refl _ _) | (with_reducible refine Below.alloc ?_ ?_ _) | (with_reducible refine Below.setCell ?_ ?_ _) | (with_reducible refine Below.drew ?_) | (with_reducible refine Below.trans ?_ (Below.mono (by with_reducible assumption) ?_)) | omega | (simp; done) | (simp; omega))))⟩ ?_
  clear h_below s_below h_xw
  rintro Y6 ⟨h_below, h_xw⟩
  refine (iSeriesSum_any _ _ _ _ h_xw (by omega)).mono ?_
  rintro e X6 ⟨rfl, hb6⟩
  have h_below0 := h_below
  replace h_below := h_below.trans (hb6.mono h_below.size)
  replace h_xw := h_xw.to hb6
  clear hb6
  clear h_below0
  have s_below := h_below.size
  go_wp2_with fail
  refine Dr.cut_calls (fun X => (Below w.heap.size w X) ∧ (Rd X X.heap.size (some adW) 3 Bsn.enc xsW) ∧ (Row X (X6.heap.size) 25 [.int .i64 (ssA xsW), .int .i64 (ssS xsW)])) ⟨(by repeat' (first | (with_reducible exact Below.refl _ _) | (with_reducible refine Below.alloc ?_ ?_ _) | (with_reducible refine Below.setCell ?_ ?_ _) | (with_reducible refine Below.drew ?_) | (with_reducible refine Below.trans ?_ (Below.mono (by with_reducible assumption) ?_)) | omega | (simp; done) | (simp; omega))), (h_xw.to (by repeat' (first | (with_reducible exact Below.refl _ _) | (with_reducible refine Below.alloc ?_ ?_ _) | (with_reducible refine Below.setCell ?_ ?_ _) | (with_reducible refine Below.drew ?_) | (with_reducible refine Below.trans ?_ (Below.mono (by with_reducible assumption) ?_)) | omega | (simp; done) | (simp; omega)))), (by first | exact Row.new _ _ _ | exact (Row.new _ _ _).to (by repeat' (first | (with_reducible exact Below.refl _ _) | (with_reducible refine Below.alloc ?_ ?_ _) | (with_reducible refine Below.setCell ?_ ?_ _) | (with_reducible refine Below.drew ?_) | (with_reducible refine Below.trans ?_ (Below.mono (by with_reducible assumption) ?_)) | omega | (simp; done) | (simp; omega))) | exact row_new_at _ _ _ _ (by simp) | exact (row_new_at _ _ _ _ (by simp)).to (by repeat' (first | (with_reducible exact Below.refl _ _) | (with_reducible refine Below.alloc ?_ ?_ _) | (with_reducible refine Below.setCell ?_ ?_ _) | (with_reducible refine Below.drew ?_) | (with_reducible refine Below.trans ?_ (Below.mono (by with_reducible assumption) ?_)) | omega | (simp; done) | (simp; omega))))⟩ ?_
  clear h_below s_below h_xw
  obtain ⟨BX7, hBX7⟩ : ∃ B, X6.heap.size = B := ⟨_, rfl⟩
  simp only [hBX7]
  clear hBX7
  rintro Y7 ⟨h_below, h_xw, h_ra⟩
  refine (sSeriesSum_any _ _ _ _ h_xw (by omega)).mono ?_
  rintro e X7 ⟨rfl, hb7⟩
  have h_below0 := h_below
  replace h_below := h_below.trans (hb7.mono h_below.size)
  replace h_xw := h_xw.to hb7
  replace h_ra := Row.to h_ra hb7
  clear hb7
  clear h_below0
  have s_below := h_below.size
  have l_ra := Row.lt h_ra
  have z_ra := Row.frozen h_ra
  obtain ⟨c_ra0, c_ra1⟩ := row2c h_ra
  go_wp2_with fail
  go_ret
  exact ⟨rfl, h_below.trans (by repeat' (first | (with_reducible exact Below.refl _ _) | (with_reducible refine Below.alloc ?_ ?_ _) | (with_reducible refine Below.setCell ?_ ?_ _) | (with_reducible refine Below.drew ?_) | (with_reducible refine Below.trans ?_ (Below.mono (by with_reducible assumption) ?_)) | omega | (simp; done) | (simp; omega)))⟩
set_option maxRecDepth 100000 in
set_option maxHeartbeats 40000000 in
theorem FnSeries_p10 {u1 u2 u3 u4 u5 u6 u7 u8 u9 u10 u11 u12 u13 u14 u15 u16 u17 u18 u19 u20 u21 u22 u23 u24 u25 u26 u27 u28 u29 u30 u31 u32 u33 u34 u35 u36 u37 u38 u39 u40 u41 u42 u43 u44 u45 u46 u47 u48 u49 u50 u51 u52 u53 u54 u55 u56 u57 u58 u59 u60 u61 u62 u63 u64 u65 u66 u67 u68 u69 u70 u71 u72 u73 u74 u75 u76 u77 u78 u79 u80 u81 u82 u83 u84 u85 u86 u87 u88 u89 u90 u91 u92 u93 u94 u95 u96 u97 u98 u99 u100 u101 u102 u103 u104 u105 u106 u107 u108 u109 u110 u111 u112 u113 u114 u115 u116 u117 u118 u119 u120 u121 u122 u123 u124 u125 u126 u127 u128 u129 u130 u131 u132 u133 u134 u135 u136 u137 u138 u139 u140 u141 u142 u143 u144 u145 u146 u147 u148 u149 u150 u151 u152 u153 u154 u155 u156 u157 u158 u159 u160 u161 u162 u163 u164 u165 u166 u167 u168 u169 u170 u171 u172 u173 u174 u175 u176 u177 u178 u179 u180 u181 u182 u183 u184 u185 u186 u187 u188 u189 u190 u191 u192 u193 u194 u195 u196 u197 u198 u199 u200 u201 u202 u203 u204 u205 u206 u207 u208 u209 u210 u211 u212 u213 u214 u215 u216 u217 u218 u219 u220 u221 u222 u223 u224 u225 u226 u227 u228 u229 u230 u231 u232 u233 u234 u235 u236 u237 u238 u239 u240 u241 u242 u243 u244 u245 u246 u247 u248 u249 u250 u251 u252 u253 u254 u255 u256 u257 u258 u259 u260 u261 u262 u263 u264 u265 u266 u267 u268 u269 u270 u271 u272 u273 u274 u275 u276 u277 u278 u279 u280 u281 : Value} (A : Option Addr) (n c : Nat) (w wc : World) (hn : n ≤ 65536) (hB : Byt w w.heap.size A n) (h_below : Below w.heap.size w wc) (K : Act → World → Prop) (hK : ∀ a w1, (tailOf 11 (Try.f8.body.getD .skip)).wp Try.prog (bodyPost Try.prog Try.f8 fun e w' => e = .returned (.bool true) ∧ Below w.heap.size w w') a w1 → K a w1) :
    (headOf (tailOf 10 (Try.f8.body.getD .skip))).wp Try.prog (Exit.then K (bodyPost Try.prog Try.f8 fun e w' => e = .returned (.bool true) ∧ Below w.heap.size w w')) ⟨#[.slice A n c, u1, u2, u3, u4, u5, u6, u7, u8, u9, u10, u11, u12, u13, u14, u15, u16, u17, u18, u19, u20, u21, u22, u23, u24, u25, u26, u27, u28, u29, u30, u31, u32, u33, u34, u35, u36, u37, u38, u39, u40, u41, u42, u43, u44, u45, u46, u47, u48, u49, u50, u51, u52, u53, u54, u55, u56, u57, u58, u59, u60, u61, u62, u63, u64, u65, u66, u67, u68, u69, u70, u71, u72, u73, u74, u75, u76, u77, u78, u79, u80, u81, u82, u83, u84, u85, u86, u87, u88, u89, u90, u91, u92, u93, u94, u95, u96, u97, u98, u99, u100, u101, u102, u103, u104, u105, u106, u107, u108, u109, u110, u111, u112, u113, u114, u115, u116, u117, u118, u119, u120, u121, u122, u123, u124, u125, u126, u127, u128, u129, u130, u131, u132, u133, u134, u135, u136, u137, u138, u139, u140, u141, u142, u143, u144, u145, u146, u147, u148, u149, u150, u151, u152, u153, u154, u155, u156, u157, u158, u159, u160, u161, u162, u163, u164, u165, u166, u167, u168, u169, u170, u171, u172, u173, u174, u175, u176, u177, u178, u179, u180, u181, u182, u183, u184, u185, u186, u187, u188, u189, u190, u191, u192, u193, u194, u195, u196, u197, u198, u199, u200, u201, u202, u203, u204, u205, u206, u207, u208, u209, u210, u211, u212, u213, u214, u215, u216, u217, u218, u219, u220, u221, u222, u223, u224, u225, u226, u227, u228, u229, u230, u231, u232, u233, u234, u235, u236, u237, u238, u239, u240, u241, u242, u243, u244, u245, u246, u247, u248, u249, u250, u251, u252, u253, u254, u255, u256, u257, u258, u259, u260, u261, u262, u263, u264, u265, u266, u267, u268, u269, u270, u271, u272, u273, u274, u275, u276, u277, u278, u279, u280, u281], []⟩ wc := by
  have s_below := h_below.size
  simp only [tailOf, headOf, Option.getD, Try.f8] at hK ⊢
  go_wp2_with fail
  refine Dr.cut_calls (fun X => (Below w.heap.size w X)) ((by repeat' (first | (with_reducible exact Below.refl _ _) | (with_reducible refine Below.alloc ?_ ?_ _) | (with_reducible refine Below.setCell ?_ ?_ _) | (with_reducible refine Below.drew ?_) | (with_reducible refine Below.trans ?_ (Below.mono (by with_reducible assumption) ?_)) | omega | (simp; done) | (simp; omega)))) ?_
  clear h_below s_below
  intro Y1 h_below
  refine (dPassesToEmpty_any _ _ _ _ hn (Dr.byt_more (hB.below h_below) h_below.size)).mono ?_
  rintro e X1 ⟨adE, xsE, cE, mE, rfl, hlE, hrE, hb1⟩
  have h_below0 := h_below
  replace h_below := h_below.trans (hb1.mono h_below.size)
  clear hb1
  have h_xe := hrE
  clear h_below0
  have s_below := h_below.size
  go_wp2_with fail
  refine Dr.cut_calls (fun X => (Below w.heap.size w X) ∧ (Rd X X.heap.size (some adE) 3 Bsn.enc xsE)) ⟨(by repeat' (first | (with_reducible exact Below.refl _ _) | (with_reducible refine Below.alloc ?_ ?_ _) | (with_reducible refine Below.setCell ?_ ?_ _) | (with_reducible refine Below.drew ?_) | (with_reducible refine Below.trans ?_ (Below.mono (by with_reducible assumption) ?_)) | omega | (simp; done) | (simp; omega))), (h_xe.to (by repeat' (first | (with_reducible exact Below.refl _ _) | (with_reducible refine Below.alloc ?_ ?_ _) | (with_reducible refine Below.setCell ?_ ?_ _) | (with_reducible refine Below.drew ?_) | (with_reducible refine Below.trans ?_ (Below.mono (by with_reducible assumption) ?_)) | omega | (simp; done) | (simp; omega))))⟩ ?_
  clear h_below s_below h_xe
  rintro Y2 ⟨h_below, h_xe⟩
  refine (iPassesToEmpty_any _ _ _ _ _ h_xe (by omega)).mono ?_
  rintro e X2 ⟨rfl, hb2⟩
  have h_below0 := h_below
  replace h_below := h_below.trans (hb2.mono h_below.size)
  replace h_xe := h_xe.to hb2
  clear hb2
  clear h_below0
  have s_below := h_below.size
  go_wp2_with fail
  refine Dr.cut_calls (fun X => (Below w.heap.size w X) ∧ (Rd X X.heap.size (some adE) 3 Bsn.enc xsE)) ⟨(by repeat' (first | (with_reducible exact Below.refl _ _) | (with_reducible refine Below.alloc ?_ ?_ _) | (with_reducible refine Below.setCell ?_ ?_ _) | (with_reducible refine Below.drew ?_) | (with_reducible refine Below.trans ?_ (Below.mono (by with_reducible assumption) ?_)) | omega | (simp; done) | (simp; omega))), (h_xe.to (by repeat' (first | (with_reducible exact Below.refl _ _) | (with_reducible refine Below.alloc ?_ ?_ _) | (with_reducible refine Below.setCell ?_ ?_ _) | (with_reducible refine Below.drew ?_) | (with_reducible refine Below.trans ?_ (Below.mono (by with_reducible assumption) ?_)) | omega | (simp; done) | (simp; omega))))⟩ ?_
  clear h_below s_below h_xe
  rintro Y3 ⟨h_below, h_xe⟩
  refine (sPassesToEmpty_any _ _ _ _ _ h_xe (by omega)).mono ?_
  rintro e X3 ⟨rfl, hb3⟩
  have h_below0 := h_below
  replace h_below := h_below.trans (hb3.mono h_below.size)
  clear hb3
  clear h_below0
  have s_below := h_below.size
  clear h_xe
  go_upto_region 28 with (fail)
  exact FnSeries_p13 A n c w _ hn hB (h_below.trans (by repeat' (first | (with_reducible exact Below.refl _ _) | (with_reducible refine Below.alloc ?_ ?_ _) | (with_reducible refine Below.setCell ?_ ?_ _) | (with_reducible refine Below.drew ?_) | (with_reducible refine Below.trans ?_ (Below.mono (by with_reducible assumption) ?_)) | omega | (simp; done) | (simp; omega))))  _ (by assumption)
set_option maxRecDepth 100000 in
set_option maxHeartbeats 40000000 in
theorem FnSeries_p6 {u1 u2 u3 u4 u5 u6 u7 u8 u9 u10 u11 u12 u13 u14 u15 u16 u17 u18 u19 u20 u21 u22 u23 u24 u25 u26 u27 u28 u29 u30 u31 u32 u33 u34 u35 u36 u37 u38 u39 u40 u41 u42 u43 u44 u45 u46 u47 u48 u49 u50 u51 u52 u53 u54 u55 u56 u57 u58 u59 u60 u61 u62 u63 u64 u65 u66 u67 u68 u69 u70 u71 u72 u73 u74 u75 u76 u77 u78 u79 u80 u81 u82 u83 u84 u85 u86 u87 u88 u89 u90 u91 u92 u93 u94 u95 u96 u97 u98 u99 u100 u101 u102 u103 u104 u105 u106 u107 u108 u109 u110 u111 u112 u113 u114 u115 u116 u117 u118 u119 u120 u121 u122 u123 u124 u125 u126 u127 u128 u129 u130 u131 u132 u133 u134 u135 u136 u137 u138 u139 u140 u141 u142 u143 u144 u145 u146 u147 u148 u149 u150 u151 u152 u153 u154 u155 u156 u157 u158 u159 u160 u161 u162 u163 u164 u165 u166 u167 u168 u169 u170 u171 u172 u173 u174 u175 u176 u177 u178 u179 u180 u181 u182 u183 u184 u185 u186 u187 u188 u189 u190 u191 u192 u193 u194 u195 u196 u197 u198 u199 u200 u201 u202 u203 u204 u205 u206 u207 u208 u209 u210 u211 u212 u213 u214 u215 u216 u217 u218 u219 u220 u221 u222 u223 u224 u225 u226 u227 u228 u229 u230 u231 u232 u233 u234 u235 u236 u237 u238 u239 u240 u241 u242 u243 u244 u245 u246 u247 u248 u249 u250 u251 u252 u253 u254 u255 u256 u257 u258 u259 u260 u261 u262 u263 u264 u265 u266 u267 u268 u269 u270 u271 u272 u273 u274 u275 u276 u277 u278 u279 u280 u281 : Value} (A : Option Addr) (n c : Nat) (w wc : World) (hn : n ≤ 65536) (hB : Byt w w.heap.size A n) (h_below : Below w.heap.size w wc) (K : Act → World → Prop) (hK : ∀ a w1, (tailOf 7 (Try.f8.body.getD .skip)).wp Try.prog (bodyPost Try.prog Try.f8 fun e w' => e = .returned (.bool true) ∧ Below w.heap.size w w') a w1 → K a w1) :
    (headOf (tailOf 6 (Try.f8.body.getD .skip))).wp Try.prog (Exit.then K (bodyPost Try.prog Try.f8 fun e w' => e = .returned (.bool true) ∧ Below w.heap.size w w')) ⟨#[.slice A n c, u1, u2, u3, u4, u5, u6, u7, u8, u9, u10, u11, u12, u13, u14, u15, u16, u17, u18, u19, u20, u21, u22, u23, u24, u25, u26, u27, u28, u29, u30, u31, u32, u33, u34, u35, u36, u37, u38, u39, u40, u41, u42, u43, u44, u45, u46, u47, u48, u49, u50, u51, u52, u53, u54, u55, u56, u57, u58, u59, u60, u61, u62, u63, u64, u65, u66, u67, u68, u69, u70, u71, u72, u73, u74, u75, u76, u77, u78, u79, u80, u81, u82, u83, u84, u85, u86, u87, u88, u89, u90, u91, u92, u93, u94, u95, u96, u97, u98, u99, u100, u101, u102, u103, u104, u105, u106, u107, u108, u109, u110, u111, u112, u113, u114, u115, u116, u117, u118, u119, u120, u121, u122, u123, u124, u125, u126, u127, u128, u129, u130, u131, u132, u133, u134, u135, u136, u137, u138, u139, u140, u141, u142, u143, u144, u145, u146, u147, u148, u149, u150, u151, u152, u153, u154, u155, u156, u157, u158, u159, u160, u161, u162, u163, u164, u165, u166, u167, u168, u169, u170, u171, u172, u173, u174, u175, u176, u177, u178, u179, u180, u181, u182, u183, u184, u185, u186, u187, u188, u189, u190, u191, u192, u193, u194, u195, u196, u197, u198, u199, u200, u201, u202, u203, u204, u205, u206, u207, u208, u209, u210, u211, u212, u213, u214, u215, u216, u217, u218, u219, u220, u221, u222, u223, u224, u225, u226, u227, u228, u229, u230, u231, u232, u233, u234, u235, u236, u237, u238, u239, u240, u241, u242, u243, u244, u245, u246, u247, u248, u249, u250, u251, u252, u253, u254, u255, u256, u257, u258, u259, u260, u261, u262, u263, u264, u265, u266, u267, u268, u269, u270, u271, u272, u273, u274, u275, u276, u277, u278, u279, u280, u281], []⟩ wc := by
  have s_below := h_below.size
  simp only [tailOf, headOf, Option.getD, Try.f8] at hK ⊢
  go_wp2_with fail
  refine Dr.cut_calls (fun X => (Below w.heap.size w X)) ((by repeat' (first | (with_reducible exact Below.refl _ _) | (with_reducible refine Below.alloc ?_ ?_ _) | (with_reducible refine Below.setCell ?_ ?_ _) | (with_reducible refine Below.drew ?_) | (with_reducible refine Below.trans ?_ (Below.mono (by with_reducible assumption) ?_)) | omega | (simp; done) | (simp; omega)))) ?_
  clear h_below s_below
  intro Y1 h_below
  refine (dAfterPasses_any _ _ _ _ hn (Dr.byt_more (hB.below h_below) h_below.size)).mono ?_
  rintro e X1 ⟨adB, xsB, cB, aB, sB, mB, tB, rfl, hlB, hrB, hb1⟩
  have h_below0 := h_below
  replace h_below := h_below.trans (hb1.mono h_below.size)
  clear hb1
  have h_xb := hrB
  clear h_below0
  have s_below := h_below.size
  go_wp2_with fail
  refine Dr.cut_calls (fun X => (Below w.heap.size w X) ∧ (Rd X X.heap.size (some adB) 3 Bsn.enc xsB) ∧ (Row X (X1.heap.size) 25 [.int .i64 aB, .int .i64 sB])) ⟨(by repeat' (first | (with_reducible exact Below.refl _ _) | (with_reducible refine Below.alloc ?_ ?_ _) | (with_reducible refine Below.setCell ?_ ?_ _) | (with_reducible refine Below.drew ?_) | (with_reducible refine Below.trans ?_ (Below.mono (by with_reducible assumption) ?_)) | omega | (simp; done) | (simp; omega))), (h_xb.to (by repeat' (first | (with_reducible exact Below.refl _ _) | (with_reducible refine Below.alloc ?_ ?_ _) | (with_reducible refine Below.setCell ?_ ?_ _) | (with_reducible refine Below.drew ?_) | (with_reducible refine Below.trans ?_ (Below.mono (by with_reducible assumption) ?_)) | omega | (simp; done) | (simp; omega)))), (by first | exact Row.new _ _ _ | exact (Row.new _ _ _).to (by repeat' (first | (with_reducible exact Below.refl _ _) | (with_reducible refine Below.alloc ?_ ?_ _) | (with_reducible refine Below.setCell ?_ ?_ _) | (with_reducible refine Below.drew ?_) | (with_reducible refine Below.trans ?_ (Below.mono (by with_reducible assumption) ?_)) | omega | (simp; done) | (simp; omega))) | exact row_new_at _ _ _ _ (by simp) | exact (row_new_at _ _ _ _ (by simp)).to (by repeat' (first | (with_reducible exact Below.refl _ _) | (with_reducible refine Below.alloc ?_ ?_ _) | (with_reducible refine Below.setCell ?_ ?_ _) | (with_reducible refine Below.drew ?_) | (with_reducible refine Below.trans ?_ (Below.mono (by with_reducible assumption) ?_)) | omega | (simp; done) | (simp; omega))))⟩ ?_
  clear h_below s_below h_xb
  obtain ⟨BX2, hBX2⟩ : ∃ B, X1.heap.size = B := ⟨_, rfl⟩
  simp only [hBX2]
  clear hBX2
  rintro Y2 ⟨h_below, h_xb, h_pb⟩
  refine (iAfterPasses_any _ _ _ aB sB mB tB _ h_xb (by omega)).mono ?_
  rintro e X2 ⟨AC, cC, rfl, hoC, hb2⟩
  have h_below0 := h_below
  replace h_below := h_below.trans (hb2.mono h_below.size)
  replace h_xb := h_xb.to hb2
  replace h_pb := Row.to h_pb hb2
  clear hb2
  have h_oc := hoC.mono h_below0.size
  clear h_below0
  have s_below := h_below.size
  have hapl2 := apO_len xsB aB sB mB tB
  have l_pb := Row.lt h_pb
  have z_pb := Row.frozen h_pb
  obtain ⟨c_pb0, c_pb1⟩ := row2c h_pb
  go_wp2_with fail
  refine Dr.cut_calls (fun X => (Below w.heap.size w X) ∧ (Rd X X.heap.size (some adB) 3 Bsn.enc xsB) ∧ (Row X (BX2) 25 [.int .i64 aB, .int .i64 sB]) ∧ (OwnAt X w.heap.size 62 ((apL (apO xsB aB sB mB tB)).flatMap Bsn.enc) (apL (apO xsB aB sB mB tB)).length AC) ∧ (Row X (X2.heap.size) 25 [.int .i64 (apA (apO xsB aB sB mB tB)), .int .i64 (apS (apO xsB aB sB mB tB))])) ⟨(by repeat' (first | (with_reducible exact Below.refl _ _) | (with_reducible refine Below.alloc ?_ ?_ _) | (with_reducible refine Below.setCell ?_ ?_ _) | (with_reducible refine Below.drew ?_) | (with_reducible refine Below.trans ?_ (Below.mono (by with_reducible assumption) ?_)) | omega | (simp; done) | (simp; omega))), (h_xb.to (by repeat' (first | (with_reducible exact Below.refl _ _) | (with_reducible refine Below.alloc ?_ ?_ _) | (with_reducible refine Below.setCell ?_ ?_ _) | (with_reducible refine Below.drew ?_) | (with_reducible refine Below.trans ?_ (Below.mono (by with_reducible assumption) ?_)) | omega | (simp; done) | (simp; omega)))), (Row.to h_pb (by repeat' (first | (with_reducible exact Below.refl _ _) | (with_reducible refine Below.alloc ?_ ?_ _) | (with_reducible refine Below.setCell ?_ ?_ _) | (with_reducible refine Below.drew ?_) | (with_reducible refine Below.trans ?_ (Below.mono (by with_reducible assumption) ?_)) | omega | (simp; done) | (simp; omega)))), (h_oc.to (by repeat' (first | (with_reducible exact Below.refl _ _) | (with_reducible refine Below.alloc ?_ ?_ _) | (with_reducible refine Below.setCell ?_ ?_ _) | (with_reducible refine Below.drew ?_) | (with_reducible refine Below.trans ?_ (Below.mono (by with_reducible assumption) ?_)) | omega | (simp; done) | (simp; omega)))), (by first | exact Row.new _ _ _ | exact (Row.new _ _ _).to (by repeat' (first | (with_reducible exact Below.refl _ _) | (with_reducible refine Below.alloc ?_ ?_ _) | (with_reducible refine Below.setCell ?_ ?_ _) | (with_reducible refine Below.drew ?_) | (with_reducible refine Below.trans ?_ (Below.mono (by with_reducible assumption) ?_)) | omega | (simp; done) | (simp; omega))) | exact row_new_at _ _ _ _ (by simp) | exact (row_new_at _ _ _ _ (by simp)).to (by repeat' (first | (with_reducible exact Below.refl _ _) | (with_reducible refine Below.alloc ?_ ?_ _) | (with_reducible refine Below.setCell ?_ ?_ _) | (with_reducible refine Below.drew ?_) | (with_reducible refine Below.trans ?_ (Below.mono (by with_reducible assumption) ?_)) | omega | (simp; done) | (simp; omega))))⟩ ?_
  clear h_below s_below h_xb h_pb l_pb z_pb c_pb0 c_pb1 h_oc
  obtain ⟨BX3, hBX3⟩ : ∃ B, X2.heap.size = B := ⟨_, rfl⟩
  simp only [hBX3]
  clear hBX3
  rintro Y3 ⟨h_below, h_xb, h_pb, h_oc, h_qb⟩
  refine (sAfterPasses_any _ _ _ aB sB mB tB _ h_xb (by omega)).mono ?_
  rintro e X3 ⟨AD, cD, rfl, hoD, hb3⟩
  have h_below0 := h_below
  replace h_below := h_below.trans (hb3.mono h_below.size)
  replace h_xb := h_xb.to hb3
  replace h_pb := Row.to h_pb hb3
  replace h_oc := h_oc.to hb3
  replace h_qb := Row.to h_qb hb3
  clear hb3
  have h_od := hoD.mono h_below0.size
  clear h_below0
  have s_below := h_below.size
  have l_pb := Row.lt h_pb
  have z_pb := Row.frozen h_pb
  obtain ⟨c_pb0, c_pb1⟩ := row2c h_pb
  have l_qb := Row.lt h_qb
  have z_qb := Row.frozen h_qb
  obtain ⟨c_qb0, c_qb1⟩ := row2c h_qb
  go_wp2_with fail
  refine Dr.cut_calls (fun X => (Below w.heap.size w X) ∧ (Rd X X.heap.size (some adB) 3 Bsn.enc xsB) ∧ (Row X (BX2) 25 [.int .i64 aB, .int .i64 sB]) ∧ (OwnAt X w.heap.size 62 ((apL (apO xsB aB sB mB tB)).flatMap Bsn.enc) (apL (apO xsB aB sB mB tB)).length AC) ∧ (Row X (BX3) 25 [.int .i64 (apA (apO xsB aB sB mB tB)), .int .i64 (apS (apO xsB aB sB mB tB))]) ∧ (OwnAt X w.heap.size 62 ((apL (apO xsB aB sB mB tB)).flatMap Bsn.enc) (apL (apO xsB aB sB mB tB)).length AD) ∧ (Row X (X3.heap.size) 25 [.int .i64 (apA (apO xsB aB sB mB tB)), .int .i64 (apS (apO xsB aB sB mB tB))])) ⟨(by repeat' (first | (with_reducible exact Below.refl _ _) | (with_reducible refine Below.alloc ?_ ?_ _) | (with_reducible refine Below.setCell ?_ ?_ _) | (with_reducible refine Below.drew ?_) | (with_reducible refine Below.trans ?_ (Below.mono (by with_reducible assumption) ?_)) | omega | (simp; done) | (simp; omega))), (h_xb.to (by repeat' (first | (with_reducible exact Below.refl _ _) | (with_reducible refine Below.alloc ?_ ?_ _) | (with_reducible refine Below.setCell ?_ ?_ _) | (with_reducible refine Below.drew ?_) | (with_reducible refine Below.trans ?_ (Below.mono (by with_reducible assumption) ?_)) | omega | (simp; done) | (simp; omega)))), (Row.to h_pb (by repeat' (first | (with_reducible exact Below.refl _ _) | (with_reducible refine Below.alloc ?_ ?_ _) | (with_reducible refine Below.setCell ?_ ?_ _) | (with_reducible refine Below.drew ?_) | (with_reducible refine Below.trans ?_ (Below.mono (by with_reducible assumption) ?_)) | omega | (simp; done) | (simp; omega)))), (h_oc.to (by repeat' (first | (with_reducible exact Below.refl _ _) | (with_reducible refine Below.alloc ?_ ?_ _) | (with_reducible refine Below.setCell ?_ ?_ _) | (with_reducible refine Below.drew ?_) | (with_reducible refine Below.trans ?_ (Below.mono (by with_reducible assumption) ?_)) | omega | (simp; done) | (simp; omega)))), (Row.to h_qb (by repeat' (first | (with_reducible exact Below.refl _ _) | (with_reducible refine Below.alloc ?_ ?_ _) | (with_reducible refine Below.setCell ?_ ?_ _) | (with_reducible refine Below.drew ?_) | (with_reducible refine Below.trans ?_ (Below.mono (by with_reducible assumption) ?_)) | omega | (simp; done) | (simp; omega)))), (h_od.to (by repeat' (first | (with_reducible exact Below.refl _ _) | (with_reducible refine Below.alloc ?_ ?_ _) | (with_reducible refine Below.setCell ?_ ?_ _) | (with_reducible refine Below.drew ?_) | (with_reducible refine Below.trans ?_ (Below.mono (by with_reducible assumption) ?_)) | omega | (simp; done) | (simp; omega)))), (by first | exact Row.new _ _ _ | exact (Row.new _ _ _).to (by repeat' (first | (with_reducible exact Below.refl _ _) | (with_reducible refine Below.alloc ?_ ?_ _) | (with_reducible refine Below.setCell ?_ ?_ _) | (with_reducible refine Below.drew ?_) | (with_reducible refine Below.trans ?_ (Below.mono (by with_reducible assumption) ?_)) | omega | (simp; done) | (simp; omega))) | exact row_new_at _ _ _ _ (by simp) | exact (row_new_at _ _ _ _ (by simp)).to (by repeat' (first | (with_reducible exact Below.refl _ _) | (with_reducible refine Below.alloc ?_ ?_ _) | (with_reducible refine Below.setCell ?_ ?_ _) | (with_reducible refine Below.drew ?_) | (with_reducible refine Below.trans ?_ (Below.mono (by with_reducible assumption) ?_)) | omega | (simp; done) | (simp; omega))))⟩ ?_
  clear h_below s_below h_xb h_pb l_pb z_pb c_pb0 c_pb1 h_oc h_qb l_qb z_qb c_qb0 c_qb1 h_od
  obtain ⟨BX4, hBX4⟩ : ∃ B, X3.heap.size = B := ⟨_, rfl⟩
  simp only [hBX4]
  clear hBX4
  rintro Y4 ⟨h_below, h_xb, h_pb, h_oc, h_qb, h_od, h_rb⟩
  refine (vBasins_same _ _ _ _ _ _ (h_oc.rd Bsn.enc_len) (h_od.rd Bsn.enc_len) (by omega)).mono ?_
  rintro e X4 ⟨rfl, hb4⟩
  have h_below0 := h_below
  replace h_below := h_below.trans (hb4.mono h_below.size)
  replace h_xb := h_xb.to hb4
  replace h_pb := Row.to h_pb hb4
  replace h_oc := h_oc.to hb4
  replace h_qb := Row.to h_qb hb4
  clear hb4
  clear h_below0
  have s_below := h_below.size
  clear h_rb
  clear h_od
  have l_pb := Row.lt h_pb
  have z_pb := Row.frozen h_pb
  obtain ⟨c_pb0, c_pb1⟩ := row2c h_pb
  have l_qb := Row.lt h_qb
  have z_qb := Row.frozen h_qb
  obtain ⟨c_qb0, c_qb1⟩ := row2c h_qb
  cases hk2 : apB (apO xsB aB sB mB tB)
  · go_upto_region 23 with (fail)
    exact FnSeries_p10 A n c w _ hn hB (h_below.trans (by repeat' (first | (with_reducible exact Below.refl _ _) | (with_reducible refine Below.alloc ?_ ?_ _) | (with_reducible refine Below.setCell ?_ ?_ _) | (with_reducible refine Below.drew ?_) | (with_reducible refine Below.trans ?_ (Below.mono (by with_reducible assumption) ?_)) | omega | (simp; done) | (simp; omega))))  _ (by assumption)
  · by_cases ht : tB < 100
    · obtain ⟨_, _, _, _, ht0, ht1⟩ := apV_parts (apO_parts hk2).1
      have hw1 : wrap64 (tB + 1) = tB + 1 := by unfold wrap64; omega
      clear ht0 ht1
      go_wp2_with fail
      have heq := Lib.hid (ap_more hk2 ht)
      obtain ⟨adC, rfl⟩ := own_some (ap_pos hk2) h_oc
      refine Dr.cut_calls (fun X => (Below w.heap.size w X) ∧ (Rd X X.heap.size (some adB) 3 Bsn.enc xsB) ∧ (Row X (BX2) 25 [.int .i64 aB, .int .i64 sB]) ∧ (OwnAt X w.heap.size 62 ((apL (apO xsB aB sB mB tB)).flatMap Bsn.enc) (apL (apO xsB aB sB mB tB)).length (some adC)) ∧ (Row X (BX3) 25 [.int .i64 (apA (apO xsB aB sB mB tB)), .int .i64 (apS (apO xsB aB sB mB tB))])) ⟨(by repeat' (first | (with_reducible exact Below.refl _ _) | (with_reducible refine Below.alloc ?_ ?_ _) | (with_reducible refine Below.setCell ?_ ?_ _) | (with_reducible refine Below.drew ?_) | (with_reducible refine Below.trans ?_ (Below.mono (by with_reducible assumption) ?_)) | omega | (simp; done) | (simp; omega))), (h_xb.to (by repeat' (first | (with_reducible exact Below.refl _ _) | (with_reducible refine Below.alloc ?_ ?_ _) | (with_reducible refine Below.setCell ?_ ?_ _) | (with_reducible refine Below.drew ?_) | (with_reducible refine Below.trans ?_ (Below.mono (by with_reducible assumption) ?_)) | omega | (simp; done) | (simp; omega)))), (Row.to h_pb (by repeat' (first | (with_reducible exact Below.refl _ _) | (with_reducible refine Below.alloc ?_ ?_ _) | (with_reducible refine Below.setCell ?_ ?_ _) | (with_reducible refine Below.drew ?_) | (with_reducible refine Below.trans ?_ (Below.mono (by with_reducible assumption) ?_)) | omega | (simp; done) | (simp; omega)))), (h_oc.to (by repeat' (first | (with_reducible exact Below.refl _ _) | (with_reducible refine Below.alloc ?_ ?_ _) | (with_reducible refine Below.setCell ?_ ?_ _) | (with_reducible refine Below.drew ?_) | (with_reducible refine Below.trans ?_ (Below.mono (by with_reducible assumption) ?_)) | omega | (simp; done) | (simp; omega)))), (Row.to h_qb (by repeat' (first | (with_reducible exact Below.refl _ _) | (with_reducible refine Below.alloc ?_ ?_ _) | (with_reducible refine Below.setCell ?_ ?_ _) | (with_reducible refine Below.drew ?_) | (with_reducible refine Below.trans ?_ (Below.mono (by with_reducible assumption) ?_)) | omega | (simp; done) | (simp; omega))))⟩ ?_
      clear h_below s_below h_xb h_pb l_pb z_pb c_pb0 c_pb1 h_oc h_qb l_qb z_qb c_qb0 c_qb1
      rintro Y5 ⟨h_below, h_xb, h_pb, h_oc, h_qb⟩
      refine (iAfterPass_at _ _ _ _ _ mB _ _ heq.out (h_oc.rd Bsn.enc_len) (by omega)).mono ?_
      rintro e X5 ⟨AI, cI, rfl, hoI, hb5⟩
      have h_below0 := h_below
      replace h_below := h_below.trans (hb5.mono h_below.size)
      replace h_xb := h_xb.to hb5
      replace h_pb := Row.to h_pb hb5
      replace h_oc := h_oc.to hb5
      replace h_qb := Row.to h_qb hb5
      clear hb5
      have h_oi := hoI.mono h_below0.size
      clear h_below0
      have s_below := h_below.size
      have l_pb := Row.lt h_pb
      have z_pb := Row.frozen h_pb
      obtain ⟨c_pb0, c_pb1⟩ := row2c h_pb
      have l_qb := Row.lt h_qb
      have z_qb := Row.frozen h_qb
      obtain ⟨c_qb0, c_qb1⟩ := row2c h_qb
      go_wp2_with fail
      refine Dr.cut_calls (fun X => (Below w.heap.size w X) ∧ (Rd X X.heap.size (some adB) 3 Bsn.enc xsB) ∧ (Row X (BX2) 25 [.int .i64 aB, .int .i64 sB]) ∧ (OwnAt X w.heap.size 62 ((apL (apO xsB aB sB mB tB)).flatMap Bsn.enc) (apL (apO xsB aB sB mB tB)).length (some adC)) ∧ (Row X (BX3) 25 [.int .i64 (apA (apO xsB aB sB mB tB)), .int .i64 (apS (apO xsB aB sB mB tB))]) ∧ (OwnAt X w.heap.size 62 ((apL (apO xsB aB sB mB (tB + 1))).flatMap Bsn.enc) (apL (apO xsB aB sB mB (tB + 1))).length AI) ∧ (Row X (X5.heap.size) 25 [.int .i64 (apA (apO xsB aB sB mB (tB + 1))), .int .i64 (apS (apO xsB aB sB mB (tB + 1)))])) ⟨(by repeat' (first | (with_reducible exact Below.refl _ _) | (with_reducible refine Below.alloc ?_ ?_ _) | (with_reducible refine Below.setCell ?_ ?_ _) | (with_reducible refine Below.drew ?_) | (with_reducible refine Below.trans ?_ (Below.mono (by with_reducible assumption) ?_)) | omega | (simp; done) | (simp; omega))), (h_xb.to (by repeat' (first | (with_reducible exact Below.refl _ _) | (with_reducible refine Below.alloc ?_ ?_ _) | (with_reducible refine Below.setCell ?_ ?_ _) | (with_reducible refine Below.drew ?_) | (with_reducible refine Below.trans ?_ (Below.mono (by with_reducible assumption) ?_)) | omega | (simp; done) | (simp; omega)))), (Row.to h_pb (by repeat' (first | (with_reducible exact Below.refl _ _) | (with_reducible refine Below.alloc ?_ ?_ _) | (with_reducible refine Below.setCell ?_ ?_ _) | (with_reducible refine Below.drew ?_) | (with_reducible refine Below.trans ?_ (Below.mono (by with_reducible assumption) ?_)) | omega | (simp; done) | (simp; omega)))), (h_oc.to (by repeat' (first | (with_reducible exact Below.refl _ _) | (with_reducible refine Below.alloc ?_ ?_ _) | (with_reducible refine Below.setCell ?_ ?_ _) | (with_reducible refine Below.drew ?_) | (with_reducible refine Below.trans ?_ (Below.mono (by with_reducible assumption) ?_)) | omega | (simp; done) | (simp; omega)))), (Row.to h_qb (by repeat' (first | (with_reducible exact Below.refl _ _) | (with_reducible refine Below.alloc ?_ ?_ _) | (with_reducible refine Below.setCell ?_ ?_ _) | (with_reducible refine Below.drew ?_) | (with_reducible refine Below.trans ?_ (Below.mono (by with_reducible assumption) ?_)) | omega | (simp; done) | (simp; omega)))), (h_oi.to (by repeat' (first | (with_reducible exact Below.refl _ _) | (with_reducible refine Below.alloc ?_ ?_ _) | (with_reducible refine Below.setCell ?_ ?_ _) | (with_reducible refine Below.drew ?_) | (with_reducible refine Below.trans ?_ (Below.mono (by with_reducible assumption) ?_)) | omega | (simp; done) | (simp; omega)))), (by first | exact Row.new _ _ _ | exact (Row.new _ _ _).to (by repeat' (first | (with_reducible exact Below.refl _ _) | (with_reducible refine Below.alloc ?_ ?_ _) | (with_reducible refine Below.setCell ?_ ?_ _) | (with_reducible refine Below.drew ?_) | (with_reducible refine Below.trans ?_ (Below.mono (by with_reducible assumption) ?_)) | omega | (simp; done) | (simp; omega))) | exact row_new_at _ _ _ _ (by simp) | exact (row_new_at _ _ _ _ (by simp)).to (by repeat' (first | (with_reducible exact Below.refl _ _) | (with_reducible refine Below.alloc ?_ ?_ _) | (with_reducible refine Below.setCell ?_ ?_ _) | (with_reducible refine Below.drew ?_) | (with_reducible refine Below.trans ?_ (Below.mono (by with_reducible assumption) ?_)) | omega | (simp; done) | (simp; omega))))⟩ ?_
      clear h_below s_below h_xb h_pb l_pb z_pb c_pb0 c_pb1 h_oc h_qb l_qb z_qb c_qb0 c_qb1 h_oi
      obtain ⟨BX6, hBX6⟩ : ∃ B, X5.heap.size = B := ⟨_, rfl⟩
      simp only [hBX6]
      clear hBX6
      rintro Y6 ⟨h_below, h_xb, h_pb, h_oc, h_qb, h_oi, h_pi⟩
      refine (iAfterPasses_any _ _ _ aB sB mB (tB + 1) _ h_xb (by omega)).mono ?_
      rintro e X6 ⟨AJ, cJ, rfl, hoJ, hb6⟩
      have h_below0 := h_below
      replace h_below := h_below.trans (hb6.mono h_below.size)
      replace h_xb := h_xb.to hb6
      replace h_pb := Row.to h_pb hb6
      replace h_oc := h_oc.to hb6
      replace h_qb := Row.to h_qb hb6
      replace h_oi := h_oi.to hb6
      replace h_pi := Row.to h_pi hb6
      clear hb6
      have h_oj := hoJ.mono h_below0.size
      clear h_below0
      have s_below := h_below.size
      have hapl3 := apO_len xsB aB sB mB (tB + 1)
      have l_pb := Row.lt h_pb
      have z_pb := Row.frozen h_pb
      obtain ⟨c_pb0, c_pb1⟩ := row2c h_pb
      have l_qb := Row.lt h_qb
      have z_qb := Row.frozen h_qb
      obtain ⟨c_qb0, c_qb1⟩ := row2c h_qb
      have l_pi := Row.lt h_pi
      have z_pi := Row.frozen h_pi
      obtain ⟨c_pi0, c_pi1⟩ := row2c h_pi
      go_wp2_with fail
      refine Dr.cut_calls (fun X => (Below w.heap.size w X) ∧ (Rd X X.heap.size (some adB) 3 Bsn.enc xsB) ∧ (Row X (BX2) 25 [.int .i64 aB, .int .i64 sB]) ∧ (OwnAt X w.heap.size 62 ((apL (apO xsB aB sB mB tB)).flatMap Bsn.enc) (apL (apO xsB aB sB mB tB)).length (some adC)) ∧ (Row X (BX3) 25 [.int .i64 (apA (apO xsB aB sB mB tB)), .int .i64 (apS (apO xsB aB sB mB tB))]) ∧ (OwnAt X w.heap.size 62 ((apL (apO xsB aB sB mB (tB + 1))).flatMap Bsn.enc) (apL (apO xsB aB sB mB (tB + 1))).length AI) ∧ (Row X (BX6) 25 [.int .i64 (apA (apO xsB aB sB mB (tB + 1))), .int .i64 (apS (apO xsB aB sB mB (tB + 1)))]) ∧ (OwnAt X w.heap.size 62 ((apL (apO xsB aB sB mB (tB + 1))).flatMap Bsn.enc) (apL (apO xsB aB sB mB (tB + 1))).length AJ) ∧ (Row X (X6.heap.size) 25 [.int .i64 (apA (apO xsB aB sB mB (tB + 1))), .int .i64 (apS (apO xsB aB sB mB (tB + 1)))])) ⟨(by repeat' (first | (with_reducible exact Below.refl _ _) | (with_reducible refine Below.alloc ?_ ?_ _) | (with_reducible refine Below.setCell ?_ ?_ _) | (with_reducible refine Below.drew ?_) | (with_reducible refine Below.trans ?_ (Below.mono (by with_reducible assumption) ?_)) | omega | (simp; done) | (simp; omega))), (h_xb.to (by repeat' (first | (with_reducible exact Below.refl _ _) | (with_reducible refine Below.alloc ?_ ?_ _) | (with_reducible refine Below.setCell ?_ ?_ _) | (with_reducible refine Below.drew ?_) | (with_reducible refine Below.trans ?_ (Below.mono (by with_reducible assumption) ?_)) | omega | (simp; done) | (simp; omega)))), (Row.to h_pb (by repeat' (first | (with_reducible exact Below.refl _ _) | (with_reducible refine Below.alloc ?_ ?_ _) | (with_reducible refine Below.setCell ?_ ?_ _) | (with_reducible refine Below.drew ?_) | (with_reducible refine Below.trans ?_ (Below.mono (by with_reducible assumption) ?_)) | omega | (simp; done) | (simp; omega)))), (h_oc.to (by repeat' (first | (with_reducible exact Below.refl _ _) | (with_reducible refine Below.alloc ?_ ?_ _) | (with_reducible refine Below.setCell ?_ ?_ _) | (with_reducible refine Below.drew ?_) | (with_reducible refine Below.trans ?_ (Below.mono (by with_reducible assumption) ?_)) | omega | (simp; done) | (simp; omega)))), (Row.to h_qb (by repeat' (first | (with_reducible exact Below.refl _ _) | (with_reducible refine Below.alloc ?_ ?_ _) | (with_reducible refine Below.setCell ?_ ?_ _) | (with_reducible refine Below.drew ?_) | (with_reducible refine Below.trans ?_ (Below.mono (by with_reducible assumption) ?_)) | omega | (simp; done) | (simp; omega)))), (h_oi.to (by repeat' (first | (with_reducible exact Below.refl _ _) | (with_reducible refine Below.alloc ?_ ?_ _) | (with_reducible refine Below.setCell ?_ ?_ _) | (with_reducible refine Below.drew ?_) | (with_reducible refine Below.trans ?_ (Below.mono (by with_reducible assumption) ?_)) | omega | (simp; done) | (simp; omega)))), (Row.to h_pi (by repeat' (first | (with_reducible exact Below.refl _ _) | (with_reducible refine Below.alloc ?_ ?_ _) | (with_reducible refine Below.setCell ?_ ?_ _) | (with_reducible refine Below.drew ?_) | (with_reducible refine Below.trans ?_ (Below.mono (by with_reducible assumption) ?_)) | omega | (simp; done) | (simp; omega)))), (h_oj.to (by repeat' (first | (with_reducible exact Below.refl _ _) | (with_reducible refine Below.alloc ?_ ?_ _) | (with_reducible refine Below.setCell ?_ ?_ _) | (with_reducible refine Below.drew ?_) | (with_reducible refine Below.trans ?_ (Below.mono (by with_reducible assumption) ?_)) | omega | (simp; done) | (simp; omega)))), (by first | exact Row.new _ _ _ | exact (Row.new _ _ _).to (by repeat' (first | (with_reducible exact Below.refl _ _) | (with_reducible refine Below.alloc ?_ ?_ _) | (with_reducible refine Below.setCell ?_ ?_ _) | (with_reducible refine Below.drew ?_) | (with_reducible refine Below.trans ?_ (Below.mono (by with_reducible assumption) ?_)) | omega | (simp; done) | (simp; omega))) | exact row_new_at _ _ _ _ (by simp) | exact (row_new_at _ _ _ _ (by simp)).to (by repeat' (first | (with_reducible exact Below.refl _ _) | (with_reducible refine Below.alloc ?_ ?_ _) | (with_reducible refine Below.setCell ?_ ?_ _) | (with_reducible refine Below.drew ?_) | (with_reducible refine Below.trans ?_ (Below.mono (by with_reducible assumption) ?_)) | omega | (simp; done) | (simp; omega))))⟩ ?_
      clear h_below s_below h_xb h_pb l_pb z_pb c_pb0 c_pb1 h_oc h_qb l_qb z_qb c_qb0 c_qb1 h_oi h_pi l_pi z_pi c_pi0 c_pi1 h_oj
      obtain ⟨BX7, hBX7⟩ : ∃ B, X6.heap.size = B := ⟨_, rfl⟩
      simp only [hBX7]
      clear hBX7
      rintro Y7 ⟨h_below, h_xb, h_pb, h_oc, h_qb, h_oi, h_pi, h_oj, h_pj⟩
      refine (vBasins_same _ _ _ _ _ _ (h_oi.rd Bsn.enc_len) (h_oj.rd Bsn.enc_len) (by omega)).mono ?_
      rintro e X7 ⟨rfl, hb7⟩
      have h_below0 := h_below
      replace h_below := h_below.trans (hb7.mono h_below.size)
      replace h_xb := h_xb.to hb7
      replace h_pb := Row.to h_pb hb7
      replace h_oc := h_oc.to hb7
      replace h_qb := Row.to h_qb hb7
      replace h_oi := h_oi.to hb7
      replace h_oj := h_oj.to hb7
      clear hb7
      clear h_below0
      have s_below := h_below.size
      clear h_pi
      clear h_pj
      have l_pb := Row.lt h_pb
      have z_pb := Row.frozen h_pb
      obtain ⟨c_pb0, c_pb1⟩ := row2c h_pb
      have l_qb := Row.lt h_qb
      have z_qb := Row.frozen h_qb
      obtain ⟨c_qb0, c_qb1⟩ := row2c h_qb
      go_upto_region 23 with (fail)
      exact FnSeries_p10 A n c w _ hn hB (h_below.trans (by repeat' (first | (with_reducible exact Below.refl _ _) | (with_reducible refine Below.alloc ?_ ?_ _) | (with_reducible refine Below.setCell ?_ ?_ _) | (with_reducible refine Below.drew ?_) | (with_reducible refine Below.trans ?_ (Below.mono (by with_reducible assumption) ?_)) | omega | (simp; done) | (simp; omega))))  _ (by assumption)
    · go_upto_region 23 with (fail)
      exact FnSeries_p10 A n c w _ hn hB (h_below.trans (by repeat' (first | (with_reducible exact Below.refl _ _) | (with_reducible refine Below.alloc ?_ ?_ _) | (with_reducible refine Below.setCell ?_ ?_ _) | (with_reducible refine Below.drew ?_) | (with_reducible refine Below.trans ?_ (Below.mono (by with_reducible assumption) ?_)) | omega | (simp; done) | (simp; omega))))  _ (by assumption)
set_option maxRecDepth 100000 in
set_option maxHeartbeats 40000000 in
theorem FnSeries_law (A : Option Addr) (n c : Nat) (w : World) (hB : Byt w w.heap.size A n) :
    Calls Try.prog 8 #[.slice A n c] w fun e w' => e = .returned (.bool true) ∧ Below w.heap.size w w' := by
  by_cases hn : n ≤ 65536
  · have hn' : ¬ 65536 < n := by omega
    go_enter Try.func8, Try.ntmps8
    go_wp2_with (first | (go_at_call 26; refine (vBig_any _ _ _ _).mono ?_; rintro e wX ⟨rfl, rfl⟩))
    refine Dr.cut_calls (fun X => (Below w.heap.size w X)) ((by repeat' (first | (with_reducible exact Below.refl _ _) | (with_reducible refine Below.alloc ?_ ?_ _) | (with_reducible refine Below.setCell ?_ ?_ _) | (with_reducible refine Below.drew ?_) | (with_reducible refine Below.trans ?_ (Below.mono (by with_reducible assumption) ?_)) | omega | (simp; done) | (simp; omega)))) ?_
    intro Y1 h_below
    refine (dAfterPass_any _ _ _ _ hn (Dr.byt_more (hB.below h_below) h_below.size)).mono ?_
    rintro e X1 ⟨adA, xsA, cA, aA, sA, mA, rfl, hlA, hrA, hb1⟩
    have h_below0 := h_below
    replace h_below := h_below.trans (hb1.mono h_below.size)
    clear hb1
    have h_xa := hrA
    clear h_below0
    have s_below := h_below.size
    go_wp2_with fail
    refine Dr.cut_calls (fun X => (Below w.heap.size w X) ∧ (Rd X X.heap.size (some adA) 3 Bsn.enc xsA) ∧ (Row X (X1.heap.size) 25 [.int .i64 aA, .int .i64 sA])) ⟨(by repeat' (first | (with_reducible exact Below.refl _ _) | (with_reducible refine Below.alloc ?_ ?_ _) | (with_reducible refine Below.setCell ?_ ?_ _) | (with_reducible refine Below.drew ?_) | (with_reducible refine Below.trans ?_ (Below.mono (by with_reducible assumption) ?_)) | omega | (simp; done) | (simp; omega))), (h_xa.to (by repeat' (first | (with_reducible exact Below.refl _ _) | (with_reducible refine Below.alloc ?_ ?_ _) | (with_reducible refine Below.setCell ?_ ?_ _) | (with_reducible refine Below.drew ?_) | (with_reducible refine Below.trans ?_ (Below.mono (by with_reducible assumption) ?_)) | omega | (simp; done) | (simp; omega)))), (by first | exact Row.new _ _ _ | exact (Row.new _ _ _).to (by repeat' (first | (with_reducible exact Below.refl _ _) | (with_reducible refine Below.alloc ?_ ?_ _) | (with_reducible refine Below.setCell ?_ ?_ _) | (with_reducible refine Below.drew ?_) | (with_reducible refine Below.trans ?_ (Below.mono (by with_reducible assumption) ?_)) | omega | (simp; done) | (simp; omega))) | exact row_new_at _ _ _ _ (by simp) | exact (row_new_at _ _ _ _ (by simp)).to (by repeat' (first | (with_reducible exact Below.refl _ _) | (with_reducible refine Below.alloc ?_ ?_ _) | (with_reducible refine Below.setCell ?_ ?_ _) | (with_reducible refine Below.drew ?_) | (with_reducible refine Below.trans ?_ (Below.mono (by with_reducible assumption) ?_)) | omega | (simp; done) | (simp; omega))))⟩ ?_
    clear h_below s_below h_xa
    obtain ⟨BX2, hBX2⟩ : ∃ B, X1.heap.size = B := ⟨_, rfl⟩
    simp only [hBX2]
    clear hBX2
    rintro Y2 ⟨h_below, h_xa, h_pa⟩
    refine (iAfterPass_any _ _ _ aA sA mA _ h_xa (by omega)).mono ?_
    rintro e X2 ⟨A1, c1, rfl, ho1, hb2⟩
    have h_below0 := h_below
    replace h_below := h_below.trans (hb2.mono h_below.size)
    replace h_xa := h_xa.to hb2
    replace h_pa := Row.to h_pa hb2
    clear hb2
    have h_o1 := ho1.mono h_below0.size
    clear h_below0
    have s_below := h_below.size
    have hapl := apO_len xsA aA sA mA 1
    have l_pa := Row.lt h_pa
    have z_pa := Row.frozen h_pa
    obtain ⟨c_pa0, c_pa1⟩ := row2c h_pa
    go_wp2_with fail
    refine Dr.cut_calls (fun X => (Below w.heap.size w X) ∧ (Rd X X.heap.size (some adA) 3 Bsn.enc xsA) ∧ (Row X (BX2) 25 [.int .i64 aA, .int .i64 sA]) ∧ (OwnAt X w.heap.size 62 ((apL (apO xsA aA sA mA 1)).flatMap Bsn.enc) (apL (apO xsA aA sA mA 1)).length A1) ∧ (Row X (X2.heap.size) 25 [.int .i64 (apA (apO xsA aA sA mA 1)), .int .i64 (apS (apO xsA aA sA mA 1))])) ⟨(by repeat' (first | (with_reducible exact Below.refl _ _) | (with_reducible refine Below.alloc ?_ ?_ _) | (with_reducible refine Below.setCell ?_ ?_ _) | (with_reducible refine Below.drew ?_) | (with_reducible refine Below.trans ?_ (Below.mono (by with_reducible assumption) ?_)) | omega | (simp; done) | (simp; omega))), (h_xa.to (by repeat' (first | (with_reducible exact Below.refl _ _) | (with_reducible refine Below.alloc ?_ ?_ _) | (with_reducible refine Below.setCell ?_ ?_ _) | (with_reducible refine Below.drew ?_) | (with_reducible refine Below.trans ?_ (Below.mono (by with_reducible assumption) ?_)) | omega | (simp; done) | (simp; omega)))), (Row.to h_pa (by repeat' (first | (with_reducible exact Below.refl _ _) | (with_reducible refine Below.alloc ?_ ?_ _) | (with_reducible refine Below.setCell ?_ ?_ _) | (with_reducible refine Below.drew ?_) | (with_reducible refine Below.trans ?_ (Below.mono (by with_reducible assumption) ?_)) | omega | (simp; done) | (simp; omega)))), (h_o1.to (by repeat' (first | (with_reducible exact Below.refl _ _) | (with_reducible refine Below.alloc ?_ ?_ _) | (with_reducible refine Below.setCell ?_ ?_ _) | (with_reducible refine Below.drew ?_) | (with_reducible refine Below.trans ?_ (Below.mono (by with_reducible assumption) ?_)) | omega | (simp; done) | (simp; omega)))), (by first | exact Row.new _ _ _ | exact (Row.new _ _ _).to (by repeat' (first | (with_reducible exact Below.refl _ _) | (with_reducible refine Below.alloc ?_ ?_ _) | (with_reducible refine Below.setCell ?_ ?_ _) | (with_reducible refine Below.drew ?_) | (with_reducible refine Below.trans ?_ (Below.mono (by with_reducible assumption) ?_)) | omega | (simp; done) | (simp; omega))) | exact row_new_at _ _ _ _ (by simp) | exact (row_new_at _ _ _ _ (by simp)).to (by repeat' (first | (with_reducible exact Below.refl _ _) | (with_reducible refine Below.alloc ?_ ?_ _) | (with_reducible refine Below.setCell ?_ ?_ _) | (with_reducible refine Below.drew ?_) | (with_reducible refine Below.trans ?_ (Below.mono (by with_reducible assumption) ?_)) | omega | (simp; done) | (simp; omega))))⟩ ?_
    clear h_below s_below h_xa h_pa l_pa z_pa c_pa0 c_pa1 h_o1
    obtain ⟨BX3, hBX3⟩ : ∃ B, X2.heap.size = B := ⟨_, rfl⟩
    simp only [hBX3]
    clear hBX3
    rintro Y3 ⟨h_below, h_xa, h_pa, h_o1, h_qa⟩
    refine (sAfterPass_any _ _ _ aA sA mA _ h_xa (by omega)).mono ?_
    rintro e X3 ⟨A2, c2, rfl, ho2, hb3⟩
    have h_below0 := h_below
    replace h_below := h_below.trans (hb3.mono h_below.size)
    replace h_xa := h_xa.to hb3
    replace h_pa := Row.to h_pa hb3
    replace h_o1 := h_o1.to hb3
    replace h_qa := Row.to h_qa hb3
    clear hb3
    have h_o2 := ho2.mono h_below0.size
    clear h_below0
    have s_below := h_below.size
    have l_pa := Row.lt h_pa
    have z_pa := Row.frozen h_pa
    obtain ⟨c_pa0, c_pa1⟩ := row2c h_pa
    have l_qa := Row.lt h_qa
    have z_qa := Row.frozen h_qa
    obtain ⟨c_qa0, c_qa1⟩ := row2c h_qa
    go_wp2_with fail
    refine Dr.cut_calls (fun X => (Below w.heap.size w X) ∧ (Rd X X.heap.size (some adA) 3 Bsn.enc xsA) ∧ (Row X (BX2) 25 [.int .i64 aA, .int .i64 sA]) ∧ (OwnAt X w.heap.size 62 ((apL (apO xsA aA sA mA 1)).flatMap Bsn.enc) (apL (apO xsA aA sA mA 1)).length A1) ∧ (Row X (BX3) 25 [.int .i64 (apA (apO xsA aA sA mA 1)), .int .i64 (apS (apO xsA aA sA mA 1))]) ∧ (OwnAt X w.heap.size 62 ((apL (apO xsA aA sA mA 1)).flatMap Bsn.enc) (apL (apO xsA aA sA mA 1)).length A2) ∧ (Row X (X3.heap.size) 25 [.int .i64 (apA (apO xsA aA sA mA 1)), .int .i64 (apS (apO xsA aA sA mA 1))])) ⟨(by repeat' (first | (with_reducible exact Below.refl _ _) | (with_reducible refine Below.alloc ?_ ?_ _) | (with_reducible refine Below.setCell ?_ ?_ _) | (with_reducible refine Below.drew ?_) | (with_reducible refine Below.trans ?_ (Below.mono (by with_reducible assumption) ?_)) | omega | (simp; done) | (simp; omega))), (h_xa.to (by repeat' (first | (with_reducible exact Below.refl _ _) | (with_reducible refine Below.alloc ?_ ?_ _) | (with_reducible refine Below.setCell ?_ ?_ _) | (with_reducible refine Below.drew ?_) | (with_reducible refine Below.trans ?_ (Below.mono (by with_reducible assumption) ?_)) | omega | (simp; done) | (simp; omega)))), (Row.to h_pa (by repeat' (first | (with_reducible exact Below.refl _ _) | (with_reducible refine Below.alloc ?_ ?_ _) | (with_reducible refine Below.setCell ?_ ?_ _) | (with_reducible refine Below.drew ?_) | (with_reducible refine Below.trans ?_ (Below.mono (by with_reducible assumption) ?_)) | omega | (simp; done) | (simp; omega)))), (h_o1.to (by repeat' (first | (with_reducible exact Below.refl _ _) | (with_reducible refine Below.alloc ?_ ?_ _) | (with_reducible refine Below.setCell ?_ ?_ _) | (with_reducible refine Below.drew ?_) | (with_reducible refine Below.trans ?_ (Below.mono (by with_reducible assumption) ?_)) | omega | (simp; done) | (simp; omega)))), (Row.to h_qa (by repeat' (first | (with_reducible exact Below.refl _ _) | (with_reducible refine Below.alloc ?_ ?_ _) | (with_reducible refine Below.setCell ?_ ?_ _) | (with_reducible refine Below.drew ?_) | (with_reducible refine Below.trans ?_ (Below.mono (by with_reducible assumption) ?_)) | omega | (simp; done) | (simp; omega)))), (h_o2.to (by repeat' (first | (with_reducible exact Below.refl _ _) | (with_reducible refine Below.alloc ?_ ?_ _) | (with_reducible refine Below.setCell ?_ ?_ _) | (with_reducible refine Below.drew ?_) | (with_reducible refine Below.trans ?_ (Below.mono (by with_reducible assumption) ?_)) | omega | (simp; done) | (simp; omega)))), (by first | exact Row.new _ _ _ | exact (Row.new _ _ _).to (by repeat' (first | (with_reducible exact Below.refl _ _) | (with_reducible refine Below.alloc ?_ ?_ _) | (with_reducible refine Below.setCell ?_ ?_ _) | (with_reducible refine Below.drew ?_) | (with_reducible refine Below.trans ?_ (Below.mono (by with_reducible assumption) ?_)) | omega | (simp; done) | (simp; omega))) | exact row_new_at _ _ _ _ (by simp) | exact (row_new_at _ _ _ _ (by simp)).to (by repeat' (first | (with_reducible exact Below.refl _ _) | (with_reducible refine Below.alloc ?_ ?_ _) | (with_reducible refine Below.setCell ?_ ?_ _) | (with_reducible refine Below.drew ?_) | (with_reducible refine Below.trans ?_ (Below.mono (by with_reducible assumption) ?_)) | omega | (simp; done) | (simp; omega))))⟩ ?_
    clear h_below s_below h_xa h_pa l_pa z_pa c_pa0 c_pa1 h_o1 h_qa l_qa z_qa c_qa0 c_qa1 h_o2
    obtain ⟨BX4, hBX4⟩ : ∃ B, X3.heap.size = B := ⟨_, rfl⟩
    simp only [hBX4]
    clear hBX4
    rintro Y4 ⟨h_below, h_xa, h_pa, h_o1, h_qa, h_o2, h_ra⟩
    refine (vBasins_same _ _ _ _ _ _ (h_o1.rd Bsn.enc_len) (h_o2.rd Bsn.enc_len) (by omega)).mono ?_
    rintro e X4 ⟨rfl, hb4⟩
    have h_below0 := h_below
    replace h_below := h_below.trans (hb4.mono h_below.size)
    replace h_xa := h_xa.to hb4
    replace h_pa := Row.to h_pa hb4
    replace h_o1 := h_o1.to hb4
    replace h_qa := Row.to h_qa hb4
    clear hb4
    clear h_below0
    have s_below := h_below.size
    clear h_ra
    clear h_o2
    have l_pa := Row.lt h_pa
    have z_pa := Row.frozen h_pa
    obtain ⟨c_pa0, c_pa1⟩ := row2c h_pa
    have l_qa := Row.lt h_qa
    have z_qa := Row.frozen h_qa
    obtain ⟨c_qa0, c_qa1⟩ := row2c h_qa
    go_wp2_with fail
    refine Dr.cut_calls (fun X => (Below w.heap.size w X) ∧ (Rd X X.heap.size (some adA) 3 Bsn.enc xsA) ∧ (Row X (BX2) 25 [.int .i64 aA, .int .i64 sA]) ∧ (OwnAt X w.heap.size 62 ((apL (apO xsA aA sA mA 1)).flatMap Bsn.enc) (apL (apO xsA aA sA mA 1)).length A1) ∧ (Row X (BX3) 25 [.int .i64 (apA (apO xsA aA sA mA 1)), .int .i64 (apS (apO xsA aA sA mA 1))])) ⟨(by repeat' (first | (with_reducible exact Below.refl _ _) | (with_reducible refine Below.alloc ?_ ?_ _) | (with_reducible refine Below.setCell ?_ ?_ _) | (with_reducible refine Below.drew ?_) | (with_reducible refine Below.trans ?_ (Below.mono (by with_reducible assumption) ?_)) | omega | (simp; done) | (simp; omega))), (h_xa.to (by repeat' (first | (with_reducible exact Below.refl _ _) | (with_reducible refine Below.alloc ?_ ?_ _) | (with_reducible refine Below.setCell ?_ ?_ _) | (with_reducible refine Below.drew ?_) | (with_reducible refine Below.trans ?_ (Below.mono (by with_reducible assumption) ?_)) | omega | (simp; done) | (simp; omega)))), (Row.to h_pa (by repeat' (first | (with_reducible exact Below.refl _ _) | (with_reducible refine Below.alloc ?_ ?_ _) | (with_reducible refine Below.setCell ?_ ?_ _) | (with_reducible refine Below.drew ?_) | (with_reducible refine Below.trans ?_ (Below.mono (by with_reducible assumption) ?_)) | omega | (simp; done) | (simp; omega)))), (h_o1.to (by repeat' (first | (with_reducible exact Below.refl _ _) | (with_reducible refine Below.alloc ?_ ?_ _) | (with_reducible refine Below.setCell ?_ ?_ _) | (with_reducible refine Below.drew ?_) | (with_reducible refine Below.trans ?_ (Below.mono (by with_reducible assumption) ?_)) | omega | (simp; done) | (simp; omega)))), (Row.to h_qa (by repeat' (first | (with_reducible exact Below.refl _ _) | (with_reducible refine Below.alloc ?_ ?_ _) | (with_reducible refine Below.setCell ?_ ?_ _) | (with_reducible refine Below.drew ?_) | (with_reducible refine Below.trans ?_ (Below.mono (by with_reducible assumption) ?_)) | omega | (simp; done) | (simp; omega))))⟩ ?_
    clear h_below s_below h_xa h_pa l_pa z_pa c_pa0 c_pa1 h_o1 h_qa l_qa z_qa c_qa0 c_qa1
    rintro Y5 ⟨h_below, h_xa, h_pa, h_o1, h_qa⟩
    refine (isSeries_any _ _ _ _ h_xa (by omega)).mono ?_
    rintro e X5 ⟨rfl, hb5⟩
    have h_below0 := h_below
    replace h_below := h_below.trans (hb5.mono h_below.size)
    replace h_xa := h_xa.to hb5
    replace h_pa := Row.to h_pa hb5
    replace h_o1 := h_o1.to hb5
    replace h_qa := Row.to h_qa hb5
    clear hb5
    clear h_below0
    have s_below := h_below.size
    have l_pa := Row.lt h_pa
    have z_pa := Row.frozen h_pa
    obtain ⟨c_pa0, c_pa1⟩ := row2c h_pa
    have l_qa := Row.lt h_qa
    have z_qa := Row.frozen h_qa
    obtain ⟨c_qa0, c_qa1⟩ := row2c h_qa
    go_wp2_with fail
    refine Dr.cut_calls (fun X => (Below w.heap.size w X) ∧ (Rd X X.heap.size (some adA) 3 Bsn.enc xsA) ∧ (Row X (BX2) 25 [.int .i64 aA, .int .i64 sA]) ∧ (OwnAt X w.heap.size 62 ((apL (apO xsA aA sA mA 1)).flatMap Bsn.enc) (apL (apO xsA aA sA mA 1)).length A1) ∧ (Row X (BX3) 25 [.int .i64 (apA (apO xsA aA sA mA 1)), .int .i64 (apS (apO xsA aA sA mA 1))])) ⟨(by repeat' (first | (with_reducible exact Below.refl _ _) | (with_reducible refine Below.alloc ?_ ?_ _) | (with_reducible refine Below.setCell ?_ ?_ _) | (with_reducible refine Below.drew ?_) | (with_reducible refine Below.trans ?_ (Below.mono (by with_reducible assumption) ?_)) | omega | (simp; done) | (simp; omega))), (h_xa.to (by repeat' (first | (with_reducible exact Below.refl _ _) | (with_reducible refine Below.alloc ?_ ?_ _) | (with_reducible refine Below.setCell ?_ ?_ _) | (with_reducible refine Below.drew ?_) | (with_reducible refine Below.trans ?_ (Below.mono (by with_reducible assumption) ?_)) | omega | (simp; done) | (simp; omega)))), (Row.to h_pa (by repeat' (first | (with_reducible exact Below.refl _ _) | (with_reducible refine Below.alloc ?_ ?_ _) | (with_reducible refine Below.setCell ?_ ?_ _) | (with_reducible refine Below.drew ?_) | (with_reducible refine Below.trans ?_ (Below.mono (by with_reducible assumption) ?_)) | omega | (simp; done) | (simp; omega)))), (h_o1.to (by repeat' (first | (with_reducible exact Below.refl _ _) | (with_reducible refine Below.alloc ?_ ?_ _) | (with_reducible refine Below.setCell ?_ ?_ _) | (with_reducible refine Below.drew ?_) | (with_reducible refine Below.trans ?_ (Below.mono (by with_reducible assumption) ?_)) | omega | (simp; done) | (simp; omega)))), (Row.to h_qa (by repeat' (first | (with_reducible exact Below.refl _ _) | (with_reducible refine Below.alloc ?_ ?_ _) | (with_reducible refine Below.setCell ?_ ?_ _) | (with_reducible refine Below.drew ?_) | (with_reducible refine Below.trans ?_ (Below.mono (by with_reducible assumption) ?_)) | omega | (simp; done) | (simp; omega))))⟩ ?_
    clear h_below s_below h_xa h_pa l_pa z_pa c_pa0 c_pa1 h_o1 h_qa l_qa z_qa c_qa0 c_qa1
    rintro Y6 ⟨h_below, h_xa, h_pa, h_o1, h_qa⟩
    refine (sIsSeries_any _ _ _ _ h_xa (by omega)).mono ?_
    rintro e X6 ⟨rfl, hb6⟩
    have h_below0 := h_below
    replace h_below := h_below.trans (hb6.mono h_below.size)
    replace h_xa := h_xa.to hb6
    replace h_pa := Row.to h_pa hb6
    replace h_o1 := h_o1.to hb6
    replace h_qa := Row.to h_qa hb6
    clear hb6
    clear h_below0
    have s_below := h_below.size
    have l_pa := Row.lt h_pa
    have z_pa := Row.frozen h_pa
    obtain ⟨c_pa0, c_pa1⟩ := row2c h_pa
    have l_qa := Row.lt h_qa
    have z_qa := Row.frozen h_qa
    obtain ⟨c_qa0, c_qa1⟩ := row2c h_qa
    cases hk : apB (apO xsA aA sA mA 1)
    · go_upto_region 13 with (fail)
      exact FnSeries_p6 A n c w _ hn hB (h_below.trans (by repeat' (first | (with_reducible exact Below.refl _ _) | (with_reducible refine Below.alloc ?_ ?_ _) | (with_reducible refine Below.setCell ?_ ?_ _) | (with_reducible refine Below.drew ?_) | (with_reducible refine Below.trans ?_ (Below.mono (by with_reducible assumption) ?_)) | omega | (simp; done) | (simp; omega))))  _ (by assumption)
    · go_wp2_with fail
      refine Dr.cut_calls (fun X => (Below w.heap.size w X) ∧ (Rd X X.heap.size (some adA) 3 Bsn.enc xsA) ∧ (Row X (BX2) 25 [.int .i64 aA, .int .i64 sA]) ∧ (OwnAt X w.heap.size 62 ((apL (apO xsA aA sA mA 1)).flatMap Bsn.enc) (apL (apO xsA aA sA mA 1)).length A1) ∧ (Row X (BX3) 25 [.int .i64 (apA (apO xsA aA sA mA 1)), .int .i64 (apS (apO xsA aA sA mA 1))])) ⟨(by repeat' (first | (with_reducible exact Below.refl _ _) | (with_reducible refine Below.alloc ?_ ?_ _) | (with_reducible refine Below.setCell ?_ ?_ _) | (with_reducible refine Below.drew ?_) | (with_reducible refine Below.trans ?_ (Below.mono (by with_reducible assumption) ?_)) | omega | (simp; done) | (simp; omega))), (h_xa.to (by repeat' (first | (with_reducible exact Below.refl _ _) | (with_reducible refine Below.alloc ?_ ?_ _) | (with_reducible refine Below.setCell ?_ ?_ _) | (with_reducible refine Below.drew ?_) | (with_reducible refine Below.trans ?_ (Below.mono (by with_reducible assumption) ?_)) | omega | (simp; done) | (simp; omega)))), (Row.to h_pa (by repeat' (first | (with_reducible exact Below.refl _ _) | (with_reducible refine Below.alloc ?_ ?_ _) | (with_reducible refine Below.setCell ?_ ?_ _) | (with_reducible refine Below.drew ?_) | (with_reducible refine Below.trans ?_ (Below.mono (by with_reducible assumption) ?_)) | omega | (simp; done) | (simp; omega)))), (h_o1.to (by repeat' (first | (with_reducible exact Below.refl _ _) | (with_reducible refine Below.alloc ?_ ?_ _) | (with_reducible refine Below.setCell ?_ ?_ _) | (with_reducible refine Below.drew ?_) | (with_reducible refine Below.trans ?_ (Below.mono (by with_reducible assumption) ?_)) | omega | (simp; done) | (simp; omega)))), (Row.to h_qa (by repeat' (first | (with_reducible exact Below.refl _ _) | (with_reducible refine Below.alloc ?_ ?_ _) | (with_reducible refine Below.setCell ?_ ?_ _) | (with_reducible refine Below.drew ?_) | (with_reducible refine Below.trans ?_ (Below.mono (by with_reducible assumption) ?_)) | omega | (simp; done) | (simp; omega))))⟩ ?_
      clear h_below s_below h_xa h_pa l_pa z_pa c_pa0 c_pa1 h_o1 h_qa l_qa z_qa c_qa0 c_qa1
      rintro Y7 ⟨h_below, h_xa, h_pa, h_o1, h_qa⟩
      refine (iSeriesSum_any _ _ _ _ h_xa (by omega)).mono ?_
      rintro e X7 ⟨rfl, hb7⟩
      have h_below0 := h_below
      replace h_below := h_below.trans (hb7.mono h_below.size)
      replace h_xa := h_xa.to hb7
      replace h_pa := Row.to h_pa hb7
      replace h_o1 := h_o1.to hb7
      replace h_qa := Row.to h_qa hb7
      clear hb7
      clear h_below0
      have s_below := h_below.size
      have l_pa := Row.lt h_pa
      have z_pa := Row.frozen h_pa
      obtain ⟨c_pa0, c_pa1⟩ := row2c h_pa
      have l_qa := Row.lt h_qa
      have z_qa := Row.frozen h_qa
      obtain ⟨c_qa0, c_qa1⟩ := row2c h_qa
      go_wp2_with fail
      refine Dr.cut_calls (fun X => (Below w.heap.size w X) ∧ (Rd X X.heap.size (some adA) 3 Bsn.enc xsA) ∧ (Row X (BX2) 25 [.int .i64 aA, .int .i64 sA]) ∧ (OwnAt X w.heap.size 62 ((apL (apO xsA aA sA mA 1)).flatMap Bsn.enc) (apL (apO xsA aA sA mA 1)).length A1) ∧ (Row X (BX3) 25 [.int .i64 (apA (apO xsA aA sA mA 1)), .int .i64 (apS (apO xsA aA sA mA 1))]) ∧ (Row X (X7.heap.size) 25 [.int .i64 (ssA xsA), .int .i64 (ssS xsA)])) ⟨(by repeat' (first | (with_reducible exact Below.refl _ _) | (with_reducible refine Below.alloc ?_ ?_ _) | (with_reducible refine Below.setCell ?_ ?_ _) | (with_reducible refine Below.drew ?_) | (with_reducible refine Below.trans ?_ (Below.mono (by with_reducible assumption) ?_)) | omega | (simp; done) | (simp; omega))), (h_xa.to (by repeat' (first | (with_reducible exact Below.refl _ _) | (with_reducible refine Below.alloc ?_ ?_ _) | (with_reducible refine Below.setCell ?_ ?_ _) | (with_reducible refine Below.drew ?_) | (with_reducible refine Below.trans ?_ (Below.mono (by with_reducible assumption) ?_)) | omega | (simp; done) | (simp; omega)))), (Row.to h_pa (by repeat' (first | (with_reducible exact Below.refl _ _) | (with_reducible refine Below.alloc ?_ ?_ _) | (with_reducible refine Below.setCell ?_ ?_ _) | (with_reducible refine Below.drew ?_) | (with_reducible refine Below.trans ?_ (Below.mono (by with_reducible assumption) ?_)) | omega | (simp; done) | (simp; omega)))), (h_o1.to (by repeat' (first | (with_reducible exact Below.refl _ _) | (with_reducible refine Below.alloc ?_ ?_ _) | (with_reducible refine Below.setCell ?_ ?_ _) | (with_reducible refine Below.drew ?_) | (with_reducible refine Below.trans ?_ (Below.mono (by with_reducible assumption) ?_)) | omega | (simp; done) | (simp; omega)))), (Row.to h_qa (by repeat' (first | (with_reducible exact Below.refl _ _) | (with_reducible refine Below.alloc ?_ ?_ _) | (with_reducible refine Below.setCell ?_ ?_ _) | (with_reducible refine Below.drew ?_) | (with_reducible refine Below.trans ?_ (Below.mono (by with_reducible assumption) ?_)) | omega | (simp; done) | (simp; omega)))), (by first | exact Row.new _ _ _ | exact (Row.new _ _ _).to (by repeat' (first | (with_reducible exact Below.refl _ _) | (with_reducible refine Below.alloc ?_ ?_ _) | (with_reducible refine Below.setCell ?_ ?_ _) | (with_reducible refine Below.drew ?_) | (with_reducible refine Below.trans ?_ (Below.mono (by with_reducible assumption) ?_)) | omega | (simp; done) | (simp; omega))) | exact row_new_at _ _ _ _ (by simp) | exact (row_new_at _ _ _ _ (by simp)).to (by repeat' (first | (with_reducible exact Below.refl _ _) | (with_reducible refine Below.alloc ?_ ?_ _) | (with_reducible refine Below.setCell ?_ ?_ _) | (with_reducible refine Below.drew ?_) | (with_reducible refine Below.trans ?_ (Below.mono (by with_reducible assumption) ?_)) | omega | (simp; done) | (simp; omega))))⟩ ?_
      clear h_below s_below h_xa h_pa l_pa z_pa c_pa0 c_pa1 h_o1 h_qa l_qa z_qa c_qa0 c_qa1
      obtain ⟨BX8, hBX8⟩ : ∃ B, X7.heap.size = B := ⟨_, rfl⟩
      simp only [hBX8]
      clear hBX8
      rintro Y8 ⟨h_below, h_xa, h_pa, h_o1, h_qa, h_sa⟩
      refine (iSeriesSum_any _ _ _ _ (h_o1.rd Bsn.enc_len) (by omega)).mono ?_
      rintro e X8 ⟨rfl, hb8⟩
      have h_below0 := h_below
      replace h_below := h_below.trans (hb8.mono h_below.size)
      replace h_xa := h_xa.to hb8
      replace h_pa := Row.to h_pa hb8
      replace h_o1 := h_o1.to hb8
      replace h_qa := Row.to h_qa hb8
      replace h_sa := Row.to h_sa hb8
      clear hb8
      clear h_below0
      have s_below := h_below.size
      have l_pa := Row.lt h_pa
      have z_pa := Row.frozen h_pa
      obtain ⟨c_pa0, c_pa1⟩ := row2c h_pa
      have l_qa := Row.lt h_qa
      have z_qa := Row.frozen h_qa
      obtain ⟨c_qa0, c_qa1⟩ := row2c h_qa
      have l_sa := Row.lt h_sa
      have z_sa := Row.frozen h_sa
      obtain ⟨c_sa0, c_sa1⟩ := row2c h_sa
      cases h1 : ssB xsA
      · go_upto_region 13 with (fail)
        exact FnSeries_p6 A n c w _ hn hB (h_below.trans (by repeat' (first | (with_reducible exact Below.refl _ _) | (with_reducible refine Below.alloc ?_ ?_ _) | (with_reducible refine Below.setCell ?_ ?_ _) | (with_reducible refine Below.drew ?_) | (with_reducible refine Below.trans ?_ (Below.mono (by with_reducible assumption) ?_)) | omega | (simp; done) | (simp; omega))))  _ (by assumption)
      · cases h2 : ssB (apL (apO xsA aA sA mA 1))
        · go_upto_region 13 with (fail)
          exact FnSeries_p6 A n c w _ hn hB (h_below.trans (by repeat' (first | (with_reducible exact Below.refl _ _) | (with_reducible refine Below.alloc ?_ ?_ _) | (with_reducible refine Below.setCell ?_ ?_ _) | (with_reducible refine Below.drew ?_) | (with_reducible refine Below.trans ?_ (Below.mono (by with_reducible assumption) ?_)) | omega | (simp; done) | (simp; omega))))  _ (by assumption)
        · obtain ⟨hsA, hsS⟩ := ap_sums hk h1 h2
          go_upto_region 13 with (fail)
          exact FnSeries_p6 A n c w _ hn hB (h_below.trans (by repeat' (first | (with_reducible exact Below.refl _ _) | (with_reducible refine Below.alloc ?_ ?_ _) | (with_reducible refine Below.setCell ?_ ?_ _) | (with_reducible refine Below.drew ?_) | (with_reducible refine Below.trans ?_ (Below.mono (by with_reducible assumption) ?_)) | omega | (simp; done) | (simp; omega))))  _ (by assumption)
  · have hn' : 65536 < n := by omega
    go_enter Try.func8, Try.ntmps8
    go_wp2_with (first | (go_at_call 26; refine (vBig_any _ _ _ _).mono ?_; rintro e wX ⟨rfl, rfl⟩))
    go_ret
    exact ⟨rfl, (by repeat' (first | (with_reducible exact Below.refl _ _) | (with_reducible refine Below.alloc ?_ ?_ _) | (with_reducible refine Below.setCell ?_ ?_ _) | (with_reducible refine Below.drew ?_) | (with_reducible refine Below.trans ?_ (Below.mono (by with_reducible assumption) ?_)) | omega | (simp; done) | (simp; omega)))⟩
end Go.Proofs.Ytocaodoagiokjaa
