/- The law FnPools: all salt that came in is there. -/
import Derived.Test.YtmfahekkcgnndaaDrPool
import Derived.Test.YtmfahekkcgnndaaLawKit
import Derived.Test.YtmfahekkcgnndaaStepLaw
import Derived.Test.YtmfahekkcgnndaaStepTwo
import Derived.Test.YtmfahekkcgnndaaStepRef
import Derived.Test.YtmfahekkcgnndaaRunLaw
import Derived.Test.YtmfahekkcgnndaaPoolRun
import Derived.Test.YtmfahekkcgnndaaPoolRunS
import Derived.Test.YtmfahekkcgnndaaPoolMore
set_option linter.unusedSimpArgs false
set_option linter.unusedVariables false
namespace Go.Proofs.Ytmfahekkcgnndaa
open Go.RowKit Go.Sort Go.Salt
attribute [local go_sem] cell_rg
open Go.Dr in
theorem dStepPool_any (A : Option Addr) (n c : Nat) (w : World) (hn : n ≤ 65536) (hB : Byt w w.heap.size A n) :
    Calls Try.prog 40 #[.slice A n c] w fun e w' => ∃ (z1_0 : Int) (z1_1 : Int) (z1_2 : Int) (z1_3 : Int) (z1_4 : Int) (z1_5 : Int) (z1_6 : Int) (z2_0 : Int) (z2_1 : Int) (z2_2 : Int), e = .returned (.tuple #[.agg #[.int .i64 z1_0, .int .i64 z1_1, .int .i64 z1_2, .int .i64 z1_3, .int .i64 z1_4, .int .i64 z1_5, .int .i64 z1_6], .agg #[.int .i64 z2_0, .int .i64 z2_1, .int .i64 z2_2]]) ∧ ((-9223372036854775808 ≤ z2_0 ∧ z2_0 ≤ 9223372036854775807) ∧ (-9223372036854775808 ≤ z2_1 ∧ z2_1 ≤ 9223372036854775807) ∧ (-9223372036854775808 ≤ z2_2 ∧ z2_2 ≤ 9223372036854775807)) ∧ Below w.heap.size w w' := by
  refine (Dr.draw_calls dStepPool_con rfl rfl (by decide) A n c w hn hB).mono ?_
  rintro e w' ⟨v, rfl, hv, hb⟩
  obtain ⟨u1, u2, rfl, a1, a2⟩ := tup2 hv
  obtain ⟨g1, rfl, hg1⟩ := agg_of (k := 7) a1
  obtain ⟨g2, rfl, hg2⟩ := agg_of (k := 3) a2
  exact ⟨g1 0, g1 1, g1 2, g1 3, g1 4, g1 5, g1 6, g2 0, g2 1, g2 2, rfl, ⟨hg2 0 (by omega), hg2 1 (by omega), hg2 2 (by omega)⟩, hb⟩
open Go.Dr in
theorem dRunPool_any (A : Option Addr) (n c : Nat) (w : World) (hn : n ≤ 65536) (hB : Byt w w.heap.size A n) :
    Calls Try.prog 41 #[.slice A n c] w fun e w' => ∃ (z1_0 : Int) (z1_1 : Int) (z1_2 : Int) (z1_3 : Int) (z1_4 : Int) (z1_5 : Int) (z1_6 : Int) (ad2 : Addr) (xs2 : List PSt) (c2 : Nat), e = .returned (.tuple #[.agg #[.int .i64 z1_0, .int .i64 z1_1, .int .i64 z1_2, .int .i64 z1_3, .int .i64 z1_4, .int .i64 z1_5, .int .i64 z1_6], .slice (some ad2) xs2.length c2]) ∧ xs2.length ≤ 60 ∧ Rd w' w'.heap.size (some ad2) 3 PSt.enc xs2 ∧ Hid (∀ k, k < xs2.length → (el xs2 k).v ≤ 9223372036854775807) ∧ Below w.heap.size w w' := by
  refine (Dr.draw_calls dRunPool_con rfl rfl (by decide) A n c w hn hB).mono ?_
  rintro e w' ⟨v, rfl, hv, hb⟩
  obtain ⟨u1, u2, rfl, a1, a2⟩ := tup2 hv
  obtain ⟨g1, rfl, hg1⟩ := agg_of (k := 7) a1
  obtain ⟨A2, xs2, c2, rfl, _, hl2, hr2, hn2, hx2⟩ := rows_of (k := 3) (tb := poolTab) (T := 51) poolTab_step rfl (by omega) PSt.enc (fun g => ⟨g 0, g 1, g 2⟩) (fun _ => rfl) a2
  obtain ⟨ad2, rfl⟩ := hn2 (by omega)
  exact ⟨g1 0, g1 1, g1 2, g1 3, g1 4, g1 5, g1 6, ad2, xs2, c2, rfl, hl2, hr2, Lib.hid (fun k hk => by obtain ⟨g, e, hg⟩ := hx2 k hk; rw [e]; exact (hg 1 (by omega)).2), hb⟩
open Go.Dr in
theorem dSettled_any (A : Option Addr) (n c : Nat) (w : World) (hn : n ≤ 65536) (hB : Byt w w.heap.size A n) :
    Calls Try.prog 42 #[.slice A n c] w fun e w' => ∃ (z1_0 : Int) (z1_1 : Int) (z2 : Int), e = .returned (.tuple #[.agg #[.int .i64 z1_0, .int .i64 z1_1], .int .i64 z2]) ∧ ((-9223372036854775808 ≤ z1_0 ∧ z1_0 ≤ 9223372036854775807) ∧ (-9223372036854775808 ≤ z1_1 ∧ z1_1 ≤ 9223372036854775807)) ∧ (-9223372036854775808 ≤ z2 ∧ z2 ≤ 9223372036854775807) ∧ Below w.heap.size w w' := by
  refine (Dr.draw_calls dSettled_con rfl rfl (by decide) A n c w hn hB).mono ?_
  rintro e w' ⟨v, rfl, hv, hb⟩
  obtain ⟨u1, u2, rfl, a1, a2⟩ := tup2 hv
  obtain ⟨g1, rfl, hg1⟩ := agg_of (k := 2) a1
  obtain ⟨z2, rfl, hz2a, hz2b⟩ := int_of a2
  exact ⟨g1 0, g1 1, z2, rfl, ⟨hg1 0 (by omega), hg1 1 (by omega)⟩, ⟨hz2a, hz2b⟩, hb⟩
theorem iStep_at {a0 a1 a2 a3 a4 a5 a6 k v z q0 q1 q2 q3 q4 q5 q6 : Int} {t : Bool} (hQ : Hid (Pl.step ⟨a0, a1, a2, a3, a4, a5, a6⟩ k v z = ⟨q0, q1, q2, q3, q4, q5, q6⟩)) (hT : Hid (Pl.stepB ⟨a0, a1, a2, a3, a4, a5, a6⟩ k v z = t)) (hv : v ≤ 9223372036854775807) (w : World) :
    Calls Try.prog 32 #[.agg #[.int .i64 a0, .int .i64 a1, .int .i64 a2, .int .i64 a3, .int .i64 a4, .int .i64 a5, .int .i64 a6], .agg #[.int .i64 k, .int .i64 v, .int .i64 z]] w fun e w' => e = .returned (.tuple #[.agg #[.int .i64 q0, .int .i64 q1, .int .i64 q2, .int .i64 q3, .int .i64 q4, .int .i64 q5, .int .i64 q6], .bool t]) ∧ Below w.heap.size w w' := by
  have h := iStepPool_any a0 a1 a2 a3 a4 a5 a6 k v z w hv
  rw [hQ.out, hT.out] at h
  exact h
theorem sStep_at {a0 a1 a2 a3 a4 a5 a6 k v z q0 q1 q2 q3 q4 q5 q6 : Int} {t : Bool} (hQ : Hid (Pl.step ⟨a0, a1, a2, a3, a4, a5, a6⟩ k v z = ⟨q0, q1, q2, q3, q4, q5, q6⟩)) (hT : Hid (Pl.stepB ⟨a0, a1, a2, a3, a4, a5, a6⟩ k v z = t)) (hv : v ≤ 9223372036854775807) (w : World) :
    Calls Try.prog 30 #[.agg #[.int .i64 a0, .int .i64 a1, .int .i64 a2, .int .i64 a3, .int .i64 a4, .int .i64 a5, .int .i64 a6], .agg #[.int .i64 k, .int .i64 v, .int .i64 z]] w fun e w' => e = .returned (.tuple #[.agg #[.int .i64 q0, .int .i64 q1, .int .i64 q2, .int .i64 q3, .int .i64 q4, .int .i64 q5, .int .i64 q6], .bool t]) ∧ Below w.heap.size w w' := by
  have h := sStepPool_any a0 a1 a2 a3 a4 a5 a6 k v z w hv
  rw [hQ.out, hT.out] at h
  exact h
theorem iRun_at {a0 a1 a2 a3 a4 a5 a6 n q0 q1 q2 q3 q4 q5 q6 : Int} {t : Bool} {xs : List PSt} (hQ : Hid (rpO ⟨a0, a1, a2, a3, a4, a5, a6⟩ xs = (⟨q0, q1, q2, q3, q4, q5, q6⟩, n))) (hT : Hid (rpB ⟨a0, a1, a2, a3, a4, a5, a6⟩ xs = t)) (A : Option Addr) (cp : Nat) (w : World) (h : Rd w w.heap.size A 3 PSt.enc xs) (hm : xs.length ≤ 9223372036854775807) (hv : Hid (∀ k, k < xs.length → (el xs k).v ≤ 9223372036854775807)) :
    Calls Try.prog 37 #[.agg #[.int .i64 a0, .int .i64 a1, .int .i64 a2, .int .i64 a3, .int .i64 a4, .int .i64 a5, .int .i64 a6], .slice A xs.length cp] w fun e w' => e = .returned (.tuple #[.agg #[.int .i64 q0, .int .i64 q1, .int .i64 q2, .int .i64 q3, .int .i64 q4, .int .i64 q5, .int .i64 q6], .int .i64 n, .bool t]) ∧ Below w.heap.size w w' := by
  have h := iRunPool_any A cp xs a0 a1 a2 a3 a4 a5 a6 w h hm hv
  rw [hQ.out, hT.out] at h
  exact h
theorem sRun_at {a0 a1 a2 a3 a4 a5 a6 n q0 q1 q2 q3 q4 q5 q6 : Int} {t : Bool} {xs : List PSt} (hQ : Hid (rpO ⟨a0, a1, a2, a3, a4, a5, a6⟩ xs = (⟨q0, q1, q2, q3, q4, q5, q6⟩, n))) (hT : Hid (rpB ⟨a0, a1, a2, a3, a4, a5, a6⟩ xs = t)) (A : Option Addr) (cp : Nat) (w : World) (h : Rd w w.heap.size A 3 PSt.enc xs) (hm : xs.length ≤ 9223372036854775807) (hv : Hid (∀ k, k < xs.length → (el xs k).v ≤ 9223372036854775807)) :
    Calls Try.prog 35 #[.agg #[.int .i64 a0, .int .i64 a1, .int .i64 a2, .int .i64 a3, .int .i64 a4, .int .i64 a5, .int .i64 a6], .slice A xs.length cp] w fun e w' => e = .returned (.tuple #[.agg #[.int .i64 q0, .int .i64 q1, .int .i64 q2, .int .i64 q3, .int .i64 q4, .int .i64 q5, .int .i64 q6], .int .i64 n, .bool t]) ∧ Below w.heap.size w w' := by
  have h := sRunPool_any A cp xs a0 a1 a2 a3 a4 a5 a6 w h hm hv
  rw [hQ.out, hT.out] at h
  exact h
theorem iStl_at {a s c a' s' c' : Int} {t : Bool} (h1 : Hid (stlA a s c = a')) (h2 : Hid (stlS a s c = s')) (h3 : Hid (stlC a s c = c')) (h4 : Hid (stlB a s c = t)) (w : World) :
    Calls Try.prog 19 #[.agg #[.int .i64 a, .int .i64 s], .int .i64 c] w fun e w' => e = .returned (.tuple #[.agg #[.int .i64 a', .int .i64 s'], .int .i64 c', .bool t]) ∧ Below w.heap.size w w' := by
  have h := settledBrine_any a s c w
  rw [h1.out, h2.out, h3.out, h4.out] at h
  exact h
theorem sStl_at {a s c a' s' c' : Int} {t : Bool} (h1 : Hid (stlA a s c = a')) (h2 : Hid (stlS a s c = s')) (h3 : Hid (stlC a s c = c')) (h4 : Hid (stlB a s c = t)) (w : World) :
    Calls Try.prog 17 #[.agg #[.int .i64 a, .int .i64 s], .int .i64 c] w fun e w' => e = .returned (.tuple #[.agg #[.int .i64 a', .int .i64 s'], .int .i64 c', .bool t]) ∧ Below w.heap.size w w' := by
  have h := sSettledBrine_any a s c w
  rw [h1.out, h2.out, h3.out, h4.out] at h
  exact h
theorem iSalt_at {a0 a1 a2 a3 a4 a5 a6 x : Int} (h1 : Hid (satV a0 a1 a2 a3 a4 a5 a6 = x)) (h2 : Hid (poolOK a0 a1 a2 a3 a4 a5 a6 = true)) (w : World) :
    Calls Try.prog 16 #[.agg #[.int .i64 a0, .int .i64 a1, .int .i64 a2, .int .i64 a3, .int .i64 a4, .int .i64 a5, .int .i64 a6]] w fun e w' => e = .returned (.tuple #[.int .i64 x, .bool true]) ∧ Below w.heap.size w w' := by
  have h := saltIn_any a0 a1 a2 a3 a4 a5 a6 w
  rw [h1.out, h2.out] at h
  exact h
theorem settle_again {p : Pl} (h0 : 0 ≤ p.a) (hc : 0 ≤ p.settle.c) (hs : 0 ≤ p.s ∨ True) : imN p.settle.a p.settle.s p.settle.c = 0 := by
  unfold Pl.settle at hc ⊢
  simp only at hc ⊢
  unfold imN at hc ⊢
  rcases mn_or (kp p.a - p.s) p.c with h | h
  · rw [h.1] at hc ⊢
    rcases mn_or (kp p.a - (p.s + (kp p.a - p.s))) (p.c - (kp p.a - p.s)) with h2 | h2 <;> rw [h2.1] <;> omega
  · rw [h.1] at hc ⊢
    rcases mn_or (kp p.a - (p.s + p.c)) (p.c - p.c) with h2 | h2 <;> rw [h2.1] <;> omega
theorem raw_a {p q : Pl} {k v z : Int} (hp : p.ok = true) (hs : psOK k v z = true) (h : p.raw k v z = some q) : 0 ≤ q.a ∧ (k ≠ 1 → q.i = p.i) := by
  have hb := ok_bd hp
  unfold Pl.raw at h
  split at h
  · rename_i hk
    simp only [psOK, if_pos hk, Bool.and_eq_true, inB_iff] at hs
    cases h
    exact ⟨by simp only; omega, fun h => absurd hk h⟩
  · split at h
    · split at h
      · cases h
      · cases h
        have := mn_or v p.a
        exact ⟨by simp only; omega, fun _ => rfl⟩
    · split at h
      · split at h
        · cases h
        · rename_i hk _
          have hk1 : ¬ k = 1 := by omega
          simp only [psOK, if_neg hk1, if_pos (show k = 2 ∨ k = 3 ∨ k = 4 by omega), Bool.and_eq_true, decide_eq_true_eq] at hs
          cases h
          exact ⟨by simp only; omega, fun _ => rfl⟩
      · repeat' (split at h)
        all_goals (first | (cases h; done) | (cases h; exact ⟨by first | omega | (simp; done) | (simp; omega), fun _ => by first | rfl | omega⟩))
theorem step_facts {p q : Pl} {k v z : Int} (hQ : p.step k v z = q) (hT : p.stepB k v z = true) : p.ok = true ∧ q.ok = true ∧ imN q.a q.s q.c = 0 ∧ (k ≠ 1 → q.i = p.i) := by
  have hok := step_ok hT
  rw [hQ] at hok
  have hT2 := hT
  simp only [Pl.stepB, Bool.and_eq_true] at hT2
  obtain ⟨h1, h2, h3⟩ := hT2
  unfold Pl.step at hQ
  rw [if_pos hT] at hQ
  cases hr : p.raw k v z with
  | none => simp [Pl.can, hr] at h3
  | some r =>
    rw [hr] at hQ
    simp only at hQ
    obtain ⟨ha, hi⟩ := raw_a h1 h2 hr
    subst hQ
    exact ⟨h1, hok, settle_again ha (ok_bd hok).2.2.2.2.1 (.inr trivial), hi⟩
theorem stl_same {p : Pl} (h : p.ok = true) (h0 : imN p.a p.s p.c = 0) : stlB p.a p.s p.c = true ∧ stlA p.a p.s p.c = p.a ∧ stlS p.a p.s p.c = p.s ∧ stlC p.a p.s p.c = p.c := by
  have hb := ok_bd h
  have e : stlB p.a p.s p.c = true := by
    simp only [stlB, h0, Bool.and_eq_true, inB_iff]
    omega
  refine ⟨e, ?_, ?_, ?_⟩
  · rw [stlA, if_pos e]
  · rw [stlS, if_pos e, h0]; omega
  · rw [stlC, if_pos e, h0]; omega
theorem stl_sum {a s c : Int} (h : stlB a s c = true) : stlS a s c + stlC a s c = s + c ∧ stlA a s c = a ∧ (0 ≤ s ∧ s ≤ 1000000) ∧ (0 ≤ c ∧ c ≤ 1000000) ∧ (0 ≤ stlS a s c ∧ stlS a s c ≤ 1000000) ∧ (0 ≤ stlC a s c ∧ stlC a s c ≤ 1000000) := by
  have h' := h
  simp only [stlB, Bool.and_eq_true, inB_iff] at h'
  rw [stlS, stlC, stlA, if_pos h, if_pos h, if_pos h]
  omega
set_option maxRecDepth 100000 in
set_option maxHeartbeats 40000000 in
theorem FnPools_p10 {u1 u2 u3 u4 u5 u6 u7 u8 u9 u10 u11 u12 u13 u14 u15 u16 u17 u18 u19 u20 u21 u22 u23 u24 u25 u26 u27 u28 u29 u30 u31 u32 u33 u34 u35 u36 u37 u38 u39 u40 u41 u42 u43 u44 u45 u46 u47 u48 u49 u50 u51 u52 u53 u54 u55 u56 u57 u58 u59 u60 u61 u62 u63 u64 u65 u66 u67 u68 u69 u70 u71 u72 u73 u74 u75 u76 u77 u78 u79 u80 u81 u82 u83 u84 u85 u86 u87 u88 u89 u90 u91 u92 u93 u94 u95 u96 u97 u98 u99 u100 u101 u102 u103 u104 u105 u106 u107 u108 u109 u110 u111 u112 u113 u114 u115 u116 u117 u118 u119 u120 u121 u122 u123 u124 u125 u126 u127 u128 u129 u130 u131 u132 u133 u134 u135 u136 u137 u138 u139 u140 u141 u142 u143 u144 u145 u146 u147 u148 u149 u150 u151 u152 u153 u154 u155 u156 u157 u158 u159 u160 u161 u162 u163 u164 u165 u166 u167 u168 u169 u170 u171 u172 u173 u174 u175 u176 u177 u178 u179 u180 u181 u182 u183 u184 u185 u186 u187 u188 u189 u190 u191 u192 u193 u194 u195 u196 u197 u198 u199 u200 u201 u202 u203 u204 u205 u206 u207 u208 u209 u210 u211 u212 u213 u214 u215 u216 u217 u218 u219 u220 u221 u222 u223 u224 u225 u226 u227 u228 u229 u230 u231 u232 u233 u234 u235 u236 u237 u238 u239 u240 u241 u242 u243 u244 : Value} (A : Option Addr) (n c : Nat) (w wc : World) (hn : n ≤ 65536) (hB : Byt w w.heap.size A n) (h_below : Below w.heap.size w wc) (K : Act → World → Prop) (hK : ∀ a w1, (tailOf 11 (Try.f11.body.getD .skip)).wp Try.prog (bodyPost Try.prog Try.f11 fun e w' => e = .returned (.bool true) ∧ Below w.heap.size w w') a w1 → K a w1) :
    (headOf (tailOf 10 (Try.f11.body.getD .skip))).wp Try.prog (Exit.then K (bodyPost Try.prog Try.f11 fun e w' => e = .returned (.bool true) ∧ Below w.heap.size w w')) ⟨#[.slice A n c, u1, u2, u3, u4, u5, u6, u7, u8, u9, u10, u11, u12, u13, u14, u15, u16, u17, u18, u19, u20, u21, u22, u23, u24, u25, u26, u27, u28, u29, u30, u31, u32, u33, u34, u35, u36, u37, u38, u39, u40, u41, u42, u43, u44, u45, u46, u47, u48, u49, u50, u51, u52, u53, u54, u55, u56, u57, u58, u59, u60, u61, u62, u63, u64, u65, u66, u67, u68, u69, u70, u71, u72, u73, u74, u75, u76, u77, u78, u79, u80, u81, u82, u83, u84, u85, u86, u87, u88, u89, u90, u91, u92, u93, u94, u95, u96, u97, u98, u99, u100, u101, u102, u103, u104, u105, u106, u107, u108, u109, u110, u111, u112, u113, u114, u115, u116, u117, u118, u119, u120, u121, u122, u123, u124, u125, u126, u127, u128, u129, u130, u131, u132, u133, u134, u135, u136, u137, u138, u139, u140, u141, u142, u143, u144, u145, u146, u147, u148, u149, u150, u151, u152, u153, u154, u155, u156, u157, u158, u159, u160, u161, u162, u163, u164, u165, u166, u167, u168, u169, u170, u171, u172, u173, u174, u175, u176, u177, u178, u179, u180, u181, u182, u183, u184, u185, u186, u187, u188, u189, u190, u191, u192, u193, u194, u195, u196, u197, u198, u199, u200, u201, u202, u203, u204, u205, u206, u207, u208, u209, u210, u211, u212, u213, u214, u215, u216, u217, u218, u219, u220, u221, u222, u223, u224, u225, u226, u227, u228, u229, u230, u231, u232, u233, u234, u235, u236, u237, u238, u239, u240, u241, u242, u243, u244], []⟩ wc := by
  have s_below := h_below.size
  simp only [tailOf, headOf, Option.getD, Try.f11] at hK ⊢
  go_wp2_with fail
  refine Dr.cut_calls (fun X => (Below w.heap.size w X)) ((by repeat' (first | (with_reducible exact Below.refl _ _) | (with_reducible refine Below.alloc ?_ ?_ _) | (with_reducible refine Below.setCell ?_ ?_ _) | (with_reducible refine Below.drew ?_) | (with_reducible refine Below.trans ?_ (Below.mono (by with_reducible assumption) ?_)) | omega | (simp; done) | (simp; omega)))) ?_
  clear h_below s_below
  intro Y1 h_below
  refine (dSettled_any _ _ _ _ hn (Dr.byt_more (hB.below h_below) h_below.size)).mono ?_
  rintro e X1 ⟨a1, s1, c1, rfl, hza, hzc, hb1⟩
  have h_below0 := h_below
  replace h_below := h_below.trans (hb1.mono h_below.size)
  clear hb1
  clear h_below0
  have s_below := h_below.size
  go_wp2_with fail
  refine Dr.cut_calls (fun X => (Below w.heap.size w X) ∧ (Row X (X1.heap.size) 27 [.int .i64 a1, .int .i64 s1])) ⟨(by repeat' (first | (with_reducible exact Below.refl _ _) | (with_reducible refine Below.alloc ?_ ?_ _) | (with_reducible refine Below.setCell ?_ ?_ _) | (with_reducible refine Below.drew ?_) | (with_reducible refine Below.trans ?_ (Below.mono (by with_reducible assumption) ?_)) | omega | (simp; done) | (simp; omega))), (by first | exact Row.new _ _ _ | exact (Row.new _ _ _).to (by repeat' (first | (with_reducible exact Below.refl _ _) | (with_reducible refine Below.alloc ?_ ?_ _) | (with_reducible refine Below.setCell ?_ ?_ _) | (with_reducible refine Below.drew ?_) | (with_reducible refine Below.trans ?_ (Below.mono (by with_reducible assumption) ?_)) | omega | (simp; done) | (simp; omega))) | exact row_new_at _ _ _ _ (by simp) | exact (row_new_at _ _ _ _ (by simp)).to (by repeat' (first | (with_reducible exact Below.refl _ _) | (with_reducible refine Below.alloc ?_ ?_ _) | (with_reducible refine Below.setCell ?_ ?_ _) | (with_reducible refine Below.drew ?_) | (with_reducible refine Below.trans ?_ (Below.mono (by with_reducible assumption) ?_)) | omega | (simp; done) | (simp; omega))))⟩ ?_
  clear h_below s_below
  obtain ⟨BX2, hBX2⟩ : ∃ B, X1.heap.size = B := ⟨_, rfl⟩
  simp only [hBX2]
  clear hBX2
  rintro Y2 ⟨h_below, h_b⟩
  obtain ⟨a2, h1⟩ : ∃ x, stlA a1 s1 c1 = x := ⟨_, rfl⟩
  obtain ⟨s2, h2⟩ : ∃ x, stlS a1 s1 c1 = x := ⟨_, rfl⟩
  obtain ⟨c2, h3⟩ : ∃ x, stlC a1 s1 c1 = x := ⟨_, rfl⟩
  obtain ⟨t, h4⟩ : ∃ x, stlB a1 s1 c1 = x := ⟨_, rfl⟩
  have h1 := Lib.hid h1
  have h2 := Lib.hid h2
  have h3 := Lib.hid h3
  have h4 := Lib.hid h4
  refine (iStl_at h1 h2 h3 h4 _).mono ?_
  rintro e X2 ⟨rfl, hb2⟩
  have h_below0 := h_below
  replace h_below := h_below.trans (hb2.mono h_below.size)
  replace h_b := Row.to h_b hb2
  clear hb2
  clear h_below0
  have s_below := h_below.size
  have l_b := Row.lt h_b
  have z_b := Row.frozen h_b
  obtain ⟨c_b0, c_b1⟩ := row2c h_b
  go_wp2_with fail
  refine Dr.cut_calls (fun X => (Below w.heap.size w X) ∧ (Row X (BX2) 27 [.int .i64 a1, .int .i64 s1]) ∧ (Row X (X2.heap.size) 27 [.int .i64 a2, .int .i64 s2])) ⟨(by repeat' (first | (with_reducible exact Below.refl _ _) | (with_reducible refine Below.alloc ?_ ?_ _) | (with_reducible refine Below.setCell ?_ ?_ _) | (with_reducible refine Below.drew ?_) | (with_reducible refine Below.trans ?_ (Below.mono (by with_reducible assumption) ?_)) | omega | (simp; done) | (simp; omega))), (Row.to h_b (by repeat' (first | (with_reducible exact Below.refl _ _) | (with_reducible refine Below.alloc ?_ ?_ _) | (with_reducible refine Below.setCell ?_ ?_ _) | (with_reducible refine Below.drew ?_) | (with_reducible refine Below.trans ?_ (Below.mono (by with_reducible assumption) ?_)) | omega | (simp; done) | (simp; omega)))), (by first | exact Row.new _ _ _ | exact (Row.new _ _ _).to (by repeat' (first | (with_reducible exact Below.refl _ _) | (with_reducible refine Below.alloc ?_ ?_ _) | (with_reducible refine Below.setCell ?_ ?_ _) | (with_reducible refine Below.drew ?_) | (with_reducible refine Below.trans ?_ (Below.mono (by with_reducible assumption) ?_)) | omega | (simp; done) | (simp; omega))) | exact row_new_at _ _ _ _ (by simp) | exact (row_new_at _ _ _ _ (by simp)).to (by repeat' (first | (with_reducible exact Below.refl _ _) | (with_reducible refine Below.alloc ?_ ?_ _) | (with_reducible refine Below.setCell ?_ ?_ _) | (with_reducible refine Below.drew ?_) | (with_reducible refine Below.trans ?_ (Below.mono (by with_reducible assumption) ?_)) | omega | (simp; done) | (simp; omega))))⟩ ?_
  clear h_below s_below h_b l_b z_b c_b0 c_b1
  obtain ⟨BX3, hBX3⟩ : ∃ B, X2.heap.size = B := ⟨_, rfl⟩
  simp only [hBX3]
  clear hBX3
  rintro Y3 ⟨h_below, h_b, h_d⟩
  refine (sStl_at h1 h2 h3 h4 _).mono ?_
  rintro e X3 ⟨rfl, hb3⟩
  have h_below0 := h_below
  replace h_below := h_below.trans (hb3.mono h_below.size)
  replace h_b := Row.to h_b hb3
  replace h_d := Row.to h_d hb3
  clear hb3
  clear h_below0
  have s_below := h_below.size
  have l_b := Row.lt h_b
  have z_b := Row.frozen h_b
  obtain ⟨c_b0, c_b1⟩ := row2c h_b
  have l_d := Row.lt h_d
  have z_d := Row.frozen h_d
  obtain ⟨c_d0, c_d1⟩ := row2c h_d
  cases t
  · go_wp2_with fail
    go_ret
    exact ⟨rfl, h_below.trans (by repeat' (first | (with_reducible exact Below.refl _ _) | (with_reducible refine Below.alloc ?_ ?_ _) | (with_reducible refine Below.setCell ?_ ?_ _) | (with_reducible refine Below.drew ?_) | (with_reducible refine Below.trans ?_ (Below.mono (by with_reducible assumption) ?_)) | omega | (simp; done) | (simp; omega)))⟩
  · obtain ⟨k1, k2, k3, k4, k5, k6⟩ := stl_sum h4.out
    rw [h2.out, h3.out] at k1
    rw [h1.out] at k2
    rw [h2.out] at k5
    rw [h3.out] at k6
    subst k2
    have k7 : wrap64 (s2 + c2) = s2 + c2 := by unfold wrap64; omega
    have k8 : wrap64 (s1 + c1) = s2 + c2 := by unfold wrap64; omega
    clear k3 k4 k5 k6
    go_wp2_with fail
    go_ret
    exact ⟨rfl, h_below.trans (by repeat' (first | (with_reducible exact Below.refl _ _) | (with_reducible refine Below.alloc ?_ ?_ _) | (with_reducible refine Below.setCell ?_ ?_ _) | (with_reducible refine Below.drew ?_) | (with_reducible refine Below.trans ?_ (Below.mono (by with_reducible assumption) ?_)) | omega | (simp; done) | (simp; omega)))⟩
set_option maxRecDepth 100000 in
set_option maxHeartbeats 40000000 in
theorem FnPools_p6 {u1 u2 u3 u4 u5 u6 u7 u8 u9 u10 u11 u12 u13 u14 u15 u16 u17 u18 u19 u20 u21 u22 u23 u24 u25 u26 u27 u28 u29 u30 u31 u32 u33 u34 u35 u36 u37 u38 u39 u40 u41 u42 u43 u44 u45 u46 u47 u48 u49 u50 u51 u52 u53 u54 u55 u56 u57 u58 u59 u60 u61 u62 u63 u64 u65 u66 u67 u68 u69 u70 u71 u72 u73 u74 u75 u76 u77 u78 u79 u80 u81 u82 u83 u84 u85 u86 u87 u88 u89 u90 u91 u92 u93 u94 u95 u96 u97 u98 u99 u100 u101 u102 u103 u104 u105 u106 u107 u108 u109 u110 u111 u112 u113 u114 u115 u116 u117 u118 u119 u120 u121 u122 u123 u124 u125 u126 u127 u128 u129 u130 u131 u132 u133 u134 u135 u136 u137 u138 u139 u140 u141 u142 u143 u144 u145 u146 u147 u148 u149 u150 u151 u152 u153 u154 u155 u156 u157 u158 u159 u160 u161 u162 u163 u164 u165 u166 u167 u168 u169 u170 u171 u172 u173 u174 u175 u176 u177 u178 u179 u180 u181 u182 u183 u184 u185 u186 u187 u188 u189 u190 u191 u192 u193 u194 u195 u196 u197 u198 u199 u200 u201 u202 u203 u204 u205 u206 u207 u208 u209 u210 u211 u212 u213 u214 u215 u216 u217 u218 u219 u220 u221 u222 u223 u224 u225 u226 u227 u228 u229 u230 u231 u232 u233 u234 u235 u236 u237 u238 u239 u240 u241 u242 u243 u244 : Value} (A : Option Addr) (n c : Nat) (w wc : World) (hn : n ≤ 65536) (hB : Byt w w.heap.size A n) (h_below : Below w.heap.size w wc) (K : Act → World → Prop) (hK : ∀ a w1, (tailOf 7 (Try.f11.body.getD .skip)).wp Try.prog (bodyPost Try.prog Try.f11 fun e w' => e = .returned (.bool true) ∧ Below w.heap.size w w') a w1 → K a w1) :
    (headOf (tailOf 6 (Try.f11.body.getD .skip))).wp Try.prog (Exit.then K (bodyPost Try.prog Try.f11 fun e w' => e = .returned (.bool true) ∧ Below w.heap.size w w')) ⟨#[.slice A n c, u1, u2, u3, u4, u5, u6, u7, u8, u9, u10, u11, u12, u13, u14, u15, u16, u17, u18, u19, u20, u21, u22, u23, u24, u25, u26, u27, u28, u29, u30, u31, u32, u33, u34, u35, u36, u37, u38, u39, u40, u41, u42, u43, u44, u45, u46, u47, u48, u49, u50, u51, u52, u53, u54, u55, u56, u57, u58, u59, u60, u61, u62, u63, u64, u65, u66, u67, u68, u69, u70, u71, u72, u73, u74, u75, u76, u77, u78, u79, u80, u81, u82, u83, u84, u85, u86, u87, u88, u89, u90, u91, u92, u93, u94, u95, u96, u97, u98, u99, u100, u101, u102, u103, u104, u105, u106, u107, u108, u109, u110, u111, u112, u113, u114, u115, u116, u117, u118, u119, u120, u121, u122, u123, u124, u125, u126, u127, u128, u129, u130, u131, u132, u133, u134, u135, u136, u137, u138, u139, u140, u141, u142, u143, u144, u145, u146, u147, u148, u149, u150, u151, u152, u153, u154, u155, u156, u157, u158, u159, u160, u161, u162, u163, u164, u165, u166, u167, u168, u169, u170, u171, u172, u173, u174, u175, u176, u177, u178, u179, u180, u181, u182, u183, u184, u185, u186, u187, u188, u189, u190, u191, u192, u193, u194, u195, u196, u197, u198, u199, u200, u201, u202, u203, u204, u205, u206, u207, u208, u209, u210, u211, u212, u213, u214, u215, u216, u217, u218, u219, u220, u221, u222, u223, u224, u225, u226, u227, u228, u229, u230, u231, u232, u233, u234, u235, u236, u237, u238, u239, u240, u241, u242, u243, u244], []⟩ wc := by
  have s_below := h_below.size
  simp only [tailOf, headOf, Option.getD, Try.f11] at hK ⊢
  go_wp2_with fail
  refine Dr.cut_calls (fun X => (Below w.heap.size w X)) ((by repeat' (first | (with_reducible exact Below.refl _ _) | (with_reducible refine Below.alloc ?_ ?_ _) | (with_reducible refine Below.setCell ?_ ?_ _) | (with_reducible refine Below.drew ?_) | (with_reducible refine Below.trans ?_ (Below.mono (by with_reducible assumption) ?_)) | omega | (simp; done) | (simp; omega)))) ?_
  clear h_below s_below
  intro Y1 h_below
  refine (dRunPool_any _ _ _ _ hn (Dr.byt_more (hB.below h_below) h_below.size)).mono ?_
  rintro e X1 ⟨z1_0, z1_1, z1_2, z1_3, z1_4, z1_5, z1_6, ad, xs, cS, rfl, hlS, hrS, hvS, hb1⟩
  have h_below0 := h_below
  replace h_below := h_below.trans (hb1.mono h_below.size)
  clear hb1
  have h_xa := hrS
  clear h_below0
  have s_below := h_below.size
  go_wp2_with fail
  refine Dr.cut_calls (fun X => (Below w.heap.size w X) ∧ (Rd X X.heap.size (some ad) 3 PSt.enc xs) ∧ (Row X (X1.heap.size) 29 [.int .i64 z1_0, .int .i64 z1_1, .int .i64 z1_2, .int .i64 z1_3, .int .i64 z1_4, .int .i64 z1_5, .int .i64 z1_6])) ⟨(by repeat' (first | (with_reducible exact Below.refl _ _) | (with_reducible refine Below.alloc ?_ ?_ _) | (with_reducible refine Below.setCell ?_ ?_ _) | (with_reducible refine Below.drew ?_) | (with_reducible refine Below.trans ?_ (Below.mono (by with_reducible assumption) ?_)) | omega | (simp; done) | (simp; omega))), (h_xa.to (by repeat' (first | (with_reducible exact Below.refl _ _) | (with_reducible refine Below.alloc ?_ ?_ _) | (with_reducible refine Below.setCell ?_ ?_ _) | (with_reducible refine Below.drew ?_) | (with_reducible refine Below.trans ?_ (Below.mono (by with_reducible assumption) ?_)) | omega | (simp; done) | (simp; omega)))), (by first | exact Row.new _ _ _ | exact (Row.new _ _ _).to (by repeat' (first | (with_reducible exact Below.refl _ _) | (with_reducible refine Below.alloc ?_ ?_ _) | (with_reducible refine Below.setCell ?_ ?_ _) | (with_reducible refine Below.drew ?_) | (with_reducible refine Below.trans ?_ (Below.mono (by with_reducible assumption) ?_)) | omega | (simp; done) | (simp; omega))) | exact row_new_at _ _ _ _ (by simp) | exact (row_new_at _ _ _ _ (by simp)).to (by repeat' (first | (with_reducible exact Below.refl _ _) | (with_reducible refine Below.alloc ?_ ?_ _) | (with_reducible refine Below.setCell ?_ ?_ _) | (with_reducible refine Below.drew ?_) | (with_reducible refine Below.trans ?_ (Below.mono (by with_reducible assumption) ?_)) | omega | (simp; done) | (simp; omega))))⟩ ?_
  clear h_below s_below h_xa
  obtain ⟨BX2, hBX2⟩ : ∃ B, X1.heap.size = B := ⟨_, rfl⟩
  simp only [hBX2]
  clear hBX2
  rintro Y2 ⟨h_below, h_xa, h_p⟩
  obtain ⟨⟨⟨r0, r1, r2, r3, r4, r5, r6⟩, nn⟩, hQ⟩ : ∃ Q, rpO ⟨z1_0, z1_1, z1_2, z1_3, z1_4, z1_5, z1_6⟩ xs = Q := ⟨_, rfl⟩
  obtain ⟨t, hT⟩ : ∃ t, rpB ⟨z1_0, z1_1, z1_2, z1_3, z1_4, z1_5, z1_6⟩ xs = t := ⟨_, rfl⟩
  have hQ := Lib.hid hQ
  have hT := Lib.hid hT
  refine (iRun_at hQ hT _ _ _ h_xa (by omega) hvS).mono ?_
  rintro e X2 ⟨rfl, hb2⟩
  have h_below0 := h_below
  replace h_below := h_below.trans (hb2.mono h_below.size)
  replace h_xa := h_xa.to hb2
  replace h_p := Row.to h_p hb2
  clear hb2
  clear h_below0
  have s_below := h_below.size
  have l_p := Row.lt h_p
  have z_p := Row.frozen h_p
  obtain ⟨c_p0, c_p1, c_p2, c_p3, c_p4, c_p5, c_p6⟩ := row7c h_p
  go_wp2_with fail
  refine Dr.cut_calls (fun X => (Below w.heap.size w X) ∧ (Rd X X.heap.size (some ad) 3 PSt.enc xs) ∧ (Row X (BX2) 29 [.int .i64 z1_0, .int .i64 z1_1, .int .i64 z1_2, .int .i64 z1_3, .int .i64 z1_4, .int .i64 z1_5, .int .i64 z1_6]) ∧ (Row X (X2.heap.size) 29 [.int .i64 r0, .int .i64 r1, .int .i64 r2, .int .i64 r3, .int .i64 r4, .int .i64 r5, .int .i64 r6])) ⟨(by repeat' (first | (with_reducible exact Below.refl _ _) | (with_reducible refine Below.alloc ?_ ?_ _) | (with_reducible refine Below.setCell ?_ ?_ _) | (with_reducible refine Below.drew ?_) | (with_reducible refine Below.trans ?_ (Below.mono (by with_reducible assumption) ?_)) | omega | (simp; done) | (simp; omega))), (h_xa.to (by repeat' (first | (with_reducible exact Below.refl _ _) | (with_reducible refine Below.alloc ?_ ?_ _) | (with_reducible refine Below.setCell ?_ ?_ _) | (with_reducible refine Below.drew ?_) | (with_reducible refine Below.trans ?_ (Below.mono (by with_reducible assumption) ?_)) | omega | (simp; done) | (simp; omega)))), (Row.to h_p (by repeat' (first | (with_reducible exact Below.refl _ _) | (with_reducible refine Below.alloc ?_ ?_ _) | (with_reducible refine Below.setCell ?_ ?_ _) | (with_reducible refine Below.drew ?_) | (with_reducible refine Below.trans ?_ (Below.mono (by with_reducible assumption) ?_)) | omega | (simp; done) | (simp; omega)))), (by first | exact Row.new _ _ _ | exact (Row.new _ _ _).to (by repeat' (first | (with_reducible exact Below.refl _ _) | (with_reducible refine Below.alloc ?_ ?_ _) | (with_reducible refine Below.setCell ?_ ?_ _) | (with_reducible refine Below.drew ?_) | (with_reducible refine Below.trans ?_ (Below.mono (by with_reducible assumption) ?_)) | omega | (simp; done) | (simp; omega))) | exact row_new_at _ _ _ _ (by simp) | exact (row_new_at _ _ _ _ (by simp)).to (by repeat' (first | (with_reducible exact Below.refl _ _) | (with_reducible refine Below.alloc ?_ ?_ _) | (with_reducible refine Below.setCell ?_ ?_ _) | (with_reducible refine Below.drew ?_) | (with_reducible refine Below.trans ?_ (Below.mono (by with_reducible assumption) ?_)) | omega | (simp; done) | (simp; omega))))⟩ ?_
  clear h_below s_below h_xa h_p l_p z_p c_p0 c_p1 c_p2 c_p3 c_p4 c_p5 c_p6
  obtain ⟨BX3, hBX3⟩ : ∃ B, X2.heap.size = B := ⟨_, rfl⟩
  simp only [hBX3]
  clear hBX3
  rintro Y3 ⟨h_below, h_xa, h_p, h_o⟩
  refine (sRun_at hQ hT _ _ _ h_xa (by omega) hvS).mono ?_
  rintro e X3 ⟨rfl, hb3⟩
  have h_below0 := h_below
  replace h_below := h_below.trans (hb3.mono h_below.size)
  replace h_xa := h_xa.to hb3
  replace h_p := Row.to h_p hb3
  replace h_o := Row.to h_o hb3
  clear hb3
  clear h_below0
  have s_below := h_below.size
  have l_p := Row.lt h_p
  have z_p := Row.frozen h_p
  obtain ⟨c_p0, c_p1, c_p2, c_p3, c_p4, c_p5, c_p6⟩ := row7c h_p
  have l_o := Row.lt h_o
  have z_o := Row.frozen h_o
  obtain ⟨c_o0, c_o1, c_o2, c_o3, c_o4, c_o5, c_o6⟩ := row7c h_o
  cases t
  · go_upto_region 31 with (fail)
    exact FnPools_p10 A n c w _ hn hB (h_below.trans (by repeat' (first | (with_reducible exact Below.refl _ _) | (with_reducible refine Below.alloc ?_ ?_ _) | (with_reducible refine Below.setCell ?_ ?_ _) | (with_reducible refine Below.drew ?_) | (with_reducible refine Below.trans ?_ (Below.mono (by with_reducible assumption) ?_)) | omega | (simp; done) | (simp; omega))))  _ (by assumption)
  · have hO : rpO ⟨z1_0, z1_1, z1_2, z1_3, z1_4, z1_5, z1_6⟩ xs = rpS ⟨z1_0, z1_1, z1_2, z1_3, z1_4, z1_5, z1_6⟩ xs xs.length := by rw [rpO, if_pos hT.out]
    have hE := Lib.hid (hO.symm.trans hQ.out)
    clear hO hQ hT
    have hsX : w.heap.size ≤ X3.heap.size := s_below
    have HB := Lib.hid h_below
    have HX0 := Lib.hid h_xa
    have HO := Lib.hid h_o
    go_wp2_with fail
    go_loopw [23, 24] (fun cn ix wr => ∃ k : Nat, k ≤ xs.length ∧ ix = .int .i64 k ∧ cn = .int .i64 (rpS ⟨z1_0, z1_1, z1_2, z1_3, z1_4, z1_5, z1_6⟩ xs k).2 ∧ Hid (Below X3.heap.size X3 wr) ∧ Hid (Row wr (X3.heap.size + 1) 29 (Pl.enc (rpS ⟨z1_0, z1_1, z1_2, z1_3, z1_4, z1_5, z1_6⟩ xs k).1))) (fun _ ix _ => xs.length - (intOf ix).toNat)
    case atStart =>
      exact ⟨0, Nat.zero_le _, rfl, rfl, Lib.hid (show Below X3.heap.size X3 _ from (by repeat' (first | (with_reducible exact Below.refl _ _) | (with_reducible refine Below.alloc ?_ ?_ _) | (with_reducible refine Below.setCell ?_ ?_ _) | (with_reducible refine Below.drew ?_) | (with_reducible refine Below.trans ?_ (Below.mono (by with_reducible assumption) ?_)) | omega | (simp; done) | (simp; omega)))), by first | exact row_new_at _ _ _ _ (by simp) | exact (row_new_at _ _ _ _ (by simp)).to (by repeat' (first | (with_reducible exact Below.refl _ _) | (with_reducible refine Below.alloc ?_ ?_ _) | (with_reducible refine Below.setCell ?_ ?_ _) | (with_reducible refine Below.drew ?_) | (with_reducible refine Below.trans ?_ (Below.mono (by with_reducible assumption) ?_)) | omega | (simp; done) | (simp; omega)))⟩
    case round =>
      clear h_below s_below h_xa h_p l_p z_p c_p0 c_p1 c_p2 c_p3 c_p4 c_p5 c_p6 h_o l_o z_o c_o0 c_o1 c_o2 c_o3 c_o4 c_o5 c_o6
      obtain ⟨k, hk, rfl, rfl, hbw, hr0⟩ := hrel
      have hs := Below.size hbw.out
      have hnn := rpS_bd ⟨z1_0, z1_1, z1_2, z1_3, z1_4, z1_5, z1_6⟩ xs k
      by_cases hlt : k < xs.length
      · obtain ⟨b, o, hadr, hBb, c0, c1, c2⟩ := pst_cells (HX0.out.below hbw.out) hlt
        obtain rfl := Option.some.inj hadr
        have hBw : b < wr.heap.size := by omega
        have hI : (k : Int) < xs.length := by omega
        have hI0 : (0 : Int) ≤ k := by omega
        have hS := @rpS.eq_2 ⟨z1_0, z1_1, z1_2, z1_3, z1_4, z1_5, z1_6⟩ xs k
        obtain ⟨⟨⟨n0, n1, n2, n3, n4, n5, n6⟩, nc⟩, hQ⟩ : ∃ Q, rpS ⟨z1_0, z1_1, z1_2, z1_3, z1_4, z1_5, z1_6⟩ xs k = Q := ⟨_, rfl⟩
        rw [hQ] at hr0 hS hnn
        simp only [hQ]
        simp only [] at hnn hS
        have hvk := hvS.out k hlt
        obtain ⟨⟨m0, m1, m2, m3, m4, m5, m6⟩, hR⟩ : ∃ Q, Pl.step ⟨n0, n1, n2, n3, n4, n5, n6⟩ (el xs k).k (el xs k).v (el xs k).s = Q := ⟨_, rfl⟩
        obtain ⟨t, hT⟩ : ∃ t, Pl.stepB ⟨n0, n1, n2, n3, n4, n5, n6⟩ (el xs k).k (el xs k).v (el xs k).s = t := ⟨_, rfl⟩
        rw [hR, hT] at hS
        have hR := Lib.hid hR
        have hT := Lib.hid hT
        have hS := Lib.hid hS
        have HR0 : Hid (Row wr (X3.heap.size + 1) 29 [.int .i64 n0, .int .i64 n1, .int .i64 n2, .int .i64 n3, .int .i64 n4, .int .i64 n5, .int .i64 n6]) := hr0
        obtain ⟨p0, p1, p2, p3, p4, p5, p6⟩ := row7r HR0.out
        clear hr0 hQ
        have hzN := HR0.out.lt
        go_wp2_with fail
        apply wp_region_chain 10 [8] [] noJ (fun W W' => Below W.heap.size W W') [Sum.inl _, Sum.inl _, Sum.inl _, Sum.inl _, Sum.inl _, Sum.inl _, Sum.inl _, Sum.inl _, Sum.inl _, Sum.inr (fun u W => ∃ B, u = .pointer (some ⟨B, 0, none⟩) ∧ wr.heap.size ≤ B ∧ Row W B 29 [.int .i64 0, .int .i64 0, .int .i64 0, .int .i64 0, .int .i64 0, .int .i64 0, .int .i64 0])] (by kernel_rfl) (by kernel_rfl) (fun _ _ _ => below_trans) (below_draw _) trivial ?_
        rotate_left 9
        simp only [List.take_succ_cons, List.take_zero, List.drop_succ_cons, List.drop_zero]
        apply free_val (by rfl)
        · intro W hE hp hF; obtain ⟨hcE, hfE, hnE⟩ := bcell hE; have hsE := hE.size; unfold opOb; go_wp2_with fail; exact ⟨rfl, _, rfl, rfl, ⟨Below.refl _ _, noJ_post _ _ _⟩⟩
        simp only [Act.put, List.setIfInBounds_toArray, List.set_cons_succ, List.set_cons_zero]
        apply free_val (by rfl)
        · intro W hE hp hF; obtain ⟨hcE, hfE, hnE⟩ := bcell hE; have hsE := hE.size; unfold opOb; go_wp2_with fail; exact ⟨rfl, _, rfl, rfl, ⟨Below.refl _ _, noJ_post _ _ _⟩⟩
        simp only [Act.put, List.setIfInBounds_toArray, List.set_cons_succ, List.set_cons_zero]
        apply free_val (by rfl)
        · intro W hE hp hF; obtain ⟨hcE, hfE, hnE⟩ := bcell hE; have hsE := hE.size; unfold opOb; go_wp2_with fail; exact ⟨rfl, _, rfl, rfl, ⟨Below.refl _ _, noJ_post _ _ _⟩⟩
        simp only [Act.put, List.setIfInBounds_toArray, List.set_cons_succ, List.set_cons_zero]
        apply free_val (by rfl)
        · intro W hE hp hF; obtain ⟨hcE, hfE, hnE⟩ := bcell hE; have hsE := hE.size; unfold opOb; go_wp2_with fail; exact ⟨rfl, _, rfl, rfl, ⟨Below.refl _ _, noJ_post _ _ _⟩⟩
        simp only [Act.put, List.setIfInBounds_toArray, List.set_cons_succ, List.set_cons_zero]
        apply free_val (by rfl)
        · intro W hE hp hF; obtain ⟨hcE, hfE, hnE⟩ := bcell hE; have hsE := hE.size; unfold opOb; go_wp2_with fail; exact ⟨rfl, _, rfl, rfl, ⟨Below.refl _ _, noJ_post _ _ _⟩⟩
        simp only [Act.put, List.setIfInBounds_toArray, List.set_cons_succ, List.set_cons_zero]
        apply free_val (by rfl)
        · intro W hE hp hF; obtain ⟨hcE, hfE, hnE⟩ := bcell hE; have hsE := hE.size; unfold opOb; go_wp2_with fail; (go_at_call 32; refine (iStep_at hR hT hvk _).mono ?_; rintro e WX ⟨rfl, hbX⟩); go_wp2_with fail; exact ⟨rfl, _, rfl, rfl, ⟨hbX, noJ_post _ _ _⟩⟩
        simp only [Act.put, List.setIfInBounds_toArray, List.set_cons_succ, List.set_cons_zero]
        apply free_val (by rfl)
        · intro W hE hp hF; obtain ⟨hcE, hfE, hnE⟩ := bcell hE; have hsE := hE.size; unfold opOb; go_wp2_with fail; exact ⟨rfl, _, rfl, rfl, ⟨Below.refl _ _, noJ_post _ _ _⟩⟩
        simp only [Act.put, List.setIfInBounds_toArray, List.set_cons_succ, List.set_cons_zero]
        apply free_val (by rfl)
        · intro W hE hp hF; obtain ⟨hcE, hfE, hnE⟩ := bcell hE; have hsE := hE.size; unfold opOb; go_wp2_with fail; exact ⟨rfl, _, rfl, rfl, ⟨Below.refl _ _, noJ_post _ _ _⟩⟩
        simp only [Act.put, List.setIfInBounds_toArray, List.set_cons_succ, List.set_cons_zero]
        apply free_late (by rfl) (by rfl)
        · intro W; unfold opOb; go_wp2_with fail; exact ⟨rfl, _, rfl, rfl, rfl⟩
        simp only [Act.put, List.setIfInBounds_toArray, List.set_cons_succ, List.set_cons_zero]
        apply free_has (by rfl)
        · exact (fun u W W' hb ⟨B, e, h1, h2⟩ => ⟨B, e, h1, h2.to hb⟩)
        · intro W hE hp hF; obtain ⟨hcE, hfE, hnE⟩ := bcell hE; have hsE := hE.size; unfold opOb; go_wp2_with fail; exact ⟨rfl, _, rfl, ⟨_, rfl, (by first | omega | (simp; omega)), Row.new _ _ _⟩, ⟨(Below.refl _ _).alloc (Nat.le_refl _) _, noJ_post _ _ _⟩⟩
        intro uX1
        simp only [Act.put, List.setIfInBounds_toArray, List.set_cons_succ, List.set_cons_zero]
        apply free_end
        intro w5 hEw5 hJF hGF
        clear hJF
        obtain ⟨BX1, rfl, hlX1, rowX1⟩ := hGF.2
        clear hGF
        obtain ⟨y0, y1, y2, y3, y4, y5, y6⟩ := row7r rowX1
        have yf := rowX1.frozen
        have hzx := rowX1.lt
        have hs5 := hEw5.size
        have hne1 : X3.heap.size + 1 ≠ BX1 := by omega
        have HX := Lib.hid rowX1
        clear rowX1 p0 p1 p2 p3 p4 p5 p6 c0 c1 c2
        go_wp2_with fail
        refine normal_of ?_
        refine cut_world (fun W => Row W BX1 29 [.int .i64 m0, .int .i64 m1, .int .i64 m2, .int .i64 m3, .int .i64 m4, .int .i64 m5, .int .i64 m6] ∧ Row W (X3.heap.size + 1) 29 [.int .i64 n0, .int .i64 n1, .int .i64 n2, .int .i64 n3, .int .i64 n4, .int .i64 n5, .int .i64 n6] ∧ Below X3.heap.size X3 W) ⟨(((((((HX.out).set (j := 0) (.int .i64 m0)).set (j := 1) (.int .i64 m1)).set (j := 2) (.int .i64 m2)).set (j := 3) (.int .i64 m3)).set (j := 4) (.int .i64 m4)).set (j := 5) (.int .i64 m5)).set (j := 6) (.int .i64 m6), ((((((((HR0.out.to hEw5)).far (p := ⟨BX1, 0, none⟩) hne1 (.int .i64 m0)).far (p := ⟨BX1, 1, none⟩) hne1 (.int .i64 m1)).far (p := ⟨BX1, 2, none⟩) hne1 (.int .i64 m2)).far (p := ⟨BX1, 3, none⟩) hne1 (.int .i64 m3)).far (p := ⟨BX1, 4, none⟩) hne1 (.int .i64 m4)).far (p := ⟨BX1, 5, none⟩) hne1 (.int .i64 m5)).far (p := ⟨BX1, 6, none⟩) hne1 (.int .i64 m6), hbw.out.trans (by repeat' (first | (with_reducible exact Below.refl _ _) | (with_reducible refine Below.alloc ?_ ?_ _) | (with_reducible refine Below.setCell ?_ ?_ _) | (with_reducible refine Below.drew ?_) | (with_reducible refine Below.trans ?_ (Below.mono (by with_reducible assumption) ?_)) | omega | (simp; done) | (simp; omega)))⟩ ?_
        clear HX y0 y1 y2 y3 y4 y5 y6 yf hs5 hEw5 hzN HR0 hbw hzx hBw
        rintro w6 ⟨hX, hR0, hbw6⟩
        have hs6 := hbw6.size
        have hzX := hX.lt
        have hz6 := hR0.lt
        cases t
        · replace hX := Lib.hid hX
          replace hR0 := Lib.hid hR0
          go_wp2_with fail
          go_roundw
          case rel => exact ⟨k + 1, by omega, by go_num, by rw [hS.out]; rfl, hbw6, by rw [hS.out]; exact hR0⟩
          case measure => simp [intOf]; omega
        · obtain ⟨x0, x1, x2, x3, x4, x5, x6⟩ := row7r hX
          have rf := hR0.frozen
          have R2 := Lib.hid ((((((((hR0).set (j := 0) (.int .i64 m0)).set (j := 1) (.int .i64 m1)).set (j := 2) (.int .i64 m2)).set (j := 3) (.int .i64 m3)).set (j := 4) (.int .i64 m4)).set (j := 5) (.int .i64 m5)).set (j := 6) (.int .i64 m6))
          obtain ⟨p0, p1, p2, p3, p4, p5, p6⟩ := row7r hR0
          clear hX hR0
          go_wp2_with fail
          go_roundw
          case rel => exact ⟨k + 1, by omega, by go_num, by rw [hS.out]; go_num, Lib.hid (hbw6.trans (show Below X3.heap.size w6 _ from (by repeat' (first | (with_reducible exact Below.refl _ _) | (with_reducible refine Below.alloc ?_ ?_ _) | (with_reducible refine Below.setCell ?_ ?_ _) | (with_reducible refine Below.drew ?_) | (with_reducible refine Below.trans ?_ (Below.mono (by with_reducible assumption) ?_)) | omega | (simp; done) | (simp; omega))))), by rw [hS.out]; exact R2.out.to (by repeat' (first | (with_reducible exact Below.refl _ _) | (with_reducible refine Below.alloc ?_ ?_ _) | (with_reducible refine Below.setCell ?_ ?_ _) | (with_reducible refine Below.drew ?_) | (with_reducible refine Below.trans ?_ (Below.mono (by with_reducible assumption) ?_)) | omega | (simp; done) | (simp; omega)))⟩
          case measure => simp [intOf]; omega
      · obtain rfl : k = xs.length := by omega
        have hI : ¬ ((xs.length : Nat) : Int) < xs.length := by omega
        rw [hE.out] at hr0
        simp only [hE.out]
        have hro := Row.to HO.out hbw.out
        obtain ⟨p0, p1, p2, p3, p4, p5, p6⟩ := row7r (show Row wr (X3.heap.size + 1) 29 [.int .i64 r0, .int .i64 r1, .int .i64 r2, .int .i64 r3, .int .i64 r4, .int .i64 r5, .int .i64 r6] from hr0.out)
        obtain ⟨e0, e1, e2, e3, e4, e5, e6⟩ := row7r hro
        have hzN := hr0.out.lt
        have hzE := hro.lt
        clear hr0 hro hnn
        have h_below : Below w.heap.size w wr := HB.out.trans (hbw.out.mono hsX)
        have s_below := h_below.size
        go_upto_region 31 with (fail)
        exact FnPools_p10 A n c w _ hn hB (h_below.trans (by repeat' (first | (with_reducible exact Below.refl _ _) | (with_reducible refine Below.alloc ?_ ?_ _) | (with_reducible refine Below.setCell ?_ ?_ _) | (with_reducible refine Below.drew ?_) | (with_reducible refine Below.trans ?_ (Below.mono (by with_reducible assumption) ?_)) | omega | (simp; done) | (simp; omega)))) _ (by assumption)
set_option maxRecDepth 100000 in
set_option maxHeartbeats 40000000 in
theorem FnPools_law (A : Option Addr) (n c : Nat) (w : World) (hB : Byt w w.heap.size A n) :
    Calls Try.prog 11 #[.slice A n c] w fun e w' => e = .returned (.bool true) ∧ Below w.heap.size w w' := by
  by_cases hn : n ≤ 65536
  · have hn' : ¬ 65536 < n := by omega
    go_enter Try.func11, Try.ntmps11
    go_wp2_with (first | (go_at_call 39; refine (vBig_any _ _ _ _).mono ?_; rintro e wX ⟨rfl, rfl⟩))
    refine Dr.cut_calls (fun X => (Below w.heap.size w X)) ((by repeat' (first | (with_reducible exact Below.refl _ _) | (with_reducible refine Below.alloc ?_ ?_ _) | (with_reducible refine Below.setCell ?_ ?_ _) | (with_reducible refine Below.drew ?_) | (with_reducible refine Below.trans ?_ (Below.mono (by with_reducible assumption) ?_)) | omega | (simp; done) | (simp; omega)))) ?_
    intro Y1 h_below
    refine (dStepPool_any _ _ _ _ hn (Dr.byt_more (hB.below h_below) h_below.size)).mono ?_
    rintro e X1 ⟨z1_0, z1_1, z1_2, z1_3, z1_4, z1_5, z1_6, z2_0, z2_1, z2_2, rfl, hzU, hb1⟩
    have h_below0 := h_below
    replace h_below := h_below.trans (hb1.mono h_below.size)
    clear hb1
    clear h_below0
    have s_below := h_below.size
    go_wp2_with fail
    refine Dr.cut_calls (fun X => (Below w.heap.size w X) ∧ (Row X (X1.heap.size) 29 [.int .i64 z1_0, .int .i64 z1_1, .int .i64 z1_2, .int .i64 z1_3, .int .i64 z1_4, .int .i64 z1_5, .int .i64 z1_6]) ∧ (Row X (X1.heap.size + 1) 51 [.int .i64 z2_0, .int .i64 z2_1, .int .i64 z2_2])) ⟨(by repeat' (first | (with_reducible exact Below.refl _ _) | (with_reducible refine Below.alloc ?_ ?_ _) | (with_reducible refine Below.setCell ?_ ?_ _) | (with_reducible refine Below.drew ?_) | (with_reducible refine Below.trans ?_ (Below.mono (by with_reducible assumption) ?_)) | omega | (simp; done) | (simp; omega))), (by first | exact Row.new _ _ _ | exact (Row.new _ _ _).to (by repeat' (first | (with_reducible exact Below.refl _ _) | (with_reducible refine Below.alloc ?_ ?_ _) | (with_reducible refine Below.setCell ?_ ?_ _) | (with_reducible refine Below.drew ?_) | (with_reducible refine Below.trans ?_ (Below.mono (by with_reducible assumption) ?_)) | omega | (simp; done) | (simp; omega))) | exact row_new_at _ _ _ _ (by simp) | exact (row_new_at _ _ _ _ (by simp)).to (by repeat' (first | (with_reducible exact Below.refl _ _) | (with_reducible refine Below.alloc ?_ ?_ _) | (with_reducible refine Below.setCell ?_ ?_ _) | (with_reducible refine Below.drew ?_) | (with_reducible refine Below.trans ?_ (Below.mono (by with_reducible assumption) ?_)) | omega | (simp; done) | (simp; omega)))), (by first | exact Row.new _ _ _ | exact (Row.new _ _ _).to (by repeat' (first | (with_reducible exact Below.refl _ _) | (with_reducible refine Below.alloc ?_ ?_ _) | (with_reducible refine Below.setCell ?_ ?_ _) | (with_reducible refine Below.drew ?_) | (with_reducible refine Below.trans ?_ (Below.mono (by with_reducible assumption) ?_)) | omega | (simp; done) | (simp; omega))) | exact row_new_at _ _ _ _ (by simp) | exact (row_new_at _ _ _ _ (by simp)).to (by repeat' (first | (with_reducible exact Below.refl _ _) | (with_reducible refine Below.alloc ?_ ?_ _) | (with_reducible refine Below.setCell ?_ ?_ _) | (with_reducible refine Below.drew ?_) | (with_reducible refine Below.trans ?_ (Below.mono (by with_reducible assumption) ?_)) | omega | (simp; done) | (simp; omega))))⟩ ?_
    clear h_below s_below
    obtain ⟨BX2, hBX2⟩ : ∃ B, X1.heap.size = B := ⟨_, rfl⟩
    simp only [hBX2]
    clear hBX2
    rintro Y2 ⟨h_below, h_p, h_s⟩
    have hv : z2_1 ≤ 9223372036854775807 := by omega
    obtain ⟨⟨q0, q1, q2, q3, q4, q5, q6⟩, hQ⟩ : ∃ Q, Pl.step ⟨z1_0, z1_1, z1_2, z1_3, z1_4, z1_5, z1_6⟩ z2_0 z2_1 z2_2 = Q := ⟨_, rfl⟩
    obtain ⟨t, hT⟩ : ∃ t, Pl.stepB ⟨z1_0, z1_1, z1_2, z1_3, z1_4, z1_5, z1_6⟩ z2_0 z2_1 z2_2 = t := ⟨_, rfl⟩
    have hQ := Lib.hid hQ
    have hT := Lib.hid hT
    refine (iStep_at hQ hT hv _).mono ?_
    rintro e X2 ⟨rfl, hb2⟩
    have h_below0 := h_below
    replace h_below := h_below.trans (hb2.mono h_below.size)
    replace h_p := Row.to h_p hb2
    replace h_s := Row.to h_s hb2
    clear hb2
    clear h_below0
    have s_below := h_below.size
    have l_p := Row.lt h_p
    have z_p := Row.frozen h_p
    obtain ⟨c_p0, c_p1, c_p2, c_p3, c_p4, c_p5, c_p6⟩ := row7c h_p
    have l_s := Row.lt h_s
    have z_s := Row.frozen h_s
    obtain ⟨c_s0, c_s1, c_s2⟩ := row3c h_s
    go_wp2_with fail
    refine Dr.cut_calls (fun X => (Below w.heap.size w X) ∧ (Row X (BX2) 29 [.int .i64 z1_0, .int .i64 z1_1, .int .i64 z1_2, .int .i64 z1_3, .int .i64 z1_4, .int .i64 z1_5, .int .i64 z1_6]) ∧ (Row X (BX2 + 1) 51 [.int .i64 z2_0, .int .i64 z2_1, .int .i64 z2_2]) ∧ (Row X (X2.heap.size) 29 [.int .i64 q0, .int .i64 q1, .int .i64 q2, .int .i64 q3, .int .i64 q4, .int .i64 q5, .int .i64 q6])) ⟨(by repeat' (first | (with_reducible exact Below.refl _ _) | (with_reducible refine Below.alloc ?_ ?_ _) | (with_reducible refine Below.setCell ?_ ?_ _) | (with_reducible refine Below.drew ?_) | (with_reducible refine Below.trans ?_ (Below.mono (by with_reducible assumption) ?_)) | omega | (simp; done) | (simp; omega))), (Row.to h_p (by repeat' (first | (with_reducible exact Below.refl _ _) | (with_reducible refine Below.alloc ?_ ?_ _) | (with_reducible refine Below.setCell ?_ ?_ _) | (with_reducible refine Below.drew ?_) | (with_reducible refine Below.trans ?_ (Below.mono (by with_reducible assumption) ?_)) | omega | (simp; done) | (simp; omega)))), (Row.to h_s (by repeat' (first | (with_reducible exact Below.refl _ _) | (with_reducible refine Below.alloc ?_ ?_ _) | (with_reducible refine Below.setCell ?_ ?_ _) | (with_reducible refine Below.drew ?_) | (with_reducible refine Below.trans ?_ (Below.mono (by with_reducible assumption) ?_)) | omega | (simp; done) | (simp; omega)))), (by first | exact Row.new _ _ _ | exact (Row.new _ _ _).to (by repeat' (first | (with_reducible exact Below.refl _ _) | (with_reducible refine Below.alloc ?_ ?_ _) | (with_reducible refine Below.setCell ?_ ?_ _) | (with_reducible refine Below.drew ?_) | (with_reducible refine Below.trans ?_ (Below.mono (by with_reducible assumption) ?_)) | omega | (simp; done) | (simp; omega))) | exact row_new_at _ _ _ _ (by simp) | exact (row_new_at _ _ _ _ (by simp)).to (by repeat' (first | (with_reducible exact Below.refl _ _) | (with_reducible refine Below.alloc ?_ ?_ _) | (with_reducible refine Below.setCell ?_ ?_ _) | (with_reducible refine Below.drew ?_) | (with_reducible refine Below.trans ?_ (Below.mono (by with_reducible assumption) ?_)) | omega | (simp; done) | (simp; omega))))⟩ ?_
    clear h_below s_below h_p l_p z_p c_p0 c_p1 c_p2 c_p3 c_p4 c_p5 c_p6 h_s l_s z_s c_s0 c_s1 c_s2
    obtain ⟨BX3, hBX3⟩ : ∃ B, X2.heap.size = B := ⟨_, rfl⟩
    simp only [hBX3]
    clear hBX3
    rintro Y3 ⟨h_below, h_p, h_s, h_o⟩
    refine (sStep_at hQ hT hv _).mono ?_
    rintro e X3 ⟨rfl, hb3⟩
    have h_below0 := h_below
    replace h_below := h_below.trans (hb3.mono h_below.size)
    replace h_p := Row.to h_p hb3
    replace h_s := Row.to h_s hb3
    replace h_o := Row.to h_o hb3
    clear hb3
    clear h_below0
    have s_below := h_below.size
    have l_p := Row.lt h_p
    have z_p := Row.frozen h_p
    obtain ⟨c_p0, c_p1, c_p2, c_p3, c_p4, c_p5, c_p6⟩ := row7c h_p
    have l_s := Row.lt h_s
    have z_s := Row.frozen h_s
    obtain ⟨c_s0, c_s1, c_s2⟩ := row3c h_s
    have l_o := Row.lt h_o
    have z_o := Row.frozen h_o
    obtain ⟨c_o0, c_o1, c_o2, c_o3, c_o4, c_o5, c_o6⟩ := row7c h_o
    cases t
    · obtain ⟨b, hb⟩ : ∃ b, poolOK z1_0 z1_1 z1_2 z1_3 z1_4 z1_5 z1_6 = b := ⟨_, rfl⟩
      go_wp2_with fail
      refine wp_region_quiet_below (by kernel_rfl) (by kernel_rfl) ?_
      repeat (go_big_quiet_step (first | (go_at_call 14; exact Calls.regrown_of (isPool_any _ _ _ _ _ _ _ _)) | (go_at_call 12; exact Calls.regrown_of (sIsPool_any _ _ _ _ _ _ _ _))))
      (refine wpQuiet_nil ?_; intro wq hwq; have hbq0 := of_cls hwq; clear hwq)
      have hbq : Below X3.heap.size X3 wq := ((Below.refl X3.heap.size X3).alloc (Nat.le_refl _) _).trans (hbq0.mono (by simp))
      clear hbq0
      have hsq := hbq.size
      go_upto_region 15 with (fail)
      exact FnPools_p6 A n c w _ hn hB (h_below.trans (by repeat' (first | (with_reducible exact Below.refl _ _) | (with_reducible refine Below.alloc ?_ ?_ _) | (with_reducible refine Below.setCell ?_ ?_ _) | (with_reducible refine Below.drew ?_) | (with_reducible refine Below.trans ?_ (Below.mono (by with_reducible assumption) ?_)) | omega | (simp; done) | (simp; omega))))  _ (by assumption)
    · obtain ⟨f1, f2, f3, f4⟩ := step_facts hQ.out hT.out
      replace f1 : poolOK z1_0 z1_1 z1_2 z1_3 z1_4 z1_5 z1_6 = true := f1
      have g2 : poolOK q0 q1 q2 q3 q4 q5 q6 = true := f2
      obtain ⟨s1, s2, s3, s4⟩ := stl_same f2 f3
      simp only at s1 s2 s3 s4 f4
      have g3 := poolOK_bd g2
      have g4 := (poolOK_st g2).2
      have g5 : satV q0 q1 q2 q3 q4 q5 q6 = q2 + q3 := by rw [satV, if_pos g2]
      have h1 := Lib.hid s1
      have h2 := Lib.hid s2
      have h3 := Lib.hid s3
      have h4 := Lib.hid s4
      have h5 := Lib.hid g5
      have h6 := Lib.hid g2
      have f4h := Lib.hid f4
      clear f2 f3 s1 s2 s3 s4 g5 f4
      have w1_ : wrap64 (q2 + q3 + q5) = q2 + q3 + q5 := by unfold wrap64; omega
      have w2_ : wrap64 (q2 + q3 + q5 + q6) = q4 := by unfold wrap64; omega
      clear g3 g4
      go_wp2_with fail
      refine wp_region_quiet_below (by kernel_rfl) (by kernel_rfl) ?_
      repeat (go_big_quiet_step (first | (go_at_call 14; exact Calls.regrown_of (isPool_any _ _ _ _ _ _ _ _)) | (go_at_call 12; exact Calls.regrown_of (sIsPool_any _ _ _ _ _ _ _ _))))
      (refine wpQuiet_nil ?_; intro wq hwq; have hbq0 := of_cls hwq; clear hwq)
      have hbq : Below X3.heap.size X3 wq := ((Below.refl X3.heap.size X3).alloc (Nat.le_refl _) _).trans (hbq0.mono (by simp))
      clear hbq0
      have hsq := hbq.size
      clear f1 g2 s_below l_p z_p c_p0 c_p1 c_p2 c_p3 c_p4 c_p5 c_p6 l_s z_s c_s0 c_s1 c_s2 l_o z_o c_o0 c_o1 c_o2 c_o3 c_o4 c_o5 c_o6
      replace h_below := h_below.trans (hbq.mono h_below.size)
      have s_below := h_below.size
      replace h_p := Row.to h_p hbq
      have l_p := Row.lt h_p
      have z_p := Row.frozen h_p
      obtain ⟨c_p0, c_p1, c_p2, c_p3, c_p4, c_p5, c_p6⟩ := row7c h_p
      replace h_s := Row.to h_s hbq
      have l_s := Row.lt h_s
      have z_s := Row.frozen h_s
      obtain ⟨c_s0, c_s1, c_s2⟩ := row3c h_s
      replace h_o := Row.to h_o hbq
      have l_o := Row.lt h_o
      have z_o := Row.frozen h_o
      obtain ⟨c_o0, c_o1, c_o2, c_o3, c_o4, c_o5, c_o6⟩ := row7c h_o
      clear hbq hsq
      by_cases hk : z2_0 = 1
      · go_wp2_with fail
        refine Dr.cut_calls (fun X => (Below w.heap.size w X) ∧ (Row X (BX2) 29 [.int .i64 z1_0, .int .i64 z1_1, .int .i64 z1_2, .int .i64 z1_3, .int .i64 z1_4, .int .i64 z1_5, .int .i64 z1_6]) ∧ (Row X (BX2 + 1) 51 [.int .i64 z2_0, .int .i64 z2_1, .int .i64 z2_2]) ∧ (Row X (BX3) 29 [.int .i64 q0, .int .i64 q1, .int .i64 q2, .int .i64 q3, .int .i64 q4, .int .i64 q5, .int .i64 q6])) ⟨(by repeat' (first | (with_reducible exact Below.refl _ _) | (with_reducible refine Below.alloc ?_ ?_ _) | (with_reducible refine Below.setCell ?_ ?_ _) | (with_reducible refine Below.drew ?_) | (with_reducible refine Below.trans ?_ (Below.mono (by with_reducible assumption) ?_)) | omega | (simp; done) | (simp; omega))), (Row.to h_p (by repeat' (first | (with_reducible exact Below.refl _ _) | (with_reducible refine Below.alloc ?_ ?_ _) | (with_reducible refine Below.setCell ?_ ?_ _) | (with_reducible refine Below.drew ?_) | (with_reducible refine Below.trans ?_ (Below.mono (by with_reducible assumption) ?_)) | omega | (simp; done) | (simp; omega)))), (Row.to h_s (by repeat' (first | (with_reducible exact Below.refl _ _) | (with_reducible refine Below.alloc ?_ ?_ _) | (with_reducible refine Below.setCell ?_ ?_ _) | (with_reducible refine Below.drew ?_) | (with_reducible refine Below.trans ?_ (Below.mono (by with_reducible assumption) ?_)) | omega | (simp; done) | (simp; omega)))), (Row.to h_o (by repeat' (first | (with_reducible exact Below.refl _ _) | (with_reducible refine Below.alloc ?_ ?_ _) | (with_reducible refine Below.setCell ?_ ?_ _) | (with_reducible refine Below.drew ?_) | (with_reducible refine Below.trans ?_ (Below.mono (by with_reducible assumption) ?_)) | omega | (simp; done) | (simp; omega))))⟩ ?_
        clear h_below s_below h_p l_p z_p c_p0 c_p1 c_p2 c_p3 c_p4 c_p5 c_p6 h_s l_s z_s c_s0 c_s1 c_s2 h_o l_o z_o c_o0 c_o1 c_o2 c_o3 c_o4 c_o5 c_o6
        rintro Y4 ⟨h_below, h_p, h_s, h_o⟩
        refine (iSalt_at h5 h6 _).mono ?_
        rintro e X4 ⟨rfl, hb4⟩
        have h_below0 := h_below
        replace h_below := h_below.trans (hb4.mono h_below.size)
        replace h_p := Row.to h_p hb4
        replace h_s := Row.to h_s hb4
        replace h_o := Row.to h_o hb4
        clear hb4
        clear h_below0
        have s_below := h_below.size
        have l_p := Row.lt h_p
        have z_p := Row.frozen h_p
        obtain ⟨c_p0, c_p1, c_p2, c_p3, c_p4, c_p5, c_p6⟩ := row7c h_p
        have l_s := Row.lt h_s
        have z_s := Row.frozen h_s
        obtain ⟨c_s0, c_s1, c_s2⟩ := row3c h_s
        have l_o := Row.lt h_o
        have z_o := Row.frozen h_o
        obtain ⟨c_o0, c_o1, c_o2, c_o3, c_o4, c_o5, c_o6⟩ := row7c h_o
        go_wp2_with fail
        refine Dr.cut_calls (fun X => (Below w.heap.size w X) ∧ (Row X (BX2) 29 [.int .i64 z1_0, .int .i64 z1_1, .int .i64 z1_2, .int .i64 z1_3, .int .i64 z1_4, .int .i64 z1_5, .int .i64 z1_6]) ∧ (Row X (BX2 + 1) 51 [.int .i64 z2_0, .int .i64 z2_1, .int .i64 z2_2]) ∧ (Row X (BX3) 29 [.int .i64 q0, .int .i64 q1, .int .i64 q2, .int .i64 q3, .int .i64 q4, .int .i64 q5, .int .i64 q6])) ⟨(by repeat' (first | (with_reducible exact Below.refl _ _) | (with_reducible refine Below.alloc ?_ ?_ _) | (with_reducible refine Below.setCell ?_ ?_ _) | (with_reducible refine Below.drew ?_) | (with_reducible refine Below.trans ?_ (Below.mono (by with_reducible assumption) ?_)) | omega | (simp; done) | (simp; omega))), (Row.to h_p (by repeat' (first | (with_reducible exact Below.refl _ _) | (with_reducible refine Below.alloc ?_ ?_ _) | (with_reducible refine Below.setCell ?_ ?_ _) | (with_reducible refine Below.drew ?_) | (with_reducible refine Below.trans ?_ (Below.mono (by with_reducible assumption) ?_)) | omega | (simp; done) | (simp; omega)))), (Row.to h_s (by repeat' (first | (with_reducible exact Below.refl _ _) | (with_reducible refine Below.alloc ?_ ?_ _) | (with_reducible refine Below.setCell ?_ ?_ _) | (with_reducible refine Below.drew ?_) | (with_reducible refine Below.trans ?_ (Below.mono (by with_reducible assumption) ?_)) | omega | (simp; done) | (simp; omega)))), (Row.to h_o (by repeat' (first | (with_reducible exact Below.refl _ _) | (with_reducible refine Below.alloc ?_ ?_ _) | (with_reducible refine Below.setCell ?_ ?_ _) | (with_reducible refine Below.drew ?_) | (with_reducible refine Below.trans ?_ (Below.mono (by with_reducible assumption) ?_)) | omega | (simp; done) | (simp; omega))))⟩ ?_
        clear h_below s_below h_p l_p z_p c_p0 c_p1 c_p2 c_p3 c_p4 c_p5 c_p6 h_s l_s z_s c_s0 c_s1 c_s2 h_o l_o z_o c_o0 c_o1 c_o2 c_o3 c_o4 c_o5 c_o6
        rintro Y5 ⟨h_below, h_p, h_s, h_o⟩
        refine (iStl_at h2 h3 h4 h1 _).mono ?_
        rintro e X5 ⟨rfl, hb5⟩
        have h_below0 := h_below
        replace h_below := h_below.trans (hb5.mono h_below.size)
        replace h_p := Row.to h_p hb5
        replace h_s := Row.to h_s hb5
        replace h_o := Row.to h_o hb5
        clear hb5
        clear h_below0
        have s_below := h_below.size
        have l_p := Row.lt h_p
        have z_p := Row.frozen h_p
        obtain ⟨c_p0, c_p1, c_p2, c_p3, c_p4, c_p5, c_p6⟩ := row7c h_p
        have l_s := Row.lt h_s
        have z_s := Row.frozen h_s
        obtain ⟨c_s0, c_s1, c_s2⟩ := row3c h_s
        have l_o := Row.lt h_o
        have z_o := Row.frozen h_o
        obtain ⟨c_o0, c_o1, c_o2, c_o3, c_o4, c_o5, c_o6⟩ := row7c h_o
        go_upto_region 15 with (fail)
        exact FnPools_p6 A n c w _ hn hB (h_below.trans (by repeat' (first | (with_reducible exact Below.refl _ _) | (with_reducible refine Below.alloc ?_ ?_ _) | (with_reducible refine Below.setCell ?_ ?_ _) | (with_reducible refine Below.drew ?_) | (with_reducible refine Below.trans ?_ (Below.mono (by with_reducible assumption) ?_)) | omega | (simp; done) | (simp; omega))))  _ (by assumption)
      · go_wp2_with fail
        refine Dr.cut_calls (fun X => (Below w.heap.size w X) ∧ (Row X (BX2) 29 [.int .i64 z1_0, .int .i64 z1_1, .int .i64 z1_2, .int .i64 z1_3, .int .i64 z1_4, .int .i64 z1_5, .int .i64 z1_6]) ∧ (Row X (BX2 + 1) 51 [.int .i64 z2_0, .int .i64 z2_1, .int .i64 z2_2]) ∧ (Row X (BX3) 29 [.int .i64 q0, .int .i64 q1, .int .i64 q2, .int .i64 q3, .int .i64 q4, .int .i64 q5, .int .i64 q6])) ⟨(by repeat' (first | (with_reducible exact Below.refl _ _) | (with_reducible refine Below.alloc ?_ ?_ _) | (with_reducible refine Below.setCell ?_ ?_ _) | (with_reducible refine Below.drew ?_) | (with_reducible refine Below.trans ?_ (Below.mono (by with_reducible assumption) ?_)) | omega | (simp; done) | (simp; omega))), (Row.to h_p (by repeat' (first | (with_reducible exact Below.refl _ _) | (with_reducible refine Below.alloc ?_ ?_ _) | (with_reducible refine Below.setCell ?_ ?_ _) | (with_reducible refine Below.drew ?_) | (with_reducible refine Below.trans ?_ (Below.mono (by with_reducible assumption) ?_)) | omega | (simp; done) | (simp; omega)))), (Row.to h_s (by repeat' (first | (with_reducible exact Below.refl _ _) | (with_reducible refine Below.alloc ?_ ?_ _) | (with_reducible refine Below.setCell ?_ ?_ _) | (with_reducible refine Below.drew ?_) | (with_reducible refine Below.trans ?_ (Below.mono (by with_reducible assumption) ?_)) | omega | (simp; done) | (simp; omega)))), (Row.to h_o (by repeat' (first | (with_reducible exact Below.refl _ _) | (with_reducible refine Below.alloc ?_ ?_ _) | (with_reducible refine Below.setCell ?_ ?_ _) | (with_reducible refine Below.drew ?_) | (with_reducible refine Below.trans ?_ (Below.mono (by with_reducible assumption) ?_)) | omega | (simp; done) | (simp; omega))))⟩ ?_
        clear h_below s_below h_p l_p z_p c_p0 c_p1 c_p2 c_p3 c_p4 c_p5 c_p6 h_s l_s z_s c_s0 c_s1 c_s2 h_o l_o z_o c_o0 c_o1 c_o2 c_o3 c_o4 c_o5 c_o6
        rintro Y4 ⟨h_below, h_p, h_s, h_o⟩
        refine (iSalt_at h5 h6 _).mono ?_
        rintro e X4 ⟨rfl, hb4⟩
        have h_below0 := h_below
        replace h_below := h_below.trans (hb4.mono h_below.size)
        replace h_p := Row.to h_p hb4
        replace h_s := Row.to h_s hb4
        replace h_o := Row.to h_o hb4
        clear hb4
        clear h_below0
        have s_below := h_below.size
        have f5 := f4h.out hk
        have l_p := Row.lt h_p
        have z_p := Row.frozen h_p
        obtain ⟨c_p0, c_p1, c_p2, c_p3, c_p4, c_p5, c_p6⟩ := row7c h_p
        have l_s := Row.lt h_s
        have z_s := Row.frozen h_s
        obtain ⟨c_s0, c_s1, c_s2⟩ := row3c h_s
        have l_o := Row.lt h_o
        have z_o := Row.frozen h_o
        obtain ⟨c_o0, c_o1, c_o2, c_o3, c_o4, c_o5, c_o6⟩ := row7c h_o
        go_wp2_with fail
        refine Dr.cut_calls (fun X => (Below w.heap.size w X) ∧ (Row X (BX2) 29 [.int .i64 z1_0, .int .i64 z1_1, .int .i64 z1_2, .int .i64 z1_3, .int .i64 z1_4, .int .i64 z1_5, .int .i64 z1_6]) ∧ (Row X (BX2 + 1) 51 [.int .i64 z2_0, .int .i64 z2_1, .int .i64 z2_2]) ∧ (Row X (BX3) 29 [.int .i64 q0, .int .i64 q1, .int .i64 q2, .int .i64 q3, .int .i64 q4, .int .i64 q5, .int .i64 q6])) ⟨(by repeat' (first | (with_reducible exact Below.refl _ _) | (with_reducible refine Below.alloc ?_ ?_ _) | (with_reducible refine Below.setCell ?_ ?_ _) | (with_reducible refine Below.drew ?_) | (with_reducible refine Below.trans ?_ (Below.mono (by with_reducible assumption) ?_)) | omega | (simp; done) | (simp; omega))), (Row.to h_p (by repeat' (first | (with_reducible exact Below.refl _ _) | (with_reducible refine Below.alloc ?_ ?_ _) | (with_reducible refine Below.setCell ?_ ?_ _) | (with_reducible refine Below.drew ?_) | (with_reducible refine Below.trans ?_ (Below.mono (by with_reducible assumption) ?_)) | omega | (simp; done) | (simp; omega)))), (Row.to h_s (by repeat' (first | (with_reducible exact Below.refl _ _) | (with_reducible refine Below.alloc ?_ ?_ _) | (with_reducible refine Below.setCell ?_ ?_ _) | (with_reducible refine Below.drew ?_) | (with_reducible refine Below.trans ?_ (Below.mono (by with_reducible assumption) ?_)) | omega | (simp; done) | (simp; omega)))), (Row.to h_o (by repeat' (first | (with_reducible exact Below.refl _ _) | (with_reducible refine Below.alloc ?_ ?_ _) | (with_reducible refine Below.setCell ?_ ?_ _) | (with_reducible refine Below.drew ?_) | (with_reducible refine Below.trans ?_ (Below.mono (by with_reducible assumption) ?_)) | omega | (simp; done) | (simp; omega))))⟩ ?_
        clear h_below s_below h_p l_p z_p c_p0 c_p1 c_p2 c_p3 c_p4 c_p5 c_p6 h_s l_s z_s c_s0 c_s1 c_s2 h_o l_o z_o c_o0 c_o1 c_o2 c_o3 c_o4 c_o5 c_o6
        rintro Y5 ⟨h_below, h_p, h_s, h_o⟩
        refine (iStl_at h2 h3 h4 h1 _).mono ?_
        rintro e X5 ⟨rfl, hb5⟩
        have h_below0 := h_below
        replace h_below := h_below.trans (hb5.mono h_below.size)
        replace h_p := Row.to h_p hb5
        replace h_s := Row.to h_s hb5
        replace h_o := Row.to h_o hb5
        clear hb5
        clear h_below0
        have s_below := h_below.size
        have l_p := Row.lt h_p
        have z_p := Row.frozen h_p
        obtain ⟨c_p0, c_p1, c_p2, c_p3, c_p4, c_p5, c_p6⟩ := row7c h_p
        have l_s := Row.lt h_s
        have z_s := Row.frozen h_s
        obtain ⟨c_s0, c_s1, c_s2⟩ := row3c h_s
        have l_o := Row.lt h_o
        have z_o := Row.frozen h_o
        obtain ⟨c_o0, c_o1, c_o2, c_o3, c_o4, c_o5, c_o6⟩ := row7c h_o
        go_upto_region 15 with (fail)
        exact FnPools_p6 A n c w _ hn hB (h_below.trans (by repeat' (first | (with_reducible exact Below.refl _ _) | (with_reducible refine Below.alloc ?_ ?_ _) | (with_reducible refine Below.setCell ?_ ?_ _) | (with_reducible refine Below.drew ?_) | (with_reducible refine Below.trans ?_ (Below.mono (by with_reducible assumption) ?_)) | omega | (simp; done) | (simp; omega))))  _ (by assumption)
  · have hn' : 65536 < n := by omega
    go_enter Try.func11, Try.ntmps11
    go_wp2_with (first | (go_at_call 39; refine (vBig_any _ _ _ _).mono ?_; rintro e wX ⟨rfl, rfl⟩))
    go_ret
    exact ⟨rfl, (by repeat' (first | (with_reducible exact Below.refl _ _) | (with_reducible refine Below.alloc ?_ ?_ _) | (with_reducible refine Below.setCell ?_ ?_ _) | (with_reducible refine Below.drew ?_) | (with_reducible refine Below.trans ?_ (Below.mono (by with_reducible assumption) ?_)) | omega | (simp; done) | (simp; omega)))⟩
end Go.Proofs.Ytmfahekkcgnndaa
