/- The law FnBrines: texts read back, parts and shares mixed to the whole. -/
import Derived.Test.YtocaodoagiokjaaDoorBrnDraw
import Derived.Test.YtocaodoagiokjaaDoorBrnSpec
import Derived.Test.YtocaodoagiokjaaDoorBrnDiv
import Derived.Test.YtocaodoagiokjaaDoorLawKit
set_option linter.unusedSimpArgs false
set_option linter.unusedVariables false
namespace Go.Proofs.YtocaodoagiokjaaDoor
open Go.RowKit Go.Sort Go.Salt
attribute [local go_sem] cell_rg
theorem row_new_at (W : World) (E : TypeId) (arr : Array Value) (g : Nat) (h : W.heap.size = g) : Row (W.alloc (.cells arr E)) g E arr.toList := by subst h; exact Row.new W E arr
theorem tab_row {l : List (String × DataW Unit)} {W : World} (hL : laidMetH Tryd.prog l W) (hp : (l.all fun x => x.2.handleName?.isNone) = true) (hm : ("internal/strconv.uint64pow10", Lib.tabData .u64 Lib.pow10Tab) ∈ l) : Hid (Tab W) :=
  Lib.hid (Tab.of (tab_mem (g := 1) (t := 95) (e := 51) (n := 20) (by kernel_rfl) (by kernel_rfl) (by kernel_rfl) (by kernel_rfl) (by kernel_rfl) (by kernel_rfl) (MakeChecks.laidMetH_plain _ _ _ hp ▸ hL) hm))
theorem brt_empty : ¬ BrT ⟨#[]⟩ := by
  rintro ⟨a, s, _, e⟩
  have h := congrArg (fun b : ByteArray => b.data.toList) e
  rw [brS_list] at h
  simp at h
theorem tk_parts {a s m : Int} (h : tkB a s m = true) : (0 ≤ a ∧ a ≤ 1000000) ∧ (0 ≤ s ∧ s ≤ 1000000) ∧ (0 ≤ m ∧ m ≤ a + s) := by
  simp only [tkB, Bool.and_eq_true, inB_iff] at h
  exact ⟨h.1.1, h.1.2, h.2⟩
theorem sp_parts {a s n : Int} (h : spB a s n = true) : (0 ≤ a ∧ a ≤ 1000000) ∧ (0 ≤ s ∧ s ≤ 1000000) ∧ (1 ≤ n ∧ n ≤ 20) := by
  simp only [spB, Bool.and_eq_true, inB_iff] at h
  exact ⟨h.1.1, h.1.2, h.2⟩
open Go.Dr in
theorem dBrineText_any (A : Option Addr) (n c : Nat) (w : World) (hn : n ≤ 65536) (hB : Byt w w.heap.size A n) :
    Calls Tryd.prog 5 #[.slice A n c] w fun e w' => ∃ (z1_0 : Int) (z1_1 : Int), e = .returned (.agg #[.int .i64 z1_0, .int .i64 z1_1]) ∧ Below w.heap.size w w' := by
  refine (Dr.draw_calls dBrineText_con rfl rfl (by decide) A n c w hn hB).mono ?_
  rintro e w' ⟨v, rfl, hv, hb⟩
  have a1 := Dr.one_of hv
  obtain ⟨g1, rfl, hg1⟩ := agg_of (k := 2) a1
  exact ⟨g1 0, g1 1, rfl, hb⟩
open Go.Dr in
theorem dTakePart_any (A : Option Addr) (n c : Nat) (w : World) (hn : n ≤ 65536) (hB : Byt w w.heap.size A n) :
    Calls Tryd.prog 12 #[.slice A n c] w fun e w' => ∃ (z1_0 : Int) (z1_1 : Int) (z2 : Int), e = .returned (.tuple #[.agg #[.int .i64 z1_0, .int .i64 z1_1], .int .i64 z2]) ∧ Below w.heap.size w w' := by
  refine (Dr.draw_calls dTakePart_con rfl rfl (by decide) A n c w hn hB).mono ?_
  rintro e w' ⟨v, rfl, hv, hb⟩
  obtain ⟨u1, u2, rfl, a1, a2⟩ := tup2 hv
  obtain ⟨g1, rfl, hg1⟩ := agg_of (k := 2) a1
  obtain ⟨z2, rfl, hz2a, hz2b⟩ := int_of a2
  exact ⟨g1 0, g1 1, z2, rfl, hb⟩
open Go.Dr in
theorem dSplitBrine_any (A : Option Addr) (n c : Nat) (w : World) (hn : n ≤ 65536) (hB : Byt w w.heap.size A n) :
    Calls Tryd.prog 16 #[.slice A n c] w fun e w' => ∃ (z1_0 : Int) (z1_1 : Int) (z2 : Int), e = .returned (.tuple #[.agg #[.int .i64 z1_0, .int .i64 z1_1], .int .i64 z2]) ∧ Below w.heap.size w w' := by
  refine (Dr.draw_calls dSplitBrine_con rfl rfl (by decide) A n c w hn hB).mono ?_
  rintro e w' ⟨v, rfl, hv, hb⟩
  obtain ⟨u1, u2, rfl, a1, a2⟩ := tup2 hv
  obtain ⟨g1, rfl, hg1⟩ := agg_of (k := 2) a1
  obtain ⟨z2, rfl, hz2a, hz2b⟩ := int_of a2
  exact ⟨g1 0, g1 1, z2, rfl, hb⟩
open Go.Dr in
theorem dMixBrines_any (A : Option Addr) (n c : Nat) (w : World) (hn : n ≤ 65536) (hB : Byt w w.heap.size A n) :
    Calls Tryd.prog 20 #[.slice A n c] w fun e w' => ∃ (A1 : Option Addr) (xs1 : List Brn) (c1 : Nat), e = .returned (.slice A1 xs1.length c1) ∧ xs1.length ≤ 60 ∧ Rd w' w'.heap.size A1 2 Brn.enc xs1 ∧ Below w.heap.size w w' := by
  refine (Dr.draw_calls dMixBrines_con rfl rfl (by decide) A n c w hn hB).mono ?_
  rintro e w' ⟨v, rfl, hv, hb⟩
  have a1 := Dr.one_of hv
  obtain ⟨A1, xs1, c1, rfl, _, hl1, hr1, _, hx1⟩ := rows_of (k := 2) (tb := brnTab) (T := 25) brnTab_brine rfl (by omega) Brn.enc (fun g => ⟨g 0, g 1⟩) (fun _ => rfl) a1
  exact ⟨A1, xs1, c1, rfl, hl1, hr1, hb⟩
theorem iMix_parts (B c : Nat) (a s m q : Int) (w : World) (h : Row w B 25 [.int .i64 (m - q), .int .i64 q, .int .i64 (a - (m - q)), .int .i64 (s - q)]) (hq : pS a s m = q) (hB : tkB a s m = true) :
    Calls Tryd.prog 15 #[.slice (some ⟨B, 0, none⟩) 2 c] w fun e w' => e = .returned (.tuple #[.agg #[.int .i64 a, .int .i64 s], .bool true]) ∧ Below w.heap.size w w' := by
  obtain ⟨⟨ha0, ha1⟩, ⟨hs0, hs1⟩, hm0, hm1⟩ := tk_parts hB
  obtain ⟨e1, e2, e3⟩ := mix_parts ha0 ha1 hs0 hs1 hm0 hm1
  rw [hq] at e1 e2 e3
  have h1 := iMix_any (some ⟨B, 0, none⟩) c [⟨m - q, q⟩, ⟨a - (m - q), s - q⟩] w (Row.rd (xs := [⟨m - q, q⟩, ⟨a - (m - q), s - q⟩]) (enc := Brn.enc) h Brn.enc_len h.lt) (by simp)
  rw [e1, e2, e3] at h1
  exact h1
theorem iMix_split (A : Option Addr) (c p base : Nat) (a s : Int) (w : World) (h : OwnAt w base 25 ((shL a s p).flatMap Brn.enc) p A) (hB : spB a s p = true) :
    Calls Tryd.prog 15 #[.slice A p c] w fun e w' => e = .returned (.tuple #[.agg #[.int .i64 a, .int .i64 s], .bool true]) ∧ Below w.heap.size w w' := by
  obtain ⟨⟨ha0, ha1⟩, ⟨hs0, hs1⟩, hp1, hp2⟩ := sp_parts hB
  obtain ⟨e1, e2, e3⟩ := mix_split ha0 ha1 hs0 hs1 (show 0 < p by omega) (show p ≤ 20 by omega)
  have hl := shL_len a s p
  have h1 := iMix_any A c (shL a s p) w (OwnAt.rd (base := base) (E := 25) (by rw [hl]; exact h) Brn.enc_len) (by omega)
  rw [e1, e2, e3, hl] at h1
  exact h1
theorem vBrines_split (A A' : Option Addr) (c c' p base base' : Nat) (a s : Int) (w : World) (h : OwnAt w base 25 ((shL a s p).flatMap Brn.enc) p A) (h' : OwnAt w base' 25 ((shL a s p).flatMap Brn.enc) p A') (hp : p ≤ 1048576) :
    Calls Tryd.prog 19 #[.slice A p c, .slice A' p c'] w fun e w' => e = .returned (.bool true) ∧ Below w.heap.size w w' := by
  have hl := shL_len a s p
  have h1 := vBrines_same A A' c c' (shL a s p) w (OwnAt.rd (base := base) (E := 25) (by rw [hl]; exact h) Brn.enc_len) (OwnAt.rd (base := base') (E := 25) (by rw [hl]; exact h') Brn.enc_len) (by omega)
  rw [hl] at h1
  exact h1
theorem vBrines_nil (A A' : Option Addr) (c c' : Nat) (w : World) :
    Calls Tryd.prog 19 #[.slice A 0 c, .slice A' 0 c'] w fun e w' => e = .returned (.bool true) ∧ Below w.heap.size w w' :=
  vBrines_same A A' c c' [] w Rd.nil Rd.nil (by simp)
set_option maxRecDepth 100000 in
set_option maxHeartbeats 40000000 in
theorem FnBrines_p18 {u1 u2 u3 u4 u5 u6 u7 u8 u9 u10 u11 u12 u13 u14 u15 u16 u17 u18 u19 u20 u21 u22 u23 u24 u25 u26 u27 u28 u29 u30 u31 u32 u33 u34 u35 u36 u37 u38 u39 u40 u41 u42 u43 u44 u45 u46 u47 u48 u49 u50 u51 u52 u53 u54 u55 u56 u57 u58 u59 u60 u61 u62 u63 u64 u65 u66 u67 u68 u69 u70 u71 u72 u73 u74 u75 u76 u77 u78 u79 u80 u81 u82 u83 u84 u85 u86 u87 u88 u89 u90 u91 u92 u93 u94 u95 u96 u97 u98 u99 u100 u101 u102 u103 u104 u105 u106 u107 u108 u109 u110 u111 u112 u113 u114 u115 u116 u117 u118 u119 u120 u121 u122 u123 u124 u125 u126 u127 u128 u129 u130 u131 u132 u133 u134 u135 u136 u137 u138 u139 u140 u141 u142 u143 u144 u145 u146 u147 u148 u149 u150 u151 u152 u153 u154 u155 u156 u157 u158 u159 u160 u161 u162 u163 u164 u165 u166 u167 u168 u169 u170 u171 u172 u173 u174 u175 u176 u177 u178 u179 u180 u181 u182 u183 u184 u185 u186 u187 u188 u189 u190 u191 u192 u193 u194 u195 u196 u197 u198 u199 u200 u201 u202 u203 u204 u205 u206 u207 u208 u209 u210 u211 u212 u213 u214 u215 u216 u217 u218 u219 u220 u221 u222 u223 u224 u225 u226 u227 u228 u229 u230 u231 u232 u233 u234 u235 u236 u237 u238 u239 u240 u241 u242 : Value} (A : Option Addr) (n c : Nat) (w wc : World) (hn : n ≤ 65536) (hB : Byt w w.heap.size A n) (h_below : Below w.heap.size w wc) (ht : Hid (Tab w)) (hm : Hid (MxL w)) (K : Act → World → Prop) (hK : ∀ a w1, (tailOf 19 (Tryd.f3.body.getD .skip)).wp Tryd.prog (bodyPost Tryd.prog Tryd.f3 fun e w' => e = .returned (.bool true) ∧ Below w.heap.size w w') a w1 → K a w1) :
    (headOf (tailOf 18 (Tryd.f3.body.getD .skip))).wp Tryd.prog (Exit.then K (bodyPost Tryd.prog Tryd.f3 fun e w' => e = .returned (.bool true) ∧ Below w.heap.size w w')) ⟨#[.slice A n c, u1, u2, u3, u4, u5, u6, u7, u8, u9, u10, u11, u12, u13, u14, u15, u16, u17, u18, u19, u20, u21, u22, u23, u24, u25, u26, u27, u28, u29, u30, u31, u32, u33, u34, u35, u36, u37, u38, u39, u40, u41, u42, u43, u44, u45, u46, u47, u48, u49, u50, u51, u52, u53, u54, u55, u56, u57, u58, u59, u60, u61, u62, u63, u64, u65, u66, u67, u68, u69, u70, u71, u72, u73, u74, u75, u76, u77, u78, u79, u80, u81, u82, u83, u84, u85, u86, u87, u88, u89, u90, u91, u92, u93, u94, u95, u96, u97, u98, u99, u100, u101, u102, u103, u104, u105, u106, u107, u108, u109, u110, u111, u112, u113, u114, u115, u116, u117, u118, u119, u120, u121, u122, u123, u124, u125, u126, u127, u128, u129, u130, u131, u132, u133, u134, u135, u136, u137, u138, u139, u140, u141, u142, u143, u144, u145, u146, u147, u148, u149, u150, u151, u152, u153, u154, u155, u156, u157, u158, u159, u160, u161, u162, u163, u164, u165, u166, u167, u168, u169, u170, u171, u172, u173, u174, u175, u176, u177, u178, u179, u180, u181, u182, u183, u184, u185, u186, u187, u188, u189, u190, u191, u192, u193, u194, u195, u196, u197, u198, u199, u200, u201, u202, u203, u204, u205, u206, u207, u208, u209, u210, u211, u212, u213, u214, u215, u216, u217, u218, u219, u220, u221, u222, u223, u224, u225, u226, u227, u228, u229, u230, u231, u232, u233, u234, u235, u236, u237, u238, u239, u240, u241, u242], []⟩ wc := by
  have s_below := h_below.size
  simp only [tailOf, headOf, Option.getD, Tryd.f3] at hK ⊢
  go_wp2_with fail
  refine Dr.cut_calls (fun X => (Below w.heap.size w X)) ((by repeat' (first | (with_reducible exact Below.refl _ _) | (with_reducible refine Below.alloc ?_ ?_ _) | (with_reducible refine Below.setCell ?_ ?_ _) | (with_reducible refine Below.drew ?_) | (with_reducible refine Below.trans ?_ (Below.mono (by with_reducible assumption) ?_)) | omega | (simp; done) | (simp; omega)))) ?_
  clear h_below s_below
  intro Y1 h_below
  refine (dMixBrines_any _ _ _ _ hn (Dr.byt_more (hB.below h_below) h_below.size)).mono ?_
  rintro e X1 ⟨A5, xs5, c5, rfl, hl5, hr5, hb1⟩
  have h_below0 := h_below
  replace h_below := h_below.trans (hb1.mono h_below.size)
  clear hb1
  have h_xu := hr5
  clear h_below0
  have s_below := h_below.size
  go_wp2_with fail
  refine Dr.cut_calls (fun X => (Below w.heap.size w X) ∧ (Rd X X.heap.size A5 2 Brn.enc xs5)) ⟨(by repeat' (first | (with_reducible exact Below.refl _ _) | (with_reducible refine Below.alloc ?_ ?_ _) | (with_reducible refine Below.setCell ?_ ?_ _) | (with_reducible refine Below.drew ?_) | (with_reducible refine Below.trans ?_ (Below.mono (by with_reducible assumption) ?_)) | omega | (simp; done) | (simp; omega))), (h_xu.to (by repeat' (first | (with_reducible exact Below.refl _ _) | (with_reducible refine Below.alloc ?_ ?_ _) | (with_reducible refine Below.setCell ?_ ?_ _) | (with_reducible refine Below.drew ?_) | (with_reducible refine Below.trans ?_ (Below.mono (by with_reducible assumption) ?_)) | omega | (simp; done) | (simp; omega))))⟩ ?_
  clear h_below s_below h_xu
  rintro Y2 ⟨h_below, h_xu⟩
  refine (iMix_any _ _ xs5 _ h_xu (by omega)).mono ?_
  rintro e X2 ⟨rfl, hb2⟩
  have h_below0 := h_below
  replace h_below := h_below.trans (hb2.mono h_below.size)
  replace h_xu := h_xu.to hb2
  clear hb2
  clear h_below0
  have s_below := h_below.size
  go_wp2_with fail
  refine Dr.cut_calls (fun X => (Below w.heap.size w X) ∧ (Rd X X.heap.size A5 2 Brn.enc xs5) ∧ (Row X (X2.heap.size) 25 [.int .i64 (mixA xs5), .int .i64 (mixS xs5)])) ⟨(by repeat' (first | (with_reducible exact Below.refl _ _) | (with_reducible refine Below.alloc ?_ ?_ _) | (with_reducible refine Below.setCell ?_ ?_ _) | (with_reducible refine Below.drew ?_) | (with_reducible refine Below.trans ?_ (Below.mono (by with_reducible assumption) ?_)) | omega | (simp; done) | (simp; omega))), (h_xu.to (by repeat' (first | (with_reducible exact Below.refl _ _) | (with_reducible refine Below.alloc ?_ ?_ _) | (with_reducible refine Below.setCell ?_ ?_ _) | (with_reducible refine Below.drew ?_) | (with_reducible refine Below.trans ?_ (Below.mono (by with_reducible assumption) ?_)) | omega | (simp; done) | (simp; omega)))), (by first | exact Row.new _ _ _ | exact (Row.new _ _ _).to (by repeat' (first | (with_reducible exact Below.refl _ _) | (with_reducible refine Below.alloc ?_ ?_ _) | (with_reducible refine Below.setCell ?_ ?_ _) | (with_reducible refine Below.drew ?_) | (with_reducible refine Below.trans ?_ (Below.mono (by with_reducible assumption) ?_)) | omega | (simp; done) | (simp; omega))) | exact row_new_at _ _ _ _ (by simp) | exact (row_new_at _ _ _ _ (by simp)).to (by repeat' (first | (with_reducible exact Below.refl _ _) | (with_reducible refine Below.alloc ?_ ?_ _) | (with_reducible refine Below.setCell ?_ ?_ _) | (with_reducible refine Below.drew ?_) | (with_reducible refine Below.trans ?_ (Below.mono (by with_reducible assumption) ?_)) | omega | (simp; done) | (simp; omega))))⟩ ?_
  clear h_below s_below h_xu
  obtain ⟨BX3, hBX3⟩ : ∃ B, X2.heap.size = B := ⟨_, rfl⟩
  simp only [hBX3]
  clear hBX3
  rintro Y3 ⟨h_below, h_xu, h_ra⟩
  refine (sMix_any _ _ xs5 _ h_xu (by omega)).mono ?_
  rintro e X3 ⟨rfl, hb3⟩
  have h_below0 := h_below
  replace h_below := h_below.trans (hb3.mono h_below.size)
  replace h_xu := h_xu.to hb3
  replace h_ra := Row.to h_ra hb3
  clear hb3
  clear h_below0
  have s_below := h_below.size
  have l_ra := Row.lt h_ra
  have z_ra := Row.frozen h_ra
  obtain ⟨c_ra0, c_ra1⟩ := row2c h_ra
  go_wp2_with fail
  go_ret
  exact ⟨rfl, h_below.trans (by repeat' (first | (with_reducible exact Below.refl _ _) | (with_reducible refine Below.alloc ?_ ?_ _) | (with_reducible refine Below.setCell ?_ ?_ _) | (with_reducible refine Below.drew ?_) | (with_reducible refine Below.trans ?_ (Below.mono (by with_reducible assumption) ?_)) | omega | (simp; done) | (simp; omega)))⟩
set_option maxRecDepth 100000 in
set_option maxHeartbeats 40000000 in
theorem FnBrines_p14 {u1 u2 u3 u4 u5 u6 u7 u8 u9 u10 u11 u12 u13 u14 u15 u16 u17 u18 u19 u20 u21 u22 u23 u24 u25 u26 u27 u28 u29 u30 u31 u32 u33 u34 u35 u36 u37 u38 u39 u40 u41 u42 u43 u44 u45 u46 u47 u48 u49 u50 u51 u52 u53 u54 u55 u56 u57 u58 u59 u60 u61 u62 u63 u64 u65 u66 u67 u68 u69 u70 u71 u72 u73 u74 u75 u76 u77 u78 u79 u80 u81 u82 u83 u84 u85 u86 u87 u88 u89 u90 u91 u92 u93 u94 u95 u96 u97 u98 u99 u100 u101 u102 u103 u104 u105 u106 u107 u108 u109 u110 u111 u112 u113 u114 u115 u116 u117 u118 u119 u120 u121 u122 u123 u124 u125 u126 u127 u128 u129 u130 u131 u132 u133 u134 u135 u136 u137 u138 u139 u140 u141 u142 u143 u144 u145 u146 u147 u148 u149 u150 u151 u152 u153 u154 u155 u156 u157 u158 u159 u160 u161 u162 u163 u164 u165 u166 u167 u168 u169 u170 u171 u172 u173 u174 u175 u176 u177 u178 u179 u180 u181 u182 u183 u184 u185 u186 u187 u188 u189 u190 u191 u192 u193 u194 u195 u196 u197 u198 u199 u200 u201 u202 u203 u204 u205 u206 u207 u208 u209 u210 u211 u212 u213 u214 u215 u216 u217 u218 u219 u220 u221 u222 u223 u224 u225 u226 u227 u228 u229 u230 u231 u232 u233 u234 u235 u236 u237 u238 u239 u240 u241 u242 : Value} (A : Option Addr) (n c : Nat) (w wc : World) (hn : n ≤ 65536) (hB : Byt w w.heap.size A n) (h_below : Below w.heap.size w wc) (ht : Hid (Tab w)) (hm : Hid (MxL w)) (K : Act → World → Prop) (hK : ∀ a w1, (tailOf 15 (Tryd.f3.body.getD .skip)).wp Tryd.prog (bodyPost Tryd.prog Tryd.f3 fun e w' => e = .returned (.bool true) ∧ Below w.heap.size w w') a w1 → K a w1) :
    (headOf (tailOf 14 (Tryd.f3.body.getD .skip))).wp Tryd.prog (Exit.then K (bodyPost Tryd.prog Tryd.f3 fun e w' => e = .returned (.bool true) ∧ Below w.heap.size w w')) ⟨#[.slice A n c, u1, u2, u3, u4, u5, u6, u7, u8, u9, u10, u11, u12, u13, u14, u15, u16, u17, u18, u19, u20, u21, u22, u23, u24, u25, u26, u27, u28, u29, u30, u31, u32, u33, u34, u35, u36, u37, u38, u39, u40, u41, u42, u43, u44, u45, u46, u47, u48, u49, u50, u51, u52, u53, u54, u55, u56, u57, u58, u59, u60, u61, u62, u63, u64, u65, u66, u67, u68, u69, u70, u71, u72, u73, u74, u75, u76, u77, u78, u79, u80, u81, u82, u83, u84, u85, u86, u87, u88, u89, u90, u91, u92, u93, u94, u95, u96, u97, u98, u99, u100, u101, u102, u103, u104, u105, u106, u107, u108, u109, u110, u111, u112, u113, u114, u115, u116, u117, u118, u119, u120, u121, u122, u123, u124, u125, u126, u127, u128, u129, u130, u131, u132, u133, u134, u135, u136, u137, u138, u139, u140, u141, u142, u143, u144, u145, u146, u147, u148, u149, u150, u151, u152, u153, u154, u155, u156, u157, u158, u159, u160, u161, u162, u163, u164, u165, u166, u167, u168, u169, u170, u171, u172, u173, u174, u175, u176, u177, u178, u179, u180, u181, u182, u183, u184, u185, u186, u187, u188, u189, u190, u191, u192, u193, u194, u195, u196, u197, u198, u199, u200, u201, u202, u203, u204, u205, u206, u207, u208, u209, u210, u211, u212, u213, u214, u215, u216, u217, u218, u219, u220, u221, u222, u223, u224, u225, u226, u227, u228, u229, u230, u231, u232, u233, u234, u235, u236, u237, u238, u239, u240, u241, u242], []⟩ wc := by
  have s_below := h_below.size
  simp only [tailOf, headOf, Option.getD, Tryd.f3] at hK ⊢
  go_wp2_with fail
  refine Dr.cut_calls (fun X => (Below w.heap.size w X)) ((by repeat' (first | (with_reducible exact Below.refl _ _) | (with_reducible refine Below.alloc ?_ ?_ _) | (with_reducible refine Below.setCell ?_ ?_ _) | (with_reducible refine Below.drew ?_) | (with_reducible refine Below.trans ?_ (Below.mono (by with_reducible assumption) ?_)) | omega | (simp; done) | (simp; omega)))) ?_
  clear h_below s_below
  intro Y1 h_below
  refine (dSplitBrine_any _ _ _ _ hn (Dr.byt_more (hB.below h_below) h_below.size)).mono ?_
  rintro e X1 ⟨aS, sS, nS, rfl, hb1⟩
  have h_below0 := h_below
  replace h_below := h_below.trans (hb1.mono h_below.size)
  clear hb1
  clear h_below0
  have s_below := h_below.size
  go_wp2_with fail
  cases hK : spB aS sS nS
  · refine Dr.cut_calls (fun X => (Below w.heap.size w X) ∧ (Row X (X1.heap.size) 25 [.int .i64 aS, .int .i64 sS])) ⟨(by repeat' (first | (with_reducible exact Below.refl _ _) | (with_reducible refine Below.alloc ?_ ?_ _) | (with_reducible refine Below.setCell ?_ ?_ _) | (with_reducible refine Below.drew ?_) | (with_reducible refine Below.trans ?_ (Below.mono (by with_reducible assumption) ?_)) | omega | (simp; done) | (simp; omega))), (by first | exact Row.new _ _ _ | exact (Row.new _ _ _).to (by repeat' (first | (with_reducible exact Below.refl _ _) | (with_reducible refine Below.alloc ?_ ?_ _) | (with_reducible refine Below.setCell ?_ ?_ _) | (with_reducible refine Below.drew ?_) | (with_reducible refine Below.trans ?_ (Below.mono (by with_reducible assumption) ?_)) | omega | (simp; done) | (simp; omega))) | exact row_new_at _ _ _ _ (by simp) | exact (row_new_at _ _ _ _ (by simp)).to (by repeat' (first | (with_reducible exact Below.refl _ _) | (with_reducible refine Below.alloc ?_ ?_ _) | (with_reducible refine Below.setCell ?_ ?_ _) | (with_reducible refine Below.drew ?_) | (with_reducible refine Below.trans ?_ (Below.mono (by with_reducible assumption) ?_)) | omega | (simp; done) | (simp; omega))))⟩ ?_
    clear h_below s_below
    obtain ⟨BX2, hBX2⟩ : ∃ B, X1.heap.size = B := ⟨_, rfl⟩
    simp only [hBX2]
    clear hBX2
    rintro Y2 ⟨h_below, h_z⟩
    refine (iSplit_no aS sS nS _ hK).mono ?_
    rintro e X2 ⟨A1, c1, rfl, ho1, hb2⟩
    have h_below0 := h_below
    replace h_below := h_below.trans (hb2.mono h_below.size)
    replace h_z := Row.to h_z hb2
    clear hb2
    clear h_below0
    have s_below := h_below.size
    have l_z := Row.lt h_z
    have z_z := Row.frozen h_z
    obtain ⟨c_z0, c_z1⟩ := row2c h_z
    go_wp2_with fail
    refine Dr.cut_calls (fun X => (Below w.heap.size w X) ∧ (Row X (BX2) 25 [.int .i64 aS, .int .i64 sS])) ⟨(by repeat' (first | (with_reducible exact Below.refl _ _) | (with_reducible refine Below.alloc ?_ ?_ _) | (with_reducible refine Below.setCell ?_ ?_ _) | (with_reducible refine Below.drew ?_) | (with_reducible refine Below.trans ?_ (Below.mono (by with_reducible assumption) ?_)) | omega | (simp; done) | (simp; omega))), (Row.to h_z (by repeat' (first | (with_reducible exact Below.refl _ _) | (with_reducible refine Below.alloc ?_ ?_ _) | (with_reducible refine Below.setCell ?_ ?_ _) | (with_reducible refine Below.drew ?_) | (with_reducible refine Below.trans ?_ (Below.mono (by with_reducible assumption) ?_)) | omega | (simp; done) | (simp; omega))))⟩ ?_
    clear h_below s_below h_z l_z z_z c_z0 c_z1
    rintro Y3 ⟨h_below, h_z⟩
    refine (sSplit_no aS sS nS _ hK).mono ?_
    rintro e X3 ⟨A2, c2, rfl, ho2, hb3⟩
    have h_below0 := h_below
    replace h_below := h_below.trans (hb3.mono h_below.size)
    replace h_z := Row.to h_z hb3
    clear hb3
    clear h_below0
    have s_below := h_below.size
    have l_z := Row.lt h_z
    have z_z := Row.frozen h_z
    obtain ⟨c_z0, c_z1⟩ := row2c h_z
    go_wp2_with fail
    refine Dr.cut_calls (fun X => (Below w.heap.size w X) ∧ (Row X (BX2) 25 [.int .i64 aS, .int .i64 sS])) ⟨(by repeat' (first | (with_reducible exact Below.refl _ _) | (with_reducible refine Below.alloc ?_ ?_ _) | (with_reducible refine Below.setCell ?_ ?_ _) | (with_reducible refine Below.drew ?_) | (with_reducible refine Below.trans ?_ (Below.mono (by with_reducible assumption) ?_)) | omega | (simp; done) | (simp; omega))), (Row.to h_z (by repeat' (first | (with_reducible exact Below.refl _ _) | (with_reducible refine Below.alloc ?_ ?_ _) | (with_reducible refine Below.setCell ?_ ?_ _) | (with_reducible refine Below.drew ?_) | (with_reducible refine Below.trans ?_ (Below.mono (by with_reducible assumption) ?_)) | omega | (simp; done) | (simp; omega))))⟩ ?_
    clear h_below s_below h_z l_z z_z c_z0 c_z1
    rintro Y4 ⟨h_below, h_z⟩
    refine (vBrines_nil _ _ _ _ _).mono ?_
    rintro e X4 ⟨rfl, hb4⟩
    have h_below0 := h_below
    replace h_below := h_below.trans (hb4.mono h_below.size)
    replace h_z := Row.to h_z hb4
    clear hb4
    clear h_below0
    have s_below := h_below.size
    have l_z := Row.lt h_z
    have z_z := Row.frozen h_z
    obtain ⟨c_z0, c_z1⟩ := row2c h_z
    go_upto_region 33 with (fail)
    exact FnBrines_p18 A n c w _ hn hB (h_below.trans (by repeat' (first | (with_reducible exact Below.refl _ _) | (with_reducible refine Below.alloc ?_ ?_ _) | (with_reducible refine Below.setCell ?_ ?_ _) | (with_reducible refine Below.drew ?_) | (with_reducible refine Below.trans ?_ (Below.mono (by with_reducible assumption) ?_)) | omega | (simp; done) | (simp; omega)))) ht hm _ (by assumption)
  · obtain ⟨p, rfl⟩ : ∃ p : Nat, nS = p := ⟨nS.toNat, by have := sp_parts hK; omega⟩
    have hp20 := (sp_parts hK).2.2.2
    refine Dr.cut_calls (fun X => (Below w.heap.size w X) ∧ (Row X (X1.heap.size) 25 [.int .i64 aS, .int .i64 sS])) ⟨(by repeat' (first | (with_reducible exact Below.refl _ _) | (with_reducible refine Below.alloc ?_ ?_ _) | (with_reducible refine Below.setCell ?_ ?_ _) | (with_reducible refine Below.drew ?_) | (with_reducible refine Below.trans ?_ (Below.mono (by with_reducible assumption) ?_)) | omega | (simp; done) | (simp; omega))), (by first | exact Row.new _ _ _ | exact (Row.new _ _ _).to (by repeat' (first | (with_reducible exact Below.refl _ _) | (with_reducible refine Below.alloc ?_ ?_ _) | (with_reducible refine Below.setCell ?_ ?_ _) | (with_reducible refine Below.drew ?_) | (with_reducible refine Below.trans ?_ (Below.mono (by with_reducible assumption) ?_)) | omega | (simp; done) | (simp; omega))) | exact row_new_at _ _ _ _ (by simp) | exact (row_new_at _ _ _ _ (by simp)).to (by repeat' (first | (with_reducible exact Below.refl _ _) | (with_reducible refine Below.alloc ?_ ?_ _) | (with_reducible refine Below.setCell ?_ ?_ _) | (with_reducible refine Below.drew ?_) | (with_reducible refine Below.trans ?_ (Below.mono (by with_reducible assumption) ?_)) | omega | (simp; done) | (simp; omega))))⟩ ?_
    clear h_below s_below
    obtain ⟨BX2, hBX2⟩ : ∃ B, X1.heap.size = B := ⟨_, rfl⟩
    simp only [hBX2]
    clear hBX2
    rintro Y2 ⟨h_below, h_z⟩
    refine (iSplit_yes aS sS p _ hK).mono ?_
    rintro e X2 ⟨A1, c1, rfl, ho1, hb2⟩
    have h_below0 := h_below
    replace h_below := h_below.trans (hb2.mono h_below.size)
    replace h_z := Row.to h_z hb2
    clear hb2
    have h_o1 := ho1.mono h_below0.size
    clear h_below0
    have s_below := h_below.size
    have l_z := Row.lt h_z
    have z_z := Row.frozen h_z
    obtain ⟨c_z0, c_z1⟩ := row2c h_z
    go_wp2_with fail
    refine Dr.cut_calls (fun X => (Below w.heap.size w X) ∧ (Row X (BX2) 25 [.int .i64 aS, .int .i64 sS]) ∧ (OwnAt X w.heap.size 25 ((shL aS sS p).flatMap Brn.enc) p A1)) ⟨(by repeat' (first | (with_reducible exact Below.refl _ _) | (with_reducible refine Below.alloc ?_ ?_ _) | (with_reducible refine Below.setCell ?_ ?_ _) | (with_reducible refine Below.drew ?_) | (with_reducible refine Below.trans ?_ (Below.mono (by with_reducible assumption) ?_)) | omega | (simp; done) | (simp; omega))), (Row.to h_z (by repeat' (first | (with_reducible exact Below.refl _ _) | (with_reducible refine Below.alloc ?_ ?_ _) | (with_reducible refine Below.setCell ?_ ?_ _) | (with_reducible refine Below.drew ?_) | (with_reducible refine Below.trans ?_ (Below.mono (by with_reducible assumption) ?_)) | omega | (simp; done) | (simp; omega)))), (h_o1.to (by repeat' (first | (with_reducible exact Below.refl _ _) | (with_reducible refine Below.alloc ?_ ?_ _) | (with_reducible refine Below.setCell ?_ ?_ _) | (with_reducible refine Below.drew ?_) | (with_reducible refine Below.trans ?_ (Below.mono (by with_reducible assumption) ?_)) | omega | (simp; done) | (simp; omega))))⟩ ?_
    clear h_below s_below h_z l_z z_z c_z0 c_z1 h_o1
    rintro Y3 ⟨h_below, h_z, h_o1⟩
    refine (sSplit_yes aS sS p _ hK).mono ?_
    rintro e X3 ⟨A2, c2, rfl, ho2, hb3⟩
    have h_below0 := h_below
    replace h_below := h_below.trans (hb3.mono h_below.size)
    replace h_z := Row.to h_z hb3
    replace h_o1 := h_o1.to hb3
    clear hb3
    have h_o2 := ho2.mono h_below0.size
    clear h_below0
    have s_below := h_below.size
    have l_z := Row.lt h_z
    have z_z := Row.frozen h_z
    obtain ⟨c_z0, c_z1⟩ := row2c h_z
    go_wp2_with fail
    refine Dr.cut_calls (fun X => (Below w.heap.size w X) ∧ (Row X (BX2) 25 [.int .i64 aS, .int .i64 sS]) ∧ (OwnAt X w.heap.size 25 ((shL aS sS p).flatMap Brn.enc) p A1) ∧ (OwnAt X w.heap.size 25 ((shL aS sS p).flatMap Brn.enc) p A2)) ⟨(by repeat' (first | (with_reducible exact Below.refl _ _) | (with_reducible refine Below.alloc ?_ ?_ _) | (with_reducible refine Below.setCell ?_ ?_ _) | (with_reducible refine Below.drew ?_) | (with_reducible refine Below.trans ?_ (Below.mono (by with_reducible assumption) ?_)) | omega | (simp; done) | (simp; omega))), (Row.to h_z (by repeat' (first | (with_reducible exact Below.refl _ _) | (with_reducible refine Below.alloc ?_ ?_ _) | (with_reducible refine Below.setCell ?_ ?_ _) | (with_reducible refine Below.drew ?_) | (with_reducible refine Below.trans ?_ (Below.mono (by with_reducible assumption) ?_)) | omega | (simp; done) | (simp; omega)))), (h_o1.to (by repeat' (first | (with_reducible exact Below.refl _ _) | (with_reducible refine Below.alloc ?_ ?_ _) | (with_reducible refine Below.setCell ?_ ?_ _) | (with_reducible refine Below.drew ?_) | (with_reducible refine Below.trans ?_ (Below.mono (by with_reducible assumption) ?_)) | omega | (simp; done) | (simp; omega)))), (h_o2.to (by repeat' (first | (with_reducible exact Below.refl _ _) | (with_reducible refine Below.alloc ?_ ?_ _) | (with_reducible refine Below.setCell ?_ ?_ _) | (with_reducible refine Below.drew ?_) | (with_reducible refine Below.trans ?_ (Below.mono (by with_reducible assumption) ?_)) | omega | (simp; done) | (simp; omega))))⟩ ?_
    clear h_below s_below h_z l_z z_z c_z0 c_z1 h_o1 h_o2
    rintro Y4 ⟨h_below, h_z, h_o1, h_o2⟩
    refine (vBrines_split _ _ _ _ p _ _ aS sS _ h_o1 h_o2 (by omega)).mono ?_
    rintro e X4 ⟨rfl, hb4⟩
    have h_below0 := h_below
    replace h_below := h_below.trans (hb4.mono h_below.size)
    replace h_z := Row.to h_z hb4
    replace h_o1 := h_o1.to hb4
    clear hb4
    clear h_below0
    have s_below := h_below.size
    clear h_o2
    have l_z := Row.lt h_z
    have z_z := Row.frozen h_z
    obtain ⟨c_z0, c_z1⟩ := row2c h_z
    go_wp2_with fail
    refine Dr.cut_calls (fun X => (Below w.heap.size w X) ∧ (Row X (BX2) 25 [.int .i64 aS, .int .i64 sS]) ∧ (OwnAt X w.heap.size 25 ((shL aS sS p).flatMap Brn.enc) p A1)) ⟨(by repeat' (first | (with_reducible exact Below.refl _ _) | (with_reducible refine Below.alloc ?_ ?_ _) | (with_reducible refine Below.setCell ?_ ?_ _) | (with_reducible refine Below.drew ?_) | (with_reducible refine Below.trans ?_ (Below.mono (by with_reducible assumption) ?_)) | omega | (simp; done) | (simp; omega))), (Row.to h_z (by repeat' (first | (with_reducible exact Below.refl _ _) | (with_reducible refine Below.alloc ?_ ?_ _) | (with_reducible refine Below.setCell ?_ ?_ _) | (with_reducible refine Below.drew ?_) | (with_reducible refine Below.trans ?_ (Below.mono (by with_reducible assumption) ?_)) | omega | (simp; done) | (simp; omega)))), (h_o1.to (by repeat' (first | (with_reducible exact Below.refl _ _) | (with_reducible refine Below.alloc ?_ ?_ _) | (with_reducible refine Below.setCell ?_ ?_ _) | (with_reducible refine Below.drew ?_) | (with_reducible refine Below.trans ?_ (Below.mono (by with_reducible assumption) ?_)) | omega | (simp; done) | (simp; omega))))⟩ ?_
    clear h_below s_below h_z l_z z_z c_z0 c_z1 h_o1
    rintro Y5 ⟨h_below, h_z, h_o1⟩
    refine (iMix_split _ _ p _ aS sS _ h_o1 hK).mono ?_
    rintro e X5 ⟨rfl, hb5⟩
    have h_below0 := h_below
    replace h_below := h_below.trans (hb5.mono h_below.size)
    replace h_z := Row.to h_z hb5
    replace h_o1 := h_o1.to hb5
    clear hb5
    clear h_below0
    have s_below := h_below.size
    have l_z := Row.lt h_z
    have z_z := Row.frozen h_z
    obtain ⟨c_z0, c_z1⟩ := row2c h_z
    go_upto_region 33 with (fail)
    exact FnBrines_p18 A n c w _ hn hB (h_below.trans (by repeat' (first | (with_reducible exact Below.refl _ _) | (with_reducible refine Below.alloc ?_ ?_ _) | (with_reducible refine Below.setCell ?_ ?_ _) | (with_reducible refine Below.drew ?_) | (with_reducible refine Below.trans ?_ (Below.mono (by with_reducible assumption) ?_)) | omega | (simp; done) | (simp; omega)))) ht hm _ (by assumption)
set_option maxRecDepth 100000 in
set_option maxHeartbeats 40000000 in
theorem FnBrines_p10 {u1 u2 u3 u4 u5 u6 u7 u8 u9 u10 u11 u12 u13 u14 u15 u16 u17 u18 u19 u20 u21 u22 u23 u24 u25 u26 u27 u28 u29 u30 u31 u32 u33 u34 u35 u36 u37 u38 u39 u40 u41 u42 u43 u44 u45 u46 u47 u48 u49 u50 u51 u52 u53 u54 u55 u56 u57 u58 u59 u60 u61 u62 u63 u64 u65 u66 u67 u68 u69 u70 u71 u72 u73 u74 u75 u76 u77 u78 u79 u80 u81 u82 u83 u84 u85 u86 u87 u88 u89 u90 u91 u92 u93 u94 u95 u96 u97 u98 u99 u100 u101 u102 u103 u104 u105 u106 u107 u108 u109 u110 u111 u112 u113 u114 u115 u116 u117 u118 u119 u120 u121 u122 u123 u124 u125 u126 u127 u128 u129 u130 u131 u132 u133 u134 u135 u136 u137 u138 u139 u140 u141 u142 u143 u144 u145 u146 u147 u148 u149 u150 u151 u152 u153 u154 u155 u156 u157 u158 u159 u160 u161 u162 u163 u164 u165 u166 u167 u168 u169 u170 u171 u172 u173 u174 u175 u176 u177 u178 u179 u180 u181 u182 u183 u184 u185 u186 u187 u188 u189 u190 u191 u192 u193 u194 u195 u196 u197 u198 u199 u200 u201 u202 u203 u204 u205 u206 u207 u208 u209 u210 u211 u212 u213 u214 u215 u216 u217 u218 u219 u220 u221 u222 u223 u224 u225 u226 u227 u228 u229 u230 u231 u232 u233 u234 u235 u236 u237 u238 u239 u240 u241 u242 : Value} (A : Option Addr) (n c : Nat) (w wc : World) (hn : n ≤ 65536) (hB : Byt w w.heap.size A n) (h_below : Below w.heap.size w wc) (ht : Hid (Tab w)) (hm : Hid (MxL w)) (K : Act → World → Prop) (hK : ∀ a w1, (tailOf 11 (Tryd.f3.body.getD .skip)).wp Tryd.prog (bodyPost Tryd.prog Tryd.f3 fun e w' => e = .returned (.bool true) ∧ Below w.heap.size w w') a w1 → K a w1) :
    (headOf (tailOf 10 (Tryd.f3.body.getD .skip))).wp Tryd.prog (Exit.then K (bodyPost Tryd.prog Tryd.f3 fun e w' => e = .returned (.bool true) ∧ Below w.heap.size w w')) ⟨#[.slice A n c, u1, u2, u3, u4, u5, u6, u7, u8, u9, u10, u11, u12, u13, u14, u15, u16, u17, u18, u19, u20, u21, u22, u23, u24, u25, u26, u27, u28, u29, u30, u31, u32, u33, u34, u35, u36, u37, u38, u39, u40, u41, u42, u43, u44, u45, u46, u47, u48, u49, u50, u51, u52, u53, u54, u55, u56, u57, u58, u59, u60, u61, u62, u63, u64, u65, u66, u67, u68, u69, u70, u71, u72, u73, u74, u75, u76, u77, u78, u79, u80, u81, u82, u83, u84, u85, u86, u87, u88, u89, u90, u91, u92, u93, u94, u95, u96, u97, u98, u99, u100, u101, u102, u103, u104, u105, u106, u107, u108, u109, u110, u111, u112, u113, u114, u115, u116, u117, u118, u119, u120, u121, u122, u123, u124, u125, u126, u127, u128, u129, u130, u131, u132, u133, u134, u135, u136, u137, u138, u139, u140, u141, u142, u143, u144, u145, u146, u147, u148, u149, u150, u151, u152, u153, u154, u155, u156, u157, u158, u159, u160, u161, u162, u163, u164, u165, u166, u167, u168, u169, u170, u171, u172, u173, u174, u175, u176, u177, u178, u179, u180, u181, u182, u183, u184, u185, u186, u187, u188, u189, u190, u191, u192, u193, u194, u195, u196, u197, u198, u199, u200, u201, u202, u203, u204, u205, u206, u207, u208, u209, u210, u211, u212, u213, u214, u215, u216, u217, u218, u219, u220, u221, u222, u223, u224, u225, u226, u227, u228, u229, u230, u231, u232, u233, u234, u235, u236, u237, u238, u239, u240, u241, u242], []⟩ wc := by
  have s_below := h_below.size
  simp only [tailOf, headOf, Option.getD, Tryd.f3] at hK ⊢
  go_wp2_with fail
  refine Dr.cut_calls (fun X => (Below w.heap.size w X)) ((by repeat' (first | (with_reducible exact Below.refl _ _) | (with_reducible refine Below.alloc ?_ ?_ _) | (with_reducible refine Below.setCell ?_ ?_ _) | (with_reducible refine Below.drew ?_) | (with_reducible refine Below.trans ?_ (Below.mono (by with_reducible assumption) ?_)) | omega | (simp; done) | (simp; omega)))) ?_
  clear h_below s_below
  intro Y1 h_below
  refine (dTakePart_any _ _ _ _ hn (Dr.byt_more (hB.below h_below) h_below.size)).mono ?_
  rintro e X1 ⟨aT, sT, nT, rfl, hb1⟩
  have h_below0 := h_below
  replace h_below := h_below.trans (hb1.mono h_below.size)
  clear hb1
  clear h_below0
  have s_below := h_below.size
  go_wp2_with fail
  cases hK : tkB aT sT nT
  · refine Dr.cut_calls (fun X => (Below w.heap.size w X) ∧ (Row X (X1.heap.size) 25 [.int .i64 aT, .int .i64 sT])) ⟨(by repeat' (first | (with_reducible exact Below.refl _ _) | (with_reducible refine Below.alloc ?_ ?_ _) | (with_reducible refine Below.setCell ?_ ?_ _) | (with_reducible refine Below.drew ?_) | (with_reducible refine Below.trans ?_ (Below.mono (by with_reducible assumption) ?_)) | omega | (simp; done) | (simp; omega))), (by first | exact Row.new _ _ _ | exact (Row.new _ _ _).to (by repeat' (first | (with_reducible exact Below.refl _ _) | (with_reducible refine Below.alloc ?_ ?_ _) | (with_reducible refine Below.setCell ?_ ?_ _) | (with_reducible refine Below.drew ?_) | (with_reducible refine Below.trans ?_ (Below.mono (by with_reducible assumption) ?_)) | omega | (simp; done) | (simp; omega))) | exact row_new_at _ _ _ _ (by simp) | exact (row_new_at _ _ _ _ (by simp)).to (by repeat' (first | (with_reducible exact Below.refl _ _) | (with_reducible refine Below.alloc ?_ ?_ _) | (with_reducible refine Below.setCell ?_ ?_ _) | (with_reducible refine Below.drew ?_) | (with_reducible refine Below.trans ?_ (Below.mono (by with_reducible assumption) ?_)) | omega | (simp; done) | (simp; omega))))⟩ ?_
    clear h_below s_below
    obtain ⟨BX2, hBX2⟩ : ∃ B, X1.heap.size = B := ⟨_, rfl⟩
    simp only [hBX2]
    clear hBX2
    rintro Y2 ⟨h_below, h_y⟩
    refine (iTake_no aT sT nT _ hK).mono ?_
    rintro e X2 ⟨rfl, hb2⟩
    have h_below0 := h_below
    replace h_below := h_below.trans (hb2.mono h_below.size)
    replace h_y := Row.to h_y hb2
    clear hb2
    clear h_below0
    have s_below := h_below.size
    have l_y := Row.lt h_y
    have z_y := Row.frozen h_y
    obtain ⟨c_y0, c_y1⟩ := row2c h_y
    go_wp2_with fail
    refine Dr.cut_calls (fun X => (Below w.heap.size w X) ∧ (Row X (BX2) 25 [.int .i64 aT, .int .i64 sT]) ∧ (Row X (X2.heap.size) 25 [.int .i64 0, .int .i64 0]) ∧ (Row X (X2.heap.size + 1) 25 [.int .i64 0, .int .i64 0])) ⟨(by repeat' (first | (with_reducible exact Below.refl _ _) | (with_reducible refine Below.alloc ?_ ?_ _) | (with_reducible refine Below.setCell ?_ ?_ _) | (with_reducible refine Below.drew ?_) | (with_reducible refine Below.trans ?_ (Below.mono (by with_reducible assumption) ?_)) | omega | (simp; done) | (simp; omega))), (Row.to h_y (by repeat' (first | (with_reducible exact Below.refl _ _) | (with_reducible refine Below.alloc ?_ ?_ _) | (with_reducible refine Below.setCell ?_ ?_ _) | (with_reducible refine Below.drew ?_) | (with_reducible refine Below.trans ?_ (Below.mono (by with_reducible assumption) ?_)) | omega | (simp; done) | (simp; omega)))), (by first | exact Row.new _ _ _ | exact (Row.new _ _ _).to (by repeat' (first | (with_reducible exact Below.refl _ _) | (with_reducible refine Below.alloc ?_ ?_ _) | (with_reducible refine Below.setCell ?_ ?_ _) | (with_reducible refine Below.drew ?_) | (with_reducible refine Below.trans ?_ (Below.mono (by with_reducible assumption) ?_)) | omega | (simp; done) | (simp; omega))) | exact row_new_at _ _ _ _ (by simp) | exact (row_new_at _ _ _ _ (by simp)).to (by repeat' (first | (with_reducible exact Below.refl _ _) | (with_reducible refine Below.alloc ?_ ?_ _) | (with_reducible refine Below.setCell ?_ ?_ _) | (with_reducible refine Below.drew ?_) | (with_reducible refine Below.trans ?_ (Below.mono (by with_reducible assumption) ?_)) | omega | (simp; done) | (simp; omega)))), (by first | exact Row.new _ _ _ | exact (Row.new _ _ _).to (by repeat' (first | (with_reducible exact Below.refl _ _) | (with_reducible refine Below.alloc ?_ ?_ _) | (with_reducible refine Below.setCell ?_ ?_ _) | (with_reducible refine Below.drew ?_) | (with_reducible refine Below.trans ?_ (Below.mono (by with_reducible assumption) ?_)) | omega | (simp; done) | (simp; omega))) | exact row_new_at _ _ _ _ (by simp) | exact (row_new_at _ _ _ _ (by simp)).to (by repeat' (first | (with_reducible exact Below.refl _ _) | (with_reducible refine Below.alloc ?_ ?_ _) | (with_reducible refine Below.setCell ?_ ?_ _) | (with_reducible refine Below.drew ?_) | (with_reducible refine Below.trans ?_ (Below.mono (by with_reducible assumption) ?_)) | omega | (simp; done) | (simp; omega))))⟩ ?_
    clear h_below s_below h_y l_y z_y c_y0 c_y1
    obtain ⟨BX3, hBX3⟩ : ∃ B, X2.heap.size = B := ⟨_, rfl⟩
    simp only [hBX3]
    clear hBX3
    rintro Y3 ⟨h_below, h_y, h_pa, h_pl⟩
    refine (sTake_no aT sT nT _ hK).mono ?_
    rintro e X3 ⟨rfl, hb3⟩
    have h_below0 := h_below
    replace h_below := h_below.trans (hb3.mono h_below.size)
    replace h_y := Row.to h_y hb3
    replace h_pa := Row.to h_pa hb3
    replace h_pl := Row.to h_pl hb3
    clear hb3
    clear h_below0
    have s_below := h_below.size
    have l_y := Row.lt h_y
    have z_y := Row.frozen h_y
    obtain ⟨c_y0, c_y1⟩ := row2c h_y
    have l_pa := Row.lt h_pa
    have z_pa := Row.frozen h_pa
    obtain ⟨c_pa0, c_pa1⟩ := row2c h_pa
    have l_pl := Row.lt h_pl
    have z_pl := Row.frozen h_pl
    obtain ⟨c_pl0, c_pl1⟩ := row2c h_pl
    go_upto_region 24 with (fail)
    exact FnBrines_p14 A n c w _ hn hB (h_below.trans (by repeat' (first | (with_reducible exact Below.refl _ _) | (with_reducible refine Below.alloc ?_ ?_ _) | (with_reducible refine Below.setCell ?_ ?_ _) | (with_reducible refine Below.drew ?_) | (with_reducible refine Below.trans ?_ (Below.mono (by with_reducible assumption) ?_)) | omega | (simp; done) | (simp; omega)))) ht hm _ (by assumption)
  · have hbd := tk_parts hK
    have hpq := pS_bd hbd.1.1 hbd.2.1.1 hbd.2.2.1 hbd.2.2.2
    have HI := Lib.hid (fun W => iTake_yes aT sT nT W hK)
    have HS := Lib.hid (fun W => sTake_yes aT sT nT W hK)
    obtain ⟨q, hq⟩ : ∃ q, pS aT sT nT = q := ⟨_, rfl⟩
    rw [hq] at HI HS hpq
    have HQ := Lib.hid hq
    have HK := Lib.hid hK
    clear hq hK
    refine Dr.cut_calls (fun X => (Below w.heap.size w X) ∧ (Row X (X1.heap.size) 25 [.int .i64 aT, .int .i64 sT])) ⟨(by repeat' (first | (with_reducible exact Below.refl _ _) | (with_reducible refine Below.alloc ?_ ?_ _) | (with_reducible refine Below.setCell ?_ ?_ _) | (with_reducible refine Below.drew ?_) | (with_reducible refine Below.trans ?_ (Below.mono (by with_reducible assumption) ?_)) | omega | (simp; done) | (simp; omega))), (by first | exact Row.new _ _ _ | exact (Row.new _ _ _).to (by repeat' (first | (with_reducible exact Below.refl _ _) | (with_reducible refine Below.alloc ?_ ?_ _) | (with_reducible refine Below.setCell ?_ ?_ _) | (with_reducible refine Below.drew ?_) | (with_reducible refine Below.trans ?_ (Below.mono (by with_reducible assumption) ?_)) | omega | (simp; done) | (simp; omega))) | exact row_new_at _ _ _ _ (by simp) | exact (row_new_at _ _ _ _ (by simp)).to (by repeat' (first | (with_reducible exact Below.refl _ _) | (with_reducible refine Below.alloc ?_ ?_ _) | (with_reducible refine Below.setCell ?_ ?_ _) | (with_reducible refine Below.drew ?_) | (with_reducible refine Below.trans ?_ (Below.mono (by with_reducible assumption) ?_)) | omega | (simp; done) | (simp; omega))))⟩ ?_
    clear h_below s_below
    obtain ⟨BX2, hBX2⟩ : ∃ B, X1.heap.size = B := ⟨_, rfl⟩
    simp only [hBX2]
    clear hBX2
    rintro Y2 ⟨h_below, h_y⟩
    refine (HI.out _).mono ?_
    rintro e X2 ⟨rfl, hb2⟩
    have h_below0 := h_below
    replace h_below := h_below.trans (hb2.mono h_below.size)
    replace h_y := Row.to h_y hb2
    clear hb2
    clear h_below0
    have s_below := h_below.size
    have l_y := Row.lt h_y
    have z_y := Row.frozen h_y
    obtain ⟨c_y0, c_y1⟩ := row2c h_y
    go_wp2_with fail
    refine Dr.cut_calls (fun X => (Below w.heap.size w X) ∧ (Row X (BX2) 25 [.int .i64 aT, .int .i64 sT]) ∧ (Row X (X2.heap.size) 25 [.int .i64 (nT - q), .int .i64 q]) ∧ (Row X (X2.heap.size + 1) 25 [.int .i64 (aT - (nT - q)), .int .i64 (sT - q)])) ⟨(by repeat' (first | (with_reducible exact Below.refl _ _) | (with_reducible refine Below.alloc ?_ ?_ _) | (with_reducible refine Below.setCell ?_ ?_ _) | (with_reducible refine Below.drew ?_) | (with_reducible refine Below.trans ?_ (Below.mono (by with_reducible assumption) ?_)) | omega | (simp; done) | (simp; omega))), (Row.to h_y (by repeat' (first | (with_reducible exact Below.refl _ _) | (with_reducible refine Below.alloc ?_ ?_ _) | (with_reducible refine Below.setCell ?_ ?_ _) | (with_reducible refine Below.drew ?_) | (with_reducible refine Below.trans ?_ (Below.mono (by with_reducible assumption) ?_)) | omega | (simp; done) | (simp; omega)))), (by first | exact Row.new _ _ _ | exact (Row.new _ _ _).to (by repeat' (first | (with_reducible exact Below.refl _ _) | (with_reducible refine Below.alloc ?_ ?_ _) | (with_reducible refine Below.setCell ?_ ?_ _) | (with_reducible refine Below.drew ?_) | (with_reducible refine Below.trans ?_ (Below.mono (by with_reducible assumption) ?_)) | omega | (simp; done) | (simp; omega))) | exact row_new_at _ _ _ _ (by simp) | exact (row_new_at _ _ _ _ (by simp)).to (by repeat' (first | (with_reducible exact Below.refl _ _) | (with_reducible refine Below.alloc ?_ ?_ _) | (with_reducible refine Below.setCell ?_ ?_ _) | (with_reducible refine Below.drew ?_) | (with_reducible refine Below.trans ?_ (Below.mono (by with_reducible assumption) ?_)) | omega | (simp; done) | (simp; omega)))), (by first | exact Row.new _ _ _ | exact (Row.new _ _ _).to (by repeat' (first | (with_reducible exact Below.refl _ _) | (with_reducible refine Below.alloc ?_ ?_ _) | (with_reducible refine Below.setCell ?_ ?_ _) | (with_reducible refine Below.drew ?_) | (with_reducible refine Below.trans ?_ (Below.mono (by with_reducible assumption) ?_)) | omega | (simp; done) | (simp; omega))) | exact row_new_at _ _ _ _ (by simp) | exact (row_new_at _ _ _ _ (by simp)).to (by repeat' (first | (with_reducible exact Below.refl _ _) | (with_reducible refine Below.alloc ?_ ?_ _) | (with_reducible refine Below.setCell ?_ ?_ _) | (with_reducible refine Below.drew ?_) | (with_reducible refine Below.trans ?_ (Below.mono (by with_reducible assumption) ?_)) | omega | (simp; done) | (simp; omega))))⟩ ?_
    clear h_below s_below h_y l_y z_y c_y0 c_y1
    obtain ⟨BX3, hBX3⟩ : ∃ B, X2.heap.size = B := ⟨_, rfl⟩
    simp only [hBX3]
    clear hBX3
    rintro Y3 ⟨h_below, h_y, h_pa, h_pl⟩
    refine (HS.out _).mono ?_
    rintro e X3 ⟨rfl, hb3⟩
    have h_below0 := h_below
    replace h_below := h_below.trans (hb3.mono h_below.size)
    replace h_y := Row.to h_y hb3
    replace h_pa := Row.to h_pa hb3
    replace h_pl := Row.to h_pl hb3
    clear hb3
    clear h_below0
    have s_below := h_below.size
    have l_y := Row.lt h_y
    have z_y := Row.frozen h_y
    obtain ⟨c_y0, c_y1⟩ := row2c h_y
    have l_pa := Row.lt h_pa
    have z_pa := Row.frozen h_pa
    obtain ⟨c_pa0, c_pa1⟩ := row2c h_pa
    have l_pl := Row.lt h_pl
    have z_pl := Row.frozen h_pl
    obtain ⟨c_pl0, c_pl1⟩ := row2c h_pl
    go_wp2_with fail
    refine Dr.cut_calls (fun X => (Below w.heap.size w X) ∧ (Row X (BX2) 25 [.int .i64 aT, .int .i64 sT]) ∧ (Row X (BX3) 25 [.int .i64 (nT - q), .int .i64 q]) ∧ (Row X (BX3 + 1) 25 [.int .i64 (aT - (nT - q)), .int .i64 (sT - q)]) ∧ (Row X (X3.heap.size + 1 + 1) 25 [.int .i64 (nT - q), .int .i64 q, .int .i64 (aT - (nT - q)), .int .i64 (sT - q)])) ⟨(by repeat' (first | (with_reducible exact Below.refl _ _) | (with_reducible refine Below.alloc ?_ ?_ _) | (with_reducible refine Below.setCell ?_ ?_ _) | (with_reducible refine Below.drew ?_) | (with_reducible refine Below.trans ?_ (Below.mono (by with_reducible assumption) ?_)) | omega | (simp; done) | (simp; omega))), (Row.to h_y (by repeat' (first | (with_reducible exact Below.refl _ _) | (with_reducible refine Below.alloc ?_ ?_ _) | (with_reducible refine Below.setCell ?_ ?_ _) | (with_reducible refine Below.drew ?_) | (with_reducible refine Below.trans ?_ (Below.mono (by with_reducible assumption) ?_)) | omega | (simp; done) | (simp; omega)))), (Row.to h_pa (by repeat' (first | (with_reducible exact Below.refl _ _) | (with_reducible refine Below.alloc ?_ ?_ _) | (with_reducible refine Below.setCell ?_ ?_ _) | (with_reducible refine Below.drew ?_) | (with_reducible refine Below.trans ?_ (Below.mono (by with_reducible assumption) ?_)) | omega | (simp; done) | (simp; omega)))), (Row.to h_pl (by repeat' (first | (with_reducible exact Below.refl _ _) | (with_reducible refine Below.alloc ?_ ?_ _) | (with_reducible refine Below.setCell ?_ ?_ _) | (with_reducible refine Below.drew ?_) | (with_reducible refine Below.trans ?_ (Below.mono (by with_reducible assumption) ?_)) | omega | (simp; done) | (simp; omega)))), (by first | exact Row.new _ _ _ | exact (Row.new _ _ _).to (by repeat' (first | (with_reducible exact Below.refl _ _) | (with_reducible refine Below.alloc ?_ ?_ _) | (with_reducible refine Below.setCell ?_ ?_ _) | (with_reducible refine Below.drew ?_) | (with_reducible refine Below.trans ?_ (Below.mono (by with_reducible assumption) ?_)) | omega | (simp; done) | (simp; omega))) | exact row_new_at _ _ _ _ (by simp) | exact (row_new_at _ _ _ _ (by simp)).to (by repeat' (first | (with_reducible exact Below.refl _ _) | (with_reducible refine Below.alloc ?_ ?_ _) | (with_reducible refine Below.setCell ?_ ?_ _) | (with_reducible refine Below.drew ?_) | (with_reducible refine Below.trans ?_ (Below.mono (by with_reducible assumption) ?_)) | omega | (simp; done) | (simp; omega))))⟩ ?_
    clear h_below s_below h_y l_y z_y c_y0 c_y1 h_pa l_pa z_pa c_pa0 c_pa1 h_pl l_pl z_pl c_pl0 c_pl1
    obtain ⟨BX4, hBX4⟩ : ∃ B, X3.heap.size = B := ⟨_, rfl⟩
    simp only [hBX4]
    clear hBX4
    rintro Y4 ⟨h_below, h_y, h_pa, h_pl, h_ls⟩
    refine (iMix_parts _ _ aT sT nT q _ h_ls HQ.out HK.out).mono ?_
    rintro e X4 ⟨rfl, hb4⟩
    have h_below0 := h_below
    replace h_below := h_below.trans (hb4.mono h_below.size)
    replace h_y := Row.to h_y hb4
    replace h_pa := Row.to h_pa hb4
    replace h_pl := Row.to h_pl hb4
    replace h_ls := Row.to h_ls hb4
    clear hb4
    clear h_below0
    have s_below := h_below.size
    have l_y := Row.lt h_y
    have z_y := Row.frozen h_y
    obtain ⟨c_y0, c_y1⟩ := row2c h_y
    have l_pa := Row.lt h_pa
    have z_pa := Row.frozen h_pa
    obtain ⟨c_pa0, c_pa1⟩ := row2c h_pa
    have l_pl := Row.lt h_pl
    have z_pl := Row.frozen h_pl
    obtain ⟨c_pl0, c_pl1⟩ := row2c h_pl
    have l_ls := Row.lt h_ls
    have z_ls := Row.frozen h_ls
    obtain ⟨c_ls0, c_ls1, c_ls2, c_ls3⟩ := row4c h_ls
    go_upto_region 24 with (fail)
    exact FnBrines_p14 A n c w _ hn hB (h_below.trans (by repeat' (first | (with_reducible exact Below.refl _ _) | (with_reducible refine Below.alloc ?_ ?_ _) | (with_reducible refine Below.setCell ?_ ?_ _) | (with_reducible refine Below.drew ?_) | (with_reducible refine Below.trans ?_ (Below.mono (by with_reducible assumption) ?_)) | omega | (simp; done) | (simp; omega)))) ht hm _ (by assumption)
set_option maxRecDepth 100000 in
set_option maxHeartbeats 40000000 in
theorem FnBrines_p6 {u1 u2 u3 u4 u5 u6 u7 u8 u9 u10 u11 u12 u13 u14 u15 u16 u17 u18 u19 u20 u21 u22 u23 u24 u25 u26 u27 u28 u29 u30 u31 u32 u33 u34 u35 u36 u37 u38 u39 u40 u41 u42 u43 u44 u45 u46 u47 u48 u49 u50 u51 u52 u53 u54 u55 u56 u57 u58 u59 u60 u61 u62 u63 u64 u65 u66 u67 u68 u69 u70 u71 u72 u73 u74 u75 u76 u77 u78 u79 u80 u81 u82 u83 u84 u85 u86 u87 u88 u89 u90 u91 u92 u93 u94 u95 u96 u97 u98 u99 u100 u101 u102 u103 u104 u105 u106 u107 u108 u109 u110 u111 u112 u113 u114 u115 u116 u117 u118 u119 u120 u121 u122 u123 u124 u125 u126 u127 u128 u129 u130 u131 u132 u133 u134 u135 u136 u137 u138 u139 u140 u141 u142 u143 u144 u145 u146 u147 u148 u149 u150 u151 u152 u153 u154 u155 u156 u157 u158 u159 u160 u161 u162 u163 u164 u165 u166 u167 u168 u169 u170 u171 u172 u173 u174 u175 u176 u177 u178 u179 u180 u181 u182 u183 u184 u185 u186 u187 u188 u189 u190 u191 u192 u193 u194 u195 u196 u197 u198 u199 u200 u201 u202 u203 u204 u205 u206 u207 u208 u209 u210 u211 u212 u213 u214 u215 u216 u217 u218 u219 u220 u221 u222 u223 u224 u225 u226 u227 u228 u229 u230 u231 u232 u233 u234 u235 u236 u237 u238 u239 u240 u241 u242 : Value} (A : Option Addr) (n c : Nat) (w wc : World) (hn : n ≤ 65536) (hB : Byt w w.heap.size A n) (h_below : Below w.heap.size w wc) (ht : Hid (Tab w)) (hm : Hid (MxL w)) (K : Act → World → Prop) (hK : ∀ a w1, (tailOf 7 (Tryd.f3.body.getD .skip)).wp Tryd.prog (bodyPost Tryd.prog Tryd.f3 fun e w' => e = .returned (.bool true) ∧ Below w.heap.size w w') a w1 → K a w1) :
    (headOf (tailOf 6 (Tryd.f3.body.getD .skip))).wp Tryd.prog (Exit.then K (bodyPost Tryd.prog Tryd.f3 fun e w' => e = .returned (.bool true) ∧ Below w.heap.size w w')) ⟨#[.slice A n c, u1, u2, u3, u4, u5, u6, u7, u8, u9, u10, u11, u12, u13, u14, u15, u16, u17, u18, u19, u20, u21, u22, u23, u24, u25, u26, u27, u28, u29, u30, u31, u32, u33, u34, u35, u36, u37, u38, u39, u40, u41, u42, u43, u44, u45, u46, u47, u48, u49, u50, u51, u52, u53, u54, u55, u56, u57, u58, u59, u60, u61, u62, u63, u64, u65, u66, u67, u68, u69, u70, u71, u72, u73, u74, u75, u76, u77, u78, u79, u80, u81, u82, u83, u84, u85, u86, u87, u88, u89, u90, u91, u92, u93, u94, u95, u96, u97, u98, u99, u100, u101, u102, u103, u104, u105, u106, u107, u108, u109, u110, u111, u112, u113, u114, u115, u116, u117, u118, u119, u120, u121, u122, u123, u124, u125, u126, u127, u128, u129, u130, u131, u132, u133, u134, u135, u136, u137, u138, u139, u140, u141, u142, u143, u144, u145, u146, u147, u148, u149, u150, u151, u152, u153, u154, u155, u156, u157, u158, u159, u160, u161, u162, u163, u164, u165, u166, u167, u168, u169, u170, u171, u172, u173, u174, u175, u176, u177, u178, u179, u180, u181, u182, u183, u184, u185, u186, u187, u188, u189, u190, u191, u192, u193, u194, u195, u196, u197, u198, u199, u200, u201, u202, u203, u204, u205, u206, u207, u208, u209, u210, u211, u212, u213, u214, u215, u216, u217, u218, u219, u220, u221, u222, u223, u224, u225, u226, u227, u228, u229, u230, u231, u232, u233, u234, u235, u236, u237, u238, u239, u240, u241, u242], []⟩ wc := by
  have s_below := h_below.size
  simp only [tailOf, headOf, Option.getD, Tryd.f3] at hK ⊢
  go_wp2_with fail
  refine Dr.cut_calls (fun X => (Below w.heap.size w X)) ((by repeat' (first | (with_reducible exact Below.refl _ _) | (with_reducible refine Below.alloc ?_ ?_ _) | (with_reducible refine Below.setCell ?_ ?_ _) | (with_reducible refine Below.drew ?_) | (with_reducible refine Below.trans ?_ (Below.mono (by with_reducible assumption) ?_)) | omega | (simp; done) | (simp; omega)))) ?_
  clear h_below s_below
  intro Y1 h_below
  refine (dParse_any _ _ _ _ (Dr.byt_more (hB.below h_below) h_below.size) hn).mono ?_
  rintro e X1 ⟨⟨S, rfl, hS⟩, hb1⟩
  have h_below0 := h_below
  replace h_below := h_below.trans (hb1.mono h_below.size)
  clear hb1
  clear h_below0
  have s_below := h_below.size
  go_wp2_with fail
  by_cases hT : BrT S
  · obtain ⟨a2, s2, hK, rfl⟩ := hT
    have HI := Lib.hid (fun W h1 h2 => iParse_yes a2 s2 W h1 h2 hK)
    have HX := Lib.hid (fun W h1 => iBrineText_yes a2 s2 W h1 hK)
    have HS := Lib.hid (fun W => sParse_yes a2 s2 W hK)
    obtain ⟨Z, hZ⟩ : ∃ Z, brS a2 s2 = Z := ⟨_, rfl⟩
    rw [hZ] at HI HX HS hS ⊢
    clear hZ hK
    refine Dr.cut_calls (fun X => (Below w.heap.size w X)) ((by repeat' (first | (with_reducible exact Below.refl _ _) | (with_reducible refine Below.alloc ?_ ?_ _) | (with_reducible refine Below.setCell ?_ ?_ _) | (with_reducible refine Below.drew ?_) | (with_reducible refine Below.trans ?_ (Below.mono (by with_reducible assumption) ?_)) | omega | (simp; done) | (simp; omega)))) ?_
    clear h_below s_below
    intro Y2 h_below
    refine (HI.out _ (Lib.hid (ht.out.to h_below)) (Lib.hid (hm.out.to h_below))).mono ?_
    rintro e X2 ⟨rfl, hb2⟩
    have h_below0 := h_below
    replace h_below := h_below.trans (hb2.mono h_below.size)
    clear hb2
    clear h_below0
    have s_below := h_below.size
    go_wp2_with fail
    refine Dr.cut_calls (fun X => (Below w.heap.size w X) ∧ (Row X (X2.heap.size) 25 [.int .i64 a2, .int .i64 s2])) ⟨(by repeat' (first | (with_reducible exact Below.refl _ _) | (with_reducible refine Below.alloc ?_ ?_ _) | (with_reducible refine Below.setCell ?_ ?_ _) | (with_reducible refine Below.drew ?_) | (with_reducible refine Below.trans ?_ (Below.mono (by with_reducible assumption) ?_)) | omega | (simp; done) | (simp; omega))), (by first | exact Row.new _ _ _ | exact (Row.new _ _ _).to (by repeat' (first | (with_reducible exact Below.refl _ _) | (with_reducible refine Below.alloc ?_ ?_ _) | (with_reducible refine Below.setCell ?_ ?_ _) | (with_reducible refine Below.drew ?_) | (with_reducible refine Below.trans ?_ (Below.mono (by with_reducible assumption) ?_)) | omega | (simp; done) | (simp; omega))) | exact row_new_at _ _ _ _ (by simp) | exact (row_new_at _ _ _ _ (by simp)).to (by repeat' (first | (with_reducible exact Below.refl _ _) | (with_reducible refine Below.alloc ?_ ?_ _) | (with_reducible refine Below.setCell ?_ ?_ _) | (with_reducible refine Below.drew ?_) | (with_reducible refine Below.trans ?_ (Below.mono (by with_reducible assumption) ?_)) | omega | (simp; done) | (simp; omega))))⟩ ?_
    clear h_below s_below
    obtain ⟨BX3, hBX3⟩ : ∃ B, X2.heap.size = B := ⟨_, rfl⟩
    simp only [hBX3]
    clear hBX3
    rintro Y3 ⟨h_below, h_x⟩
    refine (HX.out _ (Lib.hid (ht.out.to h_below))).mono ?_
    rintro e X3 ⟨rfl, hb3⟩
    have h_below0 := h_below
    replace h_below := h_below.trans (hb3.mono h_below.size)
    replace h_x := Row.to h_x hb3
    clear hb3
    clear h_below0
    have s_below := h_below.size
    have l_x := Row.lt h_x
    have z_x := Row.frozen h_x
    obtain ⟨c_x0, c_x1⟩ := row2c h_x
    go_wp2_with fail
    refine Dr.cut_calls (fun X => (Below w.heap.size w X) ∧ (Row X (BX3) 25 [.int .i64 a2, .int .i64 s2])) ⟨(by repeat' (first | (with_reducible exact Below.refl _ _) | (with_reducible refine Below.alloc ?_ ?_ _) | (with_reducible refine Below.setCell ?_ ?_ _) | (with_reducible refine Below.drew ?_) | (with_reducible refine Below.trans ?_ (Below.mono (by with_reducible assumption) ?_)) | omega | (simp; done) | (simp; omega))), (Row.to h_x (by repeat' (first | (with_reducible exact Below.refl _ _) | (with_reducible refine Below.alloc ?_ ?_ _) | (with_reducible refine Below.setCell ?_ ?_ _) | (with_reducible refine Below.drew ?_) | (with_reducible refine Below.trans ?_ (Below.mono (by with_reducible assumption) ?_)) | omega | (simp; done) | (simp; omega))))⟩ ?_
    clear h_below s_below h_x l_x z_x c_x0 c_x1
    rintro Y4 ⟨h_below, h_x⟩
    refine (HS.out _).mono ?_
    rintro e X4 ⟨rfl, hb4⟩
    have h_below0 := h_below
    replace h_below := h_below.trans (hb4.mono h_below.size)
    replace h_x := Row.to h_x hb4
    clear hb4
    clear h_below0
    have s_below := h_below.size
    have l_x := Row.lt h_x
    have z_x := Row.frozen h_x
    obtain ⟨c_x0, c_x1⟩ := row2c h_x
    go_upto_region 15 with (fail)
    exact FnBrines_p10 A n c w _ hn hB (h_below.trans (by repeat' (first | (with_reducible exact Below.refl _ _) | (with_reducible refine Below.alloc ?_ ?_ _) | (with_reducible refine Below.setCell ?_ ?_ _) | (with_reducible refine Below.drew ?_) | (with_reducible refine Below.trans ?_ (Below.mono (by with_reducible assumption) ?_)) | omega | (simp; done) | (simp; omega)))) ht hm _ (by assumption)
  · have HX := Lib.hid (fun W h1 => iBrineText_yes 0 0 W h1 (by decide))
    obtain ⟨Z, hZ⟩ : ∃ Z, brS 0 0 = Z := ⟨_, rfl⟩
    rw [hZ] at HX
    clear hZ
    refine Dr.cut_calls (fun X => (Below w.heap.size w X)) ((by repeat' (first | (with_reducible exact Below.refl _ _) | (with_reducible refine Below.alloc ?_ ?_ _) | (with_reducible refine Below.setCell ?_ ?_ _) | (with_reducible refine Below.drew ?_) | (with_reducible refine Below.trans ?_ (Below.mono (by with_reducible assumption) ?_)) | omega | (simp; done) | (simp; omega)))) ?_
    clear h_below s_below
    intro Y2 h_below
    refine (iParse_no S _ (Lib.hid (ht.out.to h_below)) (Lib.hid (hm.out.to h_below)) hS hT).mono ?_
    rintro e X2 ⟨rfl, hb2⟩
    have h_below0 := h_below
    replace h_below := h_below.trans (hb2.mono h_below.size)
    clear hb2
    clear h_below0
    have s_below := h_below.size
    go_wp2_with fail
    refine Dr.cut_calls (fun X => (Below w.heap.size w X) ∧ (Row X (X2.heap.size) 25 [.int .i64 0, .int .i64 0])) ⟨(by repeat' (first | (with_reducible exact Below.refl _ _) | (with_reducible refine Below.alloc ?_ ?_ _) | (with_reducible refine Below.setCell ?_ ?_ _) | (with_reducible refine Below.drew ?_) | (with_reducible refine Below.trans ?_ (Below.mono (by with_reducible assumption) ?_)) | omega | (simp; done) | (simp; omega))), (by first | exact Row.new _ _ _ | exact (Row.new _ _ _).to (by repeat' (first | (with_reducible exact Below.refl _ _) | (with_reducible refine Below.alloc ?_ ?_ _) | (with_reducible refine Below.setCell ?_ ?_ _) | (with_reducible refine Below.drew ?_) | (with_reducible refine Below.trans ?_ (Below.mono (by with_reducible assumption) ?_)) | omega | (simp; done) | (simp; omega))) | exact row_new_at _ _ _ _ (by simp) | exact (row_new_at _ _ _ _ (by simp)).to (by repeat' (first | (with_reducible exact Below.refl _ _) | (with_reducible refine Below.alloc ?_ ?_ _) | (with_reducible refine Below.setCell ?_ ?_ _) | (with_reducible refine Below.drew ?_) | (with_reducible refine Below.trans ?_ (Below.mono (by with_reducible assumption) ?_)) | omega | (simp; done) | (simp; omega))))⟩ ?_
    clear h_below s_below
    obtain ⟨BX3, hBX3⟩ : ∃ B, X2.heap.size = B := ⟨_, rfl⟩
    simp only [hBX3]
    clear hBX3
    rintro Y3 ⟨h_below, h_x⟩
    refine (HX.out _ (Lib.hid (ht.out.to h_below))).mono ?_
    rintro e X3 ⟨rfl, hb3⟩
    have h_below0 := h_below
    replace h_below := h_below.trans (hb3.mono h_below.size)
    replace h_x := Row.to h_x hb3
    clear hb3
    clear h_below0
    have s_below := h_below.size
    have l_x := Row.lt h_x
    have z_x := Row.frozen h_x
    obtain ⟨c_x0, c_x1⟩ := row2c h_x
    go_wp2_with fail
    refine Dr.cut_calls (fun X => (Below w.heap.size w X) ∧ (Row X (BX3) 25 [.int .i64 0, .int .i64 0])) ⟨(by repeat' (first | (with_reducible exact Below.refl _ _) | (with_reducible refine Below.alloc ?_ ?_ _) | (with_reducible refine Below.setCell ?_ ?_ _) | (with_reducible refine Below.drew ?_) | (with_reducible refine Below.trans ?_ (Below.mono (by with_reducible assumption) ?_)) | omega | (simp; done) | (simp; omega))), (Row.to h_x (by repeat' (first | (with_reducible exact Below.refl _ _) | (with_reducible refine Below.alloc ?_ ?_ _) | (with_reducible refine Below.setCell ?_ ?_ _) | (with_reducible refine Below.drew ?_) | (with_reducible refine Below.trans ?_ (Below.mono (by with_reducible assumption) ?_)) | omega | (simp; done) | (simp; omega))))⟩ ?_
    clear h_below s_below h_x l_x z_x c_x0 c_x1
    rintro Y4 ⟨h_below, h_x⟩
    refine (sParse_no S _ hS hT).mono ?_
    rintro e X4 ⟨rfl, hb4⟩
    have h_below0 := h_below
    replace h_below := h_below.trans (hb4.mono h_below.size)
    replace h_x := Row.to h_x hb4
    clear hb4
    clear h_below0
    have s_below := h_below.size
    have l_x := Row.lt h_x
    have z_x := Row.frozen h_x
    obtain ⟨c_x0, c_x1⟩ := row2c h_x
    go_upto_region 15 with (fail)
    exact FnBrines_p10 A n c w _ hn hB (h_below.trans (by repeat' (first | (with_reducible exact Below.refl _ _) | (with_reducible refine Below.alloc ?_ ?_ _) | (with_reducible refine Below.setCell ?_ ?_ _) | (with_reducible refine Below.drew ?_) | (with_reducible refine Below.trans ?_ (Below.mono (by with_reducible assumption) ?_)) | omega | (simp; done) | (simp; omega)))) ht hm _ (by assumption)
set_option maxRecDepth 100000 in
set_option maxHeartbeats 40000000 in
theorem FnBrines_law (A : Option Addr) (n c : Nat) (w : World) (hB : Byt w w.heap.size A n) (ht : Hid (Tab w)) (hm : Hid (MxL w)) :
    Calls Tryd.prog 3 #[.slice A n c] w fun e w' => e = .returned (.bool true) ∧ Below w.heap.size w w' := by
  by_cases hn : n ≤ 65536
  · have hn' : ¬ 65536 < n := by omega
    go_enter Tryd.func3, Tryd.ntmps3
    go_wp2_with (first | (go_at_call 4; refine (vBig_any _ _ _ _).mono ?_; rintro e wX ⟨rfl, rfl⟩))
    refine Dr.cut_calls (fun X => (Below w.heap.size w X)) ((by repeat' (first | (with_reducible exact Below.refl _ _) | (with_reducible refine Below.alloc ?_ ?_ _) | (with_reducible refine Below.setCell ?_ ?_ _) | (with_reducible refine Below.drew ?_) | (with_reducible refine Below.trans ?_ (Below.mono (by with_reducible assumption) ?_)) | omega | (simp; done) | (simp; omega)))) ?_
    intro Y1 h_below
    refine (dBrineText_any _ _ _ _ hn (Dr.byt_more (hB.below h_below) h_below.size)).mono ?_
    rintro e X1 ⟨aB, sB, rfl, hb1⟩
    have h_below0 := h_below
    replace h_below := h_below.trans (hb1.mono h_below.size)
    clear hb1
    clear h_below0
    have s_below := h_below.size
    go_wp2_with fail
    cases hK : (inB aB 0 1000000 && inB sB 0 1000000)
    · have HC := Lib.hid (fun W => isBrine_any aB sB W)
      have HI := Lib.hid (fun W => iBrineText_no aB sB W hK)
      have HS := Lib.hid (fun W => sBrineText_no aB sB W hK)
      rw [hK] at HC
      clear hK
      refine Dr.cut_calls (fun X => (Below w.heap.size w X) ∧ (Row X (X1.heap.size) 25 [.int .i64 aB, .int .i64 sB])) ⟨(by repeat' (first | (with_reducible exact Below.refl _ _) | (with_reducible refine Below.alloc ?_ ?_ _) | (with_reducible refine Below.setCell ?_ ?_ _) | (with_reducible refine Below.drew ?_) | (with_reducible refine Below.trans ?_ (Below.mono (by with_reducible assumption) ?_)) | omega | (simp; done) | (simp; omega))), (by first | exact Row.new _ _ _ | exact (Row.new _ _ _).to (by repeat' (first | (with_reducible exact Below.refl _ _) | (with_reducible refine Below.alloc ?_ ?_ _) | (with_reducible refine Below.setCell ?_ ?_ _) | (with_reducible refine Below.drew ?_) | (with_reducible refine Below.trans ?_ (Below.mono (by with_reducible assumption) ?_)) | omega | (simp; done) | (simp; omega))) | exact row_new_at _ _ _ _ (by simp) | exact (row_new_at _ _ _ _ (by simp)).to (by repeat' (first | (with_reducible exact Below.refl _ _) | (with_reducible refine Below.alloc ?_ ?_ _) | (with_reducible refine Below.setCell ?_ ?_ _) | (with_reducible refine Below.drew ?_) | (with_reducible refine Below.trans ?_ (Below.mono (by with_reducible assumption) ?_)) | omega | (simp; done) | (simp; omega))))⟩ ?_
      clear h_below s_below
      obtain ⟨BX2, hBX2⟩ : ∃ B, X1.heap.size = B := ⟨_, rfl⟩
      simp only [hBX2]
      clear hBX2
      rintro Y2 ⟨h_below, h_b⟩
      refine (HI.out _).mono ?_
      rintro e X2 ⟨rfl, hb2⟩
      have h_below0 := h_below
      replace h_below := h_below.trans (hb2.mono h_below.size)
      replace h_b := Row.to h_b hb2
      clear hb2
      clear h_below0
      have s_below := h_below.size
      have l_b := Row.lt h_b
      have z_b := Row.frozen h_b
      obtain ⟨c_b0, c_b1⟩ := row2c h_b
      go_wp2_with fail
      refine Dr.cut_calls (fun X => (Below w.heap.size w X) ∧ (Row X (BX2) 25 [.int .i64 aB, .int .i64 sB])) ⟨(by repeat' (first | (with_reducible exact Below.refl _ _) | (with_reducible refine Below.alloc ?_ ?_ _) | (with_reducible refine Below.setCell ?_ ?_ _) | (with_reducible refine Below.drew ?_) | (with_reducible refine Below.trans ?_ (Below.mono (by with_reducible assumption) ?_)) | omega | (simp; done) | (simp; omega))), (Row.to h_b (by repeat' (first | (with_reducible exact Below.refl _ _) | (with_reducible refine Below.alloc ?_ ?_ _) | (with_reducible refine Below.setCell ?_ ?_ _) | (with_reducible refine Below.drew ?_) | (with_reducible refine Below.trans ?_ (Below.mono (by with_reducible assumption) ?_)) | omega | (simp; done) | (simp; omega))))⟩ ?_
      clear h_below s_below h_b l_b z_b c_b0 c_b1
      rintro Y3 ⟨h_below, h_b⟩
      refine (iParse_no ⟨#[]⟩ _ (Lib.hid (ht.out.to h_below)) (Lib.hid (hm.out.to h_below)) (by decide) brt_empty).mono ?_
      rintro e X3 ⟨rfl, hb3⟩
      have h_below0 := h_below
      replace h_below := h_below.trans (hb3.mono h_below.size)
      replace h_b := Row.to h_b hb3
      clear hb3
      clear h_below0
      have s_below := h_below.size
      have l_b := Row.lt h_b
      have z_b := Row.frozen h_b
      obtain ⟨c_b0, c_b1⟩ := row2c h_b
      go_wp2_with fail
      refine Dr.cut_calls (fun X => (Below w.heap.size w X) ∧ (Row X (BX2) 25 [.int .i64 aB, .int .i64 sB]) ∧ (Row X (X3.heap.size) 25 [.int .i64 0, .int .i64 0])) ⟨(by repeat' (first | (with_reducible exact Below.refl _ _) | (with_reducible refine Below.alloc ?_ ?_ _) | (with_reducible refine Below.setCell ?_ ?_ _) | (with_reducible refine Below.drew ?_) | (with_reducible refine Below.trans ?_ (Below.mono (by with_reducible assumption) ?_)) | omega | (simp; done) | (simp; omega))), (Row.to h_b (by repeat' (first | (with_reducible exact Below.refl _ _) | (with_reducible refine Below.alloc ?_ ?_ _) | (with_reducible refine Below.setCell ?_ ?_ _) | (with_reducible refine Below.drew ?_) | (with_reducible refine Below.trans ?_ (Below.mono (by with_reducible assumption) ?_)) | omega | (simp; done) | (simp; omega)))), (by first | exact Row.new _ _ _ | exact (Row.new _ _ _).to (by repeat' (first | (with_reducible exact Below.refl _ _) | (with_reducible refine Below.alloc ?_ ?_ _) | (with_reducible refine Below.setCell ?_ ?_ _) | (with_reducible refine Below.drew ?_) | (with_reducible refine Below.trans ?_ (Below.mono (by with_reducible assumption) ?_)) | omega | (simp; done) | (simp; omega))) | exact row_new_at _ _ _ _ (by simp) | exact (row_new_at _ _ _ _ (by simp)).to (by repeat' (first | (with_reducible exact Below.refl _ _) | (with_reducible refine Below.alloc ?_ ?_ _) | (with_reducible refine Below.setCell ?_ ?_ _) | (with_reducible refine Below.drew ?_) | (with_reducible refine Below.trans ?_ (Below.mono (by with_reducible assumption) ?_)) | omega | (simp; done) | (simp; omega))))⟩ ?_
      clear h_below s_below h_b l_b z_b c_b0 c_b1
      obtain ⟨BX4, hBX4⟩ : ∃ B, X3.heap.size = B := ⟨_, rfl⟩
      simp only [hBX4]
      clear hBX4
      rintro Y4 ⟨h_below, h_b, h_bk⟩
      refine (HS.out _).mono ?_
      rintro e X4 ⟨rfl, hb4⟩
      have h_below0 := h_below
      replace h_below := h_below.trans (hb4.mono h_below.size)
      replace h_b := Row.to h_b hb4
      replace h_bk := Row.to h_bk hb4
      clear hb4
      clear h_below0
      have s_below := h_below.size
      have l_b := Row.lt h_b
      have z_b := Row.frozen h_b
      obtain ⟨c_b0, c_b1⟩ := row2c h_b
      have l_bk := Row.lt h_bk
      have z_bk := Row.frozen h_bk
      obtain ⟨c_bk0, c_bk1⟩ := row2c h_bk
      go_wp2_with fail
      refine Dr.cut_calls (fun X => (Below w.heap.size w X) ∧ (Row X (BX2) 25 [.int .i64 aB, .int .i64 sB]) ∧ (Row X (BX4) 25 [.int .i64 0, .int .i64 0])) ⟨(by repeat' (first | (with_reducible exact Below.refl _ _) | (with_reducible refine Below.alloc ?_ ?_ _) | (with_reducible refine Below.setCell ?_ ?_ _) | (with_reducible refine Below.drew ?_) | (with_reducible refine Below.trans ?_ (Below.mono (by with_reducible assumption) ?_)) | omega | (simp; done) | (simp; omega))), (Row.to h_b (by repeat' (first | (with_reducible exact Below.refl _ _) | (with_reducible refine Below.alloc ?_ ?_ _) | (with_reducible refine Below.setCell ?_ ?_ _) | (with_reducible refine Below.drew ?_) | (with_reducible refine Below.trans ?_ (Below.mono (by with_reducible assumption) ?_)) | omega | (simp; done) | (simp; omega)))), (Row.to h_bk (by repeat' (first | (with_reducible exact Below.refl _ _) | (with_reducible refine Below.alloc ?_ ?_ _) | (with_reducible refine Below.setCell ?_ ?_ _) | (with_reducible refine Below.drew ?_) | (with_reducible refine Below.trans ?_ (Below.mono (by with_reducible assumption) ?_)) | omega | (simp; done) | (simp; omega))))⟩ ?_
      clear h_below s_below h_b l_b z_b c_b0 c_b1 h_bk l_bk z_bk c_bk0 c_bk1
      rintro Y5 ⟨h_below, h_b, h_bk⟩
      refine (HC.out _).mono ?_
      rintro e X5 ⟨rfl, hb5⟩
      have h_below0 := h_below
      replace h_below := h_below.trans (hb5.mono h_below.size)
      replace h_b := Row.to h_b hb5
      replace h_bk := Row.to h_bk hb5
      clear hb5
      clear h_below0
      have s_below := h_below.size
      have l_b := Row.lt h_b
      have z_b := Row.frozen h_b
      obtain ⟨c_b0, c_b1⟩ := row2c h_b
      have l_bk := Row.lt h_bk
      have z_bk := Row.frozen h_bk
      obtain ⟨c_bk0, c_bk1⟩ := row2c h_bk
      go_upto_region 9 with (fail)
      exact FnBrines_p6 A n c w _ hn hB (h_below.trans (by repeat' (first | (with_reducible exact Below.refl _ _) | (with_reducible refine Below.alloc ?_ ?_ _) | (with_reducible refine Below.setCell ?_ ?_ _) | (with_reducible refine Below.drew ?_) | (with_reducible refine Below.trans ?_ (Below.mono (by with_reducible assumption) ?_)) | omega | (simp; done) | (simp; omega)))) ht hm _ (by assumption)
    · have HC := Lib.hid (fun W => isBrine_any aB sB W)
      have HI := Lib.hid (fun W h1 => iBrineText_yes aB sB W h1 hK)
      have HP := Lib.hid (fun W h1 h2 => iParse_yes aB sB W h1 h2 hK)
      have HS := Lib.hid (fun W => sBrineText_yes aB sB W hK)
      rw [hK] at HC
      obtain ⟨Z, hZ⟩ : ∃ Z, brS aB sB = Z := ⟨_, rfl⟩
      rw [hZ] at HI HP HS
      clear hZ hK
      refine Dr.cut_calls (fun X => (Below w.heap.size w X) ∧ (Row X (X1.heap.size) 25 [.int .i64 aB, .int .i64 sB])) ⟨(by repeat' (first | (with_reducible exact Below.refl _ _) | (with_reducible refine Below.alloc ?_ ?_ _) | (with_reducible refine Below.setCell ?_ ?_ _) | (with_reducible refine Below.drew ?_) | (with_reducible refine Below.trans ?_ (Below.mono (by with_reducible assumption) ?_)) | omega | (simp; done) | (simp; omega))), (by first | exact Row.new _ _ _ | exact (Row.new _ _ _).to (by repeat' (first | (with_reducible exact Below.refl _ _) | (with_reducible refine Below.alloc ?_ ?_ _) | (with_reducible refine Below.setCell ?_ ?_ _) | (with_reducible refine Below.drew ?_) | (with_reducible refine Below.trans ?_ (Below.mono (by with_reducible assumption) ?_)) | omega | (simp; done) | (simp; omega))) | exact row_new_at _ _ _ _ (by simp) | exact (row_new_at _ _ _ _ (by simp)).to (by repeat' (first | (with_reducible exact Below.refl _ _) | (with_reducible refine Below.alloc ?_ ?_ _) | (with_reducible refine Below.setCell ?_ ?_ _) | (with_reducible refine Below.drew ?_) | (with_reducible refine Below.trans ?_ (Below.mono (by with_reducible assumption) ?_)) | omega | (simp; done) | (simp; omega))))⟩ ?_
      clear h_below s_below
      obtain ⟨BX2, hBX2⟩ : ∃ B, X1.heap.size = B := ⟨_, rfl⟩
      simp only [hBX2]
      clear hBX2
      rintro Y2 ⟨h_below, h_b⟩
      refine (HI.out _ (Lib.hid (ht.out.to h_below))).mono ?_
      rintro e X2 ⟨rfl, hb2⟩
      have h_below0 := h_below
      replace h_below := h_below.trans (hb2.mono h_below.size)
      replace h_b := Row.to h_b hb2
      clear hb2
      clear h_below0
      have s_below := h_below.size
      have l_b := Row.lt h_b
      have z_b := Row.frozen h_b
      obtain ⟨c_b0, c_b1⟩ := row2c h_b
      go_wp2_with fail
      refine Dr.cut_calls (fun X => (Below w.heap.size w X) ∧ (Row X (BX2) 25 [.int .i64 aB, .int .i64 sB])) ⟨(by repeat' (first | (with_reducible exact Below.refl _ _) | (with_reducible refine Below.alloc ?_ ?_ _) | (with_reducible refine Below.setCell ?_ ?_ _) | (with_reducible refine Below.drew ?_) | (with_reducible refine Below.trans ?_ (Below.mono (by with_reducible assumption) ?_)) | omega | (simp; done) | (simp; omega))), (Row.to h_b (by repeat' (first | (with_reducible exact Below.refl _ _) | (with_reducible refine Below.alloc ?_ ?_ _) | (with_reducible refine Below.setCell ?_ ?_ _) | (with_reducible refine Below.drew ?_) | (with_reducible refine Below.trans ?_ (Below.mono (by with_reducible assumption) ?_)) | omega | (simp; done) | (simp; omega))))⟩ ?_
      clear h_below s_below h_b l_b z_b c_b0 c_b1
      rintro Y3 ⟨h_below, h_b⟩
      refine (HP.out _ (Lib.hid (ht.out.to h_below)) (Lib.hid (hm.out.to h_below))).mono ?_
      rintro e X3 ⟨rfl, hb3⟩
      have h_below0 := h_below
      replace h_below := h_below.trans (hb3.mono h_below.size)
      replace h_b := Row.to h_b hb3
      clear hb3
      clear h_below0
      have s_below := h_below.size
      have l_b := Row.lt h_b
      have z_b := Row.frozen h_b
      obtain ⟨c_b0, c_b1⟩ := row2c h_b
      go_wp2_with fail
      refine Dr.cut_calls (fun X => (Below w.heap.size w X) ∧ (Row X (BX2) 25 [.int .i64 aB, .int .i64 sB]) ∧ (Row X (X3.heap.size) 25 [.int .i64 aB, .int .i64 sB])) ⟨(by repeat' (first | (with_reducible exact Below.refl _ _) | (with_reducible refine Below.alloc ?_ ?_ _) | (with_reducible refine Below.setCell ?_ ?_ _) | (with_reducible refine Below.drew ?_) | (with_reducible refine Below.trans ?_ (Below.mono (by with_reducible assumption) ?_)) | omega | (simp; done) | (simp; omega))), (Row.to h_b (by repeat' (first | (with_reducible exact Below.refl _ _) | (with_reducible refine Below.alloc ?_ ?_ _) | (with_reducible refine Below.setCell ?_ ?_ _) | (with_reducible refine Below.drew ?_) | (with_reducible refine Below.trans ?_ (Below.mono (by with_reducible assumption) ?_)) | omega | (simp; done) | (simp; omega)))), (by first | exact Row.new _ _ _ | exact (Row.new _ _ _).to (by repeat' (first | (with_reducible exact Below.refl _ _) | (with_reducible refine Below.alloc ?_ ?_ _) | (with_reducible refine Below.setCell ?_ ?_ _) | (with_reducible refine Below.drew ?_) | (with_reducible refine Below.trans ?_ (Below.mono (by with_reducible assumption) ?_)) | omega | (simp; done) | (simp; omega))) | exact row_new_at _ _ _ _ (by simp) | exact (row_new_at _ _ _ _ (by simp)).to (by repeat' (first | (with_reducible exact Below.refl _ _) | (with_reducible refine Below.alloc ?_ ?_ _) | (with_reducible refine Below.setCell ?_ ?_ _) | (with_reducible refine Below.drew ?_) | (with_reducible refine Below.trans ?_ (Below.mono (by with_reducible assumption) ?_)) | omega | (simp; done) | (simp; omega))))⟩ ?_
      clear h_below s_below h_b l_b z_b c_b0 c_b1
      obtain ⟨BX4, hBX4⟩ : ∃ B, X3.heap.size = B := ⟨_, rfl⟩
      simp only [hBX4]
      clear hBX4
      rintro Y4 ⟨h_below, h_b, h_bk⟩
      refine (HS.out _).mono ?_
      rintro e X4 ⟨rfl, hb4⟩
      have h_below0 := h_below
      replace h_below := h_below.trans (hb4.mono h_below.size)
      replace h_b := Row.to h_b hb4
      replace h_bk := Row.to h_bk hb4
      clear hb4
      clear h_below0
      have s_below := h_below.size
      have l_b := Row.lt h_b
      have z_b := Row.frozen h_b
      obtain ⟨c_b0, c_b1⟩ := row2c h_b
      have l_bk := Row.lt h_bk
      have z_bk := Row.frozen h_bk
      obtain ⟨c_bk0, c_bk1⟩ := row2c h_bk
      go_wp2_with fail
      refine Dr.cut_calls (fun X => (Below w.heap.size w X) ∧ (Row X (BX2) 25 [.int .i64 aB, .int .i64 sB]) ∧ (Row X (BX4) 25 [.int .i64 aB, .int .i64 sB])) ⟨(by repeat' (first | (with_reducible exact Below.refl _ _) | (with_reducible refine Below.alloc ?_ ?_ _) | (with_reducible refine Below.setCell ?_ ?_ _) | (with_reducible refine Below.drew ?_) | (with_reducible refine Below.trans ?_ (Below.mono (by with_reducible assumption) ?_)) | omega | (simp; done) | (simp; omega))), (Row.to h_b (by repeat' (first | (with_reducible exact Below.refl _ _) | (with_reducible refine Below.alloc ?_ ?_ _) | (with_reducible refine Below.setCell ?_ ?_ _) | (with_reducible refine Below.drew ?_) | (with_reducible refine Below.trans ?_ (Below.mono (by with_reducible assumption) ?_)) | omega | (simp; done) | (simp; omega)))), (Row.to h_bk (by repeat' (first | (with_reducible exact Below.refl _ _) | (with_reducible refine Below.alloc ?_ ?_ _) | (with_reducible refine Below.setCell ?_ ?_ _) | (with_reducible refine Below.drew ?_) | (with_reducible refine Below.trans ?_ (Below.mono (by with_reducible assumption) ?_)) | omega | (simp; done) | (simp; omega))))⟩ ?_
      clear h_below s_below h_b l_b z_b c_b0 c_b1 h_bk l_bk z_bk c_bk0 c_bk1
      rintro Y5 ⟨h_below, h_b, h_bk⟩
      refine (HC.out _).mono ?_
      rintro e X5 ⟨rfl, hb5⟩
      have h_below0 := h_below
      replace h_below := h_below.trans (hb5.mono h_below.size)
      replace h_b := Row.to h_b hb5
      replace h_bk := Row.to h_bk hb5
      clear hb5
      clear h_below0
      have s_below := h_below.size
      have l_b := Row.lt h_b
      have z_b := Row.frozen h_b
      obtain ⟨c_b0, c_b1⟩ := row2c h_b
      have l_bk := Row.lt h_bk
      have z_bk := Row.frozen h_bk
      obtain ⟨c_bk0, c_bk1⟩ := row2c h_bk
      go_upto_region 9 with (fail)
      exact FnBrines_p6 A n c w _ hn hB (h_below.trans (by repeat' (first | (with_reducible exact Below.refl _ _) | (with_reducible refine Below.alloc ?_ ?_ _) | (with_reducible refine Below.setCell ?_ ?_ _) | (with_reducible refine Below.drew ?_) | (with_reducible refine Below.trans ?_ (Below.mono (by with_reducible assumption) ?_)) | omega | (simp; done) | (simp; omega)))) ht hm _ (by assumption)
  · have hn' : 65536 < n := by omega
    go_enter Tryd.func3, Tryd.ntmps3
    go_wp2_with (first | (go_at_call 4; refine (vBig_any _ _ _ _).mono ?_; rintro e wX ⟨rfl, rfl⟩))
    go_ret
    exact ⟨rfl, (by repeat' (first | (with_reducible exact Below.refl _ _) | (with_reducible refine Below.alloc ?_ ?_ _) | (with_reducible refine Below.setCell ?_ ?_ _) | (with_reducible refine Below.drew ?_) | (with_reducible refine Below.trans ?_ (Below.mono (by with_reducible assumption) ?_)) | omega | (simp; done) | (simp; omega)))⟩
end Go.Proofs.YtocaodoagiokjaaDoor
