/- The law FnPoolCrops: the sun that gives a crop, the rain that ends it. -/
import Derived.Test.YtmfahekkcgnndaaDoorDrCrp
import Derived.Test.YtmfahekkcgnndaaDoorLawKit
import Derived.Test.YtmfahekkcgnndaaDoorCropMath
import Derived.Test.YtmfahekkcgnndaaDoorPtextLaw
set_option linter.unusedSimpArgs false
set_option linter.unusedVariables false
namespace Go.Proofs.YtmfahekkcgnndaaDoor
open Go.RowKit Go.Sort Go.Salt
attribute [local go_sem] cell_rg
open Go.Dr in
theorem dSunToCrop_any (A : Option Addr) (n c : Nat) (w : World) (hn : n ≤ 65536) (hB : Byt w w.heap.size A n) :
    Calls Tryd.prog 9 #[.slice A n c] w fun e w' => ∃ (z1_0 : Int) (z1_1 : Int) (z1_2 : Int) (z1_3 : Int) (z1_4 : Int) (z1_5 : Int) (z1_6 : Int), e = .returned (.agg #[.int .i64 z1_0, .int .i64 z1_1, .int .i64 z1_2, .int .i64 z1_3, .int .i64 z1_4, .int .i64 z1_5, .int .i64 z1_6]) ∧ Below w.heap.size w w' := by
  refine (Dr.draw_calls dSunToCrop_con rfl rfl (by decide) A n c w hn hB).mono ?_
  rintro e w' ⟨v, rfl, hv, hb⟩
  have a1 := Dr.one_of hv
  obtain ⟨g1, rfl, hg1⟩ := agg_of (k := 7) a1
  exact ⟨g1 0, g1 1, g1 2, g1 3, g1 4, g1 5, g1 6, rfl, hb⟩
open Go.Dr in
theorem dRainToMelt_any (A : Option Addr) (n c : Nat) (w : World) (hn : n ≤ 65536) (hB : Byt w w.heap.size A n) :
    Calls Tryd.prog 13 #[.slice A n c] w fun e w' => ∃ (z1_0 : Int) (z1_1 : Int) (z1_2 : Int) (z1_3 : Int) (z1_4 : Int) (z1_5 : Int) (z1_6 : Int), e = .returned (.agg #[.int .i64 z1_0, .int .i64 z1_1, .int .i64 z1_2, .int .i64 z1_3, .int .i64 z1_4, .int .i64 z1_5, .int .i64 z1_6]) ∧ Below w.heap.size w w' := by
  refine (Dr.draw_calls dRainToMelt_con rfl rfl (by decide) A n c w hn hB).mono ?_
  rintro e w' ⟨v, rfl, hv, hb⟩
  have a1 := Dr.one_of hv
  obtain ⟨g1, rfl, hg1⟩ := agg_of (k := 7) a1
  exact ⟨g1 0, g1 1, g1 2, g1 3, g1 4, g1 5, g1 6, rfl, hb⟩
open Go.Dr in
theorem dSaltIn_any (A : Option Addr) (n c : Nat) (w : World) (hn : n ≤ 65536) (hB : Byt w w.heap.size A n) :
    Calls Tryd.prog 16 #[.slice A n c] w fun e w' => ∃ (z1_0 : Int) (z1_1 : Int) (z1_2 : Int) (z1_3 : Int) (z1_4 : Int) (z1_5 : Int) (z1_6 : Int), e = .returned (.agg #[.int .i64 z1_0, .int .i64 z1_1, .int .i64 z1_2, .int .i64 z1_3, .int .i64 z1_4, .int .i64 z1_5, .int .i64 z1_6]) ∧ Below w.heap.size w w' := by
  refine (Dr.draw_calls dSaltIn_con rfl rfl (by decide) A n c w hn hB).mono ?_
  rintro e w' ⟨v, rfl, hv, hb⟩
  have a1 := Dr.one_of hv
  obtain ⟨g1, rfl, hg1⟩ := agg_of (k := 7) a1
  exact ⟨g1 0, g1 1, g1 2, g1 3, g1 4, g1 5, g1 6, rfl, hb⟩
open Go.Dr in
theorem dPoolText_any (A : Option Addr) (n c : Nat) (w : World) (hn : n ≤ 65536) (hB : Byt w w.heap.size A n) :
    Calls Tryd.prog 19 #[.slice A n c] w fun e w' => ∃ (z1_0 : Int) (z1_1 : Int) (z1_2 : Int) (z1_3 : Int) (z1_4 : Int) (z1_5 : Int) (z1_6 : Int), e = .returned (.agg #[.int .i64 z1_0, .int .i64 z1_1, .int .i64 z1_2, .int .i64 z1_3, .int .i64 z1_4, .int .i64 z1_5, .int .i64 z1_6]) ∧ Below w.heap.size w w' := by
  refine (Dr.draw_calls dPoolText_con rfl rfl (by decide) A n c w hn hB).mono ?_
  rintro e w' ⟨v, rfl, hv, hb⟩
  have a1 := Dr.one_of hv
  obtain ⟨g1, rfl, hg1⟩ := agg_of (k := 7) a1
  exact ⟨g1 0, g1 1, g1 2, g1 3, g1 4, g1 5, g1 6, rfl, hb⟩
theorem iStep_at {a0 a1 a2 a3 a4 a5 a6 k v z q0 q1 q2 q3 q4 q5 q6 : Int} {t : Bool} (hQ : Hid (Pl.step ⟨a0, a1, a2, a3, a4, a5, a6⟩ k v z = ⟨q0, q1, q2, q3, q4, q5, q6⟩)) (hT : Hid (Pl.stepB ⟨a0, a1, a2, a3, a4, a5, a6⟩ k v z = t)) (hv : v ≤ 9223372036854775807) (w : World) :
    Calls Tryd.prog 12 #[.agg #[.int .i64 a0, .int .i64 a1, .int .i64 a2, .int .i64 a3, .int .i64 a4, .int .i64 a5, .int .i64 a6], .agg #[.int .i64 k, .int .i64 v, .int .i64 z]] w fun e w' => e = .returned (.tuple #[.agg #[.int .i64 q0, .int .i64 q1, .int .i64 q2, .int .i64 q3, .int .i64 q4, .int .i64 q5, .int .i64 q6], .bool t]) ∧ Below w.heap.size w w' := by
  have h := iStepPool_any a0 a1 a2 a3 a4 a5 a6 k v z w hv
  rw [hQ.out, hT.out] at h
  exact h
theorem iSun_at {a0 a1 a2 a3 a4 a5 a6 n : Int} {t : Bool} (hV : Hid (stcV a0 a1 a2 a3 a4 a5 a6 = n)) (hT : Hid (stcB a0 a1 a2 a3 a4 a5 a6 = t)) (w : World) :
    Calls Tryd.prog 10 #[.agg #[.int .i64 a0, .int .i64 a1, .int .i64 a2, .int .i64 a3, .int .i64 a4, .int .i64 a5, .int .i64 a6]] w fun e w' => e = .returned (.tuple #[.int .i64 n, .bool t]) ∧ Below w.heap.size w w' := by
  have h := sunToCrop_any a0 a1 a2 a3 a4 a5 a6 w
  rw [hV.out, hT.out] at h
  exact h
theorem sSun_at {a0 a1 a2 a3 a4 a5 a6 n : Int} {t : Bool} (hV : Hid (stcV a0 a1 a2 a3 a4 a5 a6 = n)) (hT : Hid (stcB a0 a1 a2 a3 a4 a5 a6 = t)) (w : World) :
    Calls Tryd.prog 11 #[.agg #[.int .i64 a0, .int .i64 a1, .int .i64 a2, .int .i64 a3, .int .i64 a4, .int .i64 a5, .int .i64 a6]] w fun e w' => e = .returned (.tuple #[.int .i64 n, .bool t]) ∧ Below w.heap.size w w' := by
  have h := sSunToCrop_any a0 a1 a2 a3 a4 a5 a6 w
  rw [hV.out, hT.out] at h
  exact h
theorem iRain_at {a0 a1 a2 a3 a4 a5 a6 n : Int} {t : Bool} (hV : Hid (rtmV a0 a1 a2 a3 a4 a5 a6 = n)) (hT : Hid (rtmB a0 a1 a2 a3 a4 a5 a6 = t)) (w : World) :
    Calls Tryd.prog 14 #[.agg #[.int .i64 a0, .int .i64 a1, .int .i64 a2, .int .i64 a3, .int .i64 a4, .int .i64 a5, .int .i64 a6]] w fun e w' => e = .returned (.tuple #[.int .i64 n, .bool t]) ∧ Below w.heap.size w w' := by
  have h := rainToMelt_any a0 a1 a2 a3 a4 a5 a6 w
  rw [hV.out, hT.out] at h
  exact h
theorem sRain_at {a0 a1 a2 a3 a4 a5 a6 n : Int} {t : Bool} (hV : Hid (rtmV a0 a1 a2 a3 a4 a5 a6 = n)) (hT : Hid (rtmB a0 a1 a2 a3 a4 a5 a6 = t)) (w : World) :
    Calls Tryd.prog 15 #[.agg #[.int .i64 a0, .int .i64 a1, .int .i64 a2, .int .i64 a3, .int .i64 a4, .int .i64 a5, .int .i64 a6]] w fun e w' => e = .returned (.tuple #[.int .i64 n, .bool t]) ∧ Below w.heap.size w w' := by
  have h := sRainToMelt_any a0 a1 a2 a3 a4 a5 a6 w
  rw [hV.out, hT.out] at h
  exact h
theorem iSalt_at {a0 a1 a2 a3 a4 a5 a6 n : Int} {t : Bool} (hV : Hid (satV a0 a1 a2 a3 a4 a5 a6 = n)) (hT : Hid (poolOK a0 a1 a2 a3 a4 a5 a6 = t)) (w : World) :
    Calls Tryd.prog 17 #[.agg #[.int .i64 a0, .int .i64 a1, .int .i64 a2, .int .i64 a3, .int .i64 a4, .int .i64 a5, .int .i64 a6]] w fun e w' => e = .returned (.tuple #[.int .i64 n, .bool t]) ∧ Below w.heap.size w w' := by
  have h := saltIn_any a0 a1 a2 a3 a4 a5 a6 w
  rw [hV.out, hT.out] at h
  exact h
theorem sSalt_at {a0 a1 a2 a3 a4 a5 a6 n : Int} {t : Bool} (hV : Hid (satV a0 a1 a2 a3 a4 a5 a6 = n)) (hT : Hid (poolOK a0 a1 a2 a3 a4 a5 a6 = t)) (w : World) :
    Calls Tryd.prog 18 #[.agg #[.int .i64 a0, .int .i64 a1, .int .i64 a2, .int .i64 a3, .int .i64 a4, .int .i64 a5, .int .i64 a6]] w fun e w' => e = .returned (.tuple #[.int .i64 n, .bool t]) ∧ Below w.heap.size w w' := by
  have h := sSaltIn_any a0 a1 a2 a3 a4 a5 a6 w
  rw [hV.out, hT.out] at h
  exact h
theorem iPtext_at {a0 a1 a2 a3 a4 a5 a6 : Int} {s : ByteArray} {t : Bool} (hV : Hid ((if poolOK a0 a1 a2 a3 a4 a5 a6 then ptS a0 a1 a2 a3 a5 else ⟨#[]⟩) = s)) (hT : Hid (poolOK a0 a1 a2 a3 a4 a5 a6 = t)) (w : World) (ht : Hid (Tab w)) :
    Calls Tryd.prog 7 #[.agg #[.int .i64 a0, .int .i64 a1, .int .i64 a2, .int .i64 a3, .int .i64 a4, .int .i64 a5, .int .i64 a6]] w fun e w' => e = .returned (.tuple #[.string s, .bool t]) ∧ Below w.heap.size w w' := by
  have h := iPoolText_any a0 a1 a2 a3 a4 a5 a6 w ht
  rw [hV.out, hT.out] at h
  exact h
theorem sPtext_at {a0 a1 a2 a3 a4 a5 a6 : Int} {s : ByteArray} {t : Bool} (hV : Hid ((if poolOK a0 a1 a2 a3 a4 a5 a6 then ptS a0 a1 a2 a3 a5 else ⟨#[]⟩) = s)) (hT : Hid (poolOK a0 a1 a2 a3 a4 a5 a6 = t)) (w : World) :
    Calls Tryd.prog 5 #[.agg #[.int .i64 a0, .int .i64 a1, .int .i64 a2, .int .i64 a3, .int .i64 a4, .int .i64 a5, .int .i64 a6]] w fun e w' => e = .returned (.tuple #[.string s, .bool t]) ∧ Below w.heap.size w w' := by
  have h := sPoolText_any a0 a1 a2 a3 a4 a5 a6 w 
  rw [hV.out, hT.out] at h
  exact h
theorem isP_at {a0 a1 a2 a3 a4 a5 a6 : Int} {t : Bool} (hT : Hid (poolOK a0 a1 a2 a3 a4 a5 a6 = t)) (w : World) :
    Calls Tryd.prog 20 #[.agg #[.int .i64 a0, .int .i64 a1, .int .i64 a2, .int .i64 a3, .int .i64 a4, .int .i64 a5, .int .i64 a6]] w fun e w' => e = .returned (.bool t) ∧ Below w.heap.size w w' := by
  have h := isPool_any a0 a1 a2 a3 a4 a5 a6 w
  rw [hT.out] at h
  exact h
set_option maxRecDepth 100000 in
set_option maxHeartbeats 40000000 in
theorem FnPoolCrops_p13 {u1 u2 u3 u4 u5 u6 u7 u8 u9 u10 u11 u12 u13 u14 u15 u16 u17 u18 u19 u20 u21 u22 u23 u24 u25 u26 u27 u28 u29 u30 u31 u32 u33 u34 u35 u36 u37 u38 u39 u40 u41 u42 u43 u44 u45 u46 u47 u48 u49 u50 u51 u52 u53 u54 u55 u56 u57 u58 u59 u60 u61 u62 u63 u64 u65 u66 u67 u68 u69 u70 u71 u72 u73 u74 u75 u76 u77 u78 u79 u80 u81 u82 u83 u84 u85 u86 u87 u88 u89 u90 u91 u92 u93 u94 u95 u96 u97 u98 u99 u100 u101 u102 u103 u104 u105 u106 u107 u108 u109 u110 u111 u112 u113 u114 u115 u116 u117 u118 u119 u120 u121 u122 u123 u124 u125 u126 u127 u128 u129 u130 u131 u132 u133 u134 u135 u136 u137 u138 u139 u140 u141 u142 u143 u144 u145 u146 u147 u148 u149 u150 u151 u152 u153 u154 u155 u156 u157 u158 u159 u160 u161 u162 u163 u164 u165 u166 u167 u168 u169 u170 u171 u172 u173 u174 u175 u176 u177 u178 u179 u180 : Value} (A : Option Addr) (n c : Nat) (w wc : World) (hn : n ≤ 65536) (hB : Byt w w.heap.size A n) (h_below : Below w.heap.size w wc) (ht : Hid (Tab w)) (K : Act → World → Prop) (hK : ∀ a w1, (tailOf 14 (Tryd.f4.body.getD .skip)).wp Tryd.prog (bodyPost Tryd.prog Tryd.f4 fun e w' => e = .returned (.bool true) ∧ Below w.heap.size w w') a w1 → K a w1) :
    (headOf (tailOf 13 (Tryd.f4.body.getD .skip))).wp Tryd.prog (Exit.then K (bodyPost Tryd.prog Tryd.f4 fun e w' => e = .returned (.bool true) ∧ Below w.heap.size w w')) ⟨#[.slice A n c, u1, u2, u3, u4, u5, u6, u7, u8, u9, u10, u11, u12, u13, u14, u15, u16, u17, u18, u19, u20, u21, u22, u23, u24, u25, u26, u27, u28, u29, u30, u31, u32, u33, u34, u35, u36, u37, u38, u39, u40, u41, u42, u43, u44, u45, u46, u47, u48, u49, u50, u51, u52, u53, u54, u55, u56, u57, u58, u59, u60, u61, u62, u63, u64, u65, u66, u67, u68, u69, u70, u71, u72, u73, u74, u75, u76, u77, u78, u79, u80, u81, u82, u83, u84, u85, u86, u87, u88, u89, u90, u91, u92, u93, u94, u95, u96, u97, u98, u99, u100, u101, u102, u103, u104, u105, u106, u107, u108, u109, u110, u111, u112, u113, u114, u115, u116, u117, u118, u119, u120, u121, u122, u123, u124, u125, u126, u127, u128, u129, u130, u131, u132, u133, u134, u135, u136, u137, u138, u139, u140, u141, u142, u143, u144, u145, u146, u147, u148, u149, u150, u151, u152, u153, u154, u155, u156, u157, u158, u159, u160, u161, u162, u163, u164, u165, u166, u167, u168, u169, u170, u171, u172, u173, u174, u175, u176, u177, u178, u179, u180], []⟩ wc := by
  have s_below := h_below.size
  simp only [tailOf, headOf, Option.getD, Tryd.f4] at hK ⊢
  go_wp2_with fail
  refine Dr.cut_calls (fun X => (Below w.heap.size w X)) ((by repeat' (first | (with_reducible exact Below.refl _ _) | (with_reducible refine Below.alloc ?_ ?_ _) | (with_reducible refine Below.setCell ?_ ?_ _) | (with_reducible refine Below.drew ?_) | (with_reducible refine Below.trans ?_ (Below.mono (by with_reducible assumption) ?_)) | omega | (simp; done) | (simp; omega)))) ?_
  clear h_below s_below
  intro Y1 h_below
  refine (dPoolText_any _ _ _ _ hn (Dr.byt_more (hB.below h_below) h_below.size)).mono ?_
  rintro e X1 ⟨z1_0, z1_1, z1_2, z1_3, z1_4, z1_5, z1_6, rfl, hb1⟩
  have h_below0 := h_below
  replace h_below := h_below.trans (hb1.mono h_below.size)
  clear hb1
  clear h_below0
  have s_below := h_below.size
  go_wp2_with fail
  refine Dr.cut_calls (fun X => (Below w.heap.size w X) ∧ (Row X (X1.heap.size) 30 [.int .i64 z1_0, .int .i64 z1_1, .int .i64 z1_2, .int .i64 z1_3, .int .i64 z1_4, .int .i64 z1_5, .int .i64 z1_6])) ⟨(by repeat' (first | (with_reducible exact Below.refl _ _) | (with_reducible refine Below.alloc ?_ ?_ _) | (with_reducible refine Below.setCell ?_ ?_ _) | (with_reducible refine Below.drew ?_) | (with_reducible refine Below.trans ?_ (Below.mono (by with_reducible assumption) ?_)) | omega | (simp; done) | (simp; omega))), (by first | exact Row.new _ _ _ | exact (Row.new _ _ _).to (by repeat' (first | (with_reducible exact Below.refl _ _) | (with_reducible refine Below.alloc ?_ ?_ _) | (with_reducible refine Below.setCell ?_ ?_ _) | (with_reducible refine Below.drew ?_) | (with_reducible refine Below.trans ?_ (Below.mono (by with_reducible assumption) ?_)) | omega | (simp; done) | (simp; omega))) | exact row_new_at _ _ _ _ (by simp) | exact (row_new_at _ _ _ _ (by simp)).to (by repeat' (first | (with_reducible exact Below.refl _ _) | (with_reducible refine Below.alloc ?_ ?_ _) | (with_reducible refine Below.setCell ?_ ?_ _) | (with_reducible refine Below.drew ?_) | (with_reducible refine Below.trans ?_ (Below.mono (by with_reducible assumption) ?_)) | omega | (simp; done) | (simp; omega))))⟩ ?_
  clear h_below s_below
  obtain ⟨BX2, hBX2⟩ : ∃ B, X1.heap.size = B := ⟨_, rfl⟩
  simp only [hBX2]
  clear hBX2
  rintro Y2 ⟨h_below, h_p⟩
  obtain ⟨s_, hV⟩ : ∃ s_, (if poolOK z1_0 z1_1 z1_2 z1_3 z1_4 z1_5 z1_6 then ptS z1_0 z1_1 z1_2 z1_3 z1_5 else ⟨#[]⟩) = s_ := ⟨_, rfl⟩
  obtain ⟨t, hT⟩ : ∃ t, poolOK z1_0 z1_1 z1_2 z1_3 z1_4 z1_5 z1_6 = t := ⟨_, rfl⟩
  have hV := Lib.hid hV
  have hT := Lib.hid hT
  refine (iPtext_at hV hT _ (Lib.hid (ht.out.to h_below))).mono ?_
  rintro e X2 ⟨rfl, hb2⟩
  have h_below0 := h_below
  replace h_below := h_below.trans (hb2.mono h_below.size)
  replace h_p := Row.to h_p hb2
  clear hb2
  clear h_below0
  have s_below := h_below.size
  have l_p := Row.lt h_p
  have z_p := Row.frozen h_p
  obtain ⟨c_p0, c_p1, c_p2, c_p3, c_p4, c_p5, c_p6⟩ := row7c h_p
  go_wp2_with fail
  refine Dr.cut_calls (fun X => (Below w.heap.size w X) ∧ (Row X (BX2) 30 [.int .i64 z1_0, .int .i64 z1_1, .int .i64 z1_2, .int .i64 z1_3, .int .i64 z1_4, .int .i64 z1_5, .int .i64 z1_6])) ⟨(by repeat' (first | (with_reducible exact Below.refl _ _) | (with_reducible refine Below.alloc ?_ ?_ _) | (with_reducible refine Below.setCell ?_ ?_ _) | (with_reducible refine Below.drew ?_) | (with_reducible refine Below.trans ?_ (Below.mono (by with_reducible assumption) ?_)) | omega | (simp; done) | (simp; omega))), (Row.to h_p (by repeat' (first | (with_reducible exact Below.refl _ _) | (with_reducible refine Below.alloc ?_ ?_ _) | (with_reducible refine Below.setCell ?_ ?_ _) | (with_reducible refine Below.drew ?_) | (with_reducible refine Below.trans ?_ (Below.mono (by with_reducible assumption) ?_)) | omega | (simp; done) | (simp; omega))))⟩ ?_
  clear h_below s_below h_p l_p z_p c_p0 c_p1 c_p2 c_p3 c_p4 c_p5 c_p6
  rintro Y3 ⟨h_below, h_p⟩
  refine (sPtext_at hV hT _).mono ?_
  rintro e X3 ⟨rfl, hb3⟩
  have h_below0 := h_below
  replace h_below := h_below.trans (hb3.mono h_below.size)
  replace h_p := Row.to h_p hb3
  clear hb3
  clear h_below0
  have s_below := h_below.size
  have l_p := Row.lt h_p
  have z_p := Row.frozen h_p
  obtain ⟨c_p0, c_p1, c_p2, c_p3, c_p4, c_p5, c_p6⟩ := row7c h_p
  go_wp2_with fail
  refine Dr.cut_calls (fun X => (Below w.heap.size w X) ∧ (Row X (BX2) 30 [.int .i64 z1_0, .int .i64 z1_1, .int .i64 z1_2, .int .i64 z1_3, .int .i64 z1_4, .int .i64 z1_5, .int .i64 z1_6])) ⟨(by repeat' (first | (with_reducible exact Below.refl _ _) | (with_reducible refine Below.alloc ?_ ?_ _) | (with_reducible refine Below.setCell ?_ ?_ _) | (with_reducible refine Below.drew ?_) | (with_reducible refine Below.trans ?_ (Below.mono (by with_reducible assumption) ?_)) | omega | (simp; done) | (simp; omega))), (Row.to h_p (by repeat' (first | (with_reducible exact Below.refl _ _) | (with_reducible refine Below.alloc ?_ ?_ _) | (with_reducible refine Below.setCell ?_ ?_ _) | (with_reducible refine Below.drew ?_) | (with_reducible refine Below.trans ?_ (Below.mono (by with_reducible assumption) ?_)) | omega | (simp; done) | (simp; omega))))⟩ ?_
  clear h_below s_below h_p l_p z_p c_p0 c_p1 c_p2 c_p3 c_p4 c_p5 c_p6
  rintro Y4 ⟨h_below, h_p⟩
  refine (isP_at hT _).mono ?_
  rintro e X4 ⟨rfl, hb4⟩
  have h_below0 := h_below
  replace h_below := h_below.trans (hb4.mono h_below.size)
  replace h_p := Row.to h_p hb4
  clear hb4
  clear h_below0
  have s_below := h_below.size
  have l_p := Row.lt h_p
  have z_p := Row.frozen h_p
  obtain ⟨c_p0, c_p1, c_p2, c_p3, c_p4, c_p5, c_p6⟩ := row7c h_p
  go_wp2_with fail
  go_ret
  exact ⟨rfl, h_below.trans (by repeat' (first | (with_reducible exact Below.refl _ _) | (with_reducible refine Below.alloc ?_ ?_ _) | (with_reducible refine Below.setCell ?_ ?_ _) | (with_reducible refine Below.drew ?_) | (with_reducible refine Below.trans ?_ (Below.mono (by with_reducible assumption) ?_)) | omega | (simp; done) | (simp; omega)))⟩
set_option maxRecDepth 100000 in
set_option maxHeartbeats 40000000 in
theorem FnPoolCrops_p10 {u1 u2 u3 u4 u5 u6 u7 u8 u9 u10 u11 u12 u13 u14 u15 u16 u17 u18 u19 u20 u21 u22 u23 u24 u25 u26 u27 u28 u29 u30 u31 u32 u33 u34 u35 u36 u37 u38 u39 u40 u41 u42 u43 u44 u45 u46 u47 u48 u49 u50 u51 u52 u53 u54 u55 u56 u57 u58 u59 u60 u61 u62 u63 u64 u65 u66 u67 u68 u69 u70 u71 u72 u73 u74 u75 u76 u77 u78 u79 u80 u81 u82 u83 u84 u85 u86 u87 u88 u89 u90 u91 u92 u93 u94 u95 u96 u97 u98 u99 u100 u101 u102 u103 u104 u105 u106 u107 u108 u109 u110 u111 u112 u113 u114 u115 u116 u117 u118 u119 u120 u121 u122 u123 u124 u125 u126 u127 u128 u129 u130 u131 u132 u133 u134 u135 u136 u137 u138 u139 u140 u141 u142 u143 u144 u145 u146 u147 u148 u149 u150 u151 u152 u153 u154 u155 u156 u157 u158 u159 u160 u161 u162 u163 u164 u165 u166 u167 u168 u169 u170 u171 u172 u173 u174 u175 u176 u177 u178 u179 u180 : Value} (A : Option Addr) (n c : Nat) (w wc : World) (hn : n ≤ 65536) (hB : Byt w w.heap.size A n) (h_below : Below w.heap.size w wc) (ht : Hid (Tab w)) (K : Act → World → Prop) (hK : ∀ a w1, (tailOf 11 (Tryd.f4.body.getD .skip)).wp Tryd.prog (bodyPost Tryd.prog Tryd.f4 fun e w' => e = .returned (.bool true) ∧ Below w.heap.size w w') a w1 → K a w1) :
    (headOf (tailOf 10 (Tryd.f4.body.getD .skip))).wp Tryd.prog (Exit.then K (bodyPost Tryd.prog Tryd.f4 fun e w' => e = .returned (.bool true) ∧ Below w.heap.size w w')) ⟨#[.slice A n c, u1, u2, u3, u4, u5, u6, u7, u8, u9, u10, u11, u12, u13, u14, u15, u16, u17, u18, u19, u20, u21, u22, u23, u24, u25, u26, u27, u28, u29, u30, u31, u32, u33, u34, u35, u36, u37, u38, u39, u40, u41, u42, u43, u44, u45, u46, u47, u48, u49, u50, u51, u52, u53, u54, u55, u56, u57, u58, u59, u60, u61, u62, u63, u64, u65, u66, u67, u68, u69, u70, u71, u72, u73, u74, u75, u76, u77, u78, u79, u80, u81, u82, u83, u84, u85, u86, u87, u88, u89, u90, u91, u92, u93, u94, u95, u96, u97, u98, u99, u100, u101, u102, u103, u104, u105, u106, u107, u108, u109, u110, u111, u112, u113, u114, u115, u116, u117, u118, u119, u120, u121, u122, u123, u124, u125, u126, u127, u128, u129, u130, u131, u132, u133, u134, u135, u136, u137, u138, u139, u140, u141, u142, u143, u144, u145, u146, u147, u148, u149, u150, u151, u152, u153, u154, u155, u156, u157, u158, u159, u160, u161, u162, u163, u164, u165, u166, u167, u168, u169, u170, u171, u172, u173, u174, u175, u176, u177, u178, u179, u180], []⟩ wc := by
  have s_below := h_below.size
  simp only [tailOf, headOf, Option.getD, Tryd.f4] at hK ⊢
  go_wp2_with fail
  refine Dr.cut_calls (fun X => (Below w.heap.size w X)) ((by repeat' (first | (with_reducible exact Below.refl _ _) | (with_reducible refine Below.alloc ?_ ?_ _) | (with_reducible refine Below.setCell ?_ ?_ _) | (with_reducible refine Below.drew ?_) | (with_reducible refine Below.trans ?_ (Below.mono (by with_reducible assumption) ?_)) | omega | (simp; done) | (simp; omega)))) ?_
  clear h_below s_below
  intro Y1 h_below
  refine (dSaltIn_any _ _ _ _ hn (Dr.byt_more (hB.below h_below) h_below.size)).mono ?_
  rintro e X1 ⟨z1_0, z1_1, z1_2, z1_3, z1_4, z1_5, z1_6, rfl, hb1⟩
  have h_below0 := h_below
  replace h_below := h_below.trans (hb1.mono h_below.size)
  clear hb1
  clear h_below0
  have s_below := h_below.size
  go_wp2_with fail
  refine Dr.cut_calls (fun X => (Below w.heap.size w X) ∧ (Row X (X1.heap.size) 30 [.int .i64 z1_0, .int .i64 z1_1, .int .i64 z1_2, .int .i64 z1_3, .int .i64 z1_4, .int .i64 z1_5, .int .i64 z1_6])) ⟨(by repeat' (first | (with_reducible exact Below.refl _ _) | (with_reducible refine Below.alloc ?_ ?_ _) | (with_reducible refine Below.setCell ?_ ?_ _) | (with_reducible refine Below.drew ?_) | (with_reducible refine Below.trans ?_ (Below.mono (by with_reducible assumption) ?_)) | omega | (simp; done) | (simp; omega))), (by first | exact Row.new _ _ _ | exact (Row.new _ _ _).to (by repeat' (first | (with_reducible exact Below.refl _ _) | (with_reducible refine Below.alloc ?_ ?_ _) | (with_reducible refine Below.setCell ?_ ?_ _) | (with_reducible refine Below.drew ?_) | (with_reducible refine Below.trans ?_ (Below.mono (by with_reducible assumption) ?_)) | omega | (simp; done) | (simp; omega))) | exact row_new_at _ _ _ _ (by simp) | exact (row_new_at _ _ _ _ (by simp)).to (by repeat' (first | (with_reducible exact Below.refl _ _) | (with_reducible refine Below.alloc ?_ ?_ _) | (with_reducible refine Below.setCell ?_ ?_ _) | (with_reducible refine Below.drew ?_) | (with_reducible refine Below.trans ?_ (Below.mono (by with_reducible assumption) ?_)) | omega | (simp; done) | (simp; omega))))⟩ ?_
  clear h_below s_below
  obtain ⟨BX2, hBX2⟩ : ∃ B, X1.heap.size = B := ⟨_, rfl⟩
  simp only [hBX2]
  clear hBX2
  rintro Y2 ⟨h_below, h_p⟩
  obtain ⟨n_, hV⟩ : ∃ n_, satV z1_0 z1_1 z1_2 z1_3 z1_4 z1_5 z1_6 = n_ := ⟨_, rfl⟩
  obtain ⟨t, hT⟩ : ∃ t, poolOK z1_0 z1_1 z1_2 z1_3 z1_4 z1_5 z1_6 = t := ⟨_, rfl⟩
  have hV := Lib.hid hV
  have hT := Lib.hid hT
  refine (iSalt_at hV hT _).mono ?_
  rintro e X2 ⟨rfl, hb2⟩
  have h_below0 := h_below
  replace h_below := h_below.trans (hb2.mono h_below.size)
  replace h_p := Row.to h_p hb2
  clear hb2
  clear h_below0
  have s_below := h_below.size
  have l_p := Row.lt h_p
  have z_p := Row.frozen h_p
  obtain ⟨c_p0, c_p1, c_p2, c_p3, c_p4, c_p5, c_p6⟩ := row7c h_p
  go_wp2_with fail
  refine Dr.cut_calls (fun X => (Below w.heap.size w X) ∧ (Row X (BX2) 30 [.int .i64 z1_0, .int .i64 z1_1, .int .i64 z1_2, .int .i64 z1_3, .int .i64 z1_4, .int .i64 z1_5, .int .i64 z1_6])) ⟨(by repeat' (first | (with_reducible exact Below.refl _ _) | (with_reducible refine Below.alloc ?_ ?_ _) | (with_reducible refine Below.setCell ?_ ?_ _) | (with_reducible refine Below.drew ?_) | (with_reducible refine Below.trans ?_ (Below.mono (by with_reducible assumption) ?_)) | omega | (simp; done) | (simp; omega))), (Row.to h_p (by repeat' (first | (with_reducible exact Below.refl _ _) | (with_reducible refine Below.alloc ?_ ?_ _) | (with_reducible refine Below.setCell ?_ ?_ _) | (with_reducible refine Below.drew ?_) | (with_reducible refine Below.trans ?_ (Below.mono (by with_reducible assumption) ?_)) | omega | (simp; done) | (simp; omega))))⟩ ?_
  clear h_below s_below h_p l_p z_p c_p0 c_p1 c_p2 c_p3 c_p4 c_p5 c_p6
  rintro Y3 ⟨h_below, h_p⟩
  refine (sSalt_at hV hT _).mono ?_
  rintro e X3 ⟨rfl, hb3⟩
  have h_below0 := h_below
  replace h_below := h_below.trans (hb3.mono h_below.size)
  replace h_p := Row.to h_p hb3
  clear hb3
  clear h_below0
  have s_below := h_below.size
  have l_p := Row.lt h_p
  have z_p := Row.frozen h_p
  obtain ⟨c_p0, c_p1, c_p2, c_p3, c_p4, c_p5, c_p6⟩ := row7c h_p
  go_upto_region 34 with (fail)
  exact FnPoolCrops_p13 A n c w _ hn hB (h_below.trans (by repeat' (first | (with_reducible exact Below.refl _ _) | (with_reducible refine Below.alloc ?_ ?_ _) | (with_reducible refine Below.setCell ?_ ?_ _) | (with_reducible refine Below.drew ?_) | (with_reducible refine Below.trans ?_ (Below.mono (by with_reducible assumption) ?_)) | omega | (simp; done) | (simp; omega)))) ht _ (by assumption)
set_option maxRecDepth 100000 in
set_option maxHeartbeats 40000000 in
theorem FnPoolCrops_p6 {u1 u2 u3 u4 u5 u6 u7 u8 u9 u10 u11 u12 u13 u14 u15 u16 u17 u18 u19 u20 u21 u22 u23 u24 u25 u26 u27 u28 u29 u30 u31 u32 u33 u34 u35 u36 u37 u38 u39 u40 u41 u42 u43 u44 u45 u46 u47 u48 u49 u50 u51 u52 u53 u54 u55 u56 u57 u58 u59 u60 u61 u62 u63 u64 u65 u66 u67 u68 u69 u70 u71 u72 u73 u74 u75 u76 u77 u78 u79 u80 u81 u82 u83 u84 u85 u86 u87 u88 u89 u90 u91 u92 u93 u94 u95 u96 u97 u98 u99 u100 u101 u102 u103 u104 u105 u106 u107 u108 u109 u110 u111 u112 u113 u114 u115 u116 u117 u118 u119 u120 u121 u122 u123 u124 u125 u126 u127 u128 u129 u130 u131 u132 u133 u134 u135 u136 u137 u138 u139 u140 u141 u142 u143 u144 u145 u146 u147 u148 u149 u150 u151 u152 u153 u154 u155 u156 u157 u158 u159 u160 u161 u162 u163 u164 u165 u166 u167 u168 u169 u170 u171 u172 u173 u174 u175 u176 u177 u178 u179 u180 : Value} (A : Option Addr) (n c : Nat) (w wc : World) (hn : n ≤ 65536) (hB : Byt w w.heap.size A n) (h_below : Below w.heap.size w wc) (ht : Hid (Tab w)) (K : Act → World → Prop) (hK : ∀ a w1, (tailOf 7 (Tryd.f4.body.getD .skip)).wp Tryd.prog (bodyPost Tryd.prog Tryd.f4 fun e w' => e = .returned (.bool true) ∧ Below w.heap.size w w') a w1 → K a w1) :
    (headOf (tailOf 6 (Tryd.f4.body.getD .skip))).wp Tryd.prog (Exit.then K (bodyPost Tryd.prog Tryd.f4 fun e w' => e = .returned (.bool true) ∧ Below w.heap.size w w')) ⟨#[.slice A n c, u1, u2, u3, u4, u5, u6, u7, u8, u9, u10, u11, u12, u13, u14, u15, u16, u17, u18, u19, u20, u21, u22, u23, u24, u25, u26, u27, u28, u29, u30, u31, u32, u33, u34, u35, u36, u37, u38, u39, u40, u41, u42, u43, u44, u45, u46, u47, u48, u49, u50, u51, u52, u53, u54, u55, u56, u57, u58, u59, u60, u61, u62, u63, u64, u65, u66, u67, u68, u69, u70, u71, u72, u73, u74, u75, u76, u77, u78, u79, u80, u81, u82, u83, u84, u85, u86, u87, u88, u89, u90, u91, u92, u93, u94, u95, u96, u97, u98, u99, u100, u101, u102, u103, u104, u105, u106, u107, u108, u109, u110, u111, u112, u113, u114, u115, u116, u117, u118, u119, u120, u121, u122, u123, u124, u125, u126, u127, u128, u129, u130, u131, u132, u133, u134, u135, u136, u137, u138, u139, u140, u141, u142, u143, u144, u145, u146, u147, u148, u149, u150, u151, u152, u153, u154, u155, u156, u157, u158, u159, u160, u161, u162, u163, u164, u165, u166, u167, u168, u169, u170, u171, u172, u173, u174, u175, u176, u177, u178, u179, u180], []⟩ wc := by
  have s_below := h_below.size
  simp only [tailOf, headOf, Option.getD, Tryd.f4] at hK ⊢
  go_wp2_with fail
  refine Dr.cut_calls (fun X => (Below w.heap.size w X)) ((by repeat' (first | (with_reducible exact Below.refl _ _) | (with_reducible refine Below.alloc ?_ ?_ _) | (with_reducible refine Below.setCell ?_ ?_ _) | (with_reducible refine Below.drew ?_) | (with_reducible refine Below.trans ?_ (Below.mono (by with_reducible assumption) ?_)) | omega | (simp; done) | (simp; omega)))) ?_
  clear h_below s_below
  intro Y1 h_below
  refine (dRainToMelt_any _ _ _ _ hn (Dr.byt_more (hB.below h_below) h_below.size)).mono ?_
  rintro e X1 ⟨z1_0, z1_1, z1_2, z1_3, z1_4, z1_5, z1_6, rfl, hb1⟩
  have h_below0 := h_below
  replace h_below := h_below.trans (hb1.mono h_below.size)
  clear hb1
  clear h_below0
  have s_below := h_below.size
  go_wp2_with fail
  refine Dr.cut_calls (fun X => (Below w.heap.size w X) ∧ (Row X (X1.heap.size) 30 [.int .i64 z1_0, .int .i64 z1_1, .int .i64 z1_2, .int .i64 z1_3, .int .i64 z1_4, .int .i64 z1_5, .int .i64 z1_6])) ⟨(by repeat' (first | (with_reducible exact Below.refl _ _) | (with_reducible refine Below.alloc ?_ ?_ _) | (with_reducible refine Below.setCell ?_ ?_ _) | (with_reducible refine Below.drew ?_) | (with_reducible refine Below.trans ?_ (Below.mono (by with_reducible assumption) ?_)) | omega | (simp; done) | (simp; omega))), (by first | exact Row.new _ _ _ | exact (Row.new _ _ _).to (by repeat' (first | (with_reducible exact Below.refl _ _) | (with_reducible refine Below.alloc ?_ ?_ _) | (with_reducible refine Below.setCell ?_ ?_ _) | (with_reducible refine Below.drew ?_) | (with_reducible refine Below.trans ?_ (Below.mono (by with_reducible assumption) ?_)) | omega | (simp; done) | (simp; omega))) | exact row_new_at _ _ _ _ (by simp) | exact (row_new_at _ _ _ _ (by simp)).to (by repeat' (first | (with_reducible exact Below.refl _ _) | (with_reducible refine Below.alloc ?_ ?_ _) | (with_reducible refine Below.setCell ?_ ?_ _) | (with_reducible refine Below.drew ?_) | (with_reducible refine Below.trans ?_ (Below.mono (by with_reducible assumption) ?_)) | omega | (simp; done) | (simp; omega))))⟩ ?_
  clear h_below s_below
  obtain ⟨BX2, hBX2⟩ : ∃ B, X1.heap.size = B := ⟨_, rfl⟩
  simp only [hBX2]
  clear hBX2
  rintro Y2 ⟨h_below, h_p⟩
  obtain ⟨n_, hV⟩ : ∃ n_, rtmV z1_0 z1_1 z1_2 z1_3 z1_4 z1_5 z1_6 = n_ := ⟨_, rfl⟩
  obtain ⟨t, hT⟩ : ∃ t, rtmB z1_0 z1_1 z1_2 z1_3 z1_4 z1_5 z1_6 = t := ⟨_, rfl⟩
  have hV := Lib.hid hV
  have hT := Lib.hid hT
  refine (iRain_at hV hT _).mono ?_
  rintro e X2 ⟨rfl, hb2⟩
  have h_below0 := h_below
  replace h_below := h_below.trans (hb2.mono h_below.size)
  replace h_p := Row.to h_p hb2
  clear hb2
  clear h_below0
  have s_below := h_below.size
  have l_p := Row.lt h_p
  have z_p := Row.frozen h_p
  obtain ⟨c_p0, c_p1, c_p2, c_p3, c_p4, c_p5, c_p6⟩ := row7c h_p
  go_wp2_with fail
  refine Dr.cut_calls (fun X => (Below w.heap.size w X) ∧ (Row X (BX2) 30 [.int .i64 z1_0, .int .i64 z1_1, .int .i64 z1_2, .int .i64 z1_3, .int .i64 z1_4, .int .i64 z1_5, .int .i64 z1_6])) ⟨(by repeat' (first | (with_reducible exact Below.refl _ _) | (with_reducible refine Below.alloc ?_ ?_ _) | (with_reducible refine Below.setCell ?_ ?_ _) | (with_reducible refine Below.drew ?_) | (with_reducible refine Below.trans ?_ (Below.mono (by with_reducible assumption) ?_)) | omega | (simp; done) | (simp; omega))), (Row.to h_p (by repeat' (first | (with_reducible exact Below.refl _ _) | (with_reducible refine Below.alloc ?_ ?_ _) | (with_reducible refine Below.setCell ?_ ?_ _) | (with_reducible refine Below.drew ?_) | (with_reducible refine Below.trans ?_ (Below.mono (by with_reducible assumption) ?_)) | omega | (simp; done) | (simp; omega))))⟩ ?_
  clear h_below s_below h_p l_p z_p c_p0 c_p1 c_p2 c_p3 c_p4 c_p5 c_p6
  rintro Y3 ⟨h_below, h_p⟩
  refine (sRain_at hV hT _).mono ?_
  rintro e X3 ⟨rfl, hb3⟩
  have h_below0 := h_below
  replace h_below := h_below.trans (hb3.mono h_below.size)
  replace h_p := Row.to h_p hb3
  clear hb3
  clear h_below0
  have s_below := h_below.size
  have l_p := Row.lt h_p
  have z_p := Row.frozen h_p
  obtain ⟨c_p0, c_p1, c_p2, c_p3, c_p4, c_p5, c_p6⟩ := row7c h_p
  cases t
  · go_upto_region 29 with (fail)
    exact FnPoolCrops_p10 A n c w _ hn hB (h_below.trans (by repeat' (first | (with_reducible exact Below.refl _ _) | (with_reducible refine Below.alloc ?_ ?_ _) | (with_reducible refine Below.setCell ?_ ?_ _) | (with_reducible refine Below.drew ?_) | (with_reducible refine Below.trans ?_ (Below.mono (by with_reducible assumption) ?_)) | omega | (simp; done) | (simp; omega)))) ht _ (by assumption)
  · have f4 := rain_bd hV.out
    obtain ⟨⟨q0, q1, q2, q3, q4, q5, q6⟩, hQ1⟩ : ∃ Q, Pl.step ⟨z1_0, z1_1, z1_2, z1_3, z1_4, z1_5, z1_6⟩ 3 n_ 0 = Q := ⟨_, rfl⟩
    obtain ⟨t1, hT1⟩ : ∃ t, Pl.stepB ⟨z1_0, z1_1, z1_2, z1_3, z1_4, z1_5, z1_6⟩ 3 n_ 0 = t := ⟨_, rfl⟩
    have h3 := fun h => rain_hit hT.out hV.out (hT1.trans h)
    rw [hQ1] at h3
    simp only at h3
    have h3 := Lib.hid h3
    have hQ1 := Lib.hid hQ1
    have hT1 := Lib.hid hT1
    go_wp2_with fail
    refine Dr.cut_calls (fun X => (Below w.heap.size w X) ∧ (Row X (BX2) 30 [.int .i64 z1_0, .int .i64 z1_1, .int .i64 z1_2, .int .i64 z1_3, .int .i64 z1_4, .int .i64 z1_5, .int .i64 z1_6])) ⟨(by repeat' (first | (with_reducible exact Below.refl _ _) | (with_reducible refine Below.alloc ?_ ?_ _) | (with_reducible refine Below.setCell ?_ ?_ _) | (with_reducible refine Below.drew ?_) | (with_reducible refine Below.trans ?_ (Below.mono (by with_reducible assumption) ?_)) | omega | (simp; done) | (simp; omega))), (Row.to h_p (by repeat' (first | (with_reducible exact Below.refl _ _) | (with_reducible refine Below.alloc ?_ ?_ _) | (with_reducible refine Below.setCell ?_ ?_ _) | (with_reducible refine Below.drew ?_) | (with_reducible refine Below.trans ?_ (Below.mono (by with_reducible assumption) ?_)) | omega | (simp; done) | (simp; omega))))⟩ ?_
    clear h_below s_below h_p l_p z_p c_p0 c_p1 c_p2 c_p3 c_p4 c_p5 c_p6
    rintro Y4 ⟨h_below, h_p⟩
    refine (iStep_at hQ1 hT1 (by omega) _).mono ?_
    rintro e X4 ⟨rfl, hb4⟩
    have h_below0 := h_below
    replace h_below := h_below.trans (hb4.mono h_below.size)
    replace h_p := Row.to h_p hb4
    clear hb4
    clear h_below0
    have s_below := h_below.size
    have l_p := Row.lt h_p
    have z_p := Row.frozen h_p
    obtain ⟨c_p0, c_p1, c_p2, c_p3, c_p4, c_p5, c_p6⟩ := row7c h_p
    cases t1
    · by_cases hgt : 1 < n_
      · obtain ⟨⟨m0, m1, m2, m3, m4, m5, m6⟩, hQ2⟩ : ∃ Q, Pl.step ⟨z1_0, z1_1, z1_2, z1_3, z1_4, z1_5, z1_6⟩ 3 (n_ - 1) 0 = Q := ⟨_, rfl⟩
        obtain ⟨t2, hT2⟩ : ∃ t, Pl.stepB ⟨z1_0, z1_1, z1_2, z1_3, z1_4, z1_5, z1_6⟩ 3 (n_ - 1) 0 = t := ⟨_, rfl⟩
        have h4 := fun h => rain_less hT.out hV.out hgt (hT2.trans h)
        rw [hQ2] at h4
        simp only at h4
        have h4 := Lib.hid h4
        have hQ2 := Lib.hid hQ2
        have hT2 := Lib.hid hT2
        have w1_ : wrap64 (n_ - 1) = n_ - 1 := by unfold wrap64; omega
        go_wp2_with fail
        refine Dr.cut_calls (fun X => (Below w.heap.size w X) ∧ (Row X (BX2) 30 [.int .i64 z1_0, .int .i64 z1_1, .int .i64 z1_2, .int .i64 z1_3, .int .i64 z1_4, .int .i64 z1_5, .int .i64 z1_6]) ∧ (Row X (X4.heap.size) 30 [.int .i64 q0, .int .i64 q1, .int .i64 q2, .int .i64 q3, .int .i64 q4, .int .i64 q5, .int .i64 q6])) ⟨(by repeat' (first | (with_reducible exact Below.refl _ _) | (with_reducible refine Below.alloc ?_ ?_ _) | (with_reducible refine Below.setCell ?_ ?_ _) | (with_reducible refine Below.drew ?_) | (with_reducible refine Below.trans ?_ (Below.mono (by with_reducible assumption) ?_)) | omega | (simp; done) | (simp; omega))), (Row.to h_p (by repeat' (first | (with_reducible exact Below.refl _ _) | (with_reducible refine Below.alloc ?_ ?_ _) | (with_reducible refine Below.setCell ?_ ?_ _) | (with_reducible refine Below.drew ?_) | (with_reducible refine Below.trans ?_ (Below.mono (by with_reducible assumption) ?_)) | omega | (simp; done) | (simp; omega)))), (by first | exact Row.new _ _ _ | exact (Row.new _ _ _).to (by repeat' (first | (with_reducible exact Below.refl _ _) | (with_reducible refine Below.alloc ?_ ?_ _) | (with_reducible refine Below.setCell ?_ ?_ _) | (with_reducible refine Below.drew ?_) | (with_reducible refine Below.trans ?_ (Below.mono (by with_reducible assumption) ?_)) | omega | (simp; done) | (simp; omega))) | exact row_new_at _ _ _ _ (by simp) | exact (row_new_at _ _ _ _ (by simp)).to (by repeat' (first | (with_reducible exact Below.refl _ _) | (with_reducible refine Below.alloc ?_ ?_ _) | (with_reducible refine Below.setCell ?_ ?_ _) | (with_reducible refine Below.drew ?_) | (with_reducible refine Below.trans ?_ (Below.mono (by with_reducible assumption) ?_)) | omega | (simp; done) | (simp; omega))))⟩ ?_
        clear h_below s_below h_p l_p z_p c_p0 c_p1 c_p2 c_p3 c_p4 c_p5 c_p6
        obtain ⟨BX5, hBX5⟩ : ∃ B, X4.heap.size = B := ⟨_, rfl⟩
        simp only [hBX5]
        clear hBX5
        rintro Y5 ⟨h_below, h_p, h_o⟩
        refine (iStep_at hQ2 hT2 (by omega) _).mono ?_
        rintro e X5 ⟨rfl, hb5⟩
        have h_below0 := h_below
        replace h_below := h_below.trans (hb5.mono h_below.size)
        replace h_p := Row.to h_p hb5
        replace h_o := Row.to h_o hb5
        clear hb5
        clear h_below0
        have s_below := h_below.size
        have l_p := Row.lt h_p
        have z_p := Row.frozen h_p
        obtain ⟨c_p0, c_p1, c_p2, c_p3, c_p4, c_p5, c_p6⟩ := row7c h_p
        have l_o := Row.lt h_o
        have z_o := Row.frozen h_o
        obtain ⟨c_o0, c_o1, c_o2, c_o3, c_o4, c_o5, c_o6⟩ := row7c h_o
        cases t2
        · go_upto_region 29 with (fail)
          exact FnPoolCrops_p10 A n c w _ hn hB (h_below.trans (by repeat' (first | (with_reducible exact Below.refl _ _) | (with_reducible refine Below.alloc ?_ ?_ _) | (with_reducible refine Below.setCell ?_ ?_ _) | (with_reducible refine Below.drew ?_) | (with_reducible refine Below.trans ?_ (Below.mono (by with_reducible assumption) ?_)) | omega | (simp; done) | (simp; omega)))) ht _ (by assumption)
        · have g2 := h4.out rfl
          have hnb : (m3 == 0) = false := by simpa using g2
          go_upto_region 29 with (fail)
          exact FnPoolCrops_p10 A n c w _ hn hB (h_below.trans (by repeat' (first | (with_reducible exact Below.refl _ _) | (with_reducible refine Below.alloc ?_ ?_ _) | (with_reducible refine Below.setCell ?_ ?_ _) | (with_reducible refine Below.drew ?_) | (with_reducible refine Below.trans ?_ (Below.mono (by with_reducible assumption) ?_)) | omega | (simp; done) | (simp; omega)))) ht _ (by assumption)
      · go_upto_region 29 with (fail)
        exact FnPoolCrops_p10 A n c w _ hn hB (h_below.trans (by repeat' (first | (with_reducible exact Below.refl _ _) | (with_reducible refine Below.alloc ?_ ?_ _) | (with_reducible refine Below.setCell ?_ ?_ _) | (with_reducible refine Below.drew ?_) | (with_reducible refine Below.trans ?_ (Below.mono (by with_reducible assumption) ?_)) | omega | (simp; done) | (simp; omega)))) ht _ (by assumption)
    · have g3 := h3.out rfl
      subst g3
      by_cases hgt : 1 < n_
      · obtain ⟨⟨m0, m1, m2, m3, m4, m5, m6⟩, hQ2⟩ : ∃ Q, Pl.step ⟨z1_0, z1_1, z1_2, z1_3, z1_4, z1_5, z1_6⟩ 3 (n_ - 1) 0 = Q := ⟨_, rfl⟩
        obtain ⟨t2, hT2⟩ : ∃ t, Pl.stepB ⟨z1_0, z1_1, z1_2, z1_3, z1_4, z1_5, z1_6⟩ 3 (n_ - 1) 0 = t := ⟨_, rfl⟩
        have h4 := fun h => rain_less hT.out hV.out hgt (hT2.trans h)
        rw [hQ2] at h4
        simp only at h4
        have h4 := Lib.hid h4
        have hQ2 := Lib.hid hQ2
        have hT2 := Lib.hid hT2
        have w1_ : wrap64 (n_ - 1) = n_ - 1 := by unfold wrap64; omega
        go_wp2_with fail
        refine Dr.cut_calls (fun X => (Below w.heap.size w X) ∧ (Row X (BX2) 30 [.int .i64 z1_0, .int .i64 z1_1, .int .i64 z1_2, .int .i64 z1_3, .int .i64 z1_4, .int .i64 z1_5, .int .i64 z1_6]) ∧ (Row X (X4.heap.size) 30 [.int .i64 q0, .int .i64 q1, .int .i64 q2, .int .i64 0, .int .i64 q4, .int .i64 q5, .int .i64 q6])) ⟨(by repeat' (first | (with_reducible exact Below.refl _ _) | (with_reducible refine Below.alloc ?_ ?_ _) | (with_reducible refine Below.setCell ?_ ?_ _) | (with_reducible refine Below.drew ?_) | (with_reducible refine Below.trans ?_ (Below.mono (by with_reducible assumption) ?_)) | omega | (simp; done) | (simp; omega))), (Row.to h_p (by repeat' (first | (with_reducible exact Below.refl _ _) | (with_reducible refine Below.alloc ?_ ?_ _) | (with_reducible refine Below.setCell ?_ ?_ _) | (with_reducible refine Below.drew ?_) | (with_reducible refine Below.trans ?_ (Below.mono (by with_reducible assumption) ?_)) | omega | (simp; done) | (simp; omega)))), (by first | exact Row.new _ _ _ | exact (Row.new _ _ _).to (by repeat' (first | (with_reducible exact Below.refl _ _) | (with_reducible refine Below.alloc ?_ ?_ _) | (with_reducible refine Below.setCell ?_ ?_ _) | (with_reducible refine Below.drew ?_) | (with_reducible refine Below.trans ?_ (Below.mono (by with_reducible assumption) ?_)) | omega | (simp; done) | (simp; omega))) | exact row_new_at _ _ _ _ (by simp) | exact (row_new_at _ _ _ _ (by simp)).to (by repeat' (first | (with_reducible exact Below.refl _ _) | (with_reducible refine Below.alloc ?_ ?_ _) | (with_reducible refine Below.setCell ?_ ?_ _) | (with_reducible refine Below.drew ?_) | (with_reducible refine Below.trans ?_ (Below.mono (by with_reducible assumption) ?_)) | omega | (simp; done) | (simp; omega))))⟩ ?_
        clear h_below s_below h_p l_p z_p c_p0 c_p1 c_p2 c_p3 c_p4 c_p5 c_p6
        obtain ⟨BX5, hBX5⟩ : ∃ B, X4.heap.size = B := ⟨_, rfl⟩
        simp only [hBX5]
        clear hBX5
        rintro Y5 ⟨h_below, h_p, h_o⟩
        refine (iStep_at hQ2 hT2 (by omega) _).mono ?_
        rintro e X5 ⟨rfl, hb5⟩
        have h_below0 := h_below
        replace h_below := h_below.trans (hb5.mono h_below.size)
        replace h_p := Row.to h_p hb5
        replace h_o := Row.to h_o hb5
        clear hb5
        clear h_below0
        have s_below := h_below.size
        have l_p := Row.lt h_p
        have z_p := Row.frozen h_p
        obtain ⟨c_p0, c_p1, c_p2, c_p3, c_p4, c_p5, c_p6⟩ := row7c h_p
        have l_o := Row.lt h_o
        have z_o := Row.frozen h_o
        obtain ⟨c_o0, c_o1, c_o2, c_o3, c_o4, c_o5, c_o6⟩ := row7c h_o
        cases t2
        · go_upto_region 29 with (fail)
          exact FnPoolCrops_p10 A n c w _ hn hB (h_below.trans (by repeat' (first | (with_reducible exact Below.refl _ _) | (with_reducible refine Below.alloc ?_ ?_ _) | (with_reducible refine Below.setCell ?_ ?_ _) | (with_reducible refine Below.drew ?_) | (with_reducible refine Below.trans ?_ (Below.mono (by with_reducible assumption) ?_)) | omega | (simp; done) | (simp; omega)))) ht _ (by assumption)
        · have g2 := h4.out rfl
          have hnb : (m3 == 0) = false := by simpa using g2
          go_upto_region 29 with (fail)
          exact FnPoolCrops_p10 A n c w _ hn hB (h_below.trans (by repeat' (first | (with_reducible exact Below.refl _ _) | (with_reducible refine Below.alloc ?_ ?_ _) | (with_reducible refine Below.setCell ?_ ?_ _) | (with_reducible refine Below.drew ?_) | (with_reducible refine Below.trans ?_ (Below.mono (by with_reducible assumption) ?_)) | omega | (simp; done) | (simp; omega)))) ht _ (by assumption)
      · go_upto_region 29 with (fail)
        exact FnPoolCrops_p10 A n c w _ hn hB (h_below.trans (by repeat' (first | (with_reducible exact Below.refl _ _) | (with_reducible refine Below.alloc ?_ ?_ _) | (with_reducible refine Below.setCell ?_ ?_ _) | (with_reducible refine Below.drew ?_) | (with_reducible refine Below.trans ?_ (Below.mono (by with_reducible assumption) ?_)) | omega | (simp; done) | (simp; omega)))) ht _ (by assumption)
set_option maxRecDepth 100000 in
set_option maxHeartbeats 40000000 in
theorem FnPoolCrops_law (A : Option Addr) (n c : Nat) (w : World) (hB : Byt w w.heap.size A n) (ht : Hid (Tab w)) :
    Calls Tryd.prog 4 #[.slice A n c] w fun e w' => e = .returned (.bool true) ∧ Below w.heap.size w w' := by
  by_cases hn : n ≤ 65536
  · have hn' : ¬ 65536 < n := by omega
    go_enter Tryd.func4, Tryd.ntmps4
    go_wp2_with (first | (go_at_call 8; refine (vBig_any _ _ _ _).mono ?_; rintro e wX ⟨rfl, rfl⟩))
    refine Dr.cut_calls (fun X => (Below w.heap.size w X)) ((by repeat' (first | (with_reducible exact Below.refl _ _) | (with_reducible refine Below.alloc ?_ ?_ _) | (with_reducible refine Below.setCell ?_ ?_ _) | (with_reducible refine Below.drew ?_) | (with_reducible refine Below.trans ?_ (Below.mono (by with_reducible assumption) ?_)) | omega | (simp; done) | (simp; omega)))) ?_
    intro Y1 h_below
    refine (dSunToCrop_any _ _ _ _ hn (Dr.byt_more (hB.below h_below) h_below.size)).mono ?_
    rintro e X1 ⟨z1_0, z1_1, z1_2, z1_3, z1_4, z1_5, z1_6, rfl, hb1⟩
    have h_below0 := h_below
    replace h_below := h_below.trans (hb1.mono h_below.size)
    clear hb1
    clear h_below0
    have s_below := h_below.size
    go_wp2_with fail
    refine Dr.cut_calls (fun X => (Below w.heap.size w X) ∧ (Row X (X1.heap.size) 30 [.int .i64 z1_0, .int .i64 z1_1, .int .i64 z1_2, .int .i64 z1_3, .int .i64 z1_4, .int .i64 z1_5, .int .i64 z1_6])) ⟨(by repeat' (first | (with_reducible exact Below.refl _ _) | (with_reducible refine Below.alloc ?_ ?_ _) | (with_reducible refine Below.setCell ?_ ?_ _) | (with_reducible refine Below.drew ?_) | (with_reducible refine Below.trans ?_ (Below.mono (by with_reducible assumption) ?_)) | omega | (simp; done) | (simp; omega))), (by first | exact Row.new _ _ _ | exact (Row.new _ _ _).to (by repeat' (first | (with_reducible exact Below.refl _ _) | (with_reducible refine Below.alloc ?_ ?_ _) | (with_reducible refine Below.setCell ?_ ?_ _) | (with_reducible refine Below.drew ?_) | (with_reducible refine Below.trans ?_ (Below.mono (by with_reducible assumption) ?_)) | omega | (simp; done) | (simp; omega))) | exact row_new_at _ _ _ _ (by simp) | exact (row_new_at _ _ _ _ (by simp)).to (by repeat' (first | (with_reducible exact Below.refl _ _) | (with_reducible refine Below.alloc ?_ ?_ _) | (with_reducible refine Below.setCell ?_ ?_ _) | (with_reducible refine Below.drew ?_) | (with_reducible refine Below.trans ?_ (Below.mono (by with_reducible assumption) ?_)) | omega | (simp; done) | (simp; omega))))⟩ ?_
    clear h_below s_below
    obtain ⟨BX2, hBX2⟩ : ∃ B, X1.heap.size = B := ⟨_, rfl⟩
    simp only [hBX2]
    clear hBX2
    rintro Y2 ⟨h_below, h_p⟩
    obtain ⟨n_, hV⟩ : ∃ n_, stcV z1_0 z1_1 z1_2 z1_3 z1_4 z1_5 z1_6 = n_ := ⟨_, rfl⟩
    obtain ⟨t, hT⟩ : ∃ t, stcB z1_0 z1_1 z1_2 z1_3 z1_4 z1_5 z1_6 = t := ⟨_, rfl⟩
    have hV := Lib.hid hV
    have hT := Lib.hid hT
    refine (iSun_at hV hT _).mono ?_
    rintro e X2 ⟨rfl, hb2⟩
    have h_below0 := h_below
    replace h_below := h_below.trans (hb2.mono h_below.size)
    replace h_p := Row.to h_p hb2
    clear hb2
    clear h_below0
    have s_below := h_below.size
    have l_p := Row.lt h_p
    have z_p := Row.frozen h_p
    obtain ⟨c_p0, c_p1, c_p2, c_p3, c_p4, c_p5, c_p6⟩ := row7c h_p
    go_wp2_with fail
    refine Dr.cut_calls (fun X => (Below w.heap.size w X) ∧ (Row X (BX2) 30 [.int .i64 z1_0, .int .i64 z1_1, .int .i64 z1_2, .int .i64 z1_3, .int .i64 z1_4, .int .i64 z1_5, .int .i64 z1_6])) ⟨(by repeat' (first | (with_reducible exact Below.refl _ _) | (with_reducible refine Below.alloc ?_ ?_ _) | (with_reducible refine Below.setCell ?_ ?_ _) | (with_reducible refine Below.drew ?_) | (with_reducible refine Below.trans ?_ (Below.mono (by with_reducible assumption) ?_)) | omega | (simp; done) | (simp; omega))), (Row.to h_p (by repeat' (first | (with_reducible exact Below.refl _ _) | (with_reducible refine Below.alloc ?_ ?_ _) | (with_reducible refine Below.setCell ?_ ?_ _) | (with_reducible refine Below.drew ?_) | (with_reducible refine Below.trans ?_ (Below.mono (by with_reducible assumption) ?_)) | omega | (simp; done) | (simp; omega))))⟩ ?_
    clear h_below s_below h_p l_p z_p c_p0 c_p1 c_p2 c_p3 c_p4 c_p5 c_p6
    rintro Y3 ⟨h_below, h_p⟩
    refine (sSun_at hV hT _).mono ?_
    rintro e X3 ⟨rfl, hb3⟩
    have h_below0 := h_below
    replace h_below := h_below.trans (hb3.mono h_below.size)
    replace h_p := Row.to h_p hb3
    clear hb3
    clear h_below0
    have s_below := h_below.size
    have l_p := Row.lt h_p
    have z_p := Row.frozen h_p
    obtain ⟨c_p0, c_p1, c_p2, c_p3, c_p4, c_p5, c_p6⟩ := row7c h_p
    cases t
    · go_upto_region 16 with (fail)
      exact FnPoolCrops_p6 A n c w _ hn hB (h_below.trans (by repeat' (first | (with_reducible exact Below.refl _ _) | (with_reducible refine Below.alloc ?_ ?_ _) | (with_reducible refine Below.setCell ?_ ?_ _) | (with_reducible refine Below.drew ?_) | (with_reducible refine Below.trans ?_ (Below.mono (by with_reducible assumption) ?_)) | omega | (simp; done) | (simp; omega)))) ht _ (by assumption)
    · obtain ⟨f1, f2, f3, f4⟩ := sun_hit hT.out hV.out
      obtain ⟨⟨q0, q1, q2, q3, q4, q5, q6⟩, hQ1⟩ : ∃ Q, Pl.step ⟨z1_0, z1_1, z1_2, z1_3, z1_4, z1_5, z1_6⟩ 2 n_ 0 = Q := ⟨_, rfl⟩
      rw [hQ1] at f2
      simp only at f2
      subst f2
      have hQ1 := Lib.hid hQ1
      have f1 := Lib.hid f1
      go_wp2_with fail
      refine Dr.cut_calls (fun X => (Below w.heap.size w X) ∧ (Row X (BX2) 30 [.int .i64 z1_0, .int .i64 z1_1, .int .i64 z1_2, .int .i64 z1_3, .int .i64 z1_4, .int .i64 z1_5, .int .i64 z1_6])) ⟨(by repeat' (first | (with_reducible exact Below.refl _ _) | (with_reducible refine Below.alloc ?_ ?_ _) | (with_reducible refine Below.setCell ?_ ?_ _) | (with_reducible refine Below.drew ?_) | (with_reducible refine Below.trans ?_ (Below.mono (by with_reducible assumption) ?_)) | omega | (simp; done) | (simp; omega))), (Row.to h_p (by repeat' (first | (with_reducible exact Below.refl _ _) | (with_reducible refine Below.alloc ?_ ?_ _) | (with_reducible refine Below.setCell ?_ ?_ _) | (with_reducible refine Below.drew ?_) | (with_reducible refine Below.trans ?_ (Below.mono (by with_reducible assumption) ?_)) | omega | (simp; done) | (simp; omega))))⟩ ?_
      clear h_below s_below h_p l_p z_p c_p0 c_p1 c_p2 c_p3 c_p4 c_p5 c_p6
      rintro Y4 ⟨h_below, h_p⟩
      refine (iStep_at hQ1 f1 (by omega) _).mono ?_
      rintro e X4 ⟨rfl, hb4⟩
      have h_below0 := h_below
      replace h_below := h_below.trans (hb4.mono h_below.size)
      replace h_p := Row.to h_p hb4
      clear hb4
      clear h_below0
      have s_below := h_below.size
      have l_p := Row.lt h_p
      have z_p := Row.frozen h_p
      obtain ⟨c_p0, c_p1, c_p2, c_p3, c_p4, c_p5, c_p6⟩ := row7c h_p
      by_cases hgt : 1 < n_
      · obtain ⟨g1, g2⟩ := sun_less hT.out hV.out hgt
        obtain ⟨⟨m0, m1, m2, m3, m4, m5, m6⟩, hQ2⟩ : ∃ Q, Pl.step ⟨z1_0, z1_1, z1_2, z1_3, z1_4, z1_5, z1_6⟩ 2 (n_ - 1) 0 = Q := ⟨_, rfl⟩
        rw [hQ2] at g2
        simp only at g2
        have hnb : (m0 == 2) = false := by simpa using g2
        have hQ2 := Lib.hid hQ2
        have g1 := Lib.hid g1
        have w1_ : wrap64 (n_ - 1) = n_ - 1 := by unfold wrap64; omega
        go_wp2_with fail
        refine Dr.cut_calls (fun X => (Below w.heap.size w X) ∧ (Row X (BX2) 30 [.int .i64 z1_0, .int .i64 z1_1, .int .i64 z1_2, .int .i64 z1_3, .int .i64 z1_4, .int .i64 z1_5, .int .i64 z1_6]) ∧ (Row X (X4.heap.size) 30 [.int .i64 2, .int .i64 q1, .int .i64 q2, .int .i64 q3, .int .i64 q4, .int .i64 q5, .int .i64 q6])) ⟨(by repeat' (first | (with_reducible exact Below.refl _ _) | (with_reducible refine Below.alloc ?_ ?_ _) | (with_reducible refine Below.setCell ?_ ?_ _) | (with_reducible refine Below.drew ?_) | (with_reducible refine Below.trans ?_ (Below.mono (by with_reducible assumption) ?_)) | omega | (simp; done) | (simp; omega))), (Row.to h_p (by repeat' (first | (with_reducible exact Below.refl _ _) | (with_reducible refine Below.alloc ?_ ?_ _) | (with_reducible refine Below.setCell ?_ ?_ _) | (with_reducible refine Below.drew ?_) | (with_reducible refine Below.trans ?_ (Below.mono (by with_reducible assumption) ?_)) | omega | (simp; done) | (simp; omega)))), (by first | exact Row.new _ _ _ | exact (Row.new _ _ _).to (by repeat' (first | (with_reducible exact Below.refl _ _) | (with_reducible refine Below.alloc ?_ ?_ _) | (with_reducible refine Below.setCell ?_ ?_ _) | (with_reducible refine Below.drew ?_) | (with_reducible refine Below.trans ?_ (Below.mono (by with_reducible assumption) ?_)) | omega | (simp; done) | (simp; omega))) | exact row_new_at _ _ _ _ (by simp) | exact (row_new_at _ _ _ _ (by simp)).to (by repeat' (first | (with_reducible exact Below.refl _ _) | (with_reducible refine Below.alloc ?_ ?_ _) | (with_reducible refine Below.setCell ?_ ?_ _) | (with_reducible refine Below.drew ?_) | (with_reducible refine Below.trans ?_ (Below.mono (by with_reducible assumption) ?_)) | omega | (simp; done) | (simp; omega))))⟩ ?_
        clear h_below s_below h_p l_p z_p c_p0 c_p1 c_p2 c_p3 c_p4 c_p5 c_p6
        obtain ⟨BX5, hBX5⟩ : ∃ B, X4.heap.size = B := ⟨_, rfl⟩
        simp only [hBX5]
        clear hBX5
        rintro Y5 ⟨h_below, h_p, h_o⟩
        refine (iStep_at hQ2 g1 (by omega) _).mono ?_
        rintro e X5 ⟨rfl, hb5⟩
        have h_below0 := h_below
        replace h_below := h_below.trans (hb5.mono h_below.size)
        replace h_p := Row.to h_p hb5
        replace h_o := Row.to h_o hb5
        clear hb5
        clear h_below0
        have s_below := h_below.size
        have l_p := Row.lt h_p
        have z_p := Row.frozen h_p
        obtain ⟨c_p0, c_p1, c_p2, c_p3, c_p4, c_p5, c_p6⟩ := row7c h_p
        have l_o := Row.lt h_o
        have z_o := Row.frozen h_o
        obtain ⟨c_o0, c_o1, c_o2, c_o3, c_o4, c_o5, c_o6⟩ := row7c h_o
        go_upto_region 16 with (fail)
        exact FnPoolCrops_p6 A n c w _ hn hB (h_below.trans (by repeat' (first | (with_reducible exact Below.refl _ _) | (with_reducible refine Below.alloc ?_ ?_ _) | (with_reducible refine Below.setCell ?_ ?_ _) | (with_reducible refine Below.drew ?_) | (with_reducible refine Below.trans ?_ (Below.mono (by with_reducible assumption) ?_)) | omega | (simp; done) | (simp; omega)))) ht _ (by assumption)
      · go_upto_region 16 with (fail)
        exact FnPoolCrops_p6 A n c w _ hn hB (h_below.trans (by repeat' (first | (with_reducible exact Below.refl _ _) | (with_reducible refine Below.alloc ?_ ?_ _) | (with_reducible refine Below.setCell ?_ ?_ _) | (with_reducible refine Below.drew ?_) | (with_reducible refine Below.trans ?_ (Below.mono (by with_reducible assumption) ?_)) | omega | (simp; done) | (simp; omega)))) ht _ (by assumption)
  · have hn' : 65536 < n := by omega
    go_enter Tryd.func4, Tryd.ntmps4
    go_wp2_with (first | (go_at_call 8; refine (vBig_any _ _ _ _).mono ?_; rintro e wX ⟨rfl, rfl⟩))
    go_ret
    exact ⟨rfl, (by repeat' (first | (with_reducible exact Below.refl _ _) | (with_reducible refine Below.alloc ?_ ?_ _) | (with_reducible refine Below.setCell ?_ ?_ _) | (with_reducible refine Below.drew ?_) | (with_reducible refine Below.trans ?_ (Below.mono (by with_reducible assumption) ?_)) | omega | (simp; done) | (simp; omega)))⟩
end Go.Proofs.YtmfahekkcgnndaaDoor
