/- The law FnBalances: the start that is told, the first short day, what is unexplained. -/
import Derived.Test.YtkhldmicejdggaaDrBk
import Derived.Test.YtkhldmicejdggaaStkTwo
set_option linter.unusedSimpArgs false
set_option linter.unusedVariables false
namespace Go.Proofs.Ytkhldmicejdggaa
open Go.RowKit Go.Sort Go.Salt
attribute [local go_sem] cell_rg
theorem stkTo_start (xs : List Bk) (s d : Int) : ∀ k, stkTo xs s d k = s + stkTo xs 0 d k
  | 0 => by simp [stkTo]
  | k + 1 => by rw [stkTo, stkTo, stkTo_start xs s d k]; omega
theorem sti_start (xs : List Bk) (s : Int) (i : Nat) : sti xs s i = s + sti xs 0 i := stkTo_start xs s _ _
theorem shB_no {xs : List Bk} {s : Int} (h : okTo xs s xs.length) : shB xs s = false := by
  unfold shB; rw [fsF_of_ok h]; rfl
theorem shB_spec {xs : List Bk} {s : Int} (h : shB xs s = true) : ∃ i, i < xs.length ∧ sti xs s i < 0 ∧ shD xs s = (el xs i).d ∧ shV xs s = -sti xs s i := by
  have key : ∀ n i, fsF xs s n = some i → i < n ∧ sti xs s i < 0 := fun n => by
    induction n with
    | zero => intro i h; cases h
    | succ n ih =>
      intro i h
      rw [fsF] at h
      cases h1 : fsF xs s n with
      | some j =>
        rw [h1] at h
        obtain rfl : j = i := by simpa using h
        have := ih j h1
        exact ⟨by omega, this.2⟩
      | none =>
        rw [h1] at h
        by_cases h2 : sti xs s n < 0
        · obtain rfl : n = i := by simpa [h2] using h
          exact ⟨by omega, h2⟩
        · simp [h2] at h
  unfold shB at h
  cases hf : fsF xs s xs.length with
  | none => rw [hf] at h; cases h
  | some i =>
    obtain ⟨k1, k2⟩ := key _ _ hf
    refine ⟨i, k1, k2, ?_, ?_⟩
    · unfold shD; rw [hf]
    · unfold shV; rw [hf]
theorem shB_of {xs : List Bk} {s : Int} {i : Nat} (hi : i < xs.length) (h : sti xs s i < 0) : shB xs s = true := by
  cases hc : shB xs s with
  | true => rfl
  | false =>
    unfold shB at hc
    cases hf : fsF xs s xs.length with
    | none => have := fsF_none hf i hi; omega
    | some j => rw [hf] at hc; cases hc
theorem stn_nonneg (xs : List Bk) : 0 ≤ stnV xs := by
  unfold stnV; split
  · rcases mx_or (-(loD xs 0 xs.length).2) 0 with h | h <;> omega
  · omega
theorem stn_sound {xs : List Bk} (h : bksOK xs = true) (h2 : stnV xs ≤ 1000000) : souV xs (stnV xs) = true ∧ soB xs (stnV xs) = true := by
  have hn := stn_nonneg xs
  have hin : inB (stnV xs) 0 1000000 = true := inB_iff.2 ⟨hn, h2⟩
  have hs : shB xs (stnV xs) = false := shB_no (fun i hi => by
    rw [sti_start]
    have h3 := (loD_min (xs := xs) (s := 0) xs.length (by omega)).2 i hi
    have h4 := mx_or (-(loD xs 0 xs.length).2) 0
    unfold stnV
    rw [if_pos h]
    omega)
  exact ⟨by simp [souV, h, hin, hs], by simp [soB, h, hin]⟩
theorem stn_less {xs : List Bk} (h : bksOK xs = true) (h2 : stnV xs ≤ 1000000) (h0 : 0 < stnV xs) : souV xs (stnV xs - 1) = false ∧ soB xs (stnV xs - 1) = true := by
  have hin : inB (stnV xs - 1) 0 1000000 = true := inB_iff.2 ⟨by omega, by omega⟩
  have hl : 0 < xs.length := by
    rcases Nat.eq_zero_or_pos xs.length with e | e
    · unfold stnV at h0
      rw [if_pos h, e] at h0
      simp [loD, mx] at h0
    · exact e
  obtain ⟨i, hi, _, h3⟩ := (loD_min (xs := xs) (s := 0) xs.length hl).1
  have hs : shB xs (stnV xs - 1) = true := shB_of hi (by
    rw [sti_start]
    have h4 := mx_or (-(loD xs 0 xs.length).2) 0
    unfold stnV at h0 ⊢
    rw [if_pos h] at h0 ⊢
    omega)
  exact ⟨by simp [souV, hs], by simp [soB, h, hin]⟩
theorem sound_cases (xs : List Bk) (s : Int) : (soB xs s = false ∧ souV xs s = false ∧ fshB xs s = false) ∨ (soB xs s = true ∧ souV xs s = true ∧ fshB xs s = false) ∨ (soB xs s = true ∧ souV xs s = false ∧ fshB xs s = true) := by
  unfold soB souV fshB
  cases bksOK xs <;> cases inB s 0 1000000 <;> cases shB xs s <;> simp
theorem fsh_stock {xs : List Bk} {s : Int} (h : fshB xs s = true) : stoB xs s (fshD xs s) = true ∧ stoV xs s (fshD xs s) = -fshV xs s ∧ 1 ≤ fshV xs s ∧ fshV xs s ≤ 1000000000 := by
  have h' := h
  simp only [fshB, Bool.and_eq_true] at h'
  obtain ⟨⟨h1, h2⟩, h3⟩ := h'
  obtain ⟨i, hi, h4, h5, h6⟩ := shB_spec h3
  have hv := (bksOK_bd h1).2
  have hd := bkAt_bd (hv i hi)
  have hb := stk_bd (s := s) (day := (el xs i).d) hv (bksOK_bd h1).1
  have hs := inB_iff.1 h2
  have e1 : fshD xs s = (el xs i).d := by rw [fshD, if_pos h, h5]
  have e2 : fshV xs s = -sti xs s i := by rw [fshV, if_pos h, h6]
  have h7 : stoB xs s (fshD xs s) = true := by
    rw [e1]
    simp only [stoB, Bool.and_eq_true]
    exact ⟨⟨h1, h2⟩, inB_iff.2 ⟨hd.1, hd.2.1⟩⟩
  refine ⟨h7, ?_, by rw [e2]; omega, ?_⟩
  · rw [stoV, if_pos h7, e1, e2]; unfold sti; omega
  · rw [e2]; unfold sti; omega
theorem iAreSound_at {s : Int} {xs : List Bk} {v b : Bool} (hv : souV xs s = v ∧ soB xs s = b) (A : Option Addr) (c : Nat) (w : World) (h : Rd w w.heap.size A 3 Bk.enc xs) (hx : xs.length ≤ 1048576) :
    Calls Try.prog 27 #[.slice A xs.length c, .int .i64 s] w fun e w' => e = .returned (.tuple #[.bool v, .bool b]) ∧ Below w.heap.size w w' := by
  obtain ⟨rfl, rfl⟩ := hv; exact iAreSound_any A c xs s w h hx
theorem sAreSound_at {s : Int} {xs : List Bk} {v b : Bool} (hv : souV xs s = v ∧ soB xs s = b) (A : Option Addr) (c : Nat) (w : World) (h : Rd w w.heap.size A 3 Bk.enc xs) (hx : xs.length ≤ 1048576) :
    Calls Try.prog 26 #[.slice A xs.length c, .int .i64 s] w fun e w' => e = .returned (.tuple #[.bool v, .bool b]) ∧ Below w.heap.size w w' := by
  obtain ⟨rfl, rfl⟩ := hv; exact sAreSound_any A c xs s w h hx
theorem iFirstShort_at {s d v : Int} {xs : List Bk} {b : Bool} (hv : fshD xs s = d ∧ fshV xs s = v ∧ fshB xs s = b) (A : Option Addr) (c : Nat) (w : World) (h : Rd w w.heap.size A 3 Bk.enc xs) (hx : xs.length ≤ 1048576) :
    Calls Try.prog 23 #[.slice A xs.length c, .int .i64 s] w fun e w' => e = .returned (.tuple #[.int .i64 d, .int .i64 v, .bool b]) ∧ Below w.heap.size w w' := by
  obtain ⟨rfl, rfl, rfl⟩ := hv; exact iFirstShort_any A c xs s w h hx
theorem sFirstShort_at {s d v : Int} {xs : List Bk} {b : Bool} (hv : fshD xs s = d ∧ fshV xs s = v ∧ fshB xs s = b) (A : Option Addr) (c : Nat) (w : World) (h : Rd w w.heap.size A 3 Bk.enc xs) (hx : xs.length ≤ 1048576) :
    Calls Try.prog 22 #[.slice A xs.length c, .int .i64 s] w fun e w' => e = .returned (.tuple #[.int .i64 d, .int .i64 v, .bool b]) ∧ Below w.heap.size w w' := by
  obtain ⟨rfl, rfl, rfl⟩ := hv; exact sFirstShort_any A c xs s w h hx
theorem iStockOn_at {s d v : Int} {xs : List Bk} {b : Bool} (hv : stoV xs s d = v ∧ stoB xs s d = b) (A : Option Addr) (c : Nat) (w : World) (h : Rd w w.heap.size A 3 Bk.enc xs) (hx : xs.length ≤ 1048576) :
    Calls Try.prog 16 #[.slice A xs.length c, .int .i64 s, .int .i64 d] w fun e w' => e = .returned (.tuple #[.int .i64 v, .bool b]) ∧ Below w.heap.size w w' := by
  obtain ⟨rfl, rfl⟩ := hv; exact iStockOn_any A c xs s d w h hx
open Go.Dr in
theorem dStartNeeded_any (A : Option Addr) (n c : Nat) (w : World) (hn : n ≤ 65536) (hB : Byt w w.heap.size A n) :
    Calls Try.prog 36 #[.slice A n c] w fun e w' => ∃ (ad1 : Addr) (xs1 : List Bk) (c1 : Nat), e = .returned (.slice (some ad1) xs1.length c1) ∧ xs1.length ≤ 42 ∧ Rd w' w'.heap.size (some ad1) 3 Bk.enc xs1 ∧ Below w.heap.size w w' := by
  refine (Dr.draw_calls dStartNeeded_con rfl rfl (by decide) A n c w hn hB).mono ?_
  rintro e w' ⟨v, rfl, hv, hb⟩
  have a1 := Dr.one_of hv
  obtain ⟨A1, xs1, c1, rfl, _, hl1, hr1, hn1, hx1⟩ := rows_of (k := 3) (tb := bkTab) (T := 45) bkTab_bk rfl (by omega) Bk.enc (fun g => ⟨g 0, g 1, g 2⟩) (fun _ => rfl) a1
  obtain ⟨ad1, rfl⟩ := hn1 (by omega)
  exact ⟨ad1, xs1, c1, rfl, hl1, hr1, hb⟩
open Go.Dr in
theorem dFirstShort_any (A : Option Addr) (n c : Nat) (w : World) (hn : n ≤ 65536) (hB : Byt w w.heap.size A n) :
    Calls Try.prog 38 #[.slice A n c] w fun e w' => ∃ (ad1 : Addr) (xs1 : List Bk) (c1 : Nat) (z2 : Int), e = .returned (.tuple #[.slice (some ad1) xs1.length c1, .int .i64 z2]) ∧ xs1.length ≤ 42 ∧ Rd w' w'.heap.size (some ad1) 3 Bk.enc xs1 ∧ Below w.heap.size w w' := by
  refine (Dr.draw_calls dFirstShort_con rfl rfl (by decide) A n c w hn hB).mono ?_
  rintro e w' ⟨v, rfl, hv, hb⟩
  obtain ⟨u1, u2, rfl, a1, a2⟩ := tup2 hv
  obtain ⟨A1, xs1, c1, rfl, _, hl1, hr1, hn1, hx1⟩ := rows_of (k := 3) (tb := bkTab) (T := 45) bkTab_bk rfl (by omega) Bk.enc (fun g => ⟨g 0, g 1, g 2⟩) (fun _ => rfl) a1
  obtain ⟨ad1, rfl⟩ := hn1 (by omega)
  obtain ⟨z2, rfl, hz2a, hz2b⟩ := int_of a2
  exact ⟨ad1, xs1, c1, z2, rfl, hl1, hr1, hb⟩
open Go.Dr in
theorem dUnexplained_any (A : Option Addr) (n c : Nat) (w : World) (hn : n ≤ 65536) (hB : Byt w w.heap.size A n) :
    Calls Try.prog 39 #[.slice A n c] w fun e w' => ∃ (ad1 : Addr) (xs1 : List Bk) (c1 : Nat) (z2 : Int) (z3 : Int) (z4 : Int), e = .returned (.tuple #[.slice (some ad1) xs1.length c1, .int .i64 z2, .int .i64 z3, .int .i64 z4]) ∧ xs1.length ≤ 42 ∧ Rd w' w'.heap.size (some ad1) 3 Bk.enc xs1 ∧ Below w.heap.size w w' := by
  refine (Dr.draw_calls dUnexplained_con rfl rfl (by decide) A n c w hn hB).mono ?_
  rintro e w' ⟨v, rfl, hv, hb⟩
  obtain ⟨u1, u2, u3, u4, rfl, a1, a2, a3, a4⟩ := tup4 hv
  obtain ⟨A1, xs1, c1, rfl, _, hl1, hr1, hn1, hx1⟩ := rows_of (k := 3) (tb := bkTab) (T := 45) bkTab_bk rfl (by omega) Bk.enc (fun g => ⟨g 0, g 1, g 2⟩) (fun _ => rfl) a1
  obtain ⟨ad1, rfl⟩ := hn1 (by omega)
  obtain ⟨z2, rfl, hz2a, hz2b⟩ := int_of a2
  obtain ⟨z3, rfl, hz3a, hz3b⟩ := int_of a3
  obtain ⟨z4, rfl, hz4a, hz4b⟩ := int_of a4
  exact ⟨ad1, xs1, c1, z2, z3, z4, rfl, hl1, hr1, hb⟩
open Go.Dr in
theorem dStockOn_any (A : Option Addr) (n c : Nat) (w : World) (hn : n ≤ 65536) (hB : Byt w w.heap.size A n) :
    Calls Try.prog 40 #[.slice A n c] w fun e w' => ∃ (ad1 : Addr) (xs1 : List Bk) (c1 : Nat) (z2 : Int) (z3 : Int), e = .returned (.tuple #[.slice (some ad1) xs1.length c1, .int .i64 z2, .int .i64 z3]) ∧ xs1.length ≤ 42 ∧ Rd w' w'.heap.size (some ad1) 3 Bk.enc xs1 ∧ Below w.heap.size w w' := by
  refine (Dr.draw_calls dStockOn_con rfl rfl (by decide) A n c w hn hB).mono ?_
  rintro e w' ⟨v, rfl, hv, hb⟩
  obtain ⟨u1, u2, u3, rfl, a1, a2, a3⟩ := tup3 hv
  obtain ⟨A1, xs1, c1, rfl, _, hl1, hr1, hn1, hx1⟩ := rows_of (k := 3) (tb := bkTab) (T := 45) bkTab_bk rfl (by omega) Bk.enc (fun g => ⟨g 0, g 1, g 2⟩) (fun _ => rfl) a1
  obtain ⟨ad1, rfl⟩ := hn1 (by omega)
  obtain ⟨z2, rfl, hz2a, hz2b⟩ := int_of a2
  obtain ⟨z3, rfl, hz3a, hz3b⟩ := int_of a3
  exact ⟨ad1, xs1, c1, z2, z3, rfl, hl1, hr1, hb⟩
set_option maxRecDepth 100000 in
set_option maxHeartbeats 40000000 in
theorem FnBalances_p12 {u1 u2 u3 u4 u5 u6 u7 u8 u9 u10 u11 u12 u13 u14 u15 u16 u17 u18 u19 u20 u21 u22 u23 u24 u25 u26 u27 u28 u29 u30 u31 u32 u33 u34 u35 u36 u37 u38 u39 u40 u41 u42 u43 u44 u45 u46 u47 u48 u49 u50 u51 u52 u53 u54 u55 u56 u57 u58 u59 u60 u61 u62 u63 u64 u65 u66 u67 u68 u69 u70 u71 u72 u73 u74 u75 u76 u77 u78 u79 u80 u81 u82 u83 u84 u85 u86 u87 u88 u89 u90 u91 u92 u93 u94 u95 u96 u97 u98 u99 u100 u101 u102 u103 u104 u105 u106 u107 u108 u109 u110 u111 u112 u113 u114 u115 u116 u117 u118 u119 u120 u121 u122 u123 u124 u125 u126 u127 u128 u129 u130 u131 u132 u133 u134 u135 u136 u137 u138 u139 u140 u141 u142 u143 u144 u145 u146 u147 u148 u149 u150 u151 u152 u153 u154 u155 u156 u157 u158 u159 u160 u161 u162 u163 u164 u165 u166 u167 u168 u169 u170 u171 u172 u173 u174 u175 u176 u177 u178 u179 u180 u181 u182 u183 u184 u185 u186 u187 u188 u189 u190 u191 u192 u193 u194 u195 u196 u197 u198 u199 u200 u201 u202 u203 u204 u205 u206 u207 u208 u209 u210 u211 u212 u213 u214 u215 u216 u217 u218 u219 u220 u221 u222 u223 u224 u225 u226 u227 u228 u229 u230 u231 u232 u233 u234 u235 u236 u237 u238 u239 : Value} (A : Option Addr) (n c : Nat) (w wc : World) (hn : n ≤ 65536) (hB : Byt w w.heap.size A n) (h_below : Below w.heap.size w wc) (K : Act → World → Prop) (hK : ∀ a w1, (tailOf 13 (Try.f11.body.getD .skip)).wp Try.prog (bodyPost Try.prog Try.f11 fun e w' => e = .returned (.bool true) ∧ Below w.heap.size w w') a w1 → K a w1) :
    (headOf (tailOf 12 (Try.f11.body.getD .skip))).wp Try.prog (Exit.then K (bodyPost Try.prog Try.f11 fun e w' => e = .returned (.bool true) ∧ Below w.heap.size w w')) ⟨#[.slice A n c, u1, u2, u3, u4, u5, u6, u7, u8, u9, u10, u11, u12, u13, u14, u15, u16, u17, u18, u19, u20, u21, u22, u23, u24, u25, u26, u27, u28, u29, u30, u31, u32, u33, u34, u35, u36, u37, u38, u39, u40, u41, u42, u43, u44, u45, u46, u47, u48, u49, u50, u51, u52, u53, u54, u55, u56, u57, u58, u59, u60, u61, u62, u63, u64, u65, u66, u67, u68, u69, u70, u71, u72, u73, u74, u75, u76, u77, u78, u79, u80, u81, u82, u83, u84, u85, u86, u87, u88, u89, u90, u91, u92, u93, u94, u95, u96, u97, u98, u99, u100, u101, u102, u103, u104, u105, u106, u107, u108, u109, u110, u111, u112, u113, u114, u115, u116, u117, u118, u119, u120, u121, u122, u123, u124, u125, u126, u127, u128, u129, u130, u131, u132, u133, u134, u135, u136, u137, u138, u139, u140, u141, u142, u143, u144, u145, u146, u147, u148, u149, u150, u151, u152, u153, u154, u155, u156, u157, u158, u159, u160, u161, u162, u163, u164, u165, u166, u167, u168, u169, u170, u171, u172, u173, u174, u175, u176, u177, u178, u179, u180, u181, u182, u183, u184, u185, u186, u187, u188, u189, u190, u191, u192, u193, u194, u195, u196, u197, u198, u199, u200, u201, u202, u203, u204, u205, u206, u207, u208, u209, u210, u211, u212, u213, u214, u215, u216, u217, u218, u219, u220, u221, u222, u223, u224, u225, u226, u227, u228, u229, u230, u231, u232, u233, u234, u235, u236, u237, u238, u239], []⟩ wc := by
  have s_below := h_below.size
  simp only [tailOf, headOf, Option.getD, Try.f11] at hK ⊢
  go_wp2_with fail
  refine Dr.cut_calls (fun X => (Below w.heap.size w X)) ((by repeat' (first | (with_reducible exact Below.refl _ _) | (with_reducible refine Below.alloc ?_ ?_ _) | (with_reducible refine Below.setCell ?_ ?_ _) | (with_reducible refine Below.drew ?_) | (with_reducible refine Below.trans ?_ (Below.mono (by with_reducible assumption) ?_)) | omega | (simp; done) | (simp; omega)))) ?_
  clear h_below s_below
  intro Y1 h_below
  refine (dUnexplained_any _ _ _ _ hn (Dr.byt_more (hB.below h_below) h_below.size)).mono ?_
  rintro e X1 ⟨ad3, xs3, c3, s3, d3, n3, rfl, hl3, hr3, hb1⟩
  have h_below0 := h_below
  replace h_below := h_below.trans (hb1.mono h_below.size)
  clear hb1
  have h_x3 := hr3
  clear h_below0
  have s_below := h_below.size
  go_wp2_with fail
  refine Dr.cut_calls (fun X => (Below w.heap.size w X) ∧ (Rd X X.heap.size (some ad3) 3 Bk.enc xs3)) ⟨(by repeat' (first | (with_reducible exact Below.refl _ _) | (with_reducible refine Below.alloc ?_ ?_ _) | (with_reducible refine Below.setCell ?_ ?_ _) | (with_reducible refine Below.drew ?_) | (with_reducible refine Below.trans ?_ (Below.mono (by with_reducible assumption) ?_)) | omega | (simp; done) | (simp; omega))), (h_x3.to (by repeat' (first | (with_reducible exact Below.refl _ _) | (with_reducible refine Below.alloc ?_ ?_ _) | (with_reducible refine Below.setCell ?_ ?_ _) | (with_reducible refine Below.drew ?_) | (with_reducible refine Below.trans ?_ (Below.mono (by with_reducible assumption) ?_)) | omega | (simp; done) | (simp; omega))))⟩ ?_
  clear h_below s_below h_x3
  rintro Y2 ⟨h_below, h_x3⟩
  refine (iUnexplained_any _ _ _ _ _ _ _ h_x3 (by omega)).mono ?_
  rintro e X2 ⟨rfl, hb2⟩
  have h_below0 := h_below
  replace h_below := h_below.trans (hb2.mono h_below.size)
  replace h_x3 := h_x3.to hb2
  clear hb2
  clear h_below0
  have s_below := h_below.size
  go_wp2_with fail
  refine Dr.cut_calls (fun X => (Below w.heap.size w X) ∧ (Rd X X.heap.size (some ad3) 3 Bk.enc xs3)) ⟨(by repeat' (first | (with_reducible exact Below.refl _ _) | (with_reducible refine Below.alloc ?_ ?_ _) | (with_reducible refine Below.setCell ?_ ?_ _) | (with_reducible refine Below.drew ?_) | (with_reducible refine Below.trans ?_ (Below.mono (by with_reducible assumption) ?_)) | omega | (simp; done) | (simp; omega))), (h_x3.to (by repeat' (first | (with_reducible exact Below.refl _ _) | (with_reducible refine Below.alloc ?_ ?_ _) | (with_reducible refine Below.setCell ?_ ?_ _) | (with_reducible refine Below.drew ?_) | (with_reducible refine Below.trans ?_ (Below.mono (by with_reducible assumption) ?_)) | omega | (simp; done) | (simp; omega))))⟩ ?_
  clear h_below s_below h_x3
  rintro Y3 ⟨h_below, h_x3⟩
  refine (sUnexplained_any _ _ _ _ _ _ _ h_x3 (by omega)).mono ?_
  rintro e X3 ⟨rfl, hb3⟩
  have h_below0 := h_below
  replace h_below := h_below.trans (hb3.mono h_below.size)
  clear hb3
  clear h_below0
  have s_below := h_below.size
  clear h_x3
  go_wp2_with fail
  refine Dr.cut_calls (fun X => (Below w.heap.size w X)) ((by repeat' (first | (with_reducible exact Below.refl _ _) | (with_reducible refine Below.alloc ?_ ?_ _) | (with_reducible refine Below.setCell ?_ ?_ _) | (with_reducible refine Below.drew ?_) | (with_reducible refine Below.trans ?_ (Below.mono (by with_reducible assumption) ?_)) | omega | (simp; done) | (simp; omega)))) ?_
  clear h_below s_below
  intro Y4 h_below
  refine (dStockOn_any _ _ _ _ hn (Dr.byt_more (hB.below h_below) h_below.size)).mono ?_
  rintro e X4 ⟨ad4, xs4, c4, s4, d4, rfl, hl4, hr4, hb4⟩
  have h_below0 := h_below
  replace h_below := h_below.trans (hb4.mono h_below.size)
  clear hb4
  have h_x4 := hr4
  clear h_below0
  have s_below := h_below.size
  go_wp2_with fail
  refine Dr.cut_calls (fun X => (Below w.heap.size w X) ∧ (Rd X X.heap.size (some ad4) 3 Bk.enc xs4)) ⟨(by repeat' (first | (with_reducible exact Below.refl _ _) | (with_reducible refine Below.alloc ?_ ?_ _) | (with_reducible refine Below.setCell ?_ ?_ _) | (with_reducible refine Below.drew ?_) | (with_reducible refine Below.trans ?_ (Below.mono (by with_reducible assumption) ?_)) | omega | (simp; done) | (simp; omega))), (h_x4.to (by repeat' (first | (with_reducible exact Below.refl _ _) | (with_reducible refine Below.alloc ?_ ?_ _) | (with_reducible refine Below.setCell ?_ ?_ _) | (with_reducible refine Below.drew ?_) | (with_reducible refine Below.trans ?_ (Below.mono (by with_reducible assumption) ?_)) | omega | (simp; done) | (simp; omega))))⟩ ?_
  clear h_below s_below h_x4
  rintro Y5 ⟨h_below, h_x4⟩
  refine (iStockOn_any _ _ _ _ _ _ h_x4 (by omega)).mono ?_
  rintro e X5 ⟨rfl, hb5⟩
  have h_below0 := h_below
  replace h_below := h_below.trans (hb5.mono h_below.size)
  replace h_x4 := h_x4.to hb5
  clear hb5
  clear h_below0
  have s_below := h_below.size
  go_wp2_with fail
  refine Dr.cut_calls (fun X => (Below w.heap.size w X) ∧ (Rd X X.heap.size (some ad4) 3 Bk.enc xs4)) ⟨(by repeat' (first | (with_reducible exact Below.refl _ _) | (with_reducible refine Below.alloc ?_ ?_ _) | (with_reducible refine Below.setCell ?_ ?_ _) | (with_reducible refine Below.drew ?_) | (with_reducible refine Below.trans ?_ (Below.mono (by with_reducible assumption) ?_)) | omega | (simp; done) | (simp; omega))), (h_x4.to (by repeat' (first | (with_reducible exact Below.refl _ _) | (with_reducible refine Below.alloc ?_ ?_ _) | (with_reducible refine Below.setCell ?_ ?_ _) | (with_reducible refine Below.drew ?_) | (with_reducible refine Below.trans ?_ (Below.mono (by with_reducible assumption) ?_)) | omega | (simp; done) | (simp; omega))))⟩ ?_
  clear h_below s_below h_x4
  rintro Y6 ⟨h_below, h_x4⟩
  refine (sStockOn_any _ _ _ _ _ _ h_x4 (by omega)).mono ?_
  rintro e X6 ⟨rfl, hb6⟩
  have h_below0 := h_below
  replace h_below := h_below.trans (hb6.mono h_below.size)
  replace h_x4 := h_x4.to hb6
  clear hb6
  clear h_below0
  have s_below := h_below.size
  go_wp2_with fail
  go_ret
  exact ⟨rfl, h_below.trans (by repeat' (first | (with_reducible exact Below.refl _ _) | (with_reducible refine Below.alloc ?_ ?_ _) | (with_reducible refine Below.setCell ?_ ?_ _) | (with_reducible refine Below.drew ?_) | (with_reducible refine Below.trans ?_ (Below.mono (by with_reducible assumption) ?_)) | omega | (simp; done) | (simp; omega)))⟩
set_option maxRecDepth 100000 in
set_option maxHeartbeats 40000000 in
theorem FnBalances_p6 {u1 u2 u3 u4 u5 u6 u7 u8 u9 u10 u11 u12 u13 u14 u15 u16 u17 u18 u19 u20 u21 u22 u23 u24 u25 u26 u27 u28 u29 u30 u31 u32 u33 u34 u35 u36 u37 u38 u39 u40 u41 u42 u43 u44 u45 u46 u47 u48 u49 u50 u51 u52 u53 u54 u55 u56 u57 u58 u59 u60 u61 u62 u63 u64 u65 u66 u67 u68 u69 u70 u71 u72 u73 u74 u75 u76 u77 u78 u79 u80 u81 u82 u83 u84 u85 u86 u87 u88 u89 u90 u91 u92 u93 u94 u95 u96 u97 u98 u99 u100 u101 u102 u103 u104 u105 u106 u107 u108 u109 u110 u111 u112 u113 u114 u115 u116 u117 u118 u119 u120 u121 u122 u123 u124 u125 u126 u127 u128 u129 u130 u131 u132 u133 u134 u135 u136 u137 u138 u139 u140 u141 u142 u143 u144 u145 u146 u147 u148 u149 u150 u151 u152 u153 u154 u155 u156 u157 u158 u159 u160 u161 u162 u163 u164 u165 u166 u167 u168 u169 u170 u171 u172 u173 u174 u175 u176 u177 u178 u179 u180 u181 u182 u183 u184 u185 u186 u187 u188 u189 u190 u191 u192 u193 u194 u195 u196 u197 u198 u199 u200 u201 u202 u203 u204 u205 u206 u207 u208 u209 u210 u211 u212 u213 u214 u215 u216 u217 u218 u219 u220 u221 u222 u223 u224 u225 u226 u227 u228 u229 u230 u231 u232 u233 u234 u235 u236 u237 u238 u239 : Value} (A : Option Addr) (n c : Nat) (w wc : World) (hn : n ≤ 65536) (hB : Byt w w.heap.size A n) (h_below : Below w.heap.size w wc) (K : Act → World → Prop) (hK : ∀ a w1, (tailOf 7 (Try.f11.body.getD .skip)).wp Try.prog (bodyPost Try.prog Try.f11 fun e w' => e = .returned (.bool true) ∧ Below w.heap.size w w') a w1 → K a w1) :
    (headOf (tailOf 6 (Try.f11.body.getD .skip))).wp Try.prog (Exit.then K (bodyPost Try.prog Try.f11 fun e w' => e = .returned (.bool true) ∧ Below w.heap.size w w')) ⟨#[.slice A n c, u1, u2, u3, u4, u5, u6, u7, u8, u9, u10, u11, u12, u13, u14, u15, u16, u17, u18, u19, u20, u21, u22, u23, u24, u25, u26, u27, u28, u29, u30, u31, u32, u33, u34, u35, u36, u37, u38, u39, u40, u41, u42, u43, u44, u45, u46, u47, u48, u49, u50, u51, u52, u53, u54, u55, u56, u57, u58, u59, u60, u61, u62, u63, u64, u65, u66, u67, u68, u69, u70, u71, u72, u73, u74, u75, u76, u77, u78, u79, u80, u81, u82, u83, u84, u85, u86, u87, u88, u89, u90, u91, u92, u93, u94, u95, u96, u97, u98, u99, u100, u101, u102, u103, u104, u105, u106, u107, u108, u109, u110, u111, u112, u113, u114, u115, u116, u117, u118, u119, u120, u121, u122, u123, u124, u125, u126, u127, u128, u129, u130, u131, u132, u133, u134, u135, u136, u137, u138, u139, u140, u141, u142, u143, u144, u145, u146, u147, u148, u149, u150, u151, u152, u153, u154, u155, u156, u157, u158, u159, u160, u161, u162, u163, u164, u165, u166, u167, u168, u169, u170, u171, u172, u173, u174, u175, u176, u177, u178, u179, u180, u181, u182, u183, u184, u185, u186, u187, u188, u189, u190, u191, u192, u193, u194, u195, u196, u197, u198, u199, u200, u201, u202, u203, u204, u205, u206, u207, u208, u209, u210, u211, u212, u213, u214, u215, u216, u217, u218, u219, u220, u221, u222, u223, u224, u225, u226, u227, u228, u229, u230, u231, u232, u233, u234, u235, u236, u237, u238, u239], []⟩ wc := by
  have s_below := h_below.size
  simp only [tailOf, headOf, Option.getD, Try.f11] at hK ⊢
  go_wp2_with fail
  refine Dr.cut_calls (fun X => (Below w.heap.size w X)) ((by repeat' (first | (with_reducible exact Below.refl _ _) | (with_reducible refine Below.alloc ?_ ?_ _) | (with_reducible refine Below.setCell ?_ ?_ _) | (with_reducible refine Below.drew ?_) | (with_reducible refine Below.trans ?_ (Below.mono (by with_reducible assumption) ?_)) | omega | (simp; done) | (simp; omega)))) ?_
  clear h_below s_below
  intro Y1 h_below
  refine (dFirstShort_any _ _ _ _ hn (Dr.byt_more (hB.below h_below) h_below.size)).mono ?_
  rintro e X1 ⟨ad2, xs2, c2, s2, rfl, hl2, hr2, hb1⟩
  have h_below0 := h_below
  replace h_below := h_below.trans (hb1.mono h_below.size)
  clear hb1
  have h_x2 := hr2
  clear h_below0
  have s_below := h_below.size
  obtain ⟨d, hd⟩ : ∃ d, fshD xs2 s2 = d := ⟨_, rfl⟩
  obtain ⟨v, hv⟩ : ∃ v, fshV xs2 s2 = v := ⟨_, rfl⟩
  have hd := Lib.hid hd
  have hv := Lib.hid hv
  go_wp2_with fail
  rcases sound_cases xs2 s2 with ⟨h1, h2, h3⟩ | ⟨h1, h2, h3⟩ | ⟨h1, h2, h3⟩
  · have g1 := Lib.hid h1
    have g2 := Lib.hid h2
    have g3 := Lib.hid h3
    clear h1 h2 h3
    go_wp2_with fail
    refine Dr.cut_calls (fun X => (Below w.heap.size w X) ∧ (Rd X X.heap.size (some ad2) 3 Bk.enc xs2)) ⟨(by repeat' (first | (with_reducible exact Below.refl _ _) | (with_reducible refine Below.alloc ?_ ?_ _) | (with_reducible refine Below.setCell ?_ ?_ _) | (with_reducible refine Below.drew ?_) | (with_reducible refine Below.trans ?_ (Below.mono (by with_reducible assumption) ?_)) | omega | (simp; done) | (simp; omega))), (h_x2.to (by repeat' (first | (with_reducible exact Below.refl _ _) | (with_reducible refine Below.alloc ?_ ?_ _) | (with_reducible refine Below.setCell ?_ ?_ _) | (with_reducible refine Below.drew ?_) | (with_reducible refine Below.trans ?_ (Below.mono (by with_reducible assumption) ?_)) | omega | (simp; done) | (simp; omega))))⟩ ?_
    clear h_below s_below h_x2
    rintro Y2 ⟨h_below, h_x2⟩
    refine (iFirstShort_at (b := false) ⟨hd.out, hv.out, g3.out⟩ _ _ _ h_x2 (by omega)).mono ?_
    rintro e X2 ⟨rfl, hb2⟩
    have h_below0 := h_below
    replace h_below := h_below.trans (hb2.mono h_below.size)
    replace h_x2 := h_x2.to hb2
    clear hb2
    clear h_below0
    have s_below := h_below.size
    go_wp2_with fail
    refine Dr.cut_calls (fun X => (Below w.heap.size w X) ∧ (Rd X X.heap.size (some ad2) 3 Bk.enc xs2)) ⟨(by repeat' (first | (with_reducible exact Below.refl _ _) | (with_reducible refine Below.alloc ?_ ?_ _) | (with_reducible refine Below.setCell ?_ ?_ _) | (with_reducible refine Below.drew ?_) | (with_reducible refine Below.trans ?_ (Below.mono (by with_reducible assumption) ?_)) | omega | (simp; done) | (simp; omega))), (h_x2.to (by repeat' (first | (with_reducible exact Below.refl _ _) | (with_reducible refine Below.alloc ?_ ?_ _) | (with_reducible refine Below.setCell ?_ ?_ _) | (with_reducible refine Below.drew ?_) | (with_reducible refine Below.trans ?_ (Below.mono (by with_reducible assumption) ?_)) | omega | (simp; done) | (simp; omega))))⟩ ?_
    clear h_below s_below h_x2
    rintro Y3 ⟨h_below, h_x2⟩
    refine (sFirstShort_at (b := false) ⟨hd.out, hv.out, g3.out⟩ _ _ _ h_x2 (by omega)).mono ?_
    rintro e X3 ⟨rfl, hb3⟩
    have h_below0 := h_below
    replace h_below := h_below.trans (hb3.mono h_below.size)
    replace h_x2 := h_x2.to hb3
    clear hb3
    clear h_below0
    have s_below := h_below.size
    go_wp2_with fail
    refine Dr.cut_calls (fun X => (Below w.heap.size w X) ∧ (Rd X X.heap.size (some ad2) 3 Bk.enc xs2)) ⟨(by repeat' (first | (with_reducible exact Below.refl _ _) | (with_reducible refine Below.alloc ?_ ?_ _) | (with_reducible refine Below.setCell ?_ ?_ _) | (with_reducible refine Below.drew ?_) | (with_reducible refine Below.trans ?_ (Below.mono (by with_reducible assumption) ?_)) | omega | (simp; done) | (simp; omega))), (h_x2.to (by repeat' (first | (with_reducible exact Below.refl _ _) | (with_reducible refine Below.alloc ?_ ?_ _) | (with_reducible refine Below.setCell ?_ ?_ _) | (with_reducible refine Below.drew ?_) | (with_reducible refine Below.trans ?_ (Below.mono (by with_reducible assumption) ?_)) | omega | (simp; done) | (simp; omega))))⟩ ?_
    clear h_below s_below h_x2
    rintro Y4 ⟨h_below, h_x2⟩
    refine (iAreSound_at (v := false) (b := false) ⟨g2.out, g1.out⟩ _ _ _ h_x2 (by omega)).mono ?_
    rintro e X4 ⟨rfl, hb4⟩
    have h_below0 := h_below
    replace h_below := h_below.trans (hb4.mono h_below.size)
    replace h_x2 := h_x2.to hb4
    clear hb4
    clear h_below0
    have s_below := h_below.size
    go_wp2_with fail
    refine Dr.cut_calls (fun X => (Below w.heap.size w X) ∧ (Rd X X.heap.size (some ad2) 3 Bk.enc xs2)) ⟨(by repeat' (first | (with_reducible exact Below.refl _ _) | (with_reducible refine Below.alloc ?_ ?_ _) | (with_reducible refine Below.setCell ?_ ?_ _) | (with_reducible refine Below.drew ?_) | (with_reducible refine Below.trans ?_ (Below.mono (by with_reducible assumption) ?_)) | omega | (simp; done) | (simp; omega))), (h_x2.to (by repeat' (first | (with_reducible exact Below.refl _ _) | (with_reducible refine Below.alloc ?_ ?_ _) | (with_reducible refine Below.setCell ?_ ?_ _) | (with_reducible refine Below.drew ?_) | (with_reducible refine Below.trans ?_ (Below.mono (by with_reducible assumption) ?_)) | omega | (simp; done) | (simp; omega))))⟩ ?_
    clear h_below s_below h_x2
    rintro Y5 ⟨h_below, h_x2⟩
    refine (sAreSound_at (v := false) (b := false) ⟨g2.out, g1.out⟩ _ _ _ h_x2 (by omega)).mono ?_
    rintro e X5 ⟨rfl, hb5⟩
    have h_below0 := h_below
    replace h_below := h_below.trans (hb5.mono h_below.size)
    replace h_x2 := h_x2.to hb5
    clear hb5
    clear h_below0
    have s_below := h_below.size
    go_upto_region 29 with (fail)
    exact FnBalances_p12 A n c w _ hn hB (h_below.trans (by repeat' (first | (with_reducible exact Below.refl _ _) | (with_reducible refine Below.alloc ?_ ?_ _) | (with_reducible refine Below.setCell ?_ ?_ _) | (with_reducible refine Below.drew ?_) | (with_reducible refine Below.trans ?_ (Below.mono (by with_reducible assumption) ?_)) | omega | (simp; done) | (simp; omega))))  _ (by assumption)
  · have g1 := Lib.hid h1
    have g2 := Lib.hid h2
    have g3 := Lib.hid h3
    clear h1 h2 h3
    go_wp2_with fail
    refine Dr.cut_calls (fun X => (Below w.heap.size w X) ∧ (Rd X X.heap.size (some ad2) 3 Bk.enc xs2)) ⟨(by repeat' (first | (with_reducible exact Below.refl _ _) | (with_reducible refine Below.alloc ?_ ?_ _) | (with_reducible refine Below.setCell ?_ ?_ _) | (with_reducible refine Below.drew ?_) | (with_reducible refine Below.trans ?_ (Below.mono (by with_reducible assumption) ?_)) | omega | (simp; done) | (simp; omega))), (h_x2.to (by repeat' (first | (with_reducible exact Below.refl _ _) | (with_reducible refine Below.alloc ?_ ?_ _) | (with_reducible refine Below.setCell ?_ ?_ _) | (with_reducible refine Below.drew ?_) | (with_reducible refine Below.trans ?_ (Below.mono (by with_reducible assumption) ?_)) | omega | (simp; done) | (simp; omega))))⟩ ?_
    clear h_below s_below h_x2
    rintro Y2 ⟨h_below, h_x2⟩
    refine (iFirstShort_at (b := false) ⟨hd.out, hv.out, g3.out⟩ _ _ _ h_x2 (by omega)).mono ?_
    rintro e X2 ⟨rfl, hb2⟩
    have h_below0 := h_below
    replace h_below := h_below.trans (hb2.mono h_below.size)
    replace h_x2 := h_x2.to hb2
    clear hb2
    clear h_below0
    have s_below := h_below.size
    go_wp2_with fail
    refine Dr.cut_calls (fun X => (Below w.heap.size w X) ∧ (Rd X X.heap.size (some ad2) 3 Bk.enc xs2)) ⟨(by repeat' (first | (with_reducible exact Below.refl _ _) | (with_reducible refine Below.alloc ?_ ?_ _) | (with_reducible refine Below.setCell ?_ ?_ _) | (with_reducible refine Below.drew ?_) | (with_reducible refine Below.trans ?_ (Below.mono (by with_reducible assumption) ?_)) | omega | (simp; done) | (simp; omega))), (h_x2.to (by repeat' (first | (with_reducible exact Below.refl _ _) | (with_reducible refine Below.alloc ?_ ?_ _) | (with_reducible refine Below.setCell ?_ ?_ _) | (with_reducible refine Below.drew ?_) | (with_reducible refine Below.trans ?_ (Below.mono (by with_reducible assumption) ?_)) | omega | (simp; done) | (simp; omega))))⟩ ?_
    clear h_below s_below h_x2
    rintro Y3 ⟨h_below, h_x2⟩
    refine (sFirstShort_at (b := false) ⟨hd.out, hv.out, g3.out⟩ _ _ _ h_x2 (by omega)).mono ?_
    rintro e X3 ⟨rfl, hb3⟩
    have h_below0 := h_below
    replace h_below := h_below.trans (hb3.mono h_below.size)
    replace h_x2 := h_x2.to hb3
    clear hb3
    clear h_below0
    have s_below := h_below.size
    go_wp2_with fail
    refine Dr.cut_calls (fun X => (Below w.heap.size w X) ∧ (Rd X X.heap.size (some ad2) 3 Bk.enc xs2)) ⟨(by repeat' (first | (with_reducible exact Below.refl _ _) | (with_reducible refine Below.alloc ?_ ?_ _) | (with_reducible refine Below.setCell ?_ ?_ _) | (with_reducible refine Below.drew ?_) | (with_reducible refine Below.trans ?_ (Below.mono (by with_reducible assumption) ?_)) | omega | (simp; done) | (simp; omega))), (h_x2.to (by repeat' (first | (with_reducible exact Below.refl _ _) | (with_reducible refine Below.alloc ?_ ?_ _) | (with_reducible refine Below.setCell ?_ ?_ _) | (with_reducible refine Below.drew ?_) | (with_reducible refine Below.trans ?_ (Below.mono (by with_reducible assumption) ?_)) | omega | (simp; done) | (simp; omega))))⟩ ?_
    clear h_below s_below h_x2
    rintro Y4 ⟨h_below, h_x2⟩
    refine (iAreSound_at (v := true) (b := true) ⟨g2.out, g1.out⟩ _ _ _ h_x2 (by omega)).mono ?_
    rintro e X4 ⟨rfl, hb4⟩
    have h_below0 := h_below
    replace h_below := h_below.trans (hb4.mono h_below.size)
    replace h_x2 := h_x2.to hb4
    clear hb4
    clear h_below0
    have s_below := h_below.size
    go_wp2_with fail
    refine Dr.cut_calls (fun X => (Below w.heap.size w X) ∧ (Rd X X.heap.size (some ad2) 3 Bk.enc xs2)) ⟨(by repeat' (first | (with_reducible exact Below.refl _ _) | (with_reducible refine Below.alloc ?_ ?_ _) | (with_reducible refine Below.setCell ?_ ?_ _) | (with_reducible refine Below.drew ?_) | (with_reducible refine Below.trans ?_ (Below.mono (by with_reducible assumption) ?_)) | omega | (simp; done) | (simp; omega))), (h_x2.to (by repeat' (first | (with_reducible exact Below.refl _ _) | (with_reducible refine Below.alloc ?_ ?_ _) | (with_reducible refine Below.setCell ?_ ?_ _) | (with_reducible refine Below.drew ?_) | (with_reducible refine Below.trans ?_ (Below.mono (by with_reducible assumption) ?_)) | omega | (simp; done) | (simp; omega))))⟩ ?_
    clear h_below s_below h_x2
    rintro Y5 ⟨h_below, h_x2⟩
    refine (sAreSound_at (v := true) (b := true) ⟨g2.out, g1.out⟩ _ _ _ h_x2 (by omega)).mono ?_
    rintro e X5 ⟨rfl, hb5⟩
    have h_below0 := h_below
    replace h_below := h_below.trans (hb5.mono h_below.size)
    replace h_x2 := h_x2.to hb5
    clear hb5
    clear h_below0
    have s_below := h_below.size
    go_upto_region 29 with (fail)
    exact FnBalances_p12 A n c w _ hn hB (h_below.trans (by repeat' (first | (with_reducible exact Below.refl _ _) | (with_reducible refine Below.alloc ?_ ?_ _) | (with_reducible refine Below.setCell ?_ ?_ _) | (with_reducible refine Below.drew ?_) | (with_reducible refine Below.trans ?_ (Below.mono (by with_reducible assumption) ?_)) | omega | (simp; done) | (simp; omega))))  _ (by assumption)
  · have g1 := Lib.hid h1
    have g2 := Lib.hid h2
    have g3 := Lib.hid h3
    clear h1 h2 h3
    go_wp2_with fail
    refine Dr.cut_calls (fun X => (Below w.heap.size w X) ∧ (Rd X X.heap.size (some ad2) 3 Bk.enc xs2)) ⟨(by repeat' (first | (with_reducible exact Below.refl _ _) | (with_reducible refine Below.alloc ?_ ?_ _) | (with_reducible refine Below.setCell ?_ ?_ _) | (with_reducible refine Below.drew ?_) | (with_reducible refine Below.trans ?_ (Below.mono (by with_reducible assumption) ?_)) | omega | (simp; done) | (simp; omega))), (h_x2.to (by repeat' (first | (with_reducible exact Below.refl _ _) | (with_reducible refine Below.alloc ?_ ?_ _) | (with_reducible refine Below.setCell ?_ ?_ _) | (with_reducible refine Below.drew ?_) | (with_reducible refine Below.trans ?_ (Below.mono (by with_reducible assumption) ?_)) | omega | (simp; done) | (simp; omega))))⟩ ?_
    clear h_below s_below h_x2
    rintro Y2 ⟨h_below, h_x2⟩
    refine (iFirstShort_at (b := true) ⟨hd.out, hv.out, g3.out⟩ _ _ _ h_x2 (by omega)).mono ?_
    rintro e X2 ⟨rfl, hb2⟩
    have h_below0 := h_below
    replace h_below := h_below.trans (hb2.mono h_below.size)
    replace h_x2 := h_x2.to hb2
    clear hb2
    clear h_below0
    have s_below := h_below.size
    go_wp2_with fail
    refine Dr.cut_calls (fun X => (Below w.heap.size w X) ∧ (Rd X X.heap.size (some ad2) 3 Bk.enc xs2)) ⟨(by repeat' (first | (with_reducible exact Below.refl _ _) | (with_reducible refine Below.alloc ?_ ?_ _) | (with_reducible refine Below.setCell ?_ ?_ _) | (with_reducible refine Below.drew ?_) | (with_reducible refine Below.trans ?_ (Below.mono (by with_reducible assumption) ?_)) | omega | (simp; done) | (simp; omega))), (h_x2.to (by repeat' (first | (with_reducible exact Below.refl _ _) | (with_reducible refine Below.alloc ?_ ?_ _) | (with_reducible refine Below.setCell ?_ ?_ _) | (with_reducible refine Below.drew ?_) | (with_reducible refine Below.trans ?_ (Below.mono (by with_reducible assumption) ?_)) | omega | (simp; done) | (simp; omega))))⟩ ?_
    clear h_below s_below h_x2
    rintro Y3 ⟨h_below, h_x2⟩
    refine (sFirstShort_at (b := true) ⟨hd.out, hv.out, g3.out⟩ _ _ _ h_x2 (by omega)).mono ?_
    rintro e X3 ⟨rfl, hb3⟩
    have h_below0 := h_below
    replace h_below := h_below.trans (hb3.mono h_below.size)
    replace h_x2 := h_x2.to hb3
    clear hb3
    clear h_below0
    have s_below := h_below.size
    go_wp2_with fail
    refine Dr.cut_calls (fun X => (Below w.heap.size w X) ∧ (Rd X X.heap.size (some ad2) 3 Bk.enc xs2)) ⟨(by repeat' (first | (with_reducible exact Below.refl _ _) | (with_reducible refine Below.alloc ?_ ?_ _) | (with_reducible refine Below.setCell ?_ ?_ _) | (with_reducible refine Below.drew ?_) | (with_reducible refine Below.trans ?_ (Below.mono (by with_reducible assumption) ?_)) | omega | (simp; done) | (simp; omega))), (h_x2.to (by repeat' (first | (with_reducible exact Below.refl _ _) | (with_reducible refine Below.alloc ?_ ?_ _) | (with_reducible refine Below.setCell ?_ ?_ _) | (with_reducible refine Below.drew ?_) | (with_reducible refine Below.trans ?_ (Below.mono (by with_reducible assumption) ?_)) | omega | (simp; done) | (simp; omega))))⟩ ?_
    clear h_below s_below h_x2
    rintro Y4 ⟨h_below, h_x2⟩
    refine (iAreSound_at (v := false) (b := true) ⟨g2.out, g1.out⟩ _ _ _ h_x2 (by omega)).mono ?_
    rintro e X4 ⟨rfl, hb4⟩
    have h_below0 := h_below
    replace h_below := h_below.trans (hb4.mono h_below.size)
    replace h_x2 := h_x2.to hb4
    clear hb4
    clear h_below0
    have s_below := h_below.size
    go_wp2_with fail
    refine Dr.cut_calls (fun X => (Below w.heap.size w X) ∧ (Rd X X.heap.size (some ad2) 3 Bk.enc xs2)) ⟨(by repeat' (first | (with_reducible exact Below.refl _ _) | (with_reducible refine Below.alloc ?_ ?_ _) | (with_reducible refine Below.setCell ?_ ?_ _) | (with_reducible refine Below.drew ?_) | (with_reducible refine Below.trans ?_ (Below.mono (by with_reducible assumption) ?_)) | omega | (simp; done) | (simp; omega))), (h_x2.to (by repeat' (first | (with_reducible exact Below.refl _ _) | (with_reducible refine Below.alloc ?_ ?_ _) | (with_reducible refine Below.setCell ?_ ?_ _) | (with_reducible refine Below.drew ?_) | (with_reducible refine Below.trans ?_ (Below.mono (by with_reducible assumption) ?_)) | omega | (simp; done) | (simp; omega))))⟩ ?_
    clear h_below s_below h_x2
    rintro Y5 ⟨h_below, h_x2⟩
    refine (sAreSound_at (v := false) (b := true) ⟨g2.out, g1.out⟩ _ _ _ h_x2 (by omega)).mono ?_
    rintro e X5 ⟨rfl, hb5⟩
    have h_below0 := h_below
    replace h_below := h_below.trans (hb5.mono h_below.size)
    replace h_x2 := h_x2.to hb5
    clear hb5
    clear h_below0
    have s_below := h_below.size
    obtain ⟨k1, k2, k3, k4⟩ := fsh_stock g3.out
    rw [hd.out] at k1 k2
    rw [hv.out] at k2 k3 k4
    have k1 := Lib.hid k1
    have k2 := Lib.hid k2
    have k5 : wrap64 (-v) = -v := by unfold wrap64; omega
    go_wp2_with fail
    refine Dr.cut_calls (fun X => (Below w.heap.size w X) ∧ (Rd X X.heap.size (some ad2) 3 Bk.enc xs2)) ⟨(by repeat' (first | (with_reducible exact Below.refl _ _) | (with_reducible refine Below.alloc ?_ ?_ _) | (with_reducible refine Below.setCell ?_ ?_ _) | (with_reducible refine Below.drew ?_) | (with_reducible refine Below.trans ?_ (Below.mono (by with_reducible assumption) ?_)) | omega | (simp; done) | (simp; omega))), (h_x2.to (by repeat' (first | (with_reducible exact Below.refl _ _) | (with_reducible refine Below.alloc ?_ ?_ _) | (with_reducible refine Below.setCell ?_ ?_ _) | (with_reducible refine Below.drew ?_) | (with_reducible refine Below.trans ?_ (Below.mono (by with_reducible assumption) ?_)) | omega | (simp; done) | (simp; omega))))⟩ ?_
    clear h_below s_below h_x2
    rintro Y6 ⟨h_below, h_x2⟩
    refine (iStockOn_at (b := true) ⟨k2.out, k1.out⟩ _ _ _ h_x2 (by omega)).mono ?_
    rintro e X6 ⟨rfl, hb6⟩
    have h_below0 := h_below
    replace h_below := h_below.trans (hb6.mono h_below.size)
    replace h_x2 := h_x2.to hb6
    clear hb6
    clear h_below0
    have s_below := h_below.size
    go_upto_region 29 with (fail)
    exact FnBalances_p12 A n c w _ hn hB (h_below.trans (by repeat' (first | (with_reducible exact Below.refl _ _) | (with_reducible refine Below.alloc ?_ ?_ _) | (with_reducible refine Below.setCell ?_ ?_ _) | (with_reducible refine Below.drew ?_) | (with_reducible refine Below.trans ?_ (Below.mono (by with_reducible assumption) ?_)) | omega | (simp; done) | (simp; omega))))  _ (by assumption)
set_option maxRecDepth 100000 in
set_option maxHeartbeats 40000000 in
theorem FnBalances_law (A : Option Addr) (n c : Nat) (w : World) (hB : Byt w w.heap.size A n) :
    Calls Try.prog 11 #[.slice A n c] w fun e w' => e = .returned (.bool true) ∧ Below w.heap.size w w' := by
  by_cases hn : n ≤ 65536
  · have hn' : ¬ 65536 < n := by omega
    go_enter Try.func11, Try.ntmps11
    go_wp2_with (first | (go_at_call 35; refine (vBig_any _ _ _ _).mono ?_; rintro e wX ⟨rfl, rfl⟩))
    refine Dr.cut_calls (fun X => (Below w.heap.size w X)) ((by repeat' (first | (with_reducible exact Below.refl _ _) | (with_reducible refine Below.alloc ?_ ?_ _) | (with_reducible refine Below.setCell ?_ ?_ _) | (with_reducible refine Below.drew ?_) | (with_reducible refine Below.trans ?_ (Below.mono (by with_reducible assumption) ?_)) | omega | (simp; done) | (simp; omega)))) ?_
    intro Y1 h_below
    refine (dStartNeeded_any _ _ _ _ hn (Dr.byt_more (hB.below h_below) h_below.size)).mono ?_
    rintro e X1 ⟨ad1, xs1, c1, rfl, hl1, hr1, hb1⟩
    have h_below0 := h_below
    replace h_below := h_below.trans (hb1.mono h_below.size)
    clear hb1
    have h_x1 := hr1
    clear h_below0
    have s_below := h_below.size
    go_wp2_with fail
    refine Dr.cut_calls (fun X => (Below w.heap.size w X) ∧ (Rd X X.heap.size (some ad1) 3 Bk.enc xs1)) ⟨(by repeat' (first | (with_reducible exact Below.refl _ _) | (with_reducible refine Below.alloc ?_ ?_ _) | (with_reducible refine Below.setCell ?_ ?_ _) | (with_reducible refine Below.drew ?_) | (with_reducible refine Below.trans ?_ (Below.mono (by with_reducible assumption) ?_)) | omega | (simp; done) | (simp; omega))), (h_x1.to (by repeat' (first | (with_reducible exact Below.refl _ _) | (with_reducible refine Below.alloc ?_ ?_ _) | (with_reducible refine Below.setCell ?_ ?_ _) | (with_reducible refine Below.drew ?_) | (with_reducible refine Below.trans ?_ (Below.mono (by with_reducible assumption) ?_)) | omega | (simp; done) | (simp; omega))))⟩ ?_
    clear h_below s_below h_x1
    rintro Y2 ⟨h_below, h_x1⟩
    refine (iStartNeeded_any _ _ _ _ h_x1 (by omega)).mono ?_
    rintro e X2 ⟨rfl, hb2⟩
    have h_below0 := h_below
    replace h_below := h_below.trans (hb2.mono h_below.size)
    replace h_x1 := h_x1.to hb2
    clear hb2
    clear h_below0
    have s_below := h_below.size
    go_wp2_with fail
    refine Dr.cut_calls (fun X => (Below w.heap.size w X) ∧ (Rd X X.heap.size (some ad1) 3 Bk.enc xs1)) ⟨(by repeat' (first | (with_reducible exact Below.refl _ _) | (with_reducible refine Below.alloc ?_ ?_ _) | (with_reducible refine Below.setCell ?_ ?_ _) | (with_reducible refine Below.drew ?_) | (with_reducible refine Below.trans ?_ (Below.mono (by with_reducible assumption) ?_)) | omega | (simp; done) | (simp; omega))), (h_x1.to (by repeat' (first | (with_reducible exact Below.refl _ _) | (with_reducible refine Below.alloc ?_ ?_ _) | (with_reducible refine Below.setCell ?_ ?_ _) | (with_reducible refine Below.drew ?_) | (with_reducible refine Below.trans ?_ (Below.mono (by with_reducible assumption) ?_)) | omega | (simp; done) | (simp; omega))))⟩ ?_
    clear h_below s_below h_x1
    rintro Y3 ⟨h_below, h_x1⟩
    refine (sStartNeeded_any _ _ _ _ h_x1 (by omega)).mono ?_
    rintro e X3 ⟨rfl, hb3⟩
    have h_below0 := h_below
    replace h_below := h_below.trans (hb3.mono h_below.size)
    replace h_x1 := h_x1.to hb3
    clear hb3
    clear h_below0
    have s_below := h_below.size
    go_wp2_with fail
    refine Dr.cut_calls (fun X => (Below w.heap.size w X) ∧ (Rd X X.heap.size (some ad1) 3 Bk.enc xs1)) ⟨(by repeat' (first | (with_reducible exact Below.refl _ _) | (with_reducible refine Below.alloc ?_ ?_ _) | (with_reducible refine Below.setCell ?_ ?_ _) | (with_reducible refine Below.drew ?_) | (with_reducible refine Below.trans ?_ (Below.mono (by with_reducible assumption) ?_)) | omega | (simp; done) | (simp; omega))), (h_x1.to (by repeat' (first | (with_reducible exact Below.refl _ _) | (with_reducible refine Below.alloc ?_ ?_ _) | (with_reducible refine Below.setCell ?_ ?_ _) | (with_reducible refine Below.drew ?_) | (with_reducible refine Below.trans ?_ (Below.mono (by with_reducible assumption) ?_)) | omega | (simp; done) | (simp; omega))))⟩ ?_
    clear h_below s_below h_x1
    rintro Y4 ⟨h_below, h_x1⟩
    refine (areBookings_any _ _ _ _ h_x1 (by omega)).mono ?_
    rintro e X4 ⟨rfl, hb4⟩
    have h_below0 := h_below
    replace h_below := h_below.trans (hb4.mono h_below.size)
    replace h_x1 := h_x1.to hb4
    clear hb4
    clear h_below0
    have s_below := h_below.size
    cases hk : bksOK xs1
    · go_upto_region 16 with (fail)
      exact FnBalances_p6 A n c w _ hn hB (h_below.trans (by repeat' (first | (with_reducible exact Below.refl _ _) | (with_reducible refine Below.alloc ?_ ?_ _) | (with_reducible refine Below.setCell ?_ ?_ _) | (with_reducible refine Below.drew ?_) | (with_reducible refine Below.trans ?_ (Below.mono (by with_reducible assumption) ?_)) | omega | (simp; done) | (simp; omega))))  _ (by assumption)
    · by_cases ht : stnV xs1 ≤ 1000000
      · have hs1 := Lib.hid (stn_sound hk ht)
        have hs0 := stn_nonneg xs1
        have hw1 : wrap64 (stnV xs1 - 1) = stnV xs1 - 1 := by unfold wrap64; omega
        go_wp2_with fail
        refine Dr.cut_calls (fun X => (Below w.heap.size w X) ∧ (Rd X X.heap.size (some ad1) 3 Bk.enc xs1)) ⟨(by repeat' (first | (with_reducible exact Below.refl _ _) | (with_reducible refine Below.alloc ?_ ?_ _) | (with_reducible refine Below.setCell ?_ ?_ _) | (with_reducible refine Below.drew ?_) | (with_reducible refine Below.trans ?_ (Below.mono (by with_reducible assumption) ?_)) | omega | (simp; done) | (simp; omega))), (h_x1.to (by repeat' (first | (with_reducible exact Below.refl _ _) | (with_reducible refine Below.alloc ?_ ?_ _) | (with_reducible refine Below.setCell ?_ ?_ _) | (with_reducible refine Below.drew ?_) | (with_reducible refine Below.trans ?_ (Below.mono (by with_reducible assumption) ?_)) | omega | (simp; done) | (simp; omega))))⟩ ?_
        clear h_below s_below h_x1
        rintro Y5 ⟨h_below, h_x1⟩
        refine (iAreSound_at hs1.out _ _ _ h_x1 (by omega)).mono ?_
        rintro e X5 ⟨rfl, hb5⟩
        have h_below0 := h_below
        replace h_below := h_below.trans (hb5.mono h_below.size)
        replace h_x1 := h_x1.to hb5
        clear hb5
        clear h_below0
        have s_below := h_below.size
        by_cases h0 : 0 < stnV xs1
        · have hs2 := Lib.hid (stn_less hk ht h0)
          go_wp2_with fail
          refine Dr.cut_calls (fun X => (Below w.heap.size w X) ∧ (Rd X X.heap.size (some ad1) 3 Bk.enc xs1)) ⟨(by repeat' (first | (with_reducible exact Below.refl _ _) | (with_reducible refine Below.alloc ?_ ?_ _) | (with_reducible refine Below.setCell ?_ ?_ _) | (with_reducible refine Below.drew ?_) | (with_reducible refine Below.trans ?_ (Below.mono (by with_reducible assumption) ?_)) | omega | (simp; done) | (simp; omega))), (h_x1.to (by repeat' (first | (with_reducible exact Below.refl _ _) | (with_reducible refine Below.alloc ?_ ?_ _) | (with_reducible refine Below.setCell ?_ ?_ _) | (with_reducible refine Below.drew ?_) | (with_reducible refine Below.trans ?_ (Below.mono (by with_reducible assumption) ?_)) | omega | (simp; done) | (simp; omega))))⟩ ?_
          clear h_below s_below h_x1
          rintro Y6 ⟨h_below, h_x1⟩
          refine (iAreSound_at hs2.out _ _ _ h_x1 (by omega)).mono ?_
          rintro e X6 ⟨rfl, hb6⟩
          have h_below0 := h_below
          replace h_below := h_below.trans (hb6.mono h_below.size)
          replace h_x1 := h_x1.to hb6
          clear hb6
          clear h_below0
          have s_below := h_below.size
          go_upto_region 16 with (fail)
          exact FnBalances_p6 A n c w _ hn hB (h_below.trans (by repeat' (first | (with_reducible exact Below.refl _ _) | (with_reducible refine Below.alloc ?_ ?_ _) | (with_reducible refine Below.setCell ?_ ?_ _) | (with_reducible refine Below.drew ?_) | (with_reducible refine Below.trans ?_ (Below.mono (by with_reducible assumption) ?_)) | omega | (simp; done) | (simp; omega))))  _ (by assumption)
        · go_upto_region 16 with (fail)
          exact FnBalances_p6 A n c w _ hn hB (h_below.trans (by repeat' (first | (with_reducible exact Below.refl _ _) | (with_reducible refine Below.alloc ?_ ?_ _) | (with_reducible refine Below.setCell ?_ ?_ _) | (with_reducible refine Below.drew ?_) | (with_reducible refine Below.trans ?_ (Below.mono (by with_reducible assumption) ?_)) | omega | (simp; done) | (simp; omega))))  _ (by assumption)
      · go_upto_region 16 with (fail)
        exact FnBalances_p6 A n c w _ hn hB (h_below.trans (by repeat' (first | (with_reducible exact Below.refl _ _) | (with_reducible refine Below.alloc ?_ ?_ _) | (with_reducible refine Below.setCell ?_ ?_ _) | (with_reducible refine Below.drew ?_) | (with_reducible refine Below.trans ?_ (Below.mono (by with_reducible assumption) ?_)) | omega | (simp; done) | (simp; omega))))  _ (by assumption)
  · have hn' : 65536 < n := by omega
    go_enter Try.func11, Try.ntmps11
    go_wp2_with (first | (go_at_call 35; refine (vBig_any _ _ _ _).mono ?_; rintro e wX ⟨rfl, rfl⟩))
    go_ret
    exact ⟨rfl, (by repeat' (first | (with_reducible exact Below.refl _ _) | (with_reducible refine Below.alloc ?_ ?_ _) | (with_reducible refine Below.setCell ?_ ?_ _) | (with_reducible refine Below.drew ?_) | (with_reducible refine Below.trans ?_ (Below.mono (by with_reducible assumption) ?_)) | omega | (simp; done) | (simp; omega)))⟩
end Go.Proofs.Ytkhldmicejdggaa
