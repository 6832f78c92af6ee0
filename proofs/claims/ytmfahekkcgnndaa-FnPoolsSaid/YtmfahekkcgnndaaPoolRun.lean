/- A pool's run of steps (chapter 21): the implementation. -/
import Derived.Test.YtmfahekkcgnndaaStepTwo
import Derived.Test.YtmfahekkcgnndaaPStepList
set_option linter.unusedSimpArgs false
set_option linter.unusedVariables false
namespace Go.Proofs.Ytmfahekkcgnndaa
open Go.RowKit Go.Sort Go.Salt
attribute [local go_sem] cell_rg
theorem row7r {W : World} {B : Nat} {E : TypeId} {a b c d e f g : Int} (h : Row W B E [.int .i64 a, .int .i64 b, .int .i64 c, .int .i64 d, .int .i64 e, .int .i64 f, .int .i64 g]) : W.cell? ⟨B, 0, none⟩ = some (.int .i64 a) ∧ W.cell? ⟨B, 1, none⟩ = some (.int .i64 b) ∧ W.cell? ⟨B, 2, none⟩ = some (.int .i64 c) ∧ W.cell? ⟨B, 3, none⟩ = some (.int .i64 d) ∧ W.cell? ⟨B, 4, none⟩ = some (.int .i64 e) ∧ W.cell? ⟨B, 5, none⟩ = some (.int .i64 f) ∧ W.cell? ⟨B, 6, none⟩ = some (.int .i64 g) :=
  ⟨h.cell (j := 0) (by simp), h.cell (j := 1) (by simp), h.cell (j := 2) (by simp), h.cell (j := 3) (by simp), h.cell (j := 4) (by simp), h.cell (j := 5) (by simp), h.cell (j := 6) (by simp)⟩
theorem step_ok {p : Pl} {k v z : Int} (h : p.stepB k v z = true) : (p.step k v z).ok = true := by
  have h2 := h
  simp only [Pl.stepB, Bool.and_eq_true] at h2
  have h3 := h2.2.2
  rw [Pl.step, if_pos h]
  unfold Pl.can at h3
  cases hr : p.raw k v z with
  | none => rw [hr] at h3; simp at h3
  | some q => rw [hr] at h3; exact h3
/-- A pool after its first k steps, and how many of them were made. -/
def rpS (p : Pl) (xs : List PSt) : Nat → Pl × Int
  | 0 => (p, 0)
  | k + 1 => if (rpS p xs k).1.stepB (el xs k).k (el xs k).v (el xs k).s = true then ((rpS p xs k).1.step (el xs k).k (el xs k).v (el xs k).s, (rpS p xs k).2 + 1) else rpS p xs k
theorem rpS_ok {p : Pl} (xs : List PSt) (hp : p.ok = true) : ∀ k, (rpS p xs k).1.ok = true
  | 0 => hp
  | k + 1 => by
    rw [rpS]
    split
    · exact step_ok (by assumption)
    · exact rpS_ok xs hp k
theorem rpS_bd (p : Pl) (xs : List PSt) : ∀ k : Nat, 0 ≤ (rpS p xs k).2 ∧ (rpS p xs k).2 ≤ k
  | 0 => ⟨Int.le_refl _, Int.le_refl _⟩
  | k + 1 => by
    have := rpS_bd p xs k
    rw [rpS]
    split
    · simp only []; omega
    · omega
def rpB (p : Pl) (xs : List PSt) : Bool := p.ok && decide (xs.length ≤ 40)
def rpO (p : Pl) (xs : List PSt) : Pl × Int := if rpB p xs = true then rpS p xs xs.length else (Pl.zero, 0)
theorem ret_run {p p' : Pl} {n n' : Int} {a b : Bool} (h : p = p') (h1 : n = n') (h2 : a = b) : Ending.returned (.tuple #[.agg p.enc.toArray, .int .i64 n, .bool a]) = .returned (.tuple #[.agg p'.enc.toArray, .int .i64 n', .bool b]) := by rw [h, h1, h2]
set_option maxRecDepth 100000 in
set_option maxHeartbeats 16000000 in
theorem iRunPool_any (A : Option Addr) (cp : Nat) (xs : List PSt) (st a s c i r l : Int) (w : World) (h : Rd w w.heap.size A 3 PSt.enc xs) (hm : xs.length ≤ 9223372036854775807) (hv : Hid (∀ k, k < xs.length → (el xs k).v ≤ 9223372036854775807)) :
    Calls Try.prog 37 #[.agg #[.int .i64 st, .int .i64 a, .int .i64 s, .int .i64 c, .int .i64 i, .int .i64 r, .int .i64 l], .slice A xs.length cp] w fun e w' => e = .returned (.tuple #[.agg (rpO ⟨st, a, s, c, i, r, l⟩ xs).1.enc.toArray, .int .i64 (rpO ⟨st, a, s, c, i, r, l⟩ xs).2, .bool (rpB ⟨st, a, s, c, i, r, l⟩ xs)]) ∧ Below w.heap.size w w' := by
  cases hG : Pl.ok ⟨st, a, s, c, i, r, l⟩
  · have HB := Lib.hid (show rpB ⟨st, a, s, c, i, r, l⟩ xs = false by simp [rpB, hG])
    have HO := Lib.hid (show rpO ⟨st, a, s, c, i, r, l⟩ xs = (Pl.zero, 0) by simp [rpO, HB.out])
    have hc := fun W => isPool_any st a s c i r l W
    rw [show poolOK st a s c i r l = false from hG] at hc
    replace hc := Lib.hid hc
    go_enter Try.func37, Try.ntmps37
    go_wp2_with fail
    (go_at_call 14; refine (hc.out _).mono ?_; rintro e w1 ⟨rfl, hb1⟩)
    (have hs1 := hb1.size; (try simp at hs1); obtain ⟨hc1, hf1, hn1⟩ := bcell hb1; (try have hz1_w_0 : w.heap.size < w1.heap.size := by omega); (try have hz1_w_1 : w.heap.size + 1 < w1.heap.size := by omega); (try have hz1_w_2 : w.heap.size + 2 < w1.heap.size := by omega); (try have hz1_w_2b : w.heap.size + 1 + 1 < w1.heap.size := by omega))
    go_wp2_with fail
    ((try simp only [Exit.inBlock, Exit.then]); refine bodyPost_ret (by simp [results, Try.results37, go_sem, *]; try rfl) rfl ?_)
    exact ⟨by rw [HB.out, HO.out]; rfl, (by repeat' (first | (with_reducible exact Below.refl _ _) | (with_reducible refine Below.alloc ?_ ?_ _) | (with_reducible refine Below.setCell ?_ ?_ _) | (with_reducible refine Below.drew ?_) | (with_reducible refine Below.trans ?_ (Below.mono (by with_reducible assumption) ?_)) | omega | (simp; done) | (simp; omega)))⟩
  · have hc := fun W => isPool_any st a s c i r l W
    rw [show poolOK st a s c i r l = true from hG] at hc
    replace hc := Lib.hid hc
    by_cases hx : xs.length ≤ 40
    · have HB := Lib.hid (show rpB ⟨st, a, s, c, i, r, l⟩ xs = true by simp [rpB, hG, hx])
      have HO := Lib.hid (show rpO ⟨st, a, s, c, i, r, l⟩ xs = rpS ⟨st, a, s, c, i, r, l⟩ xs xs.length by simp [rpO, HB.out])
      have hxi : (xs.length : Int) ≤ 40 := by omega
      go_enter Try.func37, Try.ntmps37
      go_wp2_with fail
      (go_at_call 14; refine (hc.out _).mono ?_; rintro e w1 ⟨rfl, hb1⟩)
      (have hs1 := hb1.size; (try simp at hs1); obtain ⟨hc1, hf1, hn1⟩ := bcell hb1; (try have hz1_w_0 : w.heap.size < w1.heap.size := by omega); (try have hz1_w_1 : w.heap.size + 1 < w1.heap.size := by omega); (try have hz1_w_2 : w.heap.size + 2 < w1.heap.size := by omega); (try have hz1_w_2b : w.heap.size + 1 + 1 < w1.heap.size := by omega))
      have hb0 : Below w.heap.size w w1 := (by repeat' (first | (with_reducible exact Below.refl _ _) | (with_reducible refine Below.alloc ?_ ?_ _) | (with_reducible refine Below.setCell ?_ ?_ _) | (with_reducible refine Below.drew ?_) | (with_reducible refine Below.trans ?_ (Below.mono (by with_reducible assumption) ?_)) | omega | (simp; done) | (simp; omega)))
      have hr0 : Row w1 w.heap.size 29 (Pl.enc ⟨st, a, s, c, i, r, l⟩) := ((Row.new w 29 #[.int .i64 st, .int .i64 a, .int .i64 s, .int .i64 c, .int .i64 i, .int .i64 r, .int .i64 l]).alloc _).to hb1
      have hr1 : Row w1 (w.heap.size + 1) 29 (Pl.enc Pl.zero) := by
        have := (Row.new (w.alloc (.cells #[.int .i64 st, .int .i64 a, .int .i64 s, .int .i64 c, .int .i64 i, .int .i64 r, .int .i64 l] 29)) 29 #[.int .i64 0, .int .i64 0, .int .i64 0, .int .i64 0, .int .i64 0, .int .i64 0, .int .i64 0]).to hb1
        rw [World.size_alloc] at this
        exact this
      go_wp2_with fail
      clear hc1 hf1 hn1 hb1
      go_loopw [7, 23] (fun cn ix wr => ∃ k : Nat, k ≤ xs.length ∧ ix = .int .i64 k ∧ cn = .int .i64 (rpS ⟨st, a, s, c, i, r, l⟩ xs k).2 ∧ Below w.heap.size w wr ∧ Row wr w.heap.size 29 (Pl.enc (rpS ⟨st, a, s, c, i, r, l⟩ xs k).1) ∧ Row wr (w.heap.size + 1) 29 (Pl.enc Pl.zero)) (fun _ ix _ => xs.length - (intOf ix).toNat)
      case atStart => exact ⟨0, Nat.zero_le _, rfl, rfl, hb0, hr0, hr1⟩
      case round =>
        clear hr0 hr1 hb0
        obtain ⟨k, hk, rfl, rfl, hb, hr0, hr1⟩ := hrel
        have hs := hb.size
        have hz0 := hr0.lt
        have hz1 := hr1.lt
        have hnn := rpS_bd ⟨st, a, s, c, i, r, l⟩ xs k
        by_cases hlt : k < xs.length
        · obtain ⟨b, o, rfl, hB, c0, c1, c2⟩ := pst_cells (h.below hb) hlt
          have hB1 : b < wr.heap.size := by omega
          have hI : (k : Int) < xs.length := by omega
          have hI0 : (0 : Int) ≤ k := by omega
          have hS := @rpS.eq_2 ⟨st, a, s, c, i, r, l⟩ xs k
          obtain ⟨⟨⟨q1, q2, q3, q4, q5, q6, q7⟩, n⟩, hQ⟩ : ∃ Q, rpS ⟨st, a, s, c, i, r, l⟩ xs k = Q := ⟨_, rfl⟩
          rw [hQ] at hr0 hS hnn
          simp only [hQ]
          have hvk := hv.out k hlt
          obtain ⟨⟨r1, r2, r3, r4, r5, r6, r7⟩, hR⟩ : ∃ Q, Pl.step ⟨q1, q2, q3, q4, q5, q6, q7⟩ (el xs k).k (el xs k).v (el xs k).s = Q := ⟨_, rfl⟩
          have hst : ∀ W : World, Calls Try.prog 32 #[.agg #[.int .i64 q1, .int .i64 q2, .int .i64 q3, .int .i64 q4, .int .i64 q5, .int .i64 q6, .int .i64 q7], .agg #[.int .i64 (el xs k).k, .int .i64 (el xs k).v, .int .i64 (el xs k).s]] W fun e w' => e = .returned (.tuple #[.agg #[.int .i64 r1, .int .i64 r2, .int .i64 r3, .int .i64 r4, .int .i64 r5, .int .i64 r6, .int .i64 r7], .bool (Pl.stepB ⟨q1, q2, q3, q4, q5, q6, q7⟩ (el xs k).k (el xs k).v (el xs k).s)]) ∧ Below W.heap.size W w' := by
            intro W
            have h1 := iStepPool_any q1 q2 q3 q4 q5 q6 q7 (el xs k).k (el xs k).v (el xs k).s W hvk
            rw [hR] at h1
            exact h1
          simp only [] at hnn hS
          rw [hR] at hS
          have HR0 := Lib.hid hr0
          have HR1 := Lib.hid hr1
          obtain ⟨p0, p1, p2, p3, p4, p5, p6⟩ := row7r (show Row wr w.heap.size 29 [.int .i64 q1, .int .i64 q2, .int .i64 q3, .int .i64 q4, .int .i64 q5, .int .i64 q6, .int .i64 q7] from hr0)
          clear hr0 hr1 hR hvk
          cases hT : Pl.stepB ⟨q1, q2, q3, q4, q5, q6, q7⟩ (el xs k).k (el xs k).v (el xs k).s
          · rw [hT] at hst hS
            replace hst := Lib.hid hst
            have HS' := Lib.hid hS
            clear hS hT
            go_wp2_with fail
            (go_at_call 32; refine (hst.out _).mono ?_; rintro e w1 ⟨rfl, hb1⟩)
            (have hs1 := hb1.size; (try simp at hs1); obtain ⟨hc1, hf1, hn1⟩ := bcell hb1; (try have hz1_wr_0 : wr.heap.size < w1.heap.size := by omega); (try have hz1_wr_1 : wr.heap.size + 1 < w1.heap.size := by omega); (try have hz1_wr_2 : wr.heap.size + 2 < w1.heap.size := by omega); (try have hB1 : b < w1.heap.size := by omega); (try have hB2 : b' < w1.heap.size := by omega); (try have hz1_wr_2b : wr.heap.size + 1 + 1 < w1.heap.size := by omega); (try have hz1_w_0 : w.heap.size < w1.heap.size := by omega); (try have hz1_w_1 : w.heap.size + 1 < w1.heap.size := by omega); (try have hz1_w_2 : w.heap.size + 2 < w1.heap.size := by omega); (try have hz1_w_2b : w.heap.size + 1 + 1 < w1.heap.size := by omega))
            go_wp2_with fail
            go_roundw
            case rel => exact ⟨k + 1, by omega, by go_num, by rw [HS'.out]; rfl, (by repeat' (first | (with_reducible exact Below.refl _ _) | (with_reducible refine Below.alloc ?_ ?_ _) | (with_reducible refine Below.setCell ?_ ?_ _) | (with_reducible refine Below.drew ?_) | (with_reducible refine Below.trans ?_ (Below.mono (by with_reducible assumption) ?_)) | omega | (simp; done) | (simp; omega))), by rw [HS'.out]; exact HR0.out.to (by repeat' (first | (with_reducible exact Below.refl _ _) | (with_reducible refine Below.alloc ?_ ?_ _) | (with_reducible refine Below.setCell ?_ ?_ _) | (with_reducible refine Below.drew ?_) | (with_reducible refine Below.trans ?_ (Below.mono (by with_reducible assumption) ?_)) | omega | (simp; done) | (simp; omega))), HR1.out.to (by repeat' (first | (with_reducible exact Below.refl _ _) | (with_reducible refine Below.alloc ?_ ?_ _) | (with_reducible refine Below.setCell ?_ ?_ _) | (with_reducible refine Below.drew ?_) | (with_reducible refine Below.trans ?_ (Below.mono (by with_reducible assumption) ?_)) | omega | (simp; done) | (simp; omega)))⟩
            case measure => simp [intOf]; omega
          · rw [hT] at hst hS
            replace hst := Lib.hid hst
            have HS' := Lib.hid hS
            clear hS hT
            go_wp2_with fail
            (go_at_call 32; refine (hst.out _).mono ?_; rintro e w1 ⟨rfl, hb1⟩)
            (have hs1 := hb1.size; (try simp at hs1); obtain ⟨hc1, hf1, hn1⟩ := bcell hb1; (try have hz1_wr_0 : wr.heap.size < w1.heap.size := by omega); (try have hz1_wr_1 : wr.heap.size + 1 < w1.heap.size := by omega); (try have hz1_wr_2 : wr.heap.size + 2 < w1.heap.size := by omega); (try have hB1 : b < w1.heap.size := by omega); (try have hB2 : b' < w1.heap.size := by omega); (try have hz1_wr_2b : wr.heap.size + 1 + 1 < w1.heap.size := by omega); (try have hz1_w_0 : w.heap.size < w1.heap.size := by omega); (try have hz1_w_1 : w.heap.size + 1 < w1.heap.size := by omega); (try have hz1_w_2 : w.heap.size + 2 < w1.heap.size := by omega); (try have hz1_w_2b : w.heap.size + 1 + 1 < w1.heap.size := by omega))
            have pf0 := HR0.out.frozen
            have R2 := Lib.hid ((((((((HR0.out.to (show Below wr.heap.size wr w1 from (by repeat' (first | (with_reducible exact Below.refl _ _) | (with_reducible refine Below.alloc ?_ ?_ _) | (with_reducible refine Below.setCell ?_ ?_ _) | (with_reducible refine Below.drew ?_) | (with_reducible refine Below.trans ?_ (Below.mono (by with_reducible assumption) ?_)) | omega | (simp; done) | (simp; omega))))).set (j := 0) (.int .i64 r1)).set (j := 1) (.int .i64 r2)).set (j := 2) (.int .i64 r3)).set (j := 3) (.int .i64 r4)).set (j := 4) (.int .i64 r5)).set (j := 5) (.int .i64 r6)).set (j := 6) (.int .i64 r7))
            have R1 := Lib.hid ((((((((HR1.out.to (show Below wr.heap.size wr w1 from (by repeat' (first | (with_reducible exact Below.refl _ _) | (with_reducible refine Below.alloc ?_ ?_ _) | (with_reducible refine Below.setCell ?_ ?_ _) | (with_reducible refine Below.drew ?_) | (with_reducible refine Below.trans ?_ (Below.mono (by with_reducible assumption) ?_)) | omega | (simp; done) | (simp; omega))))).far (p := ⟨w.heap.size, 0, none⟩) (by simp) (.int .i64 r1)).far (p := ⟨w.heap.size, 1, none⟩) (by simp) (.int .i64 r2)).far (p := ⟨w.heap.size, 2, none⟩) (by simp) (.int .i64 r3)).far (p := ⟨w.heap.size, 3, none⟩) (by simp) (.int .i64 r4)).far (p := ⟨w.heap.size, 4, none⟩) (by simp) (.int .i64 r5)).far (p := ⟨w.heap.size, 5, none⟩) (by simp) (.int .i64 r6)).far (p := ⟨w.heap.size, 6, none⟩) (by simp) (.int .i64 r7))
            go_wp2_with fail
            go_roundw
            case rel => exact ⟨k + 1, by omega, by go_num, by rw [HS'.out]; go_num, (by repeat' (first | (with_reducible exact Below.refl _ _) | (with_reducible refine Below.alloc ?_ ?_ _) | (with_reducible refine Below.setCell ?_ ?_ _) | (with_reducible refine Below.drew ?_) | (with_reducible refine Below.trans ?_ (Below.mono (by with_reducible assumption) ?_)) | omega | (simp; done) | (simp; omega))), by rw [HS'.out]; exact R2.out.to (by repeat' (first | (with_reducible exact Below.refl _ _) | (with_reducible refine Below.alloc ?_ ?_ _) | (with_reducible refine Below.setCell ?_ ?_ _) | (with_reducible refine Below.drew ?_) | (with_reducible refine Below.trans ?_ (Below.mono (by with_reducible assumption) ?_)) | omega | (simp; done) | (simp; omega))), R1.out.to (by repeat' (first | (with_reducible exact Below.refl _ _) | (with_reducible refine Below.alloc ?_ ?_ _) | (with_reducible refine Below.setCell ?_ ?_ _) | (with_reducible refine Below.drew ?_) | (with_reducible refine Below.trans ?_ (Below.mono (by with_reducible assumption) ?_)) | omega | (simp; done) | (simp; omega)))⟩
            case measure => simp [intOf]; omega
        · obtain rfl : k = xs.length := by omega
          have HR0 := Lib.hid hr0
          obtain ⟨⟨⟨q1, q2, q3, q4, q5, q6, q7⟩, n⟩, hQ⟩ : ∃ Q, rpS ⟨st, a, s, c, i, r, l⟩ xs xs.length = Q := ⟨_, rfl⟩
          rw [hQ] at hr0
          have HO' := Lib.hid (HO.out.trans hQ)
          simp only [hQ]
          obtain ⟨p0, p1, p2, p3, p4, p5, p6⟩ := row7r (show Row wr w.heap.size 29 [.int .i64 q1, .int .i64 q2, .int .i64 q3, .int .i64 q4, .int .i64 q5, .int .i64 q6, .int .i64 q7] from hr0)
          obtain ⟨t0, t1, t2, t3, t4, t5, t6⟩ := row7r (show Row wr (w.heap.size + 1) 29 [.int .i64 0, .int .i64 0, .int .i64 0, .int .i64 0, .int .i64 0, .int .i64 0, .int .i64 0] from hr1)
          have tf := hr1.frozen
          clear hr0 hr1 hQ
          go_wp2
          ((try simp only [Exit.inBlock, Exit.then]); refine bodyPost_ret (by simp [results, Try.results37, go_sem, *]; try rfl) rfl ?_)
          exact ⟨by rw [HB.out, HO'.out]; rfl, (by repeat' (first | (with_reducible exact Below.refl _ _) | (with_reducible refine Below.alloc ?_ ?_ _) | (with_reducible refine Below.setCell ?_ ?_ _) | (with_reducible refine Below.drew ?_) | (with_reducible refine Below.trans ?_ (Below.mono (by with_reducible assumption) ?_)) | omega | (simp; done) | (simp; omega)))⟩
    · have HB := Lib.hid (show rpB ⟨st, a, s, c, i, r, l⟩ xs = false by simp [rpB, hG, hx])
      have HO := Lib.hid (show rpO ⟨st, a, s, c, i, r, l⟩ xs = (Pl.zero, 0) by simp [rpO, HB.out])
      have hxi : (40 : Int) < xs.length := by omega
      go_enter Try.func37, Try.ntmps37
      go_wp2_with fail
      (go_at_call 14; refine (hc.out _).mono ?_; rintro e w1 ⟨rfl, hb1⟩)
      (have hs1 := hb1.size; (try simp at hs1); obtain ⟨hc1, hf1, hn1⟩ := bcell hb1; (try have hz1_w_0 : w.heap.size < w1.heap.size := by omega); (try have hz1_w_1 : w.heap.size + 1 < w1.heap.size := by omega); (try have hz1_w_2 : w.heap.size + 2 < w1.heap.size := by omega); (try have hz1_w_2b : w.heap.size + 1 + 1 < w1.heap.size := by omega))
      go_wp2_with fail
      ((try simp only [Exit.inBlock, Exit.then]); refine bodyPost_ret (by simp [results, Try.results37, go_sem, *]; try rfl) rfl ?_)
      exact ⟨by rw [HB.out, HO.out]; rfl, (by repeat' (first | (with_reducible exact Below.refl _ _) | (with_reducible refine Below.alloc ?_ ?_ _) | (with_reducible refine Below.setCell ?_ ?_ _) | (with_reducible refine Below.drew ?_) | (with_reducible refine Below.trans ?_ (Below.mono (by with_reducible assumption) ?_)) | omega | (simp; done) | (simp; omega)))⟩
end Go.Proofs.Ytmfahekkcgnndaa
