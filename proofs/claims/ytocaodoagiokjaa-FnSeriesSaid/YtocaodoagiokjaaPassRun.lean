/- Contracts of several passes (chapter 8). -/
import Derived.Test.YtocaodoagiokjaaPassLoopS
import Derived.Outline
set_option linter.unusedSimpArgs false
set_option linter.unusedVariables false
namespace Go.Proofs.Ytocaodoagiokjaa
open Go.RowKit Go.Sort Go.Salt
attribute [local go_sem] cell_rg
attribute [local go_sem ↓] run_max_mx run_min_mn
/-- k passes, if all are valid. -/
def apRun (n : Int) : Nat → List Bsn → Int → Int → Option (List Bsn × Int × Int)
  | 0, xs, a, s => some (xs, a, s)
  | k + 1, xs, a, s => if psB xs n a s = true then apRun n k (psL xs n 0) (panA xs n a 0) (panS xs n s 0) else none
def apV (xs : List Bsn) (a s n t : Int) : Bool := serOK xs && ((inB a 0 1000000 && inB s 0 1000000) && (decide (1 ≤ n) && inB t 0 100))
def apO (xs : List Bsn) (a s n t : Int) : Option (List Bsn × Int × Int) := if apV xs a s n t = true then apRun n t.toNat xs a s else none
def apL (o : Option (List Bsn × Int × Int)) : List Bsn := match o with | some x => x.1 | none => []
def apA (o : Option (List Bsn × Int × Int)) : Int := match o with | some x => x.2.1 | none => 0
def apS (o : Option (List Bsn × Int × Int)) : Int := match o with | some x => x.2.2 | none => 0
def apB (o : Option (List Bsn × Int × Int)) : Bool := match o with | some _ => true | none => false
theorem apRun_len (n : Int) : ∀ (k : Nat) (xs : List Bsn) (a s : Int), (apL (apRun n k xs a s)).length ≤ xs.length
  | 0, xs, a, s => Nat.le_refl _
  | k + 1, xs, a, s => by
    unfold apRun
    split
    · exact Nat.le_trans (apRun_len n k _ _ _) (by rw [psL_len]; exact Nat.le_refl _)
    · simp [apL]
theorem apO_len (xs : List Bsn) (a s n t : Int) : (apL (apO xs a s n t)).length ≤ xs.length := by
  unfold apO
  split
  · exact apRun_len _ _ _ _ _
  · simp [apL]
/-- What is returned. -/
def ApAt (w : World) (o : Option (List Bsn × Int × Int)) (e : Ending) (w' : World) : Prop :=
  MadeAt w 62 ((apL o).flatMap Bsn.enc) (apL o).length (fun v => .returned (.tuple #[v, .agg #[.int .i64 (apA o), .int .i64 (apS o)], .bool (apB o)])) e w'
theorem ap_no {w w' : World} {o : Option (List Bsn × Int × Int)} {v : Value} (h : o = none) (hv : MadeAt w 62 [] 0 (fun v => .returned (.tuple #[v, .agg #[.int .i64 0, .int .i64 0], .bool false])) (.returned (.tuple #[v, .agg #[.int .i64 0, .int .i64 0], .bool false])) w') : ApAt w o (.returned (.tuple #[v, .agg #[.int .i64 0, .int .i64 0], .bool false])) w' := by
  subst h; exact hv
theorem ap_yes {w w' : World} {o : Option (List Bsn × Int × Int)} {ys : List Bsn} {a s : Int} {g c : Nat} (h : o = some (ys, a, s)) (hg : w.heap.size ≤ g) (hr : Row w' g 62 (ys.flatMap Bsn.enc)) (hb : Below w.heap.size w w') : ApAt w o (.returned (.tuple #[.slice (some ⟨g, 0, none⟩) ys.length c, .agg #[.int .i64 a, .int .i64 s], .bool true])) w' := by
  subst h; exact ⟨_, c, rfl, OwnAt.row hg hr, hb⟩
theorem apO_no {xs : List Bsn} {a s n t : Int} (h : apV xs a s n t = false) : apO xs a s n t = none := by simp [apO, h]
theorem apO_run {xs : List Bsn} {a s n t : Int} (h : apV xs a s n t = true) : apO xs a s n t = apRun n t.toNat xs a s := by simp [apO, h]
theorem apRun_step {n : Int} {k m : Nat} {ys : List Bsn} {a s : Int} (hk : k < m) (h : psB ys n a s = true) : apRun n (m - k) ys a s = apRun n (m - (k + 1)) (psL ys n 0) (panA ys n a 0) (panS ys n s 0) := by
  rw [show m - k = (m - (k + 1)) + 1 by omega, apRun, if_pos h]
theorem apRun_stop {n : Int} {k m : Nat} {ys : List Bsn} {a s : Int} (hk : k < m) (h : psB ys n a s = false) : apRun n (m - k) ys a s = none := by
  rw [show m - k = (m - (k + 1)) + 1 by omega, apRun, if_neg (by rw [h]; exact Bool.false_ne_true)]
set_option maxRecDepth 100000 in
set_option maxHeartbeats 4000000 in
theorem iAfterPasses_any (ad : Addr) (c : Nat) (xs : List Bsn) (a s n t : Int) (w : World) (h : Rd w w.heap.size (some ad) 3 Bsn.enc xs) (hx : xs.length ≤ 1048576) :
    Calls Try.prog 25 #[.slice (some ad) xs.length c, .agg #[.int .i64 a, .int .i64 s], .int .i64 n, .int .i64 t] w fun e w' => ApAt w (apO xs a s n t) e w' := by
  cases hG : serOK xs
  · have Hno := Lib.hid (apO_no (show apV xs a s n t = false by simp [apV, hG]))
    go_enter Try.func25, Try.ntmps25
    go_wp2_with fail
    (go_at_call 29; refine (isSeries_any _ _ _ _ (h.to (by repeat' (first | (with_reducible exact Below.refl _ _) | (with_reducible refine Below.alloc ?_ ?_ _) | (with_reducible refine Below.setCell ?_ ?_ _) | (with_reducible refine Below.drew ?_) | (with_reducible refine Below.trans ?_ (Below.mono (by with_reducible assumption) ?_)) | omega | (simp; done) | (simp; omega)))) hx).mono ?_; rintro e w1 ⟨rfl, hb1⟩)
    (have hs1 := hb1.size; (try simp at hs1); obtain ⟨hc1, hf1, hn1⟩ := bcell hb1; (try have hz1_w_0 : w.heap.size < w1.heap.size := by omega); (try have hz1_w_1 : w.heap.size + 1 < w1.heap.size := by omega); (try have hz1_w_2 : w.heap.size + 2 < w1.heap.size := by omega); (try have hz1_w_2b : w.heap.size + 1 + 1 < w1.heap.size := by omega))
    go_wp2_with fail
    ((try simp only [Exit.inBlock, Exit.then]); refine bodyPost_ret (by simp [results, Try.results25, go_sem, *]; try rfl) rfl ?_)
    exact ap_no Hno.out (MadeAt.nil (fun v => .returned (.tuple #[v, .agg #[.int .i64 0, .int .i64 0], .bool false])) (by repeat' (first | (with_reducible exact Below.refl _ _) | (with_reducible refine Below.alloc ?_ ?_ _) | (with_reducible refine Below.setCell ?_ ?_ _) | (with_reducible refine Below.drew ?_) | (with_reducible refine Below.trans ?_ (Below.mono (by with_reducible assumption) ?_)) | omega | (simp; done) | (simp; omega))))
  · have hv := Lib.hid (serOK_bd hG).2
    have hn := (serOK_bd hG).1
    have hc := fun W => isBrine_any a s W
    cases hB : (inB a 0 1000000 && inB s 0 1000000)
    · have Hno := Lib.hid (apO_no (show apV xs a s n t = false by rw [apV, hB, Bool.false_and, Bool.and_false]))
      rw [hB] at hc
      clear hB
      go_enter Try.func25, Try.ntmps25
      go_wp2_with fail
      (go_at_call 29; refine (isSeries_any _ _ _ _ (h.to (by repeat' (first | (with_reducible exact Below.refl _ _) | (with_reducible refine Below.alloc ?_ ?_ _) | (with_reducible refine Below.setCell ?_ ?_ _) | (with_reducible refine Below.drew ?_) | (with_reducible refine Below.trans ?_ (Below.mono (by with_reducible assumption) ?_)) | omega | (simp; done) | (simp; omega)))) hx).mono ?_; rintro e w1 ⟨rfl, hb1⟩)
      (have hs1 := hb1.size; (try simp at hs1); obtain ⟨hc1, hf1, hn1⟩ := bcell hb1; (try have hz1_w_0 : w.heap.size < w1.heap.size := by omega); (try have hz1_w_1 : w.heap.size + 1 < w1.heap.size := by omega); (try have hz1_w_2 : w.heap.size + 2 < w1.heap.size := by omega); (try have hz1_w_2b : w.heap.size + 1 + 1 < w1.heap.size := by omega))
      go_wp2_with fail
      (go_at_call 40; refine (hc _).mono ?_; rintro e w2 ⟨rfl, hb2⟩)
      (have hs2 := hb2.size; (try simp at hs2); obtain ⟨hc2, hf2, hn2⟩ := bcell hb2; (try have hz2_w_0 : w.heap.size < w2.heap.size := by omega); (try have hz2_w_1 : w.heap.size + 1 < w2.heap.size := by omega); (try have hz2_w_2 : w.heap.size + 2 < w2.heap.size := by omega); (try have hz2_w_2b : w.heap.size + 1 + 1 < w2.heap.size := by omega); (try have hz2_w1_0 : w1.heap.size < w2.heap.size := by omega); (try have hz2_w1_1 : w1.heap.size + 1 < w2.heap.size := by omega); (try have hz2_w1_2 : w1.heap.size + 2 < w2.heap.size := by omega); (try have hz2_w1_2b : w1.heap.size + 1 + 1 < w2.heap.size := by omega))
      go_wp2_with fail
      ((try simp only [Exit.inBlock, Exit.then]); refine bodyPost_ret (by simp [results, Try.results25, go_sem, *]; try rfl) rfl ?_)
      exact ap_no Hno.out (MadeAt.nil (fun v => .returned (.tuple #[v, .agg #[.int .i64 0, .int .i64 0], .bool false])) (by repeat' (first | (with_reducible exact Below.refl _ _) | (with_reducible refine Below.alloc ?_ ?_ _) | (with_reducible refine Below.setCell ?_ ?_ _) | (with_reducible refine Below.drew ?_) | (with_reducible refine Below.trans ?_ (Below.mono (by with_reducible assumption) ?_)) | omega | (simp; done) | (simp; omega))))
    · by_cases hN : 1 ≤ n
      · cases hT : inB t 0 100
        · have Hno := Lib.hid (apO_no (show apV xs a s n t = false by rw [apV, hT, Bool.and_false, Bool.and_false, Bool.and_false]))
          rw [hB] at hc
          clear hB
          go_enter Try.func25, Try.ntmps25
          go_wp2_with (first | (go_at_call 52; refine (within_any _ _ _ _).mono ?_; rintro e wX ⟨rfl, rfl⟩))
          (go_at_call 29; refine (isSeries_any _ _ _ _ (h.to (by repeat' (first | (with_reducible exact Below.refl _ _) | (with_reducible refine Below.alloc ?_ ?_ _) | (with_reducible refine Below.setCell ?_ ?_ _) | (with_reducible refine Below.drew ?_) | (with_reducible refine Below.trans ?_ (Below.mono (by with_reducible assumption) ?_)) | omega | (simp; done) | (simp; omega)))) hx).mono ?_; rintro e w1 ⟨rfl, hb1⟩)
          (have hs1 := hb1.size; (try simp at hs1); obtain ⟨hc1, hf1, hn1⟩ := bcell hb1; (try have hz1_w_0 : w.heap.size < w1.heap.size := by omega); (try have hz1_w_1 : w.heap.size + 1 < w1.heap.size := by omega); (try have hz1_w_2 : w.heap.size + 2 < w1.heap.size := by omega); (try have hz1_w_2b : w.heap.size + 1 + 1 < w1.heap.size := by omega))
          go_wp2_with (first | (go_at_call 52; refine (within_any _ _ _ _).mono ?_; rintro e wX ⟨rfl, rfl⟩))
          (go_at_call 40; refine (hc _).mono ?_; rintro e w2 ⟨rfl, hb2⟩)
          (have hs2 := hb2.size; (try simp at hs2); obtain ⟨hc2, hf2, hn2⟩ := bcell hb2; (try have hz2_w_0 : w.heap.size < w2.heap.size := by omega); (try have hz2_w_1 : w.heap.size + 1 < w2.heap.size := by omega); (try have hz2_w_2 : w.heap.size + 2 < w2.heap.size := by omega); (try have hz2_w_2b : w.heap.size + 1 + 1 < w2.heap.size := by omega); (try have hz2_w1_0 : w1.heap.size < w2.heap.size := by omega); (try have hz2_w1_1 : w1.heap.size + 1 < w2.heap.size := by omega); (try have hz2_w1_2 : w1.heap.size + 2 < w2.heap.size := by omega); (try have hz2_w1_2b : w1.heap.size + 1 + 1 < w2.heap.size := by omega))
          go_wp2_with (first | (go_at_call 52; refine (within_any _ _ _ _).mono ?_; rintro e wX ⟨rfl, rfl⟩))
          ((try simp only [Exit.inBlock, Exit.then]); refine bodyPost_ret (by simp [results, Try.results25, go_sem, *]; try rfl) rfl ?_)
          exact ap_no Hno.out (MadeAt.nil (fun v => .returned (.tuple #[v, .agg #[.int .i64 0, .int .i64 0], .bool false])) (by repeat' (first | (with_reducible exact Below.refl _ _) | (with_reducible refine Below.alloc ?_ ?_ _) | (with_reducible refine Below.setCell ?_ ?_ _) | (with_reducible refine Below.drew ?_) | (with_reducible refine Below.trans ?_ (Below.mono (by with_reducible assumption) ?_)) | omega | (simp; done) | (simp; omega))))
        · have htb := inB_iff.1 hT
          obtain ⟨T, rfl⟩ : ∃ T : Nat, t = T := ⟨t.toNat, by omega⟩
          have Hrun := Lib.hid (apO_run (show apV xs a s n T = true by rw [apV, hG, hB, hT, decide_eq_true hN]; rfl))
          have HB := Lib.hid (And.intro hG hB)
          rw [hB] at hc
          clear hB
          go_enter Try.func25, Try.ntmps25
          go_wp2_with (first | (go_at_call 52; refine (within_any _ _ _ _).mono ?_; rintro e wX ⟨rfl, rfl⟩))
          (go_at_call 29; refine (isSeries_any _ _ _ _ (h.to (by repeat' (first | (with_reducible exact Below.refl _ _) | (with_reducible refine Below.alloc ?_ ?_ _) | (with_reducible refine Below.setCell ?_ ?_ _) | (with_reducible refine Below.drew ?_) | (with_reducible refine Below.trans ?_ (Below.mono (by with_reducible assumption) ?_)) | omega | (simp; done) | (simp; omega)))) hx).mono ?_; rintro e w1 ⟨rfl, hb1⟩)
          (have hs1 := hb1.size; (try simp at hs1); obtain ⟨hc1, hf1, hn1⟩ := bcell hb1; (try have hz1_w_0 : w.heap.size < w1.heap.size := by omega); (try have hz1_w_1 : w.heap.size + 1 < w1.heap.size := by omega); (try have hz1_w_2 : w.heap.size + 2 < w1.heap.size := by omega); (try have hz1_w_2b : w.heap.size + 1 + 1 < w1.heap.size := by omega))
          go_wp2_with (first | (go_at_call 52; refine (within_any _ _ _ _).mono ?_; rintro e wX ⟨rfl, rfl⟩))
          (go_at_call 40; refine (hc _).mono ?_; rintro e w2 ⟨rfl, hb2⟩)
          (have hs2 := hb2.size; (try simp at hs2); obtain ⟨hc2, hf2, hn2⟩ := bcell hb2; (try have hz2_w_0 : w.heap.size < w2.heap.size := by omega); (try have hz2_w_1 : w.heap.size + 1 < w2.heap.size := by omega); (try have hz2_w_2 : w.heap.size + 2 < w2.heap.size := by omega); (try have hz2_w_2b : w.heap.size + 1 + 1 < w2.heap.size := by omega); (try have hz2_w1_0 : w1.heap.size < w2.heap.size := by omega); (try have hz2_w1_1 : w1.heap.size + 1 < w2.heap.size := by omega); (try have hz2_w1_2 : w1.heap.size + 2 < w2.heap.size := by omega); (try have hz2_w1_2b : w1.heap.size + 1 + 1 < w2.heap.size := by omega))
          go_wp2_with (first | (go_at_call 52; refine (within_any _ _ _ _).mono ?_; rintro e wX ⟨rfl, rfl⟩))
          (go_at_call 44; refine (cloneBsn_own ad c xs _ (h.to (by repeat' (first | (with_reducible exact Below.refl _ _) | (with_reducible refine Below.alloc ?_ ?_ _) | (with_reducible refine Below.setCell ?_ ?_ _) | (with_reducible refine Below.drew ?_) | (with_reducible refine Below.trans ?_ (Below.mono (by with_reducible assumption) ?_)) | omega | (simp; done) | (simp; omega)))) (by omega)).mono ?_; rintro e w3 ⟨v3, rfl, own3, hb3⟩)
          (have hs3 := hb3.size; (try simp at hs3); obtain ⟨hc3, hf3, hn3⟩ := bcell hb3; (try have hz3_w_0 : w.heap.size < w3.heap.size := by omega); (try have hz3_w_1 : w.heap.size + 1 < w3.heap.size := by omega); (try have hz3_w_2 : w.heap.size + 2 < w3.heap.size := by omega); (try have hz3_w_2b : w.heap.size + 1 + 1 < w3.heap.size := by omega); (try have hz3_w1_0 : w1.heap.size < w3.heap.size := by omega); (try have hz3_w1_1 : w1.heap.size + 1 < w3.heap.size := by omega); (try have hz3_w1_2 : w1.heap.size + 2 < w3.heap.size := by omega); (try have hz3_w1_2b : w1.heap.size + 1 + 1 < w3.heap.size := by omega); (try have hz3_w2_0 : w2.heap.size < w3.heap.size := by omega); (try have hz3_w2_1 : w2.heap.size + 1 < w3.heap.size := by omega); (try have hz3_w2_2 : w2.heap.size + 2 < w3.heap.size := by omega); (try have hz3_w2_2b : w2.heap.size + 1 + 1 < w3.heap.size := by omega))
          obtain ⟨g1, cap1, rfl, hg1, hlt1⟩ := own3.form (by omega)
          (try simp at hg1)
          have row1 := (Row.of_own own3).1
          clear own3
          have hb0 : Below w.heap.size w w3 := (by repeat' (first | (with_reducible exact Below.refl _ _) | (with_reducible refine Below.alloc ?_ ?_ _) | (with_reducible refine Below.setCell ?_ ?_ _) | (with_reducible refine Below.drew ?_) | (with_reducible refine Below.trans ?_ (Below.mono (by with_reducible assumption) ?_)) | omega | (simp; done) | (simp; omega)))
          have hb03 := (hb1.trans (hb2.mono hb1.size)).trans (hb3.mono (Nat.le_trans hb1.size hb2.size))
          have hr0 : Row w3 w.heap.size 25 [.int .i64 a, .int .i64 s] := ((Row.new w 25 #[.int .i64 a, .int .i64 s]).alloc _).to hb03
          have hr1 : Row w3 (w.heap.size + 1) 25 [.int .i64 0, .int .i64 0] := by
            have := (Row.new (w.alloc (.cells #[.int .i64 a, .int .i64 s] 25)) 25 #[.int .i64 0, .int .i64 0]).to hb03
            rw [World.size_alloc] at this
            exact this
          have hgw : w.heap.size + 2 ≤ g1 := by omega
          go_wp2_with (first | (go_at_call 52; refine (within_any _ _ _ _).mono ?_; rintro e wX ⟨rfl, rfl⟩))
          clear hc1 hf1 hn1 hb1 hc2 hf2 hn2 hb2 hc3 hf3 hn3 hb3 hb03
          go_loopw [11, 33] (fun u i wr => ∃ (k : Nat) (ys : List Bsn) (a' s' : Int) (g cap : Nat), k ≤ T ∧ i = .int .i64 k ∧ u = .slice (some ⟨g, 0, none⟩) ys.length cap ∧ Hid ((serOK ys = true ∧ (inB a' 0 1000000 && inB s' 0 1000000) = true) ∧ apRun n T xs a s = apRun n (T - k) ys a' s') ∧ Below w.heap.size w wr ∧ w.heap.size + 2 ≤ g ∧ Row wr g 62 (ys.flatMap Bsn.enc) ∧ Row wr w.heap.size 25 [.int .i64 a', .int .i64 s'] ∧ Row wr (w.heap.size + 1) 25 [.int .i64 0, .int .i64 0]) (fun _ i _ => T - (intOf i).toNat)
          case atStart => exact ⟨0, xs, a, s, g1, cap1, Nat.zero_le _, rfl, rfl, ⟨HB.out, rfl⟩, hb0, hgw, row1, hr0, hr1⟩
          case round =>
            clear hr0 hr1 hb0 row1
            obtain ⟨k, ys, a', s', g, cap, hk, rfl, rfl, HI, hb, hg, hrow, hr0, hr1⟩ := hrel
            have hs := hb.size
            have hz0 := hr0.lt
            have hz1 := hr1.lt
            have hz2 := hrow.lt
            by_cases hlt : k < T
            · have hI : (k : Int) < T := by omega
              obtain ⟨p0, p1, pf⟩ := hr0.two
              have hok := serOK_bd HI.out.1.1
              have hvy := Lib.hid hok.2
              have hny := hok.1
              have hab : (0 ≤ a' ∧ a' ≤ 1000000) ∧ (0 ≤ s' ∧ s' ≤ 1000000) := by simpa [inB] using HI.out.1.2
              clear hok
              have HR0 := Lib.hid hr0
              have HR1 := Lib.hid hr1
              have HP := pass_any ⟨g, 0, none⟩ cap ys a' s' n wr (hrow.rd Bsn.enc_len hz2) hny.2 hny.1 hvy hab.1.1 hab.1.2 hab.2.1 hab.2.2 hN
              clear hr0 hr1 hrow
              go_wp2_with fail
              refine HP.mono ?_
              rintro e w4 ⟨A4, c4, rfl, own4, hb4⟩
              clear HP
              obtain ⟨g4, rfl, hg4, row4⟩ : ∃ g4, A4 = some ⟨g4, 0, none⟩ ∧ wr.heap.size ≤ g4 ∧ Row w4 g4 62 ((psL ys n 0).flatMap Bsn.enc) := by
                rcases own4 with ⟨_, h0, _⟩ | ⟨g4, e4, h4, r4⟩
                · omega
                · exact ⟨g4, e4, h4, r4⟩
              clear own4
              have hs4 := hb4.size
              have Rp := HR0.out.to hb4
              obtain ⟨t0, t1, tf⟩ := Rp.two
              have Rr := HR1.out.to hb4
              have Hrow4 := Lib.hid row4
              have HRp := Lib.hid Rp
              have HRr := Lib.hid Rr
              clear row4 Rp Rr
              have hne4 : g4 ≠ w.heap.size := by omega
              have HA := fun (W : World) (hr : Row W g4 62 ((psL ys n 0).flatMap Bsn.enc)) => isSeries_any (some ⟨g4, 0, none⟩) c4 (psL ys n 0) W (hr.rd Bsn.enc_len hr.lt) (by rw [psL_len]; omega)
              rw [psL_len] at HA
              have hbw4 : Below w.heap.size w w4 := hb.trans (hb4.mono hs)
              have HC := fun W => isBrine_any (panA ys n a' 0) (panS ys n s' 0) W
              cases hG4 : serOK (psL ys n 0)
              · have Hno := Lib.hid (show apO xs a s n T = none by rw [Hrun.out, Int.toNat_natCast, HI.out.2, apRun_stop hlt (show psB ys n a' s' = false by rw [psB, hG4]; rfl)])
                rw [hG4] at HA
                replace HA := Lib.hid HA
                clear HC
                go_wp2_with fail
                refine (HA.out _ ((Hrow4.out.far (p := ⟨w.heap.size, 0, none⟩) hne4 _).far (p := ⟨w.heap.size, 1, none⟩) hne4 _)).mono ?_
                rintro e w5 ⟨rfl, hb5⟩
                have Rp5 := ((HRp.out.set (j := 0) (.int .i64 (panA ys n a' 0))).set (j := 1) (.int .i64 (panS ys n s' 0))).to hb5
                have Rr5 := ((HRr.out.far (p := ⟨w.heap.size, 0, none⟩) (by simp) (.int .i64 (panA ys n a' 0))).far (p := ⟨w.heap.size, 1, none⟩) (by simp) (.int .i64 (panS ys n s' 0))).to hb5
                have Rg5 := ((Hrow4.out.far (p := ⟨w.heap.size, 0, none⟩) hne4 (.int .i64 (panA ys n a' 0))).far (p := ⟨w.heap.size, 1, none⟩) hne4 (.int .i64 (panS ys n s' 0))).to hb5
                have hbw5 : Below w.heap.size w w5 := (by repeat' (first | (with_reducible exact Below.refl _ _) | (with_reducible refine Below.alloc ?_ ?_ _) | (with_reducible refine Below.setCell ?_ ?_ _) | (with_reducible refine Below.drew ?_) | (with_reducible refine Below.trans ?_ (Below.mono (by with_reducible assumption) ?_)) | omega | (simp; done) | (simp; omega)))
                clear hb5 t0 t1 tf p0 p1 pf
                have Rp5 : Row w5 w.heap.size 25 [.int .i64 (panA ys n a' 0), .int .i64 (panS ys n s' 0)] := Rp5
                obtain ⟨p0, p1, pf⟩ := Rp5.two
                obtain ⟨t0, t1, tf⟩ := Rr5.two
                have hs5 := hbw5.size
                have hl0 := Rp5.lt
                have hl1 := Rr5.lt
                have hl2 := Rg5.lt
                have HG5 := Lib.hid Rg5
                have HP5 := Lib.hid Rp5
                have HR5 := Lib.hid Rr5
                clear Rg5 Rp5 Rr5
                go_wp2_with (first | (go_at_call 52; refine (within_any _ _ _ _).mono ?_; rintro e wX ⟨rfl, rfl⟩))
                ((try simp only [Exit.inBlock, Exit.then]); refine bodyPost_ret (by simp [results, Try.results25, go_sem, *]; try rfl) rfl ?_)
                exact ap_no Hno.out (MadeAt.nil (fun v => .returned (.tuple #[v, .agg #[.int .i64 0, .int .i64 0], .bool false])) (by repeat' (first | (with_reducible exact Below.refl _ _) | (with_reducible refine Below.alloc ?_ ?_ _) | (with_reducible refine Below.setCell ?_ ?_ _) | (with_reducible refine Below.drew ?_) | (with_reducible refine Below.trans ?_ (Below.mono (by with_reducible assumption) ?_)) | omega | (simp; done) | (simp; omega))))
              · rw [hG4] at HA
                replace HA := Lib.hid HA
                cases hB4 : (inB (panA ys n a' 0) 0 1000000 && inB (panS ys n s' 0) 0 1000000)
                · have Hno := Lib.hid (show apO xs a s n T = none by rw [Hrun.out, Int.toNat_natCast, HI.out.2, apRun_stop hlt (show psB ys n a' s' = false by rw [psB, hG4, hB4]; rfl)])
                  rw [hB4] at HC
                  replace HC := Lib.hid HC
                  go_wp2_with fail
                  refine (HA.out _ ((Hrow4.out.far (p := ⟨w.heap.size, 0, none⟩) hne4 _).far (p := ⟨w.heap.size, 1, none⟩) hne4 _)).mono ?_
                  rintro e w5 ⟨rfl, hb5⟩
                  have Rp5 := ((HRp.out.set (j := 0) (.int .i64 (panA ys n a' 0))).set (j := 1) (.int .i64 (panS ys n s' 0))).to hb5
                  have Rr5 := ((HRr.out.far (p := ⟨w.heap.size, 0, none⟩) (by simp) (.int .i64 (panA ys n a' 0))).far (p := ⟨w.heap.size, 1, none⟩) (by simp) (.int .i64 (panS ys n s' 0))).to hb5
                  have Rg5 := ((Hrow4.out.far (p := ⟨w.heap.size, 0, none⟩) hne4 (.int .i64 (panA ys n a' 0))).far (p := ⟨w.heap.size, 1, none⟩) hne4 (.int .i64 (panS ys n s' 0))).to hb5
                  have hbw5 : Below w.heap.size w w5 := (by repeat' (first | (with_reducible exact Below.refl _ _) | (with_reducible refine Below.alloc ?_ ?_ _) | (with_reducible refine Below.setCell ?_ ?_ _) | (with_reducible refine Below.drew ?_) | (with_reducible refine Below.trans ?_ (Below.mono (by with_reducible assumption) ?_)) | omega | (simp; done) | (simp; omega)))
                  clear hb5 t0 t1 tf p0 p1 pf
                  have Rp5 : Row w5 w.heap.size 25 [.int .i64 (panA ys n a' 0), .int .i64 (panS ys n s' 0)] := Rp5
                  obtain ⟨p0, p1, pf⟩ := Rp5.two
                  obtain ⟨t0, t1, tf⟩ := Rr5.two
                  have hs5 := hbw5.size
                  have hl0 := Rp5.lt
                  have hl1 := Rr5.lt
                  have hl2 := Rg5.lt
                  have HG5 := Lib.hid Rg5
                  have HP5 := Lib.hid Rp5
                  have HR5 := Lib.hid Rr5
                  clear Rg5 Rp5 Rr5
                  go_wp2_with fail
                  refine (HC.out _).mono ?_
                  rintro e w6 ⟨rfl, hb6⟩
                  (have hs6 := hb6.size; (try simp at hs6); obtain ⟨hc6, hf6, hn6⟩ := bcell hb6)
                  go_wp2_with (first | (go_at_call 52; refine (within_any _ _ _ _).mono ?_; rintro e wX ⟨rfl, rfl⟩))
                  ((try simp only [Exit.inBlock, Exit.then]); refine bodyPost_ret (by simp [results, Try.results25, go_sem, *]; try rfl) rfl ?_)
                  exact ap_no Hno.out (MadeAt.nil (fun v => .returned (.tuple #[v, .agg #[.int .i64 0, .int .i64 0], .bool false])) (by repeat' (first | (with_reducible exact Below.refl _ _) | (with_reducible refine Below.alloc ?_ ?_ _) | (with_reducible refine Below.setCell ?_ ?_ _) | (with_reducible refine Below.drew ?_) | (with_reducible refine Below.trans ?_ (Below.mono (by with_reducible assumption) ?_)) | omega | (simp; done) | (simp; omega))))
                · have HI2 := Lib.hid (show (serOK (psL ys n 0) = true ∧ (inB (panA ys n a' 0) 0 1000000 && inB (panS ys n s' 0) 0 1000000) = true) ∧ apRun n T xs a s = apRun n (T - (k + 1)) (psL ys n 0) (panA ys n a' 0) (panS ys n s' 0) from ⟨⟨hG4, hB4⟩, by rw [HI.out.2, apRun_step hlt (show psB ys n a' s' = true by rw [psB, hG4, hB4]; rfl)]⟩)
                  rw [hB4] at HC
                  replace HC := Lib.hid HC
                  go_wp2_with fail
                  refine (HA.out _ ((Hrow4.out.far (p := ⟨w.heap.size, 0, none⟩) hne4 _).far (p := ⟨w.heap.size, 1, none⟩) hne4 _)).mono ?_
                  rintro e w5 ⟨rfl, hb5⟩
                  have Rp5 := ((HRp.out.set (j := 0) (.int .i64 (panA ys n a' 0))).set (j := 1) (.int .i64 (panS ys n s' 0))).to hb5
                  have Rr5 := ((HRr.out.far (p := ⟨w.heap.size, 0, none⟩) (by simp) (.int .i64 (panA ys n a' 0))).far (p := ⟨w.heap.size, 1, none⟩) (by simp) (.int .i64 (panS ys n s' 0))).to hb5
                  have Rg5 := ((Hrow4.out.far (p := ⟨w.heap.size, 0, none⟩) hne4 (.int .i64 (panA ys n a' 0))).far (p := ⟨w.heap.size, 1, none⟩) hne4 (.int .i64 (panS ys n s' 0))).to hb5
                  have hbw5 : Below w.heap.size w w5 := (by repeat' (first | (with_reducible exact Below.refl _ _) | (with_reducible refine Below.alloc ?_ ?_ _) | (with_reducible refine Below.setCell ?_ ?_ _) | (with_reducible refine Below.drew ?_) | (with_reducible refine Below.trans ?_ (Below.mono (by with_reducible assumption) ?_)) | omega | (simp; done) | (simp; omega)))
                  clear hb5 t0 t1 tf p0 p1 pf
                  have Rp5 : Row w5 w.heap.size 25 [.int .i64 (panA ys n a' 0), .int .i64 (panS ys n s' 0)] := Rp5
                  obtain ⟨p0, p1, pf⟩ := Rp5.two
                  obtain ⟨t0, t1, tf⟩ := Rr5.two
                  have hs5 := hbw5.size
                  have hl0 := Rp5.lt
                  have hl1 := Rr5.lt
                  have hl2 := Rg5.lt
                  have HG5 := Lib.hid Rg5
                  have HP5 := Lib.hid Rp5
                  have HR5 := Lib.hid Rr5
                  clear Rg5 Rp5 Rr5
                  go_wp2_with fail
                  refine (HC.out _).mono ?_
                  rintro e w6 ⟨rfl, hb6⟩
                  (have hs6 := hb6.size; (try simp at hs6); obtain ⟨hc6, hf6, hn6⟩ := bcell hb6)
                  go_wp2_with (first | (go_at_call 52; refine (within_any _ _ _ _).mono ?_; rintro e wX ⟨rfl, rfl⟩))
                  refine ⟨⟨k + 1, psL ys n 0, panA ys n a' 0, panS ys n s' 0, g4, c4, by omega, by go_num, by rw [psL_len], HI2.out, (by repeat' (first | (with_reducible exact Below.refl _ _) | (with_reducible refine Below.alloc ?_ ?_ _) | (with_reducible refine Below.setCell ?_ ?_ _) | (with_reducible refine Below.drew ?_) | (with_reducible refine Below.trans ?_ (Below.mono (by with_reducible assumption) ?_)) | omega | (simp; done) | (simp; omega))), by omega, HG5.out.to hb6, HP5.out.to hb6, HR5.out.to hb6⟩, ?_⟩
                  simp [intOf] <;> omega
            · obtain rfl : k = T := by omega
              obtain ⟨p0, p1, pf⟩ := hr0.two
              obtain ⟨t0, t1, tf⟩ := hr1.two
              have Hyes := Lib.hid (show apO xs a s n k = some (ys, a', s') by rw [Hrun.out, Int.toNat_natCast, HI.out.2, Nat.sub_self]; rfl)
              have Hrow := Lib.hid hrow
              clear hr0 hr1 hrow
              go_wp2_with (first | (go_at_call 52; refine (within_any _ _ _ _).mono ?_; rintro e wX ⟨rfl, rfl⟩))
              refine wp_region_below_tail 3 (by kernel_rfl) (by kernel_rfl) ?_
              simp only [List.take_succ_cons, List.take_zero, List.drop_succ_cons, List.drop_zero]
              repeat (go_big_quiet_step (fail))
              (refine wpQuiet_nil ?_; intro w1 hwq; have hb1 := of_cls hwq; clear hwq)
              (have hs1 := hb1.size; (try simp at hs1); obtain ⟨hc1, hf1, hn1⟩ := bcell hb1; (try have hz1_wr_0 : wr.heap.size < w1.heap.size := by omega); (try have hz1_wr_1 : wr.heap.size + 1 < w1.heap.size := by omega); (try have hz1_wr_2 : wr.heap.size + 2 < w1.heap.size := by omega); (try have hB1 : b < w1.heap.size := by omega); (try have hB2 : b' < w1.heap.size := by omega); (try have hz1_wr_2b : wr.heap.size + 1 + 1 < w1.heap.size := by omega); (try have hz1_w_0 : w.heap.size < w1.heap.size := by omega); (try have hz1_w_1 : w.heap.size + 1 < w1.heap.size := by omega); (try have hz1_w_2 : w.heap.size + 2 < w1.heap.size := by omega); (try have hz1_w_2b : w.heap.size + 1 + 1 < w1.heap.size := by omega))
              go_wp2_with (first | (go_at_call 52; refine (within_any _ _ _ _).mono ?_; rintro e wX ⟨rfl, rfl⟩))
              ((try simp only [Exit.inBlock, Exit.then]); refine bodyPost_ret (by simp [results, Try.results25, go_sem, *]; try rfl) rfl ?_)
              exact ap_yes Hyes.out (by omega) (((Hrow.out.to hb1).far (p := ⟨w.heap.size + 1, 0, none⟩) (show g ≠ w.heap.size + 1 by omega) _).far (p := ⟨w.heap.size + 1, 1, none⟩) (show g ≠ w.heap.size + 1 by omega) _) (by repeat' (first | (with_reducible exact Below.refl _ _) | (with_reducible refine Below.alloc ?_ ?_ _) | (with_reducible refine Below.setCell ?_ ?_ _) | (with_reducible refine Below.drew ?_) | (with_reducible refine Below.trans ?_ (Below.mono (by with_reducible assumption) ?_)) | omega | (simp; done) | (simp; omega)))
      · have hN' : decide (1 ≤ n) = false := by simpa using hN
        have hN2 : n < 1 := by omega
        have Hno := Lib.hid (apO_no (show apV xs a s n t = false by rw [apV, hN', Bool.false_and, Bool.and_false, Bool.and_false]))
        clear hN'
        rw [hB] at hc
        clear hB
        go_enter Try.func25, Try.ntmps25
        go_wp2_with fail
        (go_at_call 29; refine (isSeries_any _ _ _ _ (h.to (by repeat' (first | (with_reducible exact Below.refl _ _) | (with_reducible refine Below.alloc ?_ ?_ _) | (with_reducible refine Below.setCell ?_ ?_ _) | (with_reducible refine Below.drew ?_) | (with_reducible refine Below.trans ?_ (Below.mono (by with_reducible assumption) ?_)) | omega | (simp; done) | (simp; omega)))) hx).mono ?_; rintro e w1 ⟨rfl, hb1⟩)
        (have hs1 := hb1.size; (try simp at hs1); obtain ⟨hc1, hf1, hn1⟩ := bcell hb1; (try have hz1_w_0 : w.heap.size < w1.heap.size := by omega); (try have hz1_w_1 : w.heap.size + 1 < w1.heap.size := by omega); (try have hz1_w_2 : w.heap.size + 2 < w1.heap.size := by omega); (try have hz1_w_2b : w.heap.size + 1 + 1 < w1.heap.size := by omega))
        go_wp2_with fail
        (go_at_call 40; refine (hc _).mono ?_; rintro e w2 ⟨rfl, hb2⟩)
        (have hs2 := hb2.size; (try simp at hs2); obtain ⟨hc2, hf2, hn2⟩ := bcell hb2; (try have hz2_w_0 : w.heap.size < w2.heap.size := by omega); (try have hz2_w_1 : w.heap.size + 1 < w2.heap.size := by omega); (try have hz2_w_2 : w.heap.size + 2 < w2.heap.size := by omega); (try have hz2_w_2b : w.heap.size + 1 + 1 < w2.heap.size := by omega); (try have hz2_w1_0 : w1.heap.size < w2.heap.size := by omega); (try have hz2_w1_1 : w1.heap.size + 1 < w2.heap.size := by omega); (try have hz2_w1_2 : w1.heap.size + 2 < w2.heap.size := by omega); (try have hz2_w1_2b : w1.heap.size + 1 + 1 < w2.heap.size := by omega))
        go_wp2_with fail
        ((try simp only [Exit.inBlock, Exit.then]); refine bodyPost_ret (by simp [results, Try.results25, go_sem, *]; try rfl) rfl ?_)
        exact ap_no Hno.out (MadeAt.nil (fun v => .returned (.tuple #[v, .agg #[.int .i64 0, .int .i64 0], .bool false])) (by repeat' (first | (with_reducible exact Below.refl _ _) | (with_reducible refine Below.alloc ?_ ?_ _) | (with_reducible refine Below.setCell ?_ ?_ _) | (with_reducible refine Below.drew ?_) | (with_reducible refine Below.trans ?_ (Below.mono (by with_reducible assumption) ?_)) | omega | (simp; done) | (simp; omega))))
set_option maxHeartbeats 4000000 in
theorem iAfterPass_any (ad : Addr) (c : Nat) (xs : List Bsn) (a s n : Int) (w : World) (h : Rd w w.heap.size (some ad) 3 Bsn.enc xs) (hx : xs.length ≤ 1048576) :
    Calls Try.prog 23 #[.slice (some ad) xs.length c, .agg #[.int .i64 a, .int .i64 s], .int .i64 n] w fun e w' => ApAt w (apO xs a s n 1) e w' := by
  go_enter Try.func23, Try.ntmps23
  go_wp2_with fail
  refine (iAfterPasses_any ad c xs a s n 1 _ (h.to (by repeat' (first | (with_reducible exact Below.refl _ _) | (with_reducible refine Below.alloc ?_ ?_ _) | (with_reducible refine Below.setCell ?_ ?_ _) | (with_reducible refine Below.drew ?_) | (with_reducible refine Below.trans ?_ (Below.mono (by with_reducible assumption) ?_)) | omega | (simp; done) | (simp; omega)))) hx).mono ?_
  rintro e w1 ⟨A1, c1, rfl, own1, hb1⟩
  (have hs1 := hb1.size; (try simp at hs1); obtain ⟨hc1, hf1, hn1⟩ := bcell hb1; have hz1 : w.heap.size + 1 < w1.heap.size := by omega)
  have own1 := own1.mono (b' := w.heap.size + 2) (by simp)
  go_wp2_with fail
  ((try simp only [Exit.inBlock, Exit.then]); refine bodyPost_ret (by simp [results, Try.results23, go_sem, *]; try rfl) rfl ?_)
  refine ⟨A1, c1, rfl, ?_, (by repeat' (first | (with_reducible exact Below.refl _ _) | (with_reducible refine Below.alloc ?_ ?_ _) | (with_reducible refine Below.setCell ?_ ?_ _) | (with_reducible refine Below.drew ?_) | (with_reducible refine Below.trans ?_ (Below.mono (by with_reducible assumption) ?_)) | omega | (simp; done) | (simp; omega)))⟩
  rcases own1 with h1 | ⟨g, e1, h2, h3⟩
  · exact .inl h1
  · exact .inr ⟨g, e1, by omega, (h3.far (p := ⟨w.heap.size + 1, 0, none⟩) (show g ≠ w.heap.size + 1 by omega) _).far (p := ⟨w.heap.size + 1, 1, none⟩) (show g ≠ w.heap.size + 1 by omega) _⟩
end Go.Proofs.Ytocaodoagiokjaa
