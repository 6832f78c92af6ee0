/- Owners: contracts of the laws' own functions over them and slices of them; a slice of owners that came in. -/
import Derived.Test.YtimdnihadhbjpaaDoorLeaf
import Derived.Test.YtimdnihadhbjpaaDoorSlice
import Derived.ChangeArms
import Derived.Lib.Hide
set_option linter.unusedSimpArgs false
set_option linter.unusedVariables false
namespace Go.Proofs.YtimdnihadhbjpaaDoor
open Go.RowKit Go.Sort Go.Salt
attribute [local go_sem] cell_rg
/-- A Owner. -/
structure Ow where
  s : ByteArray
  n : Int
  d : Int
instance : Inhabited Ow := ⟨⟨⟨#[]⟩, 1, 1⟩⟩
def Ow.enc (x : Ow) : List Value := [.string x.s, .int .i64 x.n, .int .i64 x.d]
theorem Ow.enc_len (x : Ow) : x.enc.length = 3 := rfl
theorem ow_cells {w : World} {B : Nat} {A : Option Addr} {xs : List Ow} (h : Rd w B A 3 Ow.enc xs) {i : Nat} (hi : i < xs.length) :
    ∃ b o, A = some ⟨b, o, none⟩ ∧ b < B ∧ w.cell? ⟨b, o + i * 3, none⟩ = some (.string (el xs i).s) ∧ w.cell? ⟨b, o + i * 3 + 1, none⟩ = some (.int .i64 (el xs i).n) ∧ w.cell? ⟨b, o + i * 3 + 2, none⟩ = some (.int .i64 (el xs i).d) := by
  obtain ⟨b, o, e, hb, hc⟩ := h (by omega)
  have h1 := hc i hi
  exact ⟨b, o, e, hb, h1 0 (by simp [Ow.enc]), h1 1 (by simp [Ow.enc]), h1 2 (by simp [Ow.enc])⟩
set_option maxHeartbeats 1000000 in
theorem toOwner_any (s : ByteArray) (n : Int) (d : Int) (w : World) :
    Calls Tryd.prog 59 #[.agg #[.string s, .int .i64 n, .int .i64 d]] w fun e w' => e = .returned (.agg #[.string s, .int .i64 n, .int .i64 d]) ∧ Below w.heap.size w w' := by
  go_enter Tryd.func59, Tryd.ntmps59
  go_wp2
  go_returns
  exact ⟨rfl, (by repeat' (first | (with_reducible exact Below.refl _ _) | (with_reducible refine Below.alloc ?_ ?_ _) | (with_reducible refine Below.setCell ?_ ?_ _) | (with_reducible refine Below.drew ?_) | (with_reducible refine Below.trans ?_ (Below.mono (by with_reducible assumption) ?_)) | omega | (simp; done) | (simp; omega)))⟩
set_option maxHeartbeats 1000000 in
theorem eqOwner_same (s : ByteArray) (n : Int) (d : Int) (w : World) :
    Calls Tryd.prog 67 #[.agg #[.string s, .int .i64 n, .int .i64 d], .agg #[.string s, .int .i64 n, .int .i64 d]] w fun e w' => e = .returned (.bool true) ∧ Below w.heap.size w w' := by
  go_enter Tryd.func67, Tryd.ntmps67
  go_wp2
  go_ret
  exact ⟨rfl, (by repeat' (first | (with_reducible exact Below.refl _ _) | (with_reducible refine Below.alloc ?_ ?_ _) | (with_reducible refine Below.setCell ?_ ?_ _) | (with_reducible refine Below.drew ?_) | (with_reducible refine Below.trans ?_ (Below.mono (by with_reducible assumption) ?_)) | omega | (simp; done) | (simp; omega)))⟩
set_option maxHeartbeats 2000000 in
theorem eqOwnerS_same (A A' : Option Addr) (c c' : Nat) (xs : List Ow) (w : World) (h : Rd w w.heap.size A 3 Ow.enc xs) (h' : Rd w w.heap.size A' 3 Ow.enc xs) (hx : xs.length ≤ 1048576) :
    Calls Tryd.prog 19 #[.slice A xs.length c, .slice A' xs.length c'] w fun e w' => e = .returned (.bool true) ∧ Below w.heap.size w w' := by
  go_enter Tryd.func19, Tryd.ntmps19
  go_wp2
  go_loopw [5] (fun i wr => ∃ k : Nat, k ≤ xs.length ∧ i = .int .i64 k ∧ Below w.heap.size w wr) (fun i _ => xs.length - (intOf i).toNat)
  case atStart => exact ⟨0, Nat.zero_le _, rfl, Below.refl _ _⟩
  case round =>
    obtain ⟨k, hk, rfl, hb⟩ := hrel
    by_cases hlt : k < xs.length
    · obtain ⟨b, o, rfl, hB, c0, c1, c2⟩ := ow_cells (h.below hb) hlt
      obtain ⟨b', o', rfl, hB', d0, d1, d2⟩ := ow_cells (h'.below hb) hlt
      have hs := hb.size
      have hB1 : b < wr.heap.size := by omega
      have hB2 : b' < wr.heap.size := by omega
      have hI : (k : Int) < xs.length := by omega
      have hI0 : (0 : Int) ≤ k := by omega
      go_wp2_with fail
      refine wp_region_quiet_below (by kernel_rfl) (by kernel_rfl) ?_
      repeat (go_big_quiet_step ((go_at_call 67; exact Calls.regrown_of (eqOwner_same _ _ _ _))))
      (refine wpQuiet_nil ?_; intro w1 hwq; have hb1 := of_cls hwq; clear hwq)
      (have hs1 := hb1.size; (try simp at hs1); obtain ⟨hc1, hf1, hn1⟩ := bcell hb1; (try have hz1_wr_0 : wr.heap.size < w1.heap.size := by omega); (try have hz1_wr_1 : wr.heap.size + 1 < w1.heap.size := by omega); (try have hz1_wr_2 : wr.heap.size + 2 < w1.heap.size := by omega); (try have hB1 : b < w1.heap.size := by omega); (try have hB2 : b' < w1.heap.size := by omega); (try have hz1_wr_2b : wr.heap.size + 1 + 1 < w1.heap.size := by omega); (try have hz1_w_0 : w.heap.size < w1.heap.size := by omega); (try have hz1_w_1 : w.heap.size + 1 < w1.heap.size := by omega); (try have hz1_w_2 : w.heap.size + 2 < w1.heap.size := by omega); (try have hz1_w_2b : w.heap.size + 1 + 1 < w1.heap.size := by omega))
      go_wp2_with fail
      go_roundw
      case rel => exact ⟨k + 1, by omega, by go_num, (by repeat' (first | (with_reducible exact Below.refl _ _) | (with_reducible refine Below.alloc ?_ ?_ _) | (with_reducible refine Below.setCell ?_ ?_ _) | (with_reducible refine Below.drew ?_) | (with_reducible refine Below.trans ?_ (Below.mono (by with_reducible assumption) ?_)) | omega | (simp; done) | (simp; omega)))⟩
      case measure => simp [intOf]; omega
    · go_wp2
      go_ret
      exact ⟨rfl, hb⟩
/-- The sizes of the names are bounded. -/
def OwSz (B : Nat) (xs : List Ow) : Prop := ∀ k, k < xs.length → (el xs k).s.size ≤ B
theorem open_owner {H : Type} {encH : TypeId × Value → H} {P : Program} {w : World} {base : Nat} {sp : Nat → Bool} {held : Bool} {e ts ti : TypeId} {n : Nat} {cs : List Value} {x : DataW H × List MemPlace} {fs : Array Field} (he : P.underlying e = some (.struct fs))
    (hf : (fs.toList.map fun f => (f.type, f.offset)) = [(ts, 0), (ti, 1), (ti, 2)]) (hs : P.underlying ts = some .string) (hi : P.underlying ti = some (.int .i64)) (hce : P.cellsOf e = 3) (hcs : P.cellsOf ts = 1) (hci : P.cellsOf ti = 1) (h : DataW.trod encH P w base sp held n e cs = some x) :
    ∃ o : Ow, cs = o.enc ∧ o.s.size ≤ maxLen := by
  obtain ⟨xs, n', _, _, hl, hlen, hg⟩ := DataW.trod_struct he h
  obtain ⟨l⟩ := fs
  have hl3 : l.length = 3 := by have := congrArg List.length hf; simpa using this
  obtain ⟨f0, f1, f2, rfl⟩ : ∃ f0 f1 f2, l = [f0, f1, f2] := by
    match l, hl3 with
    | [a, b, c], _ => exact ⟨a, b, c, rfl⟩
  simp only [List.map_cons, List.map_nil, List.cons.injEq, Prod.mk.injEq, and_true] at hf
  obtain ⟨⟨t0, o0⟩, ⟨t1, o1⟩, t2, o2⟩ := hf
  rw [hce] at hl
  match cs, hl with
  | [c0, c1, c2], _ =>
  match xs, hlen with
  | [x0, x1, x2], _ =>
  have g0 := hg 0 f0 rfl
  have g1 := hg 1 f1 rfl
  have g2 := hg 2 f2 rfl
  rw [t0, o0, hcs] at g0
  rw [t1, o1, hci] at g1
  rw [t2, o2, hci] at g2
  simp at g0 g1 g2
  obtain ⟨s, e0, _, hsz⟩ := DataW.trod_string hs g0
  obtain ⟨a, e1, _, _⟩ := DataW.trod_int hi g1
  obtain ⟨b, e2, _, _⟩ := DataW.trod_int hi g2
  simp at e0 e1 e2
  subst e0; subst e1; subst e2
  exact ⟨⟨s, a, b⟩, rfl, hsz⟩
open Go.ChangeShapes Go.WideShapes Go.Deep in
/-- A slice of owners that came in, as a list. -/
theorem open_owners {H : Type} {encH : TypeId × Value → H} {P : Program} {w : World} {base : Nat} {sp : Nat → Bool} {held : Bool} {t e ts ti : TypeId} {n len cap : Nat} {a : Option Addr} {x : DataW H × List MemPlace} {fs : Array Field} (ht : P.underlying t = some (.slice e)) (he : P.underlying e = some (.struct fs))
    (hf : (fs.toList.map fun f => (f.type, f.offset)) = [(ts, 0), (ti, 1), (ti, 2)]) (hs : P.underlying ts = some .string) (hi : P.underlying ti = some (.int .i64)) (hce : P.cellsOf e = 3) (hcs : P.cellsOf ts = 1) (hci : P.cellsOf ti = 1) (h : DataW.trod encH P w base sp held n t (Value.slice a len cap).cells.toList = some x) :
    len ≤ maxLen ∧ ∃ xs : List Ow, xs.length = len ∧ Rd w w.heap.size a 3 Ow.enc xs ∧ OwSz maxLen xs := by
  rcases open_slice ht h with ⟨h1, _⟩ | ⟨ad, l, c, m, n', D, Pl, h1, hb, hl, hm, hmm, hx, hel⟩
  · simp [Value.cells] at h1
    obtain ⟨rfl, rfl, rfl⟩ := h1
    exact ⟨Nat.zero_le _, [], rfl, Rd.nil, fun k hk => absurd hk (by simp)⟩
  · simp [Value.cells] at h1
    obtain ⟨rfl, rfl, rfl⟩ := h1
    have hall : ∀ i, i < len → ∃ o : Ow, (∀ j (hj : j < o.enc.length), w.cell? (ad.add (i * 3 + j)) = some o.enc[j]) ∧ o.s.size ≤ maxLen := by
      intro i hil
      have him : i < m := by rw [hmm]; split <;> omega
      obtain ⟨cs', hc, ht'⟩ := hel i him
      obtain ⟨_, hcl, hat⟩ := World.cells?_some hc
      obtain ⟨o, rfl, hsz⟩ := open_owner he hf hs hi hce hcs hci ht'
      refine ⟨o, fun j hj => ?_, hsz⟩
      have := hat j (by rw [← hcl]; exact hj)
      rw [Go.Deep.add_add, hce] at this
      rw [this, List.getElem?_eq_getElem hj]
    let pick : Nat → Ow := fun i => if h : i < len then (hall i h).choose else default
    have hpick : ∀ i, i < len → (∀ j (hj : j < (pick i).enc.length), w.cell? (ad.add (i * 3 + j)) = some (pick i).enc[j]) ∧ (pick i).s.size ≤ maxLen := by
      intro i hil
      have e : pick i = (hall i hil).choose := by simp only [pick]; rw [dif_pos hil]
      rw [e]; exact (hall i hil).choose_spec
    have hel' : ∀ i, i < len → el ((List.range len).map pick) i = pick i := fun i hil => by
      rw [el_get (by simpa using hil)]; simp
    refine ⟨by omega, (List.range len).map pick, by simp, fun hp => ?_, fun i hi => ?_⟩
    · have hp' : 0 < len := by simpa using hp
      have hz' : w.cell? ad = some ((pick 0).enc[0]'(by simp [Ow.enc])) := by simpa [Addr.add] using (hpick 0 hp').1 0 (by simp [Ow.enc])
      have hsp := World.cell?_spot hz'
      obtain ⟨b, o, spot⟩ := ad
      obtain rfl : spot = none := hsp
      refine ⟨b, o, rfl, block_lt_of_cell hz', fun i hi j hj => ?_⟩
      have hi' : i < len := by simpa using hi
      have ea : (⟨b, o, none⟩ : Addr).add (i * 3 + j) = ⟨b, o + i * 3 + j, none⟩ := by
        unfold Addr.add
        split <;> simp <;> omega
      have hc := (hpick i hi').1 j (by rw [hel' i hi'] at hj; exact hj)
      rw [ea] at hc
      rw [hc]
      congr 1
      simp only [hel' i hi']
    · have hi' : i < len := by simpa using hi
      rw [hel' i hi']
      exact (hpick i hi').2
set_option maxHeartbeats 1000000 in
theorem szOwner_any (s : ByteArray) (n d l : Int) (w : World) (hs : s.size ≤ 9223372036854775807) (h0 : 0 ≤ l) (h1 : l ≤ 1048576) :
    Calls Tryd.prog 57 #[.agg #[.string s, .int .i64 n, .int .i64 d], .int .i64 l] w fun e w' => e = .returned (.int .i64 (if l < s.size then -1 else l - s.size)) ∧ Below w.heap.size w w' := by
  by_cases h : l < s.size
  · rw [if_pos h]
    have e1 : wrap64 (l - s.size) = l - s.size := by unfold wrap64; omega
    have e2 : l - s.size < 0 := by omega
    go_enter Tryd.func57, Tryd.ntmps57
    go_wp2
    go_ret
    exact ⟨rfl, (by repeat' (first | (with_reducible exact Below.refl _ _) | (with_reducible refine Below.alloc ?_ ?_ _) | (with_reducible refine Below.setCell ?_ ?_ _) | (with_reducible refine Below.drew ?_) | (with_reducible refine Below.trans ?_ (Below.mono (by with_reducible assumption) ?_)) | omega | (simp; done) | (simp; omega)))⟩
  · rw [if_neg h]
    have e1 : wrap64 (l - s.size) = l - s.size := by unfold wrap64; omega
    have e2 : ¬ l - s.size < 0 := by omega
    go_enter Tryd.func57, Tryd.ntmps57
    go_wp2
    go_ret
    exact ⟨rfl, (by repeat' (first | (with_reducible exact Below.refl _ _) | (with_reducible refine Below.alloc ?_ ?_ _) | (with_reducible refine Below.setCell ?_ ?_ _) | (with_reducible refine Below.drew ?_) | (with_reducible refine Below.trans ?_ (Below.mono (by with_reducible assumption) ?_)) | omega | (simp; done) | (simp; omega)))⟩
set_option maxHeartbeats 4000000 in
theorem szOwnerS_any (A : Option Addr) (c : Nat) (xs : List Ow) (w : World) (h : Rd w w.heap.size A 3 Ow.enc xs) (hm : xs.length ≤ 9223372036854775807) (hz : OwSz maxLen xs) :
    Calls Tryd.prog 15 #[.slice A xs.length c, .int .i64 1048576] w fun e w' => (∃ z : Int, e = .returned (.int .i64 z) ∧ (z = -1 ∨ (0 ≤ z ∧ xs.length ≤ 1048576 ∧ OwSz 1048576 xs))) ∧ Below w.heap.size w w' := by
  have HZ : Hid (OwSz 9223372036854775807 xs) := Lib.hid hz
  clear hz
  by_cases hx : xs.length ≤ 1048576
  · have w0 : wrap64 (1048576 - (xs.length : Int)) = 1048576 - (xs.length : Int) := by unfold wrap64; omega
    have w1_ : ¬ 1048576 - (xs.length : Int) < 0 := by omega
    go_enter Tryd.func15, Tryd.ntmps15
    go_wp2
    go_loopw [1, 5] (fun l i wr => ∃ (k : Nat) (z : Int), k ≤ xs.length ∧ i = .int .i64 k ∧ l = .int .i64 z ∧ 0 ≤ z ∧ z ≤ 1048576 ∧ Below w.heap.size w wr ∧ Hid (∀ j, j < k → (el xs j).s.size ≤ 1048576)) (fun _ i _ => xs.length - (intOf i).toNat)
    case atStart => exact ⟨0, 1048576 - (xs.length : Int), Nat.zero_le _, rfl, rfl, by omega, by omega, Below.refl _ _, fun j hj => absurd hj (by omega)⟩
    case round =>
      obtain ⟨k, z, hk, rfl, rfl, hz0, hz1, hb, Hall⟩ := hrel
      by_cases hlt : k < xs.length
      · obtain ⟨b, o, rfl, hB, c0, c1, c2⟩ := ow_cells (h.below hb) hlt
        have hs := hb.size
        have hB1 : b < wr.heap.size := by omega
        have hI : (k : Int) < xs.length := by omega
        have hI0 : (0 : Int) ≤ k := by omega
        have hzk := HZ.out k hlt
        by_cases hc : z < (el xs k).s.size
        · have hcall := szOwner_any (el xs k).s (el xs k).n (el xs k).d z wr hzk hz0 hz1
          rw [if_pos hc] at hcall
          go_wp2_with fail
          refine hcall.mono ?_
          rintro e w1 ⟨rfl, hb1⟩
          have hs1 := hb1.size
          go_wp2
          go_ret
          exact ⟨⟨_, rfl, .inl rfl⟩, (by repeat' (first | (with_reducible exact Below.refl _ _) | (with_reducible refine Below.alloc ?_ ?_ _) | (with_reducible refine Below.setCell ?_ ?_ _) | (with_reducible refine Below.drew ?_) | (with_reducible refine Below.trans ?_ (Below.mono (by with_reducible assumption) ?_)) | omega | (simp; done) | (simp; omega)))⟩
        · have hcall := szOwner_any (el xs k).s (el xs k).n (el xs k).d z wr hzk hz0 hz1
          rw [if_neg hc] at hcall
          obtain ⟨y, hy⟩ : ∃ y, z - ((el xs k).s.size : Int) = y := ⟨_, rfl⟩
          rw [hy] at hcall
          have hy0 : ¬ y < 0 := by omega
          have Hn : Hid ((el xs k).s.size ≤ 1048576 ∧ 0 ≤ y ∧ y ≤ 1048576) := Lib.hid (by omega)
          clear hy
          go_wp2_with fail
          refine hcall.mono ?_
          rintro e w1 ⟨rfl, hb1⟩
          have hs1 := hb1.size
          go_wp2
          go_roundw
          case rel => exact ⟨k + 1, y, by omega, by go_num, rfl, Hn.out.2.1, Hn.out.2.2, (by repeat' (first | (with_reducible exact Below.refl _ _) | (with_reducible refine Below.alloc ?_ ?_ _) | (with_reducible refine Below.setCell ?_ ?_ _) | (with_reducible refine Below.drew ?_) | (with_reducible refine Below.trans ?_ (Below.mono (by with_reducible assumption) ?_)) | omega | (simp; done) | (simp; omega))), fun j hj => by
            by_cases e : j = k
            · subst e; exact Hn.out.1
            · exact Hall.out j (by omega)⟩
          case measure => simp [intOf]; omega
      · obtain rfl : k = xs.length := by omega
        have hI : ¬ ((xs.length : Nat) : Int) < xs.length := by omega
        go_wp2
        go_ret
        first | exact ⟨⟨_, rfl, .inr ⟨hz0, hx, Hall.out⟩⟩, hb⟩ | exact ⟨.inr ⟨hz0, hx, Hall.out⟩, hb⟩ | exact ⟨.inr ⟨hz0, Hall.out⟩, hb⟩ | exact ⟨⟨_, rfl, .inr ⟨hz0, Hall.out⟩⟩, hb⟩ | exact ⟨⟨_, rfl, .inr Hall.out⟩, hb⟩
  · have w0 : wrap64 (1048576 - (xs.length : Int)) = 1048576 - (xs.length : Int) := by unfold wrap64; omega
    have w1_ : 1048576 - (xs.length : Int) < 0 := by omega
    go_enter Tryd.func15, Tryd.ntmps15
    go_wp2
    go_ret
    exact ⟨⟨_, rfl, .inl rfl⟩, Below.refl _ _⟩
theorem ow_info : (Tryd.prog.info? 54).map (fun i => (i.zero, i.size, i.bytes)) = some (some (.agg #[.string ByteArray.empty, .int .i64 0, .int .i64 0]), 3, 32) := by kernel_rfl
set_option maxHeartbeats 4000000 in
theorem toOwnerS_cap (A : Option Addr) (c : Nat) (xs : List Ow) (w : World) (h : Rd w w.heap.size A 3 Ow.enc xs) (hx : xs.length ≤ 1048576) :
    Calls Tryd.prog 17 #[.slice A xs.length c] w fun e w' => MadeN w 54 (xs.flatMap Ow.enc) xs.length e w' := by
  obtain ⟨i0, hi, hz0, hz1, hz2⟩ := info_parts ow_info
  have hmk := fun (W : World) => run_make (P := Tryd.prog) W 25 54 i0 _ Tryd.underlying25 hi hz0 .i64 .i64 xs.length xs.length (by omega) (by omega) (by rw [hz2]; omega) (by omega)
  simp only [hz1, Int.toNat_natCast] at hmk
  clear hi hz0 hz1 hz2
  go_enter Tryd.func17, Tryd.ntmps17
  go_wp2
  have hrow0 := Row.new w 54 (madeCells #[.string ByteArray.empty, .int .i64 0, .int .i64 0] (xs.length * 3))
  have hb0 : Below w.heap.size w (w.alloc (.cells (madeCells #[.string ByteArray.empty, .int .i64 0, .int .i64 0] (xs.length * 3)) 54)) := Below.alloc (Below.refl _ _) (Nat.le_refl _) _
  have hl0 : (madeCells #[.string ByteArray.empty, .int .i64 0, .int .i64 0] (xs.length * 3)).toList.length = xs.length * 3 := by simp [madeCells]
  generalize w.alloc (.cells (madeCells #[.string ByteArray.empty, .int .i64 0, .int .i64 0] (xs.length * 3)) 54) = W1 at *
  generalize (madeCells #[.string ByteArray.empty, .int .i64 0, .int .i64 0] (xs.length * 3)).toList = zs at *
  have Hl := Lib.hid hl0
  clear hl0 hmk
  go_loopw [4] (fun i wr => ∃ k : Nat, k ≤ xs.length ∧ i = .int .i64 k ∧ Below w.heap.size w wr ∧ Row wr w.heap.size 54 ((xs.take k).flatMap Ow.enc ++ zs.drop (k * 3))) (fun i _ => xs.length - (intOf i).toNat)
  case atStart => exact ⟨0, Nat.zero_le _, rfl, hb0, by simpa using hrow0⟩
  case round =>
    obtain ⟨k, hk, rfl, hb, hrow⟩ := hrel
    by_cases hlt : k < xs.length
    · obtain ⟨b, o, rfl, hB, c0, c1, c2⟩ := ow_cells (h.below hb) hlt
      have hI : (k : Int) < xs.length := by omega
      have hI0 : (0 : Int) ≤ k := by omega
      have hs := hrow.lt
      have hB1 : b < wr.heap.size := by omega
      have hpl : ((xs.take k).flatMap Ow.enc).length = k * 3 := by rw [flat_len Ow.enc_len, List.length_take, Nat.min_eq_left hk]
      have hln : k * 3 + 3 ≤ xs.length * 3 := by omega
      have g0 : ∃ v, wr.cell? ⟨w.heap.size, k * 3, none⟩ = some v := ⟨_, hrow.cell (by rw [List.length_append, List.length_drop, hpl, Hl.out]; omega)⟩
      have f0 := hrow.frozen (k * 3)
      have g1 : ∃ v, wr.cell? ⟨w.heap.size, k * 3 + 1, none⟩ = some v := ⟨_, hrow.cell (by rw [List.length_append, List.length_drop, hpl, Hl.out]; omega)⟩
      have f1 := hrow.frozen (k * 3 + 1)
      have g2 : ∃ v, wr.cell? ⟨w.heap.size, k * 3 + 2, none⟩ = some v := ⟨_, hrow.cell (by rw [List.length_append, List.length_drop, hpl, Hl.out]; omega)⟩
      have f2 := hrow.frozen (k * 3 + 2)
      obtain ⟨v0, g0⟩ := g0
      obtain ⟨v1, g1⟩ := g1
      obtain ⟨v2, g2⟩ := g2
      have Hrow := Lib.hid hrow
      have Hpl := Lib.hid hpl
      clear hrow hpl
      go_wp2_with fail
      (go_at_call 59; refine (toOwner_any _ _ _ _).mono ?_; rintro e w1 ⟨rfl, hb1⟩)
      (have hs1 := hb1.size; (try simp at hs1); obtain ⟨hc1, hf1, hn1⟩ := bcell hb1; (try have hz1_wr_0 : wr.heap.size < w1.heap.size := by omega); (try have hz1_wr_1 : wr.heap.size + 1 < w1.heap.size := by omega); (try have hz1_wr_2 : wr.heap.size + 2 < w1.heap.size := by omega); (try have hB1 : b < w1.heap.size := by omega); (try have hB2 : b' < w1.heap.size := by omega); (try have hz1_wr_2b : wr.heap.size + 1 + 1 < w1.heap.size := by omega); (try have hz1_w_0 : w.heap.size < w1.heap.size := by omega); (try have hz1_w_1 : w.heap.size + 1 < w1.heap.size := by omega); (try have hz1_w_2 : w.heap.size + 2 < w1.heap.size := by omega); (try have hz1_w_2b : w.heap.size + 1 + 1 < w1.heap.size := by omega))
      go_wp2_with fail
      have r0 := Hrow.out.to hb1
      have r1 := r0.set (j := k * 3) (.string (el xs k).s)
      have r2 := r1.set (j := k * 3 + 1) (.int .i64 (el xs k).n)
      have r3 := r2.set (j := k * 3 + 2) (.int .i64 (el xs k).d)
      have e1 : (((((xs.take k).flatMap Ow.enc ++ zs.drop (k * 3)).set (k * 3) (.string (el xs k).s)).set (k * 3 + 1) (.int .i64 (el xs k).n)).set (k * 3 + 2) (.int .i64 (el xs k).d)) = (xs.take (k + 1)).flatMap Ow.enc ++ zs.drop ((k + 1) * 3) := by
        rw [set_next Hpl.out (by rw [Hl.out]; omega)]
        rw [set_next (m := k * 3 + 1) (by simp [Hpl.out]) (by rw [Hl.out]; omega)]
        rw [set_next (m := k * 3 + 2) (by simp [Hpl.out]) (by rw [Hl.out]; omega)]
        rw [take_el hlt, List.flatMap_append, show (k + 1) * 3 = k * 3 + 3 by omega]
        simp [Ow.enc]
      rw [e1] at r3
      clear e1
      go_roundw
      case rel => exact ⟨k + 1, by omega, by go_num, (by repeat' (first | (with_reducible exact Below.refl _ _) | (with_reducible refine Below.alloc ?_ ?_ _) | (with_reducible refine Below.setCell ?_ ?_ _) | (with_reducible refine Below.drew ?_) | (with_reducible refine Below.trans ?_ (Below.mono (by with_reducible assumption) ?_)) | omega | (simp; done) | (simp; omega))), r3⟩
      case measure => simp [intOf]; omega
    · obtain rfl : k = xs.length := by omega
      go_wp2
      go_ret
      refine ⟨w.heap.size, rfl, Nat.le_refl _, ?_, hb⟩
      have e : (xs.take xs.length).flatMap Ow.enc ++ zs.drop (xs.length * 3) = xs.flatMap Ow.enc := by rw [List.take_length, List.drop_of_length_le (by rw [Hl.out]; exact Nat.le_refl _), List.append_nil]
      rw [e] at hrow
      exact hrow
theorem toOwnerS_any (A : Option Addr) (c : Nat) (xs : List Ow) (w : World) (h : Rd w w.heap.size A 3 Ow.enc xs) (hx : xs.length ≤ 1048576) :
    Calls Tryd.prog 17 #[.slice A xs.length c] w fun e w' => Made w 54 (xs.flatMap Ow.enc) xs.length e w' := (toOwnerS_cap A c xs w h hx).mono fun _ _ h => h.made
end Go.Proofs.YtimdnihadhbjpaaDoor
