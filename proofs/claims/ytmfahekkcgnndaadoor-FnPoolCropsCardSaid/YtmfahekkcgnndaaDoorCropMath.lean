/- Plain: the sun that gives a crop, the rain that ends it (chapter 21). -/
import Derived.Test.YtmfahekkcgnndaaDoorStepTwo
import Derived.Test.YtmfahekkcgnndaaDoorPoolMore
set_option linter.unusedSimpArgs false
set_option linter.unusedVariables false
namespace Go.Proofs.YtmfahekkcgnndaaDoor
open Go.RowKit Go.Sort Go.Salt
theorem poolOK_iff {st a s c i r l : Int} : poolOK st a s c i r l = true ↔ (0 ≤ a ∧ a ≤ 1000000) ∧ (0 ≤ s ∧ s ≤ 1000000) ∧ (0 ≤ c ∧ c ≤ 1000000) ∧ (0 ≤ i ∧ i ≤ 1000000) ∧ (0 ≤ r ∧ r ≤ 1000000) ∧ (0 ≤ l ∧ l ≤ 1000000) ∧ st = stB a s c ∧ i = s + c + r + l := by
  simp only [poolOK, Bool.and_eq_true, inB_iff, beq_iff_eq]
  omega
theorem stB_one {a s c : Int} (h : stB a s c = 1) : ¬ 0 < c ∧ 0 < a + s := by
  unfold stB at h; split at h
  · omega
  · split at h <;> omega
theorem stB_two {a s c : Int} : stB a s c = 2 ↔ 0 < c := by
  unfold stB; split
  · omega
  · split <;> omega
/-- A step that makes r of a good pool. -/
theorem step_of {p r : Pl} {k v z : Int} (hp : p.ok = true) (hs : psOK k v z = true) (hr : p.raw k v z = some r) (ho : r.settle.ok = true) : p.stepB k v z = true ∧ p.step k v z = r.settle := by
  have hc : p.can k v z = true := by unfold Pl.can; rw [hr]; exact ho
  have hb : p.stepB k v z = true := by unfold Pl.stepB; rw [hp, hs, hc]; rfl
  refine ⟨hb, ?_⟩
  unfold Pl.step
  rw [if_pos hb, hr]
theorem sun_any {st a s c i r l n : Int} (h : stcB st a s c i r l = true) (hn : 1 ≤ n) : (Pl.mk st a s c i r l).stepB 2 n 0 = true ∧ (Pl.mk st a s c i r l).step 2 n 0 = (Pl.mk st (a - mn n a) s c i r l).settle := by
  simp only [stcB, Bool.and_eq_true, beq_iff_eq, Bool.not_eq_true'] at h
  obtain ⟨⟨hp, hst⟩, hs0⟩ := h
  have hp' := poolOK_iff.1 hp
  have hs0' : s ≠ 0 := by simpa using hs0
  obtain ⟨b1, b2⟩ := stB_one (hp'.2.2.2.2.2.2.1.symm.trans hst)
  refine step_of (r := ⟨st, a - mn n a, s, c, i, r, l⟩) hp (by simp [psOK]; omega) (by simp [Pl.raw, hst]) ?_
  have hm := mn_or n a
  unfold Pl.settle Pl.ok
  simp only
  rw [poolOK_iff]
  have hk : 0 ≤ kp (a - mn n a) ∧ kp (a - mn n a) ≤ 1000000 := by unfold kp; omega
  have hi := mn_or (kp (a - mn n a) - s) c
  unfold imN
  generalize kp (a - mn n a) = K at *
  generalize mn n a = m at *
  generalize mn (K - s) c = d at *
  omega
theorem sun_hit {st a s c i r l n : Int} (h : stcB st a s c i r l = true) (hn : stcV st a s c i r l = n) : (Pl.mk st a s c i r l).stepB 2 n 0 = true ∧ ((Pl.mk st a s c i r l).step 2 n 0).st = 2 ∧ 1 ≤ n ∧ n ≤ 1000000 := by
  have h0 := h
  rw [stcV, if_pos h] at hn
  simp only [stcB, Bool.and_eq_true, beq_iff_eq, Bool.not_eq_true'] at h
  obtain ⟨⟨hp, hst⟩, hs0⟩ := h
  have hp' := poolOK_iff.1 hp
  have hs0' : s ≠ 0 := by simpa using hs0
  obtain ⟨b1, b2⟩ := stB_one (hp'.2.2.2.2.2.2.1.symm.trans hst)
  have hx := mx_or (a - (1000 * s - 1) / 356) 1
  obtain ⟨g1, g2⟩ := sun_any h0 (n := n) (by omega)
  refine ⟨g1, ?_, by omega, by omega⟩
  rw [g2]
  unfold Pl.settle
  simp only
  rw [stB_two]
  have hm := mn_or n a
  unfold imN kp
  have hi := mn_or (356 * (a - mn n a) / 1000 - s) c
  omega
theorem sun_less {st a s c i r l n : Int} (h : stcB st a s c i r l = true) (hn : stcV st a s c i r l = n) (h1 : 1 < n) : (Pl.mk st a s c i r l).stepB 2 (n - 1) 0 = true ∧ ((Pl.mk st a s c i r l).step 2 (n - 1) 0).st ≠ 2 := by
  have h0 := h
  rw [stcV, if_pos h] at hn
  simp only [stcB, Bool.and_eq_true, beq_iff_eq, Bool.not_eq_true'] at h
  obtain ⟨⟨hp, hst⟩, hs0⟩ := h
  have hp' := poolOK_iff.1 hp
  have hs0' : s ≠ 0 := by simpa using hs0
  obtain ⟨b1, b2⟩ := stB_one (hp'.2.2.2.2.2.2.1.symm.trans hst)
  have hx := mx_or (a - (1000 * s - 1) / 356) 1
  obtain ⟨g1, g2⟩ := sun_any h0 (n := n - 1) (by omega)
  refine ⟨g1, ?_⟩
  rw [g2]
  unfold Pl.settle
  simp only [ne_eq]
  rw [stB_two]
  have hm := mn_or (n - 1) a
  unfold imN kp
  have hi := mn_or (356 * (a - mn (n - 1) a) / 1000 - s) c
  omega
theorem rain_raw {st a s c i r l n : Int} (h : (Pl.mk st a s c i r l).stepB 3 n 0 = true) : (Pl.mk st a s c i r l).step 3 n 0 = (Pl.mk st (a + n) s c i r l).settle := by
  have hT2 := h
  simp only [Pl.stepB, Bool.and_eq_true] at hT2
  obtain ⟨h1, h2, h3⟩ := hT2
  unfold Pl.step
  rw [if_pos h]
  have hr : (Pl.mk st a s c i r l).raw 3 n 0 = none ∨ (Pl.mk st a s c i r l).raw 3 n 0 = some ⟨st, a + n, s, c, i, r, l⟩ := by
    by_cases hh : st = 0 ∨ 1000000 < n
    · left
      simp only [Pl.raw, reduceCtorEq, if_pos hh, show ¬ (3 : Int) = 1 by decide, show ¬ (3 : Int) = 2 by decide, if_false, if_true]
    · right
      simp only [Pl.raw, if_neg hh, show ¬ (3 : Int) = 1 by decide, show ¬ (3 : Int) = 2 by decide, if_false, if_true]
  rcases hr with hr | hr
  · simp [Pl.can, hr] at h3
  · rw [hr]
theorem rain_hit {st a s c i r l n : Int} (h : rtmB st a s c i r l = true) (hn : rtmV st a s c i r l = n) (hs : (Pl.mk st a s c i r l).stepB 3 n 0 = true) : ((Pl.mk st a s c i r l).step 3 n 0).c = 0 := by
  rw [rain_raw hs]
  rw [rtmV, if_pos h] at hn
  simp only [rtmB, Bool.and_eq_true, beq_iff_eq] at h
  have hp' := poolOK_iff.1 h.1
  have hx := mx_or ((1000 * (s + c) + 355) / 356 - a) 1
  unfold Pl.settle
  simp only
  unfold imN kp
  have hi := mn_or (356 * (a + n) / 1000 - s) c
  omega
theorem rain_less {st a s c i r l n : Int} (h : rtmB st a s c i r l = true) (hn : rtmV st a s c i r l = n) (h1 : 1 < n) (hs : (Pl.mk st a s c i r l).stepB 3 (n - 1) 0 = true) : ((Pl.mk st a s c i r l).step 3 (n - 1) 0).c ≠ 0 := by
  rw [rain_raw hs]
  rw [rtmV, if_pos h] at hn
  simp only [rtmB, Bool.and_eq_true, beq_iff_eq] at h
  have hp' := poolOK_iff.1 h.1
  have hc := stB_two.1 (hp'.2.2.2.2.2.2.1.symm.trans h.2)
  have hx := mx_or ((1000 * (s + c) + 355) / 356 - a) 1
  unfold Pl.settle
  simp only
  unfold imN kp
  have hi := mn_or (356 * (a + (n - 1)) / 1000 - s) c
  omega
theorem rain_bd {st a s c i r l n : Int} (hn : rtmV st a s c i r l = n) : 0 ≤ n ∧ n ≤ 10000000 := by
  unfold rtmV at hn
  split at hn
  · rename_i h
    simp only [rtmB, Bool.and_eq_true, beq_iff_eq] at h
    have hp' := poolOK_iff.1 h.1
    have hx := mx_or ((1000 * (s + c) + 355) / 356 - a) 1
    omega
  · omega
end Go.Proofs.YtmfahekkcgnndaaDoor
