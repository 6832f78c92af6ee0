/- Contracts of the pool's steps (chapter 21). -/
import Derived.Test.YtmfahekkcgnndaaDoorPool
set_option linter.unusedSimpArgs false
set_option linter.unusedVariables false
namespace Go.Proofs.YtmfahekkcgnndaaDoor
open Go.RowKit Go.Sort Go.Salt
attribute [local go_sem] cell_rg
attribute [local go_sem ↓] run_max_mx run_min_mn
/-- What the water keeps; what falls out or melts, as the program and as the reference reckon it. -/
def kp (a : Int) : Int := 356 * a / 1000
def imN (a s c : Int) : Int := mn (kp a - s) c
def spN (a s c : Int) : Int := if s - kp a < 0 then mx (s - kp a) (-c) else s - kp a
theorem kp_bd (a : Int) (h : 0 ≤ a) (h2 : a ≤ 1000000000000000) : 0 ≤ kp a ∧ kp a ≤ 1000000000000000 := by unfold kp; omega
theorem imN_bd {a s c : Int} : imN a s c = kp a - s ∨ imN a s c = c := by unfold imN; rcases mn_or (kp a - s) c with h | h <;> simp [h.1]
theorem spN_bd {a s c : Int} : spN a s c = s - kp a ∨ spN a s c = -c := by
  unfold spN; split
  · rcases mx_or (s - kp a) (-c) with h | h <;> simp [h.1]
  · exact .inl rfl
theorem spN_im {a s c : Int} (h : 0 ≤ c) : spN a s c = -imN a s c := by
  unfold spN imN
  rcases mx_or (s - kp a) (-c) with h1 | h1 <;> rcases mn_or (kp a - s) c with h2 | h2 <;> split <;> omega
set_option maxHeartbeats 400000 in
theorem settled_any (a s c : Int) (w : World) (_h0 : 0 ≤ a) (h1 : a ≤ 1000000000000000) (_h2 : -1000000000000000 ≤ s) (_h3 : s ≤ 1000000000000000) (_h4 : -1000000000000000 ≤ c) (_h5 : c ≤ 1000000000000000) :
    Calls Tryd.prog 51 #[.agg #[.int .i64 a, .int .i64 s], .int .i64 c] w fun e w' => e = .returned (.tuple #[.agg #[.int .i64 a, .int .i64 (s + imN a s c)], .int .i64 (c - imN a s c)]) ∧ Below w.heap.size w w' := by
  have hk := kp_bd a _h0 h1
  have hm := mn_or (356 * a / 1000 - s) c
  unfold kp at hk
  go_enter Tryd.func51, Tryd.ntmps51
  go_wp2
  go_returns
  exact ⟨rfl, (by repeat' (first | (with_reducible exact Below.refl _ _) | (with_reducible refine Below.alloc ?_ ?_ _) | (with_reducible refine Below.setCell ?_ ?_ _) | (with_reducible refine Below.drew ?_) | (with_reducible refine Below.trans ?_ (Below.mono (by with_reducible assumption) ?_)) | omega | (simp; done) | (simp; omega)))⟩
set_option maxHeartbeats 400000 in
theorem l21Keeps_any (a : Int) (w : World) (_h0 : 0 ≤ a) (_h1 : a ≤ 1000000000000000) :
    Calls Tryd.prog 72 #[.int .i64 a] w fun e w' => e = .returned (.int .i64 (kp a)) ∧ w = w' := by
  go_enter Tryd.func72, Tryd.ntmps72
  go_wp2
  go_ret
  exact ⟨rfl, rfl⟩
set_option maxHeartbeats 400000 in
theorem l21Settle_any (a s c : Int) (w : World) (_h0 : 0 ≤ a) (h1 : a ≤ 1000000000000000) (_h2 : -1000000000000000 ≤ s) (_h3 : s ≤ 1000000000000000) (_h4 : -1000000000000000 ≤ c) (_h5 : c ≤ 1000000000000000) :
    Calls Tryd.prog 69 #[.agg #[.int .i64 a, .int .i64 s], .int .i64 c] w fun e w' => e = .returned (.tuple #[.agg #[.int .i64 a, .int .i64 (s - spN a s c)], .int .i64 (c + spN a s c)]) ∧ Below w.heap.size w w' := by
  have hk := kp_bd a _h0 h1
  have hm := mx_or (s - kp a) (-c)
  by_cases hN : s - kp a < 0
  · go_enter Tryd.func69, Tryd.ntmps69
    go_wp2_with fail
    refine wp_region_quiet_below (by kernel_rfl) (by kernel_rfl) ?_
    repeat (go_big_quiet_step (first | (go_at_call 72; exact Calls.regrown_of (same_below (l21Keeps_any _ _ (by omega) (by omega))))))
    (refine wpQuiet_nil ?_; intro wq hwq; have hb := of_cls hwq; clear hwq; have hs := hb.size; (try simp at hs); obtain ⟨hc, hf, hn⟩ := bcell hb)
    go_wp2_with (go_at_call 29; refine (l1Most_any _ _ _).mono ?_; rintro e w1 ⟨rfl, rfl⟩)
    ((try simp only [Exit.inBlock, Exit.then]); refine bodyPost_ret (by simp [results, Tryd.results69, go_sem, *]; try rfl) rfl ?_)
    exact ⟨by rw [spN, if_pos (by omega)], (by repeat' (first | (with_reducible exact Below.refl _ _) | (with_reducible refine Below.alloc ?_ ?_ _) | (with_reducible refine Below.setCell ?_ ?_ _) | (with_reducible refine Below.drew ?_) | (with_reducible refine Below.trans ?_ (Below.mono (by with_reducible assumption) ?_)) | omega | (simp; done) | (simp; omega)))⟩
  · go_enter Tryd.func69, Tryd.ntmps69
    go_wp2_with fail
    refine wp_region_quiet_below (by kernel_rfl) (by kernel_rfl) ?_
    repeat (go_big_quiet_step (first | (go_at_call 72; exact Calls.regrown_of (same_below (l21Keeps_any _ _ (by omega) (by omega))))))
    (refine wpQuiet_nil ?_; intro wq hwq; have hb := of_cls hwq; clear hwq; have hs := hb.size; (try simp at hs); obtain ⟨hc, hf, hn⟩ := bcell hb)
    go_wp2_with (go_at_call 29; refine (l1Most_any _ _ _).mono ?_; rintro e w1 ⟨rfl, rfl⟩)
    ((try simp only [Exit.inBlock, Exit.then]); refine bodyPost_ret (by simp [results, Tryd.results69, go_sem, *]; try rfl) rfl ?_)
    exact ⟨by rw [spN, if_neg (by omega)], (by repeat' (first | (with_reducible exact Below.refl _ _) | (with_reducible refine Below.alloc ?_ ?_ _) | (with_reducible refine Below.setCell ?_ ?_ _) | (with_reducible refine Below.drew ?_) | (with_reducible refine Below.trans ?_ (Below.mono (by with_reducible assumption) ?_)) | omega | (simp; done) | (simp; omega)))⟩
end Go.Proofs.YtmfahekkcgnndaaDoor
