/- What the draws of bookings return. No conditions. -/
import Derived.Test.YtkhldmicejdggaaLawKit
import Derived.Test.YtkhldmicejdggaaPutS
set_option linter.unusedSimpArgs false
set_option linter.unusedVariables false
namespace Go.Proofs.Ytkhldmicejdggaa
open Go.RowKit Go.Sort Go.Salt Go.Dr
theorem tyc3 {arr : Array Value} (h : ∀ u ∈ arr.toList, IntV u) : TyC [.int, .int, .int] arr := fun i v hv => by
  obtain ⟨z, rfl, h1, h2⟩ := h v (List.mem_of_getElem? (by simpa using hv))
  have hm : i % 3 < 3 := Nat.mod_lt _ (by decide)
  refine ⟨.int, ?_, z, rfl, h1, h2⟩
  show [CT.int, .int, .int][i % 3]? = some .int
  match i % 3, hm with
  | 0, _ => rfl
  | 1, _ => rfl
  | 2, _ => rfl
def putEnt : Ent := ⟨32, false, [.sl false 45 0 41 1, .agg [.int, .int, .int]], .tup [.sl true 45 0 20 1, .bool true true], 0⟩
theorem put_con {tb : Tab} (hd : tb.td 45 = some ⟨[.int, .int, .int], true, [(0, 3), (1, 3), (2, 3)]⟩) : Con Try.prog tb putEnt := by
  refine Con.pure Try.func32 (by kernel_rfl) (by kernel_rfl) rfl fun w args hs ha => ?_
  obtain ⟨u, v, rfl, hu, hv⟩ := arg_at ha rfl hs
  obtain ⟨f, rfl, hf⟩ := agg_of (k := 3) hv
  have hu' := hu
  obtain ⟨A, len, cap, rfl, _, _, h3, _, h5, h6⟩ := hu'
  obtain ⟨A', xs, c, e, _, hle, hrd, _, _⟩ := rows_of (k := 3) hd rfl (by decide) Bk.enc (fun g => ⟨g 0, g 1, g 2⟩) (fun g => rfl) hu
  obtain ⟨rfl, rfl, rfl⟩ : A = A' ∧ len = xs.length ∧ cap = c := by simpa using e
  cases A with
  | none => have := (h5 rfl).2; omega
  | some ad =>
    obtain ⟨b, m, i, d, rfl, _, _, _⟩ := h6 ad rfl
    refine (sPutBooking_any b (i * d.ct.length) cap xs (f 0) (f 1) (f 2) w hrd (by omega) h3 ⟨⟨_, rfl, hf 0 (by omega)⟩, ⟨_, rfl, hf 1 (by omega)⟩, ⟨_, rfl, hf 2 (by omega)⟩⟩).mono fun e w' he => ?_
    obtain ⟨g, c', arr, rfl, hg, hh, hsz, hlc, htk, hall, hb⟩ := he
    refine ⟨_, rfl, tup_mk2 ?_ (bool_mk _), hb⟩
    exact ⟨_, _, c', rfl, Nat.zero_le _, pbL_len _ _, hlc, by omega, (fun h => by cases h), fun ad had => by
      obtain rfl := Option.some.inj had
      exact ⟨g, c', 0, _, by simp, ⟨fun _ => hg, arr, _, hh, hd, hsz, tyc3 hall⟩, hd, by omega⟩⟩
def bkTab : Tab := ⟨[(3, ⟨[.int], false, []⟩), (45, ⟨[.int, .int, .int], true, [(0, 3), (1, 3), (2, 3)]⟩)], [(77, 3), (26, 45)], []⟩
theorem bkTab_ok : TabOk Try.prog bkTab := tabOk_of (by kernel_rfl)
theorem bkTab0 : Ok Try.prog bkTab [pickEnt 2, pickEnt 9, pickEnt 17, pickEnt 32, pickEnt 43, pickEnt 64, amongEnt, putEnt] := ⟨by kernel_rfl, bkTab_ok, fun A n c => by kernel_rfl, fun e he => by
  simp only [List.mem_cons, List.not_mem_nil, or_false] at he
  rcases he with rfl | rfl | rfl | rfl | rfl | rfl | rfl | rfl
  · exact pick_con 2 (by omega)
  · exact pick_con 9 (by omega)
  · exact pick_con 17 (by omega)
  · exact pick_con 32 (by omega)
  · exact pick_con 43 (by omega)
  · exact pick_con 64 (by omega)
  · exact among_con (by kernel_rfl) (by kernel_rfl)
  · exact put_con (by kernel_rfl)⟩
def bookingEnt : Ent := ⟨72, true, [.cur, full], .one (.agg [.int, .int, .int]), 20⟩
theorem booking_con : Con Try.prog bkTab bookingEnt := chk_con bkTab0 60 Try.func72 (by kernel_rfl)
theorem bkTab1 : Ok Try.prog bkTab [bookingEnt, pickEnt 2, pickEnt 9, pickEnt 17, pickEnt 32, pickEnt 43, pickEnt 64, amongEnt, putEnt] := bkTab0.cons booking_con
def bookingsEnt : Ent := ⟨69, true, [.cur], .one (.sl true 45 0 42 1), 800⟩
theorem bookings_con : Con Try.prog bkTab bookingsEnt := chk_con bkTab1 60 Try.func69 (by kernel_rfl)
theorem bkTab2 : Ok Try.prog bkTab [bookingsEnt, bookingEnt, pickEnt 2, pickEnt 9, pickEnt 17, pickEnt 32, pickEnt 43, pickEnt 64, amongEnt, putEnt] := bkTab1.cons bookings_con
def start20Ent : Ent := ⟨70, true, [.cur], .one full, 10⟩
theorem start20_con : Con Try.prog bkTab start20Ent := chk_con bkTab2 60 Try.func70 (by kernel_rfl)
theorem bkTab3 : Ok Try.prog bkTab [start20Ent, bookingsEnt, bookingEnt, pickEnt 2, pickEnt 9, pickEnt 17, pickEnt 32, pickEnt 43, pickEnt 64, amongEnt, putEnt] := bkTab2.cons start20_con
def indexOfEnt : Ent := ⟨74, true, [.cur, .int 0 42], .one full, 10⟩
theorem indexOf_con : Con Try.prog bkTab indexOfEnt := chk_con bkTab3 60 Try.func74 (by kernel_rfl)
theorem bkTab4 : Ok Try.prog bkTab [indexOfEnt, start20Ent, bookingsEnt, bookingEnt, pickEnt 2, pickEnt 9, pickEnt 17, pickEnt 32, pickEnt 43, pickEnt 64, amongEnt, putEnt] := bkTab3.cons indexOf_con
def span6Ent : Ent := ⟨75, true, [.cur], .tup [full, full], 10⟩
theorem span6_con : Con Try.prog bkTab span6Ent := chk_con bkTab4 60 Try.func75 (by kernel_rfl)
theorem bkTab5 : Ok Try.prog bkTab [span6Ent, indexOfEnt, start20Ent, bookingsEnt, bookingEnt, pickEnt 2, pickEnt 9, pickEnt 17, pickEnt 32, pickEnt 43, pickEnt 64, amongEnt, putEnt] := bkTab4.cons span6_con
def dAreBookingsEnt : Ent := ⟨67, false, [.bytes], .one (.sl true 45 0 42 1), 900⟩
theorem dAreBookings_con : Con Try.prog bkTab dAreBookingsEnt := chk_con bkTab5 60 Try.func67 (by kernel_rfl)
theorem bkTab6 : Ok Try.prog bkTab [dAreBookingsEnt, span6Ent, indexOfEnt, start20Ent, bookingsEnt, bookingEnt, pickEnt 2, pickEnt 9, pickEnt 17, pickEnt 32, pickEnt 43, pickEnt 64, amongEnt, putEnt] := bkTab5.cons dAreBookings_con
def dAreSoundEnt : Ent := ⟨68, false, [.bytes], .tup [.sl true 45 0 42 1, full], 900⟩
theorem dAreSound_con : Con Try.prog bkTab dAreSoundEnt := chk_con bkTab6 60 Try.func68 (by kernel_rfl)
theorem bkTab7 : Ok Try.prog bkTab [dAreSoundEnt, dAreBookingsEnt, span6Ent, indexOfEnt, start20Ent, bookingsEnt, bookingEnt, pickEnt 2, pickEnt 9, pickEnt 17, pickEnt 32, pickEnt 43, pickEnt 64, amongEnt, putEnt] := bkTab6.cons dAreSound_con
def dStartNeededEnt : Ent := ⟨36, false, [.bytes], .one (.sl true 45 0 42 1), 910⟩
theorem dStartNeeded_con : Con Try.prog bkTab dStartNeededEnt := chk_con bkTab7 60 Try.func36 (by kernel_rfl)
def dFirstShortEnt : Ent := ⟨38, false, [.bytes], .tup [.sl true 45 0 42 1, full], 910⟩
theorem dFirstShort_con : Con Try.prog bkTab dFirstShortEnt := chk_con bkTab7 60 Try.func38 (by kernel_rfl)
def dLowestStockEnt : Ent := ⟨45, false, [.bytes], .tup [.sl true 45 0 42 1, full], 910⟩
theorem dLowestStock_con : Con Try.prog bkTab dLowestStockEnt := chk_con bkTab7 60 Try.func45 (by kernel_rfl)
def dUnexplainedEnt : Ent := ⟨39, false, [.bytes], .tup [.sl true 45 0 42 1, full, full, full], 910⟩
theorem dUnexplained_con : Con Try.prog bkTab dUnexplainedEnt := chk_con bkTab7 60 Try.func39 (by kernel_rfl)
def dStockOnEnt : Ent := ⟨40, false, [.bytes], .tup [.sl true 45 0 42 1, full, full], 910⟩
theorem dStockOn_con : Con Try.prog bkTab dStockOnEnt := chk_con bkTab7 60 Try.func40 (by kernel_rfl)
def dPutBookingEnt : Ent := ⟨41, false, [.bytes], .tup [.sl true 45 0 42 1, .agg [.int, .int, .int]], 910⟩
theorem dPutBooking_con : Con Try.prog bkTab dPutBookingEnt := chk_con bkTab7 60 Try.func41 (by kernel_rfl)
def dDropBookingEnt : Ent := ⟨44, false, [.bytes], .tup [.sl true 45 0 42 1, full], 910⟩
theorem dDropBooking_con : Con Try.prog bkTab dDropBookingEnt := chk_con bkTab7 60 Try.func44 (by kernel_rfl)
def dSumOfKindEnt : Ent := ⟨46, false, [.bytes], .tup [.sl true 45 0 42 1, full, full, full], 910⟩
theorem dSumOfKind_con : Con Try.prog bkTab dSumOfKindEnt := chk_con bkTab7 60 Try.func46 (by kernel_rfl)
theorem bkTab_bk : bkTab.td 45 = some ⟨[.int, .int, .int], true, [(0, 3), (1, 3), (2, 3)]⟩ := by kernel_rfl
end Go.Proofs.Ytkhldmicejdggaa
