/- Contract: a share is divided among heirs, by the reference (chapter 22). -/
import Derived.Test.YtimdnihadhbjpaaDoorHeirMath
import Derived.Test.YtimdnihadhbjpaaDoorStrE
import Derived.Deep.Cut
set_option linter.unusedSimpArgs false
set_option linter.unusedVariables false
namespace Go.Proofs.YtimdnihadhbjpaaDoor
open Go.RowKit Go.Sort Go.Salt
attribute [local go_sem] cell_rg
theorem OwBd.del {xs : List Ow} (h : OwBd xs) {i : Nat} (hi : i < xs.length) : OwBd (delL xs i) := fun j => by
  rw [el_del hi]; split <;> exact h _
theorem OwBd.pos {xs : List Ow} (h : OwBd xs) : posO xs := fun j => by have := h j; omega
theorem hG_at {n d : Int} {xs : List Ow} {hs : List ByteArray} {k j : Nat} (h : OwBd xs) (hd : ∀ m, m < k → el hs m ≠ el hs k) (hs' : (el (hG n d xs hs k) j).s = el hs k) :
    (1 ≤ (el (hG n d xs hs k) j).n ∧ (el (hG n d xs hs k) j).n ≤ 1000) ∧ 1 ≤ (el (hG n d xs hs k) j).d ∧ (el (hG n d xs hs k) j).d ≤ 1000 := by
  rcases hG_bd (n := n) (d := d) (hs := hs) h k j with ⟨m, hm, e⟩ | e
  · exact absurd (e.symm.trans hs') (hd m hm)
  · exact e
theorem hG_give {n d : Int} {xs : List Ow} {hs : List ByteArray} {k : Nat} (h : OwBd xs) (hn : 0 < n) (hd : 0 < d) : giveL (hG n d xs hs k) (el hs k) (rN n d) (rD n d) = hG n d xs hs (k + 1) := give_gets (hG_pos h.pos hn hd k) hn hd
def GivenR (w : World) (ys : List Ow) (u : Value) (W : World) : Prop := GivenAt w ys (.returned u) W
theorem GivenR.out {w : World} {ys : List Ow} {u : Value} {W : World} (h : GivenR w ys u W) : ∃ g cap, u = .slice (some ⟨g, 0, none⟩) ys.length cap ∧ ys.length ≤ cap ∧ cap ≤ maxLen ∧ w.heap.size ≤ g ∧ Row W g 54 (ys.flatMap Ow.enc) ∧ Below w.heap.size w W := by
  obtain ⟨g, cap, e, h1⟩ := h
  cases e
  exact ⟨g, cap, rfl, h1⟩
theorem StrSz.el {B : Nat} {hs : List ByteArray} (h : StrSz B hs) : ∀ k, (Go.Salt.el hs k).size ≤ B := fun k => by
  by_cases hk : k < hs.length
  · exact h k hk
  · rw [el_out (by omega)]; exact Nat.zero_le _
set_option maxRecDepth 100000 in
set_option maxHeartbeats 16000000 in
theorem sHeirsOf_main (b0 o0 c : Nat) (xs : List Ow) (b1 o1 c' : Nat) (hs : List ByteArray) (nm : ByteArray) (w : World) (h : Rd w w.heap.size (some ⟨b0, o0, none⟩) 3 Ow.enc xs) (h' : Rd w w.heap.size (some ⟨b1, o1, none⟩) 1 se hs) (hx : xs.length ≤ 1048576) (hc : xs.length ≤ c) (hz : OwSz 1048576 xs) (hsz : StrSz 1048576 hs)
    (hg : arB xs = true) (i : Nat) (hi : i < xs.length) (hat : owAtN xs nm xs.length = i) (hin : inB hs.length 1 5 = true) :
    Calls Tryd.prog 46 #[.slice (some ⟨b0, o0, none⟩) xs.length c, .string nm, .slice (some ⟨b1, o1, none⟩) hs.length c'] w fun e w' => MadeAt w 54 ((hrL xs nm hs).flatMap Ow.enc) (hrL xs nm hs).length (fun v => .returned (.tuple #[v, .bool (hrB xs nm hs)])) e w' := by
  have HX := Lib.hid h
  have HH := Lib.hid h'
  have HZ := Lib.hid hz
  have HSZ := Lib.hid hsz.el
  have Hg := Lib.hid hg
  have HBD := Lib.hid (arOK_bd hg)
  have hl := arOK_len hg
  have hln := inB_iff.1 hin
  have Hat := Lib.hid hat
  have Hin := Lib.hid hin
  have hi0 : ¬ (i : Int) < 0 := by omega
  have hiI : (i : Int) < xs.length := by omega
  have hiI0 : (0 : Int) ≤ i := by omega
  have hI : hrI xs nm = i := by unfold hrI; rw [hat]; simp
  have HCC : Hid (∀ b, noD hs nm hs.length = b → hrC xs nm hs = b) := Lib.hid (fun b hb => by unfold hrC; rw [hg, hat, hin, hb, decide_eq_true hiI0]; rfl)
  have hub := HBD.out i
  have HBDd := Lib.hid (HBD.out.del hi)
  obtain ⟨n0, hn0⟩ : ∃ z, (el xs i).n = z := ⟨_, rfl⟩
  obtain ⟨d1, hd1⟩ : ∃ z, (el xs i).d = z := ⟨_, rfl⟩
  rw [hn0, hd1] at hub
  have bd := mulb (a := d1) (b := (hs.length : Int)) (by omega) (by omega)
  have bd1 : d1 * (hs.length : Int) ≤ 1000 * 5 := Int.mul_le_mul (by omega) (by omega) (by omega) (by omega)
  have bp := Int.mul_pos (show 0 < d1 by omega) (show 0 < (hs.length : Int) by omega)
  have HR : Hid (hrR xs nm hs = hG n0 (d1 * (hs.length : Int)) (delL xs i) hs hs.length) := Lib.hid (by unfold hrR; rw [hI, hn0, hd1])
  obtain ⟨d0, hd0⟩ : ∃ z, d1 * (hs.length : Int) = z := ⟨_, rfl⟩
  rw [hd0] at bd bd1 bp HR
  have v1 : wrap64 (d1 * (hs.length : Int)) = d0 := by rw [hd0]; exact wrap_in' ⟨by omega, by omega⟩
  have hr := r_bd (n := n0) bp
  have hr3 := hr.2.2 (by omega)
  have HG := Lib.hid (fun k => hG_give (k := k) (hs := hs) HBDd.out (show 0 < n0 by omega) bp)
  have hcr := fun W => red_any n0 d0 W (by omega) bp (by omega) (by omega)
  obtain ⟨rn, hrn⟩ : ∃ z, rN n0 d0 = z := ⟨_, rfl⟩
  obtain ⟨rd, hrd⟩ : ∃ z, rD n0 d0 = z := ⟨_, rfl⟩
  rw [hrn] at hr3
  rw [hrd] at hr
  rw [hrn, hrd] at hcr
  have HC := Lib.hid hcr
  replace HG : Hid (∀ k, giveL (hG n0 d0 (delL xs i) hs k) (el hs k) rn rd = hG n0 d0 (delL xs i) hs (k + 1)) := Lib.hid (by rw [← hrn, ← hrd]; exact HG.out)
  have hr1 := hr.1
  have hr2 := hr.2.1
  have hZd := Lib.hid (HZ.out.del hi)
  have hdl := del_len hi
  obtain ⟨i0, hii, hz0, hz1, hz2⟩ := info_parts ow_info
  have hinfo := Lib.hid (And.intro hii (And.intro hz0 (And.intro hz1 hz2)))
  clear h h' hz hsz hg hat hin hI hcr hrn hrd hd0 hr hii hz0 hz1 hz2
  go_enter Tryd.func46, Tryd.ntmps46
  go_wp2_with fail
  refine (l22Find_any _ c xs nm _ (HX.out.to (by repeat' (first | (with_reducible exact Below.refl _ _) | (with_reducible refine Below.alloc ?_ ?_ _) | (with_reducible refine Below.setCell ?_ ?_ _) | (with_reducible refine Below.drew ?_) | (with_reducible refine Below.trans ?_ (Below.mono (by with_reducible assumption) ?_)) | omega | (simp; done) | (simp; omega)))) hx).mono ?_
  rintro e w1 ⟨rfl, hb1⟩
  have hs1 := hb1.size
  rw [Hat.out]
  go_wp2_with fail
  refine (l22Good_any _ c xs _ (HX.out.to (by repeat' (first | (with_reducible exact Below.refl _ _) | (with_reducible refine Below.alloc ?_ ?_ _) | (with_reducible refine Below.setCell ?_ ?_ _) | (with_reducible refine Below.drew ?_) | (with_reducible refine Below.trans ?_ (Below.mono (by with_reducible assumption) ?_)) | omega | (simp; done) | (simp; omega)))) hx HZ.out).mono ?_
  rintro e w2 ⟨rfl, hb2⟩
  have hs2 := hb2.size
  rw [Hg.out]
  go_wp2_with fail
  (go_at_call 80; refine (l1In_any _ _ _ _).mono ?_; rintro e w1 ⟨rfl, rfl⟩)
  rw [Hin.out]
  obtain ⟨bb0, oo0, ee0, hB0, _⟩ := ow_cells HX.out hi
  obtain ⟨rfl, rfl⟩ : b0 = bb0 ∧ o0 = oo0 := by simpa using ee0
  clear ee0
  obtain ⟨bb, oo, ee, hB, q0, q1, q2⟩ := ow_cells (HX.out.to (show Below w.heap.size w w2 from (by repeat' (first | (with_reducible exact Below.refl _ _) | (with_reducible refine Below.alloc ?_ ?_ _) | (with_reducible refine Below.setCell ?_ ?_ _) | (with_reducible refine Below.drew ?_) | (with_reducible refine Below.trans ?_ (Below.mono (by with_reducible assumption) ?_)) | omega | (simp; done) | (simp; omega))))) hi
  obtain ⟨rfl, rfl⟩ : b0 = bb ∧ o0 = oo := by simpa using ee
  rw [hn0] at q1
  rw [hd1] at q2
  clear ee
  go_wp2_with fail
  go_wp2_with fail
  refine wp_region_quiet_below (by kernel_rfl) (by kernel_rfl) ?_
  repeat (go_big_quiet_step ((go_at_call 69; exact Calls.regrown_of (HC.out _))))
  (refine wpQuiet_nil ?_; intro w1 hwq; have hb1 := of_cls hwq; clear hwq)
  (have hs1 := hb1.size; (try simp at hs1); obtain ⟨hc1, hf1, hn1⟩ := bcell hb1; (try have hz1_w_0 : w.heap.size < w1.heap.size := by omega); (try have hz1_w_1 : w.heap.size + 1 < w1.heap.size := by omega); (try have hz1_w_2 : w.heap.size + 2 < w1.heap.size := by omega); (try have hz1_w_2b : w.heap.size + 1 + 1 < w1.heap.size := by omega))
  go_upto_region 5 with (fail)
  refine cut_world (fun W => Below w.heap.size w W) (by repeat' (first | (with_reducible exact Below.refl _ _) | (with_reducible refine Below.alloc ?_ ?_ _) | (with_reducible refine Below.setCell ?_ ?_ _) | (with_reducible refine Below.drew ?_) | (with_reducible refine Below.trans ?_ (Below.mono (by with_reducible assumption) ?_)) | omega | (simp; done) | (simp; omega))) ?_
  clear q0 q1 q2 hb1 hb2 hs1 hs2 v1
  intro w3 hb3
  have hs3 := hb3.size
  have HR3 := Lib.hid (HX.out.to hb3)
  have hb03 : b0 < w3.heap.size := by omega
  have hkc : i ≤ c := by omega
  have hkc0 : (0 : Int) ≤ (i : Int) + 1 := by omega
  have hkc1 : (i : Int) + 1 ≤ xs.length := by omega
  have hkc2 : (i : Int) ≤ c := by omega
  have hkc3 : i ≤ xs.length := by omega
  have hkc4 : i + 1 ≤ xs.length := by omega
  have hcc2 : (xs.length : Int) ≤ c := by omega
  have hadr : xs.length - (i + 1) = 0 ∨ (if c = i + 1 then (⟨b0, o0, none⟩ : Addr) else ⟨b0, o0 + (i + 1) * 3, none⟩) = ⟨b0, o0 + (i + 1) * 3, none⟩ := by
    by_cases hc : c = i + 1
    · left; omega
    · right; rw [if_neg hc]
  have hX : (if c = i + 1 then some (⟨b0, o0, none⟩ : Addr) else some ⟨b0, o0 + (i + 1) * 3, none⟩) = some (if c = i + 1 then ⟨b0, o0, none⟩ else ⟨b0, o0 + (i + 1) * 3, none⟩) := by
    by_cases hc : c = i + 1 <;> simp [hc]
  have HXa := Lib.hid (And.intro hadr hX)
  have hb1' := hb3
  clear hadr hX
  have hwr : IntKind.i64.wrap ((i : Int) + 1) = (i : Int) + 1 := IntWalk.i64_in _ (by omega)
  have htn : ((i : Int) + 1).toNat = i + 1 := by omega
  by_cases hci : c = i + 1
  · subst hci
    have hend : xs.length - (i + 1) = 0 := by omega
    have hkcA : (i : Int) ≤ (i : Int) + 1 := by omega
    have hkcB : (xs.length : Int) ≤ (i : Int) + 1 := by omega
    have hkcC : i ≤ i + 1 := by omega
    clear hkc2 hcc2
    go_cut [11] from 12 (fun u wx => GivenR w (delL xs i) u wx)
    case first =>
      go_region_held3 (fun _ => True) (trivial)
        (first
          | (refine step_append_own (by rfl) (.tmp 48) _ _ (by rfl) w.heap.size 54 i0 _ 3 32 Tryd.underlying25 hinfo.out.1 hinfo.out.2.1 hinfo.out.2.2.1 hinfo.out.2.2.2 rfl (by decide) _ _ _ (by rfl) (own_empty 3 (by first | omega | (simp; done) | (simp; omega)) (heap_alloc_new _ _)) _ _ _ ((xs.take i).flatMap Ow.enc) (by rfl) (len_take Ow.enc_len xs hkc3) (news_take (HR3.out.to (by repeat' (first | (with_reducible exact Below.refl _ _) | (with_reducible refine Below.alloc ?_ ?_ _) | (with_reducible refine Below.setCell ?_ ?_ _) | (with_reducible refine Below.drew ?_) | (with_reducible refine Below.trans ?_ (Below.mono (by with_reducible assumption) ?_)) | omega | (simp; done) | (simp; omega)))) Ow.enc_len hkc3) (flat_one Ow.enc_one) (by unfold maxLen; omega) (by omega) (by first | omega | (simp; done) | (simp; omega)) ?_; intro v2 w4 own2 hgr2 hnil2; have hb4 := grew_new hb1' hgr2; have hb43 := grew_new (Below.refl w3.heap.size w3) hgr2; have hs4 := hb4.size; (try simp at hs4))
          | (refine step_append_at (by rfl) (.tmp 52) _ _ (by rfl) w.heap.size 54 i0 _ 3 32 Tryd.underlying25 hinfo.out.1 hinfo.out.2.1 hinfo.out.2.2.1 hinfo.out.2.2.2 rfl (by decide) v2 _ _ (by rfl) own2 _ _ _ _ ([] : List Value) (by rfl) (by rfl) rfl (fun j u hu => by simp at hu) (fun u hu => by simp at hu) (by unfold maxLen; omega) (by omega) (by first | omega | (simp; done) | (simp; omega)) ?_; intro v3 w5 own3 hgr3 hnil3; have hb5 : Below w.heap.size w w5 := own_grew own2 (by repeat' (first | (with_reducible exact Below.refl _ _) | (with_reducible refine Below.alloc ?_ ?_ _) | (with_reducible refine Below.setCell ?_ ?_ _) | (with_reducible refine Below.drew ?_) | (with_reducible refine Below.trans ?_ (Below.mono (by with_reducible assumption) ?_)) | omega | (simp; done) | (simp; omega))) (by first | omega | (simp; done) | (simp; omega)) hgr3))
      all_goals
        go_wp2_with fail
        go_meet
        have hxl : 0 + i + 0 = (delL xs i).length := by rw [del_len hi]; omega
        have hfl : [] ++ (xs.take i).flatMap Ow.enc ++ [] = (delL xs i).flatMap Ow.enc := by simp [delL, List.drop_of_length_le (show xs.length ≤ i + 1 by omega)]
        rw [hxl, hfl] at own3
        have hn2 : v2 ≠ .slice none 0 0 := fun e => by have := (hnil2.1 e).1; simp at this
        have hn3 : v3 ≠ .slice none 0 0 := fun e => hn2 (hnil3.1 e).1
        exact GivenAt.of_own own3 hn3 hb5
    case rest =>
      have HCT := Lib.hid hcut
      obtain ⟨gq, cq, rfl, _, _, _, _, _⟩ := hcut.out
      clear hcut hb1' HR3 hb3 hs3 HXa hwr htn hkc hkc0 hkc1 hkc3 hkc4 hb03
      go_wp2_with fail
      go_loopw [11, 12] (fun v k wr => ∃ kk : Nat, kk ≤ hs.length ∧ k = .int .i64 kk ∧ Hid (noD hs nm kk = true) ∧ Hid (GivenR w (hG n0 d0 (delL xs i) hs kk) v wr)) (fun _ k _ => hs.length - (intOf k).toNat)
      case atStart => exact ⟨0, Nat.zero_le _, rfl, Lib.hid rfl, HCT⟩
      case round =>
        clear HCT
        obtain ⟨k, hk, rfl, HN, HGv⟩ := hrel
        have hlk := hG_len n0 d0 (delL xs i) hs k
        have hat := fun j => hG_at (n := n0) (d := d0) (hs := hs) (k := k) (j := j) HBDd.out
        have hGk := HG.out k
        have hZk := hG_sz (n := n0) (d := d0) hZd.out HSZ.out k
        by_cases hlt : k < hs.length
        · obtain ⟨ys, hys⟩ : ∃ ys, hG n0 d0 (delL xs i) hs k = ys := ⟨_, rfl⟩
          rw [hys] at HGv hlk hat hGk hZk
          obtain ⟨g, cap, rfl, k1, k2, hgw, row, hb⟩ := HGv.out.out
          have HAT := Lib.hid hat
          have HGK := Lib.hid hGk
          have hsb := hb.size
          have hgl := row.lt
          have ROW := Lib.hid row
          have HBw := Lib.hid hb
          clear hys hat hGk HGv row hZk
          obtain ⟨bx, ox, ee, hBx, c0⟩ := str_cell (HH.out.to hb) hlt
          obtain ⟨rfl, rfl⟩ : b1 = bx ∧ o1 = ox := by simpa using ee
          have hK : (k : Int) < hs.length := by omega
          have hK0 : (0 : Int) ≤ k := by omega
          clear ee
          by_cases hq : el hs k = nm
          · have HB : Hid (hrB xs nm hs = false) := Lib.hid (by unfold hrB; rw [HCC.out false (noD_name hlt hq)]; rfl)
            have hq2 : (el hs k).toList = nm.toList := ba_iff.2 hq
            clear hq
            go_wp2
            go_ret2
            exact hr_no HB.out (MadeAt.empty (g := _) (fun v => .returned (.tuple #[v, .bool false])) (by first | omega | (simp; omega)) (heap_alloc_new _ _) (by repeat' (first | (with_reducible exact Below.refl _ _) | (with_reducible refine Below.alloc ?_ ?_ _) | (with_reducible refine Below.setCell ?_ ?_ _) | (with_reducible refine Below.drew ?_) | (with_reducible refine Below.trans ?_ (Below.mono (by with_reducible assumption) ?_)) | omega | (simp; done) | (simp; omega))))
          · have hq2 : ((el hs k).toList == nm.toList) = false := ba_beq hq
            have HQ := Lib.hid hq
            clear hq
            go_wp2_with fail
            obtain ⟨wA, rfl⟩ : ∃ wA, wA = wr := ⟨_, rfl⟩
            go_loopw [13] (fun j W => ∃ jj : Nat, jj ≤ k ∧ j = .int .i64 jj ∧ Hid (∀ m, m < jj → el hs m ≠ el hs k) ∧ Below wA.heap.size wA W) (fun j _ => k - (intOf j).toNat)
            case atStart => exact ⟨0, Nat.zero_le _, rfl, Lib.hid (fun m hm => absurd hm (by omega)), Below.refl _ _⟩
            case round =>
              obtain ⟨j, hj, rfl, Hj, hbA⟩ := hrel
              have hsA := hbA.size
              have hbW := HBw.out.trans (hbA.mono hsb)
              have hbl : b1 < wr.heap.size := by omega
              clear c0
              obtain ⟨bx, ox, ee, hBx', c0⟩ := str_cell (HH.out.to hbW) hlt
              obtain ⟨rfl, rfl⟩ : b1 = bx ∧ o1 = ox := by simpa using ee
              clear ee
              by_cases hjk : j < k
              · obtain ⟨bx, ox, ee, hBx2, d0'⟩ := str_cell (HH.out.to hbW) (show j < hs.length by omega)
                obtain ⟨rfl, rfl⟩ : b1 = bx ∧ o1 = ox := by simpa using ee
                have hJ : (j : Int) < k := by omega
                have hJ0 : (0 : Int) ≤ j := by omega
                have hJl : (j : Int) < hs.length := by omega
                clear ee
                by_cases hq : el hs j = el hs k
                · have HB : Hid (hrB xs nm hs = false) := Lib.hid (by unfold hrB; rw [HCC.out false (noD_dup hlt hjk hq)]; rfl)
                  have hq3 : (el hs j).toList = (el hs k).toList := ba_iff.2 hq
                  clear hq
                  go_wp2_with fail
                  go_wp2_with fail
                  refine wp_region_quiet_below (by kernel_rfl) (by kernel_rfl) ?_
                  repeat (go_big_quiet_step (fail))
                  (refine wpQuiet_nil ?_; intro w2 hwq; have hb2 := of_cls hwq; clear hwq)
                  (have hs2 := hb2.size; (try simp at hs2); obtain ⟨hc2, hf2, hn2⟩ := bcell hb2; (try have hz2_w_0 : w.heap.size < w2.heap.size := by omega); (try have hz2_w_1 : w.heap.size + 1 < w2.heap.size := by omega); (try have hz2_w_2 : w.heap.size + 2 < w2.heap.size := by omega); (try have hz2_w_2b : w.heap.size + 1 + 1 < w2.heap.size := by omega); (try have hz2_w1_0 : w1.heap.size < w2.heap.size := by omega); (try have hz2_w1_1 : w1.heap.size + 1 < w2.heap.size := by omega); (try have hz2_w1_2 : w1.heap.size + 2 < w2.heap.size := by omega); (try have hz2_w1_2b : w1.heap.size + 1 + 1 < w2.heap.size := by omega))
                  go_wp2
                  go_ret2
                  exact hr_no HB.out (MadeAt.empty (g := _) (fun v => .returned (.tuple #[v, .bool false])) (by first | omega | (simp; omega)) (heap_alloc_new _ _) (hbW.trans ((show Below wr.heap.size wr _ from (by repeat' (first | (with_reducible exact Below.refl _ _) | (with_reducible refine Below.alloc ?_ ?_ _) | (with_reducible refine Below.setCell ?_ ?_ _) | (with_reducible refine Below.drew ?_) | (with_reducible refine Below.trans ?_ (Below.mono (by with_reducible assumption) ?_)) | omega | (simp; done) | (simp; omega)))).mono (by omega))))
                · have hq3 : ((el hs j).toList == (el hs k).toList) = false := ba_beq hq
                  have HQ2 := Lib.hid hq
                  clear hq
                  go_wp2_with fail
                  go_wp2_with fail
                  refine wp_region_quiet_below (by kernel_rfl) (by kernel_rfl) ?_
                  repeat (go_big_quiet_step (fail))
                  (refine wpQuiet_nil ?_; intro w3 hwq; have hb3 := of_cls hwq; clear hwq)
                  (have hs3 := hb3.size; (try simp at hs3); obtain ⟨hc3, hf3, hn3⟩ := bcell hb3; (try have hz3_w_0 : w.heap.size < w3.heap.size := by omega); (try have hz3_w_1 : w.heap.size + 1 < w3.heap.size := by omega); (try have hz3_w_2 : w.heap.size + 2 < w3.heap.size := by omega); (try have hz3_w_2b : w.heap.size + 1 + 1 < w3.heap.size := by omega); (try have hz3_w1_0 : w1.heap.size < w3.heap.size := by omega); (try have hz3_w1_1 : w1.heap.size + 1 < w3.heap.size := by omega); (try have hz3_w1_2 : w1.heap.size + 2 < w3.heap.size := by omega); (try have hz3_w1_2b : w1.heap.size + 1 + 1 < w3.heap.size := by omega); (try have hz3_w2_0 : w2.heap.size < w3.heap.size := by omega); (try have hz3_w2_1 : w2.heap.size + 1 < w3.heap.size := by omega); (try have hz3_w2_2 : w2.heap.size + 2 < w3.heap.size := by omega); (try have hz3_w2_2b : w2.heap.size + 1 + 1 < w3.heap.size := by omega))
                  go_wp2_with fail
                  go_roundw
                  case rel => exact ⟨j + 1, by omega, by go_num, Lib.hid (fun m hm => by
                    by_cases e : m = j
                    · subst e; exact HQ2.out
                    · exact Hj.out m (by omega)), hbA.trans ((show Below wr.heap.size wr _ from (by repeat' (first | (with_reducible exact Below.refl _ _) | (with_reducible refine Below.alloc ?_ ?_ _) | (with_reducible refine Below.setCell ?_ ?_ _) | (with_reducible refine Below.drew ?_) | (with_reducible refine Below.trans ?_ (Below.mono (by with_reducible assumption) ?_)) | omega | (simp; done) | (simp; omega)))).mono hsA)⟩
                  case measure => simp [intOf] <;> omega
              · obtain rfl : j = k := by omega
                have hJ : ¬ (j : Int) < j := by omega
                have HNk : Hid (noD hs nm (j + 1) = true) := Lib.hid (noD_succ.2 ⟨HN.out, HQ.out, Hj.out⟩)
                have hR4 := ROW.out.to hbA
                have hgl4 := hR4.lt
                have HR4 := Lib.hid hR4
                clear hR4
                go_wp2_with fail
                refine (l22Give_any _ cap ys (el hs j) rn rd _ (HR4.out.rdTo Ow.enc_len (by repeat' (first | (with_reducible exact Below.refl _ _) | (with_reducible refine Below.alloc ?_ ?_ _) | (with_reducible refine Below.setCell ?_ ?_ _) | (with_reducible refine Below.drew ?_) | (with_reducible refine Below.trans ?_ (Below.mono (by with_reducible assumption) ?_)) | omega | (simp; done) | (simp; omega)))) (by omega) (fun m _ hs' => by have := HAT.out m Hj.out hs'; exact ⟨⟨⟨by omega, by omega⟩, by omega, by omega⟩, ⟨by omega, by omega⟩, by omega, by omega⟩)).mono ?_
                rintro e w5 ⟨g5, c5, rfl, k51, k52, hg5, row5, hb5⟩
                rw [HGK.out] at k51 row5 ⊢
                have hbw5 : Below w.heap.size w w5 := hbW.trans (hb5.mono hbW.size)
                have HF := Lib.hid (show GivenR w (hG n0 d0 (delL xs i) hs (j + 1)) (.slice (some ⟨g5, 0, none⟩) (hG n0 d0 (delL xs i) hs (j + 1)).length c5) w5 from ⟨g5, c5, rfl, k51, k52, Nat.le_trans hbW.size hg5, row5, hbw5⟩)
                clear k51 row5
                go_wp2
                go_roundw
                case rel => exact ⟨j + 1, by omega, by go_num, HNk, HF⟩
                case measure => simp [intOf] <;> omega
        · obtain rfl : k = hs.length := by omega
          have hK : ¬ ((hs.length : Nat) : Int) < hs.length := by omega
          have HC1 := HCC.out true HN.out
          obtain ⟨ys, hys⟩ : ∃ ys, hG n0 d0 (delL xs i) hs hs.length = ys := ⟨_, rfl⟩
          rw [hys] at HGv hlk hZk HR
          obtain ⟨g, cap, rfl, k1, k2, hgw, row, hb⟩ := HGv.out.out
          have hsb := hb.size
          have hgl := row.lt
          have ROW := Lib.hid row
          have HBw := Lib.hid hb
          clear hys hat hGk HGv row
          cases hG : arB ys
          · have HB : Hid (hrB xs nm hs = false) := Lib.hid (by unfold hrB; rw [HR.out, hG, Bool.and_false])
            go_wp2_with fail
            refine (l22Good_any _ cap ys _ (ROW.out.rdTo Ow.enc_len (by repeat' (first | (with_reducible exact Below.refl _ _) | (with_reducible refine Below.alloc ?_ ?_ _) | (with_reducible refine Below.setCell ?_ ?_ _) | (with_reducible refine Below.drew ?_) | (with_reducible refine Below.trans ?_ (Below.mono (by with_reducible assumption) ?_)) | omega | (simp; done) | (simp; omega)))) (by omega) hZk).mono ?_
            rintro e w6 ⟨rfl, hb6⟩
            have hs6 := hb6.size
            rw [hG]
            go_wp2
            go_ret2
            exact hr_no HB.out (MadeAt.empty (g := _) (fun v => .returned (.tuple #[v, .bool false])) (by first | omega | (simp; omega)) (heap_alloc_new _ _) (by repeat' (first | (with_reducible exact Below.refl _ _) | (with_reducible refine Below.alloc ?_ ?_ _) | (with_reducible refine Below.setCell ?_ ?_ _) | (with_reducible refine Below.drew ?_) | (with_reducible refine Below.trans ?_ (Below.mono (by with_reducible assumption) ?_)) | omega | (simp; done) | (simp; omega))))
          · have HB : Hid (hrB xs nm hs = true) := Lib.hid (by unfold hrB; rw [HR.out, hG, HC1]; rfl)
            go_wp2_with fail
            refine (l22Good_any _ cap ys _ (ROW.out.rdTo Ow.enc_len (by repeat' (first | (with_reducible exact Below.refl _ _) | (with_reducible refine Below.alloc ?_ ?_ _) | (with_reducible refine Below.setCell ?_ ?_ _) | (with_reducible refine Below.drew ?_) | (with_reducible refine Below.trans ?_ (Below.mono (by with_reducible assumption) ?_)) | omega | (simp; done) | (simp; omega)))) (by omega) hZk).mono ?_
            rintro e w6 ⟨rfl, hb6⟩
            have hs6 := hb6.size
            rw [hG]
            go_wp2
            go_ret2
            exact hr_yes HR.out HB.out ⟨_, cap, rfl, OwnAt.row hgw (ROW.out.to hb6), HBw.out.trans (hb6.mono (by omega))⟩
  go_cut [11] from 12 (fun u wx => GivenR w (delL xs i) u wx)
  case first =>
    go_region_held3 (fun _ => True) (trivial)
      (first
        | (refine step_append_own (by rfl) (.tmp 48) _ _ (by rfl) w.heap.size 54 i0 _ 3 32 Tryd.underlying25 hinfo.out.1 hinfo.out.2.1 hinfo.out.2.2.1 hinfo.out.2.2.2 rfl (by decide) _ _ _ (by rfl) (own_empty 3 (by first | omega | (simp; done) | (simp; omega)) (heap_alloc_new _ _)) _ _ _ ((xs.take i).flatMap Ow.enc) (by rfl) (len_take Ow.enc_len xs hkc3) (news_take (HR3.out.to (by repeat' (first | (with_reducible exact Below.refl _ _) | (with_reducible refine Below.alloc ?_ ?_ _) | (with_reducible refine Below.setCell ?_ ?_ _) | (with_reducible refine Below.drew ?_) | (with_reducible refine Below.trans ?_ (Below.mono (by with_reducible assumption) ?_)) | omega | (simp; done) | (simp; omega)))) Ow.enc_len hkc3) (flat_one Ow.enc_one) (by unfold maxLen; omega) (by omega) (by first | omega | (simp; done) | (simp; omega)) ?_; intro v2 w4 own2 hgr2 hnil2; have hb4 := grew_new hb1' hgr2; have hb43 := grew_new (Below.refl w3.heap.size w3) hgr2; have hs4 := hb4.size; (try simp at hs4))
        | (refine step_append_at (by rfl) (.tmp 52) _ _ (by rfl) w.heap.size 54 i0 _ 3 32 Tryd.underlying25 hinfo.out.1 hinfo.out.2.1 hinfo.out.2.2.1 hinfo.out.2.2.2 rfl (by decide) v2 _ _ (by rfl) own2 _ _ _ _ ((xs.drop (i + 1)).flatMap Ow.enc) (by rfl) (by rfl) (len_drop Ow.enc_len xs _) (news_drop (HR3.out.to hb43) Ow.enc_len hkc4 (.inr rfl)) (flat_one Ow.enc_one) (by unfold maxLen; omega) (by omega) (by first | omega | (simp; done) | (simp; omega)) ?_; intro v3 w5 own3 hgr3 hnil3; have hb5 : Below w.heap.size w w5 := own_grew own2 (by repeat' (first | (with_reducible exact Below.refl _ _) | (with_reducible refine Below.alloc ?_ ?_ _) | (with_reducible refine Below.setCell ?_ ?_ _) | (with_reducible refine Below.drew ?_) | (with_reducible refine Below.trans ?_ (Below.mono (by with_reducible assumption) ?_)) | omega | (simp; done) | (simp; omega))) (by first | omega | (simp; done) | (simp; omega)) hgr3))
    all_goals
      go_wp2_with fail
      go_meet
      have hxl : 0 + i + (xs.length - (i + 1)) = (delL xs i).length := by rw [del_len hi]; omega
      have hfl : [] ++ (xs.take i).flatMap Ow.enc ++ (xs.drop (i + 1)).flatMap Ow.enc = (delL xs i).flatMap Ow.enc := by simp [delL]
      rw [hxl, hfl] at own3
      have hn2 : v2 ≠ .slice none 0 0 := fun e => by have := (hnil2.1 e).1; simp at this
      have hn3 : v3 ≠ .slice none 0 0 := fun e => hn2 (hnil3.1 e).1
      exact GivenAt.of_own own3 hn3 hb5
  case rest =>
    have HCT := Lib.hid hcut
    obtain ⟨gq, cq, rfl, _, _, _, _, _⟩ := hcut.out
    clear hcut hb1' HR3 hb3 hs3 HXa hwr htn hkc hkc0 hkc1 hkc3 hkc4 hb03
    go_wp2_with fail
    go_loopw [11, 12] (fun v k wr => ∃ kk : Nat, kk ≤ hs.length ∧ k = .int .i64 kk ∧ Hid (noD hs nm kk = true) ∧ Hid (GivenR w (hG n0 d0 (delL xs i) hs kk) v wr)) (fun _ k _ => hs.length - (intOf k).toNat)
    case atStart => exact ⟨0, Nat.zero_le _, rfl, Lib.hid rfl, HCT⟩
    case round =>
      clear HCT
      obtain ⟨k, hk, rfl, HN, HGv⟩ := hrel
      have hlk := hG_len n0 d0 (delL xs i) hs k
      have hat := fun j => hG_at (n := n0) (d := d0) (hs := hs) (k := k) (j := j) HBDd.out
      have hGk := HG.out k
      have hZk := hG_sz (n := n0) (d := d0) hZd.out HSZ.out k
      by_cases hlt : k < hs.length
      · obtain ⟨ys, hys⟩ : ∃ ys, hG n0 d0 (delL xs i) hs k = ys := ⟨_, rfl⟩
        rw [hys] at HGv hlk hat hGk hZk
        obtain ⟨g, cap, rfl, k1, k2, hgw, row, hb⟩ := HGv.out.out
        have HAT := Lib.hid hat
        have HGK := Lib.hid hGk
        have hsb := hb.size
        have hgl := row.lt
        have ROW := Lib.hid row
        have HBw := Lib.hid hb
        clear hys hat hGk HGv row hZk
        obtain ⟨bx, ox, ee, hBx, c0⟩ := str_cell (HH.out.to hb) hlt
        obtain ⟨rfl, rfl⟩ : b1 = bx ∧ o1 = ox := by simpa using ee
        have hK : (k : Int) < hs.length := by omega
        have hK0 : (0 : Int) ≤ k := by omega
        clear ee
        by_cases hq : el hs k = nm
        · have HB : Hid (hrB xs nm hs = false) := Lib.hid (by unfold hrB; rw [HCC.out false (noD_name hlt hq)]; rfl)
          have hq2 : (el hs k).toList = nm.toList := ba_iff.2 hq
          clear hq
          go_wp2
          go_ret2
          exact hr_no HB.out (MadeAt.empty (g := _) (fun v => .returned (.tuple #[v, .bool false])) (by first | omega | (simp; omega)) (heap_alloc_new _ _) (by repeat' (first | (with_reducible exact Below.refl _ _) | (with_reducible refine Below.alloc ?_ ?_ _) | (with_reducible refine Below.setCell ?_ ?_ _) | (with_reducible refine Below.drew ?_) | (with_reducible refine Below.trans ?_ (Below.mono (by with_reducible assumption) ?_)) | omega | (simp; done) | (simp; omega))))
        · have hq2 : ((el hs k).toList == nm.toList) = false := ba_beq hq
          have HQ := Lib.hid hq
          clear hq
          go_wp2_with fail
          obtain ⟨wA, rfl⟩ : ∃ wA, wA = wr := ⟨_, rfl⟩
          go_loopw [13] (fun j W => ∃ jj : Nat, jj ≤ k ∧ j = .int .i64 jj ∧ Hid (∀ m, m < jj → el hs m ≠ el hs k) ∧ Below wA.heap.size wA W) (fun j _ => k - (intOf j).toNat)
          case atStart => exact ⟨0, Nat.zero_le _, rfl, Lib.hid (fun m hm => absurd hm (by omega)), Below.refl _ _⟩
          case round =>
            obtain ⟨j, hj, rfl, Hj, hbA⟩ := hrel
            have hsA := hbA.size
            have hbW := HBw.out.trans (hbA.mono hsb)
            have hbl : b1 < wr.heap.size := by omega
            clear c0
            obtain ⟨bx, ox, ee, hBx', c0⟩ := str_cell (HH.out.to hbW) hlt
            obtain ⟨rfl, rfl⟩ : b1 = bx ∧ o1 = ox := by simpa using ee
            clear ee
            by_cases hjk : j < k
            · obtain ⟨bx, ox, ee, hBx2, d0'⟩ := str_cell (HH.out.to hbW) (show j < hs.length by omega)
              obtain ⟨rfl, rfl⟩ : b1 = bx ∧ o1 = ox := by simpa using ee
              have hJ : (j : Int) < k := by omega
              have hJ0 : (0 : Int) ≤ j := by omega
              have hJl : (j : Int) < hs.length := by omega
              clear ee
              by_cases hq : el hs j = el hs k
              · have HB : Hid (hrB xs nm hs = false) := Lib.hid (by unfold hrB; rw [HCC.out false (noD_dup hlt hjk hq)]; rfl)
                have hq3 : (el hs j).toList = (el hs k).toList := ba_iff.2 hq
                clear hq
                go_wp2_with fail
                go_wp2_with fail
                refine wp_region_quiet_below (by kernel_rfl) (by kernel_rfl) ?_
                repeat (go_big_quiet_step (fail))
                (refine wpQuiet_nil ?_; intro w4 hwq; have hb4 := of_cls hwq; clear hwq)
                (have hs4 := hb4.size; (try simp at hs4); obtain ⟨hc4, hf4, hn4⟩ := bcell hb4; (try have hz4_w_0 : w.heap.size < w4.heap.size := by omega); (try have hz4_w_1 : w.heap.size + 1 < w4.heap.size := by omega); (try have hz4_w_2 : w.heap.size + 2 < w4.heap.size := by omega); (try have hz4_w_2b : w.heap.size + 1 + 1 < w4.heap.size := by omega); (try have hz4_w1_0 : w1.heap.size < w4.heap.size := by omega); (try have hz4_w1_1 : w1.heap.size + 1 < w4.heap.size := by omega); (try have hz4_w1_2 : w1.heap.size + 2 < w4.heap.size := by omega); (try have hz4_w1_2b : w1.heap.size + 1 + 1 < w4.heap.size := by omega); (try have hz4_w2_0 : w2.heap.size < w4.heap.size := by omega); (try have hz4_w2_1 : w2.heap.size + 1 < w4.heap.size := by omega); (try have hz4_w2_2 : w2.heap.size + 2 < w4.heap.size := by omega); (try have hz4_w2_2b : w2.heap.size + 1 + 1 < w4.heap.size := by omega); (try have hz4_w3_0 : w3.heap.size < w4.heap.size := by omega); (try have hz4_w3_1 : w3.heap.size + 1 < w4.heap.size := by omega); (try have hz4_w3_2 : w3.heap.size + 2 < w4.heap.size := by omega); (try have hz4_w3_2b : w3.heap.size + 1 + 1 < w4.heap.size := by omega))
                go_wp2
                go_ret2
                exact hr_no HB.out (MadeAt.empty (g := _) (fun v => .returned (.tuple #[v, .bool false])) (by first | omega | (simp; omega)) (heap_alloc_new _ _) (hbW.trans ((show Below wr.heap.size wr _ from (by repeat' (first | (with_reducible exact Below.refl _ _) | (with_reducible refine Below.alloc ?_ ?_ _) | (with_reducible refine Below.setCell ?_ ?_ _) | (with_reducible refine Below.drew ?_) | (with_reducible refine Below.trans ?_ (Below.mono (by with_reducible assumption) ?_)) | omega | (simp; done) | (simp; omega)))).mono (by omega))))
              · have hq3 : ((el hs j).toList == (el hs k).toList) = false := ba_beq hq
                have HQ2 := Lib.hid hq
                clear hq
                go_wp2_with fail
                go_wp2_with fail
                refine wp_region_quiet_below (by kernel_rfl) (by kernel_rfl) ?_
                repeat (go_big_quiet_step (fail))
                (refine wpQuiet_nil ?_; intro w5 hwq; have hb5 := of_cls hwq; clear hwq)
                (have hs5 := hb5.size; (try simp at hs5); obtain ⟨hc5, hf5, hn5⟩ := bcell hb5; (try have hz5_w_0 : w.heap.size < w5.heap.size := by omega); (try have hz5_w_1 : w.heap.size + 1 < w5.heap.size := by omega); (try have hz5_w_2 : w.heap.size + 2 < w5.heap.size := by omega); (try have hz5_w_2b : w.heap.size + 1 + 1 < w5.heap.size := by omega); (try have hz5_w1_0 : w1.heap.size < w5.heap.size := by omega); (try have hz5_w1_1 : w1.heap.size + 1 < w5.heap.size := by omega); (try have hz5_w1_2 : w1.heap.size + 2 < w5.heap.size := by omega); (try have hz5_w1_2b : w1.heap.size + 1 + 1 < w5.heap.size := by omega); (try have hz5_w2_0 : w2.heap.size < w5.heap.size := by omega); (try have hz5_w2_1 : w2.heap.size + 1 < w5.heap.size := by omega); (try have hz5_w2_2 : w2.heap.size + 2 < w5.heap.size := by omega); (try have hz5_w2_2b : w2.heap.size + 1 + 1 < w5.heap.size := by omega); (try have hz5_w3_0 : w3.heap.size < w5.heap.size := by omega); (try have hz5_w3_1 : w3.heap.size + 1 < w5.heap.size := by omega); (try have hz5_w3_2 : w3.heap.size + 2 < w5.heap.size := by omega); (try have hz5_w3_2b : w3.heap.size + 1 + 1 < w5.heap.size := by omega); (try have hz5_w4_0 : w4.heap.size < w5.heap.size := by omega); (try have hz5_w4_1 : w4.heap.size + 1 < w5.heap.size := by omega); (try have hz5_w4_2 : w4.heap.size + 2 < w5.heap.size := by omega); (try have hz5_w4_2b : w4.heap.size + 1 + 1 < w5.heap.size := by omega))
                go_wp2_with fail
                go_roundw
                case rel => exact ⟨j + 1, by omega, by go_num, Lib.hid (fun m hm => by
                  by_cases e : m = j
                  · subst e; exact HQ2.out
                  · exact Hj.out m (by omega)), hbA.trans ((show Below wr.heap.size wr _ from (by repeat' (first | (with_reducible exact Below.refl _ _) | (with_reducible refine Below.alloc ?_ ?_ _) | (with_reducible refine Below.setCell ?_ ?_ _) | (with_reducible refine Below.drew ?_) | (with_reducible refine Below.trans ?_ (Below.mono (by with_reducible assumption) ?_)) | omega | (simp; done) | (simp; omega)))).mono hsA)⟩
                case measure => simp [intOf] <;> omega
            · obtain rfl : j = k := by omega
              have hJ : ¬ (j : Int) < j := by omega
              have HNk : Hid (noD hs nm (j + 1) = true) := Lib.hid (noD_succ.2 ⟨HN.out, HQ.out, Hj.out⟩)
              have hR4 := ROW.out.to hbA
              have hgl4 := hR4.lt
              have HR4 := Lib.hid hR4
              clear hR4
              go_wp2_with fail
              refine (l22Give_any _ cap ys (el hs j) rn rd _ (HR4.out.rdTo Ow.enc_len (by repeat' (first | (with_reducible exact Below.refl _ _) | (with_reducible refine Below.alloc ?_ ?_ _) | (with_reducible refine Below.setCell ?_ ?_ _) | (with_reducible refine Below.drew ?_) | (with_reducible refine Below.trans ?_ (Below.mono (by with_reducible assumption) ?_)) | omega | (simp; done) | (simp; omega)))) (by omega) (fun m _ hs' => by have := HAT.out m Hj.out hs'; exact ⟨⟨⟨by omega, by omega⟩, by omega, by omega⟩, ⟨by omega, by omega⟩, by omega, by omega⟩)).mono ?_
              rintro e w5 ⟨g5, c5, rfl, k51, k52, hg5, row5, hb5⟩
              rw [HGK.out] at k51 row5 ⊢
              have hbw5 : Below w.heap.size w w5 := hbW.trans (hb5.mono hbW.size)
              have HF := Lib.hid (show GivenR w (hG n0 d0 (delL xs i) hs (j + 1)) (.slice (some ⟨g5, 0, none⟩) (hG n0 d0 (delL xs i) hs (j + 1)).length c5) w5 from ⟨g5, c5, rfl, k51, k52, Nat.le_trans hbW.size hg5, row5, hbw5⟩)
              clear k51 row5
              go_wp2
              go_roundw
              case rel => exact ⟨j + 1, by omega, by go_num, HNk, HF⟩
              case measure => simp [intOf] <;> omega
      · obtain rfl : k = hs.length := by omega
        have hK : ¬ ((hs.length : Nat) : Int) < hs.length := by omega
        have HC1 := HCC.out true HN.out
        obtain ⟨ys, hys⟩ : ∃ ys, hG n0 d0 (delL xs i) hs hs.length = ys := ⟨_, rfl⟩
        rw [hys] at HGv hlk hZk HR
        obtain ⟨g, cap, rfl, k1, k2, hgw, row, hb⟩ := HGv.out.out
        have hsb := hb.size
        have hgl := row.lt
        have ROW := Lib.hid row
        have HBw := Lib.hid hb
        clear hys hat hGk HGv row
        cases hG : arB ys
        · have HB : Hid (hrB xs nm hs = false) := Lib.hid (by unfold hrB; rw [HR.out, hG, Bool.and_false])
          go_wp2_with fail
          refine (l22Good_any _ cap ys _ (ROW.out.rdTo Ow.enc_len (by repeat' (first | (with_reducible exact Below.refl _ _) | (with_reducible refine Below.alloc ?_ ?_ _) | (with_reducible refine Below.setCell ?_ ?_ _) | (with_reducible refine Below.drew ?_) | (with_reducible refine Below.trans ?_ (Below.mono (by with_reducible assumption) ?_)) | omega | (simp; done) | (simp; omega)))) (by omega) hZk).mono ?_
          rintro e w6 ⟨rfl, hb6⟩
          have hs6 := hb6.size
          rw [hG]
          go_wp2
          go_ret2
          exact hr_no HB.out (MadeAt.empty (g := _) (fun v => .returned (.tuple #[v, .bool false])) (by first | omega | (simp; omega)) (heap_alloc_new _ _) (by repeat' (first | (with_reducible exact Below.refl _ _) | (with_reducible refine Below.alloc ?_ ?_ _) | (with_reducible refine Below.setCell ?_ ?_ _) | (with_reducible refine Below.drew ?_) | (with_reducible refine Below.trans ?_ (Below.mono (by with_reducible assumption) ?_)) | omega | (simp; done) | (simp; omega))))
        · have HB : Hid (hrB xs nm hs = true) := Lib.hid (by unfold hrB; rw [HR.out, hG, HC1]; rfl)
          go_wp2_with fail
          refine (l22Good_any _ cap ys _ (ROW.out.rdTo Ow.enc_len (by repeat' (first | (with_reducible exact Below.refl _ _) | (with_reducible refine Below.alloc ?_ ?_ _) | (with_reducible refine Below.setCell ?_ ?_ _) | (with_reducible refine Below.drew ?_) | (with_reducible refine Below.trans ?_ (Below.mono (by with_reducible assumption) ?_)) | omega | (simp; done) | (simp; omega)))) (by omega) hZk).mono ?_
          rintro e w6 ⟨rfl, hb6⟩
          have hs6 := hb6.size
          rw [hG]
          go_wp2
          go_ret2
          exact hr_yes HR.out HB.out ⟨_, cap, rfl, OwnAt.row hgw (ROW.out.to hb6), HBw.out.trans (hb6.mono (by omega))⟩
end Go.Proofs.YtimdnihadhbjpaaDoor
