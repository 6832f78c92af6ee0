/- Words: one to ten letters (chapter 2). -/
import Derived.Test.YtocaodoagiokjaaDoorLeaf
import Derived.Test.YtocaodoagiokjaaDoorShelf
import Derived.Shelf.Strings.SlTrimAscii
import Derived.Lib.Hide
set_option linter.unusedSimpArgs false
set_option linter.unusedVariables false
namespace Go.Proofs.YtocaodoagiokjaaDoor
open Go.RowKit Go.Sort Go.Salt
attribute [local go_sem] cell_rg
def ltB (b : UInt8) : Bool := decide (97 ≤ b.toNat) && decide (b.toNat ≤ 122)
def wdB (s : ByteArray) : Bool := inB s.size 1 10 && s.data.toList.all ltB
/-- The letters. -/
def abc : ByteArray := ⟨#[97, 98, 99, 100, 101, 102, 103, 104, 105, 106, 107, 108, 109, 110, 111, 112, 113, 114, 115, 116, 117, 118, 119, 120, 121, 122]⟩
theorem abc_lt (b : UInt8) : (abc.data.toList.contains b) = ltB b := by
  have : ∀ n : Fin 256, (abc.data.toList.contains (UInt8.ofNat n.val)) = ltB (UInt8.ofNat n.val) := by decide +kernel
  have h := this ⟨b.toNat, b.toNat_lt⟩
  simpa using h
theorem dw_nil {α : Type} (p : α → Bool) : ∀ l : List α, l.dropWhile p = [] ↔ l.all p = true
  | [] => by simp
  | x :: l => by
    rw [List.dropWhile_cons, List.all_cons]
    cases h : p x
    · simp
    · simpa using dw_nil p l
theorem dw_head {α : Type} (p : α → Bool) : ∀ (l : List α) (x : α) (t : List α), l.dropWhile p = x :: t → p x = false
  | [], x, t, h => by simp at h
  | y :: l, x, t, h => by
    rw [List.dropWhile_cons] at h
    cases hy : p y
    · rw [hy] at h; simp at h; rw [← h.1]; exact hy
    · rw [hy] at h; simp at h; exact dw_head p l x t h
theorem trim_abc (l : List UInt8) : Lib.trimS l abc.data.toList = [] ↔ l.all ltB = true := by
  have e : (fun b => abc.data.toList.contains b) = ltB := funext abc_lt
  unfold Lib.trimS Lib.trimLeftS Lib.trimRightS
  rw [e, dw_nil]
  constructor
  · intro h
    have h1 : l.reverse.dropWhile ltB = [] := by
      cases hq : l.reverse.dropWhile ltB with
      | nil => rfl
      | cons x t =>
        have h2 := dw_head ltB _ _ _ hq
        rw [hq, List.all_reverse, List.all_cons, h2] at h
        cases h
    rw [dw_nil, List.all_reverse] at h1
    exact h1
  · intro h
    have h1 : l.reverse.dropWhile ltB = [] := by rw [dw_nil, List.all_reverse]; exact h
    rw [h1]; rfl
theorem ba_list (t : ByteArray) : t.toList = t.data.toList := by first | exact Lib.toList_data t | exact ByteArray.toList_eq t
theorem ba_nil {t : ByteArray} (h : t.toList = []) : t = ⟨#[]⟩ := by
  rw [ba_list] at h
  obtain ⟨⟨l⟩⟩ := t
  simp at h; subst h; rfl
theorem wd_no {s : ByteArray} {k : Nat} (h : k < s.size) (hn : ltB s[k] = false) : wdB s = false := by
  have : s.data.toList.all ltB = false := by
    rw [List.all_eq_false]
    exact ⟨s[k], by
      have : s[k] = s.data.toList[k]'(by simpa using h) := by simp; rfl
      rw [this]; exact List.getElem_mem _, by simpa using hn⟩
  unfold wdB; rw [this, Bool.and_false]
theorem wd_all {s : ByteArray} (h : ∀ j, (hj : j < s.size) → j < s.size → ltB s[j] = true) : wdB s = inB s.size 1 10 := by
  have : s.data.toList.all ltB = true := by
    rw [List.all_eq_true]
    intro x hx
    obtain ⟨j, hj, rfl⟩ := List.mem_iff_getElem.1 hx
    exact h j (by simpa using hj) (by simpa using hj)
  unfold wdB; rw [this, Bool.and_true]
theorem bytes_nil {l : List UInt8} : ((⟨l.toArray⟩ : ByteArray) = ⟨#[]⟩) ↔ l = [] := by
  constructor
  · intro h
    have := congrArg (fun b => b.data.toList) h
    simpa using this
  · rintro rfl; rfl
end Go.Proofs.YtocaodoagiokjaaDoor
