/-
  Names: goodB is the library's validity and the absence of odd signs; plain, without Go.
-/
import Derived.Test.YtehhoigedniglaaDoorNmSign
import Derived.Lib.ValidU
import Derived.Shelf.GgClosure.StringsIndexFunc
namespace Go.Proofs.YtehhoigedniglaaDoor.Nm
open Go

theorem get_drop (s : ByteArray) (i k : Nat) : (⟨(s.data.toList.drop i).toArray⟩ : ByteArray).get! (0 + k) = s.get! (i + k) := by
  show (s.data.toList.drop i).toArray[0 + k]! = s.data[i + k]!
  rw [Nat.zero_add]
  simp only [getElem!_def]
  rw [List.getElem?_toArray, List.getElem?_drop, Array.getElem?_toList]

theorem size_drop (s : ByteArray) (i : Nat) : (⟨(s.data.toList.drop i).toArray⟩ : ByteArray).size = s.size - i := by
  show (s.data.toList.drop i).toArray.size = _
  rw [List.size_toArray, List.length_drop]
  rfl

theorem dec_drop (s : ByteArray) (i : Nat) : Lib.decodeL (s.data.toList.drop i) = Utf8.decode s i := by
  unfold Lib.decodeL Utf8.decode
  have hc : ∀ k, decide (0 + k < (⟨(s.data.toList.drop i).toArray⟩ : ByteArray).size) = decide (i + k < s.size) := fun k => by
    rw [size_drop, Bool.eq_iff_iff, decide_eq_true_eq, decide_eq_true_eq]
    omega
  simp only [get_drop, hc]

theorem good_split (s : ByteArray) : ∀ (f i : Nat), goodGo f s i = (Lib.validGoD f (s.data.toList.drop i) && decide (Lib.idxFuncFrom oddR true s f i = -1))
  | 0, i => by simp [goodGo, Lib.validGoD, Lib.idxFuncFrom]
  | f + 1, i => by
    unfold goodGo Lib.validGoD Lib.idxFuncFrom
    by_cases hi : i < s.size
    · have hne : s.data.toList.drop i ≠ [] := by
        intro h
        have := congrArg List.length h
        rw [List.length_drop] at this
        have h2 : s.data.toList.length = s.size := rfl
        simp only [List.length_nil] at this
        omega
      rw [if_pos hi, if_neg hne, if_pos hi, dec_drop]
      unfold okSign
      by_cases ho : oddR (Utf8.decode s i).1 = true
      · simp only [ho, if_true]
        have : ((i : Int) = -1) = False := by
          apply propext
          constructor
          · intro h; omega
          · exact False.elim
        simp [this]
      · by_cases hb : Utf8.decode s i = (65533, 1)
        · have h1 : (Utf8.decode s i).1 = 65533 ∧ (Utf8.decode s i).2 = 1 := by rw [hb]; exact ⟨rfl, rfl⟩
          rw [if_pos h1]
          simp [hb]
        · have h1 : ¬ ((Utf8.decode s i).1 = 65533 ∧ (Utf8.decode s i).2 = 1) := fun h => hb (Prod.ext h.1 h.2)
          rw [if_neg h1, if_neg ho, List.drop_drop]
          simp only [hb, decide_false, Bool.not_false, Bool.true_and]
          have ho' : oddR (Utf8.decode s i).1 = false := by simpa using ho
          rw [ho']
          simp only [Bool.not_false, if_true]
          rw [good_split s f]
    · rw [if_neg hi, if_neg hi]
      have hn : s.data.toList.drop i = [] := by
        apply List.drop_eq_nil_of_le
        have h2 : s.data.toList.length = s.size := rfl
        omega
      rw [if_pos hn]
      rfl

theorem good_iff (s : ByteArray) : goodB s = (Lib.validD s.data.toList && !decide (0 ≤ Lib.idxFunc oddR true s)) := by
  unfold goodB Lib.validD Lib.idxFunc
  have h2 : s.data.toList.length = s.size := rfl
  rw [good_split, h2, List.drop_zero]
  congr 1
  have := Lib.idxFuncFrom_range oddR true s s.size 0
  rw [Bool.eq_iff_iff]
  simp only [decide_eq_true_eq, Bool.not_eq_true', decide_eq_false_iff_not]
  omega

end Go.Proofs.YtehhoigedniglaaDoor.Nm
