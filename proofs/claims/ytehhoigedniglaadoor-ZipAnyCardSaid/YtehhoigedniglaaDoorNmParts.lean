/-
  Names: a text's parts between slashes; plain lemmas without Go.
-/
import Derived.Test.YtehhoigedniglaaDoorNmSign
import Derived.Lib.Strings
namespace Go.Proofs.YtehhoigedniglaaDoor.Nm
open Go

/-- May a part be in a name? -/
def goodPart (p : List UInt8) : Bool := !(p == []) && !(p == [46]) && !(p == [46, 46])

/-- The parts of a text, the first of which has begun. -/
def splitGo : List UInt8 → List UInt8 → List (List UInt8)
  | cur, [] => [cur]
  | cur, c :: t => if c = 47 then cur :: splitGo [] t else splitGo (cur ++ [c]) t

def parts (l : List UInt8) : List (List UInt8) := splitGo [] l

def chk (cur l : List UInt8) : Bool := (splitGo cur l).all goodPart

theorem chk_nil (cur : List UInt8) : chk cur [] = goodPart cur := by simp [chk, splitGo]
theorem chk_slash (cur t : List UInt8) : chk cur (47 :: t) = (goodPart cur && chk [] t) := by simp [chk, splitGo]
theorem chk_other (cur t : List UInt8) (c : UInt8) (h : c ≠ 47) : chk cur (c :: t) = chk (cur ++ [c]) t := by simp [chk, splitGo, h]

/-- May a text be a name? -/
def checkB (s : ByteArray) : Bool := decide (1 ≤ s.size) && decide (s.size ≤ 65535) && goodB s && chk [] s.toList

theorem drop_at (s : ByteArray) (k : Nat) (h : k < s.size) : s.toList.drop k = s[k] :: s.toList.drop (k + 1) := by
  rw [Lib.toList_data]
  rw [List.drop_eq_getElem_cons (by simpa using h)]
  rfl

theorem size_toList (s : ByteArray) : s.toList.length = s.size := by
  rw [Lib.toList_data]
  rfl

theorem drop_end (s : ByteArray) (k : Nat) (h : s.size ≤ k) : s.toList.drop k = [] := by
  apply List.drop_eq_nil_of_le
  rw [size_toList]
  exact h

theorem push_one (c s : ByteArray) (k : Nat) (h : k < s.size) : (c ++ s.extract k (k + 1)).toList = c.toList ++ [s[k]] ∧ (c ++ s.extract k (k + 1)).size = c.size + 1 := by
  have h' : k < s.data.toList.length := by simpa using h
  constructor
  · rw [Lib.toList_data, Lib.toList_data, ByteArray.data_append, Array.toList_append, ByteArray.data_extract, Array.toList_extract]
    congr 1
    rw [List.extract_eq_take_drop]
    rw [List.drop_eq_getElem_cons h']
    simp
    rfl
  · rw [ByteArray.size_append, ByteArray.size_extract]
    omega

theorem emp_toList : (⟨#[]⟩ : ByteArray).toList = [] := by rw [Lib.toList_data]
theorem emp_size : (⟨#[]⟩ : ByteArray).size = 0 := rfl

theorem bad_part (p : List UInt8) (h : ¬ goodPart p = true) : (p.isEmpty = true ∧ (p == []) = true) ∨ (p.isEmpty = false ∧ (p == []) = false ∧ (p == [46]) = true) ∨ (p.isEmpty = false ∧ (p == []) = false ∧ (p == [46]) = false ∧ (p == [46, 46]) = true) := by
  unfold goodPart at h
  by_cases h1 : p = []
  · subst h1; exact .inl ⟨rfl, rfl⟩
  · by_cases h2 : p = [46]
    · subst h2; exact .inr (.inl ⟨rfl, rfl, rfl⟩)
    · by_cases h3 : p = [46, 46]
      · subst h3; exact .inr (.inr ⟨rfl, rfl, rfl, rfl⟩)
      · exact absurd (by simp [h1, h2, h3]) h

theorem good_part {p : List UInt8} (h : goodPart p = true) : p.isEmpty = false ∧ (p == []) = false ∧ (p == [46]) = false ∧ (p == [46, 46]) = false := by
  simp only [goodPart, Bool.and_eq_true, Bool.not_eq_true'] at h
  exact ⟨by simpa using h.1.1, h.1.1, h.1.2, h.2⟩

end Go.Proofs.YtehhoigedniglaaDoor.Nm
