/-
  Names: cleaning a text, part by part; plain lemmas without Go.
-/
import Derived.Test.YtndfffningdcgaaDoorNmSplit
import Derived.Lib.Join
namespace Go.Proofs.YtndfffningdcgaaDoor.Nm
open Go

def cleanStep (out : List (List UInt8)) (p : List UInt8) : Option (List (List UInt8)) :=
  if p = [46, 46] then (if out = [] then none else some out.dropLast) else if p = [] ∨ p = [46] then some out else some (out ++ [p])

def cleanGo : List (List UInt8) → List (List UInt8) → Option (List (List UInt8))
  | [], out => some out
  | p :: r, out => (cleanStep out p).bind fun o => cleanGo r o

def joined (out : List (List UInt8)) : List UInt8 := Lib.join out [47]
def mkS (l : List UInt8) : ByteArray := ⟨l.toArray⟩

/-- A text as a name, where it can be one. -/
def cleanB (s : ByteArray) : Option ByteArray :=
  (cleanGo (parts s.toList) []).bind fun out => if checkB (mkS (joined out)) then some (mkS (joined out)) else none

theorem mkS_toList (l : List UInt8) : (mkS l).toList = l := by
  unfold mkS
  rw [Lib.toList_data]
theorem mkS_of (s : ByteArray) : mkS s.toList = s := of_toList s
theorem mkS_size (l : List UInt8) : (mkS l).size = l.length := by
  rw [← size_toList, mkS_toList]

theorem joined_nil : joined [] = [] := rfl
theorem joined_one (x : List UInt8) : joined [x] = x := Lib.join_one x _
theorem joined_cons (x : List UInt8) (r : List (List UInt8)) (h : r ≠ []) : joined (x :: r) = x ++ 47 :: joined r := by
  cases r with
  | nil => exact absurd rfl h
  | cons y r => simp [joined, Lib.join, List.intercalate, List.intersperse]
theorem joined_snoc (l : List (List UInt8)) (x : List UInt8) (h : l ≠ []) : joined (l ++ [x]) = joined l ++ 47 :: x := by
  induction l with
  | nil => exact absurd rfl h
  | cons y l ih =>
    cases l with
    | nil => rw [List.singleton_append, joined_cons _ _ (by simp), joined_one, joined_one]
    | cons z l =>
      rw [List.cons_append, joined_cons _ _ (by simp), joined_cons y (z :: l) (by simp), ih (by simp)]
      simp

theorem splitGo_ne (l : List UInt8) : ∀ cur, splitGo cur l ≠ [] := by
  induction l with
  | nil => intro cur; simp [splitGo]
  | cons c t ih =>
    intro cur
    unfold splitGo
    split
    · simp
    · exact ih _

theorem joined_splitGo (l : List UInt8) : ∀ cur, joined (splitGo cur l) = cur ++ l := by
  induction l with
  | nil => intro cur; simp [splitGo, joined_one]
  | cons c t ih =>
    intro cur
    unfold splitGo
    split
    · rename_i h
      subst h
      rw [joined_cons _ _ (splitGo_ne _ _), ih]
      simp
    · rw [ih]
      simp

theorem joined_parts (l : List UInt8) : joined (parts l) = l := joined_splitGo l []

theorem good_step (out : List (List UInt8)) (p : List UInt8) (h : goodPart p = true) : cleanStep out p = some (out ++ [p]) := by
  obtain ⟨_, g1, g2, g3⟩ := good_part h
  have n1 : p ≠ [] := by simpa using g1
  have n2 : p ≠ [46] := by simpa using g2
  have n3 : p ≠ [46, 46] := by simpa using g3
  unfold cleanStep
  rw [if_neg n3, if_neg (by simp [n1, n2])]

theorem cleanGo_good (ps : List (List UInt8)) : ∀ out, ps.all goodPart = true → cleanGo ps out = some (out ++ ps) := by
  induction ps with
  | nil => intro out _; simp [cleanGo]
  | cons p r ih =>
    intro out h
    simp only [List.all_cons, Bool.and_eq_true] at h
    unfold cleanGo
    rw [good_step out p h.1, Option.bind_some, ih _ h.2]
    simp

/-- A name is clean. -/
theorem clean_again (t : ByteArray) (h : checkB t = true) : cleanB t = some t := by
  have hg : (parts t.toList).all goodPart = true := by
    unfold checkB at h
    simp only [Bool.and_eq_true] at h
    exact h.2
  unfold cleanB
  rw [cleanGo_good _ [] hg]
  simp only [List.nil_append, Option.bind_some, joined_parts, mkS_of, h, if_true]

def tot : List (List UInt8) → Nat
  | [] => 0
  | p :: r => p.length + 1 + tot r
theorem tot_append (a b : List (List UInt8)) : tot (a ++ b) = tot a + tot b := by
  induction a with
  | nil => simp [tot]
  | cons x a ih => simp [tot, ih]; omega
theorem tot_dropLast (a : List (List UInt8)) : tot a.dropLast ≤ tot a := by
  rcases List.eq_nil_or_concat a with rfl | ⟨l, x, rfl⟩
  · exact Nat.le_refl _
  · simp [tot_append]
theorem len_tot (a : List (List UInt8)) : a.length ≤ tot a := by
  induction a with
  | nil => exact Nat.le_refl _
  | cons x a ih => simp [tot]; omega
theorem joined_tot (a : List (List UInt8)) : (joined a).length ≤ tot a := by
  induction a with
  | nil => exact Nat.le_refl _
  | cons x a ih =>
    cases a with
    | nil => rw [joined_one]; simp [tot]
    | cons y a =>
      rw [joined_cons _ _ (by simp)]
      simp only [List.length_append, List.length_cons]
      simp only [tot] at ih ⊢
      omega
theorem tot_split (l : List UInt8) : ∀ cur, tot (splitGo cur l) = cur.length + l.length + 1 := by
  induction l with
  | nil => intro cur; simp [splitGo, tot]
  | cons c t ih =>
    intro cur
    unfold splitGo
    split
    · simp [tot, ih]; omega
    · rw [ih]; simp; omega
theorem tot_step (out o : List (List UInt8)) (p : List UInt8) (h : cleanStep out p = some o) : tot o ≤ tot out + p.length + 1 := by
  unfold cleanStep at h
  split at h
  · split at h
    · cases h
    · cases h
      have := tot_dropLast out
      omega
  · split at h
    · cases h; omega
    · cases h
      rw [tot_append]
      simp [tot]
      omega

end Go.Proofs.YtndfffningdcgaaDoor.Nm
