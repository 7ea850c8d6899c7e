/-
  What the readers answer for any text, in three ways: plain.
-/
import Derived.Test.YtehhoigedniglaaDoorZpSize
import Derived.Test.YtehhoigedniglaaDoorZpSizesLaw
namespace Go.Proofs.YtehhoigedniglaaDoor.Zp
open Go.RowKit Go.Shelf Go.Proofs.YtehhoigedniglaaDoor.Nm
set_option linter.unusedVariables false
set_option linter.unusedSimpArgs false

theorem prefix_extract {s t : ByteArray} (h : Lib.hasPrefix s.data.toList t.data.toList = true) : t = s.extract 0 t.size ∧ t.size ≤ s.size := by
  have hl : s.data.toList.length = s.size := rfl
  have ht : t.data.toList.length = t.size := rfl
  unfold Lib.hasPrefix at h
  rw [List.isPrefixOf_iff_prefix] at h
  refine ⟨?_, by rw [← hl, ← ht]; exact h.length_le⟩
  apply ByteArray.ext
  apply Array.toList_inj.1
  rw [extract_take0, ← ht]
  exact List.prefix_iff_eq_take.1 h

theorem read_ways (F : Form) (s : ByteArray) (hz : 0 < F.size) :
    (∃ k : Nat, 0 < k ∧ k ≤ s.size ∧ (readG F s).2 = (k : Int) ∧ sizeG F s = (k : Int) ∧ F.str (readG F s).1 = s.extract 0 k ∧ (s.extract 0 k).size = k ∧ (readG F s).1 = toldH F s) ∨
    ((readG F s).1 = zeroH ∧ (readG F s).2 = 0 ∧ sizeG F s = 0) ∨ ((readG F s).1 = zeroH ∧ (readG F s).2 = -1 ∧ (sizeG F s == 0) = false) := by
  by_cases h : sgnB s F.sign = false
  · right; right
    rw [readG_sign h]
    unfold sizeG
    rw [if_pos h]
    exact ⟨rfl, rfl, rfl⟩
  · have h1 : sgnB s F.sign = true := by simpa using h
    by_cases h2 : s.size < F.size ∨ s.size < F.size + nameN F s + extraN F s
    · right; left
      rw [readG_short h1 h2]
      unfold sizeG
      rw [if_neg h, if_pos h2]
      exact ⟨rfl, rfl, rfl⟩
    · have hS : sizeG F s = ((F.size + nameN F s + extraN F s : Nat) : Int) := by
        unfold sizeG
        rw [if_neg h, if_neg h2]
      have hS0 : (sizeG F s == 0) = false := by
        rw [hS, beq_eq_false_iff_ne]
        omega
      cases h3 : tgood (rawT s F.flags) with
      | false => right; right; rw [readG_tell h1 h2 h3]; exact ⟨rfl, rfl, hS0⟩
      | true =>
        by_cases h4 : (wantS F s).size = 0 ∨ (wantS F s).size ≠ F.size + nameN F s + extraN F s ∨ Lib.hasPrefix s.data.toList (wantS F s).data.toList = false
        · right; right; rw [readG_not h1 h2 h3 h4]; exact ⟨rfl, rfl, hS0⟩
        · left
          rw [readG_yes h1 h2 h3 h4]
          simp only [not_or, Bool.not_eq_false, Decidable.not_not] at h4
          obtain ⟨a, b, c⟩ := h4
          obtain ⟨d, e⟩ := prefix_extract c
          refine ⟨(wantS F s).size, by omega, e, rfl, by rw [hS, b], d, by rw [← d], rfl⟩

theorem cenS_good {h : Hd} (hs : 0 < (cenS h).size) : goodH h = true := by
  cases hg : goodH h with
  | true => rfl
  | false => rw [cenS_not hg] at hs; exact absurd hs (by decide)
end Go.Proofs.YtehhoigedniglaaDoor.Zp
