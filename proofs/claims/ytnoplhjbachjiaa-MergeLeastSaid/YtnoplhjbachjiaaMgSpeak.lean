/-
  Merge: the order is the sorted one; the four symbols that 'speaks' asks for.
-/
import Derived.Test.YtnoplhjbachjiaaMgLen2
namespace Go.Proofs.Ytnoplhjbachjiaa.Mg
open Go.ChangeShapes Go.WideShapes Go.ChangeAt Go.RowKit Go.Shelf Go.Proofs
set_option linter.unusedVariables false
set_option linter.unusedSimpArgs false

/-- Not behind. -/
def leU (cs : List Int) (x y : Pl cs.length) : Bool := !(ltOf (cfU cs)) y x
theorem leU_iff (cs : List Int) (x y : Pl cs.length) : leU cs x y = true ↔ ct cs x.1 < ct cs y.1 ∨ (ct cs x.1 = ct cs y.1 ∧ y.1 ≤ x.1) := by
  unfold leU
  rw [cf_neg, Bool.not_eq_true', decide_eq_false_iff_not]
  omega

theorem usedL_perm (cs : List Int) : (usedL cs).Perm (idxTo cs cs.length) := List.mergeSort_perm _ _
theorem usedL_sorted (cs : List Int) : (usedL cs).Pairwise (fun x y => leU cs x y = true) := by
  refine List.pairwise_mergeSort (le := leU cs) ?_ ?_ _
  · intro a b c h1 h2
    rw [leU_iff] at *
    omega
  · intro a b
    rw [Bool.or_eq_true, leU_iff, leU_iff]
    omega
theorem usedL_eq (cs : List Int) (l : List (Pl cs.length)) (hp : l.Perm (idxTo cs cs.length)) (hs : l.Pairwise (fun x y => leU cs x y = true)) : usedL cs = l := by
  refine List.Perm.eq_of_pairwise (le := fun x y => leU cs x y = true) ?_ (usedL_sorted cs) hs ((usedL_perm cs).trans hp.symm)
  intro a b _ _ h1 h2
  rw [leU_iff] at *
  exact Subtype.ext (by omega)

theorem usedL4 : usedL [1, 1, 2, 4] = [⟨1, by decide⟩, ⟨0, by decide⟩, ⟨2, by decide⟩, ⟨3, by decide⟩] := by
  refine usedL_eq _ _ ?_ ?_
  · have h : (idxTo [1, 1, 2, 4] ([1, 1, 2, 4] : List Int).length) = ([⟨0, by decide⟩, ⟨1, by decide⟩, ⟨2, by decide⟩, ⟨3, by decide⟩] : List (Pl ([1, 1, 2, 4] : List Int).length)) := rfl
    rw [h]
    decide
  · simp only [List.pairwise_cons, leU_iff]
    decide
theorem ord4 : ordP [1, 1, 2, 4] = [1, 0, 2, 3] := by
  unfold ordP
  rw [usedL4]
  rfl
theorem leaves4 : leavesP [1, 1, 2, 4] = [(1, [0]), (1, [1]), (2, [2]), (4, [3])] := by
  unfold leavesP
  rw [ord4]
  rfl
theorem level4 : levelP [1, 1, 2, 4] 2 = [(1, [0]), (1, [1]), (2, [2]), (2, [0, 1]), (4, [3]), (4, [2, 0, 1]), (10, [3, 2, 3])] := by
  show joinP (leavesP _) (pairsP (joinP (leavesP _) (pairsP (leavesP _)))) = _
  rw [leaves4]
  simp [joinP, pairsP, leP, List.merge]
theorem lens4 : lensP [1, 1, 2, 4] 3 = [3, 3, 2, 1] := by
  unfold lensP takenP
  have h : (usedL [1, 1, 2, 4]).length = 4 := by rw [usedL4]; rfl
  rw [h, if_neg (by decide), show ((3 : Int).toNat - 1) = 2 from rfl, level4, ord4]
  rfl

/-- The cost of symbols. -/
def costP : List Int → List Int → Int
  | c :: cs, l :: ls => c * l + costP cs ls
  | _, _ => 0
def costTo (cs ls : List Int) (k : Nat) : Int := costP (cs.take k) (ls.take k)
theorem costP_snoc : ∀ (cs ls : List Int) (c l : Int), cs.length = ls.length → costP (cs ++ [c]) (ls ++ [l]) = costP cs ls + c * l
  | [], [], c, l, _ => by simp [costP]
  | [], _ :: _, c, l, h => by cases h
  | _ :: _, [], c, l, h => by cases h
  | a :: cs, b :: ls, c, l, h => by
    have := costP_snoc cs ls c l (by simpa using h)
    simp only [List.cons_append, costP, this]
    omega
theorem costTo_succ (cs ls : List Int) (k : Nat) (h1 : k < cs.length) (h2 : k < ls.length) : costTo cs ls (k + 1) = costTo cs ls k + cs[k] * ls[k] := by
  unfold costTo
  rw [List.take_succ_eq_append_getElem h1, List.take_succ_eq_append_getElem h2, costP_snoc]
  rw [List.length_take, List.length_take]
  omega
theorem costTo_all (cs ls : List Int) (h : cs.length = ls.length) : costTo cs ls cs.length = costP cs ls := by
  unfold costTo
  rw [List.take_length, h, List.take_length]
theorem costTo_bound (cs ls : List Int) (hc : ∀ x ∈ cs, 0 ≤ x ∧ x ≤ 1099511627776) (hl : ∀ x ∈ ls, 0 ≤ x ∧ x ≤ 100) (hn : cs.length = ls.length) : ∀ k, k ≤ cs.length → 0 ≤ costTo cs ls k ∧ costTo cs ls k ≤ k * 109951162777600
  | 0, _ => by simp [costTo, costP]
  | k + 1, h => by
    have h1 := costTo_bound cs ls hc hl hn k (by omega)
    rw [costTo_succ cs ls k (by omega) (by omega)]
    have h2 := hc cs[k] (List.getElem_mem _)
    have h3 := hl ls[k] (List.getElem_mem _)
    have h4 : 0 ≤ cs[k] * ls[k] := Int.mul_nonneg h2.1 h3.1
    have h5 : cs[k] * ls[k] ≤ 1099511627776 * 100 := Int.mul_le_mul h2.2 h3.2 h3.1 (by omega)
    omega

end Go.Proofs.Ytnoplhjbachjiaa.Mg
