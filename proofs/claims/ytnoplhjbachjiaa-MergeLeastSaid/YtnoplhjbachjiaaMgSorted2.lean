/-
  The reference's sorted in plain words: the leaves' counts, the greatest first.
-/
import Derived.Test.YtnoplhjbachjiaaMgSorted
import Derived.Test.YtnoplhjbachjiaaMgTable3
namespace Go.Proofs.Ytnoplhjbachjiaa.Mg
set_option linter.unusedVariables false
set_option linter.unusedSimpArgs false

abbrev Desc (l : List Int) : Prop := l.Pairwise (fun a b => b ≤ a)
theorem insD_split (x : Int) (l : List Int) : insD x l = l.takeWhile (fun y => decide (x ≤ y)) ++ (x :: l.dropWhile (fun y => decide (x ≤ y))) := by
  unfold insD placeD
  have h := List.takeWhile_append_dropWhile (p := fun y => decide (x ≤ y)) (l := l)
  have h1 : l.take (l.takeWhile (fun y => decide (x ≤ y))).length = l.takeWhile (fun y => decide (x ≤ y)) := by
    conv => lhs; rw [← h]
    rw [List.take_left' (by rw [h])]
  have h2 : l.drop (l.takeWhile (fun y => decide (x ≤ y))).length = l.dropWhile (fun y => decide (x ≤ y)) := by
    conv => lhs; rw [← h]
    rw [List.drop_left' (by rw [h])]
  rw [h1, h2]
  rfl
theorem insD_perm (x : Int) (l : List Int) : (insD x l).Perm (x :: l) := by
  rw [insD_split]
  refine List.perm_middle.trans (List.Perm.cons x ?_)
  rw [List.takeWhile_append_dropWhile]
theorem insD_desc (x : Int) : ∀ (l : List Int), Desc l → Desc (insD x l)
  | [], _ => by rw [insD_split]; simp
  | a :: r, h => by
    have h1 := List.pairwise_cons.1 h
    have ih := insD_desc x r h1.2
    rw [insD_split] at ih ⊢
    by_cases hx : x ≤ a
    · have e1 : (a :: r).takeWhile (fun y => decide (x ≤ y)) = a :: r.takeWhile (fun y => decide (x ≤ y)) := by simp [hx]
      have e2 : (a :: r).dropWhile (fun y => decide (x ≤ y)) = r.dropWhile (fun y => decide (x ≤ y)) := by simp [hx]
      rw [e1, e2, List.cons_append]
      refine List.pairwise_cons.2 ⟨fun b hb => ?_, ih⟩
      rw [← insD_split] at hb
      rcases List.mem_cons.1 ((insD_perm x r).mem_iff.1 hb) with rfl | hb
      · exact hx
      · exact h1.1 b hb
    · have e1 : (a :: r).takeWhile (fun y => decide (x ≤ y)) = [] := by simp [hx]
      have e2 : (a :: r).dropWhile (fun y => decide (x ≤ y)) = a :: r := by simp [hx]
      rw [e1, e2]
      refine List.pairwise_cons.2 ⟨fun b hb => ?_, h⟩
      rcases List.mem_cons.1 hb with rfl | hb
      · omega
      · have := h1.1 b hb
        omega
theorem srtTo_desc (cs : List Int) : ∀ k, Desc (srtTo cs k)
  | 0 => List.Pairwise.nil
  | k + 1 => by
    unfold srtTo
    split
    · exact srtTo_desc cs k
    · exact insD_desc _ _ (srtTo_desc cs k)
theorem srtTo_perm (cs : List Int) (hc : ∀ x ∈ cs, 0 ≤ x) : ∀ k, k ≤ cs.length → (srtTo cs k).Perm ((posL cs k).map (fun s => cs.getD s 0))
  | 0, _ => List.Perm.refl _
  | k + 1, h => by
    have ih := srtTo_perm cs hc k (by omega)
    have e : cs.getD k 0 = cs[k] := getD_get _ k (by omega) 0
    have hk := hc cs[k] (List.getElem_mem _)
    unfold srtTo
    rw [posL_succ cs k (by omega)]
    split
    · rename_i hz
      rw [if_neg (by omega)]
      exact ih
    · rename_i hz
      rw [if_pos (by omega), List.map_append]
      refine (insD_perm _ _).trans ((List.Perm.cons _ ih).trans ?_)
      exact (List.perm_append_singleton _ _).symm

theorem srt_eq (cs : List Int) (hc : ∀ x ∈ cs, 0 ≤ x) : srtTo cs cs.length = ((leavesP cs).map (·.1)).reverse := by
  refine List.Perm.eq_of_pairwise (le := fun a b => b ≤ a) (fun a b _ _ h1 h2 => by omega) (srtTo_desc cs _) ?_ ?_
  · rw [List.pairwise_reverse]
    exact (leavesP_sorted cs).map _ (fun a b h => h)
  · refine (srtTo_perm cs hc _ (Nat.le_refl _)).trans ?_
    have e : (leavesP cs).map (·.1) = (ordP cs).map (fun s => cs.getD s 0) := by
      unfold leavesP
      apply List.ext_getElem?
      intro i
      simp only [List.getElem?_map, List.getElem?_mapIdx]
      rcases (ordP cs)[i]? <;> rfl
    rw [e]
    exact ((ordP_perm cs).symm.map _).trans (List.reverse_perm _).symm

theorem srt_len (cs : List Int) (hc : ∀ x ∈ cs, 0 ≤ x) : (srtTo cs cs.length).length = (usedL cs).length := by
  rw [srt_eq cs hc, List.length_reverse, List.length_map, leavesP_len]
/-- What has no word yet. -/
theorem srt_rest (cs : List Int) (hc : ∀ x ∈ cs, 0 ≤ x) (i : Nat) (h : i ≤ (usedL cs).length) : ((srtTo cs cs.length).drop i).sum = pre (leavesP cs) ((usedL cs).length - i) := by
  rw [srt_eq cs hc, List.drop_reverse, perm_sum (List.reverse_perm _)]
  unfold pre
  rw [List.map_take, List.length_map, leavesP_len]

end Go.Proofs.Ytnoplhjbachjiaa.Mg
