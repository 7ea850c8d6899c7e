/-
  Merge, plain law: what the lengths cost is what the taken packages cost; so no wider levels cost less.
-/
import Derived.Test.YtnoplhjbachjiaaMgBest
namespace Go.Proofs.Ytnoplhjbachjiaa.Mg
set_option linter.unusedVariables false
set_option linter.unusedSimpArgs false

def sumZ (f : Nat → Int) : Nat → Int
  | 0 => 0
  | n + 1 => sumZ f n + f n
theorem sumZ_congr {f g : Nat → Int} : ∀ n, (∀ i, i < n → f i = g i) → sumZ f n = sumZ g n
  | 0, _ => rfl
  | n + 1, h => by
    rw [sumZ, sumZ, sumZ_congr n (fun i hi => h i (by omega)), h n (by omega)]
theorem sumZ_add (f g : Nat → Int) : ∀ n, sumZ (fun i => f i + g i) n = sumZ f n + sumZ g n
  | 0 => rfl
  | n + 1 => by
    rw [sumZ, sumZ, sumZ, sumZ_add f g n]
    omega
theorem sumZ_zero : ∀ n, sumZ (fun _ => 0) n = 0
  | 0 => rfl
  | n + 1 => by rw [sumZ, sumZ_zero n]; rfl
theorem sumZ_pick (f : Nat → Int) (k : Nat) : ∀ n, sumZ (fun i => if k = i then f i else 0) n = if k < n then f k else 0
  | 0 => rfl
  | n + 1 => by
    rw [sumZ, sumZ_pick f k n]
    by_cases h : k = n
    · subst h
      rw [if_neg (by omega), if_pos rfl, if_pos (by omega)]
      omega
    · rw [if_neg h]
      by_cases h2 : k < n
      · rw [if_pos h2, if_pos (by omega)]; omega
      · rw [if_neg h2, if_neg (by omega)]; rfl

theorem perm_sum {a b : List Int} (h : a.Perm b) : a.sum = b.sum := by
  induction h with
  | nil => rfl
  | cons x _ ih => rw [List.sum_cons, List.sum_cons, ih]
  | swap x y l => simp only [List.sum_cons]; omega
  | trans _ _ h1 h2 => exact h1.trans h2

/-- What the symbol at a place of the order counts. -/
def wt (cs : List Int) (i : Nat) : Int := cs.getD ((ordP cs).getD i 0) 0

theorem leavesP_wt (cs : List Int) (i : Nat) (h : i < (leavesP cs).length) : (leavesP cs)[i] = (wt cs i, [i]) := by
  have hi : i < (ordP cs).length := by rw [ordP_len, ← leavesP_len]; exact h
  have h1 := leavesP_get cs i hi
  rw [List.getElem?_eq_getElem h, Option.some.injEq] at h1
  rw [h1]
  unfold wt
  rw [getD_get _ i hi]

/-- A pack costs what its places count. -/
theorem level_cost (cs : List Int) : ∀ k, ∀ p ∈ levelP cs k, p.1 = (p.2.map (wt cs)).sum
  | 0, p, hp => by
    obtain ⟨i, hi, rfl⟩ := List.mem_iff_getElem.1 (show p ∈ leavesP cs from hp)
    rw [leavesP_wt cs i hi]
    simp
  | k + 1, p, hp => by
    rcases (joinP_mem _ _ _).1 hp with h | h
    · obtain ⟨i, hi, rfl⟩ := List.mem_iff_getElem.1 h
      rw [leavesP_wt cs i hi]
      simp
    · refine pairsP_all (Q := fun p => p.1 = (p.2.map (wt cs)).sum) (R := fun p => p.1 = (p.2.map (wt cs)).sum) ?_ _ (level_cost cs k) p h
      intro a b ha hb
      show a.1 + b.1 = ((a.2 ++ b.2).map (wt cs)).sum
      rw [List.map_append, List.sum_append, ← ha, ← hb]

theorem pre_places (cs : List Int) (l : List Pack) (hl : ∀ p ∈ l, p.1 = (p.2.map (wt cs)).sum) (t : Nat) : pre l t = (((l.take t).flatMap (·.2)).map (wt cs)).sum := by
  unfold pre
  have h : ∀ q : List Pack, (∀ p ∈ q, p.1 = (p.2.map (wt cs)).sum) → (q.map (·.1)).sum = ((q.flatMap (·.2)).map (wt cs)).sum := by
    intro q
    induction q with
    | nil => intro _; rfl
    | cons x r ih =>
      intro hq
      rw [List.map_cons, List.sum_cons, List.flatMap_cons, List.map_append, List.sum_append, ih (fun p hp => hq p (List.mem_cons_of_mem _ hp)), hq x List.mem_cons_self]
  exact h _ (fun p hp => hl p (List.mem_of_mem_take hp))

theorem count_sum (cs : List Int) (n : Nat) (ks : List Nat) (hk : ∀ k ∈ ks, k < n) : sumZ (fun i => wt cs i * (ks.count i : Int)) n = (ks.map (wt cs)).sum := by
  induction ks with
  | nil =>
    rw [sumZ_congr (g := fun _ => 0) n (fun i _ => by simp), sumZ_zero]
    rfl
  | cons k ks ih =>
    rw [List.map_cons, List.sum_cons, ← ih (fun j hj => hk j (List.mem_cons_of_mem _ hj))]
    have h1 := sumZ_pick (wt cs) k n
    rw [if_pos (hk k List.mem_cons_self)] at h1
    rw [← h1, ← sumZ_add]
    refine sumZ_congr n fun i hi => ?_
    rw [List.count_cons]
    by_cases h : k = i
    · subst h
      simp [Int.mul_add]
      omega
    · have hb : (k == i) = false := by simpa using h
      simp [hb, h]

theorem sumZ_posL (cs : List Int) (G : Nat → Int) (hG : ∀ s, s < cs.length → ¬ 0 < cs.getD s 0 → G s = 0) : ∀ k, k ≤ cs.length → sumZ G k = ((posL cs k).map G).sum
  | 0, _ => rfl
  | k + 1, h => by
    have e : cs.getD k 0 = cs[k] := by rw [List.getD_eq_getElem?_getD, List.getElem?_eq_getElem (by omega)]; rfl
    rw [sumZ, sumZ_posL cs G hG k (by omega), posL_succ cs k (by omega)]
    split
    · rw [List.map_append, List.sum_append]; simp
    · rename_i hp
      rw [hG k (by omega) (by rw [e]; exact hp)]
      omega
theorem sumZ_list (l : List Nat) (G : Nat → Int) : (l.map G).sum = sumZ (fun i => G (l.getD i 0)) l.length := by
  refine snoc_ind (m := fun l => (l.map G).sum = sumZ (fun i => G (l.getD i 0)) l.length) rfl ?_ l
  intro l a ih
  rw [List.map_append, List.sum_append, ih, List.length_append]
  simp only [List.length_singleton, List.map_cons, List.map_nil, List.sum_cons, List.sum_nil, sumZ]
  have e1 : sumZ (fun i => G ((l ++ [a]).getD i 0)) l.length = sumZ (fun i => G (l.getD i 0)) l.length := by
    refine sumZ_congr _ fun i hi => ?_
    rw [List.getD_eq_getElem?_getD, List.getD_eq_getElem?_getD, List.getElem?_append_left hi]
  have e2 : (l ++ [a]).getD l.length 0 = a := by simp [List.getD_eq_getElem?_getD]
  rw [e1, e2]
  omega

theorem costP_sum : ∀ (cs ls : List Int), cs.length = ls.length → costP cs ls = sumZ (fun s => cs.getD s 0 * ls.getD s 0) cs.length := by
  intro cs ls h
  have key : ∀ k, k ≤ cs.length → costTo cs ls k = sumZ (fun s => cs.getD s 0 * ls.getD s 0) k := by
    intro k
    induction k with
    | zero => intro _; simp [costTo, costP, sumZ]
    | succ k ih =>
      intro hk
      rw [costTo_succ cs ls k (by omega) (by omega), ih (by omega), sumZ, getD_get _ k (by omega), getD_get _ k (by omega)]
  rw [← costTo_all cs ls h, key _ (Nat.le_refl _)]

/-- The lengths cost what the taken packages cost. -/
theorem lens_cost (cs : List Int) (most : Int) (hb : badArg cs most = false) (hN : 2 ≤ (usedL cs).length) (hm : ((usedL cs).length : Int) ≤ (2 : Int) ^ most.toNat) :
    costP cs (lensP cs most) = pre (levelP cs (most.toNat - 1)) (2 * (usedL cs).length - 2) := by
  obtain ⟨h1, h2, h3, h4⟩ := badArg_facts hb
  have hlens : lensP cs most = outP cs.length (ordP cs) (takenP cs most) := by unfold lensP; rw [if_neg (by omega)]
  have hks : ∀ k ∈ takenP cs most, k < (ordP cs).length := by
    intro k hk
    obtain ⟨p, hp, hkp⟩ := List.mem_flatMap.1 (show k ∈ ((levelP cs (most.toNat - 1)).take (2 * (usedL cs).length - 2)).flatMap (·.2) from hk)
    rw [ordP_len]
    exact (levelP_ok cs h2 _ p (List.mem_of_mem_take hp)).2.2.2.2 k hkp
  have hoff : ∀ s, s < cs.length → ¬ 0 < cs.getD s 0 → (lensP cs most).getD s 0 = 0 := fun s hs hns => by
    rw [hlens, getD_get _ s (by rw [outP_len]; exact hs)]
    exact outP_off _ _ _ hks s hs (fun h => hns ((ordP_mem cs s).1 h).2)
  have htk : ((levelP cs (most.toNat - 1)).take (2 * (usedL cs).length - 2)).flatMap (·.2) = takenP cs most := rfl
  rw [costP_sum cs _ (lensP_len cs most).symm, sumZ_posL cs _ (fun s hs hns => by show cs.getD s 0 * (lensP cs most).getD s 0 = 0; rw [hoff s hs hns]; omega) _ (Nat.le_refl _),
    perm_sum (((ordP_perm cs).map _).symm), sumZ_list, pre_places cs _ (level_cost cs _), htk, ← count_sum cs (ordP cs).length _ (fun k hk => hks k hk)]
  refine sumZ_congr _ fun i hi => ?_
  have h5 := outP_at cs.length (ordP cs) (ordP_nodup cs) (ordP_lt cs) (takenP cs most) hks i hi
  have hs : (ordP cs)[i] < (outP cs.length (ordP cs) (takenP cs most)).length := by rw [outP_len]; exact ordP_lt cs _ (List.getElem_mem hi)
  rw [getD_get _ i hi, hlens, getD_get _ _ hs, h5]
  unfold wt
  rw [getD_get _ i hi]

/-- No levels that are as wide cost less. -/
theorem lens_least (cs : List Int) (most : Int) (hb : badArg cs most = false) (hN : 2 ≤ (usedL cs).length) (hm : ((usedL cs).length : Int) ≤ (2 : Int) ^ most.toNat)
    (lv : List Nat) (hlv : ∀ a ∈ lv, a ≤ (usedL cs).length) (hlen : lv.length ≤ most.toNat) (hw : (2 * (usedL cs).length - 2) * 2 ^ (most.toNat - 1) ≤ wid lv (most.toNat - 1)) : costP cs (lensP cs most) ≤ costL cs lv := by
  obtain ⟨h1, h2, h3, h4⟩ := badArg_facts hb
  rw [lens_cost cs most hb hN hm]
  exact (best_levels cs h2 (most.toNat - 1) lv _ hlv (by omega) hw).2

end Go.Proofs.Ytnoplhjbachjiaa.Mg
