/-
  The table's best is what the lengths cost.
-/
import Derived.Test.YtnoplhjbachjiaaMgTable2
namespace Go.Proofs.Ytnoplhjbachjiaa.Mg
set_option linter.unusedVariables false
set_option linter.unusedSimpArgs false

theorem pre_leaves (cs : List Int) (a : Nat) (h : a ≤ (leavesP cs).length) : pre (leavesP cs) a = ((List.range a).map (wt cs)).sum := by
  rw [pre_places cs (leavesP cs) (level_cost cs 0) a, leaves_flat cs a h]
theorem costL_sum (cs : List Int) : ∀ lv : List Nat, (∀ a ∈ lv, a ≤ (leavesP cs).length) → costL cs lv = (((lv.map List.range).flatten).map (wt cs)).sum
  | [], _ => rfl
  | a :: r, h => by
    rw [costL, pre_leaves cs a (h a List.mem_cons_self), costL_sum cs r (fun b hb => h b (List.mem_cons_of_mem _ hb)), List.map_cons, List.flatten_cons, List.map_append, List.sum_append]

theorem least_eq (cs : List Int) (most : Int) (hb : badArg cs most = false) (hN : 2 ≤ (usedL cs).length) (hm : ((usedL cs).length : Int) ≤ (2 : Int) ^ most.toNat)
    (rest : Nat → Int) (hr0 : ∀ i, 0 ≤ rest i) (hr : ∀ i, i ≤ (usedL cs).length → rest i = pre (leavesP cs) ((usedL cs).length - i)) :
    (lvlT (usedL cs).length rest most.toNat).best = costP cs (lensP cs most) := by
  obtain ⟨h1, h2, h3, h4⟩ := badArg_facts hb
  have hll := leavesP_len cs
  have hl0 : ∀ x ∈ leavesP cs, 0 ≤ x.1 := fun x hx => (leavesP_ok cs h2 x hx).1
  obtain ⟨m, hm1⟩ : ∃ m, most.toNat = m + 1 := ⟨most.toNat - 1, by omega⟩
  have hlow := levelP_low cs m 1 (by rw [← hm1]; exact_mod_cast hm)
  obtain ⟨a, lv, hL, _, hP, hlen, hW⟩ := levels cs h2 m (2 * (usedL cs).length - 2) (by omega)
  have hcost : costP cs (lensP cs most) = costL cs (a :: lv) := by
    rw [lens_cost cs most hb hN hm, hm1, Nat.add_sub_cancel, pre_places cs _ (level_cost cs m), costL_sum cs (a :: lv) (fun b hb => by rw [hll]; exact hL.le b hb)]
    exact perm_sum (hP.map _)
  have hkr := kraft (a :: lv) (usedL cs).length (m + 1) hL hlen
  rw [Nat.add_sub_cancel, hW m (Nat.le_refl _)] at hkr
  have hsum : sumTo (fun i => 2 ^ (m + 1 - hits (a :: lv) i)) (usedL cs).length = 2 ^ (m + 1) := by
    obtain ⟨n, hn⟩ : ∃ n, (usedL cs).length = n + 2 := ⟨(usedL cs).length - 2, by omega⟩
    rw [hn] at hkr ⊢
    have e1 : (n + 2) * 2 ^ (m + 1) = (2 * (n + 2) - 2) * 2 ^ m + 2 ^ (m + 1) := by
      rw [show 2 * (n + 2) - 2 = (n + 1) * 2 by omega, Nat.mul_assoc, ← Nat.pow_succ', Nat.succ_mul]
    omega
  have haN : atL (a :: lv) 0 = (usedL cs).length := by
    show a = _
    have ha := hL.le a List.mem_cons_self
    rcases Nat.lt_or_ge a (usedL cs).length with h | h
    · exfalso
      have hz := hits_zero (a :: lv) a a (fun b hb => by rcases List.mem_cons.1 hb with rfl | hb; exact Nat.le_refl _; exact (List.pairwise_cons.1 hL.mono).1 b hb) (Nat.le_refl _)
      have h6 := sumTo_one (f := fun i => 2 ^ (m + 1 - hits (a :: lv) i)) (usedL cs).length (fun j _ => Nat.one_le_two_pow) a h
      rw [hsum] at h6
      simp only [hz, Nat.sub_zero] at h6
      omega
    · omega
  have hbest := table_best cs (usedL cs).length (m + 1) (a :: lv) hl0 rest hr0 hr (by omega) (by omega) hL hlen (by rw [Nat.add_sub_cancel]; exact hW m (Nat.le_refl _)) haN
  rw [← hm1, ← hcost] at hbest
  refine Int.le_antisymm hbest.2 ?_
  obtain ⟨lv2, g1, g2, g3, g4, g5⟩ := (table_sound cs (usedL cs).length (by omega) rest hr most.toNat).best hbest.1
  rw [← g4]
  refine lens_least cs most hb hN hm lv2 g3 g2 ?_
  have hp := wid_pow lv2 (lv2.length - 1) (by omega) (most.toNat - lv2.length)
  rw [show lv2.length - 1 + (most.toNat - lv2.length) = most.toNat - 1 by omega] at hp
  rw [hp]
  have e2 : 2 ^ (most.toNat - 1) = 2 ^ (most.toNat - lv2.length) * 2 ^ (lv2.length - 1) := by rw [← Nat.pow_add]; congr 1; omega
  have e3 : 2 ^ lv2.length = 2 * 2 ^ (lv2.length - 1) := by rw [← Nat.pow_succ']; congr 1; omega
  rw [e2, Nat.mul_comm, Nat.mul_assoc]
  refine Nat.mul_le_mul_left _ ?_
  show _ ≤ widO lv2
  rw [e3] at g5
  obtain ⟨n, hn⟩ : ∃ n, (usedL cs).length = n + 1 := ⟨(usedL cs).length - 1, by omega⟩
  rw [hn] at g5 ⊢
  rw [Nat.succ_mul] at g5
  rw [show 2 * (n + 1) - 2 = n * 2 by omega, Nat.mul_comm, Nat.mul_assoc]
  omega

/-- More frequent symbols have no longer words. -/
theorem lens_order (cs : List Int) (most : Int) (hb : badArg cs most = false) (hm : ((usedL cs).length : Int) ≤ (2 : Int) ^ most.toNat) (s k : Nat) (hs : s < cs.length) (hk : k < cs.length) (ps : 0 < cs.getD s 0) (pk : 0 < cs.getD k 0)
    (h : cs.getD k 0 < cs.getD s 0 ∨ (cs.getD s 0 = cs.getD k 0 ∧ s < k)) : (lensP cs most).getD s 0 ≤ (lensP cs most).getD k 0 := by
  obtain ⟨i, hi, hsi⟩ := List.mem_iff_getElem.1 ((ordP_mem cs s).2 ⟨hs, ps⟩)
  obtain ⟨j, hj, hkj⟩ := List.mem_iff_getElem.1 ((ordP_mem cs k).2 ⟨hk, pk⟩)
  have hi' : i < (usedL cs).length := by rw [ordP_len] at hi; exact hi
  have hj' : j < (usedL cs).length := by rw [ordP_len] at hj; exact hj
  have hij : j < i := by
    rcases Nat.lt_trichotomy i j with h1 | h1 | h1
    · exfalso
      have hso := List.pairwise_iff_getElem.1 (usedL_sorted cs) i j hi' hj' h1
      rw [leU_iff] at hso
      have e1 := ordP_get cs i hi'
      have e2 := ordP_get cs j hj'
      have c1 : ct cs (usedL cs)[i].1 = cs.getD s 0 := by show cs.getD _ 0 = _; rw [← e1, hsi]
      have c2 : ct cs (usedL cs)[j].1 = cs.getD k 0 := by show cs.getD _ 0 = _; rw [← e2, hkj]
      have d1 := (usedL cs)[i].2
      have d2 := (usedL cs)[j].2
      rw [hsi] at e1
      rw [hkj] at e2
      rw [c1, c2] at hso
      omega
    · subst h1
      rw [hsi] at hkj
      subst hkj
      omega
    · exact h1
  have hN : 2 ≤ (usedL cs).length := by omega
  obtain ⟨lv, hL, hlen, hat, hoff, hsum⟩ := lens_levels cs most hb hN hm
  have a1 := (hat i hi').1
  have a2 := (hat j hj').1
  rw [getD_get _ i hi, hsi] at a1
  rw [getD_get _ j hj, hkj] at a2
  rw [a1, a2]
  have := hits_mono lv j i (by omega)
  omega

end Go.Proofs.Ytnoplhjbachjiaa.Mg
