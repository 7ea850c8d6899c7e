/-
  Merge, plain law: the lengths make a code.
-/
import Derived.Test.YtnoplhjbachjiaaMgCanon4
namespace Go.Proofs.Ytnoplhjbachjiaa.Mg
set_option linter.unusedVariables false
set_option linter.unusedSimpArgs false

def gN (n : Nat) (x : Int) : Nat := if 0 < x ∧ x ≤ n then 2 ^ (n - x.toNat) else 0
def tot (n : Nat) (ls : List Int) : Nat := (ls.map (gN n)).sum
theorem gN_succ (n : Nat) (x : Int) : gN (n + 1) x = 2 * gN n x + if x = (n : Int) + 1 then 1 else 0 := by
  unfold gN
  by_cases h : 0 < x ∧ x ≤ (n : Int)
  · rw [if_pos h, if_pos ⟨h.1, by omega⟩, if_neg (by omega), ← Nat.pow_succ']
    congr 1
    omega
  · rw [if_neg h]
    by_cases h2 : x = (n : Int) + 1
    · subst h2
      rw [if_pos ⟨by omega, by omega⟩, if_pos rfl, show n + 1 - ((n : Int) + 1).toNat = 0 by omega]
    · rw [if_neg h2, if_neg (by omega)]
theorem tot_succ (n : Nat) (ls : List Int) : tot (n + 1) ls = 2 * tot n ls + ls.count ((n : Int) + 1) := by
  unfold tot
  induction ls with
  | nil => rfl
  | cons x r ih =>
    rw [List.map_cons, List.sum_cons, ih, List.map_cons, List.sum_cons, gN_succ, List.count_cons]
    have : (if (x == (n : Int) + 1) = true then 1 else 0) = if x = (n : Int) + 1 then 1 else 0 := by
      by_cases h : x = (n : Int) + 1
      · simp [h]
      · simp [h]
    rw [this]
    omega
theorem tot_zero (ls : List Int) : tot 0 ls = 0 := by
  unfold tot
  induction ls with
  | nil => rfl
  | cons x r ih =>
    rw [List.map_cons, List.sum_cons, ih]
    unfold gN
    rw [if_neg (by omega)]
theorem left_tot (ls : List Int) : ∀ n, leftP (cntF ls) n = 2 ^ n - (tot n ls : Int)
  | 0 => by rw [tot_zero]; simp [leftP]
  | n + 1 => by
    rw [leftP, left_tot ls n, tot_succ]
    unfold cntF
    rw [if_neg (by omega), Int.pow_succ]
    simp only [Int.natCast_add, Int.natCast_mul]
    push_cast
    omega
theorem gN_up (n d : Nat) (x : Int) : gN n x * 2 ^ d ≤ gN (n + d) x := by
  unfold gN
  by_cases h : 0 < x ∧ x ≤ (n : Int)
  · rw [if_pos h, if_pos ⟨h.1, by omega⟩, ← Nat.pow_add]
    exact Nat.pow_le_pow_right (by omega) (by omega)
  · rw [if_neg h]; omega
theorem tot_up (n d : Nat) (ls : List Int) : tot n ls * 2 ^ d ≤ tot (n + d) ls := by
  unfold tot
  induction ls with
  | nil => simp
  | cons x r ih =>
    rw [List.map_cons, List.sum_cons, List.map_cons, List.sum_cons, Nat.add_mul]
    have := gN_up n d x
    omega

/-- Where the lengths fill a code nothing is left, and nowhere too little. -/
theorem left_full (ls : List Int) (h : tot 15 ls = 2 ^ 15) : leftP (cntF ls) 15 = 0 ∧ ∀ n, n ≤ 15 → 0 ≤ leftP (cntF ls) n := by
  refine ⟨by rw [left_tot, h]; rfl, fun n hn => ?_⟩
  rw [left_tot]
  have h1 := tot_up n (15 - n) ls
  rw [show n + (15 - n) = 15 by omega, h] at h1
  have h2 : 2 ^ 15 = 2 ^ n * 2 ^ (15 - n) := by rw [← Nat.pow_add]; congr 1; omega
  rw [h2] at h1
  have h3 := Nat.le_of_mul_le_mul_right h1 (Nat.pos_of_ne_zero (by simp))
  have h4 : ((tot n ls : Nat) : Int) ≤ ((2 ^ n : Nat) : Int) := by exact_mod_cast h3
  push_cast at h4
  omega

theorem sum_ints (ls : List Int) (G : Int → Nat) : (ls.map G).sum = sumTo (fun s => G (ls.getD s 0)) ls.length := by
  refine snoc_ind (m := fun ls => (ls.map G).sum = sumTo (fun s => G (ls.getD s 0)) ls.length) rfl ?_ ls
  intro l a ih
  rw [List.map_append, List.sum_append, ih, List.length_append]
  simp only [List.length_singleton, List.map_cons, List.map_nil, List.sum_cons, List.sum_nil, Nat.add_zero, sumTo]
  congr 1
  · refine sumTo_congr _ fun i hi => ?_
    rw [List.getD_eq_getElem?_getD, List.getD_eq_getElem?_getD, List.getElem?_append_left hi]
  · simp [List.getD_eq_getElem?_getD]

theorem sumTo_mul (f : Nat → Nat) (c : Nat) : ∀ n, sumTo (fun i => f i * c) n = sumTo f n * c
  | 0 => by simp [sumTo]
  | n + 1 => by rw [sumTo, sumTo, sumTo_mul f c n, Nat.add_mul]

/-- Of two symbols and more the lengths fill a code. -/
theorem lens_full (cs : List Int) (most : Int) (hb : badArg cs most = false) (hN : 2 ≤ (usedL cs).length) (hm : ((usedL cs).length : Int) ≤ (2 : Int) ^ most.toNat) : tot 15 (lensP cs most) = 2 ^ 15 := by
  obtain ⟨lv, hL, hlen, hat, hoff, hsum⟩ := lens_levels cs most hb hN hm
  obtain ⟨h1, h2, h3, h4⟩ := badArg_facts hb
  unfold tot
  rw [sum_ints, lensP_len, sum_ord cs _ (fun s hs hns => by
    show gN 15 _ = 0
    rw [hoff s hs hns]
    rfl), ordP_len]
  rw [sumTo_congr (g := fun i => 2 ^ (most.toNat - hits lv i) * 2 ^ (15 - most.toNat)) _ (fun i hi => by
    obtain ⟨e, h5⟩ := hat i hi
    have h6 := hits_le lv i
    show gN 15 _ = _
    rw [e]
    unfold gN
    rw [if_pos ⟨by omega, by omega⟩, ← Nat.pow_add]
    congr 1
    omega)]
  rw [sumTo_mul, hsum, ← Nat.pow_add]
  congr 1
  omega

/-- How long the words are. -/
theorem lens_range (cs : List Int) (most : Int) (hb : badArg cs most = false) (hm : ((usedL cs).length : Int) ≤ (2 : Int) ^ most.toNat) (s : Nat) (hs : s < cs.length) :
    0 ≤ (lensP cs most).getD s 0 ∧ (lensP cs most).getD s 0 ≤ most ∧ (0 < (lensP cs most).getD s 0 ↔ 0 < cs.getD s 0) := by
  obtain ⟨h1, h2, h3, h4⟩ := badArg_facts hb
  by_cases hN : 2 ≤ (usedL cs).length
  · obtain ⟨lv, hL, hlen, hat, hoff, hsum⟩ := lens_levels cs most hb hN hm
    by_cases hp : 0 < cs.getD s 0
    · obtain ⟨i, hi, hsi⟩ := List.mem_iff_getElem.1 ((ordP_mem cs s).2 ⟨hs, hp⟩)
      obtain ⟨e, h5⟩ := hat i (by rw [ordP_len] at hi; exact hi)
      rw [getD_get _ i hi, hsi] at e
      have h6 := hits_le lv i
      rw [e]
      omega
    · rw [hoff s hs hp]
      omega
  · unfold lensP
    rw [if_pos (by omega)]
    have hmem := ordP_mem cs s
    have hlen := ordP_len cs
    rcases ho : ordP cs with _ | ⟨a, _ | ⟨b, r⟩⟩
    · have hnp : ¬ 0 < cs.getD s 0 := fun h => by have := hmem.2 ⟨hs, h⟩; rw [ho] at this; cases this
      simp only [List.foldl_nil]
      rw [getD_get _ s (by simpa using hs), List.getElem_replicate]
      omega
    · simp only [List.foldl_cons, List.foldl_nil]
      rw [getD_get _ s (by simpa using hs), List.getElem_set]
      rw [ho, List.mem_singleton] at hmem
      by_cases e : a = s
      · subst e
        have := hmem.1 rfl
        rw [if_pos rfl]
        omega
      · have hnp : ¬ 0 < cs.getD s 0 := fun h => e (hmem.2 ⟨hs, h⟩).symm
        rw [if_neg e, List.getElem_replicate]
        omega
    · rw [ho] at hlen
      simp at hlen
      omega

theorem small_key (f : Nat → Int) (b : Int) (hb : b = 0 ∨ b = 1) (e : f = fun m => if m = 1 then b else 0) : (∀ n, n ≤ 15 → 0 ≤ leftP f n) ∧ 0 < leftP f 15 ∧ slackP f = true := by
  subst e
  rcases hb with rfl | rfl
  · exact ⟨by decide, by decide, by decide⟩
  · exact ⟨by decide, by decide, by decide⟩

/-- Of fewer than two symbols. -/
theorem lens_one (cs : List Int) (most : Int) (hN : ¬ 2 ≤ (usedL cs).length) : (∀ n, n ≤ 15 → 0 ≤ leftP (cntF (lensP cs most)) n) ∧ 0 < leftP (cntF (lensP cs most)) 15 ∧ slackP (cntF (lensP cs most)) = true := by
  have hlen := ordP_len cs
  have hlt := ordP_lt cs
  have hE : lensP cs most = (ordP cs).foldl (fun o s => o.set s 1) (List.replicate cs.length 0) := by unfold lensP; rw [if_pos (by omega)]
  rcases ho : ordP cs with _ | ⟨a, _ | ⟨b, r⟩⟩
  · refine small_key _ 0 (.inl rfl) ?_
    rw [hE, ho]
    funext k
    simp only [List.foldl_nil]
    unfold cntF
    split
    · rename_i h; simp [h]
    · rename_i h
      rw [List.count_replicate]
      have : ((0 : Int) == (k : Int)) = false := by simp; omega
      rw [this]
      simp
  · refine small_key _ 1 (.inr rfl) ?_
    have ha : a < cs.length := hlt a (by rw [ho]; simp)
    rw [hE, ho]
    funext k
    simp only [List.foldl_cons, List.foldl_nil]
    unfold cntF
    split
    · rename_i h; simp [h]
    · rename_i h
      rw [List.count_set (by simpa using ha), List.count_replicate]
      have h1 : ((0 : Int) == (k : Int)) = false := by simp; omega
      simp only [List.getElem_replicate, h1]
      by_cases hk : k = 1
      · subst hk; simp
      · have h2 : ((1 : Int) == (k : Int)) = false := by simp; omega
        simp [h2, hk]
  · rw [ho] at hlen
    simp at hlen
    omega

end Go.Proofs.Ytnoplhjbachjiaa.Mg
