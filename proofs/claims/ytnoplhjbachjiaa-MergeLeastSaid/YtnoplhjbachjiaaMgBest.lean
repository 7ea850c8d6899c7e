/-
  Merge, plain law: the packages that are taken cost least of all levels that are as wide.
-/
import Derived.Test.YtnoplhjbachjiaaMgCode
namespace Go.Proofs.Ytnoplhjbachjiaa.Mg
set_option linter.unusedVariables false
set_option linter.unusedSimpArgs false

/-- What the first t packs cost. -/
def pre (l : List Pack) (t : Nat) : Int := ((l.take t).map (·.1)).sum
theorem pre_zero (l : List Pack) : pre l 0 = 0 := rfl
theorem pre_cons (x : Pack) (l : List Pack) (t : Nat) : pre (x :: l) (t + 1) = x.1 + pre l t := rfl
theorem pre_succ (l : List Pack) (t : Nat) (h : t < l.length) : pre l (t + 1) = pre l t + l[t].1 := by
  unfold pre
  rw [List.take_succ_eq_append_getElem h, List.map_append, List.sum_append]
  simp
theorem pre_nonneg (l : List Pack) (hl : ∀ x ∈ l, 0 ≤ x.1) : ∀ t, 0 ≤ pre l t
  | 0 => Int.le_refl _
  | t + 1 => by
    by_cases h : t < l.length
    · rw [pre_succ l t h]
      have h1 := pre_nonneg l hl t
      have h2 := hl l[t] (List.getElem_mem h)
      omega
    · have h1 := pre_nonneg l hl t
      have e : pre l (t + 1) = pre l t := by unfold pre; rw [List.take_of_length_le (by omega), List.take_of_length_le (by omega)]
      rw [e]; exact h1
theorem pre_mono (l : List Pack) (hl : ∀ x ∈ l, 0 ≤ x.1) (s : Nat) : ∀ d, s + d ≤ l.length → pre l s ≤ pre l (s + d)
  | 0, _ => Int.le_refl _
  | d + 1, h => by
    have h1 := pre_mono l hl s d (by omega)
    have h2 := hl (l[s + d]'(by omega)) (List.getElem_mem _)
    rw [show s + (d + 1) = (s + d) + 1 by omega, pre_succ l (s + d) (by omega)]
    omega

/-- The first of two joined lists cost least. -/
theorem join_pre : ∀ (t : Nat) (A B : List Pack) (a b : Nat), a + b = t → a ≤ A.length → b ≤ B.length → SortedP A → SortedP B → pre (joinP A B) t ≤ pre A a + pre B b
  | 0, A, B, a, b, h, _, _, _, _ => by
    obtain rfl : a = 0 := by omega
    obtain rfl : b = 0 := by omega
    exact Int.le_refl _
  | t + 1, [], B, a, b, h, ha, hb, _, _ => by
    obtain rfl : a = 0 := by simpa using ha
    obtain rfl : b = t + 1 := by omega
    rw [join_nil_left, pre_zero]
    omega
  | t + 1, x :: A, [], a, b, h, ha, hb, _, _ => by
    obtain rfl : b = 0 := by simpa using hb
    obtain rfl : a = t + 1 := by omega
    rw [join_nil_right, pre_zero]
    omega
  | t + 1, x :: A, y :: B, a, b, h, ha, hb, sA, sB => by
    have sA1 := List.pairwise_cons.1 sA
    have sB1 := List.pairwise_cons.1 sB
    by_cases hle : x.1 ≤ y.1
    · rw [join_left _ _ _ _ hle, pre_cons]
      rcases a with _ | a
      · obtain rfl : b = t + 1 := by omega
        have ih := join_pre t A (y :: B) 0 t (by omega) (Nat.zero_le _) (by omega) sA1.2 sB
        have hl : t < (y :: B).length := hb
        rw [pre_zero] at ih
        rw [pre_zero, pre_succ _ t hl]
        have h3 : y.1 ≤ (y :: B)[t].1 := by
          rcases List.mem_cons.1 (List.getElem_mem hl) with e | e
          · rw [e]; exact Int.le_refl _
          · exact sB1.1 _ e
        omega
      · have ih := join_pre t A (y :: B) a b (by omega) (by simpa using ha) hb sA1.2 sB
        rw [pre_cons]
        omega
    · rw [join_right _ _ _ _ hle, pre_cons]
      rcases b with _ | b
      · obtain rfl : a = t + 1 := by omega
        have ih := join_pre t (x :: A) B t 0 (by omega) (by omega) (Nat.zero_le _) sA sB1.2
        have hl : t < (x :: A).length := ha
        rw [pre_zero] at ih
        rw [pre_zero, pre_succ _ t hl]
        have h3 : x.1 ≤ (x :: A)[t].1 := by
          rcases List.mem_cons.1 (List.getElem_mem hl) with e | e
          · rw [e]; exact Int.le_refl _
          · exact sA1.1 _ e
        omega
      · have ih := join_pre t (x :: A) B a b (by omega) ha (by simpa using hb) sA sB1.2
        rw [pre_cons]
        omega

theorem pairs_pre : ∀ (b : Nat) (l : List Pack), 2 * b ≤ l.length → pre (pairsP l) b = pre l (2 * b)
  | 0, l, _ => rfl
  | b + 1, [], h => by simp at h
  | b + 1, [_], h => by simp at h; omega
  | b + 1, x :: y :: r, h => by
    have ih := pairs_pre b r (by simp at h; omega)
    rw [show 2 * (b + 1) = 2 * b + 1 + 1 by omega, pre_cons, pre_cons]
    simp only [pairsP]
    rw [pre_cons, ih]
    show x.1 + y.1 + _ = _
    omega

/-- What levels of leaves cost. -/
def costL (cs : List Int) : List Nat → Int
  | [] => 0
  | a :: r => pre (leavesP cs) a + costL cs r
theorem costL_nonneg (cs : List Int) (hl : ∀ x ∈ leavesP cs, 0 ≤ x.1) : ∀ lv, 0 ≤ costL cs lv
  | [] => Int.le_refl _
  | a :: r => by
    have h1 := costL_nonneg cs hl r
    have h2 := pre_nonneg (leavesP cs) hl a
    rw [costL]
    omega

theorem best_levels (cs : List Int) (hb : cs.any badB = false) : ∀ (k : Nat) (lv : List Nat) (t : Nat), (∀ a ∈ lv, a ≤ (usedL cs).length) → lv.length ≤ k + 1 → t * 2 ^ k ≤ wid lv k →
    t ≤ (levelP cs k).length ∧ pre (levelP cs k) t ≤ costL cs lv := by
  have hl : ∀ x ∈ leavesP cs, 0 ≤ x.1 := fun x hx => (leavesP_ok cs hb x hx).1
  have hll := leavesP_len cs
  intro k
  induction k with
  | zero =>
    intro lv t hN hlen hw
    rcases lv with _ | ⟨a, _ | ⟨b, r⟩⟩
    · simp [wid] at hw
      subst hw
      exact ⟨Nat.zero_le _, Int.le_refl _⟩
    · simp [wid] at hw
      have ha := hN a (by simp)
      refine ⟨by show t ≤ (leavesP cs).length; omega, ?_⟩
      show pre (leavesP cs) t ≤ pre (leavesP cs) a + 0
      have := pre_mono (leavesP cs) hl t (a - t) (by omega)
      rw [show t + (a - t) = a by omega] at this
      omega
    · simp at hlen
  | succ k ih =>
    intro lv t hN hlen hw
    have hlen1 := levelP_len0 cs k
    rcases lv with _ | ⟨a, r⟩
    · have ht : t = 0 := by
        simp only [wid] at hw
        rcases Nat.eq_zero_or_pos t with h | h
        · exact h
        · have h1 : 0 < t * 2 ^ (k + 1) := Nat.mul_pos h (Nat.two_pow_pos _)
          omega
      subst ht
      exact ⟨Nat.zero_le _, Int.le_refl _⟩
    · have ha := hN a (by simp)
      have hcr := costL_nonneg cs hl r
      rw [wid, Nat.add_sub_cancel] at hw
      rw [costL]
      by_cases hta : t ≤ a
      · refine ⟨by omega, ?_⟩
        have h1 := join_pre t (leavesP cs) (pairsP (levelP cs k)) t 0 (by omega) (by omega) (Nat.zero_le _) (leavesP_sorted cs) (pairsP_sorted (levelP_sorted cs k))
        have h2 := pre_mono (leavesP cs) hl t (a - t) (by omega)
        rw [show t + (a - t) = a by omega] at h2
        rw [pre_zero] at h1
        show pre (joinP _ _) t ≤ _
        omega
      · obtain ⟨d, rfl⟩ : ∃ d, t = a + d := ⟨t - a, by omega⟩
        have hw2 : (2 * d) * 2 ^ k ≤ wid r k := by
          rw [Nat.add_mul] at hw
          have e : d * 2 ^ (k + 1) = (2 * d) * 2 ^ k := by rw [Nat.pow_succ, Nat.mul_comm (2 ^ k) 2, ← Nat.mul_assoc, Nat.mul_comm d 2]
          omega
        obtain ⟨h1, h2⟩ := ih r (2 * d) (fun b hb => hN b (List.mem_cons_of_mem _ hb)) (by simpa using hlen) hw2
        have hpl := pairsP_len (levelP cs k)
        refine ⟨by omega, ?_⟩
        have h3 := join_pre (a + d) (leavesP cs) (pairsP (levelP cs k)) a d rfl (by omega) (by omega) (leavesP_sorted cs) (pairsP_sorted (levelP_sorted cs k))
        rw [pairs_pre d _ h1] at h3
        show pre (joinP _ _) (a + d) ≤ _
        omega

end Go.Proofs.Ytnoplhjbachjiaa.Mg
