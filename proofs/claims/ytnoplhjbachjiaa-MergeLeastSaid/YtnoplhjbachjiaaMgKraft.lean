/-
  Merge, plain law: the places that are taken are levels of leaves, each no longer than the one above it; so the lengths fill a code.
-/
import Derived.Test.YtnoplhjbachjiaaMgSpeak
namespace Go.Proofs.Ytnoplhjbachjiaa.Mg
set_option linter.unusedVariables false
set_option linter.unusedSimpArgs false

abbrev Pack := Int × List Nat
abbrev SortedP (l : List Pack) : Prop := l.Pairwise (fun x y => x.1 ≤ y.1)

theorem joinP_sorted {a b : List Pack} (ha : SortedP a) (hb : SortedP b) : SortedP (joinP a b) := by
  have h := List.pairwise_merge (le := leP) (fun x y z h1 h2 => by unfold leP at *; simp at *; omega) (fun x y => by unfold leP; simp; omega) a b
    (ha.imp (fun h => by unfold leP; exact decide_eq_true h)) (hb.imp (fun h => by unfold leP; exact decide_eq_true h))
  exact h.imp (fun h => of_decide_eq_true h)

theorem pairsP_sorted : ∀ {l : List Pack}, SortedP l → SortedP (pairsP l)
  | [], _ => List.Pairwise.nil
  | [_], _ => List.Pairwise.nil
  | a :: b :: r, h => by
    have h1 := List.pairwise_cons.1 h
    have h2 := List.pairwise_cons.1 h1.2
    refine List.pairwise_cons.2 ⟨?_, pairsP_sorted h2.2⟩
    refine pairsP_all (Q := fun y => a.1 ≤ y.1 ∧ b.1 ≤ y.1) (R := fun y => a.1 + b.1 ≤ y.1) ?_ r ?_
    · intro x y hx hy
      show a.1 + b.1 ≤ x.1 + y.1
      omega
    · intro y hy
      exact ⟨h1.1 y (List.mem_cons_of_mem _ hy), h2.1 y hy⟩

theorem leavesP_sorted (cs : List Int) : SortedP (leavesP cs) := by
  refine List.pairwise_iff_getElem.2 fun i j hi hj hij => ?_
  have h := List.pairwise_iff_getElem.1 (usedL_sorted cs) i j (by rw [leavesP_len] at hi; exact hi) (by rw [leavesP_len] at hj; exact hj) hij
  rw [leU_iff] at h
  have e : ∀ k (hk : k < (leavesP cs).length), (leavesP cs)[k].1 = ct cs ((usedL cs)[k]'(by rw [leavesP_len] at hk; exact hk)).1 := fun k hk => by
    have hk' : k < (usedL cs).length := by rw [leavesP_len] at hk; exact hk
    have h1 := leavesP_get cs k (by rw [ordP_len]; exact hk')
    rw [List.getElem?_eq_getElem hk, Option.some.injEq] at h1
    rw [h1]
    simp only [ordP_get cs k hk']
    rfl
  rw [e i hi, e j hj]
  omega

theorem levelP_sorted (cs : List Int) : ∀ k, SortedP (levelP cs k)
  | 0 => leavesP_sorted cs
  | k + 1 => joinP_sorted (leavesP_sorted cs) (pairsP_sorted (levelP_sorted cs k))

/-- The first t of two joined lists: the first a of the one, the first b of the other. -/
theorem merge_split : ∀ (t : Nat) (A B : List Pack), SortedP A → t ≤ A.length + B.length →
    ∃ a b, a + b = t ∧ a ≤ A.length ∧ b ≤ B.length ∧ ((joinP A B).take t).Perm (A.take a ++ B.take b) ∧ (∀ y ∈ B.take b, ∀ x ∈ A.drop a, y.1 < x.1)
  | 0, A, B, _, _ => ⟨0, 0, rfl, Nat.zero_le _, Nat.zero_le _, by simp, fun y hy => by simp at hy⟩
  | t + 1, [], [], _, h => by simp at h
  | t + 1, [], y :: B, _, h => ⟨0, t + 1, by omega, Nat.zero_le _, by simpa using h, by rw [join_nil_left]; simp, fun _ _ x hx => by simp at hx⟩
  | t + 1, x :: A, [], _, h => ⟨t + 1, 0, by omega, by simpa using h, Nat.zero_le _, by rw [join_nil_right]; simp, fun y hy => by simp at hy⟩
  | t + 1, x :: A, y :: B, hs, h => by
    have hs1 := List.pairwise_cons.1 hs
    by_cases hle : x.1 ≤ y.1
    · obtain ⟨a, b, h1, h2, h3, h4, h5⟩ := merge_split t A (y :: B) hs1.2 (by simp at h ⊢; omega)
      refine ⟨a + 1, b, by omega, by simpa using h2, h3, ?_, ?_⟩
      · rw [join_left _ _ _ _ hle]
        simp only [List.take_succ_cons, List.cons_append]
        exact List.Perm.cons _ h4
      · simpa using h5
    · obtain ⟨a, b, h1, h2, h3, h4, h5⟩ := merge_split t (x :: A) B hs (by simp at h ⊢; omega)
      refine ⟨a, b + 1, by omega, h2, by simpa using h3, ?_, ?_⟩
      · rw [join_right _ _ _ _ hle]
        simp only [List.take_succ_cons]
        exact (List.Perm.cons _ h4).trans List.perm_middle.symm
      · intro z hz u hu
        rw [List.take_succ_cons] at hz
        rcases List.mem_cons.1 hz with rfl | hz
        · have hu' := List.mem_of_mem_drop hu
          rcases List.mem_cons.1 hu' with rfl | hu'
          · omega
          · have := hs1.1 u hu'
            omega
        · exact h5 z hz u hu

theorem leaves_flat (cs : List Int) : ∀ a, a ≤ (leavesP cs).length → ((leavesP cs).take a).flatMap (·.2) = List.range a
  | 0, _ => rfl
  | a + 1, h => by
    have ha : a < (leavesP cs).length := h
    have h1 := leavesP_get cs a (by rw [ordP_len]; rw [leavesP_len] at ha; exact ha)
    rw [List.getElem?_eq_getElem ha, Option.some.injEq] at h1
    rw [List.take_succ_eq_append_getElem ha, List.flatMap_append, leaves_flat cs a (by omega), h1, List.range_succ]
    rfl

theorem pairs_flat : ∀ (b : Nat) (l : List Pack), 2 * b ≤ l.length → ((pairsP l).take b).flatMap (·.2) = (l.take (2 * b)).flatMap (·.2)
  | 0, l, _ => by simp
  | b + 1, [], h => by simp at h
  | b + 1, [_], h => by simp at h; omega
  | b + 1, x :: y :: r, h => by
    have ih := pairs_flat b r (by simp at h; omega)
    rw [show 2 * (b + 1) = 2 * b + 1 + 1 by omega]
    simp only [pairsP, List.take_succ_cons, List.flatMap_cons, ih, List.append_assoc]

/-- How wide levels are: the upmost has width 2 ^ e for each leaf, each one below half of that. -/
def wid : List Nat → Nat → Nat
  | [], _ => 0
  | a :: r, e => a * 2 ^ e + wid r (e - 1)

/-- What levels are: each no longer than the one above. -/
structure Levels (N : Nat) (lv : List Nat) : Prop where
  le : ∀ a ∈ lv, a ≤ N
  mono : lv.Pairwise (· ≥ ·)

theorem levels (cs : List Int) (hb : cs.any badB = false) : ∀ k t, t ≤ (levelP cs k).length →
    ∃ a lv, Levels (usedL cs).length (a :: lv) ∧ (∀ x ∈ (leavesP cs).take a, x ∈ (levelP cs k).take t) ∧ (((levelP cs k).take t).flatMap (·.2)).Perm ((a :: lv).map List.range).flatten ∧
      (a :: lv).length ≤ k + 1 ∧ ∀ e, k ≤ e → wid (a :: lv) e = t * 2 ^ e
  | 0, t, ht => by
    have ht' : t ≤ (leavesP cs).length := ht
    refine ⟨t, [], ⟨fun a ha => ?_, List.pairwise_singleton _ _⟩, fun x hx => hx, ?_, Nat.le_refl _, fun e _ => by simp [wid]⟩
    · rw [List.mem_singleton.1 ha, ← leavesP_len]; exact ht'
    · show (((leavesP cs).take t).flatMap (·.2)).Perm _
      rw [leaves_flat cs t ht']
      simp
  | k + 1, t, ht => by
    have hlen := levelP_len0 cs k
    obtain ⟨a, b, h1, h2, h3, h4, h5⟩ := merge_split t (leavesP cs) (pairsP (levelP cs k)) (leavesP_sorted cs) (by rw [leavesP_len, pairsP_len]; omega)
    rw [pairsP_len] at h3
    have h2b : 2 * b ≤ (levelP cs k).length := by omega
    obtain ⟨a', lv', hL, hM, hP, hlen', hW⟩ := levels cs hb k (2 * b) h2b
    have haa : a' ≤ a := by
      refine Nat.le_of_not_lt fun hlt => ?_
      have ha'N : a' ≤ (leavesP cs).length := by rw [leavesP_len]; exact hL.le a' List.mem_cons_self
      have haN : a < (leavesP cs).length := by omega
      have hx : (leavesP cs)[a] ∈ (levelP cs k).take (2 * b) := hM _ (List.mem_take_iff_getElem.2 ⟨a, by omega, rfl⟩)
      obtain ⟨j, hj, hxj⟩ := List.mem_take_iff_getElem.1 hx
      have hj2 : j < 2 * b := by omega
      have hb1 : 1 ≤ b := by omega
      have hy := pairsP_get (levelP cs k) (b - 1) (by omega)
      have hbl : b - 1 < (pairsP (levelP cs k)).length := by rw [pairsP_len]; omega
      rw [List.getElem?_eq_getElem hbl, Option.some.injEq] at hy
      have h6 := h5 _ (List.mem_take_iff_getElem.2 ⟨b - 1, by omega, rfl⟩) (leavesP cs)[a] (List.mem_drop_iff_getElem.2 ⟨0, by omega, by simp⟩)
      rw [hy] at h6
      have hn : ∀ i (h : i < (levelP cs k).length), 0 ≤ (levelP cs k)[i].1 := fun i h => (levelP_ok cs hb k _ (List.getElem_mem h)).1
      have hn1 := hn (2 * (b - 1)) (by omega)
      have h7 : (levelP cs k)[j].1 ≤ ((levelP cs k)[2 * (b - 1) + 1]'(by omega)).1 := by
        by_cases hje : j = 2 * (b - 1) + 1
        · subst hje; exact Int.le_refl _
        · exact List.pairwise_iff_getElem.1 (levelP_sorted cs k) j (2 * (b - 1) + 1) (by omega) (by omega) (by omega)
      rw [hxj] at h7
      simp only at h6
      omega
    refine ⟨a, a' :: lv', ⟨?_, ?_⟩, ?_, ?_, ?_, ?_⟩
    · intro c hc
      rcases List.mem_cons.1 hc with rfl | hc
      · rw [← leavesP_len]; exact h2
      · exact hL.le c hc
    · refine List.pairwise_cons.2 ⟨fun c hc => ?_, hL.mono⟩
      rcases List.mem_cons.1 hc with rfl | hc
      · exact haa
      · have := (List.pairwise_cons.1 hL.mono).1 c hc
        omega
    · intro x hx
      exact h4.mem_iff.2 (List.mem_append_left _ hx)
    · refine (List.Perm.flatMap_right (·.2) h4).trans ?_
      rw [List.flatMap_append, leaves_flat cs a h2, pairs_flat b _ h2b]
      rw [List.map_cons, List.flatten_cons]
      exact List.Perm.append_left _ hP
    · simp only [List.length_cons] at hlen' ⊢
      omega
    · intro e he
      rw [wid, hW (e - 1) (by omega), ← h1]
      have : 2 ^ e = 2 * 2 ^ (e - 1) := by
        rw [← Nat.pow_succ']
        congr 1
        omega
      rw [this, Nat.add_mul]
      congr 1
      rw [Nat.mul_comm 2 b, Nat.mul_assoc]

end Go.Proofs.Ytnoplhjbachjiaa.Mg
