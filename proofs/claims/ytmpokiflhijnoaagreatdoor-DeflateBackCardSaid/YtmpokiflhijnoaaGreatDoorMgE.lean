/-
  The symbols that come, in order: plain.
-/
import Derived.Test.YtmpokiflhijnoaaGreatDoorMgD
namespace Go.Proofs.YtmpokiflhijnoaaGreatDoor.Mg
open Go.ChangeShapes Go.WideShapes Go.ChangeAt Go.RowKit Go.Shelf Go.Proofs
set_option linter.unusedVariables false

/-- Not behind. -/
def leU (cs : List Int) (x y : Pl cs.length) : Bool := !(ltOf (cfU cs)) y x
theorem leU_iff (cs : List Int) (x y : Pl cs.length) : leU cs x y = true ↔ ct cs x.1 < ct cs y.1 ∨ (ct cs x.1 = ct cs y.1 ∧ y.1 ≤ x.1) := by
  unfold leU
  rw [cf_neg, Bool.not_eq_true', decide_eq_false_iff_not]
  omega

theorem usedL_perm (cs : List Int) : (usedL cs).Perm (idxTo cs cs.length) := List.mergeSort_perm _ _
theorem usedL_sorted (cs : List Int) : (usedL cs).Pairwise (fun x y => leU cs x y = true) := by
  refine List.pairwise_mergeSort (le := leU cs) ?_ ?_ _
  · intro a b c h1 h2
    rw [leU_iff] at *
    omega
  · intro a b
    rw [Bool.or_eq_true, leU_iff, leU_iff]
    omega
theorem usedL_eq (cs : List Int) (l : List (Pl cs.length)) (hp : l.Perm (idxTo cs cs.length)) (hs : l.Pairwise (fun x y => leU cs x y = true)) : usedL cs = l := by
  refine List.Perm.eq_of_pairwise (le := fun x y => leU cs x y = true) ?_ (usedL_sorted cs) hs ((usedL_perm cs).trans hp.symm)
  intro a b _ _ h1 h2
  rw [leU_iff] at *
  exact Subtype.ext (by omega)

end Go.Proofs.YtmpokiflhijnoaaGreatDoor.Mg

/-
  Merge, plain law: the places that are taken are levels of leaves, each no longer than the one above it; so the lengths fill a code.
-/
namespace Go.Proofs.YtmpokiflhijnoaaGreatDoor.Mg
set_option linter.unusedVariables false
set_option linter.unusedSimpArgs false

abbrev Pack := Int × List Nat
abbrev SortedP (l : List Pack) : Prop := l.Pairwise (fun x y => x.1 ≤ y.1)

theorem joinP_sorted {a b : List Pack} (ha : SortedP a) (hb : SortedP b) : SortedP (joinP a b) := by
  have h := List.pairwise_merge (le := leP) (fun x y z h1 h2 => by unfold leP at *; simp at *; omega) (fun x y => by unfold leP; simp; omega) a b
    (ha.imp (fun h => by unfold leP; exact decide_eq_true h)) (hb.imp (fun h => by unfold leP; exact decide_eq_true h))
  exact h.imp (fun h => of_decide_eq_true h)

theorem pairsP_sorted : ∀ {l : List Pack}, SortedP l → SortedP (pairsP l)
  | [], _ => List.Pairwise.nil
  | [_], _ => List.Pairwise.nil
  | a :: b :: r, h => by
    have h1 := List.pairwise_cons.1 h
    have h2 := List.pairwise_cons.1 h1.2
    refine List.pairwise_cons.2 ⟨?_, pairsP_sorted h2.2⟩
    refine pairsP_all (Q := fun y => a.1 ≤ y.1 ∧ b.1 ≤ y.1) (R := fun y => a.1 + b.1 ≤ y.1) ?_ r ?_
    · intro x y hx hy
      show a.1 + b.1 ≤ x.1 + y.1
      omega
    · intro y hy
      exact ⟨h1.1 y (List.mem_cons_of_mem _ hy), h2.1 y hy⟩

theorem leavesP_sorted (cs : List Int) : SortedP (leavesP cs) := by
  refine List.pairwise_iff_getElem.2 fun i j hi hj hij => ?_
  have h := List.pairwise_iff_getElem.1 (usedL_sorted cs) i j (by rw [leavesP_len] at hi; exact hi) (by rw [leavesP_len] at hj; exact hj) hij
  rw [leU_iff] at h
  have e : ∀ k (hk : k < (leavesP cs).length), (leavesP cs)[k].1 = ct cs ((usedL cs)[k]'(by rw [leavesP_len] at hk; exact hk)).1 := fun k hk => by
    have hk' : k < (usedL cs).length := by rw [leavesP_len] at hk; exact hk
    have h1 := leavesP_get cs k (by rw [ordP_len]; exact hk')
    rw [List.getElem?_eq_getElem hk, Option.some.injEq] at h1
    rw [h1]
    simp only [ordP_get cs k hk']
    rfl
  rw [e i hi, e j hj]
  omega

theorem levelP_sorted (cs : List Int) : ∀ k, SortedP (levelP cs k)
  | 0 => leavesP_sorted cs
  | k + 1 => joinP_sorted (leavesP_sorted cs) (pairsP_sorted (levelP_sorted cs k))

/-- The first t of two joined lists: the first a of the one, the first b of the other. -/
theorem merge_split : ∀ (t : Nat) (A B : List Pack), SortedP A → t ≤ A.length + B.length →
    ∃ a b, a + b = t ∧ a ≤ A.length ∧ b ≤ B.length ∧ ((joinP A B).take t).Perm (A.take a ++ B.take b) ∧ (∀ y ∈ B.take b, ∀ x ∈ A.drop a, y.1 < x.1)
  | 0, A, B, _, _ => ⟨0, 0, rfl, Nat.zero_le _, Nat.zero_le _, by simp, fun y hy => by simp at hy⟩
  | t + 1, [], [], _, h => by simp at h
  | t + 1, [], y :: B, _, h => ⟨0, t + 1, by omega, Nat.zero_le _, by simpa using h, by rw [join_nil_left]; simp, fun _ _ x hx => by simp at hx⟩
  | t + 1, x :: A, [], _, h => ⟨t + 1, 0, by omega, by simpa using h, Nat.zero_le _, by rw [join_nil_right]; simp, fun y hy => by simp at hy⟩
  | t + 1, x :: A, y :: B, hs, h => by
    have hs1 := List.pairwise_cons.1 hs
    by_cases hle : x.1 ≤ y.1
    · obtain ⟨a, b, h1, h2, h3, h4, h5⟩ := merge_split t A (y :: B) hs1.2 (by simp at h ⊢; omega)
      refine ⟨a + 1, b, by omega, by simpa using h2, h3, ?_, ?_⟩
      · rw [join_left _ _ _ _ hle]
        simp only [List.take_succ_cons, List.cons_append]
        exact List.Perm.cons _ h4
      · simpa using h5
    · obtain ⟨a, b, h1, h2, h3, h4, h5⟩ := merge_split t (x :: A) B hs (by simp at h ⊢; omega)
      refine ⟨a, b + 1, by omega, h2, by simpa using h3, ?_, ?_⟩
      · rw [join_right _ _ _ _ hle]
        simp only [List.take_succ_cons]
        exact (List.Perm.cons _ h4).trans List.perm_middle.symm
      · intro z hz u hu
        rw [List.take_succ_cons] at hz
        rcases List.mem_cons.1 hz with rfl | hz
        · have hu' := List.mem_of_mem_drop hu
          rcases List.mem_cons.1 hu' with rfl | hu'
          · omega
          · have := hs1.1 u hu'
            omega
        · exact h5 z hz u hu

theorem leaves_flat (cs : List Int) : ∀ a, a ≤ (leavesP cs).length → ((leavesP cs).take a).flatMap (·.2) = List.range a
  | 0, _ => rfl
  | a + 1, h => by
    have ha : a < (leavesP cs).length := h
    have h1 := leavesP_get cs a (by rw [ordP_len]; rw [leavesP_len] at ha; exact ha)
    rw [List.getElem?_eq_getElem ha, Option.some.injEq] at h1
    rw [List.take_succ_eq_append_getElem ha, List.flatMap_append, leaves_flat cs a (by omega), h1, List.range_succ]
    rfl

theorem pairs_flat : ∀ (b : Nat) (l : List Pack), 2 * b ≤ l.length → ((pairsP l).take b).flatMap (·.2) = (l.take (2 * b)).flatMap (·.2)
  | 0, l, _ => by simp
  | b + 1, [], h => by simp at h
  | b + 1, [_], h => by simp at h; omega
  | b + 1, x :: y :: r, h => by
    have ih := pairs_flat b r (by simp at h; omega)
    rw [show 2 * (b + 1) = 2 * b + 1 + 1 by omega]
    simp only [pairsP, List.take_succ_cons, List.flatMap_cons, ih, List.append_assoc]

/-- How wide levels are: the upmost has width 2 ^ e for each leaf, each one below half of that. -/
def wid : List Nat → Nat → Nat
  | [], _ => 0
  | a :: r, e => a * 2 ^ e + wid r (e - 1)

/-- What levels are: each no longer than the one above. -/
structure Levels (N : Nat) (lv : List Nat) : Prop where
  le : ∀ a ∈ lv, a ≤ N
  mono : lv.Pairwise (· ≥ ·)

theorem levels (cs : List Int) (hb : cs.any badB = false) : ∀ k t, t ≤ (levelP cs k).length →
    ∃ a lv, Levels (usedL cs).length (a :: lv) ∧ (∀ x ∈ (leavesP cs).take a, x ∈ (levelP cs k).take t) ∧ (((levelP cs k).take t).flatMap (·.2)).Perm ((a :: lv).map List.range).flatten ∧
      (a :: lv).length ≤ k + 1 ∧ ∀ e, k ≤ e → wid (a :: lv) e = t * 2 ^ e
  | 0, t, ht => by
    have ht' : t ≤ (leavesP cs).length := ht
    refine ⟨t, [], ⟨fun a ha => ?_, List.pairwise_singleton _ _⟩, fun x hx => hx, ?_, Nat.le_refl _, fun e _ => by simp [wid]⟩
    · rw [List.mem_singleton.1 ha, ← leavesP_len]; exact ht'
    · show (((leavesP cs).take t).flatMap (·.2)).Perm _
      rw [leaves_flat cs t ht']
      simp
  | k + 1, t, ht => by
    have hlen := levelP_len0 cs k
    obtain ⟨a, b, h1, h2, h3, h4, h5⟩ := merge_split t (leavesP cs) (pairsP (levelP cs k)) (leavesP_sorted cs) (by rw [leavesP_len, pairsP_len]; omega)
    rw [pairsP_len] at h3
    have h2b : 2 * b ≤ (levelP cs k).length := by omega
    obtain ⟨a', lv', hL, hM, hP, hlen', hW⟩ := levels cs hb k (2 * b) h2b
    have haa : a' ≤ a := by
      refine Nat.le_of_not_lt fun hlt => ?_
      have ha'N : a' ≤ (leavesP cs).length := by rw [leavesP_len]; exact hL.le a' List.mem_cons_self
      have haN : a < (leavesP cs).length := by omega
      have hx : (leavesP cs)[a] ∈ (levelP cs k).take (2 * b) := hM _ (List.mem_take_iff_getElem.2 ⟨a, by omega, rfl⟩)
      obtain ⟨j, hj, hxj⟩ := List.mem_take_iff_getElem.1 hx
      have hj2 : j < 2 * b := by omega
      have hb1 : 1 ≤ b := by omega
      have hy := pairsP_get (levelP cs k) (b - 1) (by omega)
      have hbl : b - 1 < (pairsP (levelP cs k)).length := by rw [pairsP_len]; omega
      rw [List.getElem?_eq_getElem hbl, Option.some.injEq] at hy
      have h6 := h5 _ (List.mem_take_iff_getElem.2 ⟨b - 1, by omega, rfl⟩) (leavesP cs)[a] (List.mem_drop_iff_getElem.2 ⟨0, by omega, by simp⟩)
      rw [hy] at h6
      have hn : ∀ i (h : i < (levelP cs k).length), 0 ≤ (levelP cs k)[i].1 := fun i h => (levelP_ok cs hb k _ (List.getElem_mem h)).1
      have hn1 := hn (2 * (b - 1)) (by omega)
      have h7 : (levelP cs k)[j].1 ≤ ((levelP cs k)[2 * (b - 1) + 1]'(by omega)).1 := by
        by_cases hje : j = 2 * (b - 1) + 1
        · subst hje; exact Int.le_refl _
        · exact List.pairwise_iff_getElem.1 (levelP_sorted cs k) j (2 * (b - 1) + 1) (by omega) (by omega) (by omega)
      rw [hxj] at h7
      simp only at h6
      omega
    refine ⟨a, a' :: lv', ⟨?_, ?_⟩, ?_, ?_, ?_, ?_⟩
    · intro c hc
      rcases List.mem_cons.1 hc with rfl | hc
      · rw [← leavesP_len]; exact h2
      · exact hL.le c hc
    · refine List.pairwise_cons.2 ⟨fun c hc => ?_, hL.mono⟩
      rcases List.mem_cons.1 hc with rfl | hc
      · exact haa
      · have := (List.pairwise_cons.1 hL.mono).1 c hc
        omega
    · intro x hx
      exact h4.mem_iff.2 (List.mem_append_left _ hx)
    · refine (List.Perm.flatMap_right (·.2) h4).trans ?_
      rw [List.flatMap_append, leaves_flat cs a h2, pairs_flat b _ h2b]
      rw [List.map_cons, List.flatten_cons]
      exact List.Perm.append_left _ hP
    · simp only [List.length_cons] at hlen' ⊢
      omega
    · intro e he
      rw [wid, hW (e - 1) (by omega), ← h1]
      have : 2 ^ e = 2 * 2 ^ (e - 1) := by
        rw [← Nat.pow_succ']
        congr 1
        omega
      rw [this, Nat.add_mul]
      congr 1
      rw [Nat.mul_comm 2 b, Nat.mul_assoc]

end Go.Proofs.YtmpokiflhijnoaaGreatDoor.Mg

/-
  Merge, plain law: what the lengths of two symbols and more are: at most so many bits, and a full code.
-/
namespace Go.Proofs.YtmpokiflhijnoaaGreatDoor.Mg
set_option linter.unusedVariables false
set_option linter.unusedSimpArgs false

def sumTo (f : Nat → Nat) : Nat → Nat
  | 0 => 0
  | n + 1 => sumTo f n + f n
theorem sumTo_congr {f g : Nat → Nat} : ∀ n, (∀ i, i < n → f i = g i) → sumTo f n = sumTo g n
  | 0, _ => rfl
  | n + 1, h => by
    rw [sumTo, sumTo, sumTo_congr n (fun i hi => h i (by omega)), h n (by omega)]
theorem sumTo_tail {f : Nat → Nat} {c a : Nat} : ∀ d, (∀ i, a ≤ i → i < a + d → f i = c) → sumTo f (a + d) = sumTo f a + d * c
  | 0, _ => by simp
  | d + 1, h => by
    rw [show a + (d + 1) = (a + d) + 1 by omega, sumTo, sumTo_tail d (fun i h1 h2 => h i h1 (by omega)), h (a + d) (by omega) (by omega), Nat.succ_mul]
    omega
theorem sumTo_ge {f : Nat → Nat} : ∀ n, (∀ i, i < n → 1 ≤ f i) → n ≤ sumTo f n
  | 0, _ => Nat.le_refl _
  | n + 1, h => by
    have h1 := sumTo_ge n (fun i hi => h i (by omega))
    have h2 := h n (by omega)
    rw [sumTo]
    omega
theorem sumTo_one {f : Nat → Nat} : ∀ n, (∀ i, i < n → 1 ≤ f i) → ∀ i, i < n → f i + (n - 1) ≤ sumTo f n
  | 0, _, i, hi => by omega
  | n + 1, h, i, hi => by
    rw [sumTo]
    by_cases e : i = n
    · subst e
      have h1 := sumTo_ge i (fun j hj => h j (by omega))
      omega
    · have h1 := sumTo_one n (fun j hj => h j (by omega)) i (by omega)
      have h2 := h n (by omega)
      omega

/-- On how many levels a place is. -/
def hits : List Nat → Nat → Nat
  | [], _ => 0
  | a :: r, i => (if i < a then 1 else 0) + hits r i
theorem hits_le : ∀ (lv : List Nat) (i : Nat), hits lv i ≤ lv.length
  | [], _ => Nat.le_refl _
  | a :: r, i => by
    have := hits_le r i
    rw [hits, List.length_cons]
    split <;> omega
theorem hits_zero : ∀ (lv : List Nat) (i a : Nat), (∀ b ∈ lv, b ≤ a) → a ≤ i → hits lv i = 0
  | [], _, _, _, _ => rfl
  | b :: r, i, a, h, hi => by
    have h1 := h b List.mem_cons_self
    rw [hits, hits_zero r i a (fun c hc => h c (List.mem_cons_of_mem _ hc)) hi, if_neg (by omega)]
theorem hits_mono : ∀ (lv : List Nat) (i j : Nat), i ≤ j → hits lv j ≤ hits lv i
  | [], _, _, _ => Nat.le_refl _
  | a :: r, i, j, h => by
    have := hits_mono r i j h
    rw [hits, hits]
    split <;> split <;> omega

theorem kraft : ∀ (lv : List Nat) (n e : Nat), Levels n lv → lv.length ≤ e → sumTo (fun i => 2 ^ (e - hits lv i)) n + wid lv (e - 1) = n * 2 ^ e
  | [], n, e, _, _ => by
    have h := sumTo_tail (f := fun i => 2 ^ (e - hits [] i)) (c := 2 ^ e) (a := 0) n (fun i _ _ => rfl)
    rw [Nat.zero_add] at h
    rw [h]
    simp [sumTo, wid]
  | a :: r, n, 0, _, h => by simp at h
  | a :: r, n, e + 1, hL, h => by
    have han := hL.le a List.mem_cons_self
    have hr := List.pairwise_cons.1 hL.mono
    have ih := kraft r a e ⟨fun b hb => hr.1 b hb, hr.2⟩ (by simpa using h)
    obtain ⟨d, rfl⟩ : ∃ d, n = a + d := ⟨n - a, by omega⟩
    rw [sumTo_tail (c := 2 ^ (e + 1)) d (fun i h1 h2 => by rw [hits_zero (a :: r) i a (fun b hb => by rcases List.mem_cons.1 hb with rfl | hb; exact Nat.le_refl _; exact hr.1 b hb) h1]; rfl)]
    rw [sumTo_congr (g := fun i => 2 ^ (e - hits r i)) a (fun i hi => by
      show 2 ^ (e + 1 - hits (a :: r) i) = _
      rw [hits, if_pos hi]
      congr 1
      omega)]
    rw [wid, Nat.add_sub_cancel, Nat.add_mul]
    have hp : 2 ^ (e + 1) = 2 ^ e + 2 ^ e := by rw [Nat.pow_succ]; omega
    have e1 : a * 2 ^ (e + 1) = a * 2 ^ e + a * 2 ^ e := by rw [hp, Nat.mul_add]
    omega

theorem count_range (i : Nat) : ∀ a, (List.range a).count i = if i < a then 1 else 0
  | 0 => by simp
  | a + 1 => by
    rw [List.range_succ, List.count_append, count_range i a, List.count_singleton]
    by_cases h : a = i
    · subst h; simp
    · have hb : (a == i) = false := by simpa using h
      rw [hb]
      by_cases h2 : i < a
      · simp [h2]; omega
      · simp [h2]; omega
theorem count_levels (i : Nat) : ∀ lv : List Nat, ((lv.map List.range).flatten).count i = hits lv i
  | [] => rfl
  | a :: r => by
    rw [List.map_cons, List.flatten_cons, List.count_append, count_range, count_levels i r, hits]

theorem nodup_inj {l : List Nat} (h : l.Nodup) {i j : Nat} (hi : i < l.length) (hj : j < l.length) (e : l[i] = l[j]) : i = j := by
  rcases Nat.lt_trichotomy i j with h1 | h1 | h1
  · exact absurd e (List.pairwise_iff_getElem.1 h i j hi hj h1)
  · exact h1
  · exact absurd e.symm (List.pairwise_iff_getElem.1 h j i hj hi h1)

theorem snoc_ind {α : Type} {m : List α → Prop} (h0 : m []) (h1 : ∀ l a, m l → m (l ++ [a])) (l : List α) : m l := by
  have h : ∀ r : List α, m r.reverse := by
    intro r
    induction r with
    | nil => exact h0
    | cons a r ih => rw [List.reverse_cons]; exact h1 _ _ ih
  have := h l.reverse
  rwa [List.reverse_reverse] at this

/-- What is counted at a place of the order. -/
theorem outP_at (n : Nat) (ord : List Nat) (hnd : ord.Nodup) (hlt : ∀ s ∈ ord, s < n) (ks : List Nat) (hk : ∀ k ∈ ks, k < ord.length) (i : Nat) (hi : i < ord.length) :
    (outP n ord ks)[ord[i]]'(by rw [outP_len]; exact hlt _ (List.getElem_mem hi)) = (ks.count i : Int) := by
  revert hk
  refine snoc_ind (m := fun ks => (∀ k ∈ ks, k < ord.length) → (outP n ord ks)[ord[i]]'(by rw [outP_len]; exact hlt _ (List.getElem_mem hi)) = (ks.count i : Int)) ?_ ?_ ks
  · intro _
    simp [outP]
  · intro ks k ih hk
    have hs : ord[i] < n := hlt _ (List.getElem_mem hi)
    have hkl : k < ord.length := hk k (by simp)
    have h1 := ih (fun j hj => hk j (by simp [hj]))
    have h2 := bump_get ord (outP n ord ks) k ord[i] (by rw [outP_len]; exact hs)
    rw [← outP_snoc, List.getElem?_eq_getElem (by rw [outP_len]; exact hs), Option.some.injEq, h1] at h2
    rw [h2, List.count_append, List.count_singleton]
    have e : ord.getD k 0 = ord[k] := by rw [List.getD_eq_getElem?_getD, List.getElem?_eq_getElem hkl]; rfl
    rw [e]
    by_cases h : k = i
    · subst h; simp
    · have hne : ord[k] ≠ ord[i] := fun e => h (nodup_inj hnd hkl hi e)
      have hb : (k == i) = false := by simpa using h
      rw [if_neg hne, hb]
      simp
theorem outP_off (n : Nat) (ord : List Nat) (ks : List Nat) (hk : ∀ k ∈ ks, k < ord.length) (s : Nat) (hs : s < n) (hso : s ∉ ord) : (outP n ord ks)[s]'(by rw [outP_len]; exact hs) = 0 := by
  revert hk
  refine snoc_ind (m := fun ks => (∀ k ∈ ks, k < ord.length) → (outP n ord ks)[s]'(by rw [outP_len]; exact hs) = 0) ?_ ?_ ks
  · intro _
    simp [outP]
  · intro ks k ih hk
    have hkl : k < ord.length := hk k (by simp)
    have h1 := ih (fun j hj => hk j (by simp [hj]))
    have h2 := bump_get ord (outP n ord ks) k s (by rw [outP_len]; exact hs)
    rw [← outP_snoc, List.getElem?_eq_getElem (by rw [outP_len]; exact hs), Option.some.injEq, h1] at h2
    have e : ord.getD k 0 = ord[k] := by rw [List.getD_eq_getElem?_getD, List.getElem?_eq_getElem hkl]; rfl
    rw [h2, e, if_neg (fun e => hso (by rw [← e]; exact List.getElem_mem hkl))]

/-- The places below k whose counts are above 0, as plain numbers. -/
def posL (cs : List Int) (k : Nat) : List Nat := (idxTo cs k).map fun s => s.1.toNat
theorem posL_succ (cs : List Int) (k : Nat) (h : k < cs.length) : posL cs (k + 1) = if 0 < cs[k] then posL cs k ++ [k] else posL cs k := by
  unfold posL
  conv => lhs; unfold idxTo
  rw [dif_pos h]
  split
  · rw [List.map_append]; rfl
  · rfl
theorem posL_mem (cs : List Int) : ∀ k, k ≤ cs.length → ∀ s, s ∈ posL cs k ↔ s < k ∧ 0 < cs.getD s 0
  | 0, _, s => by simp [posL, idxTo]
  | k + 1, h, s => by
    have ih := posL_mem cs k (by omega) s
    have e : cs.getD k 0 = cs[k] := by rw [List.getD_eq_getElem?_getD, List.getElem?_eq_getElem (by omega)]; rfl
    rw [posL_succ cs k (by omega)]
    split
    · rename_i hp
      rw [List.mem_append, ih, List.mem_singleton]
      constructor
      · rintro (h1 | rfl)
        · exact ⟨by omega, h1.2⟩
        · exact ⟨by omega, by rw [e]; exact hp⟩
      · intro h1
        by_cases h2 : s = k
        · exact .inr h2
        · exact .inl ⟨by omega, h1.2⟩
    · rename_i hp
      rw [ih]
      constructor
      · intro h1; exact ⟨by omega, h1.2⟩
      · intro h1
        refine ⟨?_, h1.2⟩
        by_cases h2 : s = k
        · subst h2; rw [e] at h1; exact absurd h1.2 hp
        · omega
theorem posL_lt (cs : List Int) : ∀ k, k ≤ cs.length → (posL cs k).Pairwise (· < ·)
  | 0, _ => List.Pairwise.nil
  | k + 1, h => by
    rw [posL_succ cs k (by omega)]
    have ih := posL_lt cs k (by omega)
    split
    · refine List.pairwise_append.2 ⟨ih, List.pairwise_singleton _ _, fun a ha b hb => ?_⟩
      rw [List.mem_singleton.1 hb]
      exact ((posL_mem cs k (by omega) a).1 ha).1
    · exact ih
theorem ordP_perm (cs : List Int) : (ordP cs).Perm (posL cs cs.length) := (usedL_perm cs).map _
theorem ordP_nodup (cs : List Int) : (ordP cs).Nodup := (ordP_perm cs).nodup_iff.2 ((posL_lt cs cs.length (Nat.le_refl _)).imp (fun h => Nat.ne_of_lt h))
theorem ordP_mem (cs : List Int) (s : Nat) : s ∈ ordP cs ↔ s < cs.length ∧ 0 < cs.getD s 0 := (ordP_perm cs).mem_iff.trans (posL_mem cs cs.length (Nat.le_refl _) s)

theorem sum_posL (cs : List Int) (G : Nat → Nat) (hG : ∀ s, s < cs.length → ¬ 0 < cs.getD s 0 → G s = 0) : ∀ k, k ≤ cs.length → sumTo G k = ((posL cs k).map G).sum
  | 0, _ => rfl
  | k + 1, h => by
    have e : cs.getD k 0 = cs[k] := by rw [List.getD_eq_getElem?_getD, List.getElem?_eq_getElem (by omega)]; rfl
    rw [sumTo, sum_posL cs G hG k (by omega), posL_succ cs k (by omega)]
    split
    · rw [List.map_append, List.sum_append]; simp
    · rename_i hp
      rw [hG k (by omega) (by rw [e]; exact hp)]
      omega
theorem sum_list (l : List Nat) (G : Nat → Nat) : (l.map G).sum = sumTo (fun i => G (l.getD i 0)) l.length := by
  refine snoc_ind (m := fun l => (l.map G).sum = sumTo (fun i => G (l.getD i 0)) l.length) rfl ?_ l
  intro l a ih
  rw [List.map_append, List.sum_append, ih, List.length_append]
  simp only [List.length_singleton, List.map_cons, List.map_nil, List.sum_cons, List.sum_nil, Nat.add_zero, sumTo]
  congr 1
  · refine sumTo_congr _ fun i hi => ?_
    rw [List.getD_eq_getElem?_getD, List.getD_eq_getElem?_getD, List.getElem?_append_left hi]
  · simp [List.getD_eq_getElem?_getD]
theorem sum_ord (cs : List Int) (G : Nat → Nat) (hG : ∀ s, s < cs.length → ¬ 0 < cs.getD s 0 → G s = 0) : sumTo G cs.length = sumTo (fun i => G ((ordP cs).getD i 0)) (ordP cs).length := by
  rw [sum_posL cs G hG _ (Nat.le_refl _), ← sum_list]
  exact ((ordP_perm cs).map G).sum_nat.symm

theorem getD_get {α : Type} (l : List α) (i : Nat) (h : i < l.length) (d : α) : l.getD i d = l[i] := by
  rw [List.getD_eq_getElem?_getD, List.getElem?_eq_getElem h]; rfl

/-- What the lengths of two symbols and more are. -/
theorem lens_levels (cs : List Int) (most : Int) (hb : badArg cs most = false) (hN : 2 ≤ (usedL cs).length) (hm : ((usedL cs).length : Int) ≤ (2 : Int) ^ most.toNat) :
    ∃ lv, Levels (usedL cs).length lv ∧ lv.length ≤ most.toNat ∧ (∀ i, i < (usedL cs).length → (lensP cs most).getD ((ordP cs).getD i 0) 0 = hits lv i ∧ 1 ≤ hits lv i) ∧
      (∀ s, s < cs.length → ¬ 0 < cs.getD s 0 → (lensP cs most).getD s 0 = 0) ∧ sumTo (fun i => 2 ^ (most.toNat - hits lv i)) (usedL cs).length = 2 ^ most.toNat := by
  obtain ⟨h1, h2, h3, h4⟩ := badArg_facts hb
  obtain ⟨m, hm1⟩ : ∃ m, most.toNat = m + 1 := ⟨most.toNat - 1, by omega⟩
  have hlow := levelP_low cs m 1 (by rw [← hm1]; exact_mod_cast hm)
  obtain ⟨a, lv, hL, _, hP, hlen, hW⟩ := levels cs h2 m (2 * (usedL cs).length - 2) (by omega)
  have hlens : lensP cs most = outP cs.length (ordP cs) (takenP cs most) := by unfold lensP; rw [if_neg (by omega)]
  have htk : takenP cs most = ((levelP cs m).take (2 * (usedL cs).length - 2)).flatMap (·.2) := by
    unfold takenP
    rw [hm1, Nat.add_sub_cancel]
  have hks : ∀ k ∈ takenP cs most, k < (ordP cs).length := by
    intro k hk
    rw [htk] at hk
    obtain ⟨p, hp, hkp⟩ := List.mem_flatMap.1 hk
    rw [ordP_len]
    exact (levelP_ok cs h2 m p (List.mem_of_mem_take hp)).2.2.2.2 k hkp
  have hcount : ∀ i, (takenP cs most).count i = hits (a :: lv) i := fun i => by rw [htk, hP.count_eq, count_levels]
  have hkr := kraft (a :: lv) (usedL cs).length (m + 1) hL hlen
  rw [Nat.add_sub_cancel, hW m (Nat.le_refl _)] at hkr
  have hsum : sumTo (fun i => 2 ^ (m + 1 - hits (a :: lv) i)) (usedL cs).length = 2 ^ (m + 1) := by
    obtain ⟨n, hn⟩ : ∃ n, (usedL cs).length = n + 2 := ⟨(usedL cs).length - 2, by omega⟩
    rw [hn] at hkr ⊢
    have e1 : (n + 2) * 2 ^ (m + 1) = (2 * (n + 2) - 2) * 2 ^ m + 2 ^ (m + 1) := by
      rw [show 2 * (n + 2) - 2 = (n + 1) * 2 by omega, Nat.mul_assoc, ← Nat.pow_succ', Nat.succ_mul]
    omega
  refine ⟨a :: lv, hL, by rw [hm1]; exact hlen, fun i hi => ?_, fun s hs hns => ?_, by rw [hm1]; exact hsum⟩
  · have hi' : i < (ordP cs).length := by rw [ordP_len]; exact hi
    have h5 := outP_at cs.length (ordP cs) (ordP_nodup cs) (ordP_lt cs) (takenP cs most) hks i hi'
    have hs : (ordP cs)[i] < (outP cs.length (ordP cs) (takenP cs most)).length := by rw [outP_len]; exact ordP_lt cs _ (List.getElem_mem hi')
    refine ⟨by rw [getD_get _ i hi', hlens, getD_get _ _ hs, h5, hcount], ?_⟩
    refine Nat.one_le_iff_ne_zero.2 fun h0 => ?_
    have h6 := sumTo_one (f := fun i => 2 ^ (m + 1 - hits (a :: lv) i)) (usedL cs).length (fun j _ => Nat.one_le_two_pow) i hi
    rw [hsum] at h6
    simp only [h0, Nat.sub_zero] at h6
    omega
  · rw [hlens, getD_get _ s (by rw [outP_len]; exact hs)]
    exact outP_off _ _ _ hks s hs (fun h => hns ((ordP_mem cs s).1 h).2)

end Go.Proofs.YtmpokiflhijnoaaGreatDoor.Mg

