/-
  Merge: what 'Lengths' computes, in plain words: the levels' lists of packs.
-/
import Derived.Test.YtnoplhjbachjiaaMgJoined2
import Derived.Test.YtnoplhjbachjiaaMgWrong2
namespace Go.Proofs.Ytnoplhjbachjiaa.Mg
open Go.ChangeShapes Go.WideShapes Go.ChangeAt Go.RowKit Go.Shelf Go.Proofs
set_option linter.unusedVariables false
set_option linter.unusedSimpArgs false

/-- The places of the symbols that come, the rarest first. -/
def ordP (cs : List Int) : List Nat := (usedL cs).map fun s => s.1.toNat
theorem ordP_len (cs : List Int) : (ordP cs).length = (usedL cs).length := by simp [ordP]
theorem ordP_get (cs : List Int) (k : Nat) (h : k < (usedL cs).length) : (ordP cs)[k]'(by simp [ordP]; exact h) = (usedL cs)[k].1.toNat := by simp [ordP]
theorem ordP_lt (cs : List Int) : ∀ s ∈ ordP cs, s < cs.length := by
  intro s hs
  obtain ⟨x, _, rfl⟩ := List.mem_map.1 hs
  have := x.2
  omega

/-- The leaves: a pack of each symbol that comes. -/
def leavesP (cs : List Int) : List (Int × List Nat) := (ordP cs).mapIdx fun i s => (cs.getD s 0, [i])
theorem leavesP_len (cs : List Int) : (leavesP cs).length = (usedL cs).length := by simp [leavesP, ordP_len]

/-- The list of packs behind k joinings. -/
def levelP (cs : List Int) : Nat → List (Int × List Nat)
  | 0 => leavesP cs
  | k + 1 => joinP (leavesP cs) (pairsP (levelP cs k))

theorem joinP_len (a b : List (Int × List Nat)) : (joinP a b).length = a.length + b.length := by
  unfold joinP
  exact List.length_merge _ _ _
theorem joinP_mem (a b : List (Int × List Nat)) (x : Int × List Nat) : x ∈ joinP a b ↔ x ∈ a ∨ x ∈ b := by
  unfold joinP
  exact List.mem_merge

theorem levelP_len0 (cs : List Int) (k : Nat) : (levelP cs (k + 1)).length = (usedL cs).length + (levelP cs k).length / 2 := by
  show (joinP _ _).length = _
  rw [joinP_len, pairsP_len, leavesP_len]

/-- How many packs there are at least. -/
theorem levelP_low (cs : List Int) : ∀ k j, (usedL cs).length ≤ 2 ^ (k + j) → 2 * (usedL cs).length ≤ (levelP cs k).length + 2 ^ j
  | 0, j, h => by
    have h1 : (levelP cs 0).length = (usedL cs).length := leavesP_len cs
    rw [Nat.zero_add] at h
    omega
  | k + 1, j, h => by
    have h1 := levelP_low cs k (j + 1) (by rw [show k + (j + 1) = k + 1 + j by omega]; exact h)
    have h2 := levelP_len0 cs k
    rw [Nat.pow_succ] at h1
    omega
theorem levelP_high (cs : List Int) : ∀ k, (levelP cs k).length ≤ 2 * (usedL cs).length
  | 0 => by have h1 : (levelP cs 0).length = (usedL cs).length := leavesP_len cs; omega
  | k + 1 => by
    have h1 := levelP_high cs k
    have h2 := levelP_len0 cs k
    omega
theorem levelP_low0 (cs : List Int) : ∀ k, (usedL cs).length ≤ (levelP cs k).length
  | 0 => by have h1 : (levelP cs 0).length = (usedL cs).length := leavesP_len cs; omega
  | k + 1 => by
    have h2 := levelP_len0 cs k
    omega

theorem pairsP_all {Q R : Int × List Nat → Prop} (h : ∀ a b, Q a → Q b → R (a.1 + b.1, a.2 ++ b.2)) : ∀ l, (∀ x ∈ l, Q x) → ∀ x ∈ pairsP l, R x
  | [], _, x, hx => by cases hx
  | [_], _, x, hx => by cases hx
  | a :: b :: r, hq, x, hx => by
    rcases List.mem_cons.1 hx with rfl | hx
    · exact h a b (hq a (by simp)) (hq b (by simp))
    · exact pairsP_all h r (fun y hy => hq y (by simp [hy])) x hx

/-- What each pack is like. -/
def PackOk (N k : Nat) (p : Int × List Nat) : Prop := 0 ≤ p.1 ∧ p.1 ≤ 1099511627776 * 2 ^ k ∧ 1 ≤ p.2.length ∧ p.2.length ≤ 2 ^ k ∧ ∀ i ∈ p.2, i < N

theorem leavesP_ok (cs : List Int) (hb : cs.any badB = false) : ∀ p ∈ leavesP cs, PackOk (usedL cs).length 0 p := by
  intro p hp
  unfold leavesP at hp
  obtain ⟨i, hi, rfl⟩ := List.mem_mapIdx.1 hp
  rw [ordP_len] at hi
  have h1 : (ordP cs)[i] < cs.length := ordP_lt cs _ (List.getElem_mem _)
  have h2 : badB cs[(ordP cs)[i]] = false := by
    have := List.any_eq_false.1 hb cs[(ordP cs)[i]] (List.getElem_mem h1)
    simpa using this
  have h3 : cs.getD (ordP cs)[i] 0 = cs[(ordP cs)[i]] := by rw [List.getD_eq_getElem?_getD, List.getElem?_eq_getElem h1]; rfl
  unfold badB at h2
  simp only [Bool.or_eq_false_iff, decide_eq_false_iff_not] at h2
  refine ⟨?_, ?_, Nat.le_refl _, Nat.le_refl _, ?_⟩
  · rw [h3]; omega
  · rw [h3]; omega
  · intro j hj
    obtain rfl := List.mem_singleton.1 hj
    exact hi

theorem levelP_ok (cs : List Int) (hb : cs.any badB = false) : ∀ k, ∀ p ∈ levelP cs k, PackOk (usedL cs).length k p
  | 0 => leavesP_ok cs hb
  | k + 1 => by
    intro p hp
    have hpow : (2 : Int) ^ (k + 1) = 2 * 2 ^ k := by rw [Int.pow_succ]; omega
    have hpos : (1 : Int) ≤ 2 ^ k := by
      have : (0 : Int) < 2 ^ k := Int.pow_pos (by omega)
      omega
    have hpn : 2 ^ (k + 1) = 2 * 2 ^ k := by rw [Nat.pow_succ]; omega
    have hpn1 : 1 ≤ 2 ^ k := Nat.one_le_two_pow
    rcases (joinP_mem _ _ _).1 hp with h | h
    · obtain ⟨h1, h2, h3, h4, h5⟩ := leavesP_ok cs hb p h
      refine ⟨h1, ?_, h3, ?_, h5⟩
      · rw [hpow]; simp at h2; omega
      · rw [hpn]; simp at h4; omega
    · refine pairsP_all (Q := PackOk (usedL cs).length k) (R := PackOk (usedL cs).length (k + 1)) ?_ _ (levelP_ok cs hb k) p h
      intro a b ⟨a1, a2, a3, a4, a5⟩ ⟨b1, b2, b3, b4, b5⟩
      refine ⟨by show 0 ≤ a.1 + b.1; omega, ?_, by simp; omega, ?_, ?_⟩
      · show a.1 + b.1 ≤ _; rw [hpow]; omega
      · simp; omega
      · intro i hi
        rcases List.mem_append.1 hi with h | h
        · exact a5 i h
        · exact b5 i h

/-- The words' lengths: how often each place is in packs. -/
def bump (ord : List Nat) (o : List Int) (i : Nat) : List Int := o.modify (ord.getD i 0) (· + 1)
def outP (n : Nat) (ord ks : List Nat) : List Int := ks.foldl (bump ord) (List.replicate n 0)
/-- The places of the packs that are taken. -/
def takenP (cs : List Int) (most : Int) : List Nat := ((levelP cs (most.toNat - 1)).take (2 * (usedL cs).length - 2)).flatMap (·.2)
def lensP (cs : List Int) (most : Int) : List Int :=
  if (usedL cs).length < 2 then (ordP cs).foldl (fun o s => o.set s 1) (List.replicate cs.length 0) else outP cs.length (ordP cs) (takenP cs most)

theorem bump_len (ord : List Nat) (o : List Int) (i : Nat) : (bump ord o i).length = o.length := by simp [bump]
theorem outP_len (n : Nat) (ord : List Nat) : ∀ ks : List Nat, (outP n ord ks).length = n := by
  intro ks
  unfold outP
  suffices h : ∀ o : List Int, (ks.foldl (bump ord) o).length = o.length by rw [h]; simp
  induction ks with
  | nil => intro o; rfl
  | cons k ks ih => intro o; rw [List.foldl_cons, ih, bump_len]
theorem outP_snoc (n : Nat) (ord ks : List Nat) (i : Nat) : outP n ord (ks ++ [i]) = bump ord (outP n ord ks) i := by
  unfold outP
  rw [List.foldl_append]
  rfl
theorem set_len (ks : List Nat) : ∀ o : List Int, (ks.foldl (fun o s => o.set s 1) o).length = o.length := by
  induction ks with
  | nil => intro o; rfl
  | cons k ks ih => intro o; rw [List.foldl_cons, ih]; simp
theorem lensP_len (cs : List Int) (most : Int) : (lensP cs most).length = cs.length := by
  unfold lensP
  split
  · rw [set_len]; simp
  · exact outP_len _ _ _

theorem bump_get (ord : List Nat) (o : List Int) (i j : Nat) (h : j < o.length) : (bump ord o i)[j]? = some (if ord.getD i 0 = j then o[j] + 1 else o[j]) := by
  unfold bump
  rw [List.getElem?_modify, List.getElem?_eq_getElem h]
  split <;> rfl

/-- The counts stay small. -/
theorem bump_bound (ord : List Nat) (o : List Int) (i : Nat) (m : Nat) (h : ∀ x ∈ o, 0 ≤ x ∧ x ≤ m) : ∀ x ∈ bump ord o i, 0 ≤ x ∧ x ≤ (m + 1 : Nat) := by
  intro x hx
  obtain ⟨j, hj, rfl⟩ := List.mem_iff_getElem.1 hx
  have hj' : j < o.length := by rw [bump_len] at hj; exact hj
  have e := bump_get ord o i j hj'
  rw [List.getElem?_eq_getElem hj, Option.some.injEq] at e
  rw [e]
  have := h o[j] (List.getElem_mem hj')
  split <;> omega
theorem outP_bound (n : Nat) (ord ks : List Nat) : ∀ x ∈ outP n ord ks, 0 ≤ x ∧ x ≤ ks.length := by
  unfold outP
  suffices h : ∀ (o : List Int) (m : Nat), (∀ x ∈ o, 0 ≤ x ∧ x ≤ m) → ∀ x ∈ ks.foldl (bump ord) o, 0 ≤ x ∧ x ≤ (m + ks.length : Nat) by
    have := h (List.replicate n 0) 0 (by intro x hx; rw [(List.mem_replicate.1 hx).2]; omega)
    simpa using this
  induction ks with
  | nil => intro o m h; simpa using h
  | cons k ks ih =>
    intro o m h x hx
    rw [List.foldl_cons] at hx
    have := ih (bump ord o k) (m + 1) (bump_bound ord o k m h) x hx
    simp only [List.length_cons]
    omega

end Go.Proofs.Ytnoplhjbachjiaa.Mg
