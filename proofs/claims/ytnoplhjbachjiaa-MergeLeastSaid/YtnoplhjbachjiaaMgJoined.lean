/-
  Merge: two lists of packs by rising costs, the first one's first.
-/
import Derived.Test.YtnoplhjbachjiaaMgPairs
namespace Go.Proofs.Ytnoplhjbachjiaa.Mg
open Go.ChangeShapes Go.WideShapes Go.ChangeAt Go.RowKit Go.Shelf Go.Proofs
set_option linter.unusedVariables false
set_option linter.unusedSimpArgs false

def leP (x y : Int × List Nat) : Bool := decide (x.1 ≤ y.1)
def joinP (a b : List (Int × List Nat)) : List (Int × List Nat) := List.merge a b leP
def slen : Value → Nat | .slice _ n _ => n | _ => 0

theorem three_cells (w : World) (u v x : Value) (t : TypeId) : ∀ j (h : j < 3), (w.alloc (.cells #[u, v, x] t)).cell? ⟨w.heap.size, j, none⟩ = some (if j = 0 then u else if j = 1 then v else x) := by
  intro j hj
  simp only [World.cell?]
  rw [heap_new]
  rcases j with _ | _ | _ | j
  · rfl
  · rfl
  · rfl
  · omega

theorem pcells_one {w : World} {qs : List PV} (h : Ins w qs) : ∀ u ∈ pcells qs, u.oneCell' = true := by
  intro u hu
  unfold pcells at hu
  obtain ⟨q, hq, hu⟩ := List.mem_flatMap.1 hu
  obtain ⟨_, g, o, c, cur, fr, hv, _⟩ := h q hq
  simp only [List.mem_cons, List.not_mem_nil, or_false] at hu
  rcases hu with rfl | rfl
  · rfl
  · rw [hv]; rfl

/-- slices.Concat of three rows of packs. -/
theorem concat_three (v1 v2 v3 : Value) (a b d : List PV) (w : World) (h1 : Rd w 38 2 v1 a.length (pcells a)) (h2 : Rd w 38 2 v2 b.length (pcells b)) (h3 : Rd w 38 2 v3 d.length (pcells d))
    (i1 : Ins w a) (i2 : Ins w b) (i3 : Ins w d) (hp : 0 < a.length) (hb : a.length + b.length + d.length ≤ 1000000) :
    Calls Try.prog 28 #[.slice (some ⟨w.heap.size, 0, none⟩) 3 3] (w.alloc (.cells #[v1, v2, v3] 36)) fun e w' => ∃ v, e = .returned v ∧ w'.ownsRow w.heap.size 38 2 v (a ++ b ++ d).length (pcells (a ++ b ++ d)) ∧ Ins w' (a ++ b ++ d) ∧ Below w.heap.size w w' := by
  have hB0 : Below w.heap.size w (w.alloc (.cells #[v1, v2, v3] 36)) := (Below.refl w.heap.size w).alloc (Nat.le_refl _) _
  have hsz : (w.alloc (.cells #[v1, v2, v3] 36)).heap.size = w.heap.size + 1 := by
    show (w.heap.push _).size = _
    simp
  refine (cp_calls w.heap.size 3 [(v1, a.length, pcells a), (v2, b.length, pcells b), (v3, d.length, pcells d)] _ ?_ ?_ ?_ ?_ ?_ (by simp)).mono ?_
  · intro j hj
    have hj2 : j < 3 := by simpa using hj
    rw [three_cells w v1 v2 v3 _ j hj2]
    rcases j with _ | _ | _ | j
    · rfl
    · rfl
    · rfl
    · omega
  · intro j hj
    have hj2 : j < 3 := by simpa using hj
    rcases j with _ | _ | _ | j
    · exact h1.below hB0
    · exact h2.below hB0
    · exact h3.below hB0
    · omega
  · intro j hj
    have hj2 : j < 3 := by simpa using hj
    rcases j with _ | _ | _ | j
    · exact pcells_one i1
    · exact pcells_one i2
    · exact pcells_one i3
    · omega
  · simp [cp_sum]; omega
  · simp [cp_sum]; omega
  · rintro e w' ⟨v, rfl, ho, hb2⟩
    have e1 : cp_sum [(v1, a.length, pcells a), (v2, b.length, pcells b), (v3, d.length, pcells d)] 3 = (a ++ b ++ d).length := by simp [cp_sum, Nat.add_assoc]
    have e2 : cp_cat [(v1, a.length, pcells a), (v2, b.length, pcells b), (v3, d.length, pcells d)] 3 = pcells (a ++ b ++ d) := by simp [cp_cat, pcells_append]
    have hB : Below w.heap.size w w' := hB0.trans (hb2.mono (by rw [hsz]; omega))
    exact ⟨v, rfl, own_lower (by rw [← e1, ← e2]; exact ho) (by rw [hsz]; omega), ((i1.append i2).append i3).below hB, hB⟩

theorem Rd.tail {w : World} {g o c n : Nat} {q : PV} {r : List PV} (h : Rd w 38 2 (.slice (some ⟨g, o, none⟩) n c) (q :: r).length (pcells (q :: r))) : Rd w 38 2 (.slice (if c = 1 then some ⟨g, o, none⟩ else some ⟨g, o + 2, none⟩) r.length (c - 1)) r.length (pcells r) := by
  obtain ⟨h1, g', o', c', cur, fr, h2, h3, h4, h5⟩ := h
  cases h2
  by_cases hc : c = 1
  · subst hc
    have hr : r.length = 0 := by simp at h3; simp [h3]
    rw [if_pos rfl]
    refine ⟨pcells_len r, g, o, 1 - 1, cur, fr, rfl, by omega, h4, fun j hj => ?_⟩
    rw [pcells_len, hr] at hj
    omega
  · rw [if_neg hc]
    refine ⟨pcells_len r, g, o + 2, c - 1, cur, fr, rfl, by simp at h3; omega, h4, fun j hj => ?_⟩
    have h6 := h5 (j + 2) (by rw [pcells_cons]; simp; omega)
    rw [show o + 2 + j = o + (j + 2) by omega, h6]
    rfl

theorem own_slice' {w : World} {base : Nat} {e : TypeId} {size : Nat} {v : Value} {n : Nat} {xs : List Value} (h : w.ownsRow base e size v n xs) : ∃ A c, v = .slice A n c := by
  obtain ⟨_, ⟨rfl, rfl⟩ | ⟨g, cap, cur, rfl, _⟩⟩ := h
  · exact ⟨none, 0, rfl⟩
  · exact ⟨_, _, rfl⟩

theorem join_nil_left (b : List (Int × List Nat)) : joinP [] b = b := by simp [joinP]
theorem join_nil_right (a : List (Int × List Nat)) : joinP a [] = a := by simp [joinP]
theorem join_left (x y : Int × List Nat) (a b : List (Int × List Nat)) (h : x.1 ≤ y.1) : joinP (x :: a) (y :: b) = x :: joinP a (y :: b) := by
  unfold joinP
  rw [List.cons_merge_cons_pos]
  exact decide_eq_true h
theorem join_right (x y : Int × List Nat) (a b : List (Int × List Nat)) (h : ¬ x.1 ≤ y.1) : joinP (x :: a) (y :: b) = y :: joinP (x :: a) b := by
  unfold joinP
  rw [List.cons_merge_cons_neg]
  simp [leP]; omega

end Go.Proofs.Ytnoplhjbachjiaa.Mg
