/-
  The reference's table as it lies: a row of rows.
-/
import Derived.Test.YtnoplhjbachjiaaMgSorted2
namespace Go.Proofs.Ytnoplhjbachjiaa.Mg
open Go.ChangeShapes Go.WideShapes Go.ChangeAt Go.RowKit Go.Shelf Go.Proofs
set_option linter.unusedVariables false
set_option linter.unusedSimpArgs false

def rowS (n r : Nat) : Value := .slice (some ⟨r, 0, none⟩) (n + 1) (n + 1)
def rowL (n : Nat) (f : Nat → Int) : List Int := (List.range (n + 1)).map f
theorem rowL_len (n : Nat) (f : Nat → Int) : (rowL n f).length = n + 1 := by simp [rowL]
theorem rowL_get (n : Nat) (f : Nat → Int) (k : Nat) (h : k < (rowL n f).length) : (rowL n f)[k] = f k := by simp [rowL]
theorem rowL_set (n : Nat) (f : Nat → Int) (k : Nat) (c : Int) : (rowL n f).set k c = rowL n (fun b => if b = k then c else f b) := by
  apply List.ext_getElem
  · simp [rowL]
  · intro i h1 h2
    rw [List.getElem_set, rowL_get, rowL_get]
    by_cases e : k = i
    · rw [if_pos e, if_pos e.symm]
    · rw [if_neg e, if_neg (fun h => e h.symm)]
theorem rowL_congr (n : Nat) (f h : Nat → Int) (e : ∀ k, k ≤ n → f k = h k) : rowL n f = rowL n h := by
  unfold rowL
  refine List.map_congr_left fun k hk => e k ?_
  have := List.mem_range.1 hk
  omega

/-- The first rows of a table lie; the others are nil. -/
structure PartAt (w : World) (g n : Nat) (rs : List Nat) (f : Tab) : Prop where
  blk : w.heap[g]? = some (.cells (rs.map (rowS n) ++ List.replicate (n + 1 - rs.length) (Value.slice none 0 0)).toArray 22 (0, 0))
  le : rs.length ≤ n + 1
  rows : ∀ i (h : i < rs.length), RowI w rs[i] (rowL n (f i))
  inj : rs.Nodup

theorem PartAt.ne {w : World} {g n : Nat} {rs : List Nat} {f : Tab} (h : PartAt w g n rs f) (i : Nat) (hi : i < rs.length) : g ≠ rs[i] := by
  intro e
  have h1 := h.blk
  have h2 := h.rows i hi
  unfold RowI at h2
  rw [← e, h1] at h2
  simp only [Option.some.injEq, Obj.cells.injEq] at h2
  exact absurd h2.2.1 (by decide)
theorem PartAt.below {w w' : World} {g n : Nat} {rs : List Nat} {f : Tab} (h : PartAt w g n rs f) (hb : Below w.heap.size w w') : PartAt w' g n rs f :=
  ⟨(hb.block g (Array.getElem?_eq_some_iff.1 h.blk).1).trans h.blk, h.le, fun i hi => (h.rows i hi).below hb, h.inj⟩
theorem PartAt.row {w : World} {g n : Nat} {rs : List Nat} {f : Tab} (h : PartAt w g n rs f) (i : Nat) (hi : i < rs.length) : w.cell? ⟨g, i, none⟩ = some (.slice (some ⟨rs[i], 0, none⟩) (n + 1) (n + 1)) := by
  simp only [World.cell?]
  rw [h.blk]
  simp [List.getElem?_append, hi, rowS]
theorem PartAt.slot {w : World} {g n : Nat} {rs : List Nat} {f : Tab} (h : PartAt w g n rs f) (i : Nat) (hi : i ≤ n) : (∃ v, w.cell? ⟨g, i, none⟩ = some v) ∧ w.frozen? ⟨g, i, none⟩ = false ∧ g < w.heap.size := by
  refine ⟨?_, ?_, (Array.getElem?_eq_some_iff.1 h.blk).1⟩
  · simp only [World.cell?]
    rw [h.blk]
    have : i < (rs.map (rowS n) ++ List.replicate (n + 1 - rs.length) (Value.slice none 0 0)).length := by
      have := h.le
      simp
      omega
    refine ⟨(rs.map (rowS n) ++ List.replicate (n + 1 - rs.length) (Value.slice none 0 0))[i], ?_⟩
    simp only [Option.isSome_none, Bool.false_eq_true, if_false, List.getElem?_toArray]
    exact List.getElem?_eq_getElem this
  · simp only [World.frozen?]
    rw [h.blk]
    simp
theorem PartAt.get {w : World} {g n : Nat} {rs : List Nat} {f : Tab} (h : PartAt w g n rs f) (i k : Nat) (hi : i < rs.length) (hk : k ≤ n) : w.cell? ⟨rs[i], k, none⟩ = some (.int .i64 (f i k)) ∧ w.frozen? ⟨rs[i], k, none⟩ = false ∧ rs[i] < w.heap.size := by
  have hl : k < (rowL n (f i)).length := by rw [rowL_len]; omega
  have h1 := (h.rows i hi).cell k hl
  rw [rowL_get] at h1
  exact ⟨h1.1, h1.2, (Array.getElem?_eq_some_iff.1 (h.rows i hi)).1⟩
theorem PartAt.put {w : World} {g n : Nat} {rs : List Nat} {f : Tab} (h : PartAt w g n rs f) (i k : Nat) (hi : i < rs.length) (c : Int) : PartAt (w.setCell ⟨rs[i], k, none⟩ (.int .i64 c)) g n rs (putT f i k c) := by
  refine ⟨(heap_setCell_other w _ g _ (h.ne i hi)).trans h.blk, h.le, fun j hj => ?_, h.inj⟩
  by_cases e : j = i
  · subst e
    have h1 := (h.rows j hj).set k c
    rw [rowL_set] at h1
    have e2 : (fun b => if b = k then c else f j b) = putT f j k c j := by
      funext b
      unfold putT
      by_cases hb : b = k
      · rw [if_pos hb, if_pos ⟨rfl, hb⟩]
      · rw [if_neg hb, if_neg (fun h => hb h.2)]
    rw [e2] at h1
    exact h1
  · have hne : rs[j] ≠ rs[i] := fun e2 => e (nodup_inj h.inj hj hi e2)
    have h1 : RowI (w.setCell ⟨rs[i], k, none⟩ (.int .i64 c)) rs[j] (rowL n (f j)) := (heap_setCell_other w _ rs[j] _ hne).trans (h.rows j hj)
    have e2 : putT f i k c j = f j := by
      funext b
      unfold putT
      rw [if_neg (fun h => e h.1)]
    rw [e2]
    exact h1

/-- One row more. -/
theorem PartAt.more {w : World} {g n : Nat} {rs : List Nat} {f : Tab} (h : PartAt w g n rs f) (hlt : rs.length < n + 1) (r : Nat) (hr : w.heap.size ≤ r) {w' : World} (hb : Below w.heap.size w w') (hrow : RowI w' r (rowL n (fun _ => 0))) :
    PartAt (w'.setCell ⟨g, rs.length, none⟩ (rowS n r)) g n (rs ++ [r]) (fun i k => if i = rs.length then 0 else f i k) := by
  have hgw := (Array.getElem?_eq_some_iff.1 h.blk).1
  have h' := h.below hb
  have hnr : g ≠ r := by omega
  refine ⟨?_, by simp; omega, fun i hi => ?_, ?_⟩
  · have h1 := heap_setCell_same w' g rs.length _ _ (rowS n r) h'.blk
    rw [h1]
    congr 2
    apply Array.ext'
    simp only [List.setIfInBounds_toArray]
    apply List.ext_getElem?
    intro j
    rw [List.getElem?_set]
    simp only [List.length_append, List.length_map, List.length_replicate, List.map_append, List.map_cons, List.map_nil, List.length_singleton]
    by_cases e : rs.length = j
    · subst e
      rw [if_pos rfl, if_pos (by omega)]
      simp [List.getElem?_append]
    · rw [if_neg e]
      rcases Nat.lt_or_ge j rs.length with h2 | h2
      · simp [List.getElem?_append, h2, show j < rs.length + 1 by omega]
      · simp only [List.getElem?_append, List.length_map, List.length_append, List.length_singleton, List.length_cons, List.length_nil]
        rw [if_neg (by omega), if_neg (by omega), List.getElem?_replicate, List.getElem?_replicate]
        by_cases h3 : j < n + 1
        · rw [if_pos (by omega), if_pos (by omega)]
        · rw [if_neg (by omega), if_neg (by omega)]
  · by_cases e : i < rs.length
    · have e3 : (fun k => if i = rs.length then 0 else f i k) = f i := by funext k; rw [if_neg (by omega)]
      rw [List.getElem_append_left e, e3]
      exact (heap_setCell_other w' _ rs[i] _ (fun e2 => h.ne i e e2.symm)).trans (h'.rows i e)
    · have hi' : i = rs.length := by simp at hi; omega
      subst hi'
      rw [List.getElem_append_right (Nat.le_refl _)]
      simp only [Nat.sub_self, List.getElem_singleton, if_true]
      exact (heap_setCell_other w' _ r _ (fun e2 => hnr e2.symm)).trans hrow
  · refine List.nodup_append.2 ⟨h.inj, List.pairwise_singleton _ _, fun a ha b hb2 => ?_⟩
    rw [List.mem_singleton.1 hb2]
    obtain ⟨i, hi, rfl⟩ := List.mem_iff_getElem.1 ha
    have := (Array.getElem?_eq_some_iff.1 (h.rows i hi)).1
    omega

/-- How great the numbers in the table are. -/
theorem table_bound (n : Nat) (rest : Nat → Int) (B : Int) (hB : 0 ≤ B) (hr0 : ∀ i, 0 ≤ rest i) (hr : ∀ i, rest i ≤ B) : ∀ t : Nat, Tells (fun _ _ c => c ≤ t * B) (fun c => c ≤ t * B) (lvlT n rest t)
  | 0 => by
    refine ⟨fun i k h => ?_, fun h => ?_⟩
    · show tab0 i k ≤ _
      unfold tab0
      split <;> simp
    · show (-1 : Int) ≤ _
      simp
  | t + 1 => by
    have ih := table_bound n rest B hB hr0 hr t
    have e : ((t + 1 : Nat) : Int) * B = t * B + B := by push_cast; rw [Int.add_mul]; omega
    show Tells _ _ (stepL n rest (lvlT n rest t))
    unfold stepL
    refine iter_tells _ _ ⟨fun i k h => absurd h (by show ¬ (0 : Int) ≤ -1; omega), fun h => ?_⟩ fun i hi s hs => ?_
    · have := ih.best h
      show (lvlT n rest t).best ≤ _
      rw [e]; omega
    · refine iter_tells _ _ hs fun j hj s hs => ?_
      unfold stepK
      split
      · exact hs
      · have h1 := ih.next i (j + 1) (by omega)
        have h2 := hr i
        exact iter_tells _ _ hs fun w hw s hs => stepW_tells n _ i _ w s hs (fun _ _ => by rw [e]; omega) (fun _ _ => by rw [e]; omega)

end Go.Proofs.Ytnoplhjbachjiaa.Mg
