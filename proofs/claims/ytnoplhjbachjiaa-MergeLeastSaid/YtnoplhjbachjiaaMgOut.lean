/-
  A row of whole numbers that the call has made: its cells, and a store into it.
-/
import Derived.Test.YtnoplhjbachjiaaMgPlain
import Derived.Laws.Rows
import Derived.Laws.MakeOwn
namespace Go.Proofs.Ytnoplhjbachjiaa.Mg
open Go.ChangeShapes Go.WideShapes Go.ChangeAt Go.RowKit Go.Shelf Go.Proofs
set_option linter.unusedVariables false
set_option linter.unusedSimpArgs false

def cellsI (o : List Int) : Array Value := (o.map (Value.int .i64)).toArray
theorem cellsI_set (o : List Int) (i : Nat) (x : Int) : (cellsI o).setIfInBounds i (.int .i64 x) = cellsI (o.set i x) := by
  simp [cellsI, List.map_set]
theorem made_cells (n : Nat) : madeCells #[.int .i64 0] n = cellsI (List.replicate n 0) := by
  apply Array.ext_getElem?
  intro i
  simp only [cellsI, madeCells]
  by_cases h : i < n
  · simp [h, Nat.mod_one]
  · simp [h]

/-- A made row of whole numbers. -/
def RowI (w : World) (B : Nat) (o : List Int) : Prop := w.heap[B]? = some (.cells (cellsI o) 3 (0, 0))
theorem RowI.cell {w : World} {B : Nat} {o : List Int} (h : RowI w B o) (i : Nat) (hi : i < o.length) : w.cell? ⟨B, i, none⟩ = some (.int .i64 o[i]) ∧ w.frozen? ⟨B, i, none⟩ = false := by
  unfold RowI at h
  constructor
  · simp only [World.cell?]
    rw [h]
    simp [cellsI, hi]
  · simp only [World.frozen?]
    rw [h]
    simp
theorem RowI.set {w : World} {B : Nat} {o : List Int} (h : RowI w B o) (i : Nat) (x : Int) : RowI (w.setCell ⟨B, i, none⟩ (.int .i64 x)) B (o.set i x) := by
  unfold RowI at *
  rw [← cellsI_set]
  exact heap_setCell_same w B i _ _ _ h
theorem RowI.grown {w w' : World} {B : Nat} {o : List Int} (h : RowI w B o) {row : Option Nat} (hg : w.grownBy w' row) (hne : some B ≠ row) : RowI w' B o :=
  (hg.block B (Array.getElem?_eq_some_iff.1 h).1 hne).trans h
theorem RowI.below {w w' : World} {B : Nat} {o : List Int} (h : RowI w B o) (hb : Below w.heap.size w w') : RowI w' B o :=
  (hb.block B (Array.getElem?_eq_some_iff.1 h).1).trans h

theorem grown_set (w : World) (B i : Nat) (v : Value) : w.grownBy (w.setCell ⟨B, i, none⟩ v) (some B) := by
  refine ⟨rfl, rfl, rfl, by simp [World.setCell], fun k hk hne => ?_⟩
  exact heap_setCell_other w _ k v (fun e => hne (by rw [e]))

theorem grown_below {w w' : World} (row : Option Nat) (h : Below w.heap.size w w') : w.grownBy w' row := ⟨h.os, h.tape, h.output, h.size, fun k hk _ => h.block k hk⟩

/-- A row that is read stays as it is where another block changes. -/
theorem Rd.far {w w' : World} {T : TypeId} {size n : Nat} {g o c : Nat} {xs : List Value} {B : Nat} (h : Rd w T size (.slice (some ⟨g, o, none⟩) n c) n xs) (hg : w.grownBy w' (some B)) (hne : g ≠ B) : Rd w' T size (.slice (some ⟨g, o, none⟩) n c) n xs := by
  obtain ⟨h1, g', o', c', cur, fr, h2, h3, h4, h5⟩ := h
  cases h2
  exact ⟨h1, g, o, c, cur, fr, rfl, h3, (hg.block g (Array.getElem?_eq_some_iff.1 h4).1 (fun e => hne (by cases e; rfl))).trans h4, h5⟩

theorem bump_set (ord : List Nat) (o : List Int) (i : Nat) (hi : i < ord.length) (hs : ord[i] < o.length) : bump ord o i = o.set ord[i] (o[ord[i]] + 1) := by
  have e : ord.getD i 0 = ord[i] := by rw [List.getD_eq_getElem?_getD, List.getElem?_eq_getElem hi]; rfl
  apply List.ext_getElem?
  intro j
  unfold bump
  rw [e, List.getElem?_modify, List.getElem?_set]
  by_cases h : ord[i] = j
  · subst h
    rw [if_pos rfl, if_pos hs, List.getElem?_eq_getElem hs]
    simp
  · rw [if_neg h]
    simp [h]

end Go.Proofs.Ytnoplhjbachjiaa.Mg
