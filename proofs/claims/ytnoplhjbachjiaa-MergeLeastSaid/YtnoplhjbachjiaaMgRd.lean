/-
  Slices that are read: where their cells lie, and of which type the block is.
-/
import Derived.Test.YtnoplhjbachjiaaMgBase
import Derived.OwnWalk
import Derived.Deep.AppendLies
namespace Go.Proofs.Ytnoplhjbachjiaa.Mg
open Go.ChangeShapes Go.WideShapes Go.ChangeAt Go.RowKit Go.Shelf Go.Proofs
set_option linter.unusedVariables false

/-- A slice value of n elements of size cells each, whose cells are xs, in a block of its type. -/
structure Rd (w : World) (T : TypeId) (size : Nat) (v : Value) (n : Nat) (xs : List Value) : Prop where
  len : xs.length = n * size
  at' : ∃ g o c cur fr, v = .slice (some ⟨g, o, none⟩) n c ∧ n ≤ c ∧ w.heap[g]? = some (.cells cur T fr) ∧ ∀ j (h : j < xs.length), cur[o + j]? = some xs[j]

theorem Rd.below {w w' : World} {T : TypeId} {size n : Nat} {v : Value} {xs : List Value} (h : Rd w T size v n xs) (hb : Below w.heap.size w w') : Rd w' T size v n xs := by
  obtain ⟨h1, g, o, c, cur, fr, h2, h3, h4, h5⟩ := h
  exact ⟨h1, g, o, c, cur, fr, h2, h3, (hb.block g (Array.getElem?_eq_some_iff.1 h4).1).trans h4, h5⟩

/-- A store into a row of another type leaves it. -/
theorem Rd.grown {w w' : World} {T T2 : TypeId} {size n : Nat} {v : Value} {xs : List Value} {row : Option Nat} (h : Rd w T size v n xs) (hg : w.grownBy w' row) (hr : ∀ r, row = some r → ∃ cur fr, w.heap[r]? = some (.cells cur T2 fr)) (hne : T ≠ T2) : Rd w' T size v n xs := by
  obtain ⟨h1, g, o, c, cur, fr, h2, h3, h4, h5⟩ := h
  refine ⟨h1, g, o, c, cur, fr, h2, h3, (hg.block g (Array.getElem?_eq_some_iff.1 h4).1 (fun e => ?_)).trans h4, h5⟩
  obtain ⟨cur2, fr2, h6⟩ := hr g e.symm
  rw [h4] at h6
  simp only [Option.some.injEq, Obj.cells.injEq] at h6
  exact hne h6.2.1

theorem Rd.own {w : World} {base : Nat} {T : TypeId} {size n : Nat} {v : Value} {xs : List Value} (h : w.ownsRow base T size v n xs) (hn : v ≠ .slice none 0 0) : Rd w T size v n xs := by
  obtain ⟨h1, ⟨rfl, _⟩ | ⟨g, cap, cur, rfl, hg, hh, hnc, hcm, hsz, htk⟩⟩ := h
  · exact absurd rfl hn
  refine ⟨h1, g, 0, cap, cur, (0, 0), rfl, hnc, hh, fun j hj => ?_⟩
  have h2 : (cur.toList.take (n * size))[j]? = some xs[j] := by rw [htk, List.getElem?_eq_getElem hj]
  rw [List.getElem?_take, if_pos (by omega)] at h2
  simpa using h2

theorem Rd.cell {w : World} {T : TypeId} {size n : Nat} {v : Value} {xs : List Value} (h : Rd w T size v n xs) : ∃ g o c, v = .slice (some ⟨g, o, none⟩) n c ∧ n ≤ c ∧ ∀ j (h : j < xs.length), w.cell? ⟨g, o + j, none⟩ = some xs[j] := by
  obtain ⟨h1, g, o, c, cur, fr, h2, h3, h4, h5⟩ := h
  refine ⟨g, o, c, h2, h3, fun j hj => ?_⟩
  simp only [World.cell?]
  rw [h4]
  simp [h5 j hj]

end Go.Proofs.Ytnoplhjbachjiaa.Mg
