/-
  A row of bytes out of a text: made, kept, written, read back.
-/
import Derived.Test.YtehhoigedniglaaDoorZpAnyLaw
import Derived.Test.YtehhoigedniglaaDoorZpBlk
import Derived.Laws.IdiomStrings
import Derived.Laws.BytesArg
import Derived.Laws.Rows
namespace Go.Proofs.YtehhoigedniglaaDoor.Zp
open Go.RowKit
set_option linter.unusedVariables false
set_option linter.unusedSimpArgs false

def Row8 (A : Nat) (xs : List Int) (w : World) : Prop :=
  ∃ cs : Array Value, w.heap[A]? = some (.cells cs 5 (cs.size, cs.size + 1)) ∧ ∀ i (h : i < xs.length), cs[i]? = some (.int .u8 xs[i])
def byI (s : ByteArray) : List Int := s.data.toList.map fun b => (b.toNat : Int)
theorem byI_len (s : ByteArray) : (byI s).length = s.size := by rw [byI, List.length_map]; rfl
def capW (s : ByteArray) (w : World) : Nat := grownCap w s.size 0 5
def rowV (s : ByteArray) (w : World) : Value := .slice (some ⟨w.heap.size, 0, none⟩) s.size (capW s w)
def rowW (s : ByteArray) (w : World) : World := w.drew.alloc (.cells (bytesRow s (capW s w)) 5 ((bytesRow s (capW s w)).size, (bytesRow s (capW s w)).size + 1))
theorem row_run (s : ByteArray) (w : World) : (convert 9 45 (.string s)).run Tryd.prog w = .ok (rowV s w) (rowW s w) :=
  run_bytes_of_string w 9 45 5 s Tryd.underlying9 Tryd.underlying45 Tryd.underlying5
theorem row_below (s : ByteArray) (w : World) : Below w.heap.size w (rowW s w) := (Below.refl _ _).drew.alloc (Nat.le_refl _) _
theorem row_size (s : ByteArray) (w : World) : (rowW s w).heap.size = w.heap.size + 1 := by unfold rowW; simp
theorem row_made (s : ByteArray) (w : World) : Row8 w.heap.size (byI s) (rowW s w) := by
  refine ⟨_, World.alloc_heap_new w.drew _, fun i h => ?_⟩
  rw [byI_len] at h
  unfold bytesRow
  have hs : s.data.size = s.size := rfl
  rw [Array.getElem?_append_left (by rw [Array.size_map]; omega), Array.getElem?_map, Array.getElem?_eq_getElem (by omega)]
  simp [byI]
theorem capW_ge (s : ByteArray) (w : World) : s.size ≤ capW s w := grownCap_ge w s.size 0 _
theorem capW_le (s : ByteArray) (w : World) (h : s.size ≤ 1000000) : capW s w ≤ 9223372036854775807 := by
  have := grownCap_le_maxLen w s.size 0 5 (by unfold maxLen; omega)
  unfold maxLen at this
  unfold capW
  omega
theorem Row8.under {A N : Nat} {xs : List Int} {w w' : World} (h : Row8 A xs w) (hA : A < N) (hb : Below N w w') : Row8 A xs w' := by
  obtain ⟨cs, h1, h2⟩ := h
  exact ⟨cs, by rw [hb.block A hA]; exact h1, h2⟩
theorem Row8.lt {A : Nat} {xs : List Int} {w : World} (h : Row8 A xs w) : A < w.heap.size := by
  obtain ⟨cs, h1, h2⟩ := h
  exact (Array.getElem?_eq_some_iff.1 h1).1
theorem Row8.cell {A : Nat} {xs : List Int} {w : World} (h : Row8 A xs w) (i : Nat) (hi : i < xs.length) : w.cell? ⟨A, i, none⟩ = some (.int .u8 xs[i]) := by
  obtain ⟨cs, h1, h2⟩ := h
  simp only [World.cell?]
  rw [h1]
  exact h2 i hi
theorem Row8.frozen {A : Nat} {xs : List Int} {w : World} (h : Row8 A xs w) (i : Nat) (hi : i < xs.length) : w.frozen? ⟨A, i, none⟩ = false := by
  obtain ⟨cs, h1, h2⟩ := h
  have := (Array.getElem?_eq_some_iff.1 (h2 i hi)).1
  simp only [World.frozen?]
  rw [h1]
  simp
  omega
theorem Row8.set {A : Nat} {xs : List Int} {w : World} (h : Row8 A xs w) (i : Nat) (v : Int) : Row8 A (xs.set i v) (w.setCell ⟨A, i, none⟩ (.int .u8 v)) := by
  obtain ⟨cs, h1, h2⟩ := h
  refine ⟨cs.setIfInBounds i (.int .u8 v), ?_, fun j hj => ?_⟩
  · simp [World.setCell, Array.getElem?_modify, h1]
  · rw [List.length_set] at hj
    rw [Array.getElem?_setIfInBounds]
    by_cases e : i = j
    · subst e
      have := (Array.getElem?_eq_some_iff.1 (h2 i hj)).1
      rw [if_pos rfl, if_pos this, List.getElem_set_self]
    · rw [if_neg e, List.getElem_set_ne e]
      exact h2 j hj
theorem Row8.setOther {A b : Nat} {xs : List Int} {w : World} (h : Row8 A xs w) (hne : A ≠ b) (i : Nat) (v : Value) : Row8 A xs (w.setCell ⟨b, i, none⟩ v) := by
  obtain ⟨cs, h1, h2⟩ := h
  exact ⟨cs, by rw [heap_setCell_other w ⟨b, i, none⟩ A v hne]; exact h1, h2⟩
/-- string(b[:m]) of such a row. -/
theorem Row8.text {A : Nat} {xs : List Int} {w : World} (h : Row8 A xs w) (m cap : Nat) (hm : m ≤ xs.length) :
    (convert 45 9 (.slice (some ⟨A, 0, none⟩) m cap)).run Tryd.prog w = .ok (.string (strOfNums (xs.take m))) w :=
  run_convert_bytes_arg w 45 5 Tryd.underlying45 Tryd.underlying5 A 0 m cap (xs.take m) (by rw [List.length_take]; omega) (fun i hi => by
    rw [Nat.zero_add, h.cell i (by omega)]
    simp [List.getD, List.getElem?_take, hi, List.getElem?_eq_getElem (show i < xs.length by omega)]) 9 Tryd.underlying9

/-- What both readers tell may be handed on. -/
theorem told_loc (s : ByteArray) : (toldH locF s).ok := by
  have h1 := partS_le s 30 (nameN locF s)
  have h2 : nameN locF s < 65536 := numS_2 s 26
  have e : toldH locF s = locRaw s (partS s 30 (nameN locF s)) (tellT s 6) (tellK s 6) := rfl
  rw [e]
  generalize partS s 30 (nameN locF s) = nm at *
  generalize nameN locF s = N at *
  unfold locRaw
  generalize numS s 18 4 = n
  refine ⟨by simp only; omega, by simp only; omega, ?_, by simp only; omega, by simp only; omega⟩
  simp only
  split <;> omega
theorem told_cen (s : ByteArray) : (toldH cenF s).ok := by
  have h1 := partS_le s 46 (nameN cenF s)
  have h2 : nameN cenF s < 65536 := numS_2 s 28
  have e : toldH cenF s = cenRaw s (partS s 46 (nameN cenF s)) (tellT s 8) (tellK s 8) := rfl
  rw [e]
  generalize partS s 46 (nameN cenF s) = nm at *
  generalize nameN cenF s = N at *
  have h4 := numS_4 s 16
  have a1 := numS_lt s (cenAt s nm + 8) 8
  have a2 := numS_lt s 20 4
  have a3 := numS_lt s (cenAt s nm) 8
  have a4 := numS_lt s 24 4
  have a5 := numS_lt s (cenAt s nm + 16) 8
  have a6 := numS_lt s 42 4
  unfold cenRaw
  generalize numS s 16 4 = n1 at *
  generalize numS s (cenAt s nm + 8) 8 = n2 at *
  generalize numS s 20 4 = n3 at *
  generalize numS s (cenAt s nm + 16) 8 = n4 at *
  generalize numS s (cenAt s nm) 8 = n5 at *
  generalize numS s 24 4 = n6 at *
  generalize numS s 42 4 = n7 at *
  refine ⟨by simp only; omega, ?_, ?_, by simp only; omega, ?_⟩
  · simp only
    split <;> omega
  · simp only
    split <;> omega
  · simp only
    split
    · split <;> omega
    · omega

theorem and3_range (a : Int) : 0 ≤ Go.bits .and .i64 a 3 ∧ Go.bits .and .i64 a 3 ≤ 3 := by
  have h : ((BitVec.ofInt 64 a &&& BitVec.ofInt 64 3).toNat) ≤ 3 := by
    rw [BitVec.toNat_and]
    exact Nat.le_trans Nat.and_le_right (by decide)
  have e : Go.bits .and .i64 a 3 = IntKind.i64.wrap ((BitVec.ofInt 64 a &&& BitVec.ofInt 64 3).toNat : Int) := rfl
  rw [e, IntKind.wrap_i64]
  omega
end Go.Proofs.YtehhoigedniglaaDoor.Zp
