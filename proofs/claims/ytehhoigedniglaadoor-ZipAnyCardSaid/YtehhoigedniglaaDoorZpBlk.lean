/-
  A block that lies, and what of it is read later.
-/
import Derived.Test.YtehhoigedniglaaDoorZpGet
namespace Go.Proofs.YtehhoigedniglaaDoor.Zp
open Go.RowKit
set_option linter.unusedVariables false

def Blk (B : Nat) (cs : Array Value) (T : Nat) (w : World) : Prop := w.heap[B]? = some (.cells cs T (0, 0))
theorem Blk.new (w : World) (cs : Array Value) (T : Nat) : Blk w.heap.size cs T (w.alloc (.cells cs T)) := World.alloc_heap_new _ _
theorem Blk.new1 (w : World) (o : Obj) (cs : Array Value) (T : Nat) : Blk (w.heap.size + 1) cs T ((w.alloc o).alloc (.cells cs T)) := by
  have h := Blk.new (w.alloc o) cs T
  simpa using h
theorem Blk.new2 (w : World) (o o2 : Obj) (cs : Array Value) (T : Nat) : Blk (w.heap.size + 2) cs T (((w.alloc o).alloc o2).alloc (.cells cs T)) := by
  have h := Blk.new ((w.alloc o).alloc o2) cs T
  simpa using h
theorem Blk.lt {B : Nat} {cs : Array Value} {T : Nat} {w : World} (h : Blk B cs T w) : B < w.heap.size := by
  rcases Nat.lt_or_ge B w.heap.size with h1 | h1
  · exact h1
  · unfold Blk at h
    rw [Array.getElem?_eq_none h1] at h
    cases h
theorem Blk.below {B : Nat} {cs : Array Value} {T : Nat} {w w' : World} (h : Blk B cs T w) (hb : Below w.heap.size w w') : Blk B cs T w' := by
  unfold Blk
  rw [hb.block B h.lt]
  exact h
theorem Blk.under {B N : Nat} {cs : Array Value} {T : Nat} {w w' : World} (h : Blk B cs T w) (hB : B < N) (hb : Below N w w') : Blk B cs T w' := by
  unfold Blk
  rw [hb.block B hB]
  exact h
theorem Blk.drew {B : Nat} {cs : Array Value} {T : Nat} {w : World} (h : Blk B cs T w) : Blk B cs T w.drew := h
theorem Blk.drewN {B : Nat} {cs : Array Value} {T : Nat} {w : World} (h : Blk B cs T w) : ∀ n, Blk B cs T (w.drewN n)
  | 0 => h
  | n + 1 => by rw [← World.drew_drewN]; exact (h.drewN n).drew
theorem Blk.alloc {B : Nat} {cs : Array Value} {T : Nat} {w : World} (h : Blk B cs T w) (o : Obj) : Blk B cs T (w.alloc o) := h.below ((Below.refl w.heap.size w).alloc (Nat.le_refl _) o)
theorem Blk.cell {B : Nat} {cs : Array Value} {T : Nat} {w : World} (h : Blk B cs T w) (k : Nat) : w.cell? ⟨B, k, none⟩ = cs[k]? := by
  simp only [World.cell?]
  rw [h]
  rfl
theorem Blk.frozen {B : Nat} {cs : Array Value} {T : Nat} {w : World} (h : Blk B cs T w) (k : Nat) : w.frozen? ⟨B, k, none⟩ = false := by
  simp only [World.frozen?]
  rw [h]
  simp
theorem Blk.set {B : Nat} {cs : Array Value} {T : Nat} {w : World} (h : Blk B cs T w) (k : Nat) (v : Value) : Blk B (cs.setIfInBounds k v) T (w.setCell ⟨B, k, none⟩ v) := heap_setCell_same _ _ _ _ _ _ h
theorem Blk.setTo {B : Nat} {cs cs' : Array Value} {T : Nat} {w : World} (h : Blk B cs T w) (k : Nat) (v : Value) (e : cs.setIfInBounds k v = cs') : Blk B cs' T (w.setCell ⟨B, k, none⟩ v) := e ▸ h.set k v
theorem results_cell_tmp {P : Program} {fn : Func} {p q : Tmp} {ty : TypeId} (h : fn.results = #[.cell p ty, .tmp q]) (tmps : Array Value) (w : World) (g : Nat) (t : TypeId) (cs : Array Value) (d : TypeDesc) (v : Value)
    (hp : tmps.getD p undef = .pointer (some ⟨g, 0, none⟩)) (hq : tmps.getD q undef = v) (hg : Blk g cs t w)
    (hu : P.underlying ty = some d) (hd : (match d with | .struct _ | .array _ _ => true | _ => false) = true) (hi : (P.info? ty).map (·.size) = some cs.size) :
    (results fn tmps).run P w = .ok (.tuple #[.agg cs, v]) w := by
  have hp' : tmps[p]?.getD undef = .pointer (some ⟨g, 0, none⟩) := by simpa using hp
  have hq' : tmps[q]?.getD undef = v := by simpa using hq
  simp [results, h, hp', hq', asAddr, run_loadVar_row w g t ty cs (0, 0) d hg hu hd hi]
end Go.Proofs.YtehhoigedniglaaDoor.Zp
