/-
  The cells of the reference's rows.
-/
import Derived.Test.YtmpokiflhijnoaaDoorRfDrain
namespace Go.Proofs.YtmpokiflhijnoaaDoor.Rf
open Go.RowKit Go.Shelf Go.Proofs.YtmpokiflhijnoaaDoor.Mg Go.Proofs.YtmpokiflhijnoaaDoor.Bw Go.Proofs.YtmpokiflhijnoaaDoor.Bk Go.Proofs.YtmpokiflhijnoaaDoor.Cn Go.Proofs.YtmpokiflhijnoaaDoor.Zp
set_option linter.unusedVariables false
set_option linter.unusedSimpArgs false

theorem flat3_len (f : Nat → List Value) (hf : ∀ d, (f d).length = 3) : ∀ n, ((List.range n).flatMap f).length = n * 3 := by
  intro n
  induction n with
  | zero => rfl
  | succ n ih => rw [List.range_succ, List.flatMap_append, List.length_append, ih]; simp [hf]; omega
theorem flat3_get (f : Nat → List Value) (hf : ∀ d, (f d).length = 3) (d k : Nat) (hk : k < 3) : ∀ n, d < n → ((List.range n).flatMap f)[d * 3 + k]? = (f d)[k]? := by
  intro n
  induction n with
  | zero => intro h; omega
  | succ n ih =>
    intro h
    rw [List.range_succ, List.flatMap_append]
    by_cases hd : d < n
    · rw [List.getElem?_append_left (by rw [flat3_len f hf]; omega)]
      exact ih hd
    · obtain rfl : d = n := by omega
      rw [List.getElem?_append_right (by rw [flat3_len f hf]; omega), flat3_len f hf, Nat.add_sub_cancel_left]
      simp
theorem lenRows_get (n d k : Nat) (hd : d < n) (hk : k < 3) : (lenRows n)[d * 3 + k]? = (lenRow d)[k]? := flat3_get lenRow (fun _ => rfl) d k hk n hd
theorem dstRows_get (n d k : Nat) (hd : d < n) (hk : k < 3) : (dstRows n)[d * 3 + k]? = (dstRow d)[k]? := flat3_get dstRow (fun _ => rfl) d k hk n hd
theorem rows3_cell {w : World} {base g n c : Nat} {T : TypeId} {xs : List Value} (h : w.ownsRow base T 3 (.slice (some ⟨g, 0, none⟩) n c) n xs) (j : Nat) (v : Value) (hj : xs[j]? = some v) : w.cell? ⟨g, j, none⟩ = some v := by
  have := h.cells (g := g) rfl j v hj
  have hadd : (⟨g, 0, none⟩ : Addr).add j = ⟨g, j, none⟩ := by unfold Addr.add; split <;> simp_all
  rw [hadd] at this
  exact this
theorem lens_cells {w : World} {base g c d : Nat} {T : TypeId} (h : w.ownsRow base T 3 (.slice (some ⟨g, 0, none⟩) 29 c) 29 (lenRows 29)) (hd : d < 29) :
    w.cell? ⟨g, d * 3 + 1, none⟩ = some (.int .i64 (lenLeast d : Int)) ∧ w.cell? ⟨g, d * 3 + 2, none⟩ = some (.int .i64 (lenBits d : Int)) :=
  ⟨rows3_cell h _ _ (lenRows_get 29 d 1 hd (by decide)), rows3_cell h _ _ (lenRows_get 29 d 2 hd (by decide))⟩
theorem dists_cells {w : World} {base g c d : Nat} {T : TypeId} (h : w.ownsRow base T 3 (.slice (some ⟨g, 0, none⟩) 30 c) 30 (dstRows 30)) (hd : d < 30) :
    w.cell? ⟨g, d * 3 + 1, none⟩ = some (.int .i64 (dstLeast d : Int)) ∧ w.cell? ⟨g, d * 3 + 2, none⟩ = some (.int .i64 (dstBits d : Int)) :=
  ⟨rows3_cell h _ _ (dstRows_get 30 d 1 hd (by decide)), rows3_cell h _ _ (dstRows_get 30 d 2 hd (by decide))⟩
end Go.Proofs.YtmpokiflhijnoaaDoor.Rf
