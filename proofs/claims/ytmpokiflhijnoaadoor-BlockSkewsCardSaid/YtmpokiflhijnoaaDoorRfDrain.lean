/-
  The Writer's bytes, taken out.
-/
import Derived.Test.YtmpokiflhijnoaaDoorRfPlain
namespace Go.Proofs.YtmpokiflhijnoaaDoor.Rf
open Go.RowKit Go.Shelf Go.Proofs.YtmpokiflhijnoaaDoor.Mg Go.Proofs.YtmpokiflhijnoaaDoor.Bw Go.Proofs.YtmpokiflhijnoaaDoor.Bk Go.Proofs.YtmpokiflhijnoaaDoor.Cn Go.Proofs.YtmpokiflhijnoaaDoor.Zp
set_option linter.unusedVariables false
set_option linter.unusedSimpArgs false

theorem own_cell1 {w : World} {base n g cap : Nat} {e : TypeId} {xs : List Value} (h : w.ownsRow base e 1 (.slice (some ⟨g, 0, none⟩) n cap) n xs) (j : Nat) (v : Value) (hj : xs[j]? = some v) : w.cell? ⟨g, j, none⟩ = some v := by
  have := h.cells (g := g) rfl j v hj
  have hadd : (⟨g, 0, none⟩ : Addr).add j = ⟨g, j, none⟩ := by unfold Addr.add; split <;> simp_all
  rw [hadd] at this
  exact this

set_option maxHeartbeats 4000000 in
set_option maxRecDepth 100000 in
theorem drain_calls (base B o : Nat) (g c acc n : Nat) (dn : List Nat) (w : World) (h : WRaw w base B o (.slice (some ⟨g, 0, none⟩) dn.length c) dn acc n) (hl : dn.length ≤ 1000000000) :
    Calls Tryd.prog 10 #[.pointer (some ⟨B, o, none⟩)] w fun e w' => e = .returned (.string (strOfNums (dn.map fun x : Nat => (x : Int)))) ∧ w' = w.setCell ⟨B, o, none⟩ (.slice (some ⟨g, 0, none⟩) 0 c) := by
  obtain ⟨hr, c0, c1, c2, f0, -, hbyte, -, -⟩ := h
  have g0 := f0 o
  have hcell : ∀ i, i < dn.length → w.cell? ⟨g, 0 + i, none⟩ = some (.int .u8 ((dn.map fun x : Nat => (x : Int)).getD i 0)) := fun i hi => by
    have h2 := own_cell1 hr i (.int .u8 ((dn.map fun x : Nat => (x : Int)).getD i 0)) (by simp [byV, hi])
    rw [Nat.zero_add]
    exact h2
  obtain ⟨N, hN⟩ : ∃ N, dn.length = N := ⟨_, rfl⟩
  rw [hN] at hr c0 hl hcell
  have hconv := run_convert_bytes_arg (P := Tryd.prog) (w := w) 25 5 Tryd.underlying25 Tryd.underlying5 g 0 N c (dn.map fun x : Nat => (x : Int)) (by simp [hN]) hcell 9 Tryd.underlying9
  obtain ⟨S, hS⟩ : ∃ S, strOfNums (dn.map fun x : Nat => (x : Int)) = S := ⟨_, rfl⟩
  rw [hS] at hconv ⊢
  clear hcell hr c1 c2 hbyte f0 hS hN
  go_enter Tryd.func10, Tryd.ntmps10
  go_wp2
  go_ret
  exact ⟨rfl, rfl⟩
end Go.Proofs.YtmpokiflhijnoaaDoor.Rf
