/-
  How the law's head and its two numbers are read as arguments.
-/
import Derived.Test.YtehhoigedniglaaDoorProg
import Derived.ProofKit
import Derived.OpenShut
import Derived.SizedLaws
import Derived.ChangeArms
import Derived.WideShapes
namespace Go.Proofs.YtehhoigedniglaaDoor.Fs
open Go Go.ChangeShapes Go.WideShapes Go.ChangeAt Go.RowKit
set_option linter.unusedVariables false
set_option linter.unusedSimpArgs false

theorem list7 {α : Type} {l : List α} (h : l.length = 7) : ∃ a b c d e f g, l = [a, b, c, d, e, f, g] := by
  match l, h with
  | [a, b, c, d, e, f, g], _ => exact ⟨a, b, c, d, e, f, g, rfl⟩
theorem list2 {α : Type} {l : List α} (h : l.length = 2) : ∃ a b, l = [a, b] := by
  match l, h with
  | [a, b], _ => exact ⟨a, b, rfl⟩

set_option maxRecDepth 100000 in
theorem open_head {H : Type} {enc : TypeId × Value → H} {W : World} {r : Reach} {b0 base : Nat} {sp : Nat → Bool} {hd : Bool} {v : Value} {d : DataW H} {p : List MemPlace} (hv : Value.okWide Tryd.prog W r b0 28 v) (h : DataW.Trod enc Tryd.prog W base sp hd 28 v d p) :
    ∃ (f0 : ByteArray) (f1 f2 f3 f4 f5 : Int) (f6 : Bool), v = .agg #[.string f0, .int .i64 f1, .int .u64 f2, .int .u64 f3, .int .u32 f4, .int .u64 f5, .bool f6] ∧
      d = .agg [.lit (.string f0.data.toList), .lit (.int .i64 f1), .lit (.int .u64 f2), .lit (.int .u64 f3), .lit (.int .u32 f4), .lit (.int .u64 f5), .lit (.bool f6)] ∧ p = [] ∧
      (Lit.int .i64 f1).wf = true ∧ (Lit.int .u64 f2).wf = true ∧ (Lit.int .u64 f3).wf = true ∧ (Lit.int .u32 f4).wf = true ∧ (Lit.int .u64 f5).wf = true := by
  obtain ⟨cs, rfl, hsz⟩ := okWide_struct Tryd.underlying28 hv
  have hC : Tryd.prog.cellsOf 28 = 7 := by kernel_rfl
  obtain ⟨l⟩ := cs
  obtain ⟨c0, c1, c2, c3, c4, c5, c6, rfl⟩ := list7 (show l.length = 7 from hsz.trans hC)
  obtain ⟨fuel, hf⟩ := h
  obtain ⟨xs, n, _, hx, hl, hlen, hall⟩ := DataW.trod_struct Tryd.underlying28 hf
  obtain ⟨y0, y1, y2, y3, y4, y5, y6, rfl⟩ := list7 (show xs.length = 7 from hlen)
  have k0 : Tryd.prog.cellsOf 9 = 1 := by kernel_rfl
  have k1 : Tryd.prog.cellsOf 3 = 1 := by kernel_rfl
  have k2 : Tryd.prog.cellsOf 22 = 1 := by kernel_rfl
  have k3 : Tryd.prog.cellsOf 26 = 1 := by kernel_rfl
  have k4 : Tryd.prog.cellsOf 4 = 1 := by kernel_rfl
  have h0 := hall 0 _ rfl
  have h1 := hall 1 _ rfl
  have h2 := hall 2 _ rfl
  have h3 := hall 3 _ rfl
  have h4 := hall 4 _ rfl
  have h5 := hall 5 _ rfl
  have h6 := hall 6 _ rfl
  simp [Value.cells, k0, k1, k2, k3, k4] at h0 h1 h2 h3 h4 h5 h6
  obtain ⟨f0, e0, rfl, _⟩ := DataW.trod_string Tryd.underlying9 h0
  obtain ⟨f1, e1, rfl, w1⟩ := DataW.trod_int Tryd.underlying3 h1
  obtain ⟨f2, e2, rfl, w2⟩ := DataW.trod_int Tryd.underlying22 h2
  obtain ⟨f3, e3, rfl, w3⟩ := DataW.trod_int Tryd.underlying22 h3
  obtain ⟨f4, e4, rfl, w4⟩ := DataW.trod_int Tryd.underlying26 h4
  obtain ⟨f5, e5, rfl, w5⟩ := DataW.trod_int Tryd.underlying22 h5
  obtain ⟨f6, e6, rfl⟩ := DataW.trod_bool Tryd.underlying4 h6
  simp only [List.cons.injEq, and_true] at e0 e1 e2 e3 e4 e5 e6
  subst e0 e1 e2 e3 e4 e5 e6
  simp only [Prod.mk.injEq] at hx
  exact ⟨f0, f1, f2, f3, f4, f5, f6, rfl, hx.1, hx.2, w1, w2, w3, w4, w5⟩

theorem okWide_array {P : Program} {w : World} {r : Reach} {base n : Nat} {t e : TypeId} {v : Value} (ht : P.underlying t = some (.array n e)) (h : Value.okWide P w r base t v) : ∃ cs, v = .agg cs ∧ cs.size = P.cellsOf t := by
  unfold Value.okWide at h
  rw [ht] at h
  cases v <;> simp_all

set_option maxRecDepth 100000 in
theorem open_pair {H : Type} {enc : TypeId × Value → H} {W : World} {r : Reach} {b0 base : Nat} {sp : Nat → Bool} {hd : Bool} {v : Value} {d : DataW H} {p : List MemPlace} (hv : Value.okWide Tryd.prog W r b0 44 v) (h : DataW.Trod enc Tryd.prog W base sp hd 44 v d p) :
    ∃ (f0 f1 : Int), v = .agg #[.int .i64 f0, .int .i64 f1] ∧ d = .agg [.lit (.int .i64 f0), .lit (.int .i64 f1)] ∧ p = [] ∧ (Lit.int .i64 f0).wf = true ∧ (Lit.int .i64 f1).wf = true := by
  obtain ⟨cs, rfl, hsz⟩ : ∃ cs, v = .agg cs ∧ cs.size = Tryd.prog.cellsOf 44 := okWide_array Tryd.underlying44 hv
  have hC : Tryd.prog.cellsOf 44 = 2 := by kernel_rfl
  obtain ⟨l⟩ := cs
  obtain ⟨c0, c1, rfl⟩ := list2 (show l.length = 2 from hsz.trans hC)
  obtain ⟨fuel, hf⟩ := h
  obtain ⟨xs, n, _, hx, hl, hlen, hall⟩ := DataW.trod_array Tryd.underlying44 hf
  obtain ⟨y0, y1, rfl⟩ := list2 hlen
  have k1 : Tryd.prog.cellsOf 3 = 1 := by kernel_rfl
  have h0 := hall 0 (by omega)
  have h1 := hall 1 (by omega)
  simp [Value.cells, k1] at h0 h1
  obtain ⟨f0, e0, rfl, w0⟩ := DataW.trod_int Tryd.underlying3 h0
  obtain ⟨f1, e1, rfl, w1⟩ := DataW.trod_int Tryd.underlying3 h1
  simp only [List.cons.injEq, and_true] at e0 e1
  subst e0 e1
  simp only [Prod.mk.injEq] at hx
  exact ⟨f0, f1, rfl, hx.1, hx.2, w0, w1⟩

theorem head_string {H : Type} {ts : List TypeId} {ds : List (DataW H)} {j : Nat} {s : List UInt8} {rest : List (DataW H)}
    (hsz : (DataW.weightsEach Tryd.prog ts ds).all (· ≤ reachBytes) = true) (hj : ts[j]? = some 28) (hd : ds[j]? = some (.agg (.lit (.string s) :: rest))) : s.length ≤ reachBytes := by
  have hm : s.length ∈ DataW.weights Tryd.prog 28 (.agg (.lit (.string s) :: rest)) := by
    unfold DataW.weights
    rw [Tryd.underlying28]
    simp [DataW.weightsEach, DataW.weights]
  have := List.all_eq_true.1 hsz _ (DataW.weights_mem_each hj hd s.length hm)
  simpa using this
end Go.Proofs.YtehhoigedniglaaDoor.Fs
