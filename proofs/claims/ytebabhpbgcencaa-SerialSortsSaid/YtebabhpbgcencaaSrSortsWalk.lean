/-
  SerialSorts' walk, at any slice.
-/
import Derived.Test.YtebabhpbgcencaaSrLaw
namespace Go.Proofs.Ytebabhpbgcencaa.Sr
open Go.RowKit Go.Shelf Go.Proofs
set_option linter.unusedVariables false
set_option linter.unusedSimpArgs false

set_option maxHeartbeats 1000000 in
theorem sort_empty (A : Option Addr) (c : Nat) (w : World) :
    Calls Try.prog 13 #[.slice A 0 c] w fun e w' => e = .returned (.tuple #[.slice none 0 0, .bool true]) ∧ Below w.heap.size w w' := by
  have HB := Lib.hid ((Below.refl w.heap.size w).alloc (Nat.le_refl _) (.cells #[.slice A 0 c] 29))
  have c0 := cell_fresh w (.slice A 0 c) 29
  go_enter Try.func13, Try.ntmps13
  go_wp2
  go_ret2
  exact ⟨rfl, HB.out⟩

set_option maxHeartbeats 2000000 in
set_option maxRecDepth 100000 in
theorem sorts_empty (A : Option Addr) (c : Nat) (w : World) (hc : A = none → c = 0) (hcm : c ≤ 140737488351232) :
    Calls Try.prog 6 #[.slice A 0 c] w fun e w' => e = .returned (.bool true) ∧ Below w.heap.size w w' := by
  have hmm := @run_makeMap Try.prog
  cases A with
  | none =>
    obtain rfl := hc rfl
    go_enter Try.func6, Try.ntmps6
    go_wp2_with (first | (go_at_call 7; refine (speaks_calls _).mono ?_; rintro e w1 ⟨rfl, rfl⟩) | (go_at_call 13; refine (sort_empty _ _ _).mono ?_; rintro e w2 ⟨rfl, hb⟩; have HB := Lib.hid hb; clear hb))
    go_loopw [6, 5] (fun i p wr => i = .int .i64 0 ∧ p = .bool true ∧ Below w.heap.size w wr) (fun i _ _ => 0)
    case atStart => exact ⟨rfl, rfl, HB.out⟩
    case round =>
      obtain ⟨rfl, rfl, hb⟩ := hrel
      have HB1 := Lib.hid (hb.alloc hb.size (.map #[] 0))
      clear hb HB
      go_wp2
      go_loopw [9] (fun i wr => i = .int .i64 0 ∧ Below w.heap.size w wr) (fun i _ => 0)
      case atStart => exact ⟨rfl, HB1.out⟩
      case round =>
        obtain ⟨rfl, hb⟩ := hrel
        have HB2 := Lib.hid hb
        clear hb HB1
        go_wp2
        go_loopw [10] (fun i wr => i = .int .i64 0 ∧ Below w.heap.size w wr) (fun i _ => 0)
        case atStart => exact ⟨rfl, HB2.out⟩
        case round =>
          obtain ⟨rfl, hb⟩ := hrel
          have HB3 := Lib.hid hb
          clear hb HB2
          go_wp2
          go_ret
          exact ⟨by first | rfl | (simp; done) | (simp; omega), HB3.out⟩
  | some a =>
    go_enter Try.func6, Try.ntmps6
    go_wp2_with (first | (go_at_call 7; refine (speaks_calls _).mono ?_; rintro e w1 ⟨rfl, rfl⟩) | (go_at_call 13; refine (sort_empty _ _ _).mono ?_; rintro e w2 ⟨rfl, hb⟩; have HB := Lib.hid hb; clear hb))
    go_loopw [6, 5] (fun i p wr => i = .int .i64 0 ∧ p = .bool true ∧ Below w.heap.size w wr) (fun i _ _ => 0)
    case atStart => exact ⟨rfl, rfl, HB.out⟩
    case round =>
      obtain ⟨rfl, rfl, hb⟩ := hrel
      have HB1 := Lib.hid (hb.alloc hb.size (.map #[] 0))
      clear hb HB
      go_wp2
      go_loopw [9] (fun i wr => i = .int .i64 0 ∧ Below w.heap.size w wr) (fun i _ => 0)
      case atStart => exact ⟨rfl, HB1.out⟩
      case round =>
        obtain ⟨rfl, hb⟩ := hrel
        have HB2 := Lib.hid hb
        clear hb HB1
        go_wp2
        go_loopw [10] (fun i wr => i = .int .i64 0 ∧ Below w.heap.size w wr) (fun i _ => 0)
        case atStart => exact ⟨rfl, HB2.out⟩
        case round =>
          obtain ⟨rfl, hb⟩ := hrel
          have HB3 := Lib.hid hb
          clear hb HB2
          go_wp2
          go_ret
          exact ⟨by first | rfl | (simp; done) | (simp; omega), HB3.out⟩

theorem sorts_any (v : Value) (xs : List Int) (w : World) (h : Fa.IntsOf w .u32 v xs) (hx : ∀ x ∈ xs, (Lit.int .u32 x).wf = true) {n : Nat} (hy : n ≤ 140737488351232) :
    Calls Try.prog 6 #[v] w fun e w' => e = .returned (.bool true) ∧ Below w.heap.size w w' := by
  rcases h with ⟨a, c, rfl, rfl, h1, h2⟩ | ⟨b, o, c, rfl, h0, h1, h2, h3, h4⟩
  · exact sorts_empty a c w h1 h2
  · have hl : 0 < (xs.take 30).length := by rw [List.length_take]; omega
    have hr : ∀ x ∈ xs.take 30, 0 ≤ x ∧ x < 4294967296 := fun x hm => u32_wf (hx x (List.mem_of_mem_take hm))
    have hA : ∀ j (h : j < (xs.take 30).length), w.cell? ⟨b, o + j, none⟩ = some (.int .u32 (xs.take 30)[j]) := fun j h => by
      rw [List.length_take] at h
      rw [h4 j (by omega), List.getElem_take]
    cases hf : farB (xs.take 30)[0] (xs.take 30) with
    | true => exact sorts_far b o c xs _ w rfl hl h1 h2 hr hA hf
    | false => exact sorts_near b o c xs _ w rfl hl h1 h2 hr hA hf

end Go.Proofs.Ytebabhpbgcencaa.Sr
