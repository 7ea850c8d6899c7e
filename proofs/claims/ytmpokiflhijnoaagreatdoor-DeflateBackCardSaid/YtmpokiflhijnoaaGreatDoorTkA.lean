/-
  Tokens as cells of a row.
-/
import Derived.Test.YtmpokiflhijnoaaGreatDoorRfC
import Derived.Test.YtmpokiflhijnoaaGreatDoorBkSize
import Derived.Test.YtmpokiflhijnoaaGreatDoorRfE
namespace Go.Proofs.YtmpokiflhijnoaaGreatDoor.Rf
open Go.RowKit Go.Shelf Go.Proofs.YtmpokiflhijnoaaGreatDoor.Mg Go.Proofs.YtmpokiflhijnoaaGreatDoor.Bw Go.Proofs.YtmpokiflhijnoaaGreatDoor.Bk Go.Proofs.YtmpokiflhijnoaaGreatDoor.Cn Go.Proofs.YtmpokiflhijnoaaGreatDoor.Zp
set_option linter.unusedVariables false
set_option linter.unusedSimpArgs false

noncomputable def ttk : TypeInfo := (Tryz.prog.info? 99).getD default
theorem own_nil {w : World} {base T size n : Nat} {v : Value} {xs : List Value} (h : w.ownsRow base T size v n xs) : v = .slice none 0 0 ∧ n = 0 ∨ ∃ g c, v = .slice (some ⟨g, 0, none⟩) n c := by
  rcases h.2 with ⟨rfl, rfl⟩ | ⟨g, cap, cur, rfl, -⟩
  · exact .inl ⟨rfl, rfl⟩
  · exact .inr ⟨g, cap, rfl⟩
def tokC (t : Tok) : List Value := [.int .u8 t.b, .int .i64 t.len, .int .i64 t.dist]
def toksC (l : List Tok) : List Value := l.flatMap tokC
theorem toksC_snoc (l : List Tok) (x : Tok) : toksC (l ++ [x]) = toksC l ++ tokC x := by simp [toksC]
theorem toksC_len (l : List Tok) : (toksC l).length = l.length * 3 := by
  induction l with
  | nil => rfl
  | cons x l ih => rw [toksC, List.flatMap_cons, List.length_append, List.length_cons]; rw [toksC] at ih; rw [ih]; simp [tokC]; omega
theorem toksC_get (l : List Tok) : ∀ (j : Nat) (h : j < l.length) (k : Nat) (hk : k < 3), (toksC l)[j * 3 + k]? = (tokC l[j])[k]? := by
  induction l with
  | nil => intro j h; simp at h
  | cons x l ih =>
    intro j h k hk
    rcases j with _ | j
    · rw [toksC, List.flatMap_cons, List.getElem?_append_left (by simp [tokC]; omega)]
      simp
    · rw [toksC, List.flatMap_cons, List.getElem?_append_right (by simp [tokC]; omega)]
      have e : (j + 1) * 3 + k - (tokC x).length = j * 3 + k := by simp [tokC]; omega
      rw [e]
      exact ih j (by simpa using h) k hk
theorem tokC_one (x : Tok) : ∀ u ∈ tokC x, u.oneCell' = true := by
  intro u hu
  simp only [tokC, List.mem_cons, List.not_mem_nil, or_false] at hu
  rcases hu with rfl | rfl | rfl <;> rfl
theorem tokAt_own {w : World} {base : Nat} {T : TypeId} {A : Option Addr} {c : Nat} {l : List Tok} (h : w.ownsRow base T 3 (.slice A l.length c) l.length (toksC l)) : TokAt w A l := fun j hj => by
  rcases own_nil h with ⟨_, h0⟩ | ⟨g, cap, h0⟩
  · omega
  · cases h0
    have hc := fun k hk v hv => rows3_cell h (j * 3 + k) v ((toksC_get l j hj k hk).trans hv)
    refine ⟨g, 0, rfl, ?_, ?_, ?_⟩
    · rw [Nat.zero_add]; exact hc 0 (by decide) _ rfl
    · rw [Nat.zero_add]; exact hc 1 (by decide) _ rfl
    · rw [Nat.zero_add]; exact hc 2 (by decide) _ rfl
theorem tokB_own {w : World} {base : Nat} {A : Option Addr} {n c : Nat} {xs : List Value} (h : w.ownsRow base 99 3 (.slice A n c) n xs) {W : World} (hb : Below w.heap.size w W) {B : Nat} (hB : w.heap.size ≤ B) : TokB W B A := fun g o e => by
  rcases h.2 with ⟨h0, _⟩ | ⟨g', cap, cur, h0, _, hg, _⟩
  · cases h0; cases e
  · cases h0
    cases e
    have hlt := (Array.getElem?_eq_some_iff.1 hg).1
    exact ⟨by omega, cur, (0, 0), (hb.block _ hlt).trans hg⟩
theorem tokR_own {w : World} {base : Nat} {A : Option Addr} {n c : Nat} {xs : List Value} (h : w.ownsRow base 99 3 (.slice A n c) n xs) : TokR w A := fun g o e => by
  rcases h.2 with ⟨h0, _⟩ | ⟨g', cap, cur, h0, _, hg, _⟩
  · cases h0; cases e
  · cases h0
    cases e
    exact ⟨cur, (0, 0), hg⟩
end Go.Proofs.YtmpokiflhijnoaaGreatDoor.Rf

/-
  Tokens that are bytes: plain.
-/
namespace Go.Proofs.YtmpokiflhijnoaaGreatDoor.Rf
open Go.RowKit Go.Shelf Go.Proofs.YtmpokiflhijnoaaGreatDoor.Mg Go.Proofs.YtmpokiflhijnoaaGreatDoor.Bw Go.Proofs.YtmpokiflhijnoaaGreatDoor.Bk Go.Proofs.YtmpokiflhijnoaaGreatDoor.Cn Go.Proofs.YtmpokiflhijnoaaGreatDoor.Zp
set_option linter.unusedVariables false
set_option linter.unusedSimpArgs false

/-- Tokens that are bytes. -/
def byT (l : List Nat) : List Tok := l.map fun x : Nat => ⟨(x : Int), 0, 0⟩
def byS (l : List Nat) : ByteArray := strOfNums (l.map fun x : Nat => (x : Int))
theorem byT_len (l : List Nat) : (byT l).length = l.length := List.length_map _
theorem byS_size (l : List Nat) : (byS l).size = l.length := by rw [byS, strOfNums_size, List.length_map]
theorem byS_snoc (l : List Nat) (x : Nat) : byS (l ++ [x]) = byS l ++ strOfNums [(x : Int)] := by
  unfold byS
  rw [List.map_append, nums_app]
  rfl
theorem exp_by : ∀ (l : List Nat) (out : List Int), expTs out (byT l) = out ++ l.map fun x : Nat => (x : Int)
  | [], out => by simp [byT, expTs]
  | x :: l, out => by
    show expTs (expT out ⟨(x : Int), 0, 0⟩) (byT l) = _
    rw [exp_by l]
    simp [expT]
theorem fit_by : ∀ (l : List Nat) (out : List Int), fitTs out (byT l)
  | [], _ => trivial
  | x :: l, out => ⟨.inl rfl, fit_by l _⟩
theorem in_by (l : List Nat) (h : ∀ x ∈ l, x < 256) : ∀ t ∈ byT l, tokIn t ∧ goodT t = true ∧ 0 ≤ t.b ∧ t.b < 256 := fun t ht => by
  obtain ⟨x, hx, rfl⟩ := List.mem_map.1 ht
  have := h x hx
  exact ⟨.inl ⟨rfl, by simp, by simp; omega⟩, by simp [goodT], by simp, by simp; omega⟩
theorem byT_snoc (l : List Nat) (x : Nat) : byT (l ++ [x]) = byT l ++ [⟨(x : Int), 0, 0⟩] := by simp [byT]
theorem may_by {l : List Nat} (h : ∀ x ∈ l, x < 256) (hl : l.length ≤ 65535) (k : Int) (hk : 0 ≤ k ∧ k < 3) : mayB k (byS l).size (byT l) = true := by
  unfold mayB
  rw [byS_size, byT_len, decide_eq_true hk.1, decide_eq_true hk.2, decide_eq_true hl]
  simp only [Bool.true_and]
  rw [List.all_eq_true]
  exact fun t ht => (in_by l h t ht).2.1

end Go.Proofs.YtmpokiflhijnoaaGreatDoor.Rf

