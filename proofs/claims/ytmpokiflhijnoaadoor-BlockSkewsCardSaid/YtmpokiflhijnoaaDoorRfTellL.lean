/-
  Plain law: what tokens tell, behind what was told; and rows that grow.
-/
import Derived.Test.YtmpokiflhijnoaaDoorRfTellP
namespace Go.Proofs.YtmpokiflhijnoaaDoor.Rf
open Go.RowKit Go.Shelf Go.Proofs.YtmpokiflhijnoaaDoor.Mg Go.Proofs.YtmpokiflhijnoaaDoor.Bw Go.Proofs.YtmpokiflhijnoaaDoor.Bk Go.Proofs.YtmpokiflhijnoaaDoor.Cn Go.Proofs.YtmpokiflhijnoaaDoor.Zp
set_option linter.unusedVariables false
set_option linter.unusedSimpArgs false

def u8V (l : List Int) : List Value := l.map (Value.int .u8)
theorem u8V_len (l : List Int) : (u8V l).length = l.length := List.length_map _
theorem u8V_app (a b : List Int) : u8V (a ++ b) = u8V a ++ u8V b := List.map_append
/-- A match: so many bytes, each as far back. -/
def copyT (d : Nat) (out : List Int) : Nat → List Int
  | 0 => out
  | n + 1 => copyT d out n ++ [(copyT d out n).getD ((copyT d out n).length - d) 0]
theorem copyT_len (d : Nat) (out : List Int) : ∀ n, (copyT d out n).length = out.length + n
  | 0 => rfl
  | n + 1 => by rw [copyT, List.length_append, copyT_len d out n]; simp; omega
def expT (out : List Int) (t : Tok) : List Int := if t.len = 0 then out ++ [t.b] else copyT t.dist.toNat out t.len.toNat
def expTs (out : List Int) (ts : List Tok) : List Int := ts.foldl expT out
/-- Each match lies within what was told ahead of it. -/
def fitTs : List Int → List Tok → Prop
  | _, [] => True
  | out, t :: ts => (t.len = 0 ∨ t.dist ≤ (out.length : Int)) ∧ fitTs (expT out t) ts
theorem expT_len (out : List Int) (t : Tok) : (expT out t).length = out.length + (if t.len = 0 then 1 else t.len.toNat) := by
  unfold expT
  split
  · rw [List.length_append]; rfl
  · exact copyT_len _ _ _
theorem expTs_cons (out : List Int) (t : Tok) (ts : List Tok) : expTs out (t :: ts) = expTs (expT out t) ts := rfl
theorem expTs_ge : ∀ (ts : List Tok) (out : List Int), out.length ≤ (expTs out ts).length
  | [], _ => Nat.le_refl _
  | t :: ts, out => by
    rw [expTs_cons]
    have h := expTs_ge ts (expT out t)
    rw [expT_len] at h
    omega
theorem expTs_app (a b : List Tok) (out : List Int) : expTs out (a ++ b) = expTs (expTs out a) b := List.foldl_append
/-- A token that the two codes have words for. -/
def tokW (ls ds : List Int) (t : Tok) : Prop :=
  (t.len = 0 ∧ 0 ≤ t.b ∧ t.b < 256 ∧ t.b.toNat < ls.length ∧ 0 < ls.getD t.b.toNat 0) ∨
  (3 ≤ t.len ∧ t.len ≤ 258 ∧ 1 ≤ t.dist ∧ t.dist ≤ 32768 ∧ 257 + lenD t.len.toNat < ls.length ∧ 0 < ls.getD (257 + lenD t.len.toNat) 0 ∧ dstD t.dist.toNat < ds.length ∧ 0 < ds.getD (dstD t.dist.toNat) 0)
theorem toksB_cons (ls ds : List Int) (t : Tok) (ts : List Tok) : toksB ls ds (t :: ts) = tokB ls ds t ++ toksB ls ds ts := rfl
theorem lenfit : ∀ n, n < 259 → 3 ≤ n → lenLeast (lenD n) ≤ n ∧ n - lenLeast (lenD n) < 2 ^ lenBits (lenD n) ∧ lenBits (lenD n) ≤ 5 := by decide +kernel
theorem findGo_top (L : Nat → Nat) (n : Nat) : ∀ D, findGo L n D = D ∨ n < L (findGo L n D + 1)
  | 0 => .inl rfl
  | D + 1 => by
    unfold findGo
    split
    · exact .inl rfl
    · rename_i h
      rcases findGo_top L n D with h1 | h1
      · rw [h1]
        exact .inr (by omega)
      · exact .inr h1
theorem dst_steps : ∀ d, d < 29 → dstLeast (d + 1) = dstLeast d + 2 ^ dstBits d := by decide +kernel
theorem dst_last : dstLeast 29 = 24577 ∧ dstBits 29 = 13 ∧ dstLeast 0 = 1 := by decide +kernel
theorem dstfit (n : Nat) (h1 : 1 ≤ n) (h2 : n ≤ 32768) : dstLeast (dstD n) ≤ n ∧ n - dstLeast (dstD n) < 2 ^ dstBits (dstD n) ∧ dstBits (dstD n) ≤ 13 := by
  have hl := findGo_least dstLeast n (by rw [dst_last.2.2]; exact h1) 29
  have ht := findGo_top dstLeast n 29
  have hlt := dstD_lt n
  unfold dstD at hlt ⊢
  generalize findGo dstLeast n 29 = d at *
  refine ⟨hl, ?_, (dstLeast_le d hlt).2.2⟩
  rcases ht with rfl | ht
  · rw [dst_last.1, dst_last.2.1]
    omega
  · by_cases h : d < 29
    · rw [dst_steps d h] at ht
      omega
    · obtain rfl : d = 29 := by omega
      rw [dst_last.1, dst_last.2.1]
      omega
theorem drop_more {bs a b : List Bool} {k : Nat} (h : bs.drop k = a ++ b) : bs.drop (k + a.length) = b ∧ k + a.length ≤ max bs.length k := by
  constructor
  · rw [← List.drop_drop, h, List.drop_left]
  · have := congrArg List.length h
    rw [List.length_drop, List.length_append] at this
    omega

/-- From w, where a row was v, to w', where it is v': nothing else has changed. -/
structure Grew (v : Value) (w : World) (v' : Value) (w' : World) : Prop where
  grown : w.grownBy w' v.ownBlock
  own : ∀ k, v'.ownBlock = some k → v.ownBlock = some k ∨ w.heap.size ≤ k
theorem Grew.refl (v : Value) (w : World) : Grew v w v w := ⟨⟨rfl, rfl, rfl, Nat.le_refl _, fun _ _ _ => rfl⟩, fun _ h => .inl h⟩
theorem Grew.trans {v1 v2 v3 : Value} {a b c : World} (h : Grew v1 a v2 b) (k : Grew v2 b v3 c) : Grew v1 a v3 c :=
  ⟨⟨k.grown.os.trans h.grown.os, k.grown.tape.trans h.grown.tape, k.grown.output.trans h.grown.output, Nat.le_trans h.grown.size k.grown.size, fun i hi hne => by
    refine (k.grown.block i (Nat.lt_of_lt_of_le hi h.grown.size) (fun e => ?_)).trans (h.grown.block i hi hne)
    rcases h.own i e.symm with h1 | h1
    · exact hne h1.symm
    · omega⟩, fun i e => by
    rcases k.own i e with h1 | h1
    · exact h.own i h1
    · exact .inr (Nat.le_trans h.grown.size h1)⟩
theorem Grew.more {v v' : Value} {a b c : World} (h : Grew v a v' b) (k : Below b.heap.size b c) : Grew v a v' c :=
  h.trans ⟨grown_below _ k, fun _ e => .inl e⟩
theorem Grew.drewN {v v' : Value} {a b : World} (h : Grew v a v' b) (q : Nat) : Grew v a v' (b.drewN q) := h.more (below_drewN (Below.refl _ _) q)
theorem Grew.below {v v' : Value} {w w' : World} {base : Nat} (h : Grew v w v' w') (hv : ∀ k, v.ownBlock = some k → base ≤ k) (hb : base ≤ w.heap.size) : Below base w w' :=
  (Below.refl base w).grown h.grown hb hv
theorem Grew.block {v v' : Value} {w w' : World} (h : Grew v w v' w') {k : Nat} (hk : k < w.heap.size) (hne : v.ownBlock ≠ some k) : w'.heap[k]? = w.heap[k]? := h.grown.block k hk (fun e => hne e.symm)
theorem Grew.ne {v v' : Value} {w w' : World} (h : Grew v w v' w') {k : Nat} (hk : k < w.heap.size) (hne : v.ownBlock ≠ some k) : v'.ownBlock ≠ some k := fun e => by
  rcases h.own k e with h1 | h1
  · exact hne h1
  · omega
theorem Grew.reads {v v' : Value} {w w' : World} (h : Grew v w v' w') {A : Option Addr} {l : List Int} (hA : Reads w A l) (hne : ∀ g o, A = some ⟨g, o, none⟩ → v.ownBlock ≠ some g) : Reads w' A l := fun j hj => by
  obtain ⟨g, o, e, hc⟩ := hA j hj
  refine ⟨g, o, e, ?_⟩
  exact (World.cell?_of_block (h.block (World.block_lt_of_cell? w _ hc) (hne g o e))).trans hc
theorem Grew.rowS {v v' : Value} {w w' : World} (h : Grew v w v' w') {B n : Nat} {f : Nat → ByteArray} (hB : RowS w B n f) (hne : v.ownBlock ≠ some B) : RowS w' B n f :=
  (h.block (Array.getElem?_eq_some_iff.1 hB).1 hne).trans hB
end Go.Proofs.YtmpokiflhijnoaaDoor.Rf
