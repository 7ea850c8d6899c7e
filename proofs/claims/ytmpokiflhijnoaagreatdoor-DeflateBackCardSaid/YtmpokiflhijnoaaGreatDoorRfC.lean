/-
  The reference of layer 7: a block of the kind Stored.
-/
import Derived.Test.YtmpokiflhijnoaaGreatDoorRfB
import Derived.Test.YtmpokiflhijnoaaGreatDoorBwAdd
namespace Go.Proofs.YtmpokiflhijnoaaGreatDoor.Rf
open Go.RowKit Go.Shelf Go.Proofs.YtmpokiflhijnoaaGreatDoor.Mg Go.Proofs.YtmpokiflhijnoaaGreatDoor.Bw Go.Proofs.YtmpokiflhijnoaaGreatDoor.Bk Go.Proofs.YtmpokiflhijnoaaGreatDoor.Cn Go.Proofs.YtmpokiflhijnoaaGreatDoor.Zp
set_option linter.unusedVariables false
set_option linter.unusedSimpArgs false

set_option maxHeartbeats 4000000 in
set_option maxRecDepth 100000 in
theorem plain_calls (s : ByteArray) (at' k N base n : Nat) (v : Value) (xs : List Value) (w : World) (hk : (at' + 7) / 8 = k) (ha : at' ≤ 1000000000000) (hs : s.size ≤ 1000000000000) (hn : n ≤ 1000000000000) (hN : N ≤ 65535) (h1 : k + 4 + N ≤ s.size)
    (hg1 : getS (s.extract k (k + 2)) = N) (hg2 : getS (s.extract (k + 2) (k + 4)) = 65535 - N) (hown : w.ownsRow base 5 1 v n xs) (hb : base ≤ w.heap.size) :
    Calls Tryz.prog 26 #[.string s, .int .i64 at', v] w fun e w' => (∃ v', e = .returned (.tuple #[v', .int .i64 ((8 * (k + 4 + N) : Nat) : Int), .int .i64 0]) ∧ w'.ownsRow base 5 1 v' (n + N) (xs ++ Lib.strCells (s.extract (k + 4) (k + 4 + N)))) ∧ Below base w w' := by
  have hii : Tryz.prog.info? 5 = some tb8 := by kernel_rfl
  have hiz0 : tb8.zero = some (.int .u8 0) := by kernel_rfl
  have hiz1 : tb8.size = 1 := by kernel_rfl
  have hiz2 : tb8.bytes = 1 := by kernel_rfl
  have HO := Lib.hid hown
  have HG1 : Hid (Calls Tryz.prog 43 #[.string (s.extract k (k + 2))] w fun e w' => e = .returned (.int .u64 N) ∧ w = w') := Lib.hid (by
    have h := refget_calls (s.extract k (k + 2)) w (by simp; omega)
    rw [hg1] at h
    exact h)
  have HG2 : Hid (Calls Tryz.prog 43 #[.string (s.extract (k + 2) (k + 4))] w fun e w' => e = .returned (.int .u64 ((65535 - N : Nat) : Int)) ∧ w = w') := Lib.hid (by
    have h := refget_calls (s.extract (k + 2) (k + 4)) w (by simp; omega)
    rw [hg2] at h
    exact h)
  have HSZ : Hid ((s.extract (k + 4) (k + 4 + N)).size = N) := Lib.hid (by simp; omega)
  have hq : Int.tdiv ((at' : Int) + 7) 8 = (k : Int) := by
    rw [Int.tdiv_eq_ediv_of_nonneg (by omega)]
    omega
  have q1 : decide ((s.size : Int) < (k : Int) + 4) = false := decide_eq_false (by omega)
  have q3 : decide ((s.size : Int) < (k : Int) + 4 + (N : Int)) = false := decide_eq_false (by omega)
  obtain ⟨M, hM⟩ : ∃ M, 65535 - N = M := ⟨_, rfl⟩
  have hMN : N + M = 65535 := by omega
  rw [hM] at HG2
  clear hM hg1 hg2 hown hk
  go_enter Tryz.func26, Tryz.ntmps26
  go_wp2_with fail
  refine HG1.out.mono ?_
  rintro e w1 ⟨rfl, rfl⟩
  have q2 : decide ((N : Int) + (M : Int) = 65535) = true := decide_eq_true (by omega)
  have q2' : (N : Int) + (M : Int) = 65535 := by omega
  go_wp2_with fail
  refine HG2.out.mono ?_
  rintro e w1 ⟨rfl, rfl⟩
  go_wp2_with (at_builtin; refine wpList_append_at_string _ rfl _ _ 39 9 rfl base 5 tb8 Tryz.underlying39 Tryz.underlying9 hii hiz0 hiz1 hiz2 _ n xs rfl HO.out (s.extract (k + 4) (k + 4 + N)) rfl ?c3 ?c4 ?c5 ?_)
  case c3 => rw [HSZ.out]; unfold maxLen; omega
  case c4 => rw [HSZ.out]; omega
  case c5 => exact hb
  intro v3 w3 hown1 hg1 hfr
  have HO7 := Lib.hid hown1
  have HB7 : Hid (Below base w w3) := Lib.hid ((Below.refl base w).grown hg1 hb (fun r e => (HO.out.lt r e).1))
  clear hown1 hg1 hfr
  go_wp2
  go_ret3
  refine ⟨⟨_, ?_, HO7.out⟩, HB7.out⟩
  have e8 : ((8 * (k + 4 + N) : Nat) : Int) = 8 * ((k : Int) + 4 + (N : Int)) := by push_cast; rfl
  rw [e8]
  rfl
end Go.Proofs.YtmpokiflhijnoaaGreatDoor.Rf

/-
  The Writer's bytes, taken out.
-/
namespace Go.Proofs.YtmpokiflhijnoaaGreatDoor.Rf
open Go.RowKit Go.Shelf Go.Proofs.YtmpokiflhijnoaaGreatDoor.Mg Go.Proofs.YtmpokiflhijnoaaGreatDoor.Bw Go.Proofs.YtmpokiflhijnoaaGreatDoor.Bk Go.Proofs.YtmpokiflhijnoaaGreatDoor.Cn Go.Proofs.YtmpokiflhijnoaaGreatDoor.Zp
set_option linter.unusedVariables false
set_option linter.unusedSimpArgs false

theorem own_cell1 {w : World} {base n g cap : Nat} {e : TypeId} {xs : List Value} (h : w.ownsRow base e 1 (.slice (some ⟨g, 0, none⟩) n cap) n xs) (j : Nat) (v : Value) (hj : xs[j]? = some v) : w.cell? ⟨g, j, none⟩ = some v := by
  have := h.cells (g := g) rfl j v hj
  have hadd : (⟨g, 0, none⟩ : Addr).add j = ⟨g, j, none⟩ := by unfold Addr.add; split <;> simp_all
  rw [hadd] at this
  exact this

set_option maxHeartbeats 4000000 in
set_option maxRecDepth 100000 in
theorem drain_calls (base B o : Nat) (g c acc n : Nat) (dn : List Nat) (w : World) (h : WRaw w base B o (.slice (some ⟨g, 0, none⟩) dn.length c) dn acc n) (hl : dn.length ≤ 1000000000) :
    Calls Tryz.prog 18 #[.pointer (some ⟨B, o, none⟩)] w fun e w' => e = .returned (.string (strOfNums (dn.map fun x : Nat => (x : Int)))) ∧ w' = w.setCell ⟨B, o, none⟩ (.slice (some ⟨g, 0, none⟩) 0 c) := by
  obtain ⟨hr, c0, c1, c2, f0, -, hbyte, -, -⟩ := h
  have g0 := f0 o
  have hcell : ∀ i, i < dn.length → w.cell? ⟨g, 0 + i, none⟩ = some (.int .u8 ((dn.map fun x : Nat => (x : Int)).getD i 0)) := fun i hi => by
    have h2 := own_cell1 hr i (.int .u8 ((dn.map fun x : Nat => (x : Int)).getD i 0)) (by simp [byV, hi])
    rw [Nat.zero_add]
    exact h2
  obtain ⟨N, hN⟩ : ∃ N, dn.length = N := ⟨_, rfl⟩
  rw [hN] at hr c0 hl hcell
  have hconv := run_convert_bytes_arg (P := Tryz.prog) (w := w) 39 5 Tryz.underlying39 Tryz.underlying5 g 0 N c (dn.map fun x : Nat => (x : Int)) (by simp [hN]) hcell 9 Tryz.underlying9
  obtain ⟨S, hS⟩ : ∃ S, strOfNums (dn.map fun x : Nat => (x : Int)) = S := ⟨_, rfl⟩
  rw [hS] at hconv ⊢
  clear hcell hr c1 c2 hbyte f0 hS hN
  go_enter Tryz.func18, Tryz.ntmps18
  go_wp2
  go_ret
  exact ⟨rfl, rfl⟩
end Go.Proofs.YtmpokiflhijnoaaGreatDoor.Rf

/-
  The cells of the reference's rows.
-/
namespace Go.Proofs.YtmpokiflhijnoaaGreatDoor.Rf
open Go.RowKit Go.Shelf Go.Proofs.YtmpokiflhijnoaaGreatDoor.Mg Go.Proofs.YtmpokiflhijnoaaGreatDoor.Bw Go.Proofs.YtmpokiflhijnoaaGreatDoor.Bk Go.Proofs.YtmpokiflhijnoaaGreatDoor.Cn Go.Proofs.YtmpokiflhijnoaaGreatDoor.Zp
set_option linter.unusedVariables false
set_option linter.unusedSimpArgs false

theorem flat3_len (f : Nat → List Value) (hf : ∀ d, (f d).length = 3) : ∀ n, ((List.range n).flatMap f).length = n * 3 := by
  intro n
  induction n with
  | zero => rfl
  | succ n ih => rw [List.range_succ, List.flatMap_append, List.length_append, ih]; simp [hf]; omega
theorem flat3_get (f : Nat → List Value) (hf : ∀ d, (f d).length = 3) (d k : Nat) (hk : k < 3) : ∀ n, d < n → ((List.range n).flatMap f)[d * 3 + k]? = (f d)[k]? := by
  intro n
  induction n with
  | zero => intro h; omega
  | succ n ih =>
    intro h
    rw [List.range_succ, List.flatMap_append]
    by_cases hd : d < n
    · rw [List.getElem?_append_left (by rw [flat3_len f hf]; omega)]
      exact ih hd
    · obtain rfl : d = n := by omega
      rw [List.getElem?_append_right (by rw [flat3_len f hf]; omega), flat3_len f hf, Nat.add_sub_cancel_left]
      simp
theorem lenRows_get (n d k : Nat) (hd : d < n) (hk : k < 3) : (lenRows n)[d * 3 + k]? = (lenRow d)[k]? := flat3_get lenRow (fun _ => rfl) d k hk n hd
theorem dstRows_get (n d k : Nat) (hd : d < n) (hk : k < 3) : (dstRows n)[d * 3 + k]? = (dstRow d)[k]? := flat3_get dstRow (fun _ => rfl) d k hk n hd
theorem rows3_cell {w : World} {base g n c : Nat} {T : TypeId} {xs : List Value} (h : w.ownsRow base T 3 (.slice (some ⟨g, 0, none⟩) n c) n xs) (j : Nat) (v : Value) (hj : xs[j]? = some v) : w.cell? ⟨g, j, none⟩ = some v := by
  have := h.cells (g := g) rfl j v hj
  have hadd : (⟨g, 0, none⟩ : Addr).add j = ⟨g, j, none⟩ := by unfold Addr.add; split <;> simp_all
  rw [hadd] at this
  exact this
theorem lens_cells {w : World} {base g c d : Nat} {T : TypeId} (h : w.ownsRow base T 3 (.slice (some ⟨g, 0, none⟩) 29 c) 29 (lenRows 29)) (hd : d < 29) :
    w.cell? ⟨g, d * 3 + 1, none⟩ = some (.int .i64 (lenLeast d : Int)) ∧ w.cell? ⟨g, d * 3 + 2, none⟩ = some (.int .i64 (lenBits d : Int)) :=
  ⟨rows3_cell h _ _ (lenRows_get 29 d 1 hd (by decide)), rows3_cell h _ _ (lenRows_get 29 d 2 hd (by decide))⟩
theorem dists_cells {w : World} {base g c d : Nat} {T : TypeId} (h : w.ownsRow base T 3 (.slice (some ⟨g, 0, none⟩) 30 c) 30 (dstRows 30)) (hd : d < 30) :
    w.cell? ⟨g, d * 3 + 1, none⟩ = some (.int .i64 (dstLeast d : Int)) ∧ w.cell? ⟨g, d * 3 + 2, none⟩ = some (.int .i64 (dstBits d : Int)) :=
  ⟨rows3_cell h _ _ (dstRows_get 30 d 1 hd (by decide)), rows3_cell h _ _ (dstRows_get 30 d 2 hd (by decide))⟩
end Go.Proofs.YtmpokiflhijnoaaGreatDoor.Rf

/-
  Plain law: what tokens tell, behind what was told; and rows that grow.
-/
namespace Go.Proofs.YtmpokiflhijnoaaGreatDoor.Rf
open Go.RowKit Go.Shelf Go.Proofs.YtmpokiflhijnoaaGreatDoor.Mg Go.Proofs.YtmpokiflhijnoaaGreatDoor.Bw Go.Proofs.YtmpokiflhijnoaaGreatDoor.Bk Go.Proofs.YtmpokiflhijnoaaGreatDoor.Cn Go.Proofs.YtmpokiflhijnoaaGreatDoor.Zp
set_option linter.unusedVariables false
set_option linter.unusedSimpArgs false

def u8V (l : List Int) : List Value := l.map (Value.int .u8)
theorem u8V_len (l : List Int) : (u8V l).length = l.length := List.length_map _
theorem u8V_app (a b : List Int) : u8V (a ++ b) = u8V a ++ u8V b := List.map_append
/-- A match: so many bytes, each as far back. -/
def copyT (d : Nat) (out : List Int) : Nat → List Int
  | 0 => out
  | n + 1 => copyT d out n ++ [(copyT d out n).getD ((copyT d out n).length - d) 0]
theorem copyT_len (d : Nat) (out : List Int) : ∀ n, (copyT d out n).length = out.length + n
  | 0 => rfl
  | n + 1 => by rw [copyT, List.length_append, copyT_len d out n]; simp; omega
def expT (out : List Int) (t : Tok) : List Int := if t.len = 0 then out ++ [t.b] else copyT t.dist.toNat out t.len.toNat
def expTs (out : List Int) (ts : List Tok) : List Int := ts.foldl expT out
/-- Each match lies within what was told ahead of it. -/
def fitTs : List Int → List Tok → Prop
  | _, [] => True
  | out, t :: ts => (t.len = 0 ∨ t.dist ≤ (out.length : Int)) ∧ fitTs (expT out t) ts
theorem expT_len (out : List Int) (t : Tok) : (expT out t).length = out.length + (if t.len = 0 then 1 else t.len.toNat) := by
  unfold expT
  split
  · rw [List.length_append]; rfl
  · exact copyT_len _ _ _
theorem expTs_cons (out : List Int) (t : Tok) (ts : List Tok) : expTs out (t :: ts) = expTs (expT out t) ts := rfl
theorem expTs_ge : ∀ (ts : List Tok) (out : List Int), out.length ≤ (expTs out ts).length
  | [], _ => Nat.le_refl _
  | t :: ts, out => by
    rw [expTs_cons]
    have h := expTs_ge ts (expT out t)
    rw [expT_len] at h
    omega
theorem expTs_app (a b : List Tok) (out : List Int) : expTs out (a ++ b) = expTs (expTs out a) b := List.foldl_append
/-- A token that the two codes have words for. -/
def tokW (ls ds : List Int) (t : Tok) : Prop :=
  (t.len = 0 ∧ 0 ≤ t.b ∧ t.b < 256 ∧ t.b.toNat < ls.length ∧ 0 < ls.getD t.b.toNat 0) ∨
  (3 ≤ t.len ∧ t.len ≤ 258 ∧ 1 ≤ t.dist ∧ t.dist ≤ 32768 ∧ 257 + lenD t.len.toNat < ls.length ∧ 0 < ls.getD (257 + lenD t.len.toNat) 0 ∧ dstD t.dist.toNat < ds.length ∧ 0 < ds.getD (dstD t.dist.toNat) 0)
theorem toksB_cons (ls ds : List Int) (t : Tok) (ts : List Tok) : toksB ls ds (t :: ts) = tokB ls ds t ++ toksB ls ds ts := rfl
theorem lenfit : ∀ n, n < 259 → 3 ≤ n → lenLeast (lenD n) ≤ n ∧ n - lenLeast (lenD n) < 2 ^ lenBits (lenD n) ∧ lenBits (lenD n) ≤ 5 := by decide +kernel
theorem findGo_top (L : Nat → Nat) (n : Nat) : ∀ D, findGo L n D = D ∨ n < L (findGo L n D + 1)
  | 0 => .inl rfl
  | D + 1 => by
    unfold findGo
    split
    · exact .inl rfl
    · rename_i h
      rcases findGo_top L n D with h1 | h1
      · rw [h1]
        exact .inr (by omega)
      · exact .inr h1
theorem dst_steps : ∀ d, d < 29 → dstLeast (d + 1) = dstLeast d + 2 ^ dstBits d := by decide +kernel
theorem dst_last : dstLeast 29 = 24577 ∧ dstBits 29 = 13 ∧ dstLeast 0 = 1 := by decide +kernel
theorem dstfit (n : Nat) (h1 : 1 ≤ n) (h2 : n ≤ 32768) : dstLeast (dstD n) ≤ n ∧ n - dstLeast (dstD n) < 2 ^ dstBits (dstD n) ∧ dstBits (dstD n) ≤ 13 := by
  have hl := findGo_least dstLeast n (by rw [dst_last.2.2]; exact h1) 29
  have ht := findGo_top dstLeast n 29
  have hlt := dstD_lt n
  unfold dstD at hlt ⊢
  generalize findGo dstLeast n 29 = d at *
  refine ⟨hl, ?_, (dstLeast_le d hlt).2.2⟩
  rcases ht with rfl | ht
  · rw [dst_last.1, dst_last.2.1]
    omega
  · by_cases h : d < 29
    · rw [dst_steps d h] at ht
      omega
    · obtain rfl : d = 29 := by omega
      rw [dst_last.1, dst_last.2.1]
      omega
theorem drop_more {bs a b : List Bool} {k : Nat} (h : bs.drop k = a ++ b) : bs.drop (k + a.length) = b ∧ k + a.length ≤ max bs.length k := by
  constructor
  · rw [← List.drop_drop, h, List.drop_left]
  · have := congrArg List.length h
    rw [List.length_drop, List.length_append] at this
    omega

/-- From w, where a row was v, to w', where it is v': nothing else has changed. -/
structure Grew (v : Value) (w : World) (v' : Value) (w' : World) : Prop where
  grown : w.grownBy w' v.ownBlock
  own : ∀ k, v'.ownBlock = some k → v.ownBlock = some k ∨ w.heap.size ≤ k
theorem Grew.refl (v : Value) (w : World) : Grew v w v w := ⟨⟨rfl, rfl, rfl, Nat.le_refl _, fun _ _ _ => rfl⟩, fun _ h => .inl h⟩
theorem Grew.trans {v1 v2 v3 : Value} {a b c : World} (h : Grew v1 a v2 b) (k : Grew v2 b v3 c) : Grew v1 a v3 c :=
  ⟨⟨k.grown.os.trans h.grown.os, k.grown.tape.trans h.grown.tape, k.grown.output.trans h.grown.output, Nat.le_trans h.grown.size k.grown.size, fun i hi hne => by
    refine (k.grown.block i (Nat.lt_of_lt_of_le hi h.grown.size) (fun e => ?_)).trans (h.grown.block i hi hne)
    rcases h.own i e.symm with h1 | h1
    · exact hne h1.symm
    · omega⟩, fun i e => by
    rcases k.own i e with h1 | h1
    · exact h.own i h1
    · exact .inr (Nat.le_trans h.grown.size h1)⟩
theorem Grew.more {v v' : Value} {a b c : World} (h : Grew v a v' b) (k : Below b.heap.size b c) : Grew v a v' c :=
  h.trans ⟨grown_below _ k, fun _ e => .inl e⟩
theorem Grew.drewN {v v' : Value} {a b : World} (h : Grew v a v' b) (q : Nat) : Grew v a v' (b.drewN q) := h.more (below_drewN (Below.refl _ _) q)
theorem Grew.below {v v' : Value} {w w' : World} {base : Nat} (h : Grew v w v' w') (hv : ∀ k, v.ownBlock = some k → base ≤ k) (hb : base ≤ w.heap.size) : Below base w w' :=
  (Below.refl base w).grown h.grown hb hv
theorem Grew.block {v v' : Value} {w w' : World} (h : Grew v w v' w') {k : Nat} (hk : k < w.heap.size) (hne : v.ownBlock ≠ some k) : w'.heap[k]? = w.heap[k]? := h.grown.block k hk (fun e => hne e.symm)
theorem Grew.ne {v v' : Value} {w w' : World} (h : Grew v w v' w') {k : Nat} (hk : k < w.heap.size) (hne : v.ownBlock ≠ some k) : v'.ownBlock ≠ some k := fun e => by
  rcases h.own k e with h1 | h1
  · exact hne h1
  · omega
theorem Grew.reads {v v' : Value} {w w' : World} (h : Grew v w v' w') {A : Option Addr} {l : List Int} (hA : Reads w A l) (hne : ∀ g o, A = some ⟨g, o, none⟩ → v.ownBlock ≠ some g) : Reads w' A l := fun j hj => by
  obtain ⟨g, o, e, hc⟩ := hA j hj
  refine ⟨g, o, e, ?_⟩
  exact (World.cell?_of_block (h.block (World.block_lt_of_cell? w _ hc) (hne g o e))).trans hc
theorem Grew.rowS {v v' : Value} {w w' : World} (h : Grew v w v' w') {B n : Nat} {f : Nat → ByteArray} (hB : RowS w B n f) (hne : v.ownBlock ≠ some B) : RowS w' B n f :=
  (h.block (Array.getElem?_eq_some_iff.1 hB).1 hne).trans hB
end Go.Proofs.YtmpokiflhijnoaaGreatDoor.Rf

