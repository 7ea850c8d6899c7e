/-
  Merge: rows of packs as they lie, and pairs of packs in plain words.
-/
import Derived.Test.YtnoplhjbachjiaaMgConcatI
import Derived.Test.YtnoplhjbachjiaaMgConcatP
namespace Go.Proofs.Ytnoplhjbachjiaa.Mg
open Go.ChangeShapes Go.WideShapes Go.ChangeAt Go.RowKit Go.Shelf Go.Proofs
set_option linter.unusedVariables false
set_option linter.unusedSimpArgs false

/-- A pack as it lies: its cost, the slice of its places, and the places. -/
structure PV where
  cost : Int
  sv : Value
  ins : List Nat

def PV.pure (q : PV) : Int × List Nat := (q.cost, q.ins)
def nv (k : Nat) : Value := .int .i64 k
def pcells (qs : List PV) : List Value := qs.flatMap fun q => [.int .i64 q.cost, q.sv]
theorem pcells_nil : pcells [] = [] := rfl
theorem pcells_cons (q : PV) (qs : List PV) : pcells (q :: qs) = .int .i64 q.cost :: q.sv :: pcells qs := rfl
theorem pcells_append (a b : List PV) : pcells (a ++ b) = pcells a ++ pcells b := by
  unfold pcells; rw [List.flatMap_append]
theorem pcells_len : ∀ qs : List PV, (pcells qs).length = qs.length * 2
  | [] => rfl
  | q :: qs => by rw [pcells_cons]; simp only [List.length_cons, pcells_len qs]; omega
theorem pcells_cost : ∀ (qs : List PV) (k : Nat) (h : k < qs.length), (pcells qs)[2 * k]? = some (.int .i64 qs[k].cost)
  | q :: qs, 0, _ => rfl
  | q :: qs, k + 1, h => by
    rw [pcells_cons, show 2 * (k + 1) = 2 * k + 1 + 1 by omega, List.getElem?_cons_succ, List.getElem?_cons_succ, pcells_cost qs k (by simpa using h)]
    rfl
theorem pcells_sv : ∀ (qs : List PV) (k : Nat) (h : k < qs.length), (pcells qs)[2 * k + 1]? = some qs[k].sv
  | q :: qs, 0, _ => rfl
  | q :: qs, k + 1, h => by
    rw [pcells_cons, show 2 * (k + 1) + 1 = (2 * k + 1) + 1 + 1 by omega, List.getElem?_cons_succ, List.getElem?_cons_succ, pcells_sv qs k (by simpa using h)]
    rfl
theorem pcells_drop : ∀ (qs : List PV) (k : Nat), (pcells qs).drop (2 * k) = pcells (qs.drop k)
  | qs, 0 => rfl
  | [], k + 1 => by simp [pcells]
  | q :: qs, k + 1 => by
    rw [pcells_cons, show 2 * (k + 1) = 2 * k + 1 + 1 by omega, List.drop_succ_cons, List.drop_succ_cons, pcells_drop qs k]
    rfl

/-- The places of the packs lie in the world. -/
def Ins (w : World) (qs : List PV) : Prop := ∀ q ∈ qs, Rd w 3 1 q.sv q.ins.length (q.ins.map nv)
theorem Ins.below {w w' : World} {qs : List PV} (h : Ins w qs) (hb : Below w.heap.size w w') : Ins w' qs := fun q hq => (h q hq).below hb
theorem Ins.append {w : World} {a b : List PV} (h1 : Ins w a) (h2 : Ins w b) : Ins w (a ++ b) := fun q hq => by
  rcases List.mem_append.1 hq with h | h
  · exact h1 q h
  · exact h2 q h

/-- The places lie in blocks from b on. -/
def Low (b : Nat) (qs : List PV) : Prop := ∀ q ∈ qs, ∃ g o n c, q.sv = .slice (some ⟨g, o, none⟩) n c ∧ b ≤ g

theorem nv_one (ks : List Nat) : ∀ u ∈ ks.map nv, u.oneCell' = true := by
  intro u hu
  obtain ⟨k, _, rfl⟩ := List.mem_map.1 hu
  rfl

theorem Rd.pack {w : World} {v : Value} {qs : List PV} (h : Rd w 38 2 v qs.length (pcells qs)) : ∃ g o c, v = .slice (some ⟨g, o, none⟩) qs.length c ∧ qs.length ≤ c ∧ ∀ k (h : k < qs.length), w.cell? ⟨g, o + 2 * k, none⟩ = some (.int .i64 qs[k].cost) ∧ w.cell? ⟨g, o + 2 * k + 1, none⟩ = some qs[k].sv := by
  obtain ⟨g, o, c, h1, h2, h3⟩ := h.cell
  refine ⟨g, o, c, h1, h2, fun k hk => ?_⟩
  have hl := pcells_len qs
  have e1 := h3 (2 * k) (by omega)
  have e2 := h3 (2 * k + 1) (by omega)
  rw [show o + (2 * k + 1) = o + 2 * k + 1 by omega] at e2
  refine ⟨e1.trans ?_, e2.trans ?_⟩
  · rw [← List.getElem?_eq_getElem]; exact pcells_cost qs k hk
  · rw [← List.getElem?_eq_getElem]; exact pcells_sv qs k hk

/-- An own row of a lower base. -/
theorem own_lower {w : World} {b b' : Nat} {T : TypeId} {size n : Nat} {v : Value} {xs : List Value} (h : w.ownsRow b' T size v n xs) (hb : b ≤ b') : w.ownsRow b T size v n xs := by
  obtain ⟨h1, h2 | ⟨g, cap, cur, h3, h4, h5⟩⟩ := h
  · exact ⟨h1, .inl h2⟩
  · exact ⟨h1, .inr ⟨g, cap, cur, h3, Nat.le_trans hb h4, h5⟩⟩

theorem own_some {w : World} {b : Nat} {T : TypeId} {size n : Nat} {v : Value} {xs : List Value} (h : w.ownsRow b T size v n xs) (hn : 0 < n) : v ≠ .slice none 0 0 := by
  intro e
  obtain ⟨h1, ⟨_, h2⟩ | ⟨g, cap, cur, h3, h4, h5⟩⟩ := h
  · omega
  · rw [e] at h3; cases h3

/-- The row's block is of the row's type. -/
theorem own_type {w : World} {b : Nat} {T : TypeId} {size n : Nat} {v : Value} {xs : List Value} (h : w.ownsRow b T size v n xs) : ∀ r, v.ownBlock = some r → ∃ cur fr, w.heap[r]? = some (.cells cur T fr) := by
  intro r e
  obtain ⟨h1, ⟨h2, _⟩ | ⟨g, cap, cur, h3, h4, h5, _⟩⟩ := h
  · rw [h2] at e; cases e
  · rw [h3] at e
    cases e
    exact ⟨cur, _, h5⟩

/-- Rows of places stay as they are when a row of packs grows. -/
theorem Ins.grown {w w' : World} {b : Nat} {v : Value} {n : Nat} {xs : List Value} {qs : List PV} (h : Ins w qs) (ho : w.ownsRow b 38 2 v n xs) (hg : w.grownBy w' v.ownBlock) : Ins w' qs := fun q hq =>
  (h q hq).grown hg (own_type ho) (by decide)

theorem wp_two (w : World) (v1 v2 : Value) (t : TypeId) : ∀ j (h : j < 2), ((w.alloc (.cells #[v1, v2] t)).drew).cell? ⟨w.heap.size, j, none⟩ = some (if j = 0 then v1 else v2) := by
  intro j hj
  have h := two_cells w v1 v2 t
  rcases j with _ | _ | j
  · exact h.1
  · exact h.2
  · omega

/-- slices.Concat of two rows that were just put into one. -/
theorem concat_two (v1 v2 : Value) (n1 n2 : Nat) (k1 k2 : List Nat) (w : World) (h1 : Rd w 3 1 v1 n1 (k1.map nv)) (h2 : Rd w 3 1 v2 n2 (k2.map nv)) (hp : 0 < n1 + n2) (hb : n1 + n2 ≤ 1000000) :
    Calls Try.prog 29 #[.slice (some ⟨w.heap.size, 0, none⟩) 2 2] ((w.alloc (.cells #[v1, v2] 22)).drew) fun e w' => ∃ gn cn, e = .returned (.slice (some ⟨gn, 0, none⟩) (n1 + n2) cn) ∧ w'.ownsRow w.heap.size 3 1 (.slice (some ⟨gn, 0, none⟩) (n1 + n2) cn) (n1 + n2) ((k1 ++ k2).map nv) ∧ Below w.heap.size w w' := by
  have hB0 : Below w.heap.size w ((w.alloc (.cells #[v1, v2] 22)).drew) := ((Below.refl w.heap.size w).alloc (Nat.le_refl _) _).drew
  have hsz : ((w.alloc (.cells #[v1, v2] 22)).drew).heap.size = w.heap.size + 1 := by
    show (w.heap.push _).size = _
    simp
  refine (ci_calls w.heap.size 2 [(v1, n1, k1.map nv), (v2, n2, k2.map nv)] _ ?_ ?_ ?_ ?_ ?_ (by simp)).mono ?_
  · intro j hj
    have hj2 : j < 2 := by simpa using hj
    rw [wp_two w v1 v2 _ j hj2]
    rcases j with _ | _ | j
    · rfl
    · rfl
    · omega
  · intro j hj
    have hj2 : j < 2 := by simpa using hj
    rcases j with _ | _ | j
    · exact h1.below hB0
    · exact h2.below hB0
    · omega
  · intro j hj
    have hj2 : j < 2 := by simpa using hj
    rcases j with _ | _ | j
    · exact nv_one k1
    · exact nv_one k2
    · omega
  · simpa [ci_sum] using hp
  · simpa [ci_sum] using hb
  · rintro e w' ⟨v, rfl, ho, hb2⟩
    have e1 : ci_sum [(v1, n1, k1.map nv), (v2, n2, k2.map nv)] 2 = n1 + n2 := by simp [ci_sum]
    have e2 : ci_cat [(v1, n1, k1.map nv), (v2, n2, k2.map nv)] 2 = (k1 ++ k2).map nv := by simp [ci_cat]
    have ho2 : w'.ownsRow w.heap.size 3 1 v (n1 + n2) ((k1 ++ k2).map nv) := own_lower (by rw [← e1, ← e2]; exact ho) (by rw [hsz]; omega)
    obtain ⟨gn, cn, rfl, _, _⟩ := ho2.form hp
    exact ⟨gn, cn, rfl, ho2, hB0.trans (hb2.mono (by rw [hsz]; omega))⟩

theorem own_below {w w' : World} {b : Nat} {T : TypeId} {size n : Nat} {v : Value} {xs : List Value} (h : w.ownsRow b T size v n xs) (hb : Below w.heap.size w w') : w'.ownsRow b T size v n xs := by
  obtain ⟨h1, h2 | ⟨g, cap, cur, h3, h4, h5, h6⟩⟩ := h
  · exact ⟨h1, .inl h2⟩
  · exact ⟨h1, .inr ⟨g, cap, cur, h3, h4, (hb.block g (Array.getElem?_eq_some_iff.1 h5).1).trans h5, h6⟩⟩

/-- The two cells of a block that was just made. -/
theorem news_two (w : World) (v u : Value) (t : TypeId) : ∀ j x, [v, u][j]? = some x → (w.alloc (.cells #[v, u] t)).cell? ((⟨w.heap.size, 0, none⟩ : Addr).add j) = some x :=
  World.news_of_block (heap_new w (.cells #[v, u] t))

theorem two_one (x : Int) (B n c : Nat) : ∀ u ∈ [Value.int .i64 x, .slice (some ⟨B, 0, none⟩) n c], u.oneCell' = true := by
  intro u hu
  simp only [List.mem_cons, List.not_mem_nil, or_false] at hu
  rcases hu with rfl | rfl <;> rfl

theorem two_one' (x : Int) (B o n c : Nat) : ∀ u ∈ [Value.int .i64 x, .slice (some ⟨B, o, none⟩) n c], u.oneCell' = true := by
  intro u hu
  simp only [List.mem_cons, List.not_mem_nil, or_false] at hu
  rcases hu with rfl | rfl <;> rfl

/-- Pairs of packs, two by two. -/
def pairsP : List (Int × List Nat) → List (Int × List Nat)
  | a :: b :: r => (a.1 + b.1, a.2 ++ b.2) :: pairsP r
  | _ => []
theorem pairsP_len : ∀ l, (pairsP l).length = l.length / 2
  | [] => rfl
  | [_] => by simp [pairsP]
  | a :: b :: r => by
    have := pairsP_len r
    simp only [pairsP, List.length_cons]
    omega
theorem pairsP_get : ∀ (l : List (Int × List Nat)) (k : Nat) (h : 2 * k + 1 < l.length), (pairsP l)[k]? = some (l[2 * k].1 + l[2 * k + 1].1, l[2 * k].2 ++ l[2 * k + 1].2)
  | [], k, h => by simp at h
  | [_], k, h => by simp at h
  | a :: b :: r, 0, h => rfl
  | a :: b :: r, k + 1, h => by
    have := pairsP_get r k (by simp at h; omega)
    simp only [pairsP, List.getElem?_cons_succ]
    rw [this]
    rfl

end Go.Proofs.Ytnoplhjbachjiaa.Mg
