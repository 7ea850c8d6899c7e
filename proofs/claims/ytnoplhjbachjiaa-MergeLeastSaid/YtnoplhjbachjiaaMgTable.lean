/-
  The reference's table in plain words, level by level; what it tells is the cost of levels that are wide enough.
-/
import Derived.Test.YtnoplhjbachjiaaMgBest2
namespace Go.Proofs.Ytnoplhjbachjiaa.Mg
set_option linter.unusedVariables false
set_option linter.unusedSimpArgs false

abbrev Tab := Nat → Nat → Int
structure St where
  next : Tab
  best : Int

def putT (f : Tab) (i k : Nat) (c : Int) : Tab := fun a b => if a = i ∧ b = k then c else f a b

def stepW (n : Nat) (cost : Int) (i op w : Nat) (s : St) : St :=
  { best := if min (op - w) n = 0 ∧ i + w = n ∧ (s.best < 0 ∨ cost < s.best) then cost else s.best
    next := if 0 < min (op - w) n ∧ i + w < n ∧ min (op - w) n ≤ n - i - w ∧ (s.next (i + w) (min (op - w) n) < 0 ∨ cost < s.next (i + w) (min (op - w) n)) then putT s.next (i + w) (min (op - w) n) cost else s.next }

def iter (f : Nat → St → St) : Nat → St → St
  | 0, s => s
  | m + 1, s => f m (iter f m s)

def stepK (n : Nat) (rest : Nat → Int) (at' : Tab) (i k : Nat) (s : St) : St :=
  if at' i k < 0 then s else iter (stepW n (at' i k + rest i) i (2 * k)) (min (2 * k) (n - i) + 1) s
def stepI (n : Nat) (rest : Nat → Int) (at' : Tab) (i : Nat) (s : St) : St := iter (fun j s => stepK n rest at' i (j + 1) s) n s
def stepL (n : Nat) (rest : Nat → Int) (s : St) : St := iter (fun i s' => stepI n rest s.next i s') (n + 1) { next := fun _ _ => -1, best := s.best }
def tab0 : Tab := fun i k => if i = 0 ∧ k = 1 then 0 else -1
def lvlT (n : Nat) (rest : Nat → Int) : Nat → St
  | 0 => { next := tab0, best := -1 }
  | t + 1 => stepL n rest (lvlT n rest t)

/-- Values only fall, and stay where they are told. -/
structure Falls (s s' : St) : Prop where
  next : ∀ i k, 0 ≤ s.next i k → 0 ≤ s'.next i k ∧ s'.next i k ≤ s.next i k
  best : 0 ≤ s.best → 0 ≤ s'.best ∧ s'.best ≤ s.best
theorem Falls.refl (s : St) : Falls s s := ⟨fun _ _ h => ⟨h, Int.le_refl _⟩, fun h => ⟨h, Int.le_refl _⟩⟩
theorem Falls.trans {a b c : St} (h1 : Falls a b) (h2 : Falls b c) : Falls a c := by
  refine ⟨fun i k h => ?_, fun h => ?_⟩
  · have e1 := h1.next i k h
    have e2 := h2.next i k e1.1
    omega
  · have e1 := h1.best h
    have e2 := h2.best e1.1
    omega
theorem stepW_falls (n : Nat) (cost : Int) (i op w : Nat) (s : St) (hc : 0 ≤ cost) : Falls s (stepW n cost i op w s) := by
  refine ⟨fun a b h => ?_, fun h => ?_⟩
  · show 0 ≤ (stepW n cost i op w s).next a b ∧ _
    unfold stepW
    simp only
    split
    · rename_i hh
      unfold putT
      split
      · rename_i e
        obtain ⟨rfl, rfl⟩ := e
        omega
      · omega
    · omega
  · show 0 ≤ (stepW n cost i op w s).best ∧ _
    unfold stepW
    simp only
    split <;> omega
theorem iter_falls {f : Nat → St → St} : ∀ m s, (∀ j, j < m → ∀ s, Falls s (f j s)) → Falls s (iter f m s)
  | 0, s, _ => Falls.refl s
  | m + 1, s, h => (iter_falls m s (fun j hj => h j (by omega))).trans (h m (by omega) _)
theorem iter_hit {f : Nat → St → St} (j : Nat) (s : St) : ∀ m, j < m → (∀ j, j < m → ∀ s, Falls s (f j s)) → Falls (f j (iter f j s)) (iter f m s)
  | 0, h, _ => by omega
  | m + 1, h, hf => by
    by_cases e : j = m
    · subst e; exact Falls.refl _
    · exact (iter_hit j s m (by omega) (fun j hj => hf j (by omega))).trans (hf m (by omega) _)
theorem stepK_falls (n : Nat) (rest : Nat → Int) (hr : ∀ i, 0 ≤ rest i) (at' : Tab) (i k : Nat) (s : St) : Falls s (stepK n rest at' i k s) := by
  unfold stepK
  split
  · exact Falls.refl s
  · refine iter_falls _ _ fun j _ s => stepW_falls _ _ _ _ _ _ ?_
    have := hr i
    omega
theorem stepI_falls (n : Nat) (rest : Nat → Int) (hr : ∀ i, 0 ≤ rest i) (at' : Tab) (i : Nat) (s : St) : Falls s (stepI n rest at' i s) :=
  iter_falls _ _ fun j _ s => stepK_falls n rest hr at' i (j + 1) s

/-- What holds of all that is told. -/
structure Tells (Q : Nat → Nat → Int → Prop) (R : Int → Prop) (s : St) : Prop where
  next : ∀ i k, 0 ≤ s.next i k → Q i k (s.next i k)
  best : 0 ≤ s.best → R s.best
theorem stepW_tells {Q : Nat → Nat → Int → Prop} {R : Int → Prop} (n : Nat) (cost : Int) (i op w : Nat) (s : St) (h : Tells Q R s)
    (hq : 0 < min (op - w) n → i + w < n → Q (i + w) (min (op - w) n) cost) (hr : min (op - w) n = 0 → i + w = n → R cost) : Tells Q R (stepW n cost i op w s) := by
  refine ⟨fun a b h0 => ?_, fun h0 => ?_⟩
  · revert h0
    show 0 ≤ (stepW n cost i op w s).next a b → Q a b ((stepW n cost i op w s).next a b)
    unfold stepW
    simp only
    split
    · rename_i hh
      unfold putT
      split
      · rename_i e
        obtain ⟨rfl, rfl⟩ := e
        exact fun _ => hq hh.1 hh.2.1
      · exact h.next a b
    · exact h.next a b
  · revert h0
    show 0 ≤ (stepW n cost i op w s).best → R (stepW n cost i op w s).best
    unfold stepW
    simp only
    split
    · rename_i hh
      exact fun _ => hr hh.1 hh.2.1
    · exact h.best
theorem iter_tells {Q : Nat → Nat → Int → Prop} {R : Int → Prop} {f : Nat → St → St} : ∀ m s, Tells Q R s → (∀ j, j < m → ∀ s, Tells Q R s → Tells Q R (f j s)) → Tells Q R (iter f m s)
  | 0, s, h, _ => h
  | m + 1, s, h, hf => hf m (by omega) _ (iter_tells m s h (fun j hj => hf j (by omega)))

theorem wid_scale : ∀ (lv : List Nat) (e : Nat), lv.length ≤ e + 1 → wid lv (e + 1) = 2 * wid lv e
  | [], e, _ => rfl
  | a :: r, 0, h => by
    have : r = [] := List.eq_nil_of_length_eq_zero (by simpa using h)
    subst this
    simp [wid]
    omega
  | a :: r, e + 1, h => by
    have ih := wid_scale r e (by simpa using h)
    rw [wid, wid, Nat.add_sub_cancel, Nat.add_sub_cancel, ih, Nat.pow_succ 2 (e + 1), Nat.mul_add, ← Nat.mul_assoc, Nat.mul_comm _ 2]
theorem wid_snoc : ∀ (lv : List Nat) (a e : Nat), lv.length ≤ e → wid (lv ++ [a]) e = wid lv e + a * 2 ^ (e - lv.length)
  | [], a, e, _ => by simp [wid]
  | b :: r, a, e, h => by
    obtain ⟨e, rfl⟩ : ∃ e', e = e' + 1 := ⟨e - 1, by simp at h; omega⟩
    have ih := wid_snoc r a e (by simpa using h)
    rw [List.cons_append, wid, wid, Nat.add_sub_cancel, ih, List.length_cons, Nat.add_sub_add_right]
    omega
theorem costL_snoc (cs : List Int) : ∀ (lv : List Nat) (a : Nat), costL cs (lv ++ [a]) = costL cs lv + pre (leavesP cs) a
  | [], a => by simp [costL]
  | b :: r, a => by
    rw [List.cons_append, costL, costL, costL_snoc cs r a]
    omega

/-- How wide levels are by their own length. -/
def widO (lv : List Nat) : Nat := wid lv (lv.length - 1)
theorem widO_snoc (lv : List Nat) (a : Nat) : widO (lv ++ [a]) = 2 * widO lv + a := by
  unfold widO
  rw [List.length_append, List.length_singleton, Nat.add_sub_cancel, wid_snoc lv a _ (Nat.le_refl _), Nat.sub_self, Nat.pow_zero, Nat.mul_one]
  rcases lv with _ | ⟨b, r⟩
  · rfl
  · rw [List.length_cons, Nat.add_sub_cancel, wid_scale (b :: r) r.length (by simp)]

/-- What a number in the table is the cost of. -/
def Way (cs : List Int) (n t i k : Nat) (c : Int) : Prop :=
  ∃ lv : List Nat, lv.length = t ∧ (∀ a ∈ lv, a ≤ n) ∧ costL cs lv = c ∧ i ≤ n ∧ n * 2 ^ t + k ≤ widO lv + 2 ^ t + (n - i)
/-- .. and what the best is the cost of. -/
def Whole (cs : List Int) (n t : Nat) (c : Int) : Prop :=
  ∃ lv : List Nat, 1 ≤ lv.length ∧ lv.length ≤ t ∧ (∀ a ∈ lv, a ≤ n) ∧ costL cs lv = c ∧ n * 2 ^ lv.length ≤ widO lv + 2 ^ lv.length

theorem Way.next {cs : List Int} {n t i k : Nat} {c : Int} (h : Way cs n t i k c) (w k' : Nat) (hw : i + w ≤ n) (hk : k' + w ≤ 2 * k) : Way cs n (t + 1) (i + w) k' (c + pre (leavesP cs) (n - i)) := by
  obtain ⟨lv, h1, h2, h3, h4, h5⟩ := h
  refine ⟨lv ++ [n - i], by simp [h1], fun a ha => ?_, by rw [costL_snoc, h3], hw, ?_⟩
  · rcases List.mem_append.1 ha with h | h
    · exact h2 a h
    · rw [List.mem_singleton.1 h]; omega
  · rw [widO_snoc, Nat.pow_succ, ← Nat.mul_assoc]
    omega
theorem Way.whole {cs : List Int} {n t : Nat} {c : Int} (h : Way cs n (t + 1) n 0 c) : Whole cs n (t + 1) c := by
  obtain ⟨lv, h1, h2, h3, h4, h5⟩ := h
  refine ⟨lv, by omega, by omega, h2, h3, ?_⟩
  rw [h1]
  omega

/-- All that the table tells is the cost of levels. -/
theorem table_sound (cs : List Int) (n : Nat) (hn : 0 < n) (rest : Nat → Int) (hr : ∀ i, i ≤ n → rest i = pre (leavesP cs) (n - i)) : ∀ t, Tells (Way cs n t) (Whole cs n t) (lvlT n rest t)
  | 0 => by
    refine ⟨fun i k h => ?_, fun h => ?_⟩
    · by_cases e : i = 0 ∧ k = 1
      · obtain ⟨rfl, rfl⟩ := e
        exact ⟨[], rfl, fun a ha => (by cases ha), rfl, Nat.zero_le _, by simp [widO, wid]; omega⟩
      · exfalso
        have : (lvlT n rest 0).next i k = -1 := by show tab0 i k = -1; unfold tab0; rw [if_neg e]
        omega
    · exact absurd h (by show ¬ (0 : Int) ≤ -1; omega)
  | t + 1 => by
    have ih := table_sound cs n hn rest hr t
    show Tells _ _ (stepL n rest (lvlT n rest t))
    unfold stepL
    refine iter_tells _ _ ⟨fun i k h => absurd h (by show ¬ (0 : Int) ≤ -1; omega), fun h => ?_⟩ fun i hi s hs => ?_
    · obtain ⟨lv, h1, h2, h3⟩ := ih.best h
      exact ⟨lv, h1, by omega, h3⟩
    · refine iter_tells _ _ hs fun j hj s hs => ?_
      unfold stepK
      split
      · exact hs
      · rename_i hat
        have hway := ih.next i (j + 1) (by omega)
        refine iter_tells _ _ hs fun w hw s hs => ?_
        have hw1 : w ≤ 2 * (j + 1) := by omega
        have hw2 : i + w ≤ n := by omega
        have hc : (lvlT n rest t).next i (j + 1) + rest i = (lvlT n rest t).next i (j + 1) + pre (leavesP cs) (n - i) := by rw [hr i (by omega)]
        refine stepW_tells n _ i _ w s hs (fun h1 h2 => ?_) (fun h1 h2 => ?_)
        · rw [hc]
          exact hway.next w _ hw2 (by omega)
        · rw [hc]
          have h3 := hway.next w 0 hw2 (by omega)
          rw [h2] at h3
          exact h3.whole

theorem stepW_next_hit (n : Nat) (cost : Int) (i op w : Nat) (s : St) (hc : 0 ≤ cost) (h1 : 0 < min (op - w) n) (h2 : i + w < n) (h3 : min (op - w) n ≤ n - i - w) :
    0 ≤ (stepW n cost i op w s).next (i + w) (min (op - w) n) ∧ (stepW n cost i op w s).next (i + w) (min (op - w) n) ≤ cost := by
  unfold stepW
  simp only
  split
  · unfold putT
    rw [if_pos ⟨rfl, rfl⟩]
    omega
  · rename_i hh
    have : ¬ (s.next (i + w) (min (op - w) n) < 0 ∨ cost < s.next (i + w) (min (op - w) n)) := fun h => hh ⟨h1, h2, h3, h⟩
    omega
theorem stepW_best_hit (n : Nat) (cost : Int) (i op w : Nat) (s : St) (hc : 0 ≤ cost) (h1 : min (op - w) n = 0) (h2 : i + w = n) :
    0 ≤ (stepW n cost i op w s).best ∧ (stepW n cost i op w s).best ≤ cost := by
  unfold stepW
  simp only
  split
  · omega
  · rename_i hh
    have : ¬ (s.best < 0 ∨ cost < s.best) := fun h => hh ⟨h1, h2, h⟩
    omega

/-- A step that the table takes is told behind its level. -/
theorem stepL_hit (n : Nat) (rest : Nat → Int) (hr : ∀ i, 0 ≤ rest i) (s : St) (i k w : Nat) (hi : i ≤ n) (hk1 : 1 ≤ k) (hk : k ≤ n) (hw : w ≤ 2 * k) (hw2 : i + w ≤ n) (hat : 0 ≤ s.next i k) :
    ∃ s1 : St, Falls (stepW n (s.next i k + rest i) i (2 * k) w s1) (stepL n rest s) := by
  obtain ⟨j, rfl⟩ : ∃ j, k = j + 1 := ⟨k - 1, by omega⟩
  have hc : 0 ≤ s.next i (j + 1) + rest i := by have := hr i; omega
  let s0 : St := { next := fun _ _ => -1, best := s.best }
  let sI := iter (fun i s' => stepI n rest s.next i s') i s0
  let sK := iter (fun j s' => stepK n rest s.next i (j + 1) s') j sI
  let f : Nat → St → St := stepW n (s.next i (j + 1) + rest i) i (2 * (j + 1))
  refine ⟨iter f w sK, ?_⟩
  have h1 : Falls (f w (iter f w sK)) (iter f (min (2 * (j + 1)) (n - i) + 1) sK) := iter_hit w sK _ (by omega) (fun _ _ s => stepW_falls _ _ _ _ _ _ hc)
  have e1 : stepK n rest s.next i (j + 1) sK = iter f (min (2 * (j + 1)) (n - i) + 1) sK := by
    unfold stepK
    rw [if_neg (by omega)]
  have h2 : Falls (stepK n rest s.next i (j + 1) sK) (stepI n rest s.next i sI) := iter_hit j sI n (by omega) (fun j _ s' => stepK_falls n rest hr s.next i (j + 1) s')
  have h3 : Falls (stepI n rest s.next i sI) (stepL n rest s) := iter_hit i s0 (n + 1) (by omega) (fun i _ s' => stepI_falls n rest hr s.next i s')
  rw [e1] at h2
  exact (h1.trans h2).trans h3
theorem stepL_best (n : Nat) (rest : Nat → Int) (hr : ∀ i, 0 ≤ rest i) (s : St) (h : 0 ≤ s.best) : 0 ≤ (stepL n rest s).best ∧ (stepL n rest s).best ≤ s.best :=
  (iter_falls (n + 1) { next := fun _ _ => -1, best := s.best } (fun i _ s' => stepI_falls n rest hr s.next i s')).best h

end Go.Proofs.Ytnoplhjbachjiaa.Mg
