/-
  A region that draws its order: one invariant, kept by each operation, whichever order is drawn.
-/
import Derived.Deep.Quiet
namespace Go.Proofs.YtmpokiflhijnoaaGreatDoor.Ri
open Go
set_option linter.unusedVariables false
set_option linter.unusedSimpArgs false

def upd (L : Nat → Bool) (i : Nat) : Nat → Bool := fun j => if j = i then true else L j
theorem upd_same (L : Nat → Bool) (i : Nat) : upd L i i = true := if_pos rfl
theorem upd_other (L : Nat → Bool) (i j : Nat) (h : j ≠ i) : upd L i j = L j := if_neg h

/-- Of each operation: no guard, and what binds it stands ahead of it in the text. -/
def plainOps : Nat → List Oper → Bool
  | _, [] => true
  | i, o :: os => o.guard.isNone && o.after.all (fun e => !Region.binds .any e || decide (e.on < i)) && plainOps (i + 1) os
theorem plain_at : ∀ (l : List Oper) (k i : Nat) (o : Oper), plainOps k l = true → l[i]? = some o → o.guard = none ∧ ∀ e ∈ o.after, Region.binds .any e = true → e.on < k + i
  | [], _, _, _, _, h => by simp at h
  | o :: os, k, 0, o', hp, h => by
    simp only [List.getElem?_cons_zero, Option.some.injEq] at h
    subst h
    simp only [plainOps, Bool.and_eq_true] at hp
    refine ⟨by simpa using hp.1.1, fun e he hb => ?_⟩
    have h2 := Array.all_eq_true_iff_forall_mem.1 hp.1.2 e he
    rw [hb] at h2
    simpa using h2
  | o :: os, k, i + 1, o', hp, h => by
    simp only [plainOps, Bool.and_eq_true] at hp
    have := plain_at os (k + 1) i o' hp.2 (by simpa using h)
    refine ⟨this.1, fun e he hb => ?_⟩
    have := this.2 e he hb
    omega

/-- What binds an operation is listed. -/
def Pre (L : Nat → Bool) : List Edge → Prop
  | [] => True
  | e :: es => (Region.binds .any e = true → L e.on = true) ∧ Pre L es
theorem pre_of {L : Nat → Bool} : ∀ l : List Edge, (∀ e ∈ l, Region.binds .any e = true → L e.on = true) → Pre L l
  | [], _ => True.intro
  | e :: es, h => ⟨h e List.mem_cons_self, pre_of es fun x hx => h x (List.mem_cons_of_mem _ hx)⟩

/-- Each operation keeps the invariant. -/
def Steps (P : Program) (Q : Exit → Act → World → Prop) (Inv : (Nat → Bool) → Act → World → Prop) : Nat → List Oper → Prop
  | _, [] => True
  | i, o :: os => (∀ L a w, L i = false → Pre L o.after.toList → Inv L a w → o.wp P a w (fun a' w' => Inv (upd L i) a' w') Q) ∧ Steps P Q Inv (i + 1) os
theorem steps_at {P : Program} {Q : Exit → Act → World → Prop} {Inv : (Nat → Bool) → Act → World → Prop} : ∀ (l : List Oper) (k i : Nat) (o : Oper), Steps P Q Inv k l → l[i]? = some o →
    ∀ L a w, L (k + i) = false → Pre L o.after.toList → Inv L a w → o.wp P a w (fun a' w' => Inv (upd L (k + i)) a' w') Q
  | [], _, _, _, _, h => by simp at h
  | o :: os, k, 0, o', hs, h => by
    simp only [List.getElem?_cons_zero, Option.some.injEq] at h
    subst h
    exact hs.1
  | o :: os, k, i + 1, o', hs, h => by
    have := steps_at os (k + 1) i o' hs.2 (by simpa using h)
    rw [show k + (i + 1) = k + 1 + i by omega]
    exact this

def left (n : Nat) (listed : Array Bool) : List Nat := (List.range n).filter fun i => !listed.getD i true
theorem filt_set (listed : Array Bool) (i : Nat) (hi : listed.getD i true = false) : ∀ l : List Nat, l.Nodup → i ∈ l →
    (l.filter fun j => !(listed.setIfInBounds i true).getD j true).length + 1 ≤ (l.filter fun j => !listed.getD j true).length
  | [], _, h => by cases h
  | a :: l, hn, h => by
    have hlt : i < listed.size := by
      rcases Nat.lt_or_ge i listed.size with h1 | h1
      · exact h1
      · simp [Array.getElem?_eq_none h1] at hi
    have hother : ∀ j, j ≠ i → (listed.setIfInBounds i true).getD j true = listed.getD j true := fun j hj => by
      simp [Array.getElem?_setIfInBounds, Ne.symm hj]
    have hsame : (listed.setIfInBounds i true).getD i true = true := by simp [Array.getElem?_setIfInBounds, hlt]
    rw [List.nodup_cons] at hn
    by_cases ha : a = i
    · subst ha
      rw [List.filter_cons_of_neg (by rw [hsame]; decide), List.filter_cons_of_pos (by rw [hi]; decide), List.length_cons]
      have : (l.filter fun j => !(listed.setIfInBounds a true).getD j true) = l.filter fun j => !listed.getD j true := by
        refine List.filter_congr (fun j hj => ?_)
        rw [hother j (fun e => hn.1 (by rw [← e]; exact hj))]
      rw [this]
      exact Nat.le_refl _
    · have ih := filt_set listed i hi l hn.2 (by rcases List.mem_cons.1 h with h | h; exact absurd h.symm ha; exact h)
      have e := hother a ha
      cases hb : listed.getD a true with
      | true => rw [List.filter_cons_of_neg (by rw [e, hb]; decide), List.filter_cons_of_neg (by rw [hb]; decide)]; exact ih
      | false => rw [List.filter_cons_of_pos (by rw [e, hb]; decide), List.filter_cons_of_pos (by rw [hb]; decide), List.length_cons, List.length_cons]; omega

section
variable {P : Program} {Q : Exit → Act → World → Prop} {l : List Oper} {Inv : (Nat → Bool) → Act → World → Prop}
theorem ready_nil (hp : plainOps 0 l = true) (listed : Array Bool) (hr : Region.ready .any l.toArray listed = []) (hsz : listed.size = l.length) : ∀ i, i < l.length → listed.getD i true = true := by
  intro i
  induction i using Nat.strongRecOn with
  | ind i ih =>
    intro hi
    cases h : listed.getD i true with
    | true => rfl
    | false =>
      have : i ∈ Region.ready .any l.toArray listed := by
        refine mem_ready.2 ⟨h, l[i], by simp [hi], fun e he hb => ?_⟩
        have h1 := (plain_at l 0 i l[i] hp (by simp [hi])).2 e he hb
        have h2 := ih e.on (by omega) (by omega)
        have h3 : e.on < listed.size := by omega
        simpa [h3] using h2
      rw [hr] at this
      cases this
theorem wpAny_inv (hp : plainOps 0 l = true) (hs : Steps P Q Inv 0 l) (hf : ∀ L a w, (∀ i, i < l.length → L i = true) → Inv L a w → Q .normal a w) :
    ∀ (fuel : Nat) (listed : Array Bool) (a : Act) (w : World), listed.size = l.length → (left l.length listed).length ≤ fuel → Inv (fun i => listed.getD i false) a w → wpAny P .any l.toArray Q fuel listed a w := by
  have hfin : ∀ (listed : Array Bool) (a : Act) (w : World), listed.size = l.length → Region.ready .any l.toArray listed = [] → Inv (fun i => listed.getD i false) a w → Q .normal a w := fun listed a w hsz hr hI =>
    hf _ a w (fun i hi => by
      have := ready_nil hp listed hr hsz i hi
      have h3 : i < listed.size := by omega
      simpa [h3] using this) hI
  intro fuel
  induction fuel with
  | zero =>
    intro listed a w hsz hc hI
    have hr : Region.ready .any l.toArray listed = [] := by
      rw [List.eq_nil_iff_forall_not_mem]
      intro i hi
      obtain ⟨h1, o, h2, -⟩ := mem_ready.1 hi
      have h3 : i < l.length := by simpa using (Array.getElem?_eq_some_iff.1 h2).1
      have h4 : i ∈ left l.length listed := List.mem_filter.2 ⟨List.mem_range.2 h3, by rw [h1]; rfl⟩
      rw [List.length_eq_zero_iff.1 (Nat.le_zero.1 hc)] at h4
      cases h4
    exact ⟨hr, hfin listed a w hsz hr hI⟩
  | succ fuel ih =>
    intro listed a w hsz hc hI
    refine ⟨fun hr => hfin listed a w hsz hr hI, fun i hi => ?_⟩
    obtain ⟨h1, o, h2, h3⟩ := mem_ready.1 hi
    have hlt : i < l.length := by simpa using (Array.getElem?_eq_some_iff.1 h2).1
    have hlo : l[i]? = some o := by simpa using h2
    have hsi : i < listed.size := by omega
    have hg := (plain_at l 0 i o hp hlo).1
    have hw : Region.wanted o (yielded l.toArray a.tmps) = true := by simp [Region.wanted, hg]
    have hstep := steps_at l 0 i o hs hlo (fun j => listed.getD j false) a w (by rw [Nat.zero_add]; simpa [hsi] using h1) (pre_of _ fun e he hb => h3 e (by simpa using he) hb) hI
    rw [Nat.zero_add] at hstep
    have heq : upd (fun j => listed.getD j false) i = fun j => (listed.setIfInBounds i true).getD j false := by
      funext j
      unfold upd
      by_cases hj : j = i
      · subst hj
        rw [if_pos rfl]
        simp [Array.getElem?_setIfInBounds, hsi]
      · rw [if_neg hj]
        simp [Array.getElem?_setIfInBounds, Ne.symm hj]
    rw [heq] at hstep
    unfold wpOp
    rw [h2]
    simp only [hw, if_true]
    refine .inl (Oper.wp_mono (fun a' w' h => ih _ a' w' (by simpa using hsz) ?_ h) hstep)
    have := filt_set listed i h1 (List.range l.length) List.nodup_range (List.mem_range.2 hlt)
    unfold left at hc ⊢
    omega
theorem wp_region_inv {id : Nat} {a : Act} {w : World} (Inv : (Nat → Bool) → Act → World → Prop) (hm : P.follows .mixedOrders = true) (hp : plainOps 0 l = true) (h0 : Inv (fun _ => false) a w.drew)
    (hs : Steps P Q Inv 0 l) (hf : ∀ L a w, (∀ i, i < l.length → L i = true) → Inv L a w → Q .normal a w) : (Code.region id l.toArray true).wp P Q a w := by
  refine wp_region_any hm (wpAny_inv hp hs hf _ _ _ _ (by simp) ?_ ?_)
  · have : (left l.length (Array.replicate l.toArray.size false)).length ≤ (List.range l.length).length := List.length_filter_le _ _
    simpa using this
  · have e : (fun i => (Array.replicate l.toArray.size false).getD i false) = fun _ => false := by
      funext i
      by_cases h : i < l.length
      · simp [h]
      · simp [h]
    rw [e]
    exact h0
end

/-- Slots that are laid. -/
def putL (a : Act) (l : List (Nat × Value)) : Act := l.foldl (fun x p => x.put (some p.1) p.2) a
theorem put_size (a : Act) (d : Option Tmp) (v : Value) : (a.put d v).tmps.size = a.tmps.size := by
  cases d <;> simp [Act.put]
theorem putL_size (a : Act) : ∀ l : List (Nat × Value), (putL a l).tmps.size = a.tmps.size := by
  intro l
  induction l generalizing a with
  | nil => rfl
  | cons p l ih => exact (ih _).trans (put_size _ _ _)
theorem eval_put_same (a : Act) (d : Nat) (v : Value) (h : d < a.tmps.size) : (a.put (some d) v).eval (.tmp d) = v := by
  simp [Act.put, Act.eval, h]
theorem eval_put_other (a : Act) (d t : Nat) (v : Value) (h : t ≠ d) : (a.put (some d) v).eval (.tmp t) = a.eval (.tmp t) := by
  simp [Act.put, Act.eval, Array.getElem?_setIfInBounds, Ne.symm h]
theorem eval_old (a : Act) (t : Nat) : ∀ l : List (Nat × Value), (l.map Prod.fst).contains t = false → (putL a l).eval (.tmp t) = a.eval (.tmp t) := by
  intro l
  induction l generalizing a with
  | nil => intro _; rfl
  | cons p l ih =>
    intro h
    simp only [List.map_cons, List.contains_cons, Bool.or_eq_false_iff] at h
    exact (ih _ h.2).trans (eval_put_other a p.1 t p.2 (by simpa using h.1))
/-- A slot that is laid once. -/
def slotB (t : Nat) : List (Nat × Value) → Option Value
  | [] => none
  | p :: l => if p.1 = t then (if (l.map Prod.fst).contains t then slotB t l else some p.2) else slotB t l
theorem eval_new (a : Act) (t : Nat) (v : Value) (ht : t < a.tmps.size) : ∀ l : List (Nat × Value), slotB t l = some v → (putL a l).eval (.tmp t) = v := by
  intro l
  induction l generalizing a with
  | nil => intro h; cases h
  | cons p l ih =>
    intro h
    rw [slotB] at h
    split at h
    · rename_i hp
      split at h
      · exact ih _ (by rw [put_size]; exact ht) h
      · rename_i hc
        simp only [Option.some.injEq] at h
        subst h
        refine (eval_old _ t l (by simpa using hc)).trans ?_
        rw [← hp]
        exact eval_put_same a p.1 p.2 (by rw [hp]; exact ht)
    · exact ih _ (by rw [put_size]; exact ht) h
def setL (d : Nat) (v : Value) : List (Nat × Value) → List (Nat × Value)
  | [] => []
  | p :: l => (if p.1 = d then (d, v) else p) :: setL d v l
theorem putL_off (a : Act) (d : Nat) (v : Value) : ∀ l : List (Nat × Value), (l.map Prod.fst).contains d = false → (putL a l).put (some d) v = putL (a.put (some d) v) l := by
  intro l
  induction l generalizing a with
  | nil => intro _; rfl
  | cons p l ih =>
    intro h
    simp only [List.map_cons, List.contains_cons, Bool.or_eq_false_iff] at h
    refine (ih _ h.2).trans ?_
    have hne : d ≠ p.1 := by simpa using h.1
    show putL ((a.put (some p.1) p.2).put (some d) v) l = putL ((a.put (some d) v).put (some p.1) p.2) l
    congr 1
    simp only [Act.put]
    congr 1
    exact Array.setIfInBounds_comm _ _ (Ne.symm hne)
theorem setL_off (d : Nat) (v : Value) : ∀ l : List (Nat × Value), (l.map Prod.fst).contains d = false → setL d v l = l
  | [], _ => rfl
  | p :: l, h => by
    simp only [List.map_cons, List.contains_cons, Bool.or_eq_false_iff] at h
    have hne : d ≠ p.1 := by simpa using h.1
    rw [setL, if_neg (Ne.symm hne), setL_off d v l h.2]
theorem put_put (a : Act) (d : Nat) (u v : Value) : (a.put (some d) u).put (some d) v = a.put (some d) v := by
  simp [Act.put, Array.setIfInBounds_setIfInBounds]
theorem putL_put (d : Nat) (v : Value) (l : List (Nat × Value)) (hn : (l.map Prod.fst).Nodup) (h : (l.map Prod.fst).contains d = true) (a : Act) : (putL a l).put (some d) v = putL a (setL d v l) := by
  induction l generalizing a with
  | nil => simp at h
  | cons p l ih =>
    rw [List.map_cons, List.nodup_cons] at hn
    by_cases hp : p.1 = d
    · have hc : (l.map Prod.fst).contains d = false := by
        rw [← hp]
        simpa using hn.1
      have e1 : (putL a (p :: l)) = putL (a.put (some p.1) p.2) l := rfl
      have e2 : setL d v (p :: l) = (d, v) :: setL d v l := by rw [setL, if_pos hp]
      rw [e1, e2, putL_off _ d v l hc, setL_off d v l hc, hp, put_put]
      rfl
    · have e2 : setL d v (p :: l) = p :: setL d v l := by rw [setL, if_neg hp]
      rw [e2]
      exact ih hn.2 (by simp only [List.map_cons, List.contains_cons] at h; simpa [Ne.symm hp] using h) _
def ndB : List Nat → Bool
  | [] => true
  | x :: l => !l.contains x && ndB l
theorem nd_of : ∀ l : List Nat, ndB l = true → l.Nodup
  | [], _ => List.nodup_nil
  | x :: l, h => by
    simp only [ndB, Bool.and_eq_true, Bool.not_eq_true'] at h
    exact List.nodup_cons.2 ⟨by simpa using h.1, nd_of l h.2⟩
theorem putL_setB (d : Nat) (v : Value) (l : List (Nat × Value)) (hn : ndB (l.map Prod.fst) = true) (h : (l.map Prod.fst).contains d = true) (a : Act) : (putL a l).put (some d) v = putL a (setL d v l) := putL_put d v l (nd_of _ hn) h a
theorem putL_self (a : Act) : ∀ ds : List Nat, a = putL a (ds.map fun d => (d, a.eval (.tmp d)))
  | [] => rfl
  | d :: ds => by
    have e : a.put (some d) (a.eval (.tmp d)) = a := by
      simp only [Act.put, Act.eval]
      congr 1
      apply Array.ext_getElem?
      intro i
      rw [Array.getElem?_setIfInBounds]
      split
      · rename_i h
        subst h
        split
        · rename_i h2; simp [h2]
        · rename_i h2; rw [Array.getElem?_eq_none (by omega)]
      · rfl
    show a = putL (a.put (some d) (a.eval (.tmp d))) (ds.map fun d => (d, a.eval (.tmp d)))
    rw [e]
    exact putL_self a ds
def Olds (a : Act) : List (Nat × Value) → Prop
  | [] => True
  | p :: l => a.eval (.tmp p.1) = p.2 ∧ Olds a l
theorem pre_mem {L : Nat → Bool} : ∀ {l : List Edge}, Pre L l → ∀ (j : Nat), ((l.filter fun e => Region.binds .any e).map Edge.on).contains j = true → L j = true
  | [], _, _, h => by simp at h
  | e :: es, hp, j, h => by
    cases hb : Region.binds .any e with
    | true =>
      rw [List.filter_cons_of_pos (by simpa using hb), List.map_cons, List.contains_cons, Bool.or_eq_true] at h
      rcases h with h | h
      · have e1 : j = e.on := beq_iff_eq.1 h
        rw [e1]
        exact hp.1 hb
      · exact pre_mem hp.2 j h
    | false =>
      rw [List.filter_cons_of_neg (by simp [hb])] at h
      exact pre_mem hp.2 j h
theorem steps_nil {P : Program} {Q : Exit → Act → World → Prop} {Inv : (Nat → Bool) → Act → World → Prop} {k : Nat} : Steps P Q Inv k [] := True.intro
theorem steps_cons {P : Program} {Q : Exit → Act → World → Prop} {Inv : (Nat → Bool) → Act → World → Prop} {k : Nat} {o : Oper} {os : List Oper} (h : ∀ L a w K, (∀ a' w', Inv (upd L k) a' w' → K a' w') → L k = false → Pre L o.after.toList → Inv L a w → o.wp P a w K Q) (hs : Steps P Q Inv (k + 1) os) : Steps P Q Inv k (o :: os) :=
  ⟨fun L a w h1 h2 h3 => h L a w _ (fun _ _ h => h) h1 h2 h3, hs⟩
theorem wp_region_at {P : Program} {Q : Exit → Act → World → Prop} {l : List Oper} {id : Nat} {a : Act} {w : World} (olds : List (Nat × Value)) (n : Nat) (Inv : Act → (Nat → Bool) → Act → World → Prop) (hm : P.follows .mixedOrders = true) (hp : plainOps 0 l = true)
    (hn : a.tmps.size = n) (ho : Olds a olds) (h0 : ∀ a0, a0.tmps.size = n → Inv a0 (fun _ => false) a0 w.drew) (hs : ∀ a0 Q', a0.tmps.size = n → Olds a0 olds → Steps P Q' (Inv a0) 0 l) (hf : ∀ L a' w', (∀ i, i < l.length → L i = true) → Inv a L a' w' → Q .normal a' w') : (Code.region id l.toArray true).wp P Q a w :=
  wp_region_inv (Inv a) hm hp (h0 a hn) (hs a Q hn ho) hf
end Go.Proofs.YtmpokiflhijnoaaGreatDoor.Ri
