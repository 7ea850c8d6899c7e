/-
  A region that draws its order, reads, calls functions that only add memory, and makes ONE block whose address hangs on the world: one walk for every order. Over the kit's walk by a class of worlds.
  Phase 1: the block is not made yet: worlds of C. Phase 2: it was made in a world w of C: worlds of D w.
-/
import Derived.Deep.Quiet
namespace Go.Proofs.YtehhoigedniglaaDoor.Aw
open Go
set_option linter.unusedVariables false

section
variable {P : Program} {ops : Array Oper} {md : Region.Mode}

/-- What one operation gives in the world w: v, in that very world; or a call that hands back v in a world that R allows. -/
def Gives (P : Program) (R : World → World → Prop) (w : World) (v : Value) : Result Next → Prop
  | .ok (.value u) w' => w' = w ∧ u = v
  | .ok .skip w' => w' = w ∧ v = undef
  | .ok (.enter f args) w' => w' = w ∧ Calls P f args w (fun e w'' => e = .returned v ∧ R w w'')
  | _ => False

/-- In state a the operation leaves v, in every world of C. -/
def Sure (P : Program) (ops : Array Oper) (C : World → Prop) (R : World → World → Prop) (o : Oper) (v : Value) (a : Act) : Prop :=
  (Region.wanted o (yielded ops a.tmps) = true ∧ ∀ w, C w → Gives P R w v ((execOp a.eval o).run P w)) ∨
  (Region.wanted o (yielded ops a.tmps) = false ∧ v = undef)

theorem Gives.quiet {R : World → World → Prop} {E : World → Prop} {w : World} {v : Value} {r : Result Next} (hE : E w) (hR : ∀ w'', R w w'' → E w'') (h : Gives P R w v r) : Oper.quietUpon P E w v r := by
  cases r with
  | ok n w' =>
    cases n <;> simp only [Gives] at h <;> simp only [Oper.quietUpon]
    all_goals first | exact h | skip
    case enter f args => exact ⟨h.1, h.2.mono fun e w'' ⟨he, hr⟩ => ⟨he, hR _ hr⟩⟩
  | halt x w' => simp only [Gives] at h

theorem Sure.inside {C E : World → Prop} {R : World → World → Prop} {o : Oper} {v : Value} {a : Act} (hEC : ∀ w, E w → C w) (hER : ∀ w w', E w → R w w' → E w') (h : Sure P ops C R o v a) : YieldsIn P ops E o v a := by
  rcases h with ⟨hw, hv⟩ | h
  · exact .inl ⟨hw, fun w he => (hv w (hEC w he)).quiet he (fun w'' hr => hER _ _ he hr)⟩
  · exact .inr h

theorem Sure.of_same {C : World → Prop} {R : World → World → Prop} {o : Oper} {v : Value} {a a' : Act} (h : Sure P ops C R o v a) (he : execOp a'.eval o = execOp a.eval o)
    (hw : Region.wanted o (yielded ops a'.tmps) = Region.wanted o (yielded ops a.tmps)) : Sure P ops C R o v a' := by
  unfold Sure at *
  rw [he, hw]
  exact h

/-- Phase 1: whatever comes up is sure, or it is the making, behind which phase 2 goes on, whichever world it was made in. -/
def Before (P : Program) (md : Region.Mode) (ops : Array Oper) (C : World → Prop) (R : World → World → Prop) (D : World → World → Prop) (V : World → Value) (i0 : Nat) (d0 : Option Tmp) (Q : Act → Prop) : Nat → Array Bool → Act → Prop
  | 0, _, _ => False
  | fuel + 1, listed, a => Region.ready md ops listed ≠ [] ∧ ∀ i ∈ Region.ready md ops listed,
    (i = i0 → ∀ w, C w → wpAnyQ P md ops (D w) Q fuel (listed.setIfInBounds i0 true) (a.put d0 (V w))) ∧
    (i ≠ i0 → ∃ o v, ops[i]? = some o ∧ Sure P ops C R o v a ∧ Before P md ops C R D V i0 d0 Q fuel (listed.setIfInBounds i true) (a.put o.dst v))

variable {C : World → Prop} {R : World → World → Prop} {D : World → World → Prop} {V : World → Value} {i0 : Nat} {o0 : Oper} {Q : Act → Prop}

/-- An operation that is sure may be taken first. -/
theorem before_first (hDC : ∀ w wx, C w → D w wx → C wx) (hDR : ∀ w wx wy, D w wx → R wx wy → D w wy) (ho0 : ops[i0]? = some o0) (hsel : ∀ (j : Nat) (o : Oper) cs b, ops[j]? = some o → o.op ≠ .select cs b)
    {i : Nat} {oi : Oper} {v : Value} (hi : ops[i]? = some oi) (hne : i ≠ i0) :
    ∀ (fuel : Nat) (listed : Array Bool) (a : Act),
      (∀ j oj, ops[j]? = some oj → j ≠ i → listed.getD j true = false → (∀ e ∈ oj.after, Region.binds md e = true → e.on ≠ i) → oi.apart ops oj = true) →
      i ∈ Region.ready md ops listed → Sure P ops C R oi v a →
      Before P md ops C R D V i0 o0.dst Q fuel (listed.setIfInBounds i true) (a.put oi.dst v) → Before P md ops C R D V i0 o0.dst Q (fuel + 1) listed a := by
  intro fuel
  induction fuel with
  | zero => intro listed a _ _ _ H; exact H.elim
  | succ fuel ih =>
    intro listed a hfree hr hy H
    refine ⟨fun h => (by rw [h] at hr; cases hr), fun j hj => ?_⟩
    by_cases hji : j = i
    · subst hji
      exact ⟨fun h => absurd h hne, fun _ => ⟨oi, v, hi, hy, H⟩⟩
    · have h1 := H.2 j (ready_mono hj hji)
      obtain ⟨hjun, oj, hoj, hall⟩ := mem_ready.1 hj
      have hnot : ∀ e ∈ oj.after, Region.binds md e = true → e.on ≠ i := fun e he hb heq => by
        have g1 := hall e he hb
        have g0 := (mem_ready.1 hr).1
        rw [heq] at g1
        rcases Nat.lt_or_ge i listed.size with h' | h'
        · simp [h'] at g0 g1; rw [g0] at g1; cases g1
        · simp [Array.getElem?_eq_none h'] at g1
      have hap := hfree j oj hoj hji hjun hnot
      obtain ⟨p1, p2, p3⟩ := Oper.apart_spec hap
      have keep : ∀ u, Sure P ops C R oi v (a.put oj.dst u) := fun u =>
        hy.of_same (execOp_put oi (fun cs b => hsel i oi cs b hi) a oj.dst u p3) (wanted_put oi a oj.dst u p3)
      have hfree' : ∀ k ok, ops[k]? = some ok → k ≠ i → (listed.setIfInBounds j true).getD k true = false →
          (∀ e ∈ ok.after, Region.binds md e = true → e.on ≠ i) → oi.apart ops ok = true := fun k ok hk hki hun hno => by
        refine hfree k ok hk hki ?_ hno
        by_cases hjk : j = k
        · subst hjk; exact hjun
        · rw [getD_set_ne true hjk] at hun; exact hun
      refine ⟨fun hj0 w hw => ?_, fun hj0 => ?_⟩
      · subst hj0
        obtain rfl : oj = o0 := Option.some.inj (hoj.symm.trans ho0)
        have h2 := h1.1 rfl w hw
        refine wpAnyQ_first hi hsel fuel _ _ hfree' (ready_mono hr (Ne.symm hji)) ((keep (V w)).inside (fun wx h => hDC w wx hw h) (fun wx wy h hr => hDR w wx wy h hr)) ?_
        rw [Array.setIfInBounds_comm _ _ hji, Act.put_comm a (V w) v (fun d hd hd2 => p2 d hd2 hd)]
        exact h2
      · obtain ⟨o, u, ho, hs, hB⟩ := h1.2 hj0
        obtain rfl : o = oj := Option.some.inj (ho.symm.trans hoj)
        have hs' : Sure P ops C R o u a := hs.of_same (execOp_put o (fun cs b => hsel j o cs b hoj) a oi.dst v p1).symm (wanted_put o a oi.dst v p1).symm
        refine ⟨o, u, hoj, hs', ih (listed.setIfInBounds j true) _ hfree' (ready_mono hr (Ne.symm hji)) (keep u) ?_⟩
        rw [Array.setIfInBounds_comm _ _ hji, Act.put_comm a u v (fun d hd hd2 => p2 d hd2 hd)]
        exact hB

/-- Where only the making may come up. -/
theorem before_make {fuel : Nat} {listed : Array Bool} {a : Act} {d0 : Option Tmp} (hr : Region.ready md ops listed = [i0])
    (h : ∀ w, C w → wpAnyQ P md ops (D w) Q fuel (listed.setIfInBounds i0 true) (a.put d0 (V w))) : Before P md ops C R D V i0 d0 Q (fuel + 1) listed a :=
  ⟨by rw [hr]; simp, fun i hi => by
    rw [hr, List.mem_singleton] at hi
    exact ⟨fun _ => h, fun hne => absurd hi hne⟩⟩

/-- Phase 1 is a walk of every order. -/
theorem wpAny_of_before {N : World → World} {Q' : Exit → Act → World → Prop} (hCR : ∀ w w', C w → R w w' → C w') (ho0 : ops[i0]? = some o0)
    (hmake : ∀ (a : Act) (w : World), C w → Region.wanted o0 (yielded ops a.tmps) = true ∧ (execOp a.eval o0).run P w = .ok (.value (V w)) (N w) ∧ D w (N w))
    (hQ : ∀ w wx a, C w → D w wx → Q a → Q' .normal a wx) : ∀ (fuel : Nat) (listed : Array Bool) (a : Act) (w : World), C w →
    Before P md ops C R D V i0 o0.dst Q fuel listed a → wpAny P md ops Q' fuel listed a w
  | 0, _, _, _, _, h => h.elim
  | fuel + 1, listed, a, w, hw, h => ⟨fun h0 => absurd h0 h.1, fun i hi => by
      by_cases hi0 : i = i0
      · subst hi0
        obtain ⟨m1, m2, m3⟩ := hmake a w hw
        have h2 := (h.2 i hi).1 rfl w hw
        unfold wpOp
        simp only [ho0, m1, if_true]
        refine .inl ?_
        unfold Oper.wp
        rw [m2]
        exact wpAny_of_quiet (C := D w) (fun a' wx hd hq => hQ w wx a' hw hd hq) fuel _ _ _ m3 h2
      · obtain ⟨o, v, ho, hs, hB⟩ := (h.2 i hi).2 hi0
        refine wpOp_of_qOp (C := C) (K := fun a' => Before P md ops C R D V i0 o0.dst Q fuel (listed.setIfInBounds i true) a') hw (fun a' w' hw' hb => wpAny_of_before hCR ho0 hmake hQ fuel _ a' w' hw' hb) ?_
        exact (hs.inside (E := C) (fun _ h => h) hCR).qOp ho hB⟩

/-- The operations of these numbers may be taken one after the other. -/
def idxB (md : Region.Mode) (ops : Array Oper) (stop : Array Bool → Bool) : List Nat → Array Bool → Bool
  | [], listed => stop listed
  | k :: l, listed => (Region.ready md ops listed).contains k && Region.free md ops listed k && idxB md ops stop l (listed.setIfInBounds k true)

/-- Phase 2, by a list of numbers. -/
theorem quiet_idx {E : World → Prop} (hs : Region.noSelect ops = true) : ∀ (l : List Nat) (os : List Oper) (listed : Array Bool) (a : Act), l.map (ops[·]?) = os.map some →
    idxB md ops (fun x => (Region.ready md ops x).isEmpty) l listed = true → wpQuiet P ops E Q os a → wpAnyQ P md ops E Q l.length listed a
  | [], [], _, _, _, hB, h => ⟨by simpa [idxB] using hB, h⟩
  | [], _ :: _, _, _, ho, _, _ => by simp at ho
  | _ :: _, [], _, _, ho, _, _ => by simp at ho
  | k :: l, o :: os, listed, a, ho, hB, h => by
    simp only [List.map_cons, List.cons.injEq] at ho
    obtain ⟨h0, ho⟩ := ho
    simp only [idxB, Bool.and_eq_true] at hB
    obtain ⟨⟨hr, hf⟩, hB'⟩ := hB
    have hst : qOp P ops E k (wpQuiet P ops E Q os) a := by unfold qOp; simp only [h0]; exact h
    obtain ⟨v, hy, hK⟩ := yieldsIn_of_qOp h0 hst
    exact wpAnyQ_first h0 (Region.noSelect_spec hs) l.length listed a (Region.free_spec h0 hf) (by simpa using hr) hy (quiet_idx hs l os _ _ ho hB' hK)

/-- One sure operation after the other. -/
def Walk1 (P : Program) (ops : Array Oper) (C : World → Prop) (R : World → World → Prop) (K : Act → Prop) : List Oper → Act → Prop
  | [], a => K a
  | o :: os, a => ∃ v, Sure P ops C R o v a ∧ Walk1 P ops C R K os (a.put o.dst v)

/-- Phase 1, by a list of numbers, up to the making. -/
theorem before_idx (hDC : ∀ w wx, C w → D w wx → C wx) (hDR : ∀ w wx wy, D w wx → R wx wy → D w wy) (hs : Region.noSelect ops = true) (ho0 : ops[i0]? = some o0) {fuel : Nat} :
    ∀ (l : List Nat) (os : List Oper) (listed : Array Bool) (a : Act), l.map (ops[·]?) = os.map some → i0 ∉ l →
    idxB md ops (fun x => Region.ready md ops x == [i0]) l listed = true →
    Walk1 P ops C R (fun a' => ∀ w, C w → wpAnyQ P md ops (D w) Q fuel ((l.foldl (fun x k => x.setIfInBounds k true) listed).setIfInBounds i0 true) (a'.put o0.dst (V w))) os a →
    Before P md ops C R D V i0 o0.dst Q (l.length + (fuel + 1)) listed a
  | [], [], listed, a, _, _, hB, h => by
    rw [List.length_nil, Nat.zero_add]
    exact before_make (by simpa [idxB] using hB) h
  | [], _ :: _, _, _, ho, _, _, _ => by simp at ho
  | _ :: _, [], _, _, ho, _, _, _ => by simp at ho
  | k :: l, o :: os, listed, a, ho, hn, hB, h => by
    simp only [List.map_cons, List.cons.injEq] at ho
    obtain ⟨h0, ho⟩ := ho
    simp only [idxB, Bool.and_eq_true] at hB
    obtain ⟨⟨hr, hf⟩, hB'⟩ := hB
    obtain ⟨v, hv, hK⟩ := h
    have hne : k ≠ i0 := fun e => hn (by rw [e]; exact List.mem_cons_self)
    have e : (k :: l).length + (fuel + 1) = l.length + (fuel + 1) + 1 := by rw [List.length_cons]; omega
    rw [e]
    exact before_first hDC hDR ho0 (Region.noSelect_spec hs) h0 hne _ listed a (Region.free_spec h0 hf) (by simpa using hr) hv
      (before_idx hDC hDR hs ho0 l os _ _ ho (fun hm => hn (List.mem_cons_of_mem _ hm)) hB' hK)

/-- The same by numbers: the operations are read off the region. -/
def WalkI (P : Program) (ops : Array Oper) (C : World → Prop) (R : World → World → Prop) (K : Act → Prop) : List Nat → Act → Prop
  | [], a => K a
  | k :: l, a => ∃ o v d, ops[k]? = some o ∧ o.dst = d ∧ Sure P ops C R o v a ∧ WalkI P ops C R K l (a.put d v)
theorem before_num (hDC : ∀ w wx, C w → D w wx → C wx) (hDR : ∀ w wx wy, D w wx → R wx wy → D w wy) (hs : Region.noSelect ops = true) (ho0 : ops[i0]? = some o0) {d0 : Option Tmp} (hd0 : o0.dst = d0) {fuel : Nat} :
    ∀ (l : List Nat) (listed : Array Bool) (a : Act), i0 ∉ l →
    idxB md ops (fun x => Region.ready md ops x == [i0]) l listed = true →
    WalkI P ops C R (fun a' => ∀ w, C w → wpAnyQ P md ops (D w) Q fuel ((l.foldl (fun x k => x.setIfInBounds k true) listed).setIfInBounds i0 true) (a'.put d0 (V w))) l a →
    Before P md ops C R D V i0 o0.dst Q (l.length + (fuel + 1)) listed a
  | [], listed, a, _, hB, h => by
    subst hd0
    rw [List.length_nil, Nat.zero_add]
    exact before_make (by simpa [idxB] using hB) h
  | k :: l, listed, a, hn, hB, h => by
    simp only [idxB, Bool.and_eq_true] at hB
    obtain ⟨⟨hr, hf⟩, hB'⟩ := hB
    obtain ⟨o, v, _, h0, rfl, hv, hK⟩ := h
    have hne : k ≠ i0 := fun e => hn (by rw [e]; exact List.mem_cons_self)
    have e : (k :: l).length + (fuel + 1) = l.length + (fuel + 1) + 1 := by rw [List.length_cons]; omega
    rw [e]
    exact before_first hDC hDR ho0 (Region.noSelect_spec hs) h0 hne _ listed a (Region.free_spec h0 hf) (by simpa using hr) hv
      (before_num hDC hDR hs ho0 hd0 l _ _ (fun hm => hn (List.mem_cons_of_mem _ hm)) hB' hK)
def WalkQ (P : Program) (ops : Array Oper) (E : World → Prop) (Q : Act → Prop) : List Nat → Act → Prop
  | [], a => Q a
  | k :: l, a => ∃ o v d, ops[k]? = some o ∧ o.dst = d ∧ YieldsIn P ops E o v a ∧ WalkQ P ops E Q l (a.put d v)
theorem quiet_num {E : World → Prop} (hs : Region.noSelect ops = true) : ∀ (l : List Nat) (listed : Array Bool) (a : Act),
    idxB md ops (fun x => (Region.ready md ops x).isEmpty) l listed = true → WalkQ P ops E Q l a → wpAnyQ P md ops E Q l.length listed a
  | [], _, _, hB, h => ⟨by simpa [idxB] using hB, h⟩
  | k :: l, listed, a, hB, h => by
    simp only [idxB, Bool.and_eq_true] at hB
    obtain ⟨⟨hr, hf⟩, hB'⟩ := hB
    obtain ⟨o, v, _, h0, rfl, hy, hK⟩ := h
    exact wpAnyQ_first h0 (Region.noSelect_spec hs) l.length listed a (Region.free_spec h0 hf) (by simpa using hr) hy (quiet_num hs l _ _ hB' hK)
theorem yin_val {E : World → Prop} {o : Oper} {v : Value} {a : Act} (hw : Region.wanted o (yielded ops a.tmps) = true) (h : ∀ w, E w → (execOp a.eval o).run P w = .ok (.value v) w) : YieldsIn P ops E o v a :=
  .inl ⟨hw, fun w hE => by unfold Oper.quietAt; rw [h w hE]; exact ⟨rfl, rfl⟩⟩

theorem sure_val {o : Oper} {v : Value} {a : Act} (hw : Region.wanted o (yielded ops a.tmps) = true) (h : ∀ w, (execOp a.eval o).run P w = .ok (.value v) w) : Sure P ops C R o v a :=
  .inl ⟨hw, fun w _ => by rw [h w]; exact ⟨rfl, rfl⟩⟩
theorem sure_call {o : Oper} {v : Value} {a : Act} {f : FuncId} {args : Array Value} (hw : Region.wanted o (yielded ops a.tmps) = true) (h : ∀ w, (execOp a.eval o).run P w = .ok (.enter f args) w)
    (hc : ∀ w, C w → Calls P f args w (fun e w'' => e = .returned v ∧ R w w'')) : Sure P ops C R o v a :=
  .inl ⟨hw, fun w hC => by rw [h w]; exact ⟨rfl, hc w hC⟩⟩
end
end Go.Proofs.YtehhoigedniglaaDoor.Aw
