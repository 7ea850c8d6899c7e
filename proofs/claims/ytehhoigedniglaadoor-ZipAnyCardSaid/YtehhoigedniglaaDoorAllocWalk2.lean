/-
  A region that draws its order, reads, calls functions that only add memory, and makes TWO blocks whose addresses hang on the world: one walk for every order of all the rest, two orders of the makings. Over the kit's walk by a class of worlds.
  AllocWalk.tpl's text, what is asked at the end hanging on the world of the making; then the two makings.
-/
import Derived.Deep.Quiet
namespace Go.Proofs.YtehhoigedniglaaDoor.Aw2
open Go
set_option linter.unusedVariables false

section
variable {P : Program} {ops : Array Oper} {md : Region.Mode}

/-- What one operation gives in the world w: v, in that very world; or a call that hands back v in a world that R allows. -/
def Gives (P : Program) (R : World → World → Prop) (w : World) (v : Value) : Result Next → Prop
  | .ok (.value u) w' => w' = w ∧ u = v
  | .ok .skip w' => w' = w ∧ v = undef
  | .ok (.enter f args) w' => w' = w ∧ Calls P f args w (fun e w'' => e = .returned v ∧ R w w'')
  | _ => False

/-- In state a the operation leaves v, in every world of C. -/
def Sure (P : Program) (ops : Array Oper) (C : World → Prop) (R : World → World → Prop) (o : Oper) (v : Value) (a : Act) : Prop :=
  (Region.wanted o (yielded ops a.tmps) = true ∧ ∀ w, C w → Gives P R w v ((execOp a.eval o).run P w)) ∨
  (Region.wanted o (yielded ops a.tmps) = false ∧ v = undef)

theorem Gives.quiet {R : World → World → Prop} {E : World → Prop} {w : World} {v : Value} {r : Result Next} (hE : E w) (hR : ∀ w'', R w w'' → E w'') (h : Gives P R w v r) : Oper.quietUpon P E w v r := by
  cases r with
  | ok n w' =>
    cases n <;> simp only [Gives] at h <;> simp only [Oper.quietUpon]
    all_goals first | exact h | skip
    case enter f args => exact ⟨h.1, h.2.mono fun e w'' ⟨he, hr⟩ => ⟨he, hR _ hr⟩⟩
  | halt x w' => simp only [Gives] at h

theorem Sure.inside {C E : World → Prop} {R : World → World → Prop} {o : Oper} {v : Value} {a : Act} (hEC : ∀ w, E w → C w) (hER : ∀ w w', E w → R w w' → E w') (h : Sure P ops C R o v a) : YieldsIn P ops E o v a := by
  rcases h with ⟨hw, hv⟩ | h
  · exact .inl ⟨hw, fun w he => (hv w (hEC w he)).quiet he (fun w'' hr => hER _ _ he hr)⟩
  · exact .inr h

theorem Sure.sub {C E : World → Prop} {R : World → World → Prop} {o : Oper} {v : Value} {a : Act} (hEC : ∀ w, E w → C w) (h : Sure P ops C R o v a) : Sure P ops E R o v a := by
  rcases h with ⟨hw, hv⟩ | h
  · exact .inl ⟨hw, fun w he => hv w (hEC w he)⟩
  · exact .inr h

theorem Sure.of_same {C : World → Prop} {R : World → World → Prop} {o : Oper} {v : Value} {a a' : Act} (h : Sure P ops C R o v a) (he : execOp a'.eval o = execOp a.eval o)
    (hw : Region.wanted o (yielded ops a'.tmps) = Region.wanted o (yielded ops a.tmps)) : Sure P ops C R o v a' := by
  unfold Sure at *
  rw [he, hw]
  exact h

/-- In state a the operation makes a block, in every world of C: the value V w, the world N w, which is of D w. -/
def Makes (P : Program) (ops : Array Oper) (C : World → Prop) (D : World → World → Prop) (V : World → Value) (N : World → World) (o : Oper) (a : Act) : Prop :=
  ∀ w, C w → Region.wanted o (yielded ops a.tmps) = true ∧ (execOp a.eval o).run P w = .ok (.value (V w)) (N w) ∧ D w (N w)
theorem Makes.of_same {C : World → Prop} {D : World → World → Prop} {V : World → Value} {N : World → World} {o : Oper} {a a' : Act} (h : Makes P ops C D V N o a) (he : execOp a'.eval o = execOp a.eval o)
    (hw : Region.wanted o (yielded ops a'.tmps) = Region.wanted o (yielded ops a.tmps)) : Makes P ops C D V N o a' := by
  unfold Makes at *
  rw [he, hw]
  exact h

/-- Phase 1: whatever comes up is sure, or it is the making, behind which phase 2 goes on, whichever world it was made in. -/
def Before (P : Program) (md : Region.Mode) (ops : Array Oper) (C : World → Prop) (R : World → World → Prop) (D : World → World → Prop) (V : World → Value) (N : World → World) (i0 : Nat) (o0 : Oper) (d0 : Option Tmp) (Q : World → Act → Prop) : Nat → Array Bool → Act → Prop
  | 0, _, _ => False
  | fuel + 1, listed, a => Region.ready md ops listed ≠ [] ∧ ∀ i ∈ Region.ready md ops listed,
    (i = i0 → Makes P ops C D V N o0 a ∧ ∀ w, C w → wpAnyQ P md ops (D w) (Q w) fuel (listed.setIfInBounds i0 true) (a.put d0 (V w))) ∧
    (i ≠ i0 → ∃ o v, ops[i]? = some o ∧ Sure P ops C R o v a ∧ Before P md ops C R D V N i0 o0 d0 Q fuel (listed.setIfInBounds i true) (a.put o.dst v))

variable {C : World → Prop} {R : World → World → Prop} {D : World → World → Prop} {V : World → Value} {N : World → World} {i0 : Nat} {o0 : Oper} {Q : World → Act → Prop}

/-- An operation that is sure may be taken first. -/
theorem before_first (hDC : ∀ w wx, C w → D w wx → C wx) (hDR : ∀ w wx wy, D w wx → R wx wy → D w wy) (ho0 : ops[i0]? = some o0) (hsel : ∀ (j : Nat) (o : Oper) cs b, ops[j]? = some o → o.op ≠ .select cs b)
    {i : Nat} {oi : Oper} {v : Value} (hi : ops[i]? = some oi) (hne : i ≠ i0) :
    ∀ (fuel : Nat) (listed : Array Bool) (a : Act),
      (∀ j oj, ops[j]? = some oj → j ≠ i → listed.getD j true = false → (∀ e ∈ oj.after, Region.binds md e = true → e.on ≠ i) → oi.apart ops oj = true) →
      i ∈ Region.ready md ops listed → Sure P ops C R oi v a →
      Before P md ops C R D V N i0 o0 o0.dst Q fuel (listed.setIfInBounds i true) (a.put oi.dst v) → Before P md ops C R D V N i0 o0 o0.dst Q (fuel + 1) listed a := by
  intro fuel
  induction fuel with
  | zero => intro listed a _ _ _ H; exact H.elim
  | succ fuel ih =>
    intro listed a hfree hr hy H
    refine ⟨fun h => (by rw [h] at hr; cases hr), fun j hj => ?_⟩
    by_cases hji : j = i
    · subst hji
      exact ⟨fun h => absurd h hne, fun _ => ⟨oi, v, hi, hy, H⟩⟩
    · have h1 := H.2 j (ready_mono hj hji)
      obtain ⟨hjun, oj, hoj, hall⟩ := mem_ready.1 hj
      have hnot : ∀ e ∈ oj.after, Region.binds md e = true → e.on ≠ i := fun e he hb heq => by
        have g1 := hall e he hb
        have g0 := (mem_ready.1 hr).1
        rw [heq] at g1
        rcases Nat.lt_or_ge i listed.size with h' | h'
        · simp [h'] at g0 g1; rw [g0] at g1; cases g1
        · simp [Array.getElem?_eq_none h'] at g1
      have hap := hfree j oj hoj hji hjun hnot
      obtain ⟨p1, p2, p3⟩ := Oper.apart_spec hap
      have keep : ∀ u, Sure P ops C R oi v (a.put oj.dst u) := fun u =>
        hy.of_same (execOp_put oi (fun cs b => hsel i oi cs b hi) a oj.dst u p3) (wanted_put oi a oj.dst u p3)
      have hfree' : ∀ k ok, ops[k]? = some ok → k ≠ i → (listed.setIfInBounds j true).getD k true = false →
          (∀ e ∈ ok.after, Region.binds md e = true → e.on ≠ i) → oi.apart ops ok = true := fun k ok hk hki hun hno => by
        refine hfree k ok hk hki ?_ hno
        by_cases hjk : j = k
        · subst hjk; exact hjun
        · rw [getD_set_ne true hjk] at hun; exact hun
      refine ⟨fun hj0 => ?_, fun hj0 => ?_⟩
      · subst hj0
        obtain rfl : oj = o0 := Option.some.inj (hoj.symm.trans ho0)
        refine ⟨(h1.1 rfl).1.of_same (execOp_put oj (fun cs b => hsel j oj cs b hoj) a oi.dst v p1).symm (wanted_put oj a oi.dst v p1).symm, fun w hw => ?_⟩
        have h2 := (h1.1 rfl).2 w hw
        refine wpAnyQ_first hi hsel fuel _ _ hfree' (ready_mono hr (Ne.symm hji)) ((keep (V w)).inside (fun wx h => hDC w wx hw h) (fun wx wy h hr => hDR w wx wy h hr)) ?_
        rw [Array.setIfInBounds_comm _ _ hji, Act.put_comm a (V w) v (fun d hd hd2 => p2 d hd2 hd)]
        exact h2
      · obtain ⟨o, u, ho, hs, hB⟩ := h1.2 hj0
        obtain rfl : o = oj := Option.some.inj (ho.symm.trans hoj)
        have hs' : Sure P ops C R o u a := hs.of_same (execOp_put o (fun cs b => hsel j o cs b hoj) a oi.dst v p1).symm (wanted_put o a oi.dst v p1).symm
        refine ⟨o, u, hoj, hs', ih (listed.setIfInBounds j true) _ hfree' (ready_mono hr (Ne.symm hji)) (keep u) ?_⟩
        rw [Array.setIfInBounds_comm _ _ hji, Act.put_comm a u v (fun d hd hd2 => p2 d hd2 hd)]
        exact hB

/-- Where only the making may come up. -/
theorem before_make {fuel : Nat} {listed : Array Bool} {a : Act} {d0 : Option Tmp} (hr : Region.ready md ops listed = [i0]) (hM : Makes P ops C D V N o0 a)
    (h : ∀ w, C w → wpAnyQ P md ops (D w) (Q w) fuel (listed.setIfInBounds i0 true) (a.put d0 (V w))) : Before P md ops C R D V N i0 o0 d0 Q (fuel + 1) listed a :=
  ⟨by rw [hr]; simp, fun i hi => by
    rw [hr, List.mem_singleton] at hi
    exact ⟨fun _ => ⟨hM, h⟩, fun hne => absurd hi hne⟩⟩

/-- Phase 1 is a walk of every order. -/
theorem wpAny_of_before {Q' : Exit → Act → World → Prop} (hCR : ∀ w w', C w → R w w' → C w') (ho0 : ops[i0]? = some o0)
    (hQ : ∀ w wx a, C w → D w wx → Q w a → Q' .normal a wx) : ∀ (fuel : Nat) (listed : Array Bool) (a : Act) (w : World), C w →
    Before P md ops C R D V N i0 o0 o0.dst Q fuel listed a → wpAny P md ops Q' fuel listed a w
  | 0, _, _, _, _, h => h.elim
  | fuel + 1, listed, a, w, hw, h => ⟨fun h0 => absurd h0 h.1, fun i hi => by
      by_cases hi0 : i = i0
      · subst hi0
        obtain ⟨m1, m2, m3⟩ := ((h.2 i hi).1 rfl).1 w hw
        have h2 := ((h.2 i hi).1 rfl).2 w hw
        unfold wpOp
        simp only [ho0, m1, if_true]
        refine .inl ?_
        unfold Oper.wp
        rw [m2]
        exact wpAny_of_quiet (C := D w) (fun a' wx hd hq => hQ w wx a' hw hd hq) fuel _ _ _ m3 h2
      · obtain ⟨o, v, ho, hs, hB⟩ := (h.2 i hi).2 hi0
        refine wpOp_of_qOp (C := C) (K := fun a' => Before P md ops C R D V N i0 o0 o0.dst Q fuel (listed.setIfInBounds i true) a') hw (fun a' w' hw' hb => wpAny_of_before hCR ho0 hQ fuel _ a' w' hw' hb) ?_
        exact (hs.inside (E := C) (fun _ h => h) hCR).qOp ho hB⟩

/-- The operations of these numbers may be taken one after the other. -/
def idxB (md : Region.Mode) (ops : Array Oper) (stop : Array Bool → Bool) : List Nat → Array Bool → Bool
  | [], listed => stop listed
  | k :: l, listed => (Region.ready md ops listed).contains k && Region.free md ops listed k && idxB md ops stop l (listed.setIfInBounds k true)

/-- Phase 2, by a list of numbers. -/
theorem quiet_idx {E : World → Prop} {Q : Act → Prop} (hs : Region.noSelect ops = true) : ∀ (l : List Nat) (os : List Oper) (listed : Array Bool) (a : Act), l.map (ops[·]?) = os.map some →
    idxB md ops (fun x => (Region.ready md ops x).isEmpty) l listed = true → wpQuiet P ops E Q os a → wpAnyQ P md ops E Q l.length listed a
  | [], [], _, _, _, hB, h => ⟨by simpa [idxB] using hB, h⟩
  | [], _ :: _, _, _, ho, _, _ => by simp at ho
  | _ :: _, [], _, _, ho, _, _ => by simp at ho
  | k :: l, o :: os, listed, a, ho, hB, h => by
    simp only [List.map_cons, List.cons.injEq] at ho
    obtain ⟨h0, ho⟩ := ho
    simp only [idxB, Bool.and_eq_true] at hB
    obtain ⟨⟨hr, hf⟩, hB'⟩ := hB
    have hst : qOp P ops E k (wpQuiet P ops E Q os) a := by unfold qOp; simp only [h0]; exact h
    obtain ⟨v, hy, hK⟩ := yieldsIn_of_qOp h0 hst
    exact wpAnyQ_first h0 (Region.noSelect_spec hs) l.length listed a (Region.free_spec h0 hf) (by simpa using hr) hy (quiet_idx hs l os _ _ ho hB' hK)

/-- One sure operation after the other. -/
def Walk1 (P : Program) (ops : Array Oper) (C : World → Prop) (R : World → World → Prop) (K : Act → Prop) : List Oper → Act → Prop
  | [], a => K a
  | o :: os, a => ∃ v, Sure P ops C R o v a ∧ Walk1 P ops C R K os (a.put o.dst v)

/-- Phase 1, by a list of numbers, up to the making. -/
theorem before_idx (hDC : ∀ w wx, C w → D w wx → C wx) (hDR : ∀ w wx wy, D w wx → R wx wy → D w wy) (hs : Region.noSelect ops = true) (ho0 : ops[i0]? = some o0) {fuel : Nat} :
    ∀ (l : List Nat) (os : List Oper) (listed : Array Bool) (a : Act), l.map (ops[·]?) = os.map some → i0 ∉ l →
    idxB md ops (fun x => Region.ready md ops x == [i0]) l listed = true →
    Walk1 P ops C R (fun a' => Makes P ops C D V N o0 a' ∧ ∀ w, C w → wpAnyQ P md ops (D w) (Q w) fuel ((l.foldl (fun x k => x.setIfInBounds k true) listed).setIfInBounds i0 true) (a'.put o0.dst (V w))) os a →
    Before P md ops C R D V N i0 o0 o0.dst Q (l.length + (fuel + 1)) listed a
  | [], [], listed, a, _, _, hB, h => by
    rw [List.length_nil, Nat.zero_add]
    exact before_make (by simpa [idxB] using hB) h.1 h.2
  | [], _ :: _, _, _, ho, _, _, _ => by simp at ho
  | _ :: _, [], _, _, ho, _, _, _ => by simp at ho
  | k :: l, o :: os, listed, a, ho, hn, hB, h => by
    simp only [List.map_cons, List.cons.injEq] at ho
    obtain ⟨h0, ho⟩ := ho
    simp only [idxB, Bool.and_eq_true] at hB
    obtain ⟨⟨hr, hf⟩, hB'⟩ := hB
    obtain ⟨v, hv, hK⟩ := h
    have hne : k ≠ i0 := fun e => hn (by rw [e]; exact List.mem_cons_self)
    have e : (k :: l).length + (fuel + 1) = l.length + (fuel + 1) + 1 := by rw [List.length_cons]; omega
    rw [e]
    exact before_first hDC hDR ho0 (Region.noSelect_spec hs) h0 hne _ listed a (Region.free_spec h0 hf) (by simpa using hr) hv
      (before_idx hDC hDR hs ho0 l os _ _ ho (fun hm => hn (List.mem_cons_of_mem _ hm)) hB' hK)

/-- The same by numbers: the operations are read off the region. -/
def WalkI (P : Program) (ops : Array Oper) (C : World → Prop) (R : World → World → Prop) (K : Act → Prop) : List Nat → Act → Prop
  | [], a => K a
  | k :: l, a => ∃ o v d, ops[k]? = some o ∧ o.dst = d ∧ Sure P ops C R o v a ∧ WalkI P ops C R K l (a.put d v)
theorem before_num (hDC : ∀ w wx, C w → D w wx → C wx) (hDR : ∀ w wx wy, D w wx → R wx wy → D w wy) (hs : Region.noSelect ops = true) (ho0 : ops[i0]? = some o0) {d0 : Option Tmp} (hd0 : o0.dst = d0) {fuel : Nat} :
    ∀ (l : List Nat) (listed : Array Bool) (a : Act), i0 ∉ l →
    idxB md ops (fun x => Region.ready md ops x == [i0]) l listed = true →
    WalkI P ops C R (fun a' => Makes P ops C D V N o0 a' ∧ ∀ w, C w → wpAnyQ P md ops (D w) (Q w) fuel ((l.foldl (fun x k => x.setIfInBounds k true) listed).setIfInBounds i0 true) (a'.put d0 (V w))) l a →
    Before P md ops C R D V N i0 o0 o0.dst Q (l.length + (fuel + 1)) listed a
  | [], listed, a, _, hB, h => by
    subst hd0
    rw [List.length_nil, Nat.zero_add]
    exact before_make (by simpa [idxB] using hB) h.1 h.2
  | k :: l, listed, a, hn, hB, h => by
    simp only [idxB, Bool.and_eq_true] at hB
    obtain ⟨⟨hr, hf⟩, hB'⟩ := hB
    obtain ⟨o, v, _, h0, rfl, hv, hK⟩ := h
    have hne : k ≠ i0 := fun e => hn (by rw [e]; exact List.mem_cons_self)
    have e : (k :: l).length + (fuel + 1) = l.length + (fuel + 1) + 1 := by rw [List.length_cons]; omega
    rw [e]
    exact before_first hDC hDR ho0 (Region.noSelect_spec hs) h0 hne _ listed a (Region.free_spec h0 hf) (by simpa using hr) hv
      (before_num hDC hDR hs ho0 hd0 l _ _ (fun hm => hn (List.mem_cons_of_mem _ hm)) hB' hK)
def WalkQ (P : Program) (ops : Array Oper) (E : World → Prop) (Q : Act → Prop) : List Nat → Act → Prop
  | [], a => Q a
  | k :: l, a => ∃ o v d, ops[k]? = some o ∧ o.dst = d ∧ YieldsIn P ops E o v a ∧ WalkQ P ops E Q l (a.put d v)
theorem quiet_num {E : World → Prop} {Q : Act → Prop} (hs : Region.noSelect ops = true) : ∀ (l : List Nat) (listed : Array Bool) (a : Act),
    idxB md ops (fun x => (Region.ready md ops x).isEmpty) l listed = true → WalkQ P ops E Q l a → wpAnyQ P md ops E Q l.length listed a
  | [], _, _, hB, h => ⟨by simpa [idxB] using hB, h⟩
  | k :: l, listed, a, hB, h => by
    simp only [idxB, Bool.and_eq_true] at hB
    obtain ⟨⟨hr, hf⟩, hB'⟩ := hB
    obtain ⟨o, v, _, h0, rfl, hy, hK⟩ := h
    exact wpAnyQ_first h0 (Region.noSelect_spec hs) l.length listed a (Region.free_spec h0 hf) (by simpa using hr) hy (quiet_num hs l _ _ hB' hK)
theorem yin_val {E : World → Prop} {o : Oper} {v : Value} {a : Act} (hw : Region.wanted o (yielded ops a.tmps) = true) (h : ∀ w, E w → (execOp a.eval o).run P w = .ok (.value v) w) : YieldsIn P ops E o v a :=
  .inl ⟨hw, fun w hE => by unfold Oper.quietAt; rw [h w hE]; exact ⟨rfl, rfl⟩⟩

theorem sure_val {o : Oper} {v : Value} {a : Act} (hw : Region.wanted o (yielded ops a.tmps) = true) (h : ∀ w, (execOp a.eval o).run P w = .ok (.value v) w) : Sure P ops C R o v a :=
  .inl ⟨hw, fun w _ => by rw [h w]; exact ⟨rfl, rfl⟩⟩
theorem sure_call {o : Oper} {v : Value} {a : Act} {f : FuncId} {args : Array Value} (hw : Region.wanted o (yielded ops a.tmps) = true) (h : ∀ w, (execOp a.eval o).run P w = .ok (.enter f args) w)
    (hc : ∀ w, C w → Calls P f args w (fun e w'' => e = .returned v ∧ R w w'')) : Sure P ops C R o v a :=
  .inl ⟨hw, fun w hC => by rw [h w]; exact ⟨rfl, hc w hC⟩⟩

/-- Two makings: whatever comes up is sure, or it is one of the makings, behind which the other one is to come. -/
def Before2 (P : Program) (md : Region.Mode) (ops : Array Oper) (C : World → Prop) (R : World → World → Prop) (DA DB : World → World → Prop) (EA EB : World → World → World → Prop) (VA VB : World → Value) (NA NB : World → World) (iA iB : Nat) (oA oB : Oper) (dA dB : Option Tmp) (QA QB : World → World → Act → Prop) : Nat → Array Bool → Act → Prop
  | 0, _, _ => False
  | fuel + 1, listed, a => Region.ready md ops listed ≠ [] ∧ ∀ i ∈ Region.ready md ops listed,
    (i = iA → Makes P ops C DA VA NA oA a ∧ ∀ w, C w → Before P md ops (DA w) R (EA w) VB NB iB oB dB (QA w) fuel (listed.setIfInBounds iA true) (a.put dA (VA w))) ∧
    (i = iB → Makes P ops C DB VB NB oB a ∧ ∀ w, C w → Before P md ops (DB w) R (EB w) VA NA iA oA dA (QB w) fuel (listed.setIfInBounds iB true) (a.put dB (VB w))) ∧
    (i ≠ iA → i ≠ iB → ∃ o v, ops[i]? = some o ∧ Sure P ops C R o v a ∧ Before2 P md ops C R DA DB EA EB VA VB NA NB iA iB oA oB dA dB QA QB fuel (listed.setIfInBounds i true) (a.put o.dst v))

variable {DA DB : World → World → Prop} {EA EB : World → World → World → Prop} {VA VB : World → Value} {NA NB : World → World} {iA iB : Nat} {oA oB : Oper} {QA QB : World → World → Act → Prop}

theorem before2_first (hne : iA ≠ iB) (hAC : ∀ w wx, C w → DA w wx → C wx) (hAR : ∀ w wx wy, DA w wx → R wx wy → DA w wy) (hBC : ∀ w wx, C w → DB w wx → C wx) (hBR : ∀ w wx wy, DB w wx → R wx wy → DB w wy)
    (hEA : ∀ w w1 wx, DA w w1 → EA w w1 wx → DA w wx) (hEAR : ∀ w w1 wx wy, EA w w1 wx → R wx wy → EA w w1 wy) (hEB : ∀ w w1 wx, DB w w1 → EB w w1 wx → DB w wx) (hEBR : ∀ w w1 wx wy, EB w w1 wx → R wx wy → EB w w1 wy)
    (hoA : ops[iA]? = some oA) (hoB : ops[iB]? = some oB) (hsel : ∀ (j : Nat) (o : Oper) cs b, ops[j]? = some o → o.op ≠ .select cs b)
    {i : Nat} {oi : Oper} {v : Value} (hi : ops[i]? = some oi) (hnA : i ≠ iA) (hnB : i ≠ iB) :
    ∀ (fuel : Nat) (listed : Array Bool) (a : Act),
      (∀ j oj, ops[j]? = some oj → j ≠ i → listed.getD j true = false → (∀ e ∈ oj.after, Region.binds md e = true → e.on ≠ i) → oi.apart ops oj = true) →
      i ∈ Region.ready md ops listed → Sure P ops C R oi v a →
      Before2 P md ops C R DA DB EA EB VA VB NA NB iA iB oA oB oA.dst oB.dst QA QB fuel (listed.setIfInBounds i true) (a.put oi.dst v) → Before2 P md ops C R DA DB EA EB VA VB NA NB iA iB oA oB oA.dst oB.dst QA QB (fuel + 1) listed a := by
  intro fuel
  induction fuel with
  | zero => intro listed a _ _ _ H; exact H.elim
  | succ fuel ih =>
    intro listed a hfree hr hy H
    refine ⟨fun h => (by rw [h] at hr; cases hr), fun j hj => ?_⟩
    by_cases hji : j = i
    · subst hji
      exact ⟨fun h => absurd h hnA, fun h => absurd h hnB, fun _ _ => ⟨oi, v, hi, hy, H⟩⟩
    · have h1 := H.2 j (ready_mono hj hji)
      obtain ⟨hjun, oj, hoj, hall⟩ := mem_ready.1 hj
      have hnot : ∀ e ∈ oj.after, Region.binds md e = true → e.on ≠ i := fun e he hb heq => by
        have g1 := hall e he hb
        have g0 := (mem_ready.1 hr).1
        rw [heq] at g1
        rcases Nat.lt_or_ge i listed.size with h' | h'
        · simp [h'] at g0 g1; rw [g0] at g1; cases g1
        · simp [Array.getElem?_eq_none h'] at g1
      have hap := hfree j oj hoj hji hjun hnot
      obtain ⟨p1, p2, p3⟩ := Oper.apart_spec hap
      have keep : ∀ u, Sure P ops C R oi v (a.put oj.dst u) := fun u =>
        hy.of_same (execOp_put oi (fun cs b => hsel i oi cs b hi) a oj.dst u p3) (wanted_put oi a oj.dst u p3)
      have hfree' : ∀ k ok, ops[k]? = some ok → k ≠ i → (listed.setIfInBounds j true).getD k true = false →
          (∀ e ∈ ok.after, Region.binds md e = true → e.on ≠ i) → oi.apart ops ok = true := fun k ok hk hki hun hno => by
        refine hfree k ok hk hki ?_ hno
        by_cases hjk : j = k
        · subst hjk; exact hjun
        · rw [getD_set_ne true hjk] at hun; exact hun
      refine ⟨fun hj0 => ?_, fun hj0 => ?_, fun hjA hjB => ?_⟩
      · subst hj0
        obtain rfl : oj = oA := Option.some.inj (hoj.symm.trans hoA)
        refine ⟨(h1.1 rfl).1.of_same (execOp_put oj (fun cs b => hsel j oj cs b hoj) a oi.dst v p1).symm (wanted_put oj a oi.dst v p1).symm, fun w hw => ?_⟩
        have h2 := (h1.1 rfl).2 w hw
        refine before_first (fun w1 wx h k => hEA w w1 wx h k) (fun w1 wx wy h k => hEAR w w1 wx wy h k) hoB hsel hi hnB fuel _ _ hfree' (ready_mono hr (Ne.symm hji)) (Sure.sub (fun wx h => hAC w wx hw h) (keep (VA w))) ?_
        rw [Array.setIfInBounds_comm _ _ hji, Act.put_comm a (VA w) v (fun d hd hd2 => p2 d hd2 hd)]
        exact h2
      · subst hj0
        obtain rfl : oj = oB := Option.some.inj (hoj.symm.trans hoB)
        refine ⟨(h1.2.1 rfl).1.of_same (execOp_put oj (fun cs b => hsel j oj cs b hoj) a oi.dst v p1).symm (wanted_put oj a oi.dst v p1).symm, fun w hw => ?_⟩
        have h2 := (h1.2.1 rfl).2 w hw
        refine before_first (fun w1 wx h k => hEB w w1 wx h k) (fun w1 wx wy h k => hEBR w w1 wx wy h k) hoA hsel hi hnA fuel _ _ hfree' (ready_mono hr (Ne.symm hji)) (Sure.sub (fun wx h => hBC w wx hw h) (keep (VB w))) ?_
        rw [Array.setIfInBounds_comm _ _ hji, Act.put_comm a (VB w) v (fun d hd hd2 => p2 d hd2 hd)]
        exact h2
      · obtain ⟨o, u, ho, hs, hB⟩ := h1.2.2 hjA hjB
        obtain rfl : o = oj := Option.some.inj (ho.symm.trans hoj)
        have hs' : Sure P ops C R o u a := hs.of_same (execOp_put o (fun cs b => hsel j o cs b hoj) a oi.dst v p1).symm (wanted_put o a oi.dst v p1).symm
        refine ⟨o, u, hoj, hs', ih (listed.setIfInBounds j true) _ hfree' (ready_mono hr (Ne.symm hji)) (keep u) ?_⟩
        rw [Array.setIfInBounds_comm _ _ hji, Act.put_comm a u v (fun d hd hd2 => p2 d hd2 hd)]
        exact hB

/-- Where only the two makings may come up. -/
theorem before2_make {fuel : Nat} {listed : Array Bool} {a : Act} {dA dB : Option Tmp} (hne : iA ≠ iB) (hr : Region.ready md ops listed = [iA, iB])
    (hMA : Makes P ops C DA VA NA oA a) (hMB : Makes P ops C DB VB NB oB a)
    (hA : ∀ w, C w → Before P md ops (DA w) R (EA w) VB NB iB oB dB (QA w) fuel (listed.setIfInBounds iA true) (a.put dA (VA w)))
    (hB : ∀ w, C w → Before P md ops (DB w) R (EB w) VA NA iA oA dA (QB w) fuel (listed.setIfInBounds iB true) (a.put dB (VB w))) :
    Before2 P md ops C R DA DB EA EB VA VB NA NB iA iB oA oB dA dB QA QB (fuel + 1) listed a :=
  ⟨by rw [hr]; simp, fun i hi => by
    rw [hr] at hi
    simp only [List.mem_cons, List.not_mem_nil, or_false] at hi
    exact ⟨fun _ => ⟨hMA, hA⟩, fun _ => ⟨hMB, hB⟩, fun h1 h2 => by rcases hi with h | h; exact absurd h h1; exact absurd h h2⟩⟩

theorem wpAny_of_before2 {Q' : Exit → Act → World → Prop} (hne : iA ≠ iB) (hCR : ∀ w w', C w → R w w' → C w') (hAR : ∀ w wx wy, DA w wx → R wx wy → DA w wy) (hBR : ∀ w wx wy, DB w wx → R wx wy → DB w wy)
    (hoA : ops[iA]? = some oA) (hoB : ops[iB]? = some oB)
    (hQA : ∀ w w1 wx a, C w → DA w w1 → EA w w1 wx → QA w w1 a → Q' .normal a wx) (hQB : ∀ w w1 wx a, C w → DB w w1 → EB w w1 wx → QB w w1 a → Q' .normal a wx) :
    ∀ (fuel : Nat) (listed : Array Bool) (a : Act) (w : World), C w → Before2 P md ops C R DA DB EA EB VA VB NA NB iA iB oA oB oA.dst oB.dst QA QB fuel listed a → wpAny P md ops Q' fuel listed a w
  | 0, _, _, _, _, h => h.elim
  | fuel + 1, listed, a, w, hw, h => ⟨fun h0 => absurd h0 h.1, fun i hi => by
      by_cases hiA : i = iA
      · subst hiA
        obtain ⟨m1, m2, m3⟩ := ((h.2 i hi).1 rfl).1 w hw
        have h2 := ((h.2 i hi).1 rfl).2 w hw
        unfold wpOp
        simp only [hoA, m1, if_true]
        refine .inl ?_
        unfold Oper.wp
        rw [m2]
        exact wpAny_of_before (C := DA w) (fun w1 w2 h k => hAR w w1 w2 h k) hoB (fun w1 wx a' h k q => hQA w w1 wx a' hw h k q) fuel _ _ _ m3 h2
      · by_cases hiB : i = iB
        · subst hiB
          obtain ⟨m1, m2, m3⟩ := ((h.2 i hi).2.1 rfl).1 w hw
          have h2 := ((h.2 i hi).2.1 rfl).2 w hw
          unfold wpOp
          simp only [hoB, m1, if_true]
          refine .inl ?_
          unfold Oper.wp
          rw [m2]
          exact wpAny_of_before (C := DB w) (fun w1 w2 h k => hBR w w1 w2 h k) hoA (fun w1 wx a' h k q => hQB w w1 wx a' hw h k q) fuel _ _ _ m3 h2
        · obtain ⟨o, v, ho, hs, hB⟩ := (h.2 i hi).2.2 hiA hiB
          refine wpOp_of_qOp (C := C) (K := fun a' => Before2 P md ops C R DA DB EA EB VA VB NA NB iA iB oA oB oA.dst oB.dst QA QB fuel (listed.setIfInBounds i true) a') hw (fun a' w' hw' hb => wpAny_of_before2 hne hCR hAR hBR hoA hoB hQA hQB fuel _ a' w' hw' hb) ?_
          exact (hs.inside (E := C) (fun _ h => h) hCR).qOp ho hB⟩

/-- By numbers: what is sure is taken first, up to the two makings. -/
theorem before2_num (hne : iA ≠ iB) (hAC : ∀ w wx, C w → DA w wx → C wx) (hAR : ∀ w wx wy, DA w wx → R wx wy → DA w wy) (hBC : ∀ w wx, C w → DB w wx → C wx) (hBR : ∀ w wx wy, DB w wx → R wx wy → DB w wy)
    (hEA : ∀ w w1 wx, DA w w1 → EA w w1 wx → DA w wx) (hEAR : ∀ w w1 wx wy, EA w w1 wx → R wx wy → EA w w1 wy) (hEB : ∀ w w1 wx, DB w w1 → EB w w1 wx → DB w wx) (hEBR : ∀ w w1 wx wy, EB w w1 wx → R wx wy → EB w w1 wy)
    (hs : Region.noSelect ops = true) (hoA : ops[iA]? = some oA) (hoB : ops[iB]? = some oB) {dA dB : Option Tmp} (hdA : oA.dst = dA) (hdB : oB.dst = dB) {fuel : Nat} :
    ∀ (l : List Nat) (listed : Array Bool) (a : Act), iA ∉ l → iB ∉ l →
    idxB md ops (fun x => Region.ready md ops x == [iA, iB]) l listed = true →
    WalkI P ops C R (fun a' => Makes P ops C DA VA NA oA a' ∧ Makes P ops C DB VB NB oB a' ∧ (∀ w, C w → Before P md ops (DA w) R (EA w) VB NB iB oB dB (QA w) fuel ((l.foldl (fun x k => x.setIfInBounds k true) listed).setIfInBounds iA true) (a'.put dA (VA w))) ∧
      (∀ w, C w → Before P md ops (DB w) R (EB w) VA NA iA oA dA (QB w) fuel ((l.foldl (fun x k => x.setIfInBounds k true) listed).setIfInBounds iB true) (a'.put dB (VB w)))) l a →
    Before2 P md ops C R DA DB EA EB VA VB NA NB iA iB oA oB oA.dst oB.dst QA QB (l.length + (fuel + 1)) listed a
  | [], listed, a, _, _, hB, h => by
    subst hdA hdB
    rw [List.length_nil, Nat.zero_add]
    exact before2_make hne (by simpa [idxB] using hB) h.1 h.2.1 h.2.2.1 h.2.2.2
  | k :: l, listed, a, hn, hn2, hB, h => by
    simp only [idxB, Bool.and_eq_true] at hB
    obtain ⟨⟨hr, hf⟩, hB'⟩ := hB
    obtain ⟨o, v, _, h0, rfl, hv, hK⟩ := h
    have hnA : k ≠ iA := fun e => hn (by rw [e]; exact List.mem_cons_self)
    have hnB : k ≠ iB := fun e => hn2 (by rw [e]; exact List.mem_cons_self)
    have e : (k :: l).length + (fuel + 1) = l.length + (fuel + 1) + 1 := by rw [List.length_cons]; omega
    rw [e]
    exact before2_first hne hAC hAR hBC hBR hEA hEAR hEB hEBR hoA hoB (Region.noSelect_spec hs) h0 hnA hnB _ listed a (Region.free_spec h0 hf) (by simpa using hr) hv
      (before2_num hne hAC hAR hBC hBR hEA hEAR hEB hEBR hs hoA hoB hdA hdB l _ _ (fun hm => hn (List.mem_cons_of_mem _ hm)) (fun hm => hn2 (List.mem_cons_of_mem _ hm)) hB' hK)
end
end Go.Proofs.YtehhoigedniglaaDoor.Aw2
