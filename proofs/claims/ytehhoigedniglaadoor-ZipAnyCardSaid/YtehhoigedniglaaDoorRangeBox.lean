/-
  A range over a function whose iterator keeps what is left in boxes of its own: what the caller owes, and what the iterator's contract says. Plain: over any program.
-/
import Derived.RangeFuncNested
import Derived.RangeFuncBound
import Derived.RangeFuncCalls
import Derived.RangeFuncLeaves
import Derived.Shelf.Abstract
import Derived.Shelf.RegionOpen
import Derived.WalkKit
import Derived.OwnWalkIn
import Derived.TacticsInMore
import Derived.LoopNIn
import Derived.LoopIn
namespace Go.Proofs.YtehhoigedniglaaDoor.Rb
open Go Go.RowKit

theorem cell_new_l (W : World) (v : Value) (t : TypeId) : (W.alloc (.cells #[v] t)).cell? ⟨W.heap.size, 0, none⟩ = some v ∧ (W.alloc (.cells #[v] t)).frozen? ⟨W.heap.size, 0, none⟩ = false := by
  have h := World.alloc_heap_new W (.cells #[v] t)
  constructor
  · simp only [World.cell?]
    rw [h]
    rfl
  · simp only [World.frozen?]
    rw [h]
    simp
theorem cell_alloc_l {W : World} {a : Addr} {v : Value} (o : Obj) (h : W.cell? a = some v) : (W.alloc o).cell? a = some v := cell_kept h (World.grownBy_alloc W o none) (fun r e => by cases e)
theorem frozen_alloc_l {W : World} {a : Addr} {v : Value} (o : Obj) (h : W.cell? a = some v) (hf : W.frozen? a = false) : (W.alloc o).frozen? a = false := (frozen_kept h (World.grownBy_alloc W o none) (fun r e => by cases e)).trans hf

/-- The iterator's boxes: the blocks from B on, m of them. -/
def SameBoxes (B m : Nat) (W W' : World) : Prop := ∀ k, B ≤ k → k < B + m → W'.heap[k]? = W.heap[k]?

theorem SameBoxes.refl (B m : Nat) (W : World) : SameBoxes B m W W := fun _ _ _ => rfl
theorem SameBoxes.trans {B m : Nat} {X Y Z : World} (h : SameBoxes B m X Y) (k : SameBoxes B m Y Z) : SameBoxes B m X Z := fun i h1 h2 => (k i h1 h2).trans (h i h1 h2)
theorem SameBoxes.cell {B m : Nat} {X Y : World} (h : SameBoxes B m X Y) {k o : Nat} (h1 : B ≤ k) (h2 : k < B + m) : Y.cell? ⟨k, o, none⟩ = X.cell? ⟨k, o, none⟩ := World.cell?_of_block (a := ⟨k, o, none⟩) (h k h1 h2)
theorem SameBoxes.of_grownBy {B m : Nat} {X Y : World} {row : Option Nat} (hg : X.grownBy Y row) (hB : B + m ≤ X.heap.size) (hr : ∀ r, row = some r → r < B ∨ B + m ≤ r) : SameBoxes B m X Y := fun k h1 h2 =>
  hg.block k (by omega) (fun e => by have := hr k e.symm; omega)

/-- A step of the iterator, or of the loop's book-keeping: a box of its own, or a new block that is no cells. -/
def Aside (B m n₀ : Nat) (W : World) (row : Option Nat) : Prop := ∀ r, row = some r → (B ≤ r ∧ r < B + m) ∨ (n₀ ≤ r ∧ ∃ o : Obj, W.heap[r]? = some o ∧ o.isCells = false)

/-- What is said of a world abides such steps. -/
def Quiet {β : Type} (B m n₀ : Nat) (I : β → World → Prop) : Prop := ∀ s W W' row, I s W → W.grownBy W' row → Aside B m n₀ W row → I s W'

/-- The contract of such an iterator, at the texts (or whatever) that it tells. -/
def SeqBox {α : Type} (F : Fence) (n : Nat) (P : Program) (g : Nat) (lb : Array Value) (enc : α → Value) (B m : Nat) (xs : List α) (w : World) : Prop :=
  ∀ (l : Nat) (J Jx : List α → World → Prop) (W : World), SameBoxes B m w W → B + m ≤ W.heap.size →
    (∀ s X Y row, J s X → X.grownBy Y row → (∀ r, row = some r → B ≤ r ∧ r < B + m) → J s Y) →
    (∀ pre x W1, J pre W1 → pre ++ [x] <+: xs → YieldAt F (n - 1) P l #[enc x] W1 fun e W' =>
      (e = .returned (.bool true) ∧ J (pre ++ [x]) W' ∧ SameBoxes B m W1 W') ∨ (e = .returned (.bool false) ∧ Jx (pre ++ [x]) W')) →
    (∀ pre W1, J pre W1 → B + m ≤ W1.heap.size) →
    J [] W →
    CallsIn F n P g (#[.func (.yield l) #[] #[]] ++ lb) W fun e W' => (∃ v, e = .returned v) ∧ (J xs W' ∨ ∃ pre, (∃ x, pre ++ [x] <+: xs) ∧ ∃ x, Jx (pre ++ [x]) W')

/-- How a round may be left. -/
def roundEnds {α : Type} (B m n₀ : Nat) (I : List α → World → Prop) (Ix : Code → List α → World → Prop) (xs : List α) (W : World) : Exit → Act → World → Prop
  | .normal, _, W' => KeepsFrom n₀ W W' ∧ SameBoxes B m W W' ∧ I xs W'
  | .ret, _, W' => KeepsFrom n₀ W W' ∧ Ix .ret xs W'
  | .exit id, _, W' => KeepsFrom n₀ W W' ∧ Ix (.exit id) xs W'
  | .goto t, _, W' => KeepsFrom n₀ W W' ∧ Ix (.goto t) xs W'
  | .panic _, _, _ => False
  | .outgrown, _, _ => False

variable {F : Fence} {n : Nat} {P : Program} {w : World}

theorem Quiet.alloc {β : Type} {B m n₀ : Nat} {I : β → World → Prop} (h : Quiet B m n₀ I) {s : β} {W : World} (o : Obj) (hs : I s W) : I s (W.alloc o) :=
  h s W _ none hs (World.grownBy_alloc W o none) (fun r e => by cases e)
theorem Quiet.put {β : Type} {B m n₀ : Nat} {I : β → World → Prop} (h : Quiet B m n₀ I) {s : β} {W : World} {l : Nat} {o : Obj} (o' : Obj) (hs : I s W) (hl : n₀ ≤ l) (ho : W.heap[l]? = some o) (hc : o.isCells = false) : I s (W.putObj l o') :=
  h s W _ (some l) hs (grownBy_putObj' W l o') (fun r e => by cases e; exact .inr ⟨hl, o, ho, hc⟩)

theorem range_box {α : Type} {g : Operand} {ps : Array Tmp} {assign body : Code} {Q : Exit → Act → World → Prop} {a : Act}
    (hro : F.round = none) (h1 : 1 ≤ n) {gf : Nat} {lb : Array Value} (hg : a.eval g = .func (.func gf) #[] lb) (hFg : F.fn gf) (eg : ∀ args w, (callFunc gf args).run P w = .ok (.enter gf args) w)
    {enc : α → Value} {B m : Nat} {xs : List α} {w0 : World} (hseq : SeqBox F (n - 1) P gf lb enc B m xs w0) (hw0 : SameBoxes B m w0 w) (hBm : B + m ≤ w.heap.size) (hps : ps.size = 1)
    (I : List α → World → Prop) (Ix : Code → List α → World → Prop) (hI : Quiet B m w.heap.size I) (hIx : ∀ c, Quiet B m w.heap.size (Ix c)) (h0 : I [] w) (a₁ : α → Act)
    (hassign : ∀ (l : Nat) (x : α) (W : World) (K : Act → World → Prop), K (a₁ x) W →
      assign.wpIn (F.inRound l) (n - 1 - 1) P (Exit.then K (fun _ _ _ => False)) { tmps := (ps.zip #[enc x]).foldl (fun t (p, v) => t.setIfInBounds p v) a.tmps, defers := [] } W)
    (hbody : ∀ (l : Nat) (pre : List α) (x : α) (W : World), w.heap.size ≤ W.heap.size → I pre W → pre ++ [x] <+: xs → body.wpIn (F.inRound l) (n - 1 - 1) P (roundEnds B m w.heap.size I Ix (pre ++ [x]) W) (a₁ x) W)
    (hdone : ∀ (D : Nat) (W : World), w.heap.size ≤ D → I xs W → W.heap[D]? = some (.deferred (some [])) → Q .normal { a with defers := { target := .collected D, args := #[] } :: a.defers } W)
    (hstop : ∀ (D : Nat) (c : Code) (pre : List α) (x : α) (W : World), w.heap.size ≤ D → Ix c (pre ++ [x]) W → W.heap[D]? = some (.deferred (some [])) → c.wpIn F n P Q { a with defers := { target := .collected D, args := #[] } :: a.defers } W) :
    (Code.rangeFunc g ps assign body).wpIn F n P Q a w := by
  refine wpIn_rangeFunc ?_
  intro fn hfn
  rw [hro]
  obtain ⟨rec, hrec⟩ : ∃ rec : LoopState → Option Code → Loop, rec = fun st pe => { state := st, pending := pe, fn, tmps := a.tmps, params := ps, assign, body, defers := w.heap.size } := ⟨_, rfl⟩
  obtain ⟨W1, hW1⟩ : ∃ W1, (w.alloc (.deferred (some []))).alloc (.loop (rec .ready none)) = W1 := ⟨_, rfl⟩
  have hsz : W1.heap.size = w.heap.size + 2 := by rw [← hW1]; simp
  have hL : W1.heap[w.heap.size + 1]? = some (.loop (rec .ready none)) := by
    rw [← hW1]; have := World.alloc_heap_new (w.alloc (.deferred (some []))) (.loop (rec .ready none)); rwa [World.size_alloc] at this
  have hK : W1.heap[w.heap.size]? = some (.deferred (some [])) := by
    rw [← hW1]; exact (Below.heap_alloc _ _ _ (by simp)).trans (World.alloc_heap_new w _)
  have hI1 : I [] W1 := by rw [← hW1]; exact hI.alloc _ (hI.alloc _ h0)
  have hS1 : SameBoxes B m w W1 := fun k _ hk => by
    rw [← hW1]; exact (Below.heap_alloc _ _ _ (by simp; omega)).trans (Below.heap_alloc _ _ _ (by omega))
  refine ⟨w.heap.size + 1, [{ target := .collected w.heap.size, args := #[] }], W1, { target := .fn (.func gf) lb, args := #[.func (.yield (w.heap.size + 1)) #[] #[]] }, W1, gf,
    #[.func (.yield (w.heap.size + 1)) #[] #[]] ++ lb, W1, by rw [← hW1, hrec]; exact run_enterLoop_outer _ _ _ _ _, by simp only [resolve, hg]; simp [go_sem], ?_, by simp [invoke, go_sem, eg], fun _ => h1, ?_⟩
  · intro f' hf'; simp [Target.leads] at hf'; subst hf'; exact hFg
  -- the invariant of the call: the caller's, and that the two blocks of book-keeping lie as they lay
  let Bk (st : LoopState) (pe : Option Code) (W : World) : Prop := W.heap[w.heap.size + 1]? = some (.loop (rec st pe)) ∧ W.heap[w.heap.size]? = some (.deferred (some []))
  have bkLt : ∀ {st pe W}, Bk st pe W → w.heap.size + 1 < W.heap.size := fun h => (Array.getElem?_eq_some_iff.1 h.1).1
  have bkBox : ∀ {st pe X Y row}, Bk st pe X → X.grownBy Y row → (∀ r, row = some r → B ≤ r ∧ r < B + m) → Bk st pe Y := fun h hg' hr => by
    have := bkLt h
    exact ⟨(hg'.block _ (by omega) (fun e => by have := hr _ e.symm; omega)).trans h.1, (hg'.block _ (by omega) (fun e => by have := hr _ e.symm; omega)).trans h.2⟩
  refine (hseq (w.heap.size + 1) (fun pre W => I pre W ∧ Bk .ready none W) (fun pre W => ∃ c, Ix c pre W ∧ Bk .done (some c) W) W1 (hw0.trans hS1) (by omega)
    (fun s X Y row hs hg' hr => ⟨hI s X Y row hs.1 hg' (fun r e => .inl (hr r e)), bkBox hs.2 hg' hr⟩) ?_ (fun pre W h => by have := bkLt h.2; omega) ⟨hI1, hL, hK⟩).mono ?_
  · rintro pre x W ⟨hi, hb⟩ hpre
    have hlt := bkLt hb
    have hy := run_yield (P := P) (args := #[enc x]) hb.1 (by rw [hrec]; simp [hps])
    rw [hrec] at hy
    refine ⟨fn, _, assign, body, hy, roundIn_of_wpIn hfn (hassign _ x W _ ?_)⟩
    clear hy
    refine ⟨_, run_beginRound hb.1 (by rw [hrec]), ?_⟩
    obtain ⟨X, hX⟩ : ∃ X, W.putObj (w.heap.size + 1) (.loop { rec .ready none with state := .busy }) = X := ⟨_, rfl⟩
    have hXl : X.heap[w.heap.size + 1]? = some (.loop { rec .ready none with state := .busy }) := by rw [← hX]; exact World.putObj_heap_same hlt
    have hXk : X.heap[w.heap.size]? = some (.deferred (some [])) := by rw [← hX]; exact (World.putObj_heap_other (by omega)).trans hb.2
    have hXs : SameBoxes B m W X := fun k _ hk => by rw [← hX]; exact World.putObj_heap_other (by omega)
    have hXi : I pre X := by rw [← hX]; exact hI.put _ hi (by omega) hb.1 rfl
    have hXz : w.heap.size ≤ X.heap.size := by have := (Array.getElem?_eq_some_iff.1 hXl).1; omega
    rw [hX]
    refine wpIn_mono (hbody _ pre x X hXz hXi hpre) ?_
    have fin : ∀ (jump : Option Code) (Y : World), KeepsFrom w.heap.size X Y →
        (Instr.endRound (w.heap.size + 1) jump).run P Y = .ok (.bool jump.isNone) (Y.putObj (w.heap.size + 1) (.loop (rec (if jump.isNone then .ready else .done) jump))) ∧
        Y.heap[w.heap.size + 1]? = some (.loop { rec .ready none with state := .busy }) ∧ Bk (if jump.isNone then .ready else .done) jump (Y.putObj (w.heap.size + 1) (.loop (rec (if jump.isNone then .ready else .done) jump))) := fun jump Y hk3 => by
      have hl3 := hk3.same _ _ (by omega) hXl rfl
      have hr := run_endRound (P := P) jump hl3
      refine ⟨by rw [hrec] at hr ⊢; exact hr, hl3, World.putObj_heap_same (Array.getElem?_eq_some_iff.1 hl3).1, (World.putObj_heap_other (by omega)).trans (hk3.same _ _ (Nat.le_refl _) hXk rfl)⟩
    have boxPut : ∀ (Y : World) (o : Obj), SameBoxes B m Y (Y.putObj (w.heap.size + 1) o) := fun Y o k _ hk => World.putObj_heap_other (by omega)
    rintro e a3 Y hp
    cases e with
    | normal =>
      obtain ⟨hk3, hs3, hi3⟩ := hp
      obtain ⟨hr, hl3, hb3⟩ := fin none Y hk3
      exact ⟨_, _, hr, .inl ⟨rfl, ⟨hI.put _ hi3 (by omega) hl3 rfl, hb3⟩, (hXs.trans hs3).trans (boxPut _ _)⟩⟩
    | ret =>
      obtain ⟨hk3, hi3⟩ := hp
      obtain ⟨hr, hl3, hb3⟩ := fin (some .ret) Y hk3
      exact ⟨_, _, hr, .inr ⟨rfl, .ret, (hIx _).put _ hi3 (by omega) hl3 rfl, hb3⟩⟩
    | exit id =>
      obtain ⟨hk3, hi3⟩ := hp
      obtain ⟨hr, hl3, hb3⟩ := fin (some (.exit id)) Y hk3
      exact ⟨_, _, hr, .inr ⟨rfl, .exit id, (hIx _).put _ hi3 (by omega) hl3 rfl, hb3⟩⟩
    | goto t =>
      obtain ⟨hk3, hi3⟩ := hp
      obtain ⟨hr, hl3, hb3⟩ := fin (some (.goto t)) Y hk3
      exact ⟨_, _, hr, .inr ⟨rfl, .goto t, (hIx _).put _ hi3 (by omega) hl3 rfl, hb3⟩⟩
    | panic ch => exact hp.elim
    | outgrown => exact hp.elim
  · rintro e W2 ⟨⟨v, rfl⟩, (⟨hi, hb⟩ | ⟨pre, _, x, c, hi, hb⟩)⟩
    · exact ⟨none, _, by have := run_endLoop (P := P) hb.1 (by rw [hrec]; simp); rw [hrec] at this; exact this, hdone _ _ (Nat.le_refl _) (hI.put _ hi (by omega) hb.1 rfl) ((World.putObj_heap_other (by omega)).trans hb.2)⟩
    · exact ⟨some c, _, by have := run_endLoop (P := P) hb.1 (by rw [hrec]; simp); rw [hrec] at this; exact this, hstop _ c pre x _ (Nat.le_refl _) ((hIx c).put _ hi (by omega) hb.1 rfl) ((World.putObj_heap_other (by omega)).trans hb.2)⟩

end Go.Proofs.YtehhoigedniglaaDoor.Rb
