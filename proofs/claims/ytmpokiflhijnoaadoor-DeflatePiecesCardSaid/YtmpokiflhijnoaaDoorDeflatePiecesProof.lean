/-
  DeflatePieces: however a text is cut into pieces, its stream is the same; behind its end nothing is told.
-/
import Derived.Test.YtmpokiflhijnoaaDoorRows
import Derived.Test.YtmpokiflhijnoaaDoorCards
import Derived.Test.YtmpokiflhijnoaaDoorTie
import Derived.Test.YtmpokiflhijnoaaDoorDfPieces
import Derived.Test.YtmpokiflhijnoaaDoorFrameArgs
import Derived.WalkKit
import Derived.ProofKit
import Derived.OpenShut
import Derived.ShutString
import Derived.ChangeOld
import Derived.Below
import Derived.SizedLaws
import Derived.Deep.DeepHandedRow
import Derived.Deep.DeepWitnessRowRef
import Derived.Lib.LaidIn
import Derived.Lib.LaidTab
import Derived.Lib.LaidU8
namespace Go.Proofs.YtmpokiflhijnoaaDoor.deflatePieces
open Go.ChangeShapes Go.WideShapes Go.ChangeAt Go.RowKit Go.Shelf
open Go.ChangeMaps (open_string shut_string)
set_option linter.unusedVariables false
theorem laidOut : laidOutB Tryd.prog = true := by kernel_rfl
theorem own : ownKnob Tryd.prog.godebug = none := by kernel_rfl
/-- A world for the witness: the settled one, the tables holding what their initialisers lay. -/
noncomputable def laidWorld (os : Os) : World :=
  let w0 := World.holding Tryd.prog os ⟨#[], #[], []⟩
  let put (h : Array Obj) (g : Nat) (cs : Array Value) : Array Obj := h.modify g fun
    | .cells _ t frozen => .cells cs t frozen
    | o => o
  { w0 with heap := (put (put w0.heap 1 (Mt.depT.map fun z => Value.int .i64 (z : Nat)).toArray) 0 (Bk.ordT.map fun z => Value.int .i64 (z : Nat)).toArray) }
theorem laid_met (os : Os) (args : Array Value) : laidMet Tryd.prog Rows.deflatePiecesRow.laid ((laidWorld os).forCall (fun _ _ => 0) ⟨#[], args, []⟩).memory :=
  (LaidIn.of_run (l := Rows.deflatePiecesRow.laid) [1, 0] 8 (by kernel_rfl) (by kernel_rfl) (by kernel_rfl) (by kernel_rfl)).met
theorem dept_of {W : World} (hL : laidMetH Tryd.prog Rows.deflatePiecesRow.laid W) : Mt.DepT W := by
  obtain ⟨g, t, cs, fuel, p, hg, hty, hvar, hd⟩ := Lib.laidMet.reads hL (.head _)
  obtain rfl := Option.some.inj ((show Tryd.prog.globalNamed "lighter/match.depths" = some 1 by kernel_rfl).symm.trans hg)
  obtain rfl := Option.some.inj ((show (Tryd.prog.globals[1]?).map (·.type) = some 133 by kernel_rfl).symm.trans hty)
  have hcs := Lib.cells_of_tab (k := .i64) (zs := Mt.depT.map fun (z : Nat) => (z : Int)) Tryd.underlying133 Tryd.underlying3 (by kernel_rfl) (by kernel_rfl) hd
  have hc : ∀ i, i < 10 → W.cell? ⟨1, i, none⟩ = some (.int .i64 (Mt.depT.getD i 0 : Nat)) := fun i hi => by
    rw [World.var?_cell hg hvar i, ← Array.getElem?_toList, hcs, List.map_map, List.getElem?_map]
    have hl : i < Mt.depT.length := hi
    rw [List.getElem?_eq_getElem hl, List.getD_eq_getElem?_getD, List.getElem?_eq_getElem hl]
    rfl
  have h0 := hc 0 (by decide)
  cases hh : W.heap[1]? with
  | none => simp [World.cell?, hh] at h0
  | some ob =>
    cases ob with
    | cells cs2 t2 fr2 => exact ⟨cs2, t2, fr2, hh, fun i hi => by have := hc i hi; simpa [World.cell?, hh] using this⟩
    | _ => simp [World.cell?, hh] at h0
theorem ordt_of {W : World} (hL : laidMetH Tryd.prog Rows.deflatePiecesRow.laid W) : Bk.OrdT W := by
  obtain ⟨g, t, cs, fuel, p, hg, hty, hvar, hd⟩ := Lib.laidMet.reads hL (.tail _ (.head _))
  obtain rfl := Option.some.inj ((show Tryd.prog.globalNamed "lighter/block.order" = some 0 by kernel_rfl).symm.trans hg)
  obtain rfl := Option.some.inj ((show (Tryd.prog.globals[0]?).map (·.type) = some 92 by kernel_rfl).symm.trans hty)
  have hcs := Lib.cells_of_tab (k := .i64) (zs := Bk.ordT.map fun (z : Nat) => (z : Int)) Tryd.underlying92 Tryd.underlying3 (by kernel_rfl) (by kernel_rfl) hd
  have hc : ∀ i, i < 19 → W.cell? ⟨0, i, none⟩ = some (.int .i64 (Bk.ordT.getD i 0 : Nat)) := fun i hi => by
    rw [World.var?_cell hg hvar i, ← Array.getElem?_toList, hcs, List.map_map, List.getElem?_map]
    have hl : i < Bk.ordT.length := hi
    rw [List.getElem?_eq_getElem hl, List.getD_eq_getElem?_getD, List.getElem?_eq_getElem hl]
    rfl
  have h0 := hc 0 (by decide)
  cases hh : W.heap[0]? with
  | none => simp [World.cell?, hh] at h0
  | some ob =>
    cases ob with
    | cells cs2 t2 fr2 => exact ⟨cs2, t2, fr2, hh, fun i hi => by have := hc i hi; simpa [World.cell?, hh] using this⟩
    | _ => simp [World.cell?, hh] at h0
theorem witness_row (os : Os) {H : Type} (enc : TypeId × Value → H) :
    (OpenSpec.ofChange Rows.deflatePiecesSpec).preRow enc Tryd.prog Tryd.f4 Rows.deflatePiecesRow.domain false Rows.deflatePiecesRow.laid ((laidWorld os).forCall (fun _ _ => 0) ⟨#[], #[.string ⟨#[]⟩, .slice none 0 0, .int .i64 0], []⟩).memory #[.string ⟨#[]⟩, .slice none 0 0, .int .i64 0] := by
  have hw : (DataW.whole enc Tryd.prog ((laidWorld os).forCall (fun _ _ => 0) ⟨#[], #[.string ⟨#[]⟩, .slice none 0 0, .int .i64 0], []⟩).memory Tryd.f4.params.toList (OpenSpec.ofChange Rows.deflatePiecesSpec).vars false (#[.string ⟨#[]⟩, .slice none 0 0, .int .i64 0] : Array Value).toList 8).map (fun x => (x.1, x.2.1)) =
      some ([.lit (.string []), .nil, .lit (.int .i64 0)], []) := by kernel_rfl
  obtain ⟨⟨x1, x2, x3⟩, hx, hx1⟩ := Option.map_eq_some_iff.1 hw
  simp only [Prod.mk.injEq] at hx1
  obtain ⟨rfl, rfl⟩ := hx1
  exact OpenSpec.preRow_of_cond 8 hx (by kernel_rfl) (fun k hk => by cases hk) (by kernel_rfl) (laid_met os _)
set_option maxRecDepth 100000 in
set_option maxHeartbeats 2000000 in
theorem lifted (os : Os) (started : os.Started) (H : Type) (enc : TypeId × Value → H) (F : Stop.Interp) :
    ReturnsInHanded {} Tryd.checked os 4 .any ((OpenSpec.ofChange Rows.deflatePiecesSpec).preRow enc Tryd.prog Tryd.f4 Rows.deflatePiecesRow.domain false Rows.deflatePiecesRow.laid) (((OpenSpec.ofChange Rows.deflatePiecesSpec).at F).post enc Tryd.prog Tryd.f4 false true false false) := by
  refine returnsInHanded_of_row (C := Tryd.checked) (s := (OpenSpec.ofChange Rows.deflatePiecesSpec)) own started (by kernel_rfl) Tryd.func4
    (witness_row_atRef (enc := enc) (C := Tryd.checked) false (laidWorld os) #[.string ⟨#[]⟩, .slice none 0 0, .int .i64 0] rfl (by kernel_rfl) (by kernel_rfl) (by kernel_rfl) (witness_row os enc)) ?_
  intro W base args ds gs before hval0 hW _ hcond hsz0 hL _ _
  have hsz : (DataW.weightsEach Tryd.prog (Tryd.f4.params.toList ++ Rows.deflatePiecesSpec.plain.varTypes Tryd.prog) (ds ++ gs)).all (· ≤ reachBytes) = true := hsz0
  have hval : ∀ (j : Nat) t v, Tryd.f4.params[j]? = some t → args[j]? = some v → Value.okWide Tryd.prog W .any base t v := hval0
  have hW' := hW
  obtain ⟨p, q, hA0, hV0, rfl, _, _⟩ := hW
  have hA : DataW.TrodAll enc Tryd.prog W 0 (fun _ => true) true Tryd.f4.params.toList args.toList ds p := hA0
  rw [Tryd.params4] at hA hval hsz
  obtain ⟨v0, vs0, d0, ds0, p0, q0, hargs, rfl, rfl, h0, r0⟩ := trodAll_cons hA
  obtain ⟨v1, vs1, d1, ds1, p1, q1, rfl, rfl, rfl, h1, r1⟩ := trodAll_cons r0
  obtain ⟨v2, vs2, d2, ds2, p2, q2, rfl, rfl, rfl, h2, r2⟩ := trodAll_cons r1
  obtain ⟨rfl, rfl, rfl⟩ := trodAll_nil r2
  obtain rfl : args = #[v0, v1, v2] := by cases args; simp_all
  obtain ⟨rfl, rfl⟩ := trodVars_none hV0
  obtain ⟨a0, rfl, rfl, rfl, w0⟩ := open_string Tryd.underlying9 (hval 0 9 v0 rfl rfl) h0
  obtain ⟨s1, l1, c1, rfl⟩ := okWide_slice Tryd.underlying22 (hval 1 22 v1 rfl rfl)
  have hlt1 : ∀ x ∈ p1, x.block < W.heap.size := fun x hx => by simpa using hW'.lt x (by simp [hx])
  obtain ⟨a2, rfl, rfl, rfl, w2⟩ := open_int Tryd.underlying3 (hval 2 3 v2 rfl rfl) h2
  have z0 : a0.size ≤ 140737488351232 := by
    have := sized_string hsz (j := 0) (t := 9) rfl rfl
    exact this
  obtain ⟨x1, w1, z1, y1⟩ := Fa.ints_open (bytes := 8) Tryd.underlying22 Tryd.underlying3 (by kernel_rfl) (by kernel_rfl) (by decide) h1 hlt1 hsz (j := 1) rfl rfl
  clear hA0 hV0 hval0 hsz0
  have hordt := ordt_of hL
  have hdept := dept_of hL
  refine (Df.pieces_any a0 (.slice s1 l1 c1) x1 a2 W z0 w1 z1 y1 w2 hordt hdept).mono ?_
  rintro e W' ⟨rfl, bel⟩
  exact ⟨_, rfl, _, _, _, [], _, [], hW', trodAll_mk1 (shut_bool Tryd.underlying4 _), (trodAll_cons_mk (shut_string Tryd.underlying9 w0) (trodAll_cons_mk (Below.trod laidOut (by kernel_rfl) (of_decide_eq_true (by kernel_rfl)) h1 bel hlt1) (trodAll_cons_mk (shut_int Tryd.underlying3 w2) trodAll_mk0))), rfl, bel.frame _, fun h => by cases h⟩
theorem over : Rows.deflatePiecesRow.holds Tryd.pinned (OpenSpec.ofChange Rows.deflatePiecesSpec) :=
  OpenClaim.holds_of_cond 4 Tryd.f4 rfl rfl rfl rfl rfl rfl rfl ⟨rfl, rfl, rfl, rfl, rfl⟩ rfl rfl rfl rfl rfl (by kernel_rfl) Tryd.func4 (by kernel_rfl)
    (of_decide_eq_true (by kernel_rfl)) (by unfold Func.isWrapper; first | (rw [if_pos (by decide +kernel)]; kernel_rfl) | (rw [if_neg (by decide +kernel)]; exact ⟨rfl, rfl⟩))
    (fun os started H enc _ F => by rw [OpenClaim.pre_eq_preRow]; exact lifted os started H enc F)
theorem plain (f : FuncId) (fn : Func) (hf : Tryd.pinned.checked.prog.funcNamed Rows.deflatePiecesRow.func = some f) (hfn : Tryd.pinned.checked.prog.funcs[f]? = some fn) :
    false = Tryd.pinned.checked.prog.looks [] ∧ ∀ (j : Nat) t, fn.params[j]? = some t → Tryd.pinned.checked.prog.wantsStandIn t = false := by
  obtain rfl : f = 4 := Option.some.inj ((show Tryd.prog.funcNamed Rows.deflatePiecesRow.func = some 4 by kernel_rfl).symm.trans hf) |>.symm
  obtain rfl : fn = Tryd.f4 := (Option.some.inj (Tryd.func4.symm.trans hfn)).symm
  refine ⟨by kernel_rfl, fun j t ht => ?_⟩
  rw [Tryd.params4] at ht
  have hm := Array.mem_of_getElem? ht
  have ht' : t = 9 ∨ t = 22 ∨ t = 3 := by simpa using hm
  rcases ht' with rfl | rfl | rfl
  · exact (show Tryd.prog.wantsStandIn 9 = false by kernel_rfl)
  · exact (show Tryd.prog.wantsStandIn 22 = false by kernel_rfl)
  · exact (show Tryd.prog.wantsStandIn 3 = false by kernel_rfl)
theorem card : Rows.DeflatePiecesCardSaid :=
  Claim7.holds_tied_plain_at .later [] _ _ _ _ over (fun _ h => by cases h) (by kernel_rfl) (fun _ h => by cases h) deflatePieces_row_tie rfl ⟨rfl, rfl⟩ (by kernel_rfl) rfl plain (by kernel_rfl)
end Go.Proofs.YtmpokiflhijnoaaDoor.deflatePieces
namespace Go.Proofs.YtmpokiflhijnoaaDoor
/-- The statement. -/
theorem deflatePieces_holds : Rows.DeflatePiecesCardSaid := deflatePieces.card
#print axioms deflatePieces_holds
end Go.Proofs.YtmpokiflhijnoaaDoor
