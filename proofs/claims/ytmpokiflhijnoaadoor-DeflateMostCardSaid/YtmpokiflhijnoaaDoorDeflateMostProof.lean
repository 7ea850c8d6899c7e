/-
  DeflateMost: how many bytes a stream may have at most; no encoder.
-/
import Derived.Test.YtmpokiflhijnoaaDoorRows
import Derived.Test.YtmpokiflhijnoaaDoorCards
import Derived.Test.YtmpokiflhijnoaaDoorTie
import Derived.Test.YtmpokiflhijnoaaDoorDfSpeak
import Derived.WalkKit
import Derived.ProofKit
import Derived.OpenShut
import Derived.ShutString
import Derived.ChangeOld
import Derived.Below
import Derived.SizedLaws
import Derived.Deep.DeepHandedRow
import Derived.Deep.DeepWitnessRowRef
import Derived.Lib.LaidIn
import Derived.Lib.LaidTab
import Derived.Lib.LaidU8
namespace Go.Proofs.YtmpokiflhijnoaaDoor.deflateMost
open Go.ChangeShapes Go.WideShapes Go.ChangeAt Go.RowKit Go.Shelf
open Go.ChangeMaps (open_string shut_string)
set_option linter.unusedVariables false
theorem own : ownKnob Tryd.prog.godebug = none := by kernel_rfl
/-- A world for the witness: the settled one, the tables holding what their initialisers lay. -/
noncomputable def laidWorld (os : Os) : World :=
  let w0 := World.holding Tryd.prog os ⟨#[], #[], []⟩
  let put (h : Array Obj) (g : Nat) (cs : Array Value) : Array Obj := h.modify g fun
    | .cells _ t frozen => .cells cs t frozen
    | o => o
  { w0 with heap := (put (put w0.heap 1 (Mt.depT.map fun z => Value.int .i64 (z : Nat)).toArray) 0 (Bk.ordT.map fun z => Value.int .i64 (z : Nat)).toArray) }
theorem laid_met (os : Os) (args : Array Value) : laidMet Tryd.prog Rows.deflateMostRow.laid ((laidWorld os).forCall (fun _ _ => 0) ⟨#[], args, []⟩).memory :=
  (LaidIn.of_run (l := Rows.deflateMostRow.laid) [1, 0] 8 (by kernel_rfl) (by kernel_rfl) (by kernel_rfl) (by kernel_rfl)).met
theorem dept_of {W : World} (hL : laidMetH Tryd.prog Rows.deflateMostRow.laid W) : Mt.DepT W := by
  obtain ⟨g, t, cs, fuel, p, hg, hty, hvar, hd⟩ := Lib.laidMet.reads hL (.head _)
  obtain rfl := Option.some.inj ((show Tryd.prog.globalNamed "lighter/match.depths" = some 1 by kernel_rfl).symm.trans hg)
  obtain rfl := Option.some.inj ((show (Tryd.prog.globals[1]?).map (·.type) = some 133 by kernel_rfl).symm.trans hty)
  have hcs := Lib.cells_of_tab (k := .i64) (zs := Mt.depT.map fun (z : Nat) => (z : Int)) Tryd.underlying133 Tryd.underlying3 (by kernel_rfl) (by kernel_rfl) hd
  have hc : ∀ i, i < 10 → W.cell? ⟨1, i, none⟩ = some (.int .i64 (Mt.depT.getD i 0 : Nat)) := fun i hi => by
    rw [World.var?_cell hg hvar i, ← Array.getElem?_toList, hcs, List.map_map, List.getElem?_map]
    have hl : i < Mt.depT.length := hi
    rw [List.getElem?_eq_getElem hl, List.getD_eq_getElem?_getD, List.getElem?_eq_getElem hl]
    rfl
  have h0 := hc 0 (by decide)
  cases hh : W.heap[1]? with
  | none => simp [World.cell?, hh] at h0
  | some ob =>
    cases ob with
    | cells cs2 t2 fr2 => exact ⟨cs2, t2, fr2, hh, fun i hi => by have := hc i hi; simpa [World.cell?, hh] using this⟩
    | _ => simp [World.cell?, hh] at h0
theorem ordt_of {W : World} (hL : laidMetH Tryd.prog Rows.deflateMostRow.laid W) : Bk.OrdT W := by
  obtain ⟨g, t, cs, fuel, p, hg, hty, hvar, hd⟩ := Lib.laidMet.reads hL (.tail _ (.head _))
  obtain rfl := Option.some.inj ((show Tryd.prog.globalNamed "lighter/block.order" = some 0 by kernel_rfl).symm.trans hg)
  obtain rfl := Option.some.inj ((show (Tryd.prog.globals[0]?).map (·.type) = some 92 by kernel_rfl).symm.trans hty)
  have hcs := Lib.cells_of_tab (k := .i64) (zs := Bk.ordT.map fun (z : Nat) => (z : Int)) Tryd.underlying92 Tryd.underlying3 (by kernel_rfl) (by kernel_rfl) hd
  have hc : ∀ i, i < 19 → W.cell? ⟨0, i, none⟩ = some (.int .i64 (Bk.ordT.getD i 0 : Nat)) := fun i hi => by
    rw [World.var?_cell hg hvar i, ← Array.getElem?_toList, hcs, List.map_map, List.getElem?_map]
    have hl : i < Bk.ordT.length := hi
    rw [List.getElem?_eq_getElem hl, List.getD_eq_getElem?_getD, List.getElem?_eq_getElem hl]
    rfl
  have h0 := hc 0 (by decide)
  cases hh : W.heap[0]? with
  | none => simp [World.cell?, hh] at h0
  | some ob =>
    cases ob with
    | cells cs2 t2 fr2 => exact ⟨cs2, t2, fr2, hh, fun i hi => by have := hc i hi; simpa [World.cell?, hh] using this⟩
    | _ => simp [World.cell?, hh] at h0
theorem witness_row (os : Os) {H : Type} (enc : TypeId × Value → H) :
    (OpenSpec.ofChange Rows.deflateMostSpec).preRow enc Tryd.prog Tryd.f5 Rows.deflateMostRow.domain false Rows.deflateMostRow.laid ((laidWorld os).forCall (fun _ _ => 0) ⟨#[], #[.int .i64 0], []⟩).memory #[.int .i64 0] := by
  have hw : (DataW.whole enc Tryd.prog ((laidWorld os).forCall (fun _ _ => 0) ⟨#[], #[.int .i64 0], []⟩).memory Tryd.f5.params.toList (OpenSpec.ofChange Rows.deflateMostSpec).vars false (#[.int .i64 0] : Array Value).toList 8).map (fun x => (x.1, x.2.1)) =
      some ([.lit (.int .i64 0)], []) := by kernel_rfl
  obtain ⟨⟨x1, x2, x3⟩, hx, hx1⟩ := Option.map_eq_some_iff.1 hw
  simp only [Prod.mk.injEq] at hx1
  obtain ⟨rfl, rfl⟩ := hx1
  exact OpenSpec.preRow_of_cond 8 hx (by kernel_rfl) (fun k hk => by cases hk) (by kernel_rfl) (laid_met os _)
set_option maxRecDepth 100000 in
set_option maxHeartbeats 2000000 in
theorem lifted (os : Os) (started : os.Started) (H : Type) (enc : TypeId × Value → H) (F : Stop.Interp) :
    ReturnsInHanded {} Tryd.checked os 5 .any ((OpenSpec.ofChange Rows.deflateMostSpec).preRow enc Tryd.prog Tryd.f5 Rows.deflateMostRow.domain false Rows.deflateMostRow.laid) (((OpenSpec.ofChange Rows.deflateMostSpec).at F).post enc Tryd.prog Tryd.f5 false true false false) := by
  refine returnsInHanded_of_row (C := Tryd.checked) (s := (OpenSpec.ofChange Rows.deflateMostSpec)) own started (by kernel_rfl) Tryd.func5
    (witness_row_atRef (enc := enc) (C := Tryd.checked) false (laidWorld os) #[.int .i64 0] rfl (by kernel_rfl) (by kernel_rfl) (by kernel_rfl) (witness_row os enc)) ?_
  intro W base args ds gs before hval0 hW _ hcond hsz0 hL _ _
  have hsz : (DataW.weightsEach Tryd.prog (Tryd.f5.params.toList ++ Rows.deflateMostSpec.plain.varTypes Tryd.prog) (ds ++ gs)).all (· ≤ reachBytes) = true := hsz0
  have hval : ∀ (j : Nat) t v, Tryd.f5.params[j]? = some t → args[j]? = some v → Value.okWide Tryd.prog W .any base t v := hval0
  have hW' := hW
  obtain ⟨p, q, hA0, hV0, rfl, _, _⟩ := hW
  have hA : DataW.TrodAll enc Tryd.prog W 0 (fun _ => true) true Tryd.f5.params.toList args.toList ds p := hA0
  rw [Tryd.params5] at hA hval hsz
  obtain ⟨v0, vs0, d0, ds0, p0, q0, hargs, rfl, rfl, h0, r0⟩ := trodAll_cons hA
  obtain ⟨rfl, rfl, rfl⟩ := trodAll_nil r0
  obtain rfl : args = #[v0] := by cases args; simp_all
  obtain ⟨rfl, rfl⟩ := trodVars_none hV0
  obtain ⟨a0, rfl, rfl, rfl, w0⟩ := open_int Tryd.underlying3 (hval 0 3 v0 rfl rfl) h0
  clear hA0 hV0 hval0 hsz0
  have hordt := ordt_of hL
  have hdept := dept_of hL
  refine (Df.dmost_any a0 W w0 hordt hdept).mono ?_
  rintro e W' ⟨rfl, bel⟩
  exact ⟨_, rfl, _, _, _, [], _, [], hW', trodAll_mk1 (shut_bool Tryd.underlying4 _), (trodAll_cons_mk (shut_int Tryd.underlying3 w0) trodAll_mk0), rfl, bel.frame _, fun h => by cases h⟩
theorem over : Rows.deflateMostRow.holds Tryd.pinned (OpenSpec.ofChange Rows.deflateMostSpec) :=
  OpenClaim.holds_of_cond 5 Tryd.f5 rfl rfl rfl rfl rfl rfl rfl ⟨rfl, rfl, rfl, rfl, rfl⟩ rfl rfl rfl rfl rfl (by kernel_rfl) Tryd.func5 (by kernel_rfl)
    (of_decide_eq_true (by kernel_rfl)) (by unfold Func.isWrapper; first | (rw [if_pos (by decide +kernel)]; kernel_rfl) | (rw [if_neg (by decide +kernel)]; exact ⟨rfl, rfl⟩))
    (fun os started H enc _ F => by rw [OpenClaim.pre_eq_preRow]; exact lifted os started H enc F)
theorem plain (f : FuncId) (fn : Func) (hf : Tryd.pinned.checked.prog.funcNamed Rows.deflateMostRow.func = some f) (hfn : Tryd.pinned.checked.prog.funcs[f]? = some fn) :
    false = Tryd.pinned.checked.prog.looks [] ∧ ∀ (j : Nat) t, fn.params[j]? = some t → Tryd.pinned.checked.prog.wantsStandIn t = false := by
  obtain rfl : f = 5 := Option.some.inj ((show Tryd.prog.funcNamed Rows.deflateMostRow.func = some 5 by kernel_rfl).symm.trans hf) |>.symm
  obtain rfl : fn = Tryd.f5 := (Option.some.inj (Tryd.func5.symm.trans hfn)).symm
  refine ⟨by kernel_rfl, fun j t ht => ?_⟩
  rw [Tryd.params5] at ht
  have hm := Array.mem_of_getElem? ht
  have ht' : t = 3 := by simpa using hm
  subst ht'
  exact (show Tryd.prog.wantsStandIn 3 = false by kernel_rfl)
theorem card : Rows.DeflateMostCardSaid :=
  Claim7.holds_tied_plain_at .later [] _ _ _ _ over (fun _ h => by cases h) (by kernel_rfl) (fun _ h => by cases h) deflateMost_row_tie rfl ⟨rfl, rfl⟩ (by kernel_rfl) rfl plain (by kernel_rfl)
end Go.Proofs.YtmpokiflhijnoaaDoor.deflateMost
namespace Go.Proofs.YtmpokiflhijnoaaDoor
/-- The statement. -/
theorem deflateMost_holds : Rows.DeflateMostCardSaid := deflateMost.card
#print axioms deflateMost_holds
end Go.Proofs.YtmpokiflhijnoaaDoor
