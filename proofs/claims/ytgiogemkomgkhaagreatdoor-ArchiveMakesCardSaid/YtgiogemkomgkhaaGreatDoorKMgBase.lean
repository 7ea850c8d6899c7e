/-
  Merge: the order of symbols, as the closure in 'used' answers.
-/
import Derived.Test.YtgiogemkomgkhaaGreatDoorProg
import Derived.Test.YtgiogemkomgkhaaGreatDoorKShelf
import Derived.WalkKit
import Derived.ProofKit
import Derived.OpenShut
import Derived.Below
import Derived.SizedLaws
import Derived.Lib.Hide
import Derived.BigQuiet
import Derived.Deep.QuietTactic
import Derived.StillTailTactics
import Derived.Deep.RegionWith
import Derived.OwnWalk
set_option linter.unusedVariables false
set_option linter.unusedSimpArgs false
namespace Go.Proofs.YtgiogemkomgkhaaGreatDoor.Mg
open Go.ChangeShapes Go.WideShapes Go.ChangeAt Go.RowKit Go.Shelf Go.Proofs
def or2 (x y:Int):Int:=if x=0 then y else x
set_option maxHeartbeats 1000000 in
theorem or_calls (g:Nat) (p q:Int) (w:World) (h0:w.cell? ⟨g,0,none⟩=some (.int .i64 p)) (h1:w.cell? ⟨g,1,none⟩=some (.int .i64 q)) :
  Calls Tryz.prog 159 #[.slice (some ⟨g,0,none⟩) 2 2] w fun e w'=>e= .returned (.int .i64 (or2 p q))∧w'=w:=by
 obtain⟨ans,ha⟩:∃ ans,ans=or2 p q:=⟨_,rfl⟩
 rw[← ha]
 have HA:=Lib.hid ha
 clear ha
 go_enter Tryz.func159,Tryz.ntmps159
 go_wp2
 go_loop [8] (fun i=>∃ k:Nat,k≤2∧i= .int .i64 k∧(1≤k→p=0)∧(2≤k→q=0)) (fun i=>2 - (intOf i).toNat)
 case atStart=>exact⟨0,by omega,rfl,by omega,by omega⟩
 case round =>
  obtain⟨k,hk,rfl,e1,e2⟩:=hrel
  have E1:=Lib.hid e1
  have E2:=Lib.hid e2
  clear e1 e2
  rcases Nat.lt_or_ge k 1 with h|h
  ·obtain rfl:k=0:=by omega
   cases hp:(p != 0) with
   | true =>
    go_wp2
    go_ret
    refine⟨?_,rfl⟩
    rw[HA.out]
    have:p≠0:=by simpa using hp
    simp[or2,this]
   | false =>
    go_wp2
    go_round
    case rel=>exact⟨1,by omega,by go_num,fun _=>by simpa using hp,by omega⟩
    case measure=>simp[intOf]
  ·rcases Nat.lt_or_ge k 2 with h2|h2
   ·obtain rfl:k=1:=by omega
    cases hp:(q != 0) with
    | true =>
     go_wp2
     go_ret
     refine⟨?_,rfl⟩
     rw[HA.out]
     simp[or2,E1.out (by omega)]
    | false =>
     go_wp2
     go_round
     case rel=>exact⟨2,by omega,by go_num,fun _=>E1.out (by omega),fun _=>by simpa using hp⟩
     case measure=>simp[intOf]
   ·obtain rfl:k=2:=by omega
    go_wp2
    go_ret
    refine⟨?_,rfl⟩
    rw[HA.out]
    simp[or2,E1.out (by omega),E2.out (by omega)]
theorem heap_new (w:World) (o:Obj):(w.alloc o).heap[w.heap.size]?=some o:=by
 show(w.heap.push o)[w.heap.size]?=some o
 simp
theorem two_cells (w:World) (v u:Value) (t:TypeId):((w.alloc (.cells #[v,u] t)).drew).cell? ⟨w.heap.size,0,none⟩=some v∧((w.alloc (.cells #[v,u] t)).drew).cell? ⟨w.heap.size,1,none⟩=some u:=by
 have h:=heap_new w (.cells #[v,u] t)
 constructor
 ·show(w.alloc (.cells #[v,u] t)).cell? _=_
  simp only[World.cell?]
  rw[h]
  rfl
 ·show(w.alloc (.cells #[v,u] t)).cell? _=_
  simp only[World.cell?]
  rw[h]
  rfl
end Go.Proofs.YtgiogemkomgkhaaGreatDoor.Mg
