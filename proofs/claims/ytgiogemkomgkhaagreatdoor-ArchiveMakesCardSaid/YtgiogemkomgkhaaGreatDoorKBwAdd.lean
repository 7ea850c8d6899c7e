/-
  A text's bytes are put behind what a Writer has, at a byte's beginning.
-/
import Derived.Test.YtgiogemkomgkhaaGreatDoorKBwAll
import Derived.Test.YtgiogemkomgkhaaGreatDoorKBkTok
import Derived.Lib.AppendStr
set_option linter.unusedVariables false
set_option linter.unusedSimpArgs false
namespace Go.Proofs.YtgiogemkomgkhaaGreatDoor.Bk
open Go.RowKit Go.Shelf Mg Bw
def strN (s:ByteArray):List Nat:=s.data.toList.map UInt8.toNat
def strB (s:ByteArray):List Bool:=(strN s).flatMap (bitsN 8)
theorem strN_len (s:ByteArray):(strN s).length=s.size:=by simp[strN]
theorem byV_str (s:ByteArray):byV (strN s)=Lib.strCells s:=by
 unfold byV strN Lib.strCells
 rw[List.map_map]
 rfl
section
variable {P:Program} (w:World)
theorem run_append_at_string (base:Nat) (t u ty e:TypeId) (i:TypeInfo) (ht:P.underlying t=some (.slice e)) (hu:P.underlying u=some .string) (hi:P.info? e=some i) (hz:i.zero=some (.int .u8 0))
  (hsize:i.size=1) (hby:i.bytes=1)
  (v:Value) (n:Nat) (xs:List Value) (hown:w.ownsRow base e 1 v n xs) (s:ByteArray)
  (h63:n+s.size≤maxLen) (hbytes:n+s.size≤140737488355328) (hbase:base≤w.heap.size) :
  ∃ v' w',(Builtin.append_ #[t,u] ty #[v,.string s]).run P w= .ok v' w'∧w'.ownsRow base e 1 v' (n+s.size) (xs++Lib.strCells s)∧w.grownBy w' v.ownBlock ∧
   (∀ k,v'.ownBlock=some k→v.ownBlock=some k∨w.heap.size≤k):=by
 obtain⟨v',w',hr,h2,h3,h4⟩:=Lib.run_append_own_string w base t u ty e i ht hu hi hz hsize hby v n xs hown s h63 hbytes hbase
 refine⟨v',w',hr,h2,h3,fun k hk=>?_⟩
 have hsmall:n+s.size≤9223372036854775807:=by simp only[maxLen]at h63;omega
 rcases hown.2 with⟨rfl,rfl⟩|⟨g,cap,cur,rfl,hbg,hg,hnc,hcm,hcs,htake⟩
 ·by_cases hm:s.size=0
  ·rw[h4.2 ⟨rfl,hm⟩]at hk
   simp[Value.ownBlock]at hk
  ·have hr2:=run_append_nil_string (P:=P) w t u ty e i (.int .u8 0) ht hu hi hz s (by omega) (by omega) (by rw[hby];omega)
   rw[hr]at hr2
   simp only[Result.ok.injEq]at hr2
   obtain⟨rfl, -⟩:=hr2
   simp only[Value.ownBlock,Option.some.injEq]at hk
   exact .inr (by omega)
 ·by_cases hroom:n+s.size≤cap
  ·have hr2:=Lib.run_append_room_string (P:=P) w t u ty e i ht hu hi hsize g n cap cur hg s hroom (by rw[hcs];omega)
   rw[hr]at hr2
   simp only[Result.ok.injEq]at hr2
   obtain⟨rfl, -⟩:=hr2
   exact .inl hk
  ·have holds:∀ j u,xs[j]?=some u→w.cell? ((⟨g,0,none⟩:Addr).add j)=some u:=hown.cells (g:=g) rfl
   have hr2:=Lib.run_append_grow_string (P:=P) w t u ty e i (.int .u8 0) ht hu hi hz ⟨g,0,none⟩ n cap xs (by rw[hsize];exact hown.1) holds s (by omega) (by omega) (by rw[hby];exact growslice_fits (by omega) (by omega))
   rw[hr]at hr2
   simp only[Result.ok.injEq]at hr2
   obtain⟨rfl, -⟩:=hr2
   simp only[Value.ownBlock,Option.some.injEq]at hk
   exact .inr (by omega)
end
theorem wpList_append_at_string {P:Program} (w:World) {ops:Array Oper} {rest:List Oper} {o:Oper} {a:Act} {Q:Exit→Act→World→Prop} (hgd:o.guard=none) (sl x:Operand) (t u:TypeId)
  (ho:o.op= .call { callee:= .builtin .append,args:= #[sl,x],argTypes:= #[t,u] })
  (base:Nat) (e:TypeId) (i:TypeInfo) (ht:P.underlying t=some (.slice e)) (hu:P.underlying u=some .string) (hi:P.info? e=some i) (hz:i.zero=some (.int .u8 0))
  (hsize:i.size=1) (hby:i.bytes=1)
  (v:Value) (n:Nat) (xs:List Value) (hs:a.eval sl=v) (hown:w.ownsRow base e 1 v n xs) (s:ByteArray) (hx:a.eval x= .string s)
  (h63:n+s.size≤maxLen) (hbytes:n+s.size≤140737488355328) (hbase:base≤w.heap.size)
  (h:∀ v' w',w'.ownsRow base e 1 v' (n+s.size) (xs++Lib.strCells s)→w.grownBy w' v.ownBlock→(∀ k,v'.ownBlock=some k→v.ownBlock=some k∨w.heap.size≤k)→wpList P ops Q rest (a.put o.dst v') w'):wpList P ops Q (o::rest) a w:=by
 refine wpList_plain hgd fun K hK=>?_
 obtain⟨v',w',hr,h2,h3,h4⟩:=run_append_at_string (P:=P) w base t u o.type e i ht hu hi hz hsize hby v n xs hown s h63 hbytes hbase
 unfold Oper.wp execOp
 simp only[ho,resolve,invoke,builtin,Sem.run_bind,Sem.run_pure,Result.andThen_ok,List.map_toArray,List.map_cons,List.map_nil,hs,hx,hr]
 exact hK _ _ (h v' w' h2 h3 h4)
theorem padB_mod (bs:List Bool):(padB bs).length % 8=0:=by
 unfold padB
 rw[List.length_append,List.length_replicate]
 omega
theorem padB_le (bs:List Bool):(padB bs).length≤bs.length+8:=by
 unfold padB
 rw[List.length_append,List.length_replicate]
 omega
theorem wat_whole {w:World} {base B o:Nat} {v:Value} {bs:List Bool} (h:WAt w base B o v bs) (hm:bs.length % 8=0):∃ dn,WRaw w base B o v dn 0 0∧dn.flatMap (bitsN 8)=bs∧dn.length*8=bs.length:=by
 obtain⟨dn,acc,hr,hw⟩:=h.mod
 rw[hm]at hr hw
 have ha:=hr.lt
 have h0:acc=0:=by simpa using ha
 subst h0
 have e:wbits dn 0 0=dn.flatMap (bitsN 8):=by unfold wbits;rw[bitsN_zero,List.append_nil]
 refine⟨dn,hr,by rw[← e];exact hw,?_⟩
 rw[← hw,wbits_len]
 omega
noncomputable def tb8:TypeInfo:=(Tryz.prog.info? 5).getD default
set_option maxHeartbeats 2000000 in
set_option maxRecDepth 100000 in
theorem add_calls (base B o:Nat) (v:Value) (bs:List Bool) (s:ByteArray) (w:World) (h:WAt w base B o v bs) (hs:0<s.size) (hs2:s.size≤1000000000) (hd:bs.length≤1000000000000) :
  Calls Tryz.prog 92 #[.pointer (some ⟨B,o,none⟩),.string s] w fun e w'=>e= .returned (.tuple #[])∧∃ v',WAt w' base B o v' (padB bs++strB s)∧Wrote B o v w v' w':=by
 have HAL:=Lib.hid (align_calls base B o v bs w h hd)
 have hpl:=padB_le bs
 have hpm:=padB_mod bs
 have hii:Tryz.prog.info? 5=some tb8:=by kernel_rfl
 have hiz0:tb8.zero=some (.int .u8 0):=by kernel_rfl
 have hiz1:tb8.size=1:=by kernel_rfl
 have hiz2:tb8.bytes=1:=by kernel_rfl
 obtain⟨pb,hpb⟩:∃ x,padB bs=x:=⟨_,rfl⟩
 rw[hpb]at HAL hpl hpm ⊢
 clear h hpb
 go_enter Tryz.func92,Tryz.ntmps92
 go_wp2_with fail
 refine HAL.out.mono ?_
 rintro e w1 ⟨rfl,v1,r1,r2⟩
 obtain⟨dn,hr,hdn,hdl⟩:=wat_whole r1 hpm
 have c0:=hr.c0
 have HR:=Lib.hid hr
 have HT:=Lib.hid r2
 have HDN:=Lib.hid hdn
 clear r1 r2 hr hdn HAL
 go_wp2_with (at_builtin;refine wpList_append_at_string _ rfl _ _ 101 9 rfl base 5 tb8 Tryz.underlying101 Tryz.underlying9 hii hiz0 hiz1 hiz2 _ dn.length (byV dn) rfl HR.out.row s rfl ?c3 ?c4 ?c5 ?_)
 case c3=>unfold maxLen;omega
 case c4=>omega
 case c5=>exact HR.out.b
 intro v2 w2 ho2 hg2 hn2
 obtain⟨gv,cv,rfl,_,_⟩:=ho2.form (by omega)
 have HO:=Lib.hid ho2
 have HG:=Lib.hid hg2
 have HN:=Lib.hid hn2
 have e2:w2.heap[B]?=w1.heap[B]?:=hg2.block B HR.out.Bt (fun e=>HR.out.ne e.symm)
 have d0:w2.cell? ⟨B,o,none⟩=some v1:=(World.cell?_of_block (a:=⟨B,o,none⟩) e2).trans c0
 have f0:w2.frozen? ⟨B,o,none⟩=false:=by
  have h:=HR.out.f0 o
  unfold World.frozen? at h ⊢
  simp only at h ⊢
  rw[e2]
  exact h
 have HF:=Lib.hid (HR.out.app (w1:=w1) (w2:=w2) (ds:=strN s) (N:=dn.length+s.size) (fun x hx=>by
  obtain⟨b, -,rfl⟩:=List.mem_map.1 hx
  exact b.toNat_lt) (Below.refl _ _) HR.out.b gv cv (by
  have e:byV (dn++strN s)=byV dn++Lib.strCells s:=by
   rw[← byV_str]
   unfold byV
   rw[List.map_append]
  rw[e]
  exact HO.out) HG.out (HN.out gv rfl))
 clear e2 c0 ho2 hg2 hn2
 go_wp2
 go_end0
 refine⟨rfl,_,⟨dn++strN s,0,0,HF.out.1,by decide,?_⟩,HT.out.trans HF.out.2⟩
 unfold wbits strB
 rw[bitsN_zero,List.append_nil,List.flatMap_append,HDN.out]
end Go.Proofs.YtgiogemkomgkhaaGreatDoor.Bk
