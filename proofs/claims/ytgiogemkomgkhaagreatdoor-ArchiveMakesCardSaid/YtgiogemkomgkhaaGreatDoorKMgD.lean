/-
  Merge: what 'Lengths' computes, in plain words: the levels' lists of packs.
-/
import Derived.Test.YtgiogemkomgkhaaGreatDoorKMgC
import Derived.Test.YtgiogemkomgkhaaGreatDoorKMgU
import Derived.Laws.Rows
import Derived.Laws.MakeOwn
set_option linter.unusedVariables false
set_option linter.unusedSimpArgs false
namespace Go.Proofs.YtgiogemkomgkhaaGreatDoor.Mg
open Go.ChangeShapes Go.WideShapes Go.ChangeAt Go.RowKit Go.Shelf Go.Proofs
def ordP (cs:List Int):List Nat:=(usedL cs).map fun s=>s.1.toNat
theorem ordP_len (cs:List Int):(ordP cs).length=(usedL cs).length:=by simp[ordP]
theorem ordP_get (cs:List Int) (k:Nat) (h:k<(usedL cs).length):(ordP cs)[k]'(by simp[ordP];exact h)=(usedL cs)[k].1.toNat:=by simp[ordP]
theorem ordP_lt (cs:List Int):∀ s∈ordP cs,s<cs.length:=by
 intro s hs
 obtain⟨x,_,rfl⟩:=List.mem_map.1 hs
 have:=x.2
 omega
def leavesP (cs:List Int):List (Int×List Nat):=(ordP cs).mapIdx fun i s=>(cs.getD s 0,[i])
theorem leavesP_len (cs:List Int):(leavesP cs).length=(usedL cs).length:=by simp[leavesP,ordP_len]
def levelP (cs:List Int):Nat→List (Int×List Nat)
 | 0=>leavesP cs
 | k+1=>joinP (leavesP cs) (pairsP (levelP cs k))
theorem joinP_len (a b:List (Int×List Nat)):(joinP a b).length=a.length+b.length:=by
 unfold joinP
 exact List.length_merge _ _ _
theorem joinP_mem (a b:List (Int×List Nat)) (x:Int×List Nat):x∈joinP a b↔x∈a∨x∈b:=by
 unfold joinP
 exact List.mem_merge
theorem levelP_len0 (cs:List Int) (k:Nat):(levelP cs (k+1)).length=(usedL cs).length+(levelP cs k).length/2:=by
 show(joinP _ _).length=_
 rw[joinP_len,pairsP_len,leavesP_len]
theorem levelP_low (cs:List Int):∀ k j,(usedL cs).length≤2 ^ (k+j)→2*(usedL cs).length≤(levelP cs k).length+2 ^ j
 | 0,j,h=>by
  have h1:(levelP cs 0).length=(usedL cs).length:=leavesP_len cs
  rw[Nat.zero_add]at h
  omega
 | k+1,j,h=>by
  have h1:=levelP_low cs k (j+1) (by rw[show k+(j+1)=k+1+j by omega];exact h)
  have h2:=levelP_len0 cs k
  rw[Nat.pow_succ]at h1
  omega
theorem levelP_high (cs:List Int):∀ k,(levelP cs k).length≤2*(usedL cs).length
 | 0=>by have h1:(levelP cs 0).length=(usedL cs).length:=leavesP_len cs;omega
 | k+1=>by
  have h1:=levelP_high cs k
  have h2:=levelP_len0 cs k
  omega
theorem levelP_low0 (cs:List Int):∀ k,(usedL cs).length≤(levelP cs k).length
 | 0=>by have h1:(levelP cs 0).length=(usedL cs).length:=leavesP_len cs;omega
 | k+1=>by
  have h2:=levelP_len0 cs k
  omega
theorem pairsP_all {Q R:Int×List Nat→Prop} (h:∀ a b,Q a→Q b→R (a.1+b.1,a.2++b.2)):∀ l,(∀ x∈l,Q x)→∀ x∈pairsP l,R x
 | [],_,x,hx=>by cases hx
 | [_],_,x,hx=>by cases hx
 | a::b::r,hq,x,hx=>by
  rcases List.mem_cons.1 hx with rfl|hx
  ·exact h a b (hq a (by simp)) (hq b (by simp))
  ·exact pairsP_all h r (fun y hy=>hq y (by simp[hy])) x hx
def PackOk (N k:Nat) (p:Int×List Nat):Prop:=0≤p.1∧p.1≤1099511627776*2 ^ k∧1≤p.2.length∧p.2.length≤2 ^ k∧∀ i∈p.2,i<N
theorem leavesP_ok (cs:List Int) (hb:cs.any badB=false):∀ p∈leavesP cs,PackOk (usedL cs).length 0 p:=by
 intro p hp
 unfold leavesP at hp
 obtain⟨i,hi,rfl⟩:=List.mem_mapIdx.1 hp
 rw[ordP_len]at hi
 have h1:(ordP cs)[i]<cs.length:=ordP_lt cs _ (List.getElem_mem _)
 have h2:badB cs[(ordP cs)[i]]=false:=by
  have:=List.any_eq_false.1 hb cs[(ordP cs)[i]] (List.getElem_mem h1)
  simpa using this
 have h3:cs.getD (ordP cs)[i] 0=cs[(ordP cs)[i]]:=by rw[List.getD_eq_getElem?_getD,List.getElem?_eq_getElem h1];rfl
 unfold badB at h2
 simp only[Bool.or_eq_false_iff,decide_eq_false_iff_not]at h2
 refine⟨?_,?_,Nat.le_refl _,Nat.le_refl _,?_⟩
 ·rw[h3];omega
 ·rw[h3];omega
 ·intro j hj
  obtain rfl:=List.mem_singleton.1 hj
  exact hi
theorem levelP_ok (cs:List Int) (hb:cs.any badB=false):∀ k,∀ p∈levelP cs k,PackOk (usedL cs).length k p
 | 0=>leavesP_ok cs hb
 | k+1=>by
  intro p hp
  have hpow:(2:Int) ^ (k+1)=2*2 ^ k:=by rw[Int.pow_succ];omega
  have hpos:(1:Int)≤2 ^ k:=by
   have:(0:Int)<2 ^ k:=Int.pow_pos (by omega)
   omega
  have hpn:2 ^ (k+1)=2*2 ^ k:=by rw[Nat.pow_succ];omega
  have hpn1:1≤2 ^ k:=Nat.one_le_two_pow
  rcases (joinP_mem _ _ _).1 hp with h|h
  ·obtain⟨h1,h2,h3,h4,h5⟩:=leavesP_ok cs hb p h
   refine⟨h1,?_,h3,?_,h5⟩
   ·rw[hpow];simp at h2;omega
   ·rw[hpn];simp at h4;omega
  ·refine pairsP_all (Q:=PackOk (usedL cs).length k) (R:=PackOk (usedL cs).length (k+1)) ?_ _ (levelP_ok cs hb k) p h
   intro a b ⟨a1,a2,a3,a4,a5⟩ ⟨b1,b2,b3,b4,b5⟩
   refine⟨by show 0≤a.1+b.1;omega,?_,by simp;omega,?_,?_⟩
   ·show a.1+b.1≤_;rw[hpow];omega
   ·simp;omega
   ·intro i hi
    rcases List.mem_append.1 hi with h|h
    ·exact a5 i h
    ·exact b5 i h
def bump (ord:List Nat) (o:List Int) (i:Nat):List Int:=o.modify (ord.getD i 0) (· + 1)
def outP (n:Nat) (ord ks:List Nat):List Int:=ks.foldl (bump ord) (List.replicate n 0)
def takenP (cs:List Int) (most:Int):List Nat:=((levelP cs (most.toNat - 1)).take (2*(usedL cs).length - 2)).flatMap (·.2)
def lensP (cs:List Int) (most:Int):List Int :=
 if (usedL cs).length<2 then(ordP cs).foldl (fun o s=>o.set s 1) (List.replicate cs.length 0) else outP cs.length (ordP cs) (takenP cs most)
theorem bump_len (ord:List Nat) (o:List Int) (i:Nat):(bump ord o i).length=o.length:=by simp[bump]
theorem outP_len (n:Nat) (ord:List Nat):∀ ks:List Nat,(outP n ord ks).length=n:=by
 intro ks
 unfold outP
 suffices h:∀ o:List Int,(ks.foldl (bump ord) o).length=o.length by rw[h];simp
 induction ks with
 | nil=>intro o;rfl
 | cons k ks ih=>intro o;rw[List.foldl_cons,ih,bump_len]
theorem outP_snoc (n:Nat) (ord ks:List Nat) (i:Nat):outP n ord (ks ++ [i])=bump ord (outP n ord ks) i:=by
 unfold outP
 rw[List.foldl_append]
 rfl
theorem set_len (ks:List Nat):∀ o:List Int,(ks.foldl (fun o s=>o.set s 1) o).length=o.length:=by
 induction ks with
 | nil=>intro o;rfl
 | cons k ks ih=>intro o;rw[List.foldl_cons,ih];simp
theorem lensP_len (cs:List Int) (most:Int):(lensP cs most).length=cs.length:=by
 unfold lensP
 split
 ·rw[set_len];simp
 ·exact outP_len _ _ _
theorem bump_get (ord:List Nat) (o:List Int) (i j:Nat) (h:j<o.length):(bump ord o i)[j]?=some (if ord.getD i 0=j then o[j]+1 else o[j]):=by
 unfold bump
 rw[List.getElem?_modify,List.getElem?_eq_getElem h]
 split<;>rfl
theorem bump_bound (ord:List Nat) (o:List Int) (i:Nat) (m:Nat) (h:∀ x∈o,0≤x∧x≤m):∀ x∈bump ord o i,0≤x∧x≤(m+1:Nat):=by
 intro x hx
 obtain⟨j,hj,rfl⟩:=List.mem_iff_getElem.1 hx
 have hj':j<o.length:=by rw[bump_len]at hj;exact hj
 have e:=bump_get ord o i j hj'
 rw[List.getElem?_eq_getElem hj,Option.some.injEq]at e
 rw[e]
 have:=h o[j] (List.getElem_mem hj')
 split<;>omega
theorem outP_bound (n:Nat) (ord ks:List Nat):∀ x∈outP n ord ks,0≤x∧x≤ks.length:=by
 unfold outP
 suffices h:∀ (o:List Int) (m:Nat),(∀ x∈o,0≤x∧x≤m)→∀ x∈ks.foldl (bump ord) o,0≤x∧x≤(m+ks.length:Nat) by
  have:=h (List.replicate n 0) 0 (by intro x hx;rw[(List.mem_replicate.1 hx).2];omega)
  simpa using this
 induction ks with
 | nil=>intro o m h;simpa using h
 | cons k ks ih =>
  intro o m h x hx
  rw[List.foldl_cons]at hx
  have:=ih (bump ord o k) (m+1) (bump_bound ord o k m h) x hx
  simp only[List.length_cons]
  omega
end Go.Proofs.YtgiogemkomgkhaaGreatDoor.Mg
namespace Go.Proofs.YtgiogemkomgkhaaGreatDoor.Mg
open Go.ChangeShapes Go.WideShapes Go.ChangeAt Go.RowKit Go.Shelf Go.Proofs
def cellsI (o:List Int):Array Value:=(o.map (Value.int .i64)).toArray
theorem cellsI_set (o:List Int) (i:Nat) (x:Int):(cellsI o).setIfInBounds i (.int .i64 x)=cellsI (o.set i x):=by
 simp[cellsI,List.map_set]
theorem made_cells (n:Nat):madeCells #[.int .i64 0] n=cellsI (List.replicate n 0):=by
 apply Array.ext_getElem?
 intro i
 simp only[cellsI,madeCells]
 by_cases h:i<n
 ·simp[h,Nat.mod_one]
 ·simp[h]
def RowI (w:World) (B:Nat) (o:List Int):Prop:=w.heap[B]?=some (.cells (cellsI o) 3 (0,0))
theorem RowI.cell {w:World} {B:Nat} {o:List Int} (h:RowI w B o) (i:Nat) (hi:i<o.length):w.cell? ⟨B,i,none⟩=some (.int .i64 o[i])∧w.frozen? ⟨B,i,none⟩=false:=by
 unfold RowI at h
 constructor
 ·simp only[World.cell?]
  rw[h]
  simp[cellsI,hi]
 ·simp only[World.frozen?]
  rw[h]
  simp
theorem RowI.set {w:World} {B:Nat} {o:List Int} (h:RowI w B o) (i:Nat) (x:Int):RowI (w.setCell ⟨B,i,none⟩ (.int .i64 x)) B (o.set i x):=by
 unfold RowI at *
 rw[← cellsI_set]
 exact heap_setCell_same w B i _ _ _ h
theorem RowI.grown {w w':World} {B:Nat} {o:List Int} (h:RowI w B o) {row:Option Nat} (hg:w.grownBy w' row) (hne:some B≠row):RowI w' B o :=
 (hg.block B (Array.getElem?_eq_some_iff.1 h).1 hne).trans h
theorem RowI.below {w w':World} {B:Nat} {o:List Int} (h:RowI w B o) (hb:Below w.heap.size w w'):RowI w' B o :=
 (hb.block B (Array.getElem?_eq_some_iff.1 h).1).trans h
theorem grown_set (w:World) (B i:Nat) (v:Value):w.grownBy (w.setCell ⟨B,i,none⟩ v) (some B):=by
 refine⟨rfl,rfl,rfl,by simp[World.setCell],fun k hk hne=>?_⟩
 exact heap_setCell_other w _ k v (fun e=>hne (by rw[e]))
theorem grown_below {w w':World} (row:Option Nat) (h:Below w.heap.size w w'):w.grownBy w' row:=⟨h.os,h.tape,h.output,h.size,fun k hk _=>h.block k hk⟩
theorem Rd.far {w w':World} {T:TypeId} {size n:Nat} {g o c:Nat} {xs:List Value} {B:Nat} (h:Rd w T size (.slice (some ⟨g,o,none⟩) n c) n xs) (hg:w.grownBy w' (some B)) (hne:g≠B):Rd w' T size (.slice (some ⟨g,o,none⟩) n c) n xs:=by
 obtain⟨h1,g',o',c',cur,fr,h2,h3,h4,h5⟩:=h
 cases h2
 exact⟨h1,g,o,c,cur,fr,rfl,h3,(hg.block g (Array.getElem?_eq_some_iff.1 h4).1 (fun e=>hne (by cases e;rfl))).trans h4,h5⟩
theorem bump_set (ord:List Nat) (o:List Int) (i:Nat) (hi:i<ord.length) (hs:ord[i]<o.length):bump ord o i=o.set ord[i] (o[ord[i]]+1):=by
 have e:ord.getD i 0=ord[i]:=by rw[List.getD_eq_getElem?_getD,List.getElem?_eq_getElem hi];rfl
 apply List.ext_getElem?
 intro j
 unfold bump
 rw[e,List.getElem?_modify,List.getElem?_set]
 by_cases h:ord[i]=j
 ·subst h
  rw[if_pos rfl,if_pos hs,List.getElem?_eq_getElem hs]
  simp
 ·rw[if_neg h]
  simp[h]
theorem RowI.reads {w:World} {B:Nat} {o:List Int} (h:RowI w B o):Reads w (some ⟨B,0,none⟩) o:=fun j hj=>⟨B,0,rfl,by rw[Nat.zero_add];exact(h.cell j hj).1⟩
end Go.Proofs.YtgiogemkomgkhaaGreatDoor.Mg
namespace Go.Proofs.YtgiogemkomgkhaaGreatDoor.Mg
open Go.ChangeShapes Go.WideShapes Go.ChangeAt Go.RowKit Go.Shelf Go.Proofs
theorem Reads.below {w w':World} {A:Option Addr} {cs:List Int} (h:Reads w A cs) (hb:Below w.heap.size w w'):Reads w' A cs:=fun j hj=>by
 obtain⟨g,o,e,hc⟩:=h j hj
 exact⟨g,o,e,(hb.cell (World.block_lt_of_cell? w _ hc)).trans hc⟩
def OrdAt (w:World) (b:Nat) (A:Option Addr) (ord:List Nat):Prop:=∀ j (h:j<ord.length),∃ g,A=some ⟨g,0,none⟩∧b≤g∧g<w.heap.size∧w.cell? ⟨g,j,none⟩=some (.int .i64 (ord[j]:Nat))
theorem OrdAt.of {w w':World} {A:Option Addr} {cs:List Int} (h:∀ j (h:j<(usedL cs).length),∃ g',A=some ⟨g',0,none⟩∧w.heap.size≤g'∧w'.cell? ⟨g',j,none⟩=some (encP (usedL cs)[j])):OrdAt w' w.heap.size A (ordP cs):=fun j hj=>by
 rw[ordP_len]at hj
 obtain⟨g,e,hb,hc⟩:=h j hj
 refine⟨g,e,hb,World.block_lt_of_cell? w' _ hc,?_⟩
 rw[hc,ordP_get cs j hj]
 have:=(usedL cs)[j].2
 unfold encP
 rw[Int.toNat_of_nonneg this.1]
theorem OrdAt.far {w w':World} {b B:Nat} {A:Option Addr} {ord:List Nat} (h:OrdAt w b A ord) (hg:w.grownBy w' (some B)) (hB:B<b):OrdAt w' b A ord:=fun j hj=>by
 obtain⟨g,e,hb,hl,hc⟩:=h j hj
 refine⟨g,e,hb,Nat.lt_of_lt_of_le hl hg.size,(hg.cell_far ⟨g,j,none⟩ hl ?_).trans hc⟩
 intro e2
 have e3:g=B:=Option.some.inj e2
 omega
theorem info_int:(Tryz.prog.info? 3).map (fun i=>(i.zero,i.size,i.bytes))=some (some (.int .i64 0),1,8):=by kernel_rfl
set_option maxHeartbeats 4000000 in
set_option maxRecDepth 200000 in
theorem lengths_few (A:Option Addr) (c:Nat) (cs:List Int) (most:Int) (w:World) (hA:Reads w A cs) (hb:badArg cs most=false) (hN:(usedL cs).length<2) (hm:((usedL cs).length:Int)≤(2:Int) ^ most.toNat) :
  Calls Tryz.prog 118 #[.slice A cs.length c,.int .i64 most] w fun e w'=>∃ B,e= .returned (.tuple #[.slice (some ⟨B,0,none⟩) cs.length cs.length,.int .i64 0])∧Below w.heap.size w w'∧RowI w' B (lensP cs most)∧w.heap.size≤B:=by
 have HA:=Lib.hid hA
 obtain⟨h1,h2,h3,h4⟩:=badArg_facts hb
 have hE:wrongE cs most=0:=by unfold wrongE;rw[if_neg (by rw[hb];simp),if_neg (by omega)]
 have HBA:=Lib.hid hb
 obtain⟨n,hn⟩:∃ n,cs.length=n:=⟨_,rfl⟩
 obtain⟨N,hNN⟩:∃ N,(usedL cs).length=N:=⟨_,rfl⟩
 obtain⟨i0,hi,hz0,hz1,hz2⟩:=info_parts info_int
 have hmk:∀ W:World,(Instr.makeSlice 55 (.int .i64 n) (.int .i64 n)).run Tryz.prog W= .ok (.slice (some ⟨W.heap.size,0,none⟩) n n) (W.alloc (.cells (cellsI (List.replicate n 0)) 3)):=fun W=>by
  have:=run_make (P:=Tryz.prog) W 55 3 i0 (.int .i64 0) Tryz.underlying55 hi hz0 .i64 .i64 n n (by omega) (by omega) (by rw[hz2];omega) (by omega)
  rw[← made_cells]
  simpa[hz1,Value.cells] using this
 have HLP:Hid (lensP cs most=(ordP cs).foldl (fun o s=>o.set s 1) (List.replicate n 0)):=Lib.hid (by unfold lensP;rw[if_pos hN,hn])
 have HOL:Hid ((ordP cs).length=N):=Lib.hid (by rw[ordP_len,hNN])
 have HCL:=Lib.hid hn
 have HNL:=Lib.hid hNN
 have HWR:=Lib.hid (fun W (hW:Reads W A cs)=>wrong_fine A c cs most W hW hb)
 have HUS:=Lib.hid (fun W (hW:Reads W A cs)=>used_any A c cs W (by omega) hW)
 rw[hn]at HWR HUS ⊢
 rw[hNN]at hm hN
 have HMM:=Lib.hid hm
 have t1:decide ((N:Int)<2)=true:=decide_eq_true (by omega)
 have HMK:=Lib.hid hmk
 clear hA hb hm h3 h4 h2 hi hz0 hz1 hz2 hn hNN hmk
 go_enter Tryz.func118,Tryz.ntmps118
 go_wp2_with (first|(go_at_call 141;refine(HWR.out _ HA.out).mono ?_;rintro e w1 ⟨rfl,hb1⟩;rw[hE];have HB1:=Lib.hid hb1;have hmk1:=HMK.out w1;clear hb1)|(go_at_call 142;have hRD:Reads (w1.alloc (.cells (cellsI (List.replicate n 0)) 3)) A cs:=(HA.out.below HB1.out).below ((Below.refl _ _).alloc (Nat.le_refl _) _);refine(HUS.out _ hRD).mono ?_;rintro e w2 ⟨A2,cap2,rfl,hb2,hc2⟩;rw[HNL.out]))
 have hor:=OrdAt.of hc2
 have hsz:(w1.alloc (.cells (cellsI (List.replicate n 0)) 3)).heap.size=w1.heap.size+1:=by
  show(Array.push _ _).size=_
  simp
 rw[hsz]at hor
 have hrow:RowI w2 w1.heap.size (List.replicate n 0):=RowI.below (w:=w1.alloc (.cells (cellsI (List.replicate n 0)) 3)) (heap_new w1 _) hb2
 have HR2:=Lib.hid hrow
 have HO2:=Lib.hid hor
 have HB2:Hid (Below w1.heap.size w1 w2):=Lib.hid (((Below.refl _ _).alloc (Nat.le_refl _) _).trans (hb2.mono (by rw[hsz];omega)))
 clear hc2 hor hb2 hrow hRD hsz
 go_loopw [35] (fun i wr=>∃ k:Nat,k≤N∧i= .int .i64 k∧RowI wr w1.heap.size (((ordP cs).take k).foldl (fun o s=>o.set s 1) (List.replicate n 0))∧w2.grownBy wr (some w1.heap.size)) (fun i _=>N - (intOf i).toNat)
 case atStart=>exact⟨0,Nat.zero_le _,rfl,HR2.out,World.grownBy.refl _ _⟩
 case round =>
  obtain⟨k,hk,rfl,hrow,hg⟩:=hrel
  have HR:=Lib.hid hrow
  have HG:=Lib.hid hg
  have HO:=Lib.hid (HO2.out.far hg (Nat.lt_succ_self _))
  clear hrow hg
  by_cases hlt:k<N
  ·have q1:decide ((k:Int)<(N:Int))=true:=decide_eq_true (by omega)
   have hk':k<(ordP cs).length:=by rw[HOL.out];exact hlt
   obtain⟨g,hAg,hbg,hlg,hcell⟩:=HO.out k hk'
   subst hAg
   have hs:(ordP cs)[k]<n:=by rw[← HCL.out];exact ordP_lt cs _ (List.getElem_mem _)
   have htk:(ordP cs).take (k+1)=(ordP cs).take k ++ [(ordP cs)[k]]:=List.take_succ_eq_append_getElem hk'
   obtain⟨s,hse⟩:∃ s,(ordP cs)[k]=s:=⟨_,rfl⟩
   rw[hse]at hcell hs htk
   obtain⟨o,ho⟩:∃ o,((ordP cs).take k).foldl (fun o s=>o.set s 1) (List.replicate n (0:Int))=o:=⟨_,rfl⟩
   have hol:o.length=n:=by rw[← ho,set_len];simp
   have hnx:((ordP cs).take (k+1)).foldl (fun o s=>o.set s 1) (List.replicate n (0:Int))=o.set s 1:=by rw[htk,List.foldl_append,ho];rfl
   rw[ho]at HR
   have hso:s<o.length:=by rw[hol];exact hs
   obtain⟨hc1,hf1⟩:=HR.out.cell s hso
   have hlB:w1.heap.size<wr.heap.size:=(Array.getElem?_eq_some_iff.1 HR.out).1
   have HN:=Lib.hid hnx
   clear hse htk ho hol hnx
   go_wp2
   go_roundw
   case rel=>exact⟨k+1,by omega,by go_num,by rw[HN.out];exact HR.out.set s 1,HG.out.trans (grown_set _ _ _ _)⟩
   case measure=>simp[intOf];omega
  ·obtain rfl:k=N:=by omega
   have q1:decide ((k:Int)<(k:Int))=false:=decide_eq_false (by omega)
   have HL2:Hid (RowI wr w1.heap.size (lensP cs most)):=Lib.hid (by
    rw[HLP.out]
    have:(ordP cs).take k=ordP cs:=List.take_of_length_le (by rw[HOL.out];exact Nat.le_refl _)
    rw[this]at HR
    exact HR.out)
   have hlB:Hid (w1.heap.size≤w2.heap.size):=Lib.hid HB2.out.size
   go_wp2
   go_ret2
   exact⟨_,rfl,(HB1.out.trans (HB2.out.mono HB1.out.size)).grown HG.out (Nat.le_trans HB1.out.size hlB.out) (fun r e=>by cases e;exact HB1.out.size),HL2.out,HB1.out.size⟩
end Go.Proofs.YtgiogemkomgkhaaGreatDoor.Mg
namespace Go.Proofs.YtgiogemkomgkhaaGreatDoor.Mg
open Go.ChangeShapes Go.WideShapes Go.ChangeAt Go.RowKit Go.Shelf Go.Proofs
theorem leavesP_get (cs:List Int) (k:Nat) (h:k<(ordP cs).length):(leavesP cs)[k]?=some (cs.getD (ordP cs)[k] 0,[k]):=by
 unfold leavesP
 rw[List.getElem?_mapIdx,List.getElem?_eq_getElem h]
 rfl
theorem news_two' (w:World) (X:Obj) (v u:Value) (t:TypeId):∀ j x,[v,u][j]?=some x→((w.alloc X).alloc (.cells #[v,u] t)).cell? ((⟨w.heap.size+1,0,none⟩:Addr).add j)=some x:=by
 have h:=news_two (w.alloc X) v u t
 have hsz:(w.alloc X).heap.size=w.heap.size+1:=by
  show(Array.push _ _).size=_
  simp
 rw[hsz]at h
 exact h
theorem ok_bounds {N j:Nat} {p:Int×List Nat} (h:PackOk N j p) (hj:j≤14):(0≤p.1∧p.1≤2 ^ 60)∧(1≤p.2.length∧p.2.length≤500000):=by
 obtain⟨h1,h2,h3,h4,_⟩:=h
 have h5:2 ^ j≤2 ^ 14:=Nat.pow_le_pow_right (by omega) hj
 have h6:(2:Int) ^ j≤2 ^ 14:=by exact_mod_cast h5
 refine⟨⟨h1,?_⟩,h3,?_⟩<;>omega
theorem flat_len (K:Nat):∀ l:List PV,(∀ p∈l,p.ins.length≤K)→(l.flatMap PV.ins).length≤l.length*K
 | [],_=>Nat.zero_le _
 | p::r,h=>by
  have h1:=flat_len K r (fun q hq=>h q (List.mem_cons_of_mem _ hq))
  have h2:=h p List.mem_cons_self
  rw[List.flatMap_cons,List.length_append,List.length_cons,Nat.succ_mul]
  omega
theorem Rd.ne_row {w:World} {g o c n:Nat} {xs:List Value} {B:Nat} {l:List Int} (h:Rd w 219 2 (.slice (some ⟨g,o,none⟩) n c) n xs) (hr:RowI w B l):g≠B:=by
 rintro rfl
 obtain⟨_,g',o',c',cur,fr,h2,_,h4,_⟩:=h
 cases h2
 unfold RowI at hr
 rw[h4]at hr
 simp only[Option.some.injEq,Obj.cells.injEq]at hr
 exact absurd hr.2.1 (by decide)
theorem taken_eq (cs:List Int) (ps:List PV) (j M:Nat) (most:Int) (hp:ps.map PV.pure=levelP cs j) (hj:most - 1=j) (hM:2*(usedL cs).length - 2=M):takenP cs most=(ps.take M).flatMap PV.ins:=by
 have h1:most.toNat - 1=j:=by omega
 unfold takenP
 rw[h1,hM,← hp,← List.map_take,List.flatMap_map]
 rfl
theorem rd_new (w:World) (v:Value):Rd (w.alloc (.cells #[v] 3)) 3 1 (.slice (some ⟨w.heap.size,0,none⟩) 1 1) 1 [v] :=
 ⟨rfl,w.heap.size,0,1,#[v],(0,0),rfl,Nat.le_refl _,heap_new w _,fun j hj=>by
  have hj':j<1:=by simpa using hj
  obtain rfl:j=0:=by omega
  rfl⟩
set_option maxHeartbeats 8000000 in
set_option maxRecDepth 200000 in
theorem lengths_many (A:Option Addr) (c:Nat) (cs:List Int) (most:Int) (w:World) (hA:Reads w A cs) (hb:badArg cs most=false) (hN:2≤(usedL cs).length) (hm:((usedL cs).length:Int)≤(2:Int) ^ most.toNat) :
  Calls Tryz.prog 118 #[.slice A cs.length c,.int .i64 most] w fun e w'=>∃ B,e= .returned (.tuple #[.slice (some ⟨B,0,none⟩) cs.length cs.length,.int .i64 0])∧Below w.heap.size w w'∧RowI w' B (lensP cs most)∧w.heap.size≤B:=by
 have HA:=Lib.hid hA
 obtain⟨h1,h2,h3,h4⟩:=badArg_facts hb
 have hE:wrongE cs most=0:=by unfold wrongE;rw[if_neg (by rw[hb];simp),if_neg (by omega)]
 have HBA:=Lib.hid h2
 obtain⟨n,hn⟩:∃ n,cs.length=n:=⟨_,rfl⟩
 obtain⟨N,hNN⟩:∃ N,(usedL cs).length=N:=⟨_,rfl⟩
 obtain⟨i0,hi,hz0,hz1,hz2⟩:=info_parts info_int
 have hmk:∀ W:World,(Instr.makeSlice 55 (.int .i64 n) (.int .i64 n)).run Tryz.prog W= .ok (.slice (some ⟨W.heap.size,0,none⟩) n n) (W.alloc (.cells (cellsI (List.replicate n 0)) 3)):=fun W=>by
  have:=run_make (P:=Tryz.prog) W 55 3 i0 (.int .i64 0) Tryz.underlying55 hi hz0 .i64 .i64 n n (by omega) (by omega) (by rw[hz2];omega) (by omega)
  rw[← made_cells]
  simpa[hz1,Value.cells] using this
 have HLP:Hid (lensP cs most=outP n (ordP cs) (takenP cs most)):=Lib.hid (by unfold lensP;rw[if_neg (by omega),hn])
 have HOL:Hid ((ordP cs).length=N):=Lib.hid (by rw[ordP_len,hNN])
 have hNn:N≤n:=by
  have:=idx_len cs cs.length
  have h5:(usedL cs).length=(idxTo cs cs.length).length:=by unfold usedL;rw[List.length_mergeSort]
  omega
 have HCL:=Lib.hid hn
 have HNL:=Lib.hid hNN
 have HWR:=Lib.hid (fun W (hW:Reads W A cs)=>wrong_fine A c cs most W hW hb)
 have HUS:=Lib.hid (fun W (hW:Reads W A cs)=>used_any A c cs W (by omega) hW)
 have HMP:Hid (1≤most∧most≤15):=Lib.hid ⟨h3,h4⟩
 rw[hn]at HWR HUS ⊢
 rw[hNN]at hm hN
 have HMM:=Lib.hid hm
 have HMK:=Lib.hid hmk
 have hpi:Tryz.prog.info? 219=some pk_ti:=by kernel_rfl
 have hp0:pk_ti.zero=some (.agg #[.int .i64 0,.slice none 0 0]):=by kernel_rfl
 have hp1:pk_ti.size=2:=by kernel_rfl
 have hp2:pk_ti.bytes=32:=by kernel_rfl
 have t1:decide ((N:Int)<2)=false:=decide_eq_false (by omega)
 have hn3:n≤288:=by omega
 obtain⟨gc,oc,hAe,hx9⟩:=hA 0 (by omega)
 clear hx9
 subst hAe
 have HCC:Hid (∀ j (h:j<cs.length),w.cell? ⟨gc,oc+j,none⟩=some (.int .i64 cs[j])):=Lib.hid (fun j h=>by
  obtain⟨g',o',e,hc⟩:=hA j h
  cases e
  exact hc)
 clear hA hb hm h1 h3 h4 h2 hi hz0 hz1 hz2 hn hNN hmk
 go_enter Tryz.func118,Tryz.ntmps118
 go_wp2_with (first|(go_at_call 141;refine(HWR.out _ HA.out).mono ?_;rintro e w1 ⟨rfl,hb1⟩;rw[hE];have HB1:=Lib.hid hb1;have hmk1:=HMK.out w1;clear hb1)|(go_at_call 142;have hRD:Reads (w1.alloc (.cells (cellsI (List.replicate n 0)) 3)) (some ⟨gc,oc,none⟩) cs:=(HA.out.below HB1.out).below ((Below.refl _ _).alloc (Nat.le_refl _) _);refine(HUS.out _ hRD).mono ?_;rintro e w2 ⟨A2,cap2,rfl,hb2,hc2⟩;rw[HNL.out]))
 have hor:=OrdAt.of hc2
 have hsz:(w1.alloc (.cells (cellsI (List.replicate n 0)) 3)).heap.size=w1.heap.size+1:=by
  show(Array.push _ _).size=_
  simp
 rw[hsz]at hor
 have hrow:RowI w2 w1.heap.size (List.replicate n 0):=RowI.below (w:=w1.alloc (.cells (cellsI (List.replicate n 0)) 3)) (heap_new w1 _) hb2
 have HR2:=Lib.hid hrow
 have HO2:=Lib.hid hor
 have HB2:Hid (Below w1.heap.size w1 w2):=Lib.hid (((Below.refl _ _).alloc (Nat.le_refl _) _).trans (hb2.mono (by rw[hsz];omega)))
 have HS2:Hid (w1.heap.size+1≤w2.heap.size):=Lib.hid (by have:=hb2.size;rw[hsz]at this;exact this)
 obtain⟨go,hAe,hbo,hlo,hx9⟩:=hor 0 (by rw[HOL.out];omega)
 clear hx9
 subst hAe
 have HBO:=Lib.hid hbo
 have HCO:Hid (∀ j (h:j<(ordP cs).length),w2.cell? ⟨go,j,none⟩=some (.int .i64 ((ordP cs)[j]:Nat))):=Lib.hid (fun j h=>by
  obtain⟨g',e,_,_,hc⟩:=HO2.out j h
  cases e
  exact hc)
 have HBW2:Hid (Below w.heap.size w w2):=Lib.hid (HB1.out.trans (HB2.out.mono HB1.out.size))
 clear hc2 hor hb2 hrow hRD hsz hbo
 go_loopw [11,46] (fun v i wr=>∃ (k:Nat) (qs':List PV),k≤N∧i= .int .i64 k∧qs'.length=k∧qs'.map PV.pure=(leavesP cs).take k∧wr.ownsRow w2.heap.size 219 2 v k (pcells qs')∧Ins wr qs'∧Low w2.heap.size qs'∧Below w2.heap.size w2 wr) (fun _ i _=>N - (intOf i).toNat)
 case atStart=>exact⟨0,[],Nat.zero_le _,rfl,rfl,by simp,World.ownsRow_nil _ _ _ _,fun q h=>(by cases h),fun q h=>(by cases h),Below.refl _ _⟩
 case round =>
  obtain⟨k,qs',hk,rfl,hl,hpu,hown,hins,hlw,hbw⟩:=hrel
  have HP:=Lib.hid hpu
  have HS:=Lib.hid hins
  have HL:=Lib.hid hl
  have HLW:=Lib.hid hlw
  have HB:=Lib.hid hbw
  have hB3:=hbw.size
  have hkb:k≤288:=by omega
  clear hl hpu hins hlw hbw
  by_cases hlt:k<N
  ·have q1:decide ((k:Int)<(N:Int))=true:=decide_eq_true (by omega)
   have hk':k<(ordP cs).length:=by rw[HOL.out];exact hlt
   have hcell:=(HB.out.cell (World.block_lt_of_cell? w2 _ (HCO.out k hk'))).trans (HCO.out k hk')
   have hs:(ordP cs)[k]<cs.length:=ordP_lt cs _ (List.getElem_mem _)
   have hcc:=((HBW2.out.trans (HB.out.mono HBW2.out.size)).cell (World.block_lt_of_cell? w _ (HCC.out _ hs))).trans (HCC.out _ hs)
   have hlv:=leavesP_get cs k hk'
   have hgd:cs.getD (ordP cs)[k] 0=cs[(ordP cs)[k]]:=by rw[List.getD_eq_getElem?_getD,List.getElem?_eq_getElem hs];rfl
   rw[hgd]at hlv
   obtain⟨x,hx⟩:∃ x,cs[(ordP cs)[k]]=x:=⟨_,rfl⟩
   rw[hx]at hcc hlv
   have hsn:(ordP cs)[k]<n:=by rw[← HCL.out];exact hs
   obtain⟨s,hse⟩:∃ s,(ordP cs)[k]=s:=⟨_,rfl⟩
   rw[hse]at hcell hcc hsn
   have HLV:=Lib.hid hlv
   clear hx hse hlv hgd
   go_wp2_with (at_builtin;refine wpList_append_own _ rfl _ _ 217 rfl w2.heap.size 219 pk_ti (.agg #[.int .i64 0,.slice none 0 0]) 2 32 Tryz.underlying217 hpi hp0 hp1 hp2 rfl (by decide) _ _ _ rfl ((hown.alloc _).alloc _) ⟨wr.heap.size+1,0,none⟩ 1 1 [.int .i64 x,.slice (some ⟨wr.heap.size,0,none⟩) 1 1] rfl rfl ?c1 ?c2 ?c3 ?c4 ?c5 ?_)
   case c1=>exact news_two' _ _ _ _ _
   case c2=>exact two_one _ _ _ _
   case c3=>unfold maxLen;omega
   case c4=>omega
   case c5=>simp;omega
   intro v' w3 hown1 hg1 _
   have HO3:=Lib.hid hown1
   have hsz1:w2.heap.size≤(wr.alloc (.cells #[.int .i64 k] 3)).heap.size:=by
    show _≤(Array.push _ _).size
    simp
    omega
   have hsz2:w2.heap.size≤((wr.alloc (.cells #[.int .i64 k] 3)).alloc (.cells #[.int .i64 x,.slice (some ⟨wr.heap.size,0,none⟩) 1 1] 219)).heap.size:=by
    show _≤(Array.push (Array.push _ _) _).size
    simp
    omega
   have HI3:Hid (Ins w3 (qs' ++ [⟨x,.slice (some ⟨wr.heap.size,0,none⟩) 1 1,[k]⟩])):=Lib.hid (by
    have h1:Ins (wr.alloc (.cells #[.int .i64 k] 3)) (qs' ++ [⟨x,.slice (some ⟨wr.heap.size,0,none⟩) 1 1,[k]⟩]):=by
     refine(HS.out.below ((Below.refl _ _).alloc (Nat.le_refl _) _)).append fun q hq=>?_
     obtain rfl:=List.mem_singleton.1 hq
     exact rd_new wr _
    exact(h1.below ((Below.refl _ _).alloc (Nat.le_refl _) _)).grown ((hown.alloc _).alloc _) hg1)
   have HB4:Hid (Below w2.heap.size w2 w3):=Lib.hid (((HB.out.alloc hB3 _).alloc hsz1 _).grown hg1 hsz2 (fun r e=>(hown.lt r e).1))
   have HP3:Hid ((qs' ++ [(⟨x,.slice (some ⟨wr.heap.size,0,none⟩) 1 1,[k]⟩:PV)]).map PV.pure=(leavesP cs).take (k+1)):=Lib.hid (by
    rw[List.map_append,HP.out,List.take_add_one,HLV.out]
    rfl)
   have HL3:Hid (Low w2.heap.size (qs' ++ [⟨x,.slice (some ⟨wr.heap.size,0,none⟩) 1 1,[k]⟩])):=Lib.hid (fun q hq=>by
    rcases List.mem_append.1 hq with h|h
    ·exact HLW.out q h
    ·obtain rfl:=List.mem_singleton.1 h
     exact⟨wr.heap.size,0,_,_,rfl,hB3⟩)
   clear hown hown1 hg1 hsz1 hsz2
   go_wp2
   go_roundw
   case rel=>exact⟨k+1,_,by omega,by go_num,by rw[List.length_append,HL.out];rfl,HP3.out,by rw[pcells_append];exact HO3.out,HI3.out,HL3.out,HB4.out⟩
   case measure=>simp[intOf];omega
  ·obtain rfl:k=N:=by omega
   have q1:decide ((k:Int)<(k:Int))=false:=decide_eq_false (by omega)
   have HP3:Hid (qs'.map PV.pure=levelP cs 0):=Lib.hid (by
    rw[HP.out]
    exact List.take_of_length_le (by rw[leavesP_len,HNL.out];exact Nat.le_refl _))
   have HRL:Hid (Rd wr 219 2 u11 qs'.length (pcells qs')):=Lib.hid (by rw[HL.out];exact Rd.own hown (own_some hown (by omega)))
   clear hown hlt hk
   obtain⟨m1,hm1⟩:∃ m1:Nat,most - 1=m1:=⟨(most - 1).toNat,by have:=HMP.out;omega⟩
   have hm15:m1≤14:=by have:=HMP.out;omega
   have w5:IntKind.i64.wrap (most - 1)=m1:=by rw[IntKind.wrap_i64];have:=HMP.out;omega
   have HM1:=Lib.hid hm1
   clear hm1
   have hlen0:qs'.length≤288:=by rw[HL.out];exact hkb
   have hlen2:2≤qs'.length:=by rw[HL.out];exact hN
   have HRS:Hid (∀ wl,Below wr.heap.size wr wl→Rd wl 219 2 u11 qs'.length (pcells qs')∧Ins wl qs'):=Lib.hid (fun wl h=>⟨HRL.out.below h,HS.out.below h⟩)
   have HPC:Hid (∀ (j:Nat) (v:Value) (ps:List PV) (wl:World),j≤14→ps.map PV.pure=levelP cs j→Rd wl 219 2 v ps.length (pcells ps)→Ins wl ps →
     Calls Tryz.prog 144 #[v] wl fun e w'=>∃ v' qs',e= .returned v'∧w'.ownsRow wl.heap.size 219 2 v' (List.length qs') (pcells qs')∧Ins w' qs'∧qs'.map PV.pure=pairsP (ps.map PV.pure)∧Low wl.heap.size qs'∧Below wl.heap.size wl w'):=Lib.hid (fun j v ps wl hj hp hr hi=>by
    have hl:=levelP_high cs j
    rw[← hp,List.length_map,HNL.out]at hl
    have hok:∀ q∈ps,PackOk (usedL cs).length j q.pure:=fun q hq=>levelP_ok cs HBA.out j _ (by rw[← hp];exact List.mem_map_of_mem hq)
    exact pairs_calls v ps wl hr hi (by omega) (fun q hq=>(ok_bounds (hok q hq) hj).1) (fun q hq=>(ok_bounds (hok q hq) hj).2))
   have HJC:Hid (∀ (j:Nat) (ps:List PV) (wl:World) (v4:Value) (qs4:List PV) (w4:World),ps.map PV.pure=levelP cs j→Below wr.heap.size wr wl→w4.ownsRow wl.heap.size 219 2 v4 qs4.length (pcells qs4)→Ins w4 qs4→qs4.map PV.pure=pairsP (ps.map PV.pure)→Below wl.heap.size wl w4 →
     Calls Tryz.prog 143 #[u11,v4] w4 fun e w'=>∃ v' ps',e= .returned v'∧w'.ownsRow w4.heap.size 219 2 v' (List.length ps') (pcells ps')∧Ins w' ps'∧ps'.map PV.pure=joinP (qs'.map PV.pure) (qs4.map PV.pure)∧(∀ q∈ps',q∈qs'++qs4)∧Below w4.heap.size w4 w'):=Lib.hid (fun j ps wl v4 qs4 w4 hp hb ho hi hpp hb4=>by
    have hl:=levelP_high cs j
    have hl0:=levelP_low0 cs j
    rw[← hp,List.length_map,HNL.out]at hl hl0
    have hl4:qs4.length=ps.length/2:=by rw[← List.length_map (f:=PV.pure),hpp,pairsP_len,List.length_map]
    have hx:=HRS.out w4 (hb.trans (hb4.mono hb.size))
    exact joined_calls u11 v4 qs' qs4 w4 hx.1 (Rd.own ho (own_some ho (by omega))) hx.2 hi (by omega) (by omega) (by omega))
   clear hlen0 hlen2
   go_wp2
   generalize wr=wA at *
   go_loopw [14,65] (fun v i wl=>∃ (j:Nat) (ps:List PV),j≤m1∧i= .int .i64 j∧ps.map PV.pure=levelP cs j∧Rd wl 219 2 v ps.length (pcells ps)∧Ins wl ps∧Low w2.heap.size ps∧Below wA.heap.size wA wl) (fun _ i _=>m1 - (intOf i).toNat)
   case atStart=>exact⟨0,qs',Nat.zero_le _,rfl,HP3.out,HRL.out,HS.out,HLW.out,Below.refl _ _⟩
   case round =>
    obtain⟨j,ps,hj,rfl,hpu,hrd,hins,hlw,hbw⟩:=hrel
    have HPP:=Lib.hid hpu
    have HRP:=Lib.hid hrd
    have HIP:=Lib.hid hins
    have HLP2:=Lib.hid hlw
    have HBL:=Lib.hid hbw
    have hB5:=hbw.size
    clear hpu hrd hins hlw hbw
    by_cases hjl:j<m1
    ·have q2:decide ((j:Int)<(m1:Int))=true:=decide_eq_true (by omega)
     have hj14:j≤14:=by omega
     go_wp2_with (first|(go_at_call 144;refine(HPC.out j _ ps _ hj14 HPP.out HRP.out HIP.out).mono ?_;rintro e w4 ⟨v4,qs4,rfl,ho4,hi4,hp4,hl4,hb4⟩;have HO4:=Lib.hid ho4;have HI4:=Lib.hid hi4;have HP4:=Lib.hid hp4;have HL4:=Lib.hid hl4;have HB4:=Lib.hid hb4;clear ho4 hi4 hp4 hl4 hb4)|(go_at_call 143;refine(HJC.out j ps _ _ qs4 _ HPP.out HBL.out HO4.out HI4.out HP4.out HB4.out).mono ?_;rintro e w5 ⟨v5,ps5,rfl,ho5,hi5,hp5,hm5,hb5⟩;have HO5:=Lib.hid ho5;have HI5:=Lib.hid hi5;have HP5:=Lib.hid hp5;have HM5:=Lib.hid hm5;have HB5:=Lib.hid hb5;clear ho5 hi5 hp5 hm5 hb5))
     have HLX:Hid (Low w2.heap.size ps5):=Lib.hid (fun q hq=>by
      rcases List.mem_append.1 (HM5.out q hq) with h|h
      ·exact HLW.out q h
      ·obtain⟨g,o,n1,c1,e1,e2⟩:=HL4.out q h
       exact⟨g,o,n1,c1,e1,Nat.le_trans hB3 (Nat.le_trans hB5 e2)⟩)
     have HBX:Hid (Below wA.heap.size wA w5):=Lib.hid ((HBL.out.trans (HB4.out.mono hB5)).trans (HB5.out.mono (Nat.le_trans hB5 HB4.out.size)))
     have HPX:Hid (ps5.map PV.pure=levelP cs (j+1)):=Lib.hid (by
      rw[HP5.out,HP4.out,HP3.out,HPP.out]
      rfl)
     have HRX:Hid (Rd w5 219 2 v5 ps5.length (pcells ps5)):=Lib.hid (Rd.own HO5.out (own_some HO5.out (by
      have h1:=levelP_low0 cs (j+1)
      rw[← HPX.out,List.length_map,HNL.out]at h1
      omega)))
     go_wp2
     go_roundw
     case rel=>exact⟨j+1,ps5,by omega,by go_num,HPX.out,HRX.out,HI5.out,HLX.out,HBX.out⟩
     case measure=>simp[intOf];omega
    ·obtain rfl:j=m1:=by omega
     have q2:decide ((j:Int)<(j:Int))=false:=decide_eq_false (by omega)
     generalize wr=wB at *
     obtain⟨gl,ol,cl,hue,hcl,hcsl⟩:=HRP.out.pack
     have HCL2:=Lib.hid hcsl
     have HUE:=Lib.hid hue
     have hlow:=levelP_low cs j 1 (by
      rw[HNL.out]
      have h1:=HMM.out
      have h2:=HM1.out
      have h3:most.toNat=j+1:=by omega
      rw[h3]at h1
      exact_mod_cast h1)
     rw[← HPP.out,List.length_map,HNL.out]at hlow
     obtain⟨M,hM⟩:∃ M,2*k - 2=M:=⟨_,rfl⟩
     have HMQ:=Lib.hid hM
     have hMl:M≤ps.length:=by omega
     have hM1:2*(k:Int) - 2=(M:Int):=by omega
     have hMb:M≤574:=by omega
     have HM2:=Lib.hid hM1
     have w6:IntKind.i64.wrap (2*(k:Int))=2*(k:Int):=by rw[IntKind.wrap_i64];omega
     have w7:IntKind.i64.wrap (2*(k:Int) - 2)=(M:Int):=by rw[IntKind.wrap_i64];omega
     have w8:(M:Int)≤(cl:Int):=by omega
     subst hue
     have HRB:Hid (RowI wB w1.heap.size (List.replicate n 0)):=Lib.hid ((HR2.out.below HB.out).below (HBL.out.mono (by exact Nat.le_refl _)))
     have HSB:Hid (w2.heap.size≤wB.heap.size):=Lib.hid (Nat.le_trans hB3 hB5)
     have HOB:Hid (∀ (wx:World),wB.grownBy wx (some w1.heap.size)→∀ i (h:i<(ordP cs).length),wx.cell? ⟨go,i,none⟩=some (.int .i64 ((ordP cs)[i]:Nat))):=Lib.hid (fun wx hg i h=>by
      have h0:=HCO.out i h
      have h1:=((HB.out.trans (HBL.out.mono hB3)).cell (World.block_lt_of_cell? w2 _ h0)).trans h0
      exact(hg.cell_far ⟨go,i,none⟩ (Nat.lt_of_lt_of_le hlo HSB.out) (fun e=>by
       have e3:go=w1.heap.size:=Option.some.inj e
       have:=HBO.out
       omega)).trans h1)
     have HLB:Hid (∀ (wx:World),wB.grownBy wx (some w1.heap.size)→∀ i (h:i<ps.length),wx.cell? ⟨gl,ol+i*2,none⟩=some (.int .i64 ps[i].cost)∧wx.cell? ⟨gl,ol+i*2+1,none⟩=some ps[i].sv):=Lib.hid (fun wx hg i h=>by
      have hne:some gl≠some w1.heap.size:=fun e=>HRP.out.ne_row HRB.out (Option.some.inj e)
      obtain⟨h0,h1⟩:=HCL2.out i h
      rw[show i*2=2*i by omega]
      exact⟨(hg.cell_far ⟨gl,ol+2*i,none⟩ (World.block_lt_of_cell? wB _ h0) hne).trans h0,(hg.cell_far ⟨gl,ol+2*i+1,none⟩ (World.block_lt_of_cell? wB _ h1) hne).trans h1⟩)
     have HOK:Hid (∀ q∈ps,PackOk (usedL cs).length j q.pure):=Lib.hid (fun q hq=>levelP_ok cs HBA.out j _ (by rw[← HPP.out];exact List.mem_map_of_mem hq))
     have HIB:Hid (∀ (wx:World),wB.grownBy wx (some w1.heap.size)→∀ q∈ps,∃ gs os c1,q.sv= .slice (some ⟨gs,os,none⟩) q.ins.length c1∧∀ r (h:r<q.ins.length),wx.cell? ⟨gs,os+r,none⟩=some (.int .i64 (q.ins[r]:Nat))):=Lib.hid (fun wx hg q hq=>by
      obtain⟨g,o,n1,c1,e1,e2⟩:=HLP2.out q hq
      have hr:=HIP.out q hq
      obtain⟨gs,os,c2,e3,_,hcells⟩:=hr.cell
      rw[e1]at e3
      cases e3
      refine⟨g,o,c1,e1,fun r h=>?_⟩
      have h0:=hcells r (by rw[List.length_map];exact h)
      rw[List.getElem_map]at h0
      exact(hg.cell_far ⟨g,o+r,none⟩ (World.block_lt_of_cell? wB _ h0) (fun e=>by
       have e3:g=w1.heap.size:=Option.some.inj e
       have:=HS2.out
       omega)).trans h0)
     clear hcsl hM hM1 hlow
     go_wp2
     go_loopw [79] (fun i wr=>∃ (q:Nat),q≤M∧i= .int .i64 q∧RowI wr w1.heap.size (outP n (ordP cs) ((ps.take q).flatMap PV.ins))∧wB.grownBy wr (some w1.heap.size)) (fun i _=>M - (intOf i).toNat)
     case atStart=>exact⟨0,Nat.zero_le _,rfl,HRB.out,World.grownBy.refl _ _⟩
     case round =>
      obtain⟨q,hq,rfl,hrow,hg⟩:=hrel
      have HRW:=Lib.hid hrow
      have HGW:=Lib.hid hg
      clear hrow hg
      by_cases hql:q<M
      ·have q3:decide ((q:Int)<(M:Int))=true:=decide_eq_true (by omega)
       have hqp:q<ps.length:=by omega
       have f0:(0:Int)≤(q:Int):=by omega
       have f1:(q:Int)<(M:Int):=by omega
       obtain⟨hc0,hc1⟩:=HLB.out wr HGW.out q hqp
       have hmem:ps[q]∈ps:=List.getElem_mem hqp
       have hok:=HOK.out _ hmem
       have hib:=fun wx hg=>HIB.out wx hg _ hmem
       have htk:ps.take (q+1)=ps.take q ++ [ps[q]]:=List.take_succ_eq_append_getElem hqp
       have hfl:=flat_len 500000 (ps.take q) (fun p hp=>(ok_bounds (HOK.out p (List.mem_of_mem_take hp)) hm15).2.2)
       have htl:(ps.take q).length≤574:=by rw[List.length_take];omega
       obtain⟨p,hp⟩:∃ p,ps[q]=p:=⟨_,rfl⟩
       rw[hp]at hc0 hc1 hok hib htk
       obtain⟨pc,pv,pi⟩:=p
       simp only at hc0 hc1 hok hib
       obtain⟨gs,os,c1,hpv,_⟩:=hib wr HGW.out
       subst hpv
       have HIX:Hid (∀ wx,wB.grownBy wx (some w1.heap.size)→∀ r (h:r<pi.length),wx.cell? ⟨gs,os+r,none⟩=some (.int .i64 (pi[r]:Nat))):=Lib.hid (fun wx hg=>by
        obtain⟨g',o',c',e,h⟩:=hib wx hg
        cases e
        exact h)
       have HOX:=Lib.hid hok
       have HTK:=Lib.hid htk
       obtain⟨T,hT⟩:∃ T,(ps.take q).flatMap PV.ins=T:=⟨_,rfl⟩
       rw[hT]at HRW hfl
       have hTl:T.length≤287000000:=by omega
       have hpl:pi.length≤500000:=(ok_bounds hok hm15).2.2
       have HTE:=Lib.hid hT
       clear hmem hok hib htk hfl htl hp hT
       go_wp2
       go_loopw [86] (fun i wx=>∃ (r:Nat),r≤pi.length∧i= .int .i64 r∧RowI wx w1.heap.size (outP n (ordP cs) (T++pi.take r))∧wB.grownBy wx (some w1.heap.size)) (fun i _=>pi.length - (intOf i).toNat)
       case atStart=>exact⟨0,Nat.zero_le _,rfl,by rw[List.take_zero,List.append_nil];exact HRW.out.below ((Below.refl _ _).alloc (Nat.le_refl _) _),HGW.out.trans (World.grownBy_alloc _ _ _)⟩
       case round =>
        obtain⟨r,hr,rfl,hrow,hg⟩:=hrel
        have HRX:=Lib.hid hrow
        have HGX:=Lib.hid hg
        clear hrow hg
        by_cases hrl:r<pi.length
        ·have q4:decide ((r:Int)<(pi.length:Int))=true:=decide_eq_true (by omega)
         have hci:=HIX.out _ HGX.out r hrl
         have hiN:pi[r]<(ordP cs).length:=by rw[HOL.out,← HNL.out];exact HOX.out.2.2.2.2 _ (List.getElem_mem hrl)
         have hco:=HOB.out _ HGX.out _ hiN
         have hsn:(ordP cs)[pi[r]]<n:=by rw[← HCL.out];exact ordP_lt cs _ (List.getElem_mem _)
         have hik:pi[r]<k:=by rw[← HOL.out];exact hiN
         have hbd:=outP_bound n (ordP cs) (T++pi.take r)
         have hol:=outP_len n (ordP cs) (T++pi.take r)
         have hso:(ordP cs)[pi[r]]<(outP n (ordP cs) (T++pi.take r)).length:=by rw[hol];exact hsn
         have hnx:outP n (ordP cs) (T++pi.take (r+1))=(outP n (ordP cs) (T++pi.take r)).set (ordP cs)[pi[r]] ((outP n (ordP cs) (T++pi.take r))[(ordP cs)[pi[r]]]+1):=by
          rw[List.take_succ_eq_append_getElem hrl,← List.append_assoc,outP_snoc,bump_set _ _ _ hiN hso]
         have hbx:=hbd _ (List.getElem_mem hso)
         have hll:(T++pi.take r).length≤287500000:=by rw[List.length_append,List.length_take];omega
         obtain⟨hc2,hf2⟩:=HRX.out.cell _ hso
         obtain⟨o,ho⟩:∃ o,outP n (ordP cs) (T++pi.take r)=o:=⟨_,rfl⟩
         have hlB:w1.heap.size<wr.heap.size:=(Array.getElem?_eq_some_iff.1 HRX.out).1
         obtain⟨x,hx⟩:∃ x,(outP n (ordP cs) (T++pi.take r))[(ordP cs)[pi[r]]]=x:=⟨_,rfl⟩
         rw[hx]at hc2 hbx hnx
         obtain⟨s,hs⟩:∃ s,(ordP cs)[pi[r]]=s:=⟨_,rfl⟩
         obtain⟨ix,hix⟩:∃ ix,pi[r]=ix:=⟨_,rfl⟩
         simp only[hs]at hco hsn hc2 hf2 hnx
         simp only[hix]at hci hco hik
         have w9:IntKind.i64.wrap (x+1)=x+1:=by rw[IntKind.wrap_i64];omega
         have HNX:=Lib.hid hnx
         clear hbd hol hnx hbx hll ho hx
         go_wp2
         go_roundw
         case rel=>exact⟨r+1,by omega,by go_num,by rw[HNX.out];exact HRX.out.set s (x+1),HGX.out.trans (grown_set _ _ _ _)⟩
         case measure=>simp[intOf];omega
        ·have hrr:r=pi.length:=by omega
         have q4:decide ((r:Int)<(pi.length:Int))=false:=decide_eq_false (by omega)
         have HRY:Hid (RowI wr w1.heap.size (outP n (ordP cs) ((ps.take (q+1)).flatMap PV.ins))):=Lib.hid (by
          have h0:=HRX.out
          rw[hrr,List.take_length]at h0
          rw[HTK.out,List.flatMap_append,HTE.out]
          simpa using h0)
         clear hrr
         go_wp2
         go_roundw
         case rel=>exact⟨q+1,by omega,by go_num,HRY.out,HGX.out⟩
         case measure=>simp[intOf];omega
      ·have hqM:q=M:=by omega
       have q3:decide ((q:Int)<(M:Int))=false:=decide_eq_false (by omega)
       have HRY:Hid (RowI wr w1.heap.size (lensP cs most)):=Lib.hid (by
        rw[HLP.out,taken_eq cs ps j M most HPP.out HM1.out (by rw[HNL.out];exact HMQ.out),← hqM]
        exact HRW.out)
       have HBF:Hid (Below w.heap.size w wr):=Lib.hid ((HBW2.out.trans ((HB.out.trans (HBL.out.mono hB3)).mono HBW2.out.size)).grown HGW.out (Nat.le_trans HBW2.out.size HSB.out) (fun r e=>by cases e;exact HB1.out.size))
       clear hqM
       go_wp2
       go_ret2
       exact⟨_,rfl,HBF.out,HRY.out,HB1.out.size⟩
end Go.Proofs.YtgiogemkomgkhaaGreatDoor.Mg
