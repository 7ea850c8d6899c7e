/-
  The segments put together are the headers, the streams, and the tail: plain.
-/
import Derived.Test.YtgiogemkomgkhaaGreatDoorKAmT
import Derived.Test.YtgiogemkomgkhaaGreatDoorKBwAll
import Derived.Test.YtgiogemkomgkhaaGreatDoorKArS
set_option linter.unusedVariables false
set_option linter.unusedSimpArgs false
namespace Go.Proofs.YtgiogemkomgkhaaGreatDoor.Ar
open Go.RowKit Go.Shelf Zp YtgiogemkomgkhaaGreatDoor.Nm Cr Ri Bw
noncomputable def trh:TypeInfo:=(Tryz.prog.info? 84).getD default
theorem trh_info:Tryz.prog.info? 84=some trh:=by kernel_rfl
theorem trh_zero:trh.zero=some (.agg #[.string ⟨#[]⟩,.int .i64 0,.int .i64 0,.int .i64 0,.int .i64 0,.int .i64 0,.int .i64 0,.int .u64 0,.int .u64 0,.int .u32 0,.int .u64 0,.bool false]):=by kernel_rfl
theorem trh_size:trh.size=12:=by kernel_rfl
theorem trh_bytes:trh.bytes=104:=by kernel_rfl
noncomputable def tri:TypeInfo:=(Tryz.prog.info? 3).getD default
theorem tri_info:Tryz.prog.info? 3=some tri:=by kernel_rfl
theorem tri_zero:tri.zero=some (.int .i64 0):=by kernel_rfl
theorem tri_size:tri.size=1:=by kernel_rfl
theorem tri_bytes:tri.bytes=8:=by kernel_rfl
theorem hdL_ones (h:Hd):∀ u∈hdL h,u.oneCell'=true:=by
 intro u hu
 simp only[hdL,List.mem_cons,List.not_mem_nil,or_false]at hu
 rcases hu with rfl|rfl|rfl|rfl|rfl|rfl|rfl|rfl|rfl|rfl|rfl|rfl<;>rfl
theorem hcells (w:World) (h:Hd):∀ (j:Nat) u,(hdL h)[j]?=some u→(w.alloc (.cells (hdL h).toArray 84)).cell? ((⟨w.heap.size,0,none⟩:Addr).add j)=some u:=fun j u hu=>by
 have h2:=(Blk.new w (hdL h).toArray 84).cell j
 have e:((⟨w.heap.size,0,none⟩:Addr).add j)=⟨w.heap.size,j,none⟩:=by
  unfold Addr.add
  split<;>simp_all
 rw[e,h2]
 simpa using hu
theorem icell (w:World) (v:Value):∀ (j:Nat) u,[v][j]?=some u→(w.alloc (.cells #[v] 3)).cell? ((⟨w.heap.size,0,none⟩:Addr).add j)=some u:=fun j u hu=>by
 have h2:=(Blk.new w #[v] 3).cell j
 have e:((⟨w.heap.size,0,none⟩:Addr).add j)=⟨w.heap.size,j,none⟩:=by
  unfold Addr.add
  split<;>simp_all
 rw[e,h2]
 simpa using hu
theorem own_grown {w w':World} {b b2 T T2 s s2 n n2:Nat} {v v2:Value} {xs xs2:List Value} (h:w.ownsRow b T s v n xs) (h2:w.ownsRow b2 T2 s2 v2 n2 xs2) (hT:T≠T2) (hg:w.grownBy w' v2.ownBlock):w'.ownsRow b T s v n xs:=by
 refine⟨h.1,h.2.imp id ?_⟩
 rintro⟨g,cap,cur,rfl,h3,h4,h5⟩
 refine⟨g,cap,cur,rfl,h3,?_,h5⟩
 rw[hg.block g (Array.getElem?_eq_some_iff.1 h4).1 ?_]
 ·exact h4
 ·rcases h2.2 with⟨rfl, -⟩|⟨g2,cap2,cur2,rfl, -,h6, -⟩
  ·exact fun e=>by cases e
  ·intro e
   have e2:g=g2:=Option.some.inj e
   rw[e2,h6]at h4
   cases h4
   exact hT rfl
structure RF where
 (name:ByteArray)
 (t:Tm)
 (data stream:ByteArray)
def rfL (x:RF):List Value:= [.string x.name,.int .i64 x.t.y,.int .i64 x.t.mo,.int .i64 x.t.d,.int .i64 x.t.h,.int .i64 x.t.mi,.int .i64 x.t.s,.string x.data,.string x.stream]
theorem rfL_len (x:RF):(rfL x).length=9:=rfl
structure Ac where
 (s:ByteArray)
 (hs:List Hd)
 (es:List Nat)
def acH (a:Ac) (x:RF):Hd:=headR x.name x.t x.data x.stream a.s.size
def acS (a:Ac) (x:RF):ByteArray:=if (acH a x).kept=true then a.s++locS (acH a x) else a.s++locS (acH a x)++(x.stream++desS (acH a x))
def acN (a:Ac) (x:RF):Ac:=⟨acS a x,a.hs ++ [acH a x],a.es ++ [(acS a x).size]⟩
def acL (l:List RF):Ac:=l.foldl acN ⟨⟨#[]⟩,[],[]⟩
theorem acL_snoc (l:List RF) (x:RF):acL (l ++ [x])=acN (acL l) x:=by simp[acL]
def endsC (l:List Nat):List Value:=l.map fun (n:Nat)=>Value.int .i64 (n:Int)
theorem own_under {w w':World} {b:Nat} {T:TypeId} {size n:Nat} {v:Value} {xs:List Value} (h:w.ownsRow b T size v n xs) (hb:Below w.heap.size w w'):w'.ownsRow b T size v n xs:=by
 obtain⟨h1,h2|⟨g,cap,cur,h3,h4,h5,h6⟩⟩:=h
 ·exact⟨h1,.inl h2⟩
 ·exact⟨h1,.inr ⟨g,cap,cur,h3,h4,(hb.block g (Array.getElem?_eq_some_iff.1 h5).1).trans h5,h6⟩⟩
theorem own_shape {w:World} {base T size n:Nat} {v:Value} {xs:List Value} (h:w.ownsRow base T size v n xs):∃ g c,v= .slice g n c:=by
 rcases h.2 with⟨rfl,rfl⟩|⟨g,cap,cur,rfl, -⟩
 ·exact⟨_,_,rfl⟩
 ·exact⟨_,_,rfl⟩
def ArcAt (fs:List RF) (w:World) (e:Ending) (w':World):Prop :=
 ∃ v6 v7,e= .returned (.tuple #[.string ((acL fs).s++tailS (acL fs).hs),v6,v7])∧w'.ownsRow w.heap.size 84 12 v6 fs.length ((acL fs).hs.flatMap hdL)∧w'.ownsRow w.heap.size 3 1 v7 fs.length (endsC (acL fs).es)∧Below w.heap.size w w'
structure RFok (a:Ac) (x:RF):Prop where
 s:SmallH (acH a x)
 d:x.data.size≤140737488351232
 t:x.stream.size≤1000000000
 z:a.s.size≤2000000000
 l:(locS (acH a x)).size≤1000000
 e:(desS (acH a x)).size≤1000
theorem acL_len (l:List RF):(acL l).hs.length=l.length:=by
 have:∀ (l:List RF) (a:Ac),(l.foldl acN a).hs.length=a.hs.length+l.length:=by
  intro l
  induction l with
  | nil=>intro a;rfl
  | cons x l ih=>intro a;rw[List.foldl_cons,ih];simp[acN];omega
 have h:=this l ⟨⟨#[]⟩,[],[]⟩
 rw[acL,h]
 simp
theorem acL_small (l:List RF) (hf:∀ k x,l[k]?=some x→RFok (acL (l.take k)) x):∀ h∈(acL l).hs,SmallH h:=by
 have:∀ j,j≤l.length→∀ h∈(acL (l.take j)).hs,SmallH h:=by
  intro j
  induction j with
  | zero=>intro _ h hh;simp[acL]at hh
  | succ j ih =>
   intro hj h hh
   have hjl:j<l.length:=by omega
   rw[List.take_succ_eq_append_getElem hjl,acL_snoc]at hh
   rcases List.mem_append.1 hh with h1|h1
   ·exact ih (by omega) h h1
   ·rw[List.mem_singleton.1 h1]
    exact(hf j l[j] (List.getElem?_eq_getElem hjl)).s
 have h:=this l.length (Nat.le_refl _)
 rwa[List.take_length]at h
set_option maxHeartbeats 8000000 in
set_option maxRecDepth 100000 in
theorem refmake_calls (A:Option Addr) (c:Nat) (fs:List RF) (w:World) (hA:Cels w A (fs.flatMap rfL)) (hn:fs.length≤1048576) (hf:∀ k x,fs[k]?=some x→RFok (acL (fs.take k)) x) (hS:(acL fs).s.size≤100000000000000) :
  Calls Tryz.prog 15 #[.slice A fs.length c] w fun e w'=>ArcAt fs w e w':=by
 have HA:=Lib.hid hA
 have HF:=Lib.hid hf
 have HSS:=Lib.hid hS
 have B0:=Lib.hid (Below.refl w.heap.size w)
 obtain⟨n,hn0⟩:∃ n,fs.length=n:=⟨_,rfl⟩
 have HN:=Lib.hid hn0
 rw[hn0]at hn
 rw[hn0]
 clear hA hf hn0 hS
 go_enter Tryz.func15,Tryz.ntmps15
 go_wp2
 go_loopw [5,6,7,8] (fun vs v6 v7 vi wr=>∃ k:Nat,k≤n∧vi= .int .i64 k∧vs= .string (acL (fs.take k)).s∧wr.ownsRow w.heap.size 84 12 v6 k ((acL (fs.take k)).hs.flatMap hdL)∧wr.ownsRow w.heap.size 3 1 v7 k (endsC (acL (fs.take k)).es)∧Below w.heap.size w wr) (fun _ _ _ vi _=>n - (intOf vi).toNat)
 case atStart=>exact⟨0,Nat.zero_le _,rfl,rfl,World.ownsRow_nil _ _ _ _,World.ownsRow_nil _ _ _ _,B0.out⟩
 case round =>
  obtain⟨k,hk,rfl,rfl,hr6,hr7,hbl⟩:=hrel
  have HR:=Lib.hid hr6
  have HO:=Lib.hid hr7
  have HBL:=Lib.hid hbl
  clear hbl B0 hr6 hr7
  by_cases hlt:k<n
  ·have q1:decide ((k:Int)<(n:Int))=true:=decide_eq_true (by omega)
   have q1':decide (k<n)=true:=decide_eq_true hlt
   have hkl:k<fs.length:=by rw[HN.out];exact hlt
   obtain⟨g,o,rfl,hc⟩:=(HA.out.below HBL.out).of rfL_len (by decide) k fs[k] (List.getElem?_eq_getElem hkl)
   have hfk:=HF.out k fs[k] (List.getElem?_eq_getElem hkl)
   have hTK:acL (fs.take (k+1))=acN (acL (fs.take k)) fs[k]:=by rw[List.take_succ_eq_append_getElem hkl,acL_snoc]
   generalize fs[k]=x at hc hfk hTK
   have HS2:Hid ((acL (fs.take (k+1))).s=acS (acL (fs.take k)) x):=Lib.hid (by rw[hTK];rfl)
   have HA2:Hid ((acL (fs.take (k+1))).hs=(acL (fs.take k)).hs ++ [acH (acL (fs.take k)) x]):=Lib.hid (by rw[hTK];rfl)
   have HA3:Hid ((acL (fs.take (k+1))).es=(acL (fs.take k)).es ++ [(acS (acL (fs.take k)) x).size]):=Lib.hid (by rw[hTK];rfl)
   clear hTK
   generalize acL (fs.take k)=ac at *
   obtain⟨sh,hd,hst,hz,hl,he⟩:=hfk
   have HSH:=Lib.hid sh
   have hhd:=fun W=>refhead_calls x.name x.data x.stream x.t.y x.t.mo x.t.d x.t.h x.t.mi x.t.s ac.s.size W sh.f.ok.n hd (by omega) (by omega)
   have hlc:=fun W=>reflocal_calls (acH ac x) W sh.f.ok sh.f.g sh.b
   have hde:=fun W=>refdescr_any (acH ac x) W sh.f.ok sh.f.g sh.b
   have hSZ:acS ac x=if (acH ac x).kept=true then ac.s++locS (acH ac x) else ac.s++locS (acH ac x)++(x.stream++desS (acH ac x)):=rfl
   have hHD:headR x.name ⟨x.t.y,x.t.mo,x.t.d,x.t.h,x.t.mi,x.t.s⟩ x.data x.stream ac.s.size=acH ac x:=rfl
   simp only[hHD]at hhd
   obtain⟨h,hh⟩:∃ h,acH ac x=h:=⟨_,rfl⟩
   rw[hh]at hlc hde hhd HA2 hSZ hl he
   clear hh hHD sh
   obtain⟨nm,⟨ty,tmo,td,th,tmi,ts⟩,da,st⟩:=x
   obtain⟨S,hS⟩:∃ S,ac.s=S:=⟨_,rfl⟩
   rw[hS]at hSZ hhd hz
   rw[hS]
   clear hS
   obtain⟨LS,hLS⟩:∃ LS,locS h=LS:=⟨_,rfl⟩
   obtain⟨DS,hDS⟩:∃ DS,desS h=DS:=⟨_,rfl⟩
   rw[hLS]at hSZ hlc hl
   rw[hDS]at hSZ hde he
   clear hLS hDS
   obtain⟨name,⟨y,mo,d,hh,mi,sx⟩,packed,size,sum,pos,kept⟩:=h
   simp only at hd hst hhd hSZ
   simp only[Hd.val]at hlc hde hhd
   have i0:(0:Int)≤(k:Int):=by omega
   have i1:(k:Int)<(n:Int):=by omega
   have HH:Hid (∀ W,Calls Tryz.prog 29 #[.agg #[.string nm,.int .i64 ty,.int .i64 tmo,.int .i64 td,.int .i64 th,.int .i64 tmi,.int .i64 ts,.string da,.string st],.int .i64 (S.size:Int)] W fun e w'=>e= .returned (.agg #[.string name,.int .i64 y,.int .i64 mo,.int .i64 d,.int .i64 hh,.int .i64 mi,.int .i64 sx,.int .u64 packed,.int .u64 size,.int .u32 sum,.int .u64 pos,.bool kept])∧Below W.heap.size W w'):=Lib.hid hhd
   have HL:Hid (∀ W,Calls Tryz.prog 30 #[.agg #[.string name,.int .i64 y,.int .i64 mo,.int .i64 d,.int .i64 hh,.int .i64 mi,.int .i64 sx,.int .u64 packed,.int .u64 size,.int .u32 sum,.int .u64 pos,.bool kept]] W fun e w'=>e= .returned (.string LS)∧Below W.heap.size W w'):=Lib.hid hlc
   have HD:Hid (∀ W,Calls Tryz.prog 31 #[.agg #[.string name,.int .i64 y,.int .i64 mo,.int .i64 d,.int .i64 hh,.int .i64 mi,.int .i64 sx,.int .u64 packed,.int .u64 size,.int .u32 sum,.int .u64 pos,.bool kept]] W fun e w'=>e= .returned (.string DS)∧Below W.heap.size W w'):=Lib.hid hde
   have HSZ:=Lib.hid hSZ
   clear hhd hlc hde hSZ
   have c0':=hc 0 _ rfl
   have hgw:=World.block_lt_of_cell? _ _ c0'
   obtain⟨U,f,HAB⟩:=above wr.heap.size wr
   have cu:∀ u j v,(rfL ⟨nm,⟨ty,tmo,td,th,tmi,ts⟩,da,st⟩)[j]?=some v→(f u).cell? ⟨g,o+k*9+j,none⟩=some v:=fun u j v hv=>((HAB.below u).cell (p:=⟨g,o+k*9+j,none⟩) (World.block_lt_of_cell? _ _ (hc j v hv))).trans (hc j v hv)
   have d0:∀ u,(f u).cell? ⟨g,o+k*9+0,none⟩=some (.string nm):=fun u=>cu u 0 _ rfl
   have d1:∀ u,(f u).cell? ⟨g,o+k*9+1,none⟩=some (.int .i64 ty):=fun u=>cu u 1 _ rfl
   have d2:∀ u,(f u).cell? ⟨g,o+k*9+2,none⟩=some (.int .i64 tmo):=fun u=>cu u 2 _ rfl
   have d3:∀ u,(f u).cell? ⟨g,o+k*9+3,none⟩=some (.int .i64 td):=fun u=>cu u 3 _ rfl
   have d4:∀ u,(f u).cell? ⟨g,o+k*9+4,none⟩=some (.int .i64 th):=fun u=>cu u 4 _ rfl
   have d5:∀ u,(f u).cell? ⟨g,o+k*9+5,none⟩=some (.int .i64 tmi):=fun u=>cu u 5 _ rfl
   have d6:∀ u,(f u).cell? ⟨g,o+k*9+6,none⟩=some (.int .i64 ts):=fun u=>cu u 6 _ rfl
   have d7:∀ u,(f u).cell? ⟨g,o+k*9+7,none⟩=some (.string da):=fun u=>cu u 7 _ rfl
   have d8:∀ u,(f u).cell? ⟨g,o+k*9+8,none⟩=some (.string st):=fun u=>cu u 8 _ rfl
   simp only[Nat.add_zero]at d0
   have HU:=Lib.hid HAB
   have HC0:=Lib.hid hc
   obtain⟨u0,hu0⟩:=HAB.start
   have HE:Hid (∀ u,Below w.heap.size w (f u)):=Lib.hid (fun u=>HBL.out.trans ((HAB.below u).mono HBL.out.size))
   have HRu:Hid (∀ u,(f u).ownsRow w.heap.size 84 12 u6 k (ac.hs.flatMap hdL)):=Lib.hid (fun u=>own_under HR.out (HAB.below u))
   have HOu:Hid (∀ u,(f u).ownsRow w.heap.size 3 1 u7 k (endsC ac.es)):=Lib.hid (fun u=>own_under HO.out (HAB.below u))
   clear HAB hc c0' hgw HBL HR HO
   rw[hu0]
   clear hu0
   go_upto_region 8 with(first|(go_at_call 29;refine(HH.out _).mono ?_;rintro e w1 ⟨rfl,hb⟩;obtain⟨u1,rfl⟩:=HU.out.next (Nat.le_refl _) hb;clear hb))
   have KH:=Blk.new (f u1) #[.string name,.int .i64 y,.int .i64 mo,.int .i64 d,.int .i64 hh,.int .i64 mi,.int .i64 sx,.int .u64 packed,.int .u64 size,.int .u32 sum,.int .u64 pos,.bool kept] 84
   have BA:=(Below.refl (f u1).heap.size (f u1)).alloc (Nat.le_refl _) (.cells #[.string name,.int .i64 y,.int .i64 mo,.int .i64 d,.int .i64 hh,.int .i64 mi,.int .i64 sx,.int .u64 packed,.int .u64 size,.int .u32 sum,.int .u64 pos,.bool kept] 84)
   have hE8:=(HE.out u1).alloc (HE.out u1).size (.cells #[.string name,.int .i64 y,.int .i64 mo,.int .i64 d,.int .i64 hh,.int .i64 mi,.int .i64 sx,.int .u64 packed,.int .u64 size,.int .u32 sum,.int .u64 pos,.bool kept] 84)
   have hR8:=own_under (HRu.out u1) BA
   have hO8:=own_under (HOu.out u1) BA
   have d8':=(BA.cell (p:=⟨g,o+k*9+8,none⟩) (World.block_lt_of_cell? _ _ (d8 u1))).trans (d8 u1)
   obtain⟨W8,hW8⟩:∃ W8,(f u1).alloc (.cells #[.string name,.int .i64 y,.int .i64 mo,.int .i64 d,.int .i64 hh,.int .i64 mi,.int .i64 sx,.int .u64 packed,.int .u64 size,.int .u32 sum,.int .u64 pos,.bool kept] 84)=W8:=⟨_,rfl⟩
   obtain⟨K,hK⟩:∃ K,(f u1).heap.size=K:=⟨_,rfl⟩
   rw[hK]at KH
   rw[hW8]at KH hE8 hR8 hO8 d8'
   rw[hW8,hK]
   clear hW8 hK BA d0 d1 d2 d3 d4 d5 d6 d7 d8 HU HE HRu HOu HC0
   obtain⟨U,f,HAB⟩:=above W8.heap.size W8
   have c0:=HAB.cell KH KH.lt 0 (.string name) rfl
   have c1:=HAB.cell KH KH.lt 1 (.int .i64 y) rfl
   have c2:=HAB.cell KH KH.lt 2 (.int .i64 mo) rfl
   have c3:=HAB.cell KH KH.lt 3 (.int .i64 d) rfl
   have c4:=HAB.cell KH KH.lt 4 (.int .i64 hh) rfl
   have c5:=HAB.cell KH KH.lt 5 (.int .i64 mi) rfl
   have c6:=HAB.cell KH KH.lt 6 (.int .i64 sx) rfl
   have c7:=HAB.cell KH KH.lt 7 (.int .u64 packed) rfl
   have c8:=HAB.cell KH KH.lt 8 (.int .u64 size) rfl
   have c9:=HAB.cell KH KH.lt 9 (.int .u32 sum) rfl
   have c10:=HAB.cell KH KH.lt 10 (.int .u64 pos) rfl
   have c11:=HAB.cell KH KH.lt 11 (.bool kept) rfl
   have d8:∀ u,(f u).cell? ⟨g,o+k*9+8,none⟩=some (.string st):=fun u=>((HAB.below u).cell (p:=⟨g,o+k*9+8,none⟩) (World.block_lt_of_cell? _ _ d8')).trans d8'
   have HU:=Lib.hid HAB
   obtain⟨u0,hu0⟩:=HAB.start
   have hne:Nonempty U:=⟨u0⟩
   have HE:Hid (∀ u,Below w.heap.size w (f u)):=Lib.hid (fun u=>hE8.trans ((HAB.below u).mono hE8.size))
   have HR:Hid (∀ u,(f u).ownsRow w.heap.size 84 12 u6 k (ac.hs.flatMap hdL)):=Lib.hid (fun u=>own_under hR8 (HAB.below u))
   have HO:Hid (∀ u,(f u).ownsRow w.heap.size 3 1 u7 k (endsC ac.es)):=Lib.hid (fun u=>own_under hO8 (HAB.below u))
   have HKW:Hid (∀ u,Blk K #[.string name,.int .i64 y,.int .i64 mo,.int .i64 d,.int .i64 hh,.int .i64 mi,.int .i64 sx,.int .u64 packed,.int .u64 size,.int .u32 sum,.int .u64 pos,.bool kept] 84 (f u)):=Lib.hid (fun u=>KH.below (HAB.below u))
   clear HAB hE8 hR8 hO8 d8' KH
   rw[hu0]
   clear hu0
   cases kept with
   | false =>
    have HS3:Hid (acS ac ⟨nm,⟨ty,tmo,td,th,tmi,ts⟩,da,st⟩=S++LS++(st++DS)):=HSZ
    go_upto_region 10 with(first|(go_at_call 30;refine(HL.out _).mono ?_;rintro e w1 ⟨rfl,hb⟩;obtain⟨u1,rfl⟩:=HU.out.next (Nat.le_refl _) hb;clear hb))
    have e1:(S++LS).size=S.size+LS.size:=ByteArray.size_append ..
    have e2:(st++DS).size=st.size+DS.size:=ByteArray.size_append ..
    refine wp_region_class (C:=fun w'=>∃ u,w'=f u) (by kernel_rfl) (by kernel_rfl) (HU.out.drew _) ?_
    repeat (go_big_quiet_step (first|(go_at_call 31;refine(HD.out _).mono ?_;rintro e w1 ⟨rfl,hb⟩;exact⟨rfl,HU.out.next (Nat.le_refl _) hb⟩)))
    refine wpQuiet_nil ?_
    rintro wx ⟨u2,rfl⟩
    obtain⟨SX,hSX⟩:∃ SX,S++LS++(st++DS)=SX:=⟨_,rfl⟩
    have hsx:SX.size≤4000000000:=by rw[← hSX,ByteArray.size_append,e1,e2];omega
    rw[hSX]at HS3 ⊢
    clear hSX e1 e2
    obtain⟨W1,hW1⟩:∃ W,W=f u2:=⟨_,rfl⟩
    have hE:=HE.out u2
    have hR:=HR.out u2
    have hO:=HO.out u2
    have hKW:=HKW.out u2
    rw[← hW1]at hE hR hO hKW ⊢
    clear hW1 HU HE HKW HR HO c0 c1 c2 c3 c4 c5 c6 c7 c8 c9 c10 c11 d8
    obtain⟨A6,c6',rfl⟩:=own_shape hR
    obtain⟨A7,c7',rfl⟩:=own_shape hO
    have cs:=hKW.cell
    have c0:=cs 0
    have c1:=cs 1
    have c2:=cs 2
    have c3:=cs 3
    have c4:=cs 4
    have c5:=cs 5
    have c6:=cs 6
    have c7:=cs 7
    have c8:=cs 8
    have c9:=cs 9
    have c10:=cs 10
    have c11:=cs 11
    have HE1:=Lib.hid hE
    have HR1:=Lib.hid hR
    have HO1:=Lib.hid hO
    have hBs:=HE1.out.size
    clear hE hR hO cs hKW
    go_wp2_with (at_builtin;refine wpList_append_at _ rfl _ _ 54 rfl w.heap.size 84 trh (.agg #[.string ⟨#[]⟩,.int .i64 0,.int .i64 0,.int .i64 0,.int .i64 0,.int .i64 0,.int .i64 0,.int .u64 0,.int .u64 0,.int .u32 0,.int .u64 0,.bool false]) 12 104 Tryz.underlying54 trh_info trh_zero trh_size trh_bytes rfl (by decide) _ _ _ rfl (HR1.out.alloc _) ⟨W1.heap.size,0,none⟩ 1 1 (hdL ⟨name,⟨y,mo,d,hh,mi,sx⟩,packed,size,sum,pos,false⟩) rfl rfl ?c1 ?c2 ?c3 ?c4 ?c5 ?_)
    case c1=>exact hcells W1 _
    case c2=>exact hdL_ones _
    case c3=>unfold maxLen;omega
    case c4=>omega
    case c5=>first|omega|(simp;omega)
    intro v6 w6 hown6 hg6 hfr6
    have HO6:=Lib.hid (own_grown (HO1.out.alloc (.cells #[.string name,.int .i64 y,.int .i64 mo,.int .i64 d,.int .i64 hh,.int .i64 mi,.int .i64 sx,.int .u64 packed,.int .u64 size,.int .u32 sum,.int .u64 pos,.bool false] 84)) (HR1.out.alloc _) (by decide) hg6)
    have HR6:=Lib.hid hown6
    have HE6:=Lib.hid ((HE1.out.alloc HE1.out.size (.cells #[.string name,.int .i64 y,.int .i64 mo,.int .i64 d,.int .i64 hh,.int .i64 mi,.int .i64 sx,.int .u64 packed,.int .u64 size,.int .u32 sum,.int .u64 pos,.bool false] 84)).grown hg6 (by simp;omega) (fun r e=>(HR1.out.lt r e).1))
    have hBs6:=HE6.out.size
    clear hown6 hg6 hfr6 c0 c1 c2 c3 c4 c5 c6 c7 c8 c9 c10 c11 HR1 HO1
    go_wp2_with (at_builtin;refine wpList_append_at _ rfl _ _ 55 rfl w.heap.size 3 tri (.int .i64 0) 1 8 Tryz.underlying55 tri_info tri_zero tri_size tri_bytes rfl (by decide) _ _ _ rfl (HO6.out.alloc _) ⟨w6.heap.size,0,none⟩ 1 1 [.int .i64 SX.size] rfl rfl ?c1 ?c2 ?c3 ?c4 ?c5 ?_)
    case c1=>exact icell w6 _
    case c2=>intro u hu;rw[List.mem_singleton.1 hu];rfl
    case c3=>unfold maxLen;omega
    case c4=>omega
    case c5=>first|omega|(simp;omega)
    intro v7 w7 hown7 hg7 hfr7
    have HR7:=Lib.hid (own_grown (HR6.out.alloc (.cells #[.int .i64 SX.size] 3)) (HO6.out.alloc _) (by decide) hg7)
    have HO7:=Lib.hid hown7
    have HE7:=Lib.hid ((HE6.out.alloc HE6.out.size (.cells #[.int .i64 SX.size] 3)).grown hg7 (by simp;omega) (fun r e=>(HO6.out.lt r e).1))
    clear hown7 hg7 hfr7 HR6 HO6
    go_wp2
    go_roundw
    case rel=>exact⟨k+1,by omega,by go_num,by rw[HS2.out,HS3.out],by rw[HA2.out,List.flatMap_append,List.flatMap_singleton];exact HR7.out,by rw[HA3.out,HS3.out];unfold endsC;rw[List.map_append];exact HO7.out,HE7.out⟩
    case measure=>simp[intOf];omega
   | true =>
    have HS3:Hid (acS ac ⟨nm,⟨ty,tmo,td,th,tmi,ts⟩,da,st⟩=S++LS):=HSZ
    go_upto_region 11 with(first|(go_at_call 30;refine(HL.out _).mono ?_;rintro e w1 ⟨rfl,hb⟩;obtain⟨u1,rfl⟩:=HU.out.next (Nat.le_refl _) hb;clear hb))
    obtain⟨SX,hSX⟩:∃ SX,S++LS=SX:=⟨_,rfl⟩
    have hsx:SX.size≤4000000000:=by rw[← hSX,ByteArray.size_append];omega
    rw[hSX]at HS3 ⊢
    clear hSX
    obtain⟨W1,hW1⟩:∃ W,W=f u1:=⟨_,rfl⟩
    have hE:=HE.out u1
    have hR:=HR.out u1
    have hO:=HO.out u1
    have hKW:=HKW.out u1
    rw[← hW1]at hE hR hO hKW ⊢
    clear hW1 HU HE HKW HR HO c0 c1 c2 c3 c4 c5 c6 c7 c8 c9 c10 c11 d8
    obtain⟨A6,c6',rfl⟩:=own_shape hR
    obtain⟨A7,c7',rfl⟩:=own_shape hO
    have cs:=hKW.cell
    have c0:=cs 0
    have c1:=cs 1
    have c2:=cs 2
    have c3:=cs 3
    have c4:=cs 4
    have c5:=cs 5
    have c6:=cs 6
    have c7:=cs 7
    have c8:=cs 8
    have c9:=cs 9
    have c10:=cs 10
    have c11:=cs 11
    have HE1:=Lib.hid hE
    have HR1:=Lib.hid hR
    have HO1:=Lib.hid hO
    have hBs:=HE1.out.size
    clear hE hR hO cs hKW
    go_wp2_with (at_builtin;refine wpList_append_at _ rfl _ _ 54 rfl w.heap.size 84 trh (.agg #[.string ⟨#[]⟩,.int .i64 0,.int .i64 0,.int .i64 0,.int .i64 0,.int .i64 0,.int .i64 0,.int .u64 0,.int .u64 0,.int .u32 0,.int .u64 0,.bool false]) 12 104 Tryz.underlying54 trh_info trh_zero trh_size trh_bytes rfl (by decide) _ _ _ rfl (HR1.out.alloc _) ⟨W1.heap.size,0,none⟩ 1 1 (hdL ⟨name,⟨y,mo,d,hh,mi,sx⟩,packed,size,sum,pos,true⟩) rfl rfl ?c1 ?c2 ?c3 ?c4 ?c5 ?_)
    case c1=>exact hcells W1 _
    case c2=>exact hdL_ones _
    case c3=>unfold maxLen;omega
    case c4=>omega
    case c5=>first|omega|(simp;omega)
    intro v6 w6 hown6 hg6 hfr6
    have HO6:=Lib.hid (own_grown (HO1.out.alloc (.cells #[.string name,.int .i64 y,.int .i64 mo,.int .i64 d,.int .i64 hh,.int .i64 mi,.int .i64 sx,.int .u64 packed,.int .u64 size,.int .u32 sum,.int .u64 pos,.bool true] 84)) (HR1.out.alloc _) (by decide) hg6)
    have HR6:=Lib.hid hown6
    have HE6:=Lib.hid ((HE1.out.alloc HE1.out.size (.cells #[.string name,.int .i64 y,.int .i64 mo,.int .i64 d,.int .i64 hh,.int .i64 mi,.int .i64 sx,.int .u64 packed,.int .u64 size,.int .u32 sum,.int .u64 pos,.bool true] 84)).grown hg6 (by simp;omega) (fun r e=>(HR1.out.lt r e).1))
    have hBs6:=HE6.out.size
    clear hown6 hg6 hfr6 c0 c1 c2 c3 c4 c5 c6 c7 c8 c9 c10 c11 HR1 HO1
    go_wp2_with (at_builtin;refine wpList_append_at _ rfl _ _ 55 rfl w.heap.size 3 tri (.int .i64 0) 1 8 Tryz.underlying55 tri_info tri_zero tri_size tri_bytes rfl (by decide) _ _ _ rfl (HO6.out.alloc _) ⟨w6.heap.size,0,none⟩ 1 1 [.int .i64 SX.size] rfl rfl ?c1 ?c2 ?c3 ?c4 ?c5 ?_)
    case c1=>exact icell w6 _
    case c2=>intro u hu;rw[List.mem_singleton.1 hu];rfl
    case c3=>unfold maxLen;omega
    case c4=>omega
    case c5=>first|omega|(simp;omega)
    intro v7 w7 hown7 hg7 hfr7
    have HR7:=Lib.hid (own_grown (HR6.out.alloc (.cells #[.int .i64 SX.size] 3)) (HO6.out.alloc _) (by decide) hg7)
    have HO7:=Lib.hid hown7
    have HE7:=Lib.hid ((HE6.out.alloc HE6.out.size (.cells #[.int .i64 SX.size] 3)).grown hg7 (by simp;omega) (fun r e=>(HO6.out.lt r e).1))
    clear hown7 hg7 hfr7 HR6 HO6
    go_wp2
    go_roundw
    case rel=>exact⟨k+1,by omega,by go_num,by rw[HS2.out,HS3.out],by rw[HA2.out,List.flatMap_append,List.flatMap_singleton];exact HR7.out,by rw[HA3.out,HS3.out];unfold endsC;rw[List.map_append];exact HO7.out,HE7.out⟩
    case measure=>simp[intOf];omega
  ·obtain rfl:k=n:=by omega
   have q1:decide ((k:Int)<(k:Int))=false:=decide_eq_false (by omega)
   have q1':decide (k<k)=false:=decide_eq_false (by omega)
   have hall:fs.take k=fs:=List.take_of_length_le (by rw[HN.out];exact Nat.le_refl _)
   rw[hall]at HR HO
   rw[hall]
   clear hall
   have hbig:=HSS.out
   have HLEN:Hid ((acL fs).hs.length=k):=Lib.hid (by rw[acL_len,HN.out])
   obtain⟨A6,c6,rfl⟩:=own_shape HR.out
   have HT:=Lib.hid (reftail_calls A6 c6 (acL fs).hs wr (cels_own HR.out) (by rw[HLEN.out];omega) (acL_small fs HF.out))
   have hts:(tailS (acL fs).hs).size≤1000000*k+200:=by
    unfold tailS
    rw[ByteArray.size_append]
    have h1:=catL_len (acL fs).hs (fun x hx=>(acL_small fs HF.out x hx).f.c)
    have h2:=endS_le (acL fs).hs.length (catL (acL fs).hs).length (tailAt (acL fs).hs 0)
    have h3:(⟨(catL (acL fs).hs).toArray⟩:ByteArray).size=(catL (acL fs).hs).length:=by simp[ByteArray.size]
    rw[HLEN.out]at h1
    omega
   rw[HLEN.out]at HT
   obtain⟨TS,hTS⟩:∃ TS,tailS (acL fs).hs=TS:=⟨_,rfl⟩
   have HTS:=Lib.hid hTS
   rw[hTS]at HT hts
   clear hTS
   go_wp2_with fail
   refine HT.out.mono ?_
   rintro e w2 ⟨rfl,hb⟩
   have HR2:=Lib.hid (own_under HR.out hb)
   have HO2:=Lib.hid (own_under HO.out hb)
   have HB2:=Lib.hid (HBL.out.trans (hb.mono HBL.out.size))
   clear hb
   go_wp2
   go_ret3
   exact⟨.slice A6 k c6,u7,by rw[HTS.out]<;>rfl,by rw[HN.out];exact HR2.out,by rw[HN.out];exact HO2.out,HB2.out⟩
end Go.Proofs.YtgiogemkomgkhaaGreatDoor.Ar
namespace Go.Proofs.YtgiogemkomgkhaaGreatDoor.Ar
open Go.RowKit Go.Shelf Mg Zp YtgiogemkomgkhaaGreatDoor.Nm Df Cr Bk Mt
noncomputable def todoF (level:Nat):List Fl→Nat→List Hd→ByteArray
 | [],pos,hs=>tailS hs
 | f::fs,pos,hs=>fileS level f pos++todoF level fs (pos+(fileS level f pos).size) (hs ++ [headF level f pos])
noncomputable def todo (level:Nat) (fs:List Fl) (st:Mst):ByteArray:=st.rest++if st.tail=true then⟨#[]⟩ else todoF level (fs.drop st.k) st.pos st.hs
def Tidy (fs:List Fl) (st:Mst):Prop:=st.tail=true→fs[st.k]?=none
theorem ba_nil (s:ByteArray) (h:s.size=0):s=⟨#[]⟩:=by apply ByteArray.ext;exact Array.eq_empty_of_size_eq_zero h
theorem ba_cut (s:ByteArray) (n:Nat) (h:n≤s.size):s.extract 0 n++s.extract n s.size=s:=by
 apply ByteArray.ext
 rw[ByteArray.data_append,ByteArray.data_extract,ByteArray.data_extract]
 apply Array.ext'
 have e:s.size=s.data.toList.length:=rfl
 simp only[Array.toList_append,Array.toList_extract,List.extract_eq_take_drop,List.drop_zero,Nat.sub_zero]
 rw[e,List.take_of_length_le (i:=s.data.toList.length - n) (by simp)]
 exact List.take_append_drop n _
theorem more_todo {level:Nat} {fs:List Fl} {st:Mst} (h0:st.rest.size=0) (ht:Tidy fs st) (hm:(moreP level fs st).1=true):todo level fs (moreP level fs st).2=todo level fs st∧Tidy fs (moreP level fs st).2:=by
 have hr:=ba_nil _ h0
 unfold moreP at hm ⊢
 cases hk:fs[st.k]? with
 | some f =>
  have htf:st.tail=false:=by
   cases h:st.tail with
   | false=>rfl
   | true=>rw[ht h]at hk;cases hk
  obtain⟨hlt,hf⟩:=List.getElem?_eq_some_iff.1 hk
  simp only
  refine⟨?_,fun h=>by rw[htf]at h;cases h⟩
  unfold todo
  simp only[htf,Bool.false_eq_true,if_false]
  rw[hr,List.drop_eq_getElem_cons hlt,hf,todoF,empL]
 | none =>
  rw[hk]at hm
  simp only at hm ⊢
  cases htl:st.tail with
  | true=>rw[htl]at hm;cases hm
  | false =>
   simp only[Bool.false_eq_true,if_false]
   refine⟨?_,fun _=>hk⟩
   unfold todo
   simp only[htl,Bool.false_eq_true,if_false,if_true]
   have hd:fs.drop st.k= []:=List.drop_eq_nil_of_le (by rw[List.getElem?_eq_none_iff]at hk;exact hk)
   rw[hr,hd,todoF,empL,empR]
theorem step_todo {level:Nat} {fs:List Fl} {st st':Mst} {x:ByteArray} (ht:Tidy fs st) (h:stepP level fs st=some (x,st')):todo level fs st=x++todo level fs st'∧Tidy fs st':=by
 have key:∀ s:Mst,Tidy fs s→todo level fs s=s.rest.extract 0 (min s.rest.size 256)++todo level fs { s with rest:=s.rest.extract (min s.rest.size 256) s.rest.size }:=fun s _=>by
  unfold todo
  simp only
  rw[← ByteArray.append_assoc,ba_cut _ _ (Nat.min_le_left _ _)]
 unfold stepP nextP at h
 by_cases h0:st.rest.size=0
 ·rw[if_pos h0]at h
  cases hm:(moreP level fs st).1 with
  | false =>
   rw[hm]at h
   simp only[Bool.false_eq_true,if_false]at h
   cases h
  | true =>
   rw[hm]at h
   simp only[if_true]at h
   obtain⟨h1,h2⟩:=more_todo h0 ht hm
   cases h
   rw[← h1]
   exact⟨key _ h2,h2⟩
 ·rw[if_neg h0]at h
  simp only[if_true]at h
  cases h
  exact⟨key _ ht,ht⟩
theorem end_todo {level:Nat} {fs:List Fl} {st:Mst} (h:stepP level fs st=none):todo level fs st=⟨#[]⟩:=by
 unfold stepP nextP at h
 by_cases h0:st.rest.size=0
 ·rw[if_pos h0]at h
  cases hm:(moreP level fs st).1 with
  | true=>rw[hm]at h;simp at h
  | false =>
   unfold moreP at hm
   cases hk:fs[st.k]? with
   | some f=>rw[hk]at hm;cases hm
   | none =>
    rw[hk]at hm
    simp only at hm
    cases htl:st.tail with
    | false=>rw[htl]at hm;simp at hm
    | true =>
     unfold todo
     rw[htl,if_pos rfl,ba_nil _ h0,empR]
 ·rw[if_neg h0]at h
  simp at h
theorem join_cons2 (x:ByteArray) (xs:List ByteArray):joinS (x::xs)=x++joinS xs:=by
 unfold joinS
 rw[List.map_cons,join_flat,join_flat]
 apply ByteArray.ext
 rw[ByteArray.data_append]
 simp
theorem runs_todo {level:Nat} {fs:List Fl} {st fin:Mst} {xs:List ByteArray} (h:Runs (stepP level fs) st xs fin) (ht:Tidy fs st):todo level fs st=joinS xs++todo level fs fin:=by
 induction h with
 | nil s =>
  have:joinS []=⟨#[]⟩:=rfl
  rw[this,empL]
 | cons h1 _ ih =>
  obtain⟨h2,h3⟩:=step_todo ht h1
  rw[h2,ih h3,join_cons2,ByteArray.append_assoc]
theorem runs_join {level:Nat} {fs:List Fl} {fin:Mst} {xs:List ByteArray} (h:Runs (stepP level fs) start0 xs fin) (hf:stepP level fs fin=none):joinS xs=todoF level fs 0 []:=by
 have h1:=runs_todo h (fun h=>by cases h)
 rw[end_todo hf,empR]at h1
 rw[← h1]
 unfold todo start0
 simp only[Bool.false_eq_true,if_false,List.drop_zero]
 exact empL _
noncomputable def toR (level:Nat) (f:Fl):RF:=⟨f.name,f.t,f.data,strmS level f.data⟩
theorem acH_head (level:Nat) (a:Ac) (f:Fl):acH a (toR level f)=headF level f a.s.size:=rfl
theorem acS_file (level:Nat) (a:Ac) (f:Fl):acS a (toR level f)=a.s++fileS level f a.s.size:=by
 unfold acS fileS
 rw[acH_head]
 by_cases h:f.data.size=0
 ·have hk:(headF level f a.s.size).kept=true:=decide_eq_true h
  have hd:desS (headF level f a.s.size)=⟨#[]⟩:=by unfold desS;rw[hk,Bool.not_true,Bool.and_false,if_neg Bool.false_ne_true]
  rw[if_pos hk,if_pos h,hd,empR,empR]
 ·have hk:(headF level f a.s.size).kept=false:=decide_eq_false h
  rw[hk,if_neg Bool.false_ne_true,if_neg h]
  show a.s++locS _++(strmS level f.data++desS _)=_
  simp only[ByteArray.append_assoc]
theorem ac_todo (level:Nat):∀ (fs:List Fl) (a:Ac),((fs.map (toR level)).foldl acN a).s++tailS ((fs.map (toR level)).foldl acN a).hs=a.s++todoF level fs a.s.size a.hs
 | [],a=>rfl
 | f::fs,a=>by
  rw[List.map_cons,List.foldl_cons,ac_todo level fs (acN a (toR level f)),todoF,← ByteArray.append_assoc]
  show acS a (toR level f)++todoF level fs (acS a (toR level f)).size (a.hs ++ [acH a (toR level f)])=_
  rw[acS_file,acH_head,ByteArray.size_append]
theorem arc_todo (level:Nat) (fs:List Fl):(acL (fs.map (toR level))).s++tailS (acL (fs.map (toR level))).hs=todoF level fs 0 []:=by
 have:=ac_todo level fs ⟨⟨#[]⟩,[],[]⟩
 rw[empL]at this
 exact this
theorem ac_size (level:Nat) (fs:List Fl) (hok:∀ f∈fs,f.ok) (hn:fs.length≤500):(acL (fs.map (toR level))).s.size≤1100000*fs.length:=by
 have:∀ j,j≤fs.length→(acL ((fs.take j).map (toR level))).s.size≤1100000*j:=by
  intro j
  induction j with
  | zero=>intro _;exact Nat.le_of_eq rfl
  | succ j ih =>
   intro hj
   have hjl:j<fs.length:=by omega
   have h1:=ih (by omega)
   rw[List.take_succ_eq_append_getElem hjl,List.map_append,List.map_singleton,acL_snoc]
   show(acS _ _).size≤_
   rw[acS_file,ByteArray.size_append]
   have:=file_size level fs[j] (acL ((fs.take j).map (toR level))).s.size (hok _ (List.getElem_mem hjl)) (by omega)
   omega
 have h:=this fs.length (Nat.le_refl _)
 rwa[List.take_length]at h
theorem ac_ok (level:Nat) (fs:List Fl) (hok:∀ f∈fs,f.ok) (hn:fs.length≤500):∀ k x,(fs.map (toR level))[k]?=some x→RFok (acL ((fs.map (toR level)).take k)) x:=by
 intro k x hx
 rw[List.getElem?_map]at hx
 cases hk:fs[k]? with
 | none=>rw[hk]at hx;cases hx
 | some f =>
  rw[hk]at hx
  simp only[Option.map_some,Option.some.injEq]at hx
  subst hx
  obtain⟨hkl,hf⟩:=List.getElem?_eq_some_iff.1 hk
  have hof:=hok f (by rw[← hf];exact List.getElem_mem hkl)
  have hz:=ac_size level (fs.take k) (fun g hg=>hok g (List.mem_of_mem_take hg)) (by rw[List.length_take];omega)
  rw[← List.map_take]
  rw[List.length_take]at hz
  generalize acL ((fs.take k).map (toR level))=a at *
  obtain⟨hfi,hl,hd⟩:=head_fine level f a.s.size hof (by omega)
  have hst:=strm_size level f.data hof.d
  have hdd:=hof.d
  refine⟨⟨hfi,?_,?_⟩,by show f.data.size≤_;omega,by show(strmS level f.data).size≤_;omega,by omega,by rw[acH_head];omega,by rw[acH_head];omega⟩
  ·rw[acH_head]
   unfold bigH
   have h1:(headF level f a.s.size).size=(f.data.size:Int):=rfl
   have h2:(headF level f a.s.size).packed≤1000000:=by
    show(if f.data.size=0 then 0 else((strmS level f.data).size:Int))≤1000000
    split<;>omega
   rw[h1]
   simp only[Bool.or_eq_false_iff,decide_eq_false_iff_not]
   omega
  ·rw[acH_head]
   show(a.s.size:Int)≤_
   omega
end Go.Proofs.YtgiogemkomgkhaaGreatDoor.Ar
