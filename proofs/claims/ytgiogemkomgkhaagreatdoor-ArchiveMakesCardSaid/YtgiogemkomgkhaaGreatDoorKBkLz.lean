/-
  lz: the symbols of lengths and distances.
-/
import Derived.Test.YtgiogemkomgkhaaGreatDoorKBkA
import Derived.Test.YtgiogemkomgkhaaGreatDoorKMgBase
import Derived.Test.YtgiogemkomgkhaaGreatDoorKBwAll
set_option linter.unusedVariables false
set_option linter.unusedSimpArgs false
namespace Go.Proofs.YtgiogemkomgkhaaGreatDoor.Bk
open Go.RowKit Go.Shelf Mg Bw
theorem results_c1 {P:Program} {fn:Func} {p:Tmp} {ty:TypeId} (h:fn.results= #[.cell p ty]) (tmps:Array Value) (w:World) (g:Nat) (t:TypeId) (cs:Array Value) (d:TypeDesc)
  (hp:tmps.getD p undef= .pointer (some ⟨g,0,none⟩)) (hg:w.heap[g]?=some (.cells cs t (0,0)))
  (hu:P.underlying ty=some d) (hd:(match d with | .struct _ | .array _ _=>true|_=>false)=true) (hi:(P.info? ty).map (·.size)=some cs.size) :
  (results fn tmps).run P w= .ok (.agg cs) w:=by
 have hp':tmps[p]?.getD undef= .pointer (some ⟨g,0,none⟩):=by simpa using hp
 simp[results,h,hp',asAddr,run_loadVar_row w g t ty cs (0,0) d hg hu hd hi]
def stepsP (k least free step:Nat):Nat×Nat:=if k<free then(least+k,0) else(least+free+step*(2 ^ ((k - free)/step+1) - 2)+(k - free) % step*2 ^ ((k - free)/step+1),(k - free)/step+1)
set_option maxHeartbeats 1000000 in
set_option maxRecDepth 100000 in
theorem steps_calls (k least free step:Nat) (w:World) (hk:k≤32) (hl:least≤8) (hf:free≤8) (hs:0<step) (hs2:step≤8) (hks:(k - free)/step≤14) :
  Calls Tryz.prog 155 #[.int .i64 k,.int .i64 least,.int .i64 free,.int .i64 step] w fun e w'=>e= .returned (.tuple #[.int .i64 ((stepsP k least free step).1:Int),.int .i64 ((stepsP k least free step).2:Int)])∧w'=w:=by
 by_cases hlt:k<free
 ·have q0:decide ((k:Int)<(free:Int))=true:=decide_eq_true (by omega)
  have e:stepsP k least free step=(least+k,0):=if_pos hlt
  rw[e]
  clear e
  go_enter Tryz.func155,Tryz.ntmps155
  go_wp2
  go_ret2
  exact⟨by simp,rfl⟩
 ·have q0:decide ((k:Int)<(free:Int))=false:=decide_eq_false (by omega)
  have e:stepsP k least free step=(least+free+step*(2 ^ ((k - free)/step+1) - 2)+(k - free) % step*2 ^ ((k - free)/step+1),(k - free)/step+1):=if_neg hlt
  obtain⟨m0,hm0⟩:∃ m0,k - free=m0:=⟨_,rfl⟩
  have hm1:(k:Int) - (free:Int)=(m0:Int):=by omega
  rw[hm0]at e hks
  obtain⟨R,hR⟩:∃ R,stepsP k least free step=R:=⟨_,rfl⟩
  rw[hR]at e ⊢
  have HR:=Lib.hid e
  have HS:=Lib.hid hks
  have hmb:m0≤32:=by omega
  clear hm0 e hR hks
  have hat0:least+free+step*(2 ^ (0+1) - 2)=least+free:=by simp
  have HA0:=Lib.hid hat0
  clear hat0
  go_enter Tryz.func155,Tryz.ntmps155
  go_wp2
  go_loop [0,10,11] (fun vk va ve=>∃ m at' j:Nat,vk= .int .i64 m∧va= .int .i64 at'∧ve= .int .i64 ((j+1:Nat):Int)∧j*step+m=m0∧at'=least+free+step*(2 ^ (j+1) - 2)) (fun vk _ _=>(intOf vk).toNat)
  case atStart=>exact⟨m0,least+free,0,rfl,by simp,rfl,by omega,HA0.out.symm⟩
  case round =>
   obtain⟨m,at',j,rfl,rfl,rfl,hj,hat⟩:=hrel
   have HJ:=Lib.hid hj
   have hj14:j≤14:=by
    have h1:=HS.out
    have h2:j≤m0/step:=(Nat.le_div_iff_mul_le hs).2 (by omega)
    omega
   have hmm:m≤32:=by omega
   obtain⟨X,hX⟩:∃ X,2 ^ (j+1)=X:=⟨_,rfl⟩
   have hX2:2≤X∧X≤32768:=by
    rw[← hX]
    have h1:2 ^ 1≤2 ^ (j+1):=Nat.pow_le_pow_right (by omega) (by omega)
    have h2:2 ^ (j+1)≤2 ^ 15:=Nat.pow_le_pow_right (by omega) (by omega)
    have h3:(2:Nat) ^ 15=32768:=by decide
    omega
   rw[hX]at hat
   have hXI:(2:Int) ^ (j+1)=(X:Int):=by
    rw[← hX]
    push_cast
    rfl
   have HX:=Lib.hid hX
   have HAT:=Lib.hid hat
   have hsb:step*(X - 2)≤8*32768:=Nat.mul_le_mul hs2 (by omega)
   have hat2:at'≤300000:=by omega
   have hsx:step*X≤8*32768:=Nat.mul_le_mul hs2 (by omega)
   have hmx:m*X≤32*32768:=Nat.mul_le_mul (by omega) (by omega)
   obtain⟨S,hS⟩:∃ S,step*X=S:=⟨_,rfl⟩
   obtain⟨M,hM⟩:∃ M,m*X=M:=⟨_,rfl⟩
   rw[hS]at hsx
   rw[hM]at hmx
   have hSI:(step:Int)*(X:Int)=(S:Int):=by rw[← hS];push_cast;rfl
   have hMI:(m:Int)*(X:Int)=(M:Int):=by rw[← hM];push_cast;rfl
   have HSS:=Lib.hid hS
   have HMM:=Lib.hid hM
   clear hX hat hsb hj hS hM
   by_cases hle:step≤m
   ·have q1:decide ((step:Int)≤(m:Int))=true:=decide_eq_true (by omega)
    have HN:Hid ((j+1)*step+(m - step)=m0∧at'+S=least+free+step*(2 ^ (j+1+1) - 2)):=Lib.hid (by
     have h1:=HJ.out
     have h2:2 ^ (j+1+1)=2*X:=by rw[Nat.pow_succ,HX.out,Nat.mul_comm]
     rw[Nat.add_mul,Nat.one_mul,h2,HAT.out,← HSS.out]
     obtain⟨Y,rfl⟩:∃ Y,X=Y+2:=⟨X - 2,by omega⟩
     have e1:step*(2*(Y+2) - 2)=step*Y+step*(Y+2):=by rw[← Nat.mul_add];congr 1;omega
     rw[e1,Nat.add_sub_cancel]
     omega)
    go_wp2
    go_round
    case rel=>exact⟨m - step,at'+S,j+1,by congr 1;omega,by go_num,by go_num,HN.out.1,HN.out.2⟩
    case measure=>simp[intOf];omega
   ·have q1:decide ((step:Int)≤(m:Int))=false:=decide_eq_false (by omega)
    have HN:Hid (R=(at'+M,j+1)):=Lib.hid (by
     have hd:m0/step=j:=by rw[← HJ.out,Nat.mul_comm,Nat.mul_add_div hs,Nat.div_eq_of_lt (by omega),Nat.add_zero]
     have hmd:m0 % step=m:=by rw[← HJ.out,Nat.mul_comm,Nat.mul_add_mod,Nat.mod_eq_of_lt (by omega)]
     rw[HR.out,hd,hmd,HX.out,← HAT.out,HMM.out])
    go_wp2
    go_ret2
    exact⟨by rw[HN.out];simp,rfl⟩
def lenLeast (d:Nat):Nat:=if d=28 then 258 else(stepsP d 3 8 4).1
def lenBits (d:Nat):Nat:=if d=28 then 0 else(stepsP d 3 8 4).2
def dstLeast (d:Nat):Nat:=(stepsP d 1 4 2).1
def dstBits (d:Nat):Nat:=(stepsP d 1 4 2).2
theorem lenLeast_le:∀ d,d<29→3≤lenLeast d∧lenLeast d≤258∧lenBits d≤5:=by decide +kernel
theorem dstLeast_le:∀ d,d<30→1≤dstLeast d∧dstLeast d≤24577∧dstBits d≤13:=by decide +kernel
set_option maxHeartbeats 1000000 in
set_option maxRecDepth 100000 in
theorem lengthof_calls (d:Nat) (w:World) (hd:d<29) :
  Calls Tryz.prog 139 #[.int .i64 ((257+d:Nat):Int)] w fun e w'=>e= .returned (.tuple #[.int .i64 (lenLeast d:Int),.int .i64 (lenBits d:Int),.bool true])∧w'=w:=by
 have hb:=lenLeast_le d hd
 obtain⟨s,hs⟩:∃ s:Nat,257+d=s:=⟨_,rfl⟩
 rw[hs]
 have hsI:(s:Int) - 257=(d:Int):=by omega
 have q1:decide ((s:Int)<257)=false:=decide_eq_false (by omega)
 have q2:decide (285<(s:Int))=false:=decide_eq_false (by omega)
 by_cases h28:d=28
 ·have q3:((s:Int) == 285)=true:=beq_iff_eq.2 (by omega)
  have e1:lenLeast d=258:=if_pos h28
  have e2:lenBits d=0:=if_pos h28
  rw[e1,e2]
  clear e1 e2 h28
  go_enter Tryz.func139,Tryz.ntmps139
  go_wp2
  go_ret3
  exact⟨rfl,rfl⟩
 ·have q3:((s:Int) == 285)=false:=beq_eq_false_iff_ne.2 (by omega)
  have e1:lenLeast d=(stepsP d 3 8 4).1:=if_neg h28
  have e2:lenBits d=(stepsP d 3 8 4).2:=if_neg h28
  have HC:=Lib.hid (steps_calls d 3 8 4 w (by omega) (by omega) (by omega) (by omega) (by omega) (by omega))
  rw[← e1,← e2]at HC
  clear e1 e2 h28 hs
  go_enter Tryz.func139,Tryz.ntmps139
  go_wp2_with (go_at_call 155;refine HC.out.mono ?_;rintro e w' ⟨rfl,rfl⟩)
  go_ret3
  exact⟨rfl,rfl⟩
set_option maxHeartbeats 1000000 in
set_option maxRecDepth 100000 in
theorem distof_calls (d:Nat) (w:World) (hd:d<30) :
  Calls Tryz.prog 140 #[.int .i64 ((0+d:Nat):Int)] w fun e w'=>e= .returned (.tuple #[.int .i64 (dstLeast d:Int),.int .i64 (dstBits d:Int),.bool true])∧w'=w:=by
 rw[Nat.zero_add]
 have q1:decide ((d:Int)<0)=false:=decide_eq_false (by omega)
 have q2:decide (29<(d:Int))=false:=decide_eq_false (by omega)
 have HC:=Lib.hid (steps_calls d 1 4 2 w (by omega) (by omega) (by omega) (by omega) (by omega) (by omega))
 have e1:(stepsP d 1 4 2).1=dstLeast d:=rfl
 have e2:(stepsP d 1 4 2).2=dstBits d:=rfl
 rw[e1,e2]at HC
 clear e1 e2
 go_enter Tryz.func140,Tryz.ntmps140
 go_wp2_with (go_at_call 155;refine HC.out.mono ?_;rintro e w' ⟨rfl,rfl⟩)
 go_ret3
 exact⟨rfl,rfl⟩
def findGo (L:Nat→Nat) (n:Nat):Nat→Nat
 | 0=>0
 | d+1=>if L (d+1)≤n then d+1 else findGo L n d
theorem findGo_le (L:Nat→Nat) (n:Nat):∀ d,findGo L n d≤d
 | 0=>Nat.le_refl _
 | d+1=>by
  rw[findGo]
  split
  ·exact Nat.le_refl _
  ·exact Nat.le_succ_of_le (findGo_le L n d)
theorem findGo_least (L:Nat→Nat) (n:Nat) (h0:L 0≤n):∀ d,L (findGo L n d)≤n
 | 0=>h0
 | d+1=>by
  rw[findGo]
  split
  ·assumption
  ·exact findGo_least L n h0 d
def lenD (n:Nat):Nat:=findGo lenLeast n 28
def dstD (n:Nat):Nat:=findGo dstLeast n 29
set_option maxHeartbeats 1000000 in
set_option maxRecDepth 100000 in
theorem findlen_calls (n:Nat) (w:World) (hn0:lenLeast 0≤n) (hn:n≤32768) :
  Calls Tryz.prog 138 #[.int .i64 n,.int .i64 257,.int .i64 285,.func (.func 139) #[] #[]] w fun e w'=>e= .returned (.agg #[.int .i64 ((257+lenD n:Nat):Int),.int .i64 (lenBits (lenD n):Int),.int .u64 ((n - lenLeast (lenD n):Nat):Int)])∧Below w.heap.size w w':=by
 have HC:=Lib.hid (fun (d:Nat) (hd:d<29) (W:World)=>lengthof_calls d W hd)
 have HLE:=Lib.hid lenLeast_le
 obtain⟨R,hR⟩:∃ R,lenD n=R:=⟨_,rfl⟩
 have HR:Hid (findGo lenLeast n 28=R):=Lib.hid hR
 have hl1:lenLeast R≤n:=by rw[← hR];exact findGo_least lenLeast n hn0 28
 have hlr:R≤28:=by rw[← hR];exact findGo_le _ _ _
 rw[hR]
 clear hR
 have B0:=Lib.hid ((Below.refl w.heap.size w).alloc (Nat.le_refl _) (.cells #[.int .i64 0,.int .i64 0,.int .u64 0] 188))
 go_enter Tryz.func138,Tryz.ntmps138
 go_wp2
 go_loop [9] (fun vs=>∃ d:Nat,d≤28∧vs= .int .i64 ((257+d:Nat):Int)∧findGo lenLeast n d=R) (fun vs=>(intOf vs - 257).toNat)
 case atStart=>exact⟨28,Nat.le_refl _,rfl,HR.out⟩
 case round =>
  obtain⟨d,hd,rfl,hg⟩:=hrel
  have HGo:=Lib.hid hg
  clear hg
  rcases Nat.eq_zero_or_pos d with rfl|hpos
  ·have hR0:R=0:=HGo.out.symm
   subst hR0
   have HC0:=Lib.hid (HC.out 0 (by omega))
   have hle:=HLE.out 0 (by omega)
   have hlb:lenLeast 0≤n:=hl1
   obtain⟨L,hL⟩:∃ L,lenLeast 0=L:=⟨_,rfl⟩
   obtain⟨E,hE⟩:∃ E,lenBits 0=E:=⟨_,rfl⟩
   rw[hL,hE]at hle HC0
   have HLz:=Lib.hid hL
   have HEz:=Lib.hid hE
   rw[hL]at hlb hl1
   clear hL hE
   have hnl:(n:Int) - (L:Int)=((n - L:Nat):Int):=by omega
   have q1:decide ((257:Int)<(257:Int))=false:=by decide
   rw[show(((257+0:Nat):Int))=257 from rfl]at HC0 ⊢
   go_upto_region 8 with(go_at_call 139;refine(HC0.out _).mono ?_;rintro e w' ⟨rfl,rfl⟩)
   go_wp2
   refine bodyPost_ret (v:= .agg #[.int .i64 257,.int .i64 (E:Int),.int .u64 ((n - L:Nat):Int)]) (results_c1 Tryz.results138 _ _ w.heap.size 188 _ _ rfl (World.alloc_heap_new _ _) Tryz.underlying188 rfl (by kernel_rfl)) rfl ⟨by rw[HLz.out,HEz.out];rfl,?_⟩
   exact(Below.refl w.heap.size w).alloc (Nat.le_refl _) _
  ·have q1:decide (257<(((257+d:Nat)):Int))=true:=decide_eq_true (by omega)
   have HC0:=Lib.hid (HC.out d (by omega))
   have hle:=HLE.out d (by omega)
   obtain⟨L,hL⟩:∃ L,lenLeast d=L:=⟨_,rfl⟩
   obtain⟨E,hE⟩:∃ E,lenBits d=E:=⟨_,rfl⟩
   rw[hL,hE]at hle HC0
   obtain⟨s,hs⟩:∃ s:Nat,257+d=s:=⟨_,rfl⟩
   rw[hs]at q1 HC0 ⊢
   have HS:=Lib.hid hs
   have hsr:257≤s∧s≤300:=by omega
   have q1':decide (0<s)=true:=decide_eq_true (by omega)
   have HLz:=Lib.hid hL
   have HEz:=Lib.hid hE
   by_cases hlt:L≤n
   ·have HRd:Hid (R=d):=Lib.hid (by
     have h:=HGo.out
     rw[show d=(d - 1)+1 by omega,findGo,if_pos (by rw[show d - 1+1=d by omega,hL];exact hlt)]at h
     omega)
    have q2:decide ((L:Int)≤(n:Int))=true:=decide_eq_true (by omega)
    have hnl:(n:Int) - (L:Int)=((n - L:Nat):Int):=by omega
    go_wp2_with (go_at_call 139;refine(HC0.out _).mono ?_;rintro e w' ⟨rfl,rfl⟩)
    refine bodyPost_ret (v:= .agg #[.int .i64 (s:Int),.int .i64 (E:Int),.int .u64 ((n - L:Nat):Int)]) (results_c1 Tryz.results138 _ _ w.heap.size 188 _ _ rfl (World.alloc_heap_new _ _) Tryz.underlying188 rfl (by kernel_rfl)) rfl ⟨by rw[HRd.out,HS.out,HLz.out,HEz.out],?_⟩
    exact(Below.refl w.heap.size w).alloc (Nat.le_refl _) _
   ·have q2:decide ((L:Int)≤(n:Int))=false:=decide_eq_false (by omega)
    have HN:Hid (findGo lenLeast n (d - 1)=R):=Lib.hid (by
     have h:=HGo.out
     rw[show d=(d - 1)+1 by omega,findGo,if_neg (by rw[show d - 1+1=d by omega,hL];exact hlt)]at h
     exact h)
    clear hs hL hE
    go_wp2_with (go_at_call 139;refine(HC0.out _).mono ?_;rintro e w' ⟨rfl,rfl⟩)
    go_round
    case rel=>exact⟨d - 1,by omega,by have:=HS.out;congr 1;push_cast;omega,HN.out⟩
    case measure=>have:=HS.out;simp[intOf];omega
set_option maxHeartbeats 1000000 in
set_option maxRecDepth 100000 in
theorem finddst_calls (n:Nat) (w:World) (hn0:dstLeast 0≤n) (hn:n≤32768) :
  Calls Tryz.prog 138 #[.int .i64 n,.int .i64 0,.int .i64 29,.func (.func 140) #[] #[]] w fun e w'=>e= .returned (.agg #[.int .i64 ((0+dstD n:Nat):Int),.int .i64 (dstBits (dstD n):Int),.int .u64 ((n - dstLeast (dstD n):Nat):Int)])∧Below w.heap.size w w':=by
 have HC:=Lib.hid (fun (d:Nat) (hd:d<30) (W:World)=>distof_calls d W hd)
 have HLE:=Lib.hid dstLeast_le
 obtain⟨R,hR⟩:∃ R,dstD n=R:=⟨_,rfl⟩
 have HR:Hid (findGo dstLeast n 29=R):=Lib.hid hR
 have hl1:dstLeast R≤n:=by rw[← hR];exact findGo_least dstLeast n hn0 29
 have hlr:R≤29:=by rw[← hR];exact findGo_le _ _ _
 rw[hR]
 clear hR
 have B0:=Lib.hid ((Below.refl w.heap.size w).alloc (Nat.le_refl _) (.cells #[.int .i64 0,.int .i64 0,.int .u64 0] 188))
 go_enter Tryz.func138,Tryz.ntmps138
 go_wp2
 go_loop [9] (fun vs=>∃ d:Nat,d≤29∧vs= .int .i64 ((0+d:Nat):Int)∧findGo dstLeast n d=R) (fun vs=>(intOf vs - 0).toNat)
 case atStart=>exact⟨29,Nat.le_refl _,rfl,HR.out⟩
 case round =>
  obtain⟨d,hd,rfl,hg⟩:=hrel
  have HGo:=Lib.hid hg
  clear hg
  rcases Nat.eq_zero_or_pos d with rfl|hpos
  ·have hR0:R=0:=HGo.out.symm
   subst hR0
   have HC0:=Lib.hid (HC.out 0 (by omega))
   have hle:=HLE.out 0 (by omega)
   have hlb:dstLeast 0≤n:=hl1
   obtain⟨L,hL⟩:∃ L,dstLeast 0=L:=⟨_,rfl⟩
   obtain⟨E,hE⟩:∃ E,dstBits 0=E:=⟨_,rfl⟩
   rw[hL,hE]at hle HC0
   have HLz:=Lib.hid hL
   have HEz:=Lib.hid hE
   rw[hL]at hlb hl1
   clear hL hE
   have hnl:(n:Int) - (L:Int)=((n - L:Nat):Int):=by omega
   have q1:decide ((0:Int)<(0:Int))=false:=by decide
   rw[show(((0+0:Nat):Int))=0 from rfl]at HC0 ⊢
   go_upto_region 8 with(go_at_call 140;refine(HC0.out _).mono ?_;rintro e w' ⟨rfl,rfl⟩)
   go_wp2
   refine bodyPost_ret (v:= .agg #[.int .i64 0,.int .i64 (E:Int),.int .u64 ((n - L:Nat):Int)]) (results_c1 Tryz.results138 _ _ w.heap.size 188 _ _ rfl (World.alloc_heap_new _ _) Tryz.underlying188 rfl (by kernel_rfl)) rfl ⟨by rw[HLz.out,HEz.out];rfl,?_⟩
   exact(Below.refl w.heap.size w).alloc (Nat.le_refl _) _
  ·have q1:decide (0<(((0+d:Nat)):Int))=true:=decide_eq_true (by omega)
   have HC0:=Lib.hid (HC.out d (by omega))
   have hle:=HLE.out d (by omega)
   obtain⟨L,hL⟩:∃ L,dstLeast d=L:=⟨_,rfl⟩
   obtain⟨E,hE⟩:∃ E,dstBits d=E:=⟨_,rfl⟩
   rw[hL,hE]at hle HC0
   obtain⟨s,hs⟩:∃ s:Nat,0+d=s:=⟨_,rfl⟩
   rw[hs]at q1 HC0 ⊢
   have HS:=Lib.hid hs
   have hsr:0≤s∧s≤300:=by omega
   have q1':decide (0<s)=true:=decide_eq_true (by omega)
   have HLz:=Lib.hid hL
   have HEz:=Lib.hid hE
   by_cases hlt:L≤n
   ·have HRd:Hid (R=d):=Lib.hid (by
     have h:=HGo.out
     rw[show d=(d - 1)+1 by omega,findGo,if_pos (by rw[show d - 1+1=d by omega,hL];exact hlt)]at h
     omega)
    have q2:decide ((L:Int)≤(n:Int))=true:=decide_eq_true (by omega)
    have hnl:(n:Int) - (L:Int)=((n - L:Nat):Int):=by omega
    go_wp2_with (go_at_call 140;refine(HC0.out _).mono ?_;rintro e w' ⟨rfl,rfl⟩)
    refine bodyPost_ret (v:= .agg #[.int .i64 (s:Int),.int .i64 (E:Int),.int .u64 ((n - L:Nat):Int)]) (results_c1 Tryz.results138 _ _ w.heap.size 188 _ _ rfl (World.alloc_heap_new _ _) Tryz.underlying188 rfl (by kernel_rfl)) rfl ⟨by rw[HRd.out,HS.out,HLz.out,HEz.out],?_⟩
    exact(Below.refl w.heap.size w).alloc (Nat.le_refl _) _
   ·have q2:decide ((L:Int)≤(n:Int))=false:=decide_eq_false (by omega)
    have HN:Hid (findGo dstLeast n (d - 1)=R):=Lib.hid (by
     have h:=HGo.out
     rw[show d=(d - 1)+1 by omega,findGo,if_neg (by rw[show d - 1+1=d by omega,hL];exact hlt)]at h
     exact h)
    clear hs hL hE
    go_wp2_with (go_at_call 140;refine(HC0.out _).mono ?_;rintro e w' ⟨rfl,rfl⟩)
    go_round
    case rel=>exact⟨d - 1,by omega,by have:=HS.out;congr 1;push_cast;omega,HN.out⟩
    case measure=>have:=HS.out;simp[intOf];omega
theorem cell_at {w:World} {g:Nat} {cs:Array Value} {t:TypeId} (hg:w.heap[g]?=some (.cells cs t (0,0))) (i:Nat) (v:Value) (hi:cs[i]?=some v):w.cell? ⟨g,i,none⟩=some v∧w.frozen? ⟨g,i,none⟩=false:=by
 constructor
 ·unfold World.cell?
  simp only
  rw[hg]
  exact hi
 ·unfold World.frozen?
  simp only
  rw[hg]
  simp
def exLen (n:Nat):Ex:=⟨((257+lenD n:Nat):Int),lenBits (lenD n),n - lenLeast (lenD n)⟩
def exDst (n:Nat):Ex:=⟨((0+dstD n:Nat):Int),dstBits (dstD n),n - dstLeast (dstD n)⟩
set_option maxHeartbeats 1000000 in
set_option maxRecDepth 100000 in
theorem length_calls (n:Nat) (w:World) (hn0:3≤n) (hn:n≤258) :
  Calls Tryz.prog 114 #[.int .i64 n] w fun e w'=>e= .returned (.agg #[.int .i64 (exLen n).sym,.int .i64 ((exLen n).bits:Int),.int .u64 ((exLen n).val:Int)])∧Below w.heap.size w w':=by
 have HC:=Lib.hid (fun W=>findlen_calls n W (Nat.le_trans (by decide) hn0) (by omega))
 obtain⟨X,hX⟩:∃ X,((257+lenD n:Nat):Int)=X:=⟨_,rfl⟩
 obtain⟨Y,hY⟩:∃ Y:Nat,lenBits (lenD n)=Y:=⟨_,rfl⟩
 obtain⟨Z,hZ⟩:∃ Z:Nat,n - lenLeast (lenD n)=Z:=⟨_,rfl⟩
 have hE:exLen n=⟨X,Y,Z⟩:=by unfold exLen;rw[hX,hY,hZ]
 rw[hX,hY,hZ]at HC
 rw[hE]
 clear hX hY hZ hE
 have q1:decide ((n:Int)<3)=false:=decide_eq_false (by omega)
 have q2:decide (258<(n:Int))=false:=decide_eq_false (by omega)
 have hal:=Lib.hid ((Below.refl w.heap.size w).alloc (Nat.le_refl _) (.cells #[.int .i64 0,.int .i64 0,.int .u64 0] 188))
 go_enter Tryz.func114,Tryz.ntmps114
 go_upto_region 3 with fail
 obtain⟨W0,hW0⟩:∃ W0,W0=w.alloc (.cells #[.int .i64 0,.int .i64 0,.int .u64 0] 188):=⟨_,rfl⟩
 have HG:=Lib.hid (show W0.heap[w.heap.size]?=some (.cells #[.int .i64 0,.int .i64 0,.int .u64 0] 188 (0,0)) by rw[hW0];exact World.alloc_heap_new _ _)
 have HS:=Lib.hid (show w.heap.size<W0.heap.size by rw[hW0];simp)
 rw[← hW0]at hal ⊢
 clear hW0
 go_wp2_with (go_at_call 138;refine(HC.out _).mono ?_;rintro e w' ⟨rfl,hb⟩;have HZ:=Lib.hid ((hb.block w.heap.size HS.out).trans HG.out);have HB:=Lib.hid (hal.out.trans (hb.mono (Nat.le_of_lt HS.out)));obtain⟨c0,f0⟩:=cell_at HZ.out 0 _ rfl;obtain⟨c1,f1⟩:=cell_at HZ.out 1 _ rfl;obtain⟨c2,f2⟩:=cell_at HZ.out 2 _ rfl;clear hb)
 have z1:=heap_setCell_same _ w.heap.size 0 _ _ (.int .i64 X) HZ.out
 have z2:=heap_setCell_same _ w.heap.size 1 _ _ (.int .i64 (Y:Int)) z1
 have z3:=heap_setCell_same _ w.heap.size 2 _ _ (.int .u64 (Z:Int)) z2
 refine bodyPost_ret (v:= .agg #[.int .i64 X,.int .i64 (Y:Int),.int .u64 (Z:Int)]) (results_c1 Tryz.results114 _ _ w.heap.size 188 _ _ rfl z3 Tryz.underlying188 rfl (by kernel_rfl)) rfl ⟨rfl,?_⟩
 exact((HB.out.setCell (p:=⟨w.heap.size,0,none⟩) (Nat.le_refl _) _).setCell (p:=⟨w.heap.size,1,none⟩) (Nat.le_refl _) _).setCell (p:=⟨w.heap.size,2,none⟩) (Nat.le_refl _) _
set_option maxHeartbeats 1000000 in
set_option maxRecDepth 100000 in
theorem dist_calls (n:Nat) (w:World) (hn0:1≤n) (hn:n≤32768) :
  Calls Tryz.prog 115 #[.int .i64 n] w fun e w'=>e= .returned (.agg #[.int .i64 (exDst n).sym,.int .i64 ((exDst n).bits:Int),.int .u64 ((exDst n).val:Int)])∧Below w.heap.size w w':=by
 have HC:=Lib.hid (fun W=>finddst_calls n W (Nat.le_trans (by decide) hn0) (by omega))
 obtain⟨X,hX⟩:∃ X,((0+dstD n:Nat):Int)=X:=⟨_,rfl⟩
 obtain⟨Y,hY⟩:∃ Y:Nat,dstBits (dstD n)=Y:=⟨_,rfl⟩
 obtain⟨Z,hZ⟩:∃ Z:Nat,n - dstLeast (dstD n)=Z:=⟨_,rfl⟩
 have hE:exDst n=⟨X,Y,Z⟩:=by unfold exDst;rw[hX,hY,hZ]
 rw[hX,hY,hZ]at HC
 rw[hE]
 clear hX hY hZ hE
 have q1:decide ((n:Int)<1)=false:=decide_eq_false (by omega)
 have q2:decide (32768<(n:Int))=false:=decide_eq_false (by omega)
 have hal:=Lib.hid ((Below.refl w.heap.size w).alloc (Nat.le_refl _) (.cells #[.int .i64 0,.int .i64 0,.int .u64 0] 188))
 go_enter Tryz.func115,Tryz.ntmps115
 go_upto_region 3 with fail
 obtain⟨W0,hW0⟩:∃ W0,W0=w.alloc (.cells #[.int .i64 0,.int .i64 0,.int .u64 0] 188):=⟨_,rfl⟩
 have HG:=Lib.hid (show W0.heap[w.heap.size]?=some (.cells #[.int .i64 0,.int .i64 0,.int .u64 0] 188 (0,0)) by rw[hW0];exact World.alloc_heap_new _ _)
 have HS:=Lib.hid (show w.heap.size<W0.heap.size by rw[hW0];simp)
 rw[← hW0]at hal ⊢
 clear hW0
 go_wp2_with (go_at_call 138;refine(HC.out _).mono ?_;rintro e w' ⟨rfl,hb⟩;have HZ:=Lib.hid ((hb.block w.heap.size HS.out).trans HG.out);have HB:=Lib.hid (hal.out.trans (hb.mono (Nat.le_of_lt HS.out)));obtain⟨c0,f0⟩:=cell_at HZ.out 0 _ rfl;obtain⟨c1,f1⟩:=cell_at HZ.out 1 _ rfl;obtain⟨c2,f2⟩:=cell_at HZ.out 2 _ rfl;clear hb)
 have z1:=heap_setCell_same _ w.heap.size 0 _ _ (.int .i64 X) HZ.out
 have z2:=heap_setCell_same _ w.heap.size 1 _ _ (.int .i64 (Y:Int)) z1
 have z3:=heap_setCell_same _ w.heap.size 2 _ _ (.int .u64 (Z:Int)) z2
 refine bodyPost_ret (v:= .agg #[.int .i64 X,.int .i64 (Y:Int),.int .u64 (Z:Int)]) (results_c1 Tryz.results115 _ _ w.heap.size 188 _ _ rfl z3 Tryz.underlying188 rfl (by kernel_rfl)) rfl ⟨rfl,?_⟩
 exact((HB.out.setCell (p:=⟨w.heap.size,0,none⟩) (Nat.le_refl _) _).setCell (p:=⟨w.heap.size,1,none⟩) (Nat.le_refl _) _).setCell (p:=⟨w.heap.size,2,none⟩) (Nat.le_refl _) _
end Go.Proofs.YtgiogemkomgkhaaGreatDoor.Bk
