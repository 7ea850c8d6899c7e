/-
  match.Tokens: the tokens of a text, at a level.
-/
import Derived.Test.YtgiogemkomgkhaaGreatDoorKTk
import Derived.WalkMore
import Derived.Scope
import Derived.ScopeJumps
set_option linter.unusedVariables false
set_option linter.unusedSimpArgs false
namespace Go.Proofs.YtgiogemkomgkhaaGreatDoor.Mt
open Go.RowKit Go.Shelf Mg Bw Bk Cn Zp Rf
theorem tokGo_fuel (t:List Nat) (hs:Nat→Int) (depth:Nat) (lazy:Bool):∀ m m2 i (H:Int→Nat) (pv:List Nat),t.length≤i+m→t.length≤i+m2→tokGo t hs depth lazy m i H pv=tokGo t hs depth lazy m2 i H pv
 | 0,0,_,_,_,_,_=>rfl
 | 0,m2+1,i,H,pv,h1,h2=>by rw[tokGo,tokGo,if_pos (by omega)]
 | m+1,0,i,H,pv,h1,h2=>by rw[tokGo,tokGo,if_pos (by omega)]
 | m+1,m2+1,i,H,pv,h1,h2=>by
  rw[tokGo,tokGo]
  split
  ·rfl
  ·split
   ·rw[tokGo_fuel t hs depth lazy m m2 _ _ _ (by omega) (by omega)]
   ·rw[tokGo_fuel t hs depth lazy m m2 _ _ _ (by omega) (by omega)]
theorem tok_byte {t:List Nat} {hs:Nat→Int} {depth:Nat} {lazy:Bool} {i:Nat} {H:Int→Nat} {pv:List Nat} (hi:i<t.length) (h:takeP t pv H hs depth i lazy=0) :
  tokGo t hs depth lazy (t.length - i) i H pv=⟨(t.getD i 0:Nat),0,0⟩::tokGo t hs depth lazy (t.length - (i+1)) (i+1) (entH t hs H i) (entP t hs H pv i):=by
 rw[show t.length - i=(t.length - (i+1))+1 by omega,tokGo,if_neg (by omega),if_pos h]
theorem tok_match {t:List Nat} {hs:Nat→Int} {depth:Nat} {lazy:Bool} {i n:Nat} {H:Int→Nat} {pv:List Nat} (hi:i<t.length) (h:takeP t pv H hs depth i lazy=n) (h0:n≠0) :
  tokGo t hs depth lazy (t.length - i) i H pv=⟨0,(n:Nat),((longP t pv H hs depth i).2:Nat)⟩::tokGo t hs depth lazy (t.length - (i+n)) (i+n) (entHn t hs H pv i n).1 (entHn t hs H pv i n).2:=by
 rw[show t.length - i=(t.length - (i+1))+1 by omega,tokGo,if_neg (by omega),if_neg (by rw[h];exact h0),h]
 rw[tokGo_fuel t hs depth lazy (t.length - (i+1)) (t.length - (i+n)) _ _ _ (by omega) (by omega)]
theorem turn_app {p:Nat→Prop} {w W W2:World} {r:Option Nat} (h:Turn p w W) (hg:W.grownBy W2 r) (hr:∀ k,r=some k→w.heap.size≤k):Turn p w W2 :=
 ⟨hg.os.trans h.os,hg.tape.trans h.tape,hg.output.trans h.output,Nat.le_trans h.size hg.size,fun k hk hp=>(hg.block k (Nat.lt_of_lt_of_le hk h.size) (fun e=>by have:=hr k e.symm;omega)).trans (h.block k hk hp)⟩
theorem FinAt.mono {w:World} {f b g n m at' depth:Nat} {t:ByteArray} {H:Int→Nat} {pv:List Nat} (h:FinAt w f b g n at' depth t H pv) (hm:n≤m):FinAt w f b g m at' depth t H pv:=⟨h.blk,h.map.mono hm,h.row,h.len,h.ne⟩
theorem FinAt.lt {w:World} {f b g n at' depth:Nat} {t:ByteArray} {H:Int→Nat} {pv:List Nat} (h:FinAt w f b g n at' depth t H pv):b<w.heap.size∧g<w.heap.size:=by
 obtain⟨es,cl,hm⟩:=h.map.obj
 exact⟨(Array.getElem?_eq_some_iff.1 hm).1,(Array.getElem?_eq_some_iff.1 h.row).1⟩
set_option maxHeartbeats 8000000 in
set_option maxRecDepth 100000 in
theorem tokens_calls (f b g at' depth:Nat) (t:ByteArray) (lazy:Bool) (H:Int→Nat) (pv:List Nat) (w:World) (hF:FinAt w f b g at' at' depth t H pv) (hA:Ahead H pv at') (hat:at'≤t.size) (ht:t.size≤100000) (hd:depth≤1073741824) :
  Calls Tryz.prog 89 #[.pointer (some ⟨f,0,none⟩),.bool lazy] w fun e w'=>∃ v,e= .returned v∧w'.ownsRow w.heap.size 151 3 v (tokGo (strN t) (hashV (strN t)) depth lazy ((strN t).length - at') at' H pv).length (toksC (tokGo (strN t) (hashV (strN t)) depth lazy ((strN t).length - at') at' H pv))∧Turn (fun k=>k=b∨k=g) w w':=by
 have hii:Tryz.prog.info? 151=some ttk:=by kernel_rfl
 have hiz0:ttk.zero=some (.agg #[.int .u8 0,.int .i64 0,.int .i64 0]):=by kernel_rfl
 have hiz1:ttk.size=3:=by kernel_rfl
 have hiz2:ttk.bytes=24:=by kernel_rfl
 have hTL:(strN t).length=t.size:=strN_len t
 have HTL:=Lib.hid hTL
 obtain⟨ts,hts⟩:∃ ts,tokGo (strN t) (hashV (strN t)) depth lazy ((strN t).length - at') at' H pv=ts:=⟨_,rfl⟩
 have HTS:Hid ([]++tokGo (strN t) (hashV (strN t)) depth lazy ((strN t).length - at') at' H pv=ts):=Lib.hid (by rw[List.nil_append];exact hts)
 rw[hts]
 have HF:=Lib.hid hF
 have HA:=Lib.hid hA
 have hlt0:=hF.lt
 have N0:=Lib.hid (World.ownsRow_nil w w.heap.size 151 3)
 obtain⟨c1, -⟩:=cell_at hF.blk 1 _ rfl
 clear hF hA hTL hts
 go_enter Tryz.func89,Tryz.ntmps89
 go_wp2_with fail
 go_step3
 go_wp2_with fail
 go_step3
 go_wp2_with fail
 clear c1
 go_loopw [5,6] (fun vo vi wr=>∃ (i:Nat) (H1:Int→Nat) (pv1:List Nat) (dn:List Tok),vi= .int .i64 i∧i≤t.size∧FinAt wr f b g i at' depth t H1 pv1∧Ahead H1 pv1 i∧dn++tokGo (strN t) (hashV (strN t)) depth lazy ((strN t).length - i) i H1 pv1=ts∧dn.length≤i∧wr.ownsRow w.heap.size 151 3 vo dn.length (toksC dn)∧Turn (fun k=>k=b∨k=g) w wr) (fun _ vi _=>t.size - (intOf vi).toNat)
 case atStart=>exact⟨at',H,pv,[],rfl,hat,HF.out,HA.out,HTS.out,Nat.zero_le _,N0.out,Turn.refl _ _⟩
 case round =>
  obtain⟨i,H1,pv1,dn,rfl,hi,hfi,hai,hdn,hdl,hown,htu⟩:=hrel
  obtain⟨c0, -⟩:=cell_at hfi.blk 0 _ rfl
  have HFI:=Lib.hid hfi
  have HAI:=Lib.hid hai
  have HDN:=Lib.hid hdn
  have HOW:=Lib.hid hown
  have HTU:=Lib.hid htu
  have hwz:w.heap.size≤wr.heap.size:=htu.size
  have hNB:∀ k,u5.ownBlock=some k→¬ (k=b∨k=g):=fun k hk e=>by
   have:=(hown.lt k hk).1
   rcases e with e|e<;>omega
  have HNB:=Lib.hid hNB
  clear hfi hai hdn hown htu hNB HTS HF HA
  by_cases hlt:i<t.size
  ·have q1:decide ((i:Int)<(t.size:Int))=true:=decide_eq_true (by omega)
   have q1':decide (i<t.size)=true:=decide_eq_true hlt
   have HLG:=Lib.hid (longest_calls f b g i at' depth i t H1 pv1 wr HFI.out HAI.out hi (by omega) hd)
   have HOK:=Lib.hid (longP_ok (t:=strN t) (hs:=hashV (strN t)) (depth:=depth) HAI.out)
   have HTKD:Hid (takeP (strN t) pv1 H1 (hashV (strN t)) depth i lazy=if 0<(longP (strN t) pv1 H1 (hashV (strN t)) depth i).1∧lazy=true∧(longP (strN t) pv1 H1 (hashV (strN t)) depth i).1<258∧(longP (strN t) pv1 H1 (hashV (strN t)) depth i).1<(longP (strN t) (entP (strN t) (hashV (strN t)) H1 pv1 i) (entH (strN t) (hashV (strN t)) H1 i) (hashV (strN t)) depth (i+1)).1 then 0 else(longP (strN t) pv1 H1 (hashV (strN t)) depth i).1):=Lib.hid rfl
   have HMT:=Lib.hid (fun n h h0=>tok_match (t:=strN t) (hs:=hashV (strN t)) (depth:=depth) (lazy:=lazy) (i:=i) (n:=n) (H:=H1) (pv:=pv1) (by rw[HTL.out];exact hlt) h h0)
   have HBT:=Lib.hid (fun h=>tok_byte (t:=strN t) (hs:=hashV (strN t)) (depth:=depth) (lazy:=lazy) (i:=i) (H:=H1) (pv:=pv1) (by rw[HTL.out];exact hlt) h)
   obtain⟨L1,hL1⟩:∃ L1,(longP (strN t) pv1 H1 (hashV (strN t)) depth i).1=L1:=⟨_,rfl⟩
   obtain⟨L2,hL2⟩:∃ L2,(longP (strN t) pv1 H1 (hashV (strN t)) depth i).2=L2:=⟨_,rfl⟩
   rw[hL1]at HLG HOK HTKD
   rw[hL2]at HLG HOK HMT
   have hL258:L1≤258:=HOK.out.1.1
   clear hL1 hL2
   go_wp2_with fail
   refine HLG.out.mono ?_
   rintro e w5 ⟨rfl,hq5⟩
   have HF5:Hid (FinAt w5 f b g i at' depth t H1 pv1):=Lib.hid (by obtain⟨q,h⟩:=hq5;rw[h];exact HFI.out.drewN q)
   have HT5:Hid (Turn (fun k=>k=b∨k=g) wr w5):=Lib.hid (by obtain⟨q,h⟩:=hq5;rw[h];exact Turn.drewN wr q)
   clear hq5 c0
   go_wp2_with fail
   refine(enter_calls f b g i at' depth i t H1 pv1 w5 HF5.out hlt (by omega) (by omega)).mono ?_
   rintro e w6 ⟨rfl,hf6,ht6⟩
   have HF6:=Lib.hid hf6
   have HT6:=Lib.hid (HT5.out.trans ht6)
   have HA6:=Lib.hid (ahead_ent (t:=strN t) (hs:=hashV (strN t)) HAI.out)
   have HO6:=Lib.hid (HT6.out.own HOW.out HNB.out)
   clear hf6 ht6
   by_cases hL0:L1=0
   ·have q2:decide (0<(L1:Int))=false:=decide_eq_false (by omega)
    have q2':decide (0<L1)=false:=decide_eq_false (by omega)
    have HTK:Hid (takeP (strN t) pv1 H1 (hashV (strN t)) depth i lazy=0):=Lib.hid (by rw[HTKD.out,if_neg (by omega)];exact hL0)
    have q3:((L1:Int) == 0)=true:=by rw[hL0];rfl
    have q3':(L1 == 0)=true:=by rw[hL0];rfl
    clear hL0
    have HDN2:Hid ((dn ++ [⟨(((strN t).getD i 0:Nat):Int),0,0⟩])++tokGo (strN t) (hashV (strN t)) depth lazy ((strN t).length - (i+1)) (i+1) (entH (strN t) (hashV (strN t)) H1 i) (entP (strN t) (hashV (strN t)) H1 pv1 i)=ts):=Lib.hid (by
     rw[List.append_assoc,← HDN.out,HBT.out HTK.out]
     rfl)
    have hg:=strN_getD t i hlt
    obtain⟨y,hy⟩:∃ y,(strN t).getD i 0=y:=⟨_,rfl⟩
    rw[hy]at HDN2 hg
    have hyt:((t[i].toNat:Nat):Int)=(y:Int):=by rw[← hg]
    obtain⟨c0, -⟩:=cell_at HF6.out.blk 0 _ rfl
    have i0:(0:Int)≤(i:Int):=by omega
    have i1:(i:Int)<(t.size:Int):=by omega
    clear hg hy
    go_wp2_with (at_builtin;refine wpList_append_at _ rfl _ _ 129 rfl w.heap.size 151 ttk (.agg #[.int .u8 0,.int .i64 0,.int .i64 0]) 3 24 Tryz.underlying129 hii hiz0 hiz1 hiz2 rfl (by decide) _ _ _ rfl (HO6.out.alloc _) ⟨w6.heap.size,0,none⟩ 1 1 (tokC ⟨(y:Int),0,0⟩) rfl rfl ?c1 ?c2 ?c3 ?c4 ?c5 ?_)
    case c1=>exact new_cells w6 (tokC ⟨(y:Int),0,0⟩) _
    case c2=>exact tokC_one _
    case c3=>unfold maxLen;omega
    case c4=>omega
    case c5=>have:=HT6.out.size;simp;omega
    intro v8 w8 hown1 hg1 hfr
    have HX8:Hid (Below w6.heap.size w6 (w6.alloc (.cells (tokC ⟨(y:Int),0,0⟩).toArray 151))):=Lib.hid ((Below.refl _ _).alloc (Nat.le_refl _) _)
    have HG8:Hid ((w6.alloc (.cells (tokC ⟨(y:Int),0,0⟩).toArray 151)).grownBy w8 u5.ownBlock):=Lib.hid hg1
    have HF8:Hid (FinAt w8 f b g (i+1) at' depth t (entH (strN t) (hashV (strN t)) H1 i) (entP (strN t) (hashV (strN t)) H1 pv1 i)):=Lib.hid ((HF6.out.below HX8.out).heap (fun k hk=>HG8.out.block k (by
     have hl:=HF6.out.lt
     have hf:=(Array.getElem?_eq_some_iff.1 HF6.out.blk).1
     have:=HX8.out.size
     rcases hk with rfl|rfl|rfl<;>omega) (fun e=>by
     rcases hk with rfl|rfl|rfl
     ·have hb:=(HF6.out.below HX8.out).blk
      exact own_ne (HO6.out.alloc _) hb (by decide) e.symm
     ·exact HNB.out _ e.symm (.inl rfl)
     ·exact HNB.out _ e.symm (.inr rfl))))
    have HO8:Hid (w8.ownsRow w.heap.size 151 3 v8 (dn ++ [(⟨(y:Int),0,0⟩:Tok)]).length (toksC (dn ++ [⟨(y:Int),0,0⟩]))):=Lib.hid (by
     rw[toksC_snoc,List.length_append]
     exact hown1)
    have HT8:Hid (Turn (fun k=>k=b∨k=g) w w8):=Lib.hid (turn_app ((HTU.out.trans HT6.out).trans (Turn.of_below HX8.out)) hg1 (fun k e=>(HO6.out.lt k e).1))
    clear hown1 hg1 hfr c0 hyt
    go_wp2
    go_roundw
    case rel=>exact⟨i+1,_,_,dn ++ [(⟨(y:Int),0,0⟩:Tok)],by go_num,by omega,HF8.out,HA6.out,HDN2.out,by rw[List.length_append];simp;omega,HO8.out,HT8.out⟩
    case measure=>simp[intOf];omega
   ·have q2:decide (0<(L1:Int))=true:=decide_eq_true (by omega)
    have q2':decide (0<L1)=true:=decide_eq_true (by omega)
    have q3:((L1:Int) == 0)=false:=beq_eq_false_iff_ne.2 (by omega)
    have q3':(L1 == 0)=false:=beq_eq_false_iff_ne.2 hL0
    cases lazy with
    | false =>
     have HTK:Hid (takeP (strN t) pv1 H1 (hashV (strN t)) depth i false=L1):=Lib.hid (by rw[HTKD.out,if_neg (fun h=>by have:=h.2.1;cases this)])
     obtain⟨n1,hn1⟩:∃ n1,L1=n1+1:=⟨L1 - 1,by omega⟩
     have HDN2:Hid ((dn ++ [(⟨0,(L1:Nat),(L2:Nat)⟩:Tok)])++tokGo (strN t) (hashV (strN t)) depth false ((strN t).length - (i+L1)) (i+L1) (entHn (strN t) (hashV (strN t)) H1 pv1 i L1).1 (entHn (strN t) (hashV (strN t)) H1 pv1 i L1).2=ts):=Lib.hid (by
      rw[List.append_assoc,← HDN.out,HMT.out L1 HTK.out hL0]
      rfl)
     have hfit:i+L1≤t.size:=by
      have h:=(HOK.out.1.2 (by omega)).2.2.2.1
      rw[HTL.out]at h
      exact h
     have HAE:=Lib.hid (ahead_entn (t:=strN t) (hs:=hashV (strN t)) HAI.out L1)
     have hmn:(L1:Int) - 1=(n1:Int):=by omega
     have HN1:=Lib.hid hn1
     have hn1b:n1≤300:=by omega
     clear hn1
     go_wp2_with (at_builtin;refine wpList_append_at _ rfl _ _ 129 rfl w.heap.size 151 ttk (.agg #[.int .u8 0,.int .i64 0,.int .i64 0]) 3 24 Tryz.underlying129 hii hiz0 hiz1 hiz2 rfl (by decide) _ _ _ rfl (HO6.out.alloc _) ⟨w6.heap.size,0,none⟩ 1 1 (tokC ⟨0,(L1:Nat),(L2:Nat)⟩) rfl rfl ?c1 ?c2 ?c3 ?c4 ?c5 ?_)
     case c1=>exact new_cells w6 (tokC ⟨0,(L1:Nat),(L2:Nat)⟩) _
     case c2=>exact tokC_one _
     case c3=>unfold maxLen;omega
     case c4=>omega
     case c5=>have:=HT6.out.size;simp;omega
     intro v8 w8 hown1 hg1 hfr
     have HX8:Hid (Below w6.heap.size w6 (w6.alloc (.cells (tokC ⟨0,(L1:Nat),(L2:Nat)⟩).toArray 151))):=Lib.hid ((Below.refl _ _).alloc (Nat.le_refl _) _)
     have HG8:Hid ((w6.alloc (.cells (tokC ⟨0,(L1:Nat),(L2:Nat)⟩).toArray 151)).grownBy w8 u5.ownBlock):=Lib.hid hg1
     have HF8:Hid (FinAt w8 f b g (i+1) at' depth t (entH (strN t) (hashV (strN t)) H1 i) (entP (strN t) (hashV (strN t)) H1 pv1 i)):=Lib.hid ((HF6.out.below HX8.out).heap (fun k hk=>HG8.out.block k (by
      have hl:=HF6.out.lt
      have hf:=(Array.getElem?_eq_some_iff.1 HF6.out.blk).1
      have:=HX8.out.size
      rcases hk with rfl|rfl|rfl<;>omega) (fun e=>by
      rcases hk with rfl|rfl|rfl
      ·have hb:=(HF6.out.below HX8.out).blk
       exact own_ne (HO6.out.alloc _) hb (by decide) e.symm
      ·exact HNB.out _ e.symm (.inl rfl)
      ·exact HNB.out _ e.symm (.inr rfl))))
     have HO8:Hid (w8.ownsRow w.heap.size 151 3 v8 (dn ++ [(⟨0,(L1:Nat),(L2:Nat)⟩:Tok)]).length (toksC (dn ++ [⟨0,(L1:Nat),(L2:Nat)⟩]))):=Lib.hid (by
      rw[toksC_snoc,List.length_append]
      exact hown1)
     have HT8:Hid (Turn (fun k=>k=b∨k=g) w w8):=Lib.hid (turn_app ((HTU.out.trans HT6.out).trans (Turn.of_below HX8.out)) hg1 (fun k e=>(HO6.out.lt k e).1))
     clear hown1 hg1 hfr
     go_wp2
     clear hmn
     go_loopw [6,72] (fun vi vj wr=>∃ j:Nat,vj= .int .i64 j∧j≤n1∧vi= .int .i64 ((i+j:Nat):Int)∧FinAt wr f b g (i+(j+1)) at' depth t (entHn (strN t) (hashV (strN t)) H1 pv1 i (j+1)).1 (entHn (strN t) (hashV (strN t)) H1 pv1 i (j+1)).2∧wr.ownsRow w.heap.size 151 3 v8 (dn ++ [(⟨0,(L1:Nat),(L2:Nat)⟩:Tok)]).length (toksC (dn ++ [(⟨0,(L1:Nat),(L2:Nat)⟩:Tok)]))∧Turn (fun k=>k=b∨k=g) w wr) (fun _ vj _=>n1 - (intOf vj).toNat)
     case atStart=>exact⟨0,rfl,Nat.zero_le _,rfl,HF8.out,HO8.out,HT8.out⟩
     case round =>
      obtain⟨j,rfl,hj,rfl,hfj,hoj,htj⟩:=hrel
      have HFJ:=Lib.hid hfj
      have HOJ:=Lib.hid hoj
      have HTJ:=Lib.hid htj
      have HNJ:Hid (∀ k,v8.ownBlock=some k→¬ (k=b∨k=g)):=Lib.hid (fun k hk e=>by
       have:=(hoj.lt k hk).1
       rcases e with e|e<;>omega)
      clear hfj hoj htj HF8 HO8 HT8
      by_cases hjn:j<n1
      ·have q8:decide ((j:Int)<(n1:Int))=true:=decide_eq_true (by omega)
       have q8':decide (j<n1)=true:=decide_eq_true hjn
       obtain⟨i2,hi2⟩:∃ i2,i+(j+1)=i2:=⟨_,rfl⟩
       have hil:i2<t.size:=by have:=HN1.out;omega
       have e2:((i+j:Nat):Int)+1=(i2:Int):=by omega
       have HEN:=Lib.hid (enter_calls f b g (i+(j+1)) at' depth (i+(j+1)) t _ _ wr HFJ.out (by omega) (by omega) (by omega))
       have HE1:Hid ((entHn (strN t) (hashV (strN t)) H1 pv1 i (j+1+1)).1=entH (strN t) (hashV (strN t)) (entHn (strN t) (hashV (strN t)) H1 pv1 i (j+1)).1 i2):=Lib.hid (by rw[← hi2];rfl)
       have HE2:Hid ((entHn (strN t) (hashV (strN t)) H1 pv1 i (j+1+1)).2=entP (strN t) (hashV (strN t)) (entHn (strN t) (hashV (strN t)) H1 pv1 i (j+1)).1 (entHn (strN t) (hashV (strN t)) H1 pv1 i (j+1)).2 i2):=Lib.hid (by rw[← hi2];rfl)
       rw[hi2]at HEN
       have HI3:Hid (i2+1=i+(j+1+1)):=Lib.hid (by omega)
       obtain⟨ij,hij⟩:∃ ij,i+j=ij:=⟨_,rfl⟩
       have HI4:Hid (i2=i+(j+1)):=Lib.hid (by omega)
       rw[hij]at e2 ⊢
       have e2':(ij:Int)+1=(i2:Int):=e2
       have hijb:ij≤200000:=by omega
       clear hi2 hij
       go_wp2_with fail
       refine HEN.out.mono ?_
       rintro e w9 ⟨rfl,hf9,ht9⟩
       have HF9:Hid (FinAt w9 f b g (i+(j+1+1)) at' depth t (entHn (strN t) (hashV (strN t)) H1 pv1 i (j+1+1)).1 (entHn (strN t) (hashV (strN t)) H1 pv1 i (j+1+1)).2):=Lib.hid (by
        rw[HE1.out,HE2.out,← HI3.out]
        exact hf9)
       have HO9:=Lib.hid (ht9.own HOJ.out HNJ.out)
       have HT9:=Lib.hid (HTJ.out.trans ht9)
       clear hf9 ht9
       go_wp2
       go_roundw
       case rel=>exact⟨j+1,by go_num,by omega,by rw[HI4.out],HF9.out,HO9.out,HT9.out⟩
       case measure=>simp[intOf];omega
      ·have q8:decide ((j:Int)<(n1:Int))=false:=decide_eq_false (by omega)
       have q8':decide (j<n1)=false:=decide_eq_false hjn
       have hjl:j+1=L1:=by have:=HN1.out;omega
       have HFE:Hid (FinAt wr f b g (i+L1) at' depth t (entHn (strN t) (hashV (strN t)) H1 pv1 i L1).1 (entHn (strN t) (hashV (strN t)) H1 pv1 i L1).2):=Lib.hid (by rw[← hjl];exact HFJ.out)
       have HI5:Hid (i+L1=i+j+1):=Lib.hid (by omega)
       have hijb:i+j≤200000:=by omega
       obtain⟨ij,hij⟩:∃ ij,i+j=ij:=⟨_,rfl⟩
       rw[hij]at HI5 hijb ⊢
       clear hjl hij
       go_wp2
       go_roundw
       case rel=>exact⟨i+L1,_,_,dn ++ [(⟨0,(L1:Nat),(L2:Nat)⟩:Tok)],by rw[HI5.out];go_num,hfit,HFE.out,HAE.out,HDN2.out,by rw[List.length_append];simp;omega,HOJ.out,HTJ.out⟩
       case measure=>have:=HI5.out;simp[intOf];omega
    | true =>
     by_cases h258:L1<258
     ·have q4:decide ((L1:Int)<258)=true:=decide_eq_true (by omega)
      have HLG2:=Lib.hid (longest_calls f b g (i+1) at' depth (i+1) t _ _ w6 HF6.out HA6.out (by omega) (by omega) hd)
      obtain⟨M1,hM1⟩:∃ M1,(longP (strN t) (entP (strN t) (hashV (strN t)) H1 pv1 i) (entH (strN t) (hashV (strN t)) H1 i) (hashV (strN t)) depth (i+1)).1=M1:=⟨_,rfl⟩
      rw[hM1]at HLG2 HTKD
      clear hM1
      go_upto_block 7 with fail
      refine HLG2.out.mono ?_
      rintro e w7 ⟨rfl,hq7⟩
      have HF7:Hid (FinAt w7 f b g (i+1) at' depth t (entH (strN t) (hashV (strN t)) H1 i) (entP (strN t) (hashV (strN t)) H1 pv1 i)):=Lib.hid (by obtain⟨q,h⟩:=hq7;rw[h];exact HF6.out.drewN q)
      have HT7:Hid (Turn (fun k=>k=b∨k=g) wr w7):=Lib.hid (by obtain⟨q,h⟩:=hq7;rw[h];exact HT6.out.trans (Turn.drewN w6 q))
      have HO7:=Lib.hid (HT7.out.own HOW.out HNB.out)
      clear hq7
      by_cases hml:L1<M1
      ·have q5:decide ((L1:Int)<(M1:Int))=true:=decide_eq_true (by omega)
       have q5':decide (L1<M1)=true:=decide_eq_true hml
       have HTK:Hid (takeP (strN t) pv1 H1 (hashV (strN t)) depth i true=0):=Lib.hid (by rw[HTKD.out,if_pos ⟨by omega,by simp,h258,hml⟩])
       have HDN2:Hid ((dn ++ [⟨(((strN t).getD i 0:Nat):Int),0,0⟩])++tokGo (strN t) (hashV (strN t)) depth true ((strN t).length - (i+1)) (i+1) (entH (strN t) (hashV (strN t)) H1 i) (entP (strN t) (hashV (strN t)) H1 pv1 i)=ts):=Lib.hid (by
        rw[List.append_assoc,← HDN.out,HBT.out HTK.out]
        rfl)
       have hg:=strN_getD t i hlt
       obtain⟨y,hy⟩:∃ y,(strN t).getD i 0=y:=⟨_,rfl⟩
       rw[hy]at HDN2 hg
       have hyt:((t[i].toNat:Nat):Int)=(y:Int):=by rw[← hg]
       obtain⟨c0, -⟩:=cell_at HF7.out.blk 0 _ rfl
       have i0:(0:Int)≤(i:Int):=by omega
       have i1:(i:Int)<(t.size:Int):=by omega
       clear hg hy
       go_wp2_with (at_builtin;refine wpList_append_at _ rfl _ _ 129 rfl w.heap.size 151 ttk (.agg #[.int .u8 0,.int .i64 0,.int .i64 0]) 3 24 Tryz.underlying129 hii hiz0 hiz1 hiz2 rfl (by decide) _ _ _ rfl (HO7.out.alloc _) ⟨w7.heap.size,0,none⟩ 1 1 (tokC ⟨(y:Int),0,0⟩) rfl rfl ?c1 ?c2 ?c3 ?c4 ?c5 ?_)
       case c1=>exact new_cells w7 (tokC ⟨(y:Int),0,0⟩) _
       case c2=>exact tokC_one _
       case c3=>unfold maxLen;omega
       case c4=>omega
       case c5=>have:=HT7.out.size;simp;omega
       intro v8 w8 hown1 hg1 hfr
       have HX8:Hid (Below w7.heap.size w7 (w7.alloc (.cells (tokC ⟨(y:Int),0,0⟩).toArray 151))):=Lib.hid ((Below.refl _ _).alloc (Nat.le_refl _) _)
       have HG8:Hid ((w7.alloc (.cells (tokC ⟨(y:Int),0,0⟩).toArray 151)).grownBy w8 u5.ownBlock):=Lib.hid hg1
       have HF8:Hid (FinAt w8 f b g (i+1) at' depth t (entH (strN t) (hashV (strN t)) H1 i) (entP (strN t) (hashV (strN t)) H1 pv1 i)):=Lib.hid ((HF7.out.below HX8.out).heap (fun k hk=>HG8.out.block k (by
        have hl:=HF7.out.lt
        have hf:=(Array.getElem?_eq_some_iff.1 HF7.out.blk).1
        have:=HX8.out.size
        rcases hk with rfl|rfl|rfl<;>omega) (fun e=>by
        rcases hk with rfl|rfl|rfl
        ·have hb:=(HF7.out.below HX8.out).blk
         exact own_ne (HO7.out.alloc _) hb (by decide) e.symm
        ·exact HNB.out _ e.symm (.inl rfl)
        ·exact HNB.out _ e.symm (.inr rfl))))
       have HO8:Hid (w8.ownsRow w.heap.size 151 3 v8 (dn ++ [(⟨(y:Int),0,0⟩:Tok)]).length (toksC (dn ++ [⟨(y:Int),0,0⟩]))):=Lib.hid (by
        rw[toksC_snoc,List.length_append]
        exact hown1)
       have HT8:Hid (Turn (fun k=>k=b∨k=g) w w8):=Lib.hid (turn_app ((HTU.out.trans HT7.out).trans (Turn.of_below HX8.out)) hg1 (fun k e=>(HO7.out.lt k e).1))
       clear hown1 hg1 hfr c0 hyt
       go_wp2
       go_roundw
       case rel=>exact⟨i+1,_,_,dn ++ [(⟨(y:Int),0,0⟩:Tok)],by go_num,by omega,HF8.out,HA6.out,HDN2.out,by rw[List.length_append];simp;omega,HO8.out,HT8.out⟩
       case measure=>simp[intOf];omega
      ·have q5:decide ((L1:Int)<(M1:Int))=false:=decide_eq_false (by omega)
       have q5':decide (L1<M1)=false:=decide_eq_false hml
       have HTK:Hid (takeP (strN t) pv1 H1 (hashV (strN t)) depth i true=L1):=Lib.hid (by rw[HTKD.out,if_neg (fun h=>hml h.2.2.2)])
       obtain⟨n1,hn1⟩:∃ n1,L1=n1+1:=⟨L1 - 1,by omega⟩
       have HDN2:Hid ((dn ++ [(⟨0,(L1:Nat),(L2:Nat)⟩:Tok)])++tokGo (strN t) (hashV (strN t)) depth true ((strN t).length - (i+L1)) (i+L1) (entHn (strN t) (hashV (strN t)) H1 pv1 i L1).1 (entHn (strN t) (hashV (strN t)) H1 pv1 i L1).2=ts):=Lib.hid (by
        rw[List.append_assoc,← HDN.out,HMT.out L1 HTK.out hL0]
        rfl)
       have hfit:i+L1≤t.size:=by
        have h:=(HOK.out.1.2 (by omega)).2.2.2.1
        rw[HTL.out]at h
        exact h
       have HAE:=Lib.hid (ahead_entn (t:=strN t) (hs:=hashV (strN t)) HAI.out L1)
       have hmn:(L1:Int) - 1=(n1:Int):=by omega
       have HN1:=Lib.hid hn1
       have hn1b:n1≤300:=by omega
       clear hn1
       go_wp2_with (at_builtin;refine wpList_append_at _ rfl _ _ 129 rfl w.heap.size 151 ttk (.agg #[.int .u8 0,.int .i64 0,.int .i64 0]) 3 24 Tryz.underlying129 hii hiz0 hiz1 hiz2 rfl (by decide) _ _ _ rfl (HO7.out.alloc _) ⟨w7.heap.size,0,none⟩ 1 1 (tokC ⟨0,(L1:Nat),(L2:Nat)⟩) rfl rfl ?c1 ?c2 ?c3 ?c4 ?c5 ?_)
       case c1=>exact new_cells w7 (tokC ⟨0,(L1:Nat),(L2:Nat)⟩) _
       case c2=>exact tokC_one _
       case c3=>unfold maxLen;omega
       case c4=>omega
       case c5=>have:=HT7.out.size;simp;omega
       intro v8 w8 hown1 hg1 hfr
       have HX8:Hid (Below w7.heap.size w7 (w7.alloc (.cells (tokC ⟨0,(L1:Nat),(L2:Nat)⟩).toArray 151))):=Lib.hid ((Below.refl _ _).alloc (Nat.le_refl _) _)
       have HG8:Hid ((w7.alloc (.cells (tokC ⟨0,(L1:Nat),(L2:Nat)⟩).toArray 151)).grownBy w8 u5.ownBlock):=Lib.hid hg1
       have HF8:Hid (FinAt w8 f b g (i+1) at' depth t (entH (strN t) (hashV (strN t)) H1 i) (entP (strN t) (hashV (strN t)) H1 pv1 i)):=Lib.hid ((HF7.out.below HX8.out).heap (fun k hk=>HG8.out.block k (by
        have hl:=HF7.out.lt
        have hf:=(Array.getElem?_eq_some_iff.1 HF7.out.blk).1
        have:=HX8.out.size
        rcases hk with rfl|rfl|rfl<;>omega) (fun e=>by
        rcases hk with rfl|rfl|rfl
        ·have hb:=(HF7.out.below HX8.out).blk
         exact own_ne (HO7.out.alloc _) hb (by decide) e.symm
        ·exact HNB.out _ e.symm (.inl rfl)
        ·exact HNB.out _ e.symm (.inr rfl))))
       have HO8:Hid (w8.ownsRow w.heap.size 151 3 v8 (dn ++ [(⟨0,(L1:Nat),(L2:Nat)⟩:Tok)]).length (toksC (dn ++ [⟨0,(L1:Nat),(L2:Nat)⟩]))):=Lib.hid (by
        rw[toksC_snoc,List.length_append]
        exact hown1)
       have HT8:Hid (Turn (fun k=>k=b∨k=g) w w8):=Lib.hid (turn_app ((HTU.out.trans HT7.out).trans (Turn.of_below HX8.out)) hg1 (fun k e=>(HO7.out.lt k e).1))
       clear hown1 hg1 hfr
       go_wp2
       clear hmn
       go_loopw [6,72] (fun vi vj wr=>∃ j:Nat,vj= .int .i64 j∧j≤n1∧vi= .int .i64 ((i+j:Nat):Int)∧FinAt wr f b g (i+(j+1)) at' depth t (entHn (strN t) (hashV (strN t)) H1 pv1 i (j+1)).1 (entHn (strN t) (hashV (strN t)) H1 pv1 i (j+1)).2∧wr.ownsRow w.heap.size 151 3 v8 (dn ++ [(⟨0,(L1:Nat),(L2:Nat)⟩:Tok)]).length (toksC (dn ++ [(⟨0,(L1:Nat),(L2:Nat)⟩:Tok)]))∧Turn (fun k=>k=b∨k=g) w wr) (fun _ vj _=>n1 - (intOf vj).toNat)
       case atStart=>exact⟨0,rfl,Nat.zero_le _,rfl,HF8.out,HO8.out,HT8.out⟩
       case round =>
        obtain⟨j,rfl,hj,rfl,hfj,hoj,htj⟩:=hrel
        have HFJ:=Lib.hid hfj
        have HOJ:=Lib.hid hoj
        have HTJ:=Lib.hid htj
        have HNJ:Hid (∀ k,v8.ownBlock=some k→¬ (k=b∨k=g)):=Lib.hid (fun k hk e=>by
         have:=(hoj.lt k hk).1
         rcases e with e|e<;>omega)
        clear hfj hoj htj HF8 HO8 HT8
        by_cases hjn:j<n1
        ·have q8:decide ((j:Int)<(n1:Int))=true:=decide_eq_true (by omega)
         have q8':decide (j<n1)=true:=decide_eq_true hjn
         obtain⟨i2,hi2⟩:∃ i2,i+(j+1)=i2:=⟨_,rfl⟩
         have hil:i2<t.size:=by have:=HN1.out;omega
         have e2:((i+j:Nat):Int)+1=(i2:Int):=by omega
         have HEN:=Lib.hid (enter_calls f b g (i+(j+1)) at' depth (i+(j+1)) t _ _ wr HFJ.out (by omega) (by omega) (by omega))
         have HE1:Hid ((entHn (strN t) (hashV (strN t)) H1 pv1 i (j+1+1)).1=entH (strN t) (hashV (strN t)) (entHn (strN t) (hashV (strN t)) H1 pv1 i (j+1)).1 i2):=Lib.hid (by rw[← hi2];rfl)
         have HE2:Hid ((entHn (strN t) (hashV (strN t)) H1 pv1 i (j+1+1)).2=entP (strN t) (hashV (strN t)) (entHn (strN t) (hashV (strN t)) H1 pv1 i (j+1)).1 (entHn (strN t) (hashV (strN t)) H1 pv1 i (j+1)).2 i2):=Lib.hid (by rw[← hi2];rfl)
         rw[hi2]at HEN
         have HI3:Hid (i2+1=i+(j+1+1)):=Lib.hid (by omega)
         obtain⟨ij,hij⟩:∃ ij,i+j=ij:=⟨_,rfl⟩
         have HI4:Hid (i2=i+(j+1)):=Lib.hid (by omega)
         rw[hij]at e2 ⊢
         have e2':(ij:Int)+1=(i2:Int):=e2
         have hijb:ij≤200000:=by omega
         clear hi2 hij
         go_wp2_with fail
         refine HEN.out.mono ?_
         rintro e w9 ⟨rfl,hf9,ht9⟩
         have HF9:Hid (FinAt w9 f b g (i+(j+1+1)) at' depth t (entHn (strN t) (hashV (strN t)) H1 pv1 i (j+1+1)).1 (entHn (strN t) (hashV (strN t)) H1 pv1 i (j+1+1)).2):=Lib.hid (by
          rw[HE1.out,HE2.out,← HI3.out]
          exact hf9)
         have HO9:=Lib.hid (ht9.own HOJ.out HNJ.out)
         have HT9:=Lib.hid (HTJ.out.trans ht9)
         clear hf9 ht9
         go_wp2
         go_roundw
         case rel=>exact⟨j+1,by go_num,by omega,by rw[HI4.out],HF9.out,HO9.out,HT9.out⟩
         case measure=>simp[intOf];omega
        ·have q8:decide ((j:Int)<(n1:Int))=false:=decide_eq_false (by omega)
         have q8':decide (j<n1)=false:=decide_eq_false hjn
         have hjl:j+1=L1:=by have:=HN1.out;omega
         have HFE:Hid (FinAt wr f b g (i+L1) at' depth t (entHn (strN t) (hashV (strN t)) H1 pv1 i L1).1 (entHn (strN t) (hashV (strN t)) H1 pv1 i L1).2):=Lib.hid (by rw[← hjl];exact HFJ.out)
         have HI5:Hid (i+L1=i+j+1):=Lib.hid (by omega)
         have hijb:i+j≤200000:=by omega
         obtain⟨ij,hij⟩:∃ ij,i+j=ij:=⟨_,rfl⟩
         rw[hij]at HI5 hijb ⊢
         clear hjl hij
         go_wp2
         go_roundw
         case rel=>exact⟨i+L1,_,_,dn ++ [(⟨0,(L1:Nat),(L2:Nat)⟩:Tok)],by rw[HI5.out];go_num,hfit,HFE.out,HAE.out,HDN2.out,by rw[List.length_append];simp;omega,HOJ.out,HTJ.out⟩
         case measure=>have:=HI5.out;simp[intOf];omega
     ·have q4:decide ((L1:Int)<258)=false:=decide_eq_false (by omega)
      have HTK:Hid (takeP (strN t) pv1 H1 (hashV (strN t)) depth i true=L1):=Lib.hid (by rw[HTKD.out,if_neg (fun h=>h258 h.2.2.1)])
      obtain⟨n1,hn1⟩:∃ n1,L1=n1+1:=⟨L1 - 1,by omega⟩
      have HDN2:Hid ((dn ++ [(⟨0,(L1:Nat),(L2:Nat)⟩:Tok)])++tokGo (strN t) (hashV (strN t)) depth true ((strN t).length - (i+L1)) (i+L1) (entHn (strN t) (hashV (strN t)) H1 pv1 i L1).1 (entHn (strN t) (hashV (strN t)) H1 pv1 i L1).2=ts):=Lib.hid (by
       rw[List.append_assoc,← HDN.out,HMT.out L1 HTK.out hL0]
       rfl)
      have hfit:i+L1≤t.size:=by
       have h:=(HOK.out.1.2 (by omega)).2.2.2.1
       rw[HTL.out]at h
       exact h
      have HAE:=Lib.hid (ahead_entn (t:=strN t) (hs:=hashV (strN t)) HAI.out L1)
      have hmn:(L1:Int) - 1=(n1:Int):=by omega
      have HN1:=Lib.hid hn1
      have hn1b:n1≤300:=by omega
      clear hn1
      go_wp2_with (at_builtin;refine wpList_append_at _ rfl _ _ 129 rfl w.heap.size 151 ttk (.agg #[.int .u8 0,.int .i64 0,.int .i64 0]) 3 24 Tryz.underlying129 hii hiz0 hiz1 hiz2 rfl (by decide) _ _ _ rfl (HO6.out.alloc _) ⟨w6.heap.size,0,none⟩ 1 1 (tokC ⟨0,(L1:Nat),(L2:Nat)⟩) rfl rfl ?c1 ?c2 ?c3 ?c4 ?c5 ?_)
      case c1=>exact new_cells w6 (tokC ⟨0,(L1:Nat),(L2:Nat)⟩) _
      case c2=>exact tokC_one _
      case c3=>unfold maxLen;omega
      case c4=>omega
      case c5=>have:=HT6.out.size;simp;omega
      intro v8 w8 hown1 hg1 hfr
      have HX8:Hid (Below w6.heap.size w6 (w6.alloc (.cells (tokC ⟨0,(L1:Nat),(L2:Nat)⟩).toArray 151))):=Lib.hid ((Below.refl _ _).alloc (Nat.le_refl _) _)
      have HG8:Hid ((w6.alloc (.cells (tokC ⟨0,(L1:Nat),(L2:Nat)⟩).toArray 151)).grownBy w8 u5.ownBlock):=Lib.hid hg1
      have HF8:Hid (FinAt w8 f b g (i+1) at' depth t (entH (strN t) (hashV (strN t)) H1 i) (entP (strN t) (hashV (strN t)) H1 pv1 i)):=Lib.hid ((HF6.out.below HX8.out).heap (fun k hk=>HG8.out.block k (by
       have hl:=HF6.out.lt
       have hf:=(Array.getElem?_eq_some_iff.1 HF6.out.blk).1
       have:=HX8.out.size
       rcases hk with rfl|rfl|rfl<;>omega) (fun e=>by
       rcases hk with rfl|rfl|rfl
       ·have hb:=(HF6.out.below HX8.out).blk
        exact own_ne (HO6.out.alloc _) hb (by decide) e.symm
       ·exact HNB.out _ e.symm (.inl rfl)
       ·exact HNB.out _ e.symm (.inr rfl))))
      have HO8:Hid (w8.ownsRow w.heap.size 151 3 v8 (dn ++ [(⟨0,(L1:Nat),(L2:Nat)⟩:Tok)]).length (toksC (dn ++ [⟨0,(L1:Nat),(L2:Nat)⟩]))):=Lib.hid (by
       rw[toksC_snoc,List.length_append]
       exact hown1)
      have HT8:Hid (Turn (fun k=>k=b∨k=g) w w8):=Lib.hid (turn_app ((HTU.out.trans HT6.out).trans (Turn.of_below HX8.out)) hg1 (fun k e=>(HO6.out.lt k e).1))
      clear hown1 hg1 hfr
      go_wp2
      clear hmn
      go_loopw [6,72] (fun vi vj wr=>∃ j:Nat,vj= .int .i64 j∧j≤n1∧vi= .int .i64 ((i+j:Nat):Int)∧FinAt wr f b g (i+(j+1)) at' depth t (entHn (strN t) (hashV (strN t)) H1 pv1 i (j+1)).1 (entHn (strN t) (hashV (strN t)) H1 pv1 i (j+1)).2∧wr.ownsRow w.heap.size 151 3 v8 (dn ++ [(⟨0,(L1:Nat),(L2:Nat)⟩:Tok)]).length (toksC (dn ++ [(⟨0,(L1:Nat),(L2:Nat)⟩:Tok)]))∧Turn (fun k=>k=b∨k=g) w wr) (fun _ vj _=>n1 - (intOf vj).toNat)
      case atStart=>exact⟨0,rfl,Nat.zero_le _,rfl,HF8.out,HO8.out,HT8.out⟩
      case round =>
       obtain⟨j,rfl,hj,rfl,hfj,hoj,htj⟩:=hrel
       have HFJ:=Lib.hid hfj
       have HOJ:=Lib.hid hoj
       have HTJ:=Lib.hid htj
       have HNJ:Hid (∀ k,v8.ownBlock=some k→¬ (k=b∨k=g)):=Lib.hid (fun k hk e=>by
        have:=(hoj.lt k hk).1
        rcases e with e|e<;>omega)
       clear hfj hoj htj HF8 HO8 HT8
       by_cases hjn:j<n1
       ·have q8:decide ((j:Int)<(n1:Int))=true:=decide_eq_true (by omega)
        have q8':decide (j<n1)=true:=decide_eq_true hjn
        obtain⟨i2,hi2⟩:∃ i2,i+(j+1)=i2:=⟨_,rfl⟩
        have hil:i2<t.size:=by have:=HN1.out;omega
        have e2:((i+j:Nat):Int)+1=(i2:Int):=by omega
        have HEN:=Lib.hid (enter_calls f b g (i+(j+1)) at' depth (i+(j+1)) t _ _ wr HFJ.out (by omega) (by omega) (by omega))
        have HE1:Hid ((entHn (strN t) (hashV (strN t)) H1 pv1 i (j+1+1)).1=entH (strN t) (hashV (strN t)) (entHn (strN t) (hashV (strN t)) H1 pv1 i (j+1)).1 i2):=Lib.hid (by rw[← hi2];rfl)
        have HE2:Hid ((entHn (strN t) (hashV (strN t)) H1 pv1 i (j+1+1)).2=entP (strN t) (hashV (strN t)) (entHn (strN t) (hashV (strN t)) H1 pv1 i (j+1)).1 (entHn (strN t) (hashV (strN t)) H1 pv1 i (j+1)).2 i2):=Lib.hid (by rw[← hi2];rfl)
        rw[hi2]at HEN
        have HI3:Hid (i2+1=i+(j+1+1)):=Lib.hid (by omega)
        obtain⟨ij,hij⟩:∃ ij,i+j=ij:=⟨_,rfl⟩
        have HI4:Hid (i2=i+(j+1)):=Lib.hid (by omega)
        rw[hij]at e2 ⊢
        have e2':(ij:Int)+1=(i2:Int):=e2
        have hijb:ij≤200000:=by omega
        clear hi2 hij
        go_wp2_with fail
        refine HEN.out.mono ?_
        rintro e w9 ⟨rfl,hf9,ht9⟩
        have HF9:Hid (FinAt w9 f b g (i+(j+1+1)) at' depth t (entHn (strN t) (hashV (strN t)) H1 pv1 i (j+1+1)).1 (entHn (strN t) (hashV (strN t)) H1 pv1 i (j+1+1)).2):=Lib.hid (by
         rw[HE1.out,HE2.out,← HI3.out]
         exact hf9)
        have HO9:=Lib.hid (ht9.own HOJ.out HNJ.out)
        have HT9:=Lib.hid (HTJ.out.trans ht9)
        clear hf9 ht9
        go_wp2
        go_roundw
        case rel=>exact⟨j+1,by go_num,by omega,by rw[HI4.out],HF9.out,HO9.out,HT9.out⟩
        case measure=>simp[intOf];omega
       ·have q8:decide ((j:Int)<(n1:Int))=false:=decide_eq_false (by omega)
        have q8':decide (j<n1)=false:=decide_eq_false hjn
        have hjl:j+1=L1:=by have:=HN1.out;omega
        have HFE:Hid (FinAt wr f b g (i+L1) at' depth t (entHn (strN t) (hashV (strN t)) H1 pv1 i L1).1 (entHn (strN t) (hashV (strN t)) H1 pv1 i L1).2):=Lib.hid (by rw[← hjl];exact HFJ.out)
        have HI5:Hid (i+L1=i+j+1):=Lib.hid (by omega)
        have hijb:i+j≤200000:=by omega
        obtain⟨ij,hij⟩:∃ ij,i+j=ij:=⟨_,rfl⟩
        rw[hij]at HI5 hijb ⊢
        clear hjl hij
        go_wp2
        go_roundw
        case rel=>exact⟨i+L1,_,_,dn ++ [(⟨0,(L1:Nat),(L2:Nat)⟩:Tok)],by rw[HI5.out];go_num,hfit,HFE.out,HAE.out,HDN2.out,by rw[List.length_append];simp;omega,HOJ.out,HTJ.out⟩
        case measure=>have:=HI5.out;simp[intOf];omega
  ·have q1:decide ((i:Int)<(t.size:Int))=false:=decide_eq_false (by omega)
   have q1':decide (i<t.size)=false:=decide_eq_false hlt
   have HEQ:Hid (dn=ts):=Lib.hid (by
    have h:=HDN.out
    rw[show(strN t).length - i=0 by rw[HTL.out];omega,tokGo,List.append_nil]at h
    exact h)
   obtain⟨Ao,co,rfl⟩:=own_form HOW.out
   go_wp2
   try rw[Exit.noGoto_ret]
   go_ret
   refine⟨_,rfl,?_,HTU.out⟩
   rw[← HEQ.out]
   exact HOW.out
end Go.Proofs.YtgiogemkomgkhaaGreatDoor.Mt
namespace Go.Proofs.YtgiogemkomgkhaaGreatDoor.Mt
open Go.RowKit Go.Shelf Mg Bw Bk Cn Zp Rf
def depT:List Nat:= [0,4,8,16,16,32,64,128,512,1073741824]
theorem depT_le:∀ i,i<10→depT.getD i 0≤1073741824:=by decide
def DepT (w:World):Prop:=∃ cs t fr,w.heap[2]?=some (.cells cs t fr)∧∀ i,i<10→cs[i]?=some (.int .i64 (depT.getD i 0:Nat))
theorem DepT.cell {w:World} (h:DepT w) (i:Nat) (hi:i<10):w.cell? ⟨2,i,none⟩=some (.int .i64 (depT.getD i 0:Nat)):=by
 obtain⟨cs,t,fr,hg,hc⟩:=h
 unfold World.cell?
 rw[hg]
 exact hc i hi
theorem DepT.lt {w:World} (h:DepT w):2<w.heap.size:=by
 obtain⟨cs,t,fr,hg,hc⟩:=h
 exact(Array.getElem?_eq_some_iff.1 hg).1
theorem DepT.below {w w':World} {b:Nat} (h:DepT w) (hb:Below b w w') (hl:2<b):DepT w':=by
 obtain⟨cs,t,fr,hg,hc⟩:=h
 exact⟨cs,t,fr,(hb.block _ hl).trans hg,hc⟩
theorem newE_ahead (t:ByteArray) (n:Nat):Ahead (newE t n).1 (newE t n).2 n:=by
 have h:=ahead_entn (t:=strN t) (hs:=hashV (strN t)) (ahead_zero t.size) n
 rw[Nat.zero_add]at h
 exact h
def tokP (a s:ByteArray) (level:Nat):List Tok :=
 if level=0 then byT (strN s)
 else tokGo (strN (a++s)) (hashV (strN (a++s))) (depT.getD level 0) (decide (4≤level)) ((strN (a++s)).length - a.size) a.size (newE (a++s) a.size).1 (newE (a++s) a.size).2
theorem tokP_ok (a s:ByteArray) (level:Nat) :
  expTs (strI a) (tokP a s level)=strI a++strI s∧fitTs (strI a) (tokP a s level)∧(∀ x∈tokP a s level,tokIn x∧goodT x=true∧0≤x.b∧x.b<256)∧(tokP a s level).length≤s.size:=by
 unfold tokP
 split
 ·refine⟨exp_by _ _,fit_by _ _,in_by _ (strN_lt s),?_⟩
  rw[byT_len,strN_len]
  exact Nat.le_refl _
 ·have hl:(strN (a++s)).length=a.size+s.size:=by rw[strN_len,ByteArray.size_append]
  obtain⟨h1,h2,h3,h4⟩:=tokGo_ok (strN (a++s)) (hashV (strN (a++s))) (depT.getD level 0) (decide (4≤level)) (strN_lt _) ((strN (a++s)).length - a.size) a.size _ _ (newE_ahead (a++s) a.size) (by omega) (by omega)
  have e:intsN ((strN (a++s)).take a.size)=strI a:=by
   rw[strN_append,List.take_append_of_le_length (by rw[strN_len];omega),List.take_of_length_le (by rw[strN_len];omega)]
   rfl
  rw[e]at h1 h2
  refine⟨?_,h2,h3,by omega⟩
  rw[h1,strN_append]
  unfold intsN strI
  rw[List.map_append]
def zeroT (l:List Nat) (k:Nat):List Tok:=byT (l.take k)++List.replicate (l.length - k) ⟨0,0,0⟩
theorem zeroT_len (l:List Nat) (k:Nat) (h:k≤l.length):(zeroT l k).length=l.length:=by
 unfold zeroT
 rw[List.length_append,byT_len,List.length_take,List.length_replicate]
 omega
theorem zeroT_end (l:List Nat):zeroT l l.length=byT l:=by
 unfold zeroT
 rw[List.take_length,Nat.sub_self,List.replicate_zero,List.append_nil]
theorem toksC_app (a b:List Tok):toksC (a++b)=toksC a++toksC b:=List.flatMap_append
theorem set_third {a b:List Value} {k:Nat} {x y z:Value} (h:a.length=k*3) (v:Value):(a++([x,y,z]++b)).toArray.setIfInBounds (k*3) v=(a++([v,y,z]++b)).toArray:=by
 apply Array.ext'
 rw[Array.toList_setIfInBounds]
 show(a++([x,y,z]++b)).set (k*3) v=_
 rw[← h,List.set_append_right _ _ (Nat.le_refl _),Nat.sub_self]
 rfl
theorem zeroT_next (l:List Nat) (k:Nat) (h:k<l.length):(toksC (zeroT l k)).toArray.setIfInBounds (k*3) (.int .u8 ((l.getD k 0:Nat):Int))=(toksC (zeroT l (k+1))).toArray:=by
 unfold zeroT
 rw[show l.length - k=(l.length - (k+1))+1 by omega,List.replicate_succ,List.take_succ_eq_append_getElem h]
 have e:byT (l.take k ++ [l[k]])=byT (l.take k) ++ [⟨(l[k]:Nat),0,0⟩]:=byT_snoc _ _
 rw[e,toksC_app,toksC_app,toksC_app]
 have e2:toksC ((⟨0,0,0⟩:Tok)::List.replicate (l.length - (k+1)) ⟨0,0,0⟩)= [.int .u8 0,.int .i64 0,.int .i64 0]++toksC (List.replicate (l.length - (k+1)) ⟨0,0,0⟩):=rfl
 rw[e2,set_third (by rw[toksC_len,byT_len,List.length_take];omega)]
 rw[List.getD_eq_getElem?_getD,List.getElem?_eq_getElem h,List.append_assoc]
 rfl
theorem made_toks (n:Nat):madeCells #[.int .u8 0,.int .i64 0,.int .i64 0] (n*3)=(toksC (List.replicate n ⟨0,0,0⟩)).toArray:=by
 apply Array.ext_getElem?
 intro i
 by_cases hi:i<n*3
 ·have h1:(toksC (List.replicate n ⟨0,0,0⟩))[i/3*3+i % 3]?=(tokC ⟨0,0,0⟩)[i % 3]?:=by
   have:=toksC_get (List.replicate n ⟨0,0,0⟩) (i/3) (by rw[List.length_replicate];omega) (i % 3) (by omega)
   rw[this,List.getElem_replicate]
  rw[show i/3*3+i % 3=i by omega]at h1
  have e2:(toksC (List.replicate n ⟨0,0,0⟩)).toArray[i]?=(toksC (List.replicate n ⟨0,0,0⟩))[i]?:=by simp
  rw[e2,h1]
  unfold madeCells
  simp only[Array.getElem?_map,Array.getElem?_range,hi,if_true,Option.map_some]
  rcases (by omega:i % 3=0∨i % 3=1∨i % 3=2) with h|h|h<;>simp[h,tokC]
 ·rw[Array.getElem?_eq_none (by rw[size_madeCells];omega),Array.getElem?_eq_none (by rw[List.size_toArray,toksC_len,List.length_replicate];omega)]
def ToksAt (a s:ByteArray) (level:Nat) (w:World) (e:Ending) (w':World):Prop :=
 ∃ v,e= .returned (.tuple #[v,.int .i64 0])∧w'.ownsRow w.heap.size 151 3 v (tokP a s level).length (toksC (tokP a s level))∧Below w.heap.size w w'
set_option maxHeartbeats 2000000 in
set_option maxRecDepth 100000 in
theorem tokens_any (a s:ByteArray) (level:Nat) (w:World) (h0:level≠0) (h9:level≤9) (ha:a.size≤32768) (hs:s.size≤60000) (hD:DepT w) :
  Calls Tryz.prog 71 #[.string a,.string s,.int .i64 level] w fun e w'=>ToksAt a s level w e w':=by
 have hdc:=hD.cell level (by omega)
 have hdl:=depT_le level (by omega)
 obtain⟨d,hd⟩:∃ d,depT.getD level 0=d:=⟨_,rfl⟩
 have HTP:Hid (tokP a s level=tokGo (strN (a++s)) (hashV (strN (a++s))) d (decide (4≤level)) ((strN (a++s)).length - a.size) a.size (newE (a++s) a.size).1 (newE (a++s) a.size).2):=Lib.hid (by
  unfold tokP
  rw[if_neg h0,hd])
 rw[hd]at hdc hdl
 have HNC:=Lib.hid (new_calls a s d w ha (by omega))
 have q1:decide ((level:Int)<0)=false:=decide_eq_false (by omega)
 have q2:decide (9<(level:Int))=false:=decide_eq_false (by omega)
 have q3:((level:Int) == 0)=false:=beq_eq_false_iff_ne.2 (by omega)
 have q3':(level == 0)=false:=beq_eq_false_iff_ne.2 h0
 obtain⟨lz,hlz⟩:∃ lz,decide (4≤level)=lz:=⟨_,rfl⟩
 rw[hlz]at HTP
 have q4:decide (4≤(level:Int))=lz:=by rw[← hlz];exact decide_eq_decide.2 (by omega)
 have i0:(0:Int)≤(level:Int):=by omega
 have i1:(level:Int)<10:=by omega
 clear hD hd hlz
 go_enter Tryz.func71,Tryz.ntmps71
 go_wp2_with fail
 refine HNC.out.mono ?_
 rintro e w2 ⟨f,b,g,rfl,hf2,hb2,h1,h2,h3⟩
 have HF2:=Lib.hid hf2
 have HB2:=Lib.hid hb2
 have HGE:Hid (w.heap.size≤b∧w.heap.size≤g):=Lib.hid ⟨h2,h3⟩
 clear hf2 hb2 hdc h1 h2 h3
 go_wp2_with fail
 refine(tokens_calls f b g a.size d (a++s) lz _ _ w2 HF2.out (newE_ahead _ _) (by rw[ByteArray.size_append];omega) (by rw[ByteArray.size_append];omega) hdl).mono ?_
 rintro e w3 ⟨v,rfl,ho3,ht3⟩
 have HO3:Hid (w3.ownsRow w.heap.size 151 3 v (tokP a s level).length (toksC (tokP a s level))):=Lib.hid (by
  rw[HTP.out]
  exact own_base ho3 HB2.out.size)
 have HB3:Hid (Below w.heap.size w w3):=Lib.hid (HB2.out.trans (ht3.below (fun k hk=>by rcases hk with rfl|rfl;exact HGE.out.1;exact HGE.out.2) HB2.out.size))
 clear ho3 ht3
 go_wp2
 go_ret2
 exact⟨v,rfl,HO3.out,HB3.out⟩
set_option maxHeartbeats 2000000 in
set_option maxRecDepth 100000 in
theorem tokens_zero (a s:ByteArray) (w:World) (hs:s.size≤60000) :
  Calls Tryz.prog 71 #[.string a,.string s,.int .i64 0] w fun e w'=>ToksAt a s 0 w e w':=by
 have hii:Tryz.prog.info? 151=some ttk:=by kernel_rfl
 have hiz0:ttk.zero=some (.agg #[.int .u8 0,.int .i64 0,.int .i64 0]):=by kernel_rfl
 have hiz1:ttk.size=3:=by kernel_rfl
 have hiz2:ttk.bytes=24:=by kernel_rfl
 obtain⟨n,hn⟩:∃ n,s.size=n:=⟨_,rfl⟩
 have HN:=Lib.hid hn
 have hmk:(Instr.makeSlice 129 (.int .i64 n) (.int .i64 n)).run Tryz.prog w= .ok (.slice (some ⟨w.heap.size,0,none⟩) n n) (w.alloc (.cells (toksC (zeroT (strN s) 0)).toArray 151)):=by
  have:=run_make (P:=Tryz.prog) w 129 151 ttk (.agg #[.int .u8 0,.int .i64 0,.int .i64 0]) Tryz.underlying129 hii hiz0 .i64 .i64 n n (by omega) (by omega) (by rw[hiz2];omega) (by omega)
  have e:zeroT (strN s) 0=List.replicate n ⟨0,0,0⟩:=by
   unfold zeroT
   rw[strN_len,hn]
   rfl
  rw[e,← made_toks]
  simpa[hiz1,Value.cells] using this
 have hn0:(s.size:Int)=(n:Int):=by rw[hn]
 have HTP:Hid (tokP a s 0=byT (strN s)):=Lib.hid rfl
 have hn6:n≤60000:=by omega
 obtain⟨B,hB⟩:∃ B,w.heap.size=B:=⟨_,rfl⟩
 have HB:=Lib.hid hB
 obtain⟨w1,hw1⟩:∃ w1,w.alloc (.cells (toksC (zeroT (strN s) 0)).toArray 151)=w1:=⟨_,rfl⟩
 have HG1:Hid (w1.heap[B]?=some (.cells (toksC (zeroT (strN s) 0)).toArray 151 (0,0))):=Lib.hid (by rw[← hw1,← hB];exact World.alloc_heap_new _ _)
 have HB1:Hid (Below w.heap.size w w1):=Lib.hid (by rw[← hw1];exact(Below.refl _ _).alloc (Nat.le_refl _) _)
 rw[hB,hw1]at hmk
 clear hw1 hB hn hii hiz0 hiz1 hiz2
 go_enter Tryz.func71,Tryz.ntmps71
 go_wp2_with fail
 clear hmk
 go_loopw [25] (fun vi wr=>∃ i:Nat,vi= .int .i64 i∧i≤n∧wr.heap[B]?=some (.cells (toksC (zeroT (strN s) i)).toArray 151 (0,0))∧Below w.heap.size w wr) (fun vi _=>n - (intOf vi).toNat)
 case atStart=>exact⟨0,rfl,Nat.zero_le _,HG1.out,HB1.out⟩
 case round =>
  obtain⟨i,rfl,hi,hg,hb⟩:=hrel
  have HG:=Lib.hid hg
  have HBL:=Lib.hid hb
  clear hg hb HG1 HB1
  by_cases hlt:i<n
  ·have q1:decide ((i:Int)<(n:Int))=true:=decide_eq_true (by omega)
   have q1':decide (i<n)=true:=decide_eq_true hlt
   have his:i<s.size:=by rw[HN.out];exact hlt
   have hlen:(toksC (zeroT (strN s) i)).length=n*3:=by rw[toksC_len,zeroT_len _ _ (by rw[strN_len];omega),strN_len,HN.out]
   obtain⟨y,c0,f0⟩:∃ y,wr.cell? ⟨B,i*3,none⟩=some y∧wr.frozen? ⟨B,i*3,none⟩=false:=by
    have hh:(toksC (zeroT (strN s) i)).toArray[i*3]?=some ((toksC (zeroT (strN s) i))[i*3]'(by rw[hlen];omega)):=by
     rw[List.getElem?_toArray,List.getElem?_eq_getElem (by rw[hlen];omega)]
    exact⟨_,cell_at HG.out (i*3) _ hh⟩
   have HNX:Hid ((wr.setCell ⟨B,i*3,none⟩ (.int .u8 (((strN s).getD i 0:Nat):Int))).heap[B]?=some (.cells (toksC (zeroT (strN s) (i+1))).toArray 151 (0,0))):=Lib.hid (by
    rw[heap_setCell_same wr B (i*3) _ _ _ HG.out,zeroT_next _ _ (by rw[strN_len];exact his)])
   have HBX:Hid (Below w.heap.size w (wr.setCell ⟨B,i*3,none⟩ (.int .u8 (((strN s).getD i 0:Nat):Int)))):=Lib.hid (HBL.out.setCell (p:=⟨B,i*3,none⟩) (by simp only;rw[HB.out];exact Nat.le_refl _) _)
   have hgd:=strN_getD s i his
   rw[hgd]at HNX HBX
   have i0:(0:Int)≤(i:Int):=by omega
   have i1:(i:Int)<(n:Int):=by omega
   have i2:(i:Int)<(s.size:Int):=by omega
   clear hlen hgd hn0
   go_wp2
   go_roundw
   case rel=>exact⟨i+1,by go_num,by omega,HNX.out,HBX.out⟩
   case measure=>simp[intOf];omega
  ·have q1:decide ((i:Int)<(n:Int))=false:=decide_eq_false (by omega)
   have q1':decide (i<n)=false:=decide_eq_false hlt
   have hin:i=(strN s).length:=by rw[strN_len,HN.out];omega
   have HGE:Hid (wr.heap[B]?=some (.cells (toksC (byT (strN s))).toArray 151 (0,0))):=Lib.hid (by
    have h:=HG.out
    rw[hin,zeroT_end]at h
    exact h)
   clear hin hn0
   go_wp2
   go_ret2
   have hbl:(byT (strN s)).length=n:=by rw[byT_len,strN_len,HN.out]
   refine⟨_,rfl,?_,HBL.out⟩
   rw[HTP.out,hbl]
   refine⟨by rw[toksC_len,hbl],.inr ⟨B,n,_,rfl,by rw[HB.out];exact Nat.le_refl _,HGE.out,Nat.le_refl _,by unfold maxLen;omega,by rw[List.size_toArray,toksC_len,hbl],?_⟩⟩
   exact List.take_of_length_le (by rw[toksC_len,hbl];exact Nat.le_refl _)
theorem tokensx_calls (a s:ByteArray) (level:Nat) (w:World) (h9:level≤9) (ha:a.size≤32768) (hs:s.size≤60000) (hD:DepT w) :
  Calls Tryz.prog 71 #[.string a,.string s,.int .i64 level] w fun e w'=>ToksAt a s level w e w':=by
 by_cases h0:level=0
 ·subst h0
  exact tokens_zero a s w hs
 ·exact tokens_any a s level w h0 h9 ha hs hD
end Go.Proofs.YtgiogemkomgkhaaGreatDoor.Mt
