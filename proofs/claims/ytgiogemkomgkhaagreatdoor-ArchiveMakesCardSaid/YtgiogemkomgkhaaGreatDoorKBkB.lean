/-
  What packed symbols tell, step by step: plain; and small facts on rows.
-/
import Derived.Test.YtgiogemkomgkhaaGreatDoorKBkA
import Derived.Test.YtgiogemkomgkhaaGreatDoorKCnAll
set_option linter.unusedVariables false
set_option linter.unusedSimpArgs false
namespace Go.Proofs.YtgiogemkomgkhaaGreatDoor.Bk
open Go.RowKit Go.Shelf Mg Bw
def ExAt (w:World) (A:Option Addr) (xs:List Ex):Prop:=∀ j (h:j<xs.length),∃ g o,A=some ⟨g,o,none⟩ ∧
 w.cell? ⟨g,o+j*3,none⟩=some (.int .i64 xs[j].sym)∧w.cell? ⟨g,o+j*3+1,none⟩=some (.int .i64 (xs[j].bits:Int))∧w.cell? ⟨g,o+j*3+2,none⟩=some (.int .u64 (xs[j].val:Int))
theorem ExAt.below {w w':World} {A:Option Addr} {ts:List Ex} (h:ExAt w A ts) (hb:Below w.heap.size w w'):ExAt w' A ts:=fun j hj=>by
 obtain⟨g,o,e,h1,h2,h3⟩:=h j hj
 exact⟨g,o,e,(hb.cell (World.block_lt_of_cell? w _ h1)).trans h1,(hb.cell (World.block_lt_of_cell? w _ h2)).trans h2,(hb.cell (World.block_lt_of_cell? w _ h3)).trans h3⟩
def intsV (l:List Int):List Value:=l.map (Value.int .i64)
theorem intsV_snoc (l:List Int) (x:Int):intsV (l ++ [x])=intsV l ++ [.int .i64 x]:=by simp[intsV]
theorem own_ne {w:World} {base:Nat} {e:TypeId} {size n:Nat} {v:Value} {xs:List Value} {g:Nat} {cs:Array Value} {t:TypeId} (h:w.ownsRow base e size v n xs) (hg:w.heap[g]?=some (.cells cs t (0,0))) (hne:t≠e):v.ownBlock≠some g:=fun he=>by
 rcases h.2 with⟨rfl, -⟩|⟨g',cap,cur,rfl, -,h1, -⟩
 ·cases he
 ·cases he
  rw[hg]at h1
  cases h1
  exact hne rfl
end Go.Proofs.YtgiogemkomgkhaaGreatDoor.Bk
namespace Go.Proofs.YtgiogemkomgkhaaGreatDoor.Bk
open Go.RowKit Go.Shelf Mg Bw
def fixL:List Int:=List.replicate 144 8++List.replicate 112 9++List.replicate 24 7++List.replicate 8 8
def fixD:List Int:=List.replicate 32 5
theorem fixL_ok:codeOk fixL false:= .inl (by decide +kernel)
theorem fixD_ok:codeOk fixD false:= .inl (by decide +kernel)
theorem fixL_left:∀ n,n≤15→0≤leftP (cntF fixL) n:=by decide +kernel
theorem fixD_left:∀ n,n≤15→0≤leftP (cntF fixD) n:=by decide +kernel
theorem fixL_range:∀ x∈fixL,0≤x∧x≤15:=by decide +kernel
theorem fixD_range:∀ x∈fixD,0≤x∧x≤15:=by decide +kernel
theorem fixL_len:fixL.length=288:=by decide +kernel
def fixN:Nat→Nat
 | 0=>0
 | 1=>144
 | 2=>256
 | 3=>280
 | _=>288
def fixB:Nat→Int
 | 0=>8
 | 1=>9
 | 2=>7
 | _=>8
theorem fixL_get:∀ k,k<4→∀ m,m<288→fixN k≤m→m<fixN (k+1)→fixL[m]?=some (fixB k):=by decide +kernel
theorem fixN_le:∀ k,k<4→fixN k≤fixN (k+1)∧fixN (k+1)≤288:=by decide
theorem fixL_take (k m:Nat) (hk:k<4) (h1:fixN k≤m) (h2:m<fixN (k+1)):fixL.take (m+1)=fixL.take m ++ [fixB k]:=by
 have h:=fixN_le k hk
 rw[List.take_add_one,fixL_get k hk m (by omega) h1 h2]
 rfl
theorem idx4 (k:Nat) (h:k<4) (W:World):(Instr.index 179 (.agg #[Value.int .i64 8,Value.int .i64 144,Value.int .i64 9,Value.int .i64 256,Value.int .i64 7,Value.int .i64 280,Value.int .i64 8,Value.int .i64 288]) (.int .i64 (k:Int))).run Tryz.prog W= .ok (.agg #[.int .i64 (fixB k),.int .i64 (fixN (k+1):Int)]) W:=by
 rcases k with _|_|_|_|k
 any_goals (exfalso;omega)
 all_goals kernel_rfl
theorem cell_of {w:World} {g:Nat} {cs:Array Value} {t:TypeId} (hg:w.heap[g]?=some (.cells cs t (0,0))) (i:Nat) (v:Value) (hi:cs[i]?=some v):w.cell? ⟨g,i,none⟩=some v∧w.frozen? ⟨g,i,none⟩=false:=by
 constructor
 ·unfold World.cell?
  simp only
  rw[hg]
  exact hi
 ·unfold World.frozen?
  simp only
  rw[hg]
  simp
theorem canon_mono {w:World} {b b' g:Nat} {ls:List Int} (h:CanonAt w b g ls) (hb:b'≤b):CanonAt w b' g ls:=by
 obtain⟨gl,cap,Wb,sv,f,hc,hl,hw,hr,ht,h1,h2,h3,h4⟩:=h.ex
 exact⟨gl,cap,Wb,sv,f,hc,hl,hw,hr,ht,by omega,by omega,by omega,h4⟩
theorem canon_coder {w:World} {b g G:Nat} {ls:List Int} {cs:Array Value} {fr:Nat×Nat} (h:CanonAt w b g ls) (hG:w.heap[G]?=some (.cells cs 183 fr)) (i:Nat) (v:Value):CanonAt (w.setCell ⟨G,i,none⟩ v) b g ls:=h.heap (fun k _ _ ⟨cs2,T,fr2,hc,hT⟩=>by
 refine Below.heap_setCell _ _ _ _ (fun e=>?_)
 simp only at e
 subst e
 rw[hG]at hc
 cases hc
 rcases hT with h|h|h<;>exact absurd h (by decide))
structure CoderAt (w:World) (b g:Nat) (ls ds:List Int):Prop where
 ex:∃ cs gs gd,w.heap[g]?=some (.cells cs 183 (0,0))∧cs[0]?=some (.pointer (some ⟨gs,0,none⟩))∧cs[1]?=some (.pointer (some ⟨gd,0,none⟩))∧b≤g∧CanonAt w b gs ls∧CanonAt w b gd ds
theorem rdi_own {w:World} {base g c:Nat} {ls:List Int} {n:Nat} (h:w.ownsRow base 3 1 (.slice (some ⟨g,0,none⟩) n c) n (intsV ls)):RdI w g 0 ls:=fun j hj=>by
 rw[Nat.zero_add,h.cellAt j (by have:=h.1;unfold intsV at this;rw[List.length_map]at this;omega)]
 unfold intsV
 rw[List.getElem?_map,List.getElem?_eq_getElem hj]
 rfl
def slen:Value→Nat
 | .slice _ n _=>n
 | _=>0
set_option maxHeartbeats 4000000 in
set_option maxRecDepth 100000 in
theorem fixed_calls (w:World) :
  Calls Tryz.prog 93 #[] w fun e w'=>∃ g,e= .returned (.pointer (some ⟨g,0,none⟩))∧CoderAt w' w.heap.size g fixL fixD∧Below w.heap.size w w':=by
 have hii:Tryz.prog.info? 3=some ti:=by kernel_rfl
 have hiz0:ti.zero=some (.int .i64 0):=by kernel_rfl
 have hiz1:ti.size=1:=by kernel_rfl
 have hiz2:ti.bytes=8:=by kernel_rfl
 have N0:=Lib.hid (World.ownsRow_nil w w.heap.size 3 1)
 have B0:=Lib.hid (Below.refl w.heap.size w)
 have HI:=Lib.hid idx4
 go_enter Tryz.func93,Tryz.ntmps93
 go_wp2
 go_loopw [1,11] (fun a k wr=>∃ (v:Value) (i:Nat),v=a∧k= .int .i64 i∧i≤4∧wr.ownsRow w.heap.size 3 1 v (fixN i) (intsV (fixL.take (fixN i)))∧Below w.heap.size w wr) (fun _ k _=>4 - (intOf k).toNat)
 case atStart=>exact⟨_,0,rfl,rfl,Nat.zero_le _,N0.out,B0.out⟩
 case round =>
  obtain⟨v,i,rfl,rfl,hi,hown,hbl⟩:=hrel
  have HO:=Lib.hid hown
  have HB:=Lib.hid hbl
  clear hown hbl
  by_cases hlt:i<4
  ·have q1:decide ((i:Int)<4)=true:=decide_eq_true (by omega)
   have hx:=HI.out i hlt
   obtain⟨hn1,hn2⟩:=fixN_le i hlt
   have HT:=Lib.hid (fun m=>fixL_take i m hlt)
   obtain⟨x,hx1⟩:∃ x,fixB i=x:=⟨_,rfl⟩
   obtain⟨U,hU⟩:∃ U,fixN (i+1)=U:=⟨_,rfl⟩
   obtain⟨L0,hL0⟩:∃ L0,fixN i=L0:=⟨_,rfl⟩
   have HU:=Lib.hid hU
   rw[hx1]at HT
   rw[hU]at hn1 hn2 HT
   rw[hL0]at hn1 HT HO
   simp only[hx1,hU]at hx
   clear hx1 hU hL0
   go_upto_region 5 with fail
   have B6':=HB.out.alloc HB.out.size (.cells #[.int .i64 x,.int .i64 (U:Int)] 178)
   have HO6':=HO.out.alloc (.cells #[.int .i64 x,.int .i64 (U:Int)] 178)
   obtain⟨W6,hW6⟩:∃ W6,W6=wr.alloc (.cells #[.int .i64 x,.int .i64 (U:Int)] 178):=⟨_,rfl⟩
   have hG0:W6.heap[wr.heap.size]?=some (.cells #[.int .i64 x,.int .i64 (U:Int)] 178 (0,0)):=by
    rw[hW6]
    exact heap_new _ _
   rw[← hW6]at B6' HO6' ⊢
   obtain⟨G,hG⟩:∃ G,G=wr.heap.size:=⟨_,rfl⟩
   rw[← hG]at hG0 ⊢
   have HG:=Lib.hid hG0
   have HB6:=Lib.hid B6'
   have HO6:=Lib.hid HO6'
   clear hG0 B6' HO6' hG hW6 hx
   go_wp2_with fail
   go_loopw [1] (fun a wx=>∃ (v2:Value) (m:Nat),v2=a∧L0≤m∧m≤U∧wx.ownsRow w.heap.size 3 1 v2 m (intsV (fixL.take m))∧wx.heap[G]?=W6.heap[G]?∧Below w.heap.size w wx) (fun a _=>U - slen a)
   case atStart=>exact⟨v,L0,rfl,Nat.le_refl _,hn1,HO6.out,rfl,HB6.out⟩
   case round =>
    obtain⟨v2,m,rfl,hm1,hm2,hown,hgx,hbl⟩:=hrel
    have HO2:=Lib.hid hown
    have HB2:=Lib.hid hbl
    have HGx:=Lib.hid hgx
    have hh:=hgx.trans HG.out
    have z0:wr.cell? ⟨G,0,none⟩=some (.int .i64 x):=by unfold World.cell?;simp only;rw[hh];rfl
    have z1:wr.cell? ⟨G,1,none⟩=some (.int .i64 (U:Int)):=by unfold World.cell?;simp only;rw[hh];rfl
    obtain⟨A2,c2,rfl⟩:=own_slice' hown
    clear hown hgx hbl
    by_cases hlm:m<U
    ·have q2:decide ((m:Int)<(U:Int))=true:=decide_eq_true (by omega)
     go_wp2_with (at_builtin;refine wpList_append_at _ rfl _ _ 55 rfl w.heap.size 3 ti (.int .i64 0) 1 8 Tryz.underlying55 hii hiz0 hiz1 hiz2 rfl (by decide) _ _ _ rfl (HO2.out.alloc _) ⟨wr.heap.size,0,none⟩ 1 1 [.int .i64 x] rfl rfl ?c1 ?c2 ?c3 ?c4 ?c5 ?_)
     case c1=>exact new_cells wr [.int .i64 x] _
     case c2=>simp[Value.oneCell']
     case c3=>unfold maxLen;omega
     case c4=>omega
     case c5=>have:=HB2.out.size;simp;omega
     intro v3 w3 hown1 hg1 hfr
     have hbl:Below w.heap.size w w3:=(HB2.out.alloc HB2.out.size _).grown hg1 (by have:=HB2.out.size;simp;omega) (fun r e=>(HO2.out.lt r e).1)
     have hG8:w3.heap[G]?=W6.heap[G]?:=by
      have hGlt:G<wr.heap.size:=(Array.getElem?_eq_some_iff.mp hh).1
      have ha:=((Below.refl wr.heap.size wr).alloc (Nat.le_refl _) (.cells #[.int .i64 x] 3)).block G hGlt
      exact(hg1.block G (by simp;omega) (fun e=>own_ne HO2.out hh (by decide) e.symm)).trans (ha.trans HGx.out)
     rw[← intsV_snoc,← HT.out m hm1 hlm]at hown1
     obtain⟨gv,cv,rfl,_,_⟩:=hown1.form (by omega)
     have HO7:=Lib.hid hown1
     have HB7:=Lib.hid hbl
     have HG8:=Lib.hid hG8
     clear hown1 hg1 hbl z0 z1 hfr hh hG8
     go_wp2
     go_roundw
     case rel=>exact⟨_,m+1,rfl,by omega,by omega,HO7.out,HG8.out,HB7.out⟩
     case measure=>simp[slen];omega
    ·have hfin:m=U:=by omega
     have q2:decide ((m:Int)<(U:Int))=false:=decide_eq_false (by omega)
     have HF2:Hid (wr.ownsRow w.heap.size 3 1 (.slice A2 m c2) (fixN (i+1)) (intsV (fixL.take (fixN (i+1))))):=Lib.hid (by
      rw[HU.out,← hfin]
      exact HO2.out)
     clear hfin
     go_wp2
     go_roundw
     case rel=>exact⟨_,i+1,rfl,by go_num,by omega,HF2.out,HB2.out⟩
     case measure=>simp[intOf];omega
  ·obtain rfl:i=4:=by omega
   obtain⟨g1,c1,rfl,_,_⟩:=HO.out.form (by decide)
   have HO1:Hid (wr.ownsRow w.heap.size 3 1 (.slice (some ⟨g1,0,none⟩) 288 c1) 288 (intsV fixL)):=Lib.hid (by
    have h:=HO.out
    rw[show fixN 4=288 from rfl,List.take_of_length_le (by rw[fixL_len];exact Nat.le_refl _)]at h
    exact h)
   rw[show fixN 4=288 from rfl]
   have q1:decide ((4:Int)<4)=false:=by decide
   have N1:=Lib.hid (World.ownsRow_nil wr wr.heap.size 3 1)
   have B1:=Lib.hid (Below.refl wr.heap.size wr)
   clear HO HI N0
   rw[show(((4:Nat):Int))=4 from rfl]
   obtain⟨w1,hw1⟩:∃ w1,w1=wr:=⟨_,rfl⟩
   rw[← hw1]at HO1 N1 B1 HB ⊢
   clear hw1
   go_wp2
   go_loopw [2,25] (fun a k wx=>∃ (v2:Value) (j:Nat),v2=a∧k= .int .i64 j∧j≤32∧wx.ownsRow w1.heap.size 3 1 v2 j (intsV (List.replicate j 5))∧Below w1.heap.size w1 wx) (fun _ k _=>32 - (intOf k).toNat)
   case atStart=>exact⟨_,0,rfl,rfl,by omega,N1.out,B1.out⟩
   case round =>
    obtain⟨v2,j,rfl,rfl,hj,hown,hbl⟩:=hrel
    have HO2:=Lib.hid hown
    have HB2:=Lib.hid hbl
    clear hown hbl
    by_cases hjl:j<32
    ·have q2:decide ((j:Int)<32)=true:=decide_eq_true (by omega)
     go_wp2_with (at_builtin;refine wpList_append_at _ rfl _ _ 55 rfl w1.heap.size 3 ti (.int .i64 0) 1 8 Tryz.underlying55 hii hiz0 hiz1 hiz2 rfl (by decide) _ _ _ rfl (HO2.out.alloc _) ⟨wr.heap.size,0,none⟩ 1 1 [.int .i64 5] rfl rfl ?c1 ?c2 ?c3 ?c4 ?c5 ?_)
     case c1=>exact new_cells wr [.int .i64 5] _
     case c2=>simp[Value.oneCell']
     case c3=>unfold maxLen;omega
     case c4=>omega
     case c5=>have:=HB2.out.size;simp;omega
     intro v3 w3 hown1 hg1 hfr
     have hbl:Below w1.heap.size w1 w3:=(HB2.out.alloc HB2.out.size _).grown hg1 (by have:=HB2.out.size;simp;omega) (fun r e=>(HO2.out.lt r e).1)
     rw[← intsV_snoc,← List.replicate_succ']at hown1
     obtain⟨gv,cv,rfl,_,_⟩:=hown1.form (by omega)
     have HO7:=Lib.hid hown1
     have HB7:=Lib.hid hbl
     clear hown1 hg1 hbl hfr
     go_wp2
     go_roundw
     case rel=>exact⟨_,j+1,rfl,by go_num,by omega,HO7.out,HB7.out⟩
     case measure=>simp[intOf];omega
    ·obtain rfl:j=32:=by omega
     have q2:decide ((32:Int)<32)=false:=by decide
     obtain⟨g2,c2,rfl,_,hg2⟩:=HO2.out.form (by decide)
     rw[show(((32:Nat):Int))=32 from rfl]
     have HD2:Hid (wr.ownsRow w1.heap.size 3 1 (.slice (some ⟨g2,0,none⟩) 32 c2) 32 (intsV fixD)):=HO2
     go_upto_region 13 with fail
     have B6':=(HB.out.trans (HB2.out.mono HB.out.size)).alloc (by have:=HB.out.size;have:=HB2.out.size;omega) (.cells #[.pointer none,.pointer none,.pointer none,.slice none 0 0,.int .i64 0,.int .i64 0,.int .i64 0] 183)
     have HO6':=HD2.out.alloc (.cells #[.pointer none,.pointer none,.pointer none,.slice none 0 0,.int .i64 0,.int .i64 0,.int .i64 0] 183)
     have hb1:=(HB2.out.alloc HB2.out.size (.cells #[.pointer none,.pointer none,.pointer none,.slice none 0 0,.int .i64 0,.int .i64 0,.int .i64 0] 183))
     obtain⟨W6,hW6⟩:∃ W6,W6=wr.alloc (.cells #[.pointer none,.pointer none,.pointer none,.slice none 0 0,.int .i64 0,.int .i64 0,.int .i64 0] 183):=⟨_,rfl⟩
     have hG0:W6.heap[wr.heap.size]?=some (.cells #[.pointer none,.pointer none,.pointer none,.slice none 0 0,.int .i64 0,.int .i64 0,.int .i64 0] 183 (0,0)):=by
      rw[hW6]
      exact heap_new _ _
     have HW:Hid (w.heap.size≤wr.heap.size):=Lib.hid (by have:=HB.out.size;have:=HB2.out.size;omega)
     rw[← hW6]at B6' HO6' hb1 ⊢
     obtain⟨G,hG⟩:∃ G,G=wr.heap.size:=⟨_,rfl⟩
     rw[← hG]at hG0 HW hg2 ⊢
     have HG:=Lib.hid hG0
     have HB6:=Lib.hid B6'
     have HO6:=Lib.hid HO6'
     have HR1:Hid (RdI W6 g1 0 fixL):=Lib.hid (rdi_own (own_below HO1.out hb1))
     have HR2:Hid (RdI W6 g2 0 fixD):=Lib.hid (rdi_own HO6')
     have HC1:=Lib.hid (newx_calls g1 0 288 c1 fixL false W6 fixL_len (by omega) HR1.out fixL_range fixL_left fixL_ok)
     clear hG0 B6' HO6' hG hW6 hb1 HO1 HO2 HD2 HB2 HB
     have HX2:=Lib.hid hg2
     go_upto_region 14 with(go_at_call 112;refine HC1.out.mono ?_;rintro e w3 ⟨gs,rfl,hcs,hbb⟩;have hz3:=(hbb.block G (Array.getElem?_eq_some_iff.1 HG.out).1).trans HG.out;obtain⟨hc0,hf0⟩:=cell_of hz3 0 _ rfl)
     have hz4:=heap_setCell_same w3 G 0 _ _ (.pointer (some ⟨gs,0,none⟩)) hz3
     have hcs4:=canon_coder hcs hz3 0 (.pointer (some ⟨gs,0,none⟩))
     have hb4:=(HB6.out.trans (hbb.mono HB6.out.size)).setCell (p:=⟨G,0,none⟩) HW.out (.pointer (some ⟨gs,0,none⟩))
     have hr4:RdI (w3.setCell ⟨G,0,none⟩ (.pointer (some ⟨gs,0,none⟩))) g2 0 fixD:=fun j hj=>by
      have h:=HR2.out j hj
      have h2:=(hbb.cell (World.block_lt_of_cell? W6 _ h)).trans h
      rw[World.cell?_setCell_other _ _ _ _ (by intro e;have:=HX2.out;have:=congrArg Addr.block e;simp at this;omega)]
      exact h2
     have hsz4:(w3.setCell ⟨G,0,none⟩ (.pointer (some ⟨gs,0,none⟩))).heap.size=w3.heap.size:=by simp[World.setCell]
     have hW6s:w.heap.size≤W6.heap.size:=HB6.out.size
     have hW63:W6.heap.size≤w3.heap.size:=hbb.size
     obtain⟨W4,hW4⟩:∃ W4,W4=w3.setCell ⟨G,0,none⟩ (.pointer (some ⟨gs,0,none⟩)):=⟨_,rfl⟩
     rw[← hW4]at hz4 hcs4 hb4 hr4 hsz4 ⊢
     have HZ4:=Lib.hid hz4
     have HCS4:=Lib.hid hcs4
     have HB4:=Lib.hid hb4
     have HS:Hid (w.heap.size≤W6.heap.size∧w.heap.size≤W4.heap.size):=Lib.hid ⟨hW6s,by omega⟩
     have HC2:=Lib.hid (newx_calls g2 0 32 c2 fixD false W4 (by decide) (by omega) hr4 fixD_range fixD_left fixD_ok)
     clear hz4 hcs4 hb4 hr4 hsz4 hW6s hW63 hW4 hz3 hc0 hf0 hcs hbb HG HB6 HO6 HR1 HR2 HC1
     go_upto_region 15 with(go_at_call 112;refine HC2.out.mono ?_;rintro e w5 ⟨gd,rfl,hcd,hbb⟩;have hz5:=(hbb.block G (Array.getElem?_eq_some_iff.1 HZ4.out).1).trans HZ4.out;obtain⟨hc0,hf0⟩:=cell_of hz5 1 _ rfl)
     have hz6:=heap_setCell_same w5 G 1 _ _ (.pointer (some ⟨gd,0,none⟩)) hz5
     have hcd6:=canon_coder hcd hz5 1 (.pointer (some ⟨gd,0,none⟩))
     have hcs6:=canon_coder (HCS4.out.below hbb) hz5 1 (.pointer (some ⟨gd,0,none⟩))
     have hb6:=(HB4.out.trans (hbb.mono HB4.out.size)).setCell (p:=⟨G,1,none⟩) HW.out (.pointer (some ⟨gd,0,none⟩))
     have HFin:Hid (CoderAt (w5.setCell ⟨G,1,none⟩ (.pointer (some ⟨gd,0,none⟩))) w.heap.size G fixL fixD∧Below w.heap.size w (w5.setCell ⟨G,1,none⟩ (.pointer (some ⟨gd,0,none⟩)))):=Lib.hid ⟨⟨⟨_,gs,gd,hz6,rfl,rfl,HW.out,canon_mono hcs6 HS.out.1,canon_mono hcd6 HS.out.2⟩⟩,hb6⟩
     clear hz6 hcd6 hcs6 hb6 hz5 hc0 hf0 hcd hbb HZ4 HCS4 HB4 HC2
     go_wp2
     go_ret
     exact⟨G,rfl,HFin.out.1,HFin.out.2⟩
end Go.Proofs.YtgiogemkomgkhaaGreatDoor.Bk
namespace Go.Proofs.YtgiogemkomgkhaaGreatDoor.Bk
open Go.RowKit Go.Shelf Cn Bw
structure Tok where
 (b len dist:Int)
def Tok.val (t:Tok):Value:= .agg #[.int .u8 t.b,.int .i64 t.len,.int .i64 t.dist]
def TokAt (w:World) (A:Option Addr) (ts:List Tok):Prop:=∀ j (h:j<ts.length),∃ g o,A=some ⟨g,o,none⟩ ∧
 w.cell? ⟨g,o+j*3,none⟩=some (.int .u8 ts[j].b)∧w.cell? ⟨g,o+j*3+1,none⟩=some (.int .i64 ts[j].len)∧w.cell? ⟨g,o+j*3+2,none⟩=some (.int .i64 ts[j].dist)
theorem TokAt.below {w w':World} {A:Option Addr} {ts:List Tok} (h:TokAt w A ts) (hb:Below w.heap.size w w'):TokAt w' A ts:=fun j hj=>by
 obtain⟨g,o,e,h1,h2,h3⟩:=h j hj
 exact⟨g,o,e,(hb.cell (World.block_lt_of_cell? w _ h1)).trans h1,(hb.cell (World.block_lt_of_cell? w _ h2)).trans h2,(hb.cell (World.block_lt_of_cell? w _ h3)).trans h3⟩
def goodT (t:Tok):Bool:=if t.len=0 then t.dist == 0 else(t.b == 0) && decide (3≤t.len) && decide (t.len≤258) && decide (1≤t.dist) && decide (t.dist≤32768)
set_option maxHeartbeats 1000000 in
set_option maxRecDepth 100000 in
theorem good_calls (t:Tok) (w:World):Calls Tryz.prog 110 #[t.val] w fun e w'=>e= .returned (.bool (goodT t))∧Below w.heap.size w w':=by
 obtain⟨b,len,dist⟩:=t
 obtain⟨R,hR⟩:∃ R,R=goodT ⟨b,len,dist⟩:=⟨_,rfl⟩
 rw[← hR]
 unfold goodT at hR
 simp only at hR
 have hal:=Lib.hid ((Below.refl w.heap.size w).alloc (Nat.le_refl _) (.cells #[.int .u8 b,.int .i64 len,.int .i64 dist] 151))
 by_cases h0:len=0
 ·rw[if_pos h0]at hR
  have HR:=Lib.hid hR
  have t0:(len == 0)=true:=beq_iff_eq.2 h0
  clear hR h0
  unfold Tok.val
  go_enter Tryz.func110,Tryz.ntmps110
  go_wp2
  go_ret
  exact⟨by rw[HR.out];rfl,hal.out⟩
 ·rw[if_neg h0]at hR
  have HR:=Lib.hid hR
  have t0:(len == 0)=false:=beq_eq_false_iff_ne.2 h0
  clear hR h0
  unfold Tok.val
  cases q1:(b == 0) with
  | false =>
   go_enter Tryz.func110,Tryz.ntmps110
   go_wp2
   go_ret
   exact⟨by rw[HR.out,q1];rfl,hal.out⟩
  | true =>
   cases q2:decide (3≤len) with
   | false =>
    go_enter Tryz.func110,Tryz.ntmps110
    go_wp2
    go_ret
    exact⟨by rw[HR.out,q1,q2];rfl,hal.out⟩
   | true =>
    cases q3:decide (len≤258) with
    | false =>
     go_enter Tryz.func110,Tryz.ntmps110
     go_wp2
     go_ret
     exact⟨by rw[HR.out,q1,q2,q3];rfl,hal.out⟩
    | true =>
     cases q4:decide (1≤dist) with
     | false =>
      go_enter Tryz.func110,Tryz.ntmps110
      go_wp2
      go_ret
      exact⟨by rw[HR.out,q1,q2,q3,q4];rfl,hal.out⟩
     | true =>
      go_enter Tryz.func110,Tryz.ntmps110
      go_wp2
      go_ret
      exact⟨by rw[HR.out,q1,q2,q3,q4];rfl,hal.out⟩
set_option maxHeartbeats 1000000 in
set_option maxRecDepth 100000 in
theorem bad_calls (t:Tok) (w:World):Calls Tryz.prog 109 #[.agg #[.int .u8 t.b,.int .i64 t.len,.int .i64 t.dist]] w fun e w'=>e= .returned (.bool (!goodT t))∧Below w.heap.size w w':=by
 have HG:=Lib.hid (good_calls t)
 have hal:=Lib.hid ((Below.refl w.heap.size w).alloc (Nat.le_refl _) (.cells #[.int .u8 t.b,.int .i64 t.len,.int .i64 t.dist] 151))
 unfold Tok.val at HG
 go_enter Tryz.func109,Tryz.ntmps109
 go_wp2_with (go_at_call 110;refine(HG.out _).mono ?_;rintro e w' ⟨rfl,hb⟩)
 go_ret
 exact⟨rfl,hal.out.trans (hb.mono hal.out.size)⟩
set_option maxHeartbeats 1000000 in
set_option maxRecDepth 100000 in
theorem indexT_calls (A:Option Addr) (c:Nat) (ts:List Tok) (w:World) (hA:TokAt w A ts) (hl:ts.length≤140737488351232) :
  Calls Tryz.prog 130 #[.slice A ts.length c,.func (.func 109) #[] #[]] w fun e w'=>(∃ k:Int,e= .returned (.int .i64 k)∧(decide (0≤k)= !ts.all goodT))∧Below w.heap.size w w':=by
 have HC:Hid (∀ wx,Below w.heap.size w wx→TokAt wx A ts):=Lib.hid (fun wx h=>hA.below h)
 obtain⟨n,hn⟩:∃ n,ts.length=n:=⟨_,rfl⟩
 have HN:=Lib.hid hn
 rw[hn]at hl ⊢
 clear hA hn
 go_enter Tryz.func130,Tryz.ntmps130
 go_wp2
 go_loopw [8] (fun i wr=>∃ k:Nat,k≤n∧i= .int .i64 k∧Below w.heap.size w wr∧∀ j (h:j<ts.length),j<k→goodT ts[j]=true) (fun i _=>n - (intOf i).toNat)
 case atStart=>exact⟨0,Nat.zero_le _,rfl,Below.refl _ _,fun j _ h=>by omega⟩
 case round =>
  obtain⟨k,hk,rfl,hb,hg⟩:=hrel
  have HB:=Lib.hid hb
  have HG:=Lib.hid hg
  clear hb hg
  by_cases hlt:k<n
  ·have q1:decide ((k:Int)<(n:Int))=true:=decide_eq_true (by omega)
   have k1:k<ts.length:=by rw[HN.out];exact hlt
   obtain⟨g,o,rfl,h1,h2,h3⟩:=HC.out _ HB.out k k1
   obtain⟨t,ht⟩:∃ t,ts[k]=t:=⟨_,rfl⟩
   rw[ht]at h1 h2 h3
   have HT:=Lib.hid ht
   clear ht
   cases hq:goodT t with
   | true =>
    go_wp2_with (go_at_call 109;refine(bad_calls t _).mono ?_;rintro e w' ⟨rfl,hb⟩;replace HB:=Lib.hid (HB.out.trans (hb.mono HB.out.size));clear hb)
    go_roundw
    case rel=>exact⟨k+1,by omega,by go_num,HB.out,fun j h hj=>by
     rcases Nat.lt_or_ge j k with h4|h4
     ·exact HG.out j h h4
     ·obtain rfl:j=k:=by omega
      rw[HT.out];exact hq⟩
    case measure=>simp[intOf];omega
   | false =>
    have hfin:Hid ((!ts.all goodT)=true):=Lib.hid (by
     rw[Bool.not_eq_true',List.all_eq_false]
     exact⟨ts[k],List.getElem_mem _,by rw[HT.out,hq];decide⟩)
    go_wp2_with (go_at_call 109;refine(bad_calls t _).mono ?_;rintro e w' ⟨rfl,hb⟩;replace HB:=Lib.hid (HB.out.trans (hb.mono HB.out.size));clear hb)
    go_ret
    exact⟨⟨_,rfl,by rw[hfin.out];exact decide_eq_true (by omega)⟩,HB.out⟩
  ·have hall:Hid ((!ts.all goodT)=false):=Lib.hid (by
    rw[Bool.not_eq_false',List.all_eq_true]
    intro x hx
    obtain⟨j,hj,rfl⟩:=List.mem_iff_getElem.1 hx
    exact HG.out j hj (by have:=HN.out;omega))
   go_wp2
   go_ret
   exact⟨⟨_,rfl,by rw[hall.out];decide⟩,HB.out⟩
set_option maxHeartbeats 1000000 in
set_option maxRecDepth 100000 in
theorem containsT_calls (A:Option Addr) (c:Nat) (ts:List Tok) (w:World) (hA:TokAt w A ts) (hl:ts.length≤140737488351232) :
  Calls Tryz.prog 111 #[.slice A ts.length c,.func (.func 109) #[] #[]] w fun e w'=>e= .returned (.bool (!ts.all goodT))∧Below w.heap.size w w':=by
 have HI:=Lib.hid (indexT_calls A c ts w hA hl)
 clear hA
 go_enter Tryz.func111,Tryz.ntmps111
 go_wp2_with (go_at_call 130;refine HI.out.mono ?_;rintro e w' ⟨⟨k,rfl,hk⟩,hb⟩)
 go_ret
 exact⟨by rw[← hk];rfl,hb⟩
def mayB (kind:Int) (sz:Nat) (ts:List Tok):Bool:=decide (0≤kind) && decide (kind<3) && decide (sz≤65535) && decide (ts.length≤65535) && ts.all goodT
set_option maxHeartbeats 1000000 in
set_option maxRecDepth 100000 in
theorem may_calls (kind:Int) (s:ByteArray) (A:Option Addr) (c:Nat) (ts:List Tok) (w:World) (hA:TokAt w A ts) (hl:ts.length≤140737488351232) :
  Calls Tryz.prog 91 #[.int .i64 kind,.string s,.slice A ts.length c] w fun e w'=>e= .returned (.bool (mayB kind s.size ts))∧Below w.heap.size w w':=by
 have HI:=Lib.hid (containsT_calls A c ts w hA hl)
 obtain⟨R,hR⟩:∃ R,R=mayB kind s.size ts:=⟨_,rfl⟩
 rw[← hR]
 have e1:decide (s.size≤65535)=decide ((s.size:Int)≤65535):=decide_eq_decide.2 (by omega)
 have e2:decide (ts.length≤65535)=decide ((ts.length:Int)≤65535):=decide_eq_decide.2 (by omega)
 unfold mayB at hR
 rw[e1,e2]at hR
 have HR:=Lib.hid hR
 obtain⟨n,hn⟩:∃ n,ts.length=n:=⟨_,rfl⟩
 have B0:=Lib.hid (Below.refl w.heap.size w)
 rw[hn]at HI HR ⊢
 generalize ts.all goodT=G at *
 clear hR hA e1 e2 hl hn
 cases q1:decide (0≤kind) with
 | false =>
  go_enter Tryz.func91,Tryz.ntmps91
  go_wp2
  go_ret
  exact⟨by rw[HR.out,q1];rfl,B0.out⟩
 | true =>
  cases q2:decide (kind<3) with
  | false =>
   go_enter Tryz.func91,Tryz.ntmps91
   go_wp2
   go_ret
   exact⟨by rw[HR.out,q1,q2];rfl,B0.out⟩
  | true =>
   cases q3:decide ((s.size:Int)≤65535) with
   | false =>
    go_enter Tryz.func91,Tryz.ntmps91
    go_wp2
    go_ret
    exact⟨by rw[HR.out,q1,q2,q3];rfl,B0.out⟩
   | true =>
    cases q4:decide ((n:Int)≤65535) with
    | false =>
     go_enter Tryz.func91,Tryz.ntmps91
     go_wp2
     go_ret
     exact⟨by rw[HR.out,q1,q2,q3,q4];rfl,B0.out⟩
    | true =>
     go_enter Tryz.func91,Tryz.ntmps91
     go_wp2_with (go_at_call 111;refine HI.out.mono ?_;rintro e w' ⟨rfl,hb⟩)
     go_ret
     exact⟨by rw[HR.out,q1,q2,q3,q4];simp,hb⟩
end Go.Proofs.YtgiogemkomgkhaaGreatDoor.Bk
