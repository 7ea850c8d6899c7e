/-
  The worlds on the way through a region that appends one element to a row: 'a = append(a, x)', and calls what adds memory.
-/
import Derived.Test.YtgiogemkomgkhaaGreatDoorKRegA
import Derived.Test.YtgiogemkomgkhaaGreatDoorKBwAll
set_option linter.unusedVariables false
set_option linter.unusedSimpArgs false
namespace Go.Proofs.YtgiogemkomgkhaaGreatDoor.Ri
open Go Go.RowKit
structure Sid where
 (T sz:Nat)
 (v:Value)
 (xs new:List Value)
 (l p q:Nat)
structure OneP (B n:Nat) (w0:World) (s:Sid) (L:Nat→Bool) (X:Nat→Value) (wx:World):Prop where
 os:wx.os=w0.os
 tape:wx.tape=w0.tape
 output:wx.output=w0.output
 size:w0.heap.size≤wx.heap.size
 block:∀ k,k<w0.heap.size→s.v.ownBlock≠some k→wx.heap[k]?=w0.heap[k]?
 lit:L s.l=true→L s.p=false→∃ b,X s.l= .slice (some ⟨b,0,none⟩) 1 1∧w0.heap.size≤b∧wx.heap[b]?=some (.cells s.new.toArray s.T (0,0))
 old:L s.p=false→wx.ownsRow B s.T s.sz s.v n s.xs
 new:L s.p=true→wx.ownsRow B s.T s.sz (X s.p) (n+1) (s.xs++s.new)∧∀ k,(X s.p).ownBlock=some k→s.v.ownBlock=some k∨w0.heap.size≤k
 asg:L s.q=true→L s.p=true∧X s.q=X s.p
section
variable {B n:Nat} {w0 wx wy:World} {s:Sid} {L:Nat→Bool} {X:Nat→Value}
theorem row_same {w w':World} {base T sz n:Nat} {v:Value} {xs:List Value} (h:w.ownsRow base T sz v n xs) (hb:∀ j,v.ownBlock=some j→j<w.heap.size→w'.heap[j]?=w.heap[j]?):w'.ownsRow base T sz v n xs:=by
 refine⟨h.1,h.2.imp id ?_⟩
 rintro⟨g,cap,cur,rfl,h3,h4,h5⟩
 exact⟨g,cap,cur,rfl,h3,(hb g rfl (Array.getElem?_eq_some_iff.1 h4).1).trans h4,h5⟩
theorem one_start (ho:w0.ownsRow B s.T s.sz s.v n s.xs) (X:Nat→Value):OneP B n w0 s (fun _=>false) X w0.drew :=
 ⟨rfl,rfl,rfl,Nat.le_refl _,(fun _ _ _=>rfl),(fun h=>Bool.noConfusion h),(fun _=>row_same ho (fun _ _ _=>rfl)),(fun h=>Bool.noConfusion h),(fun h=>Bool.noConfusion h)⟩
theorem one_next (h:OneP B n w0 s L X wx) (hb:Below wx.heap.size wx wy):OneP B n w0 s L X wy:=by
 refine⟨hb.os.trans h.os,hb.tape.trans h.tape,hb.output.trans h.output,Nat.le_trans h.size hb.size,fun k hk hn=>(hb.block k (Nat.lt_of_lt_of_le hk h.size)).trans (h.block k hk hn),fun h1 h2=>?_,fun h1=>row_same (h.old h1) (fun j _ hj=>hb.block j hj),fun h1=>⟨row_same (h.new h1).1 (fun j _ hj=>hb.block j hj),(h.new h1).2⟩,h.asg⟩
 obtain⟨b,e1,e2,e3⟩:=h.lit h1 h2
 exact⟨b,e1,e2,(hb.block b (Array.getElem?_eq_some_iff.1 e3).1).trans e3⟩
theorem one_still (h:OneP B n w0 s L X wx) {i:Nat} (hi: [s.l,s.p,s.q].contains i=false):OneP B n w0 s (upd L i) X wx:=by
 simp only[List.contains_eq_mem,List.mem_cons,List.not_mem_nil,or_false,decide_eq_false_iff_not,not_or]at hi
 refine⟨h.os,h.tape,h.output,h.size,h.block,?_,?_,?_,?_⟩
 ·rw[upd_other L i _ (Ne.symm hi.1),upd_other L i _ (Ne.symm hi.2.1)];exact h.lit
 ·rw[upd_other L i _ (Ne.symm hi.2.1)];exact h.old
 ·rw[upd_other L i _ (Ne.symm hi.2.1)];exact h.new
 ·rw[upd_other L i _ (Ne.symm hi.2.1),upd_other L i _ (Ne.symm hi.2.2)];exact h.asg
def threeB (s:Sid):Bool:=decide (s.l≠s.p∧s.l≠s.q∧s.p≠s.q)
theorem one_lit (h3:threeB s=true) (h:OneP B n w0 s L X wx) (hl:L s.l=false):OneP B n w0 s (upd L s.l) (updX X s.l (.slice (some ⟨wx.heap.size,0,none⟩) 1 1)) (wx.alloc (.cells s.new.toArray s.T)):=by
 obtain⟨a1,a2,a3⟩:=of_decide_eq_true h3
 have hb:=(Below.refl wx.heap.size wx).alloc (Nat.le_refl _) (.cells s.new.toArray s.T)
 have h0:=one_next h hb
 refine⟨h0.os,h0.tape,h0.output,h0.size,h0.block,fun _ _=>⟨wx.heap.size,updX_same _ _ _,h.size,World.alloc_heap_new _ _⟩,?_,?_,?_⟩
 ·rw[upd_other L s.l _ (Ne.symm a1)];exact h0.old
 ·rw[upd_other L s.l _ (Ne.symm a1),updX_other X s.l _ _ (Ne.symm a1)];exact h0.new
 ·rw[upd_other L s.l _ (Ne.symm a1),upd_other L s.l _ (Ne.symm a2),updX_other X s.l _ _ (Ne.symm a1),updX_other X s.l _ _ (Ne.symm a2)];exact h0.asg
theorem one_app {P:Program} (h3:threeB s=true) (h:OneP B n w0 s L X wx) (hB:B≤w0.heap.size) (hl:L s.l=true) (hp:L s.p=false)
  (ty tz:TypeId) (i:TypeInfo) (z:Value) (bytes:Nat) (ht:P.underlying ty=some (.slice s.T)) (hi:P.info? s.T=some i) (hz:i.zero=some z) (hsize:i.size=s.sz) (hby:i.bytes=bytes) (hzs:z.cells.size=s.sz) (hsz:0<s.sz)
  (hnl:s.new.length=s.sz) (h1:∀ u∈s.new,u.oneCell'=true) (hn:n≤100000000) (hbb:bytes≤1000) :
  ∃ v' w',(Builtin.append_ #[ty,ty] tz #[s.v,X s.l]).run P wx= .ok v' w'∧OneP B n w0 s (upd L s.p) (updX X s.p v') w':=by
 obtain⟨a1,a2,a3⟩:=of_decide_eq_true h3
 obtain⟨b,e1,e2,e3⟩:=h.lit hl hp
 have hown:=h.old hp
 obtain⟨v',w',hr,h2,h3',h4⟩:=Bw.run_append_at (P:=P) wx B ty tz s.T i z s.sz bytes ht hi hz hsize hby hzs hsz s.v n s.xs hown ⟨b,0,none⟩ 1 1 s.new (by rw[hnl,Nat.one_mul]) (fun j u hu=>by
  have e:((⟨b,0,none⟩:Addr).add j)=⟨b,j,none⟩:=by
   unfold Addr.add
   split<;>simp_all
  rw[e]
  simp only[World.cell?,e3]
  simpa using hu) h1 (by unfold maxLen;omega) (by have:=Nat.mul_le_mul (show n+1≤100000001 by omega) hbb;omega) (Nat.le_trans hB h.size)
 refine⟨v',w',by rw[e1];exact hr,⟨h3'.os.trans h.os,h3'.tape.trans h.tape,h3'.output.trans h.output,Nat.le_trans h.size h3'.size,fun k hk hn=>(h3'.block k (Nat.lt_of_lt_of_le hk h.size) (fun e=>hn e.symm)).trans (h.block k hk hn),?_,?_,?_,?_⟩⟩
 ·intro _ h6
  rw[upd_same]at h6
  cases h6
 ·intro h6
  rw[upd_same]at h6
  cases h6
 ·intro _
  rw[updX_same]
  exact⟨h2,fun k hk=>(h4 k hk).imp id (fun h7=>Nat.le_trans h.size h7)⟩
 ·rw[upd_other L s.p _ (Ne.symm a3)]
  intro h6
  rw[(h.asg h6).1]at hp
  cases hp
theorem one_asg (h3:threeB s=true) (h:OneP B n w0 s L X wx) (hp:L s.p=true):OneP B n w0 s (upd L s.q) (updX X s.q (X s.p)) wx:=by
 obtain⟨a1,a2,a3⟩:=of_decide_eq_true h3
 refine⟨h.os,h.tape,h.output,h.size,h.block,?_,?_,?_,?_⟩
 ·rw[upd_other L s.q _ a2,upd_other L s.q _ a3,updX_other X s.q _ _ a2];exact h.lit
 ·rw[upd_other L s.q _ a3];exact h.old
 ·rw[upd_other L s.q _ a3,updX_other X s.q _ _ a3];exact h.new
 ·intro _
  rw[upd_other L s.q _ a3,updX_same,updX_other X s.q _ _ a3]
  exact⟨hp,rfl⟩
theorem one_done (h:OneP B n w0 s L X wx) (h1:L s.q=true):wx.ownsRow B s.T s.sz (X s.q) (n+1) (s.xs++s.new)∧∀ k,(X s.q).ownBlock=some k→s.v.ownBlock=some k∨w0.heap.size≤k:=by
 have a1:=h.asg h1
 rw[a1.2]
 exact h.new a1.1
theorem one_below (h:OneP B n w0 s L X wx) {lo:Nat} (hv:∀ k,s.v.ownBlock=some k→lo≤k) (hlo:lo≤w0.heap.size):Below lo w0 wx :=
 ⟨h.os,h.tape,h.output,h.size,fun k hk=>h.block k (by omega) (fun e=>by have:=hv k e;omega)⟩
theorem one_far (h:OneP B n w0 s L X wx) {a:Addr} (hk:a.block<w0.heap.size) (hne:s.v.ownBlock≠some a.block):wx.cell? a=w0.cell? a:=World.cell?_of_block (h.block _ hk hne)
end
end Go.Proofs.YtgiogemkomgkhaaGreatDoor.Ri
