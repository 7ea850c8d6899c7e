/-
  Times: dos.Of answers some time, and ends, for every number.
-/
import Derived.Test.YtgiogemkomgkhaaGreatDoorKZpA
set_option linter.unusedVariables false
set_option linter.unusedSimpArgs false
namespace Go.Proofs.YtgiogemkomgkhaaGreatDoor.Zp
open Go.RowKit
def remI (y m:Int):Int :=
 if m=1 then 337+daysI y 2 else if m=2 then 306+daysI y 2 else if m=3 then 306 else if m=4 then 275 else if m=5 then 245 else if m=6 then 214
 else if m=7 then 184 else if m=8 then 153 else if m=9 then 122 else if m=10 then 92 else if m=11 then 61 else 31
theorem daysI_2 (y:Int):28≤daysI y 2∧daysI y 2≤29:=by
 unfold daysI
 cases leapB y<;>simp
theorem remI_step (y m:Int) (h1:1≤m) (h2:m≤12) (d:Int) (hd:daysI y m≤d) (hr:d<remI y m):m≤11∧28≤daysI y m∧d - daysI y m<remI y (m+1):=by
 have hm:m=1∨m=2∨m=3∨m=4∨m=5∨m=6∨m=7∨m=8∨m=9∨m=10∨m=11∨m=12:=by omega
 have h3:=daysI_2 y
 rcases hm with rfl|rfl|rfl|rfl|rfl|rfl|rfl|rfl|rfl|rfl|rfl|rfl
 all_goals
  simp[remI,daysI]at hd hr h3 ⊢
  try (split at hd<;>simp_all<;>omega)
  try omega
set_option maxHeartbeats 1000000 in
set_option maxRecDepth 100000 in
theorem of_calls (n:Int) (w:World) (hn: -9223372036854775808≤n) (hn2:n≤9223372036854775807) :
  Calls Tryz.prog 16 #[.int .i64 n] w fun e w'=>(∃ (T:Tm) (ok:Bool),e= .returned (.tuple #[T.val,.bool ok]))∧Below w.heap.size w w':=by
 have K0:=Blk.new w #[.int .i64 0,.int .i64 0,.int .i64 0,.int .i64 0,.int .i64 0,.int .i64 0] 40
 have B0:=Lib.hid ((Below.refl w.heap.size w).alloc (Nat.le_refl _) (.cells #[.int .i64 0,.int .i64 0,.int .i64 0,.int .i64 0,.int .i64 0,.int .i64 0] 40))
 by_cases h0:n<0
 ·have q0:decide (n<0)=true:=decide_eq_true h0
  go_enter Tryz.func16,Tryz.ntmps16
  go_wp2
  exact bodyPost_ret (v:= .tuple #[(⟨0,0,0,0,0,0⟩:Tm).val,.bool false]) (results_cell_tmp Tryz.results16 _ _ w.heap.size 40 _ _ _ rfl rfl K0 Tryz.underlying40 rfl (by kernel_rfl)) rfl ⟨⟨_,_,rfl⟩,B0.out⟩
 ·have q0:decide (n<0)=false:=decide_eq_false h0
  obtain⟨days,hdy⟩:∃ d,n/43200=d:=⟨_,rfl⟩
  obtain⟨rest,hre⟩:∃ d,n % 43200=d:=⟨_,rfl⟩
  have hr:0≤rest∧rest<43200:=by omega
  have hd:0≤days∧days<1000000000000000:=by omega
  go_enter Tryz.func16,Tryz.ntmps16
  go_wp2
  obtain⟨H,hH⟩:∃ d,rest/1800=d:=⟨_,rfl⟩
  obtain⟨MI,hMI⟩:∃ d,rest/30 % 60=d:=⟨_,rfl⟩
  obtain⟨S,hS⟩:∃ d,rest % 30*2=d:=⟨_,rfl⟩
  rw[hH,hMI,hS]
  have K1:=K0.alloc (.cells #[.int .i64 1980,.int .i64 1,.int .i64 1,.int .i64 H,.int .i64 MI,.int .i64 S] 40)
  have K2:=Blk.new1 w (.cells #[.int .i64 0,.int .i64 0,.int .i64 0,.int .i64 0,.int .i64 0,.int .i64 0] 40) #[.int .i64 1980,.int .i64 1,.int .i64 1,.int .i64 H,.int .i64 MI,.int .i64 S] 40
  have B1:=Lib.hid (B0.out.alloc B0.out.size (.cells #[.int .i64 1980,.int .i64 1,.int .i64 1,.int .i64 H,.int .i64 MI,.int .i64 S] 40))
  have HK1:=Lib.hid K1
  have HK2:=Lib.hid K2
  clear K0 K1 K2 B0 hH hMI hS hr hdy hre h0 q0 hn hn2
  go_loopw [4,7] (fun d a wr=>∃ (y dd:Int),1980≤y∧y≤2108∧0≤dd∧dd<1000000000000000∧d= .int .i64 dd∧Blk w.heap.size #[.int .i64 0,.int .i64 0,.int .i64 0,.int .i64 0,.int .i64 0,.int .i64 0] 40 wr∧Blk (w.heap.size+1) #[.int .i64 y,.int .i64 1,.int .i64 1,.int .i64 H,.int .i64 MI,.int .i64 S] 40 wr∧Below w.heap.size w wr) (fun d _ _=>(intOf d).toNat)
  case atStart=>exact⟨1980,days,by omega,by omega,hd.1,hd.2,rfl,HK1.out,HK2.out,B1.out⟩
  case round =>
   obtain⟨y,dd,y1,y2,d1,d2,rfl,k1,k2,hb⟩:=hrel
   clear HK1 HK2 B1 hd
   have c0:=k2.cell 0
   have c1:=k2.cell 1
   have c2:=k2.cell 2
   have c3:=k2.cell 3
   have c4:=k2.cell 4
   have c5:=k2.cell 5
   have f2:=k2.frozen
   have z0:=k1.cell 0
   have z1:=k1.cell 1
   have z2:=k1.cell 2
   have z3:=k1.cell 3
   have z4:=k1.cell 4
   have z5:=k1.cell 5
   have f1:=k1.frozen
   simp at c0 c1 c2 c3 c4 c5 z0 z1 z2 z3 z4 z5
   have HK1:=Lib.hid k1
   have HK2:=Lib.hid k2
   have HB:=Lib.hid hb
   clear k1 k2 hb
   by_cases hy:y≤2107
   ·have qy:decide (y≤2107)=true:=decide_eq_true hy
    have qy2:decide (2107<y)=false:=decide_eq_false (by omega)
    have h2:=daysI_2 y
    have HR:Hid (remI y 1=337+daysI y 2):=Lib.hid rfl
    generalize hD:daysI y 2=D at *
    have HD:=Lib.hid hD
    clear hD
    by_cases hlt:dd<337+D
    ·have ql:decide (dd<337+D)=true:=decide_eq_true hlt
     go_wp2_with (go_at_call 33;refine(days_calls _ _ _).mono ?_;rintro e w' ⟨rfl,rfl⟩;rw[HD.out])
     generalize wr=wA at *
     go_loopw [4] (fun d wr=>∃ (m dd:Int),1≤m∧m≤12∧0≤dd∧dd<1000∧dd<remI y m∧d= .int .i64 dd∧Blk w.heap.size #[.int .i64 0,.int .i64 0,.int .i64 0,.int .i64 0,.int .i64 0,.int .i64 0] 40 wr∧Blk (w.heap.size+1) #[.int .i64 y,.int .i64 m,.int .i64 1,.int .i64 H,.int .i64 MI,.int .i64 S] 40 wr∧Below w.heap.size w wr) (fun d _=>(intOf d).toNat)
     case atStart=>exact⟨1,dd,by omega,by omega,d1,by omega,by rw[HR.out];exact hlt,rfl,HK1.out,HK2.out,HB.out⟩
     case round =>
      obtain⟨m,dm,m1,m2,e1,e3,e2,rfl,k1,k2,hb⟩:=hrel
      clear HK1 HK2 HB c0 c1 c2 c3 c4 c5 f2 z0 z1 z2 z3 z4 z5 f1 ql hlt
      have c0:=k2.cell 0
      have c1:=k2.cell 1
      have c2:=k2.cell 2
      have c3:=k2.cell 3
      have c4:=k2.cell 4
      have c5:=k2.cell 5
      have f2:=k2.frozen
      have z0:=k1.cell 0
      have z1:=k1.cell 1
      have z2:=k1.cell 2
      have z3:=k1.cell 3
      have z4:=k1.cell 4
      have z5:=k1.cell 5
      have f1:=k1.frozen
      simp at c0 c1 c2 c3 c4 c5 z0 z1 z2 z3 z4 z5
      have HK1:=Lib.hid k1
      have HK2:=Lib.hid k2
      have HB:=Lib.hid hb
      have HS:=Lib.hid (fun h=>remI_step y m m1 m2 dm h e2)
      clear k1 k2 hb
      generalize hE:daysI y m=E at *
      have HDm:=Lib.hid hE
      clear hE
      by_cases hge:E≤dm
      ·have qe:decide (E≤dm)=true:=decide_eq_true hge
       have hs:=HS.out hge
       go_wp2_with (go_at_call 33;refine(days_calls _ _ _).mono ?_;rintro e w' ⟨rfl,rfl⟩;rw[HDm.out])
       go_roundw
       case rel=>exact⟨m+1,dm - E,by omega,by omega,by omega,by omega,hs.2.2,rfl,HK1.out.under (by omega) ((Below.refl (w.heap.size+1) _).setCell (p:=⟨w.heap.size+1,1,none⟩) (Nat.le_refl _) _),HK2.out.setTo 1 _ rfl,HB.out.setCell (by simp) _⟩
       case measure=>simp[intOf];omega
      ·have qe:decide (E≤dm)=false:=decide_eq_false hge
       go_wp2_with (go_at_call 33;refine(days_calls _ _ _).mono ?_;rintro e w' ⟨rfl,rfl⟩;rw[HDm.out])
       have k0:=HK1.out.under (by omega) ((Below.refl (w.heap.size+1) _).setCell (p:=⟨w.heap.size+1,2,none⟩) (Nat.le_refl _) (.int .i64 (1+dm)))
       have m0:=HB.out.setCell (p:=⟨w.heap.size+1,2,none⟩) (by simp) (.int .i64 (1+dm))
       have k1:=k0.setTo (cs':= #[.int .i64 y,.int .i64 0,.int .i64 0,.int .i64 0,.int .i64 0,.int .i64 0]) 0 (.int .i64 y) rfl
       have m1:=m0.setCell (p:=⟨w.heap.size,0,none⟩) (Nat.le_refl _) (.int .i64 y)
       have k2:=k1.setTo (cs':= #[.int .i64 y,.int .i64 m,.int .i64 0,.int .i64 0,.int .i64 0,.int .i64 0]) 1 (.int .i64 m) rfl
       have m2:=m1.setCell (p:=⟨w.heap.size,1,none⟩) (Nat.le_refl _) (.int .i64 m)
       have k3:=k2.setTo (cs':= #[.int .i64 y,.int .i64 m,.int .i64 (1+dm),.int .i64 0,.int .i64 0,.int .i64 0]) 2 (.int .i64 (1+dm)) rfl
       have m3:=m2.setCell (p:=⟨w.heap.size,2,none⟩) (Nat.le_refl _) (.int .i64 (1+dm))
       have k4:=k3.setTo (cs':= #[.int .i64 y,.int .i64 m,.int .i64 (1+dm),.int .i64 H,.int .i64 0,.int .i64 0]) 3 (.int .i64 H) rfl
       have m4:=m3.setCell (p:=⟨w.heap.size,3,none⟩) (Nat.le_refl _) (.int .i64 H)
       have k5:=k4.setTo (cs':= #[.int .i64 y,.int .i64 m,.int .i64 (1+dm),.int .i64 H,.int .i64 MI,.int .i64 0]) 4 (.int .i64 MI) rfl
       have m5:=m4.setCell (p:=⟨w.heap.size,4,none⟩) (Nat.le_refl _) (.int .i64 MI)
       have k6:=k5.setTo (cs':= #[.int .i64 y,.int .i64 m,.int .i64 (1+dm),.int .i64 H,.int .i64 MI,.int .i64 S]) 5 (.int .i64 S) rfl
       have m6:=m5.setCell (p:=⟨w.heap.size,5,none⟩) (Nat.le_refl _) (.int .i64 S)
       obtain⟨Wf,hWf⟩:∃ Wf,Wf=(((((((wr.setCell ⟨w.heap.size+1,2,none⟩ (.int .i64 (1+dm))).setCell ⟨w.heap.size,0,none⟩ (.int .i64 y)).setCell ⟨w.heap.size,1,none⟩ (.int .i64 m)).setCell ⟨w.heap.size,2,none⟩ (.int .i64 (1+dm))).setCell ⟨w.heap.size,3,none⟩ (.int .i64 H)).setCell ⟨w.heap.size,4,none⟩ (.int .i64 MI)).setCell ⟨w.heap.size,5,none⟩ (.int .i64 S)):=⟨_,rfl⟩
       rw[← hWf]at k6 m6 ⊢
       exact bodyPost_ret (v:= .tuple #[(⟨y,m,1+dm,H,MI,S⟩:Tm).val,.bool true]) (results_cell_tmp Tryz.results16 _ _ w.heap.size 40 _ _ _ rfl rfl k6 Tryz.underlying40 rfl (by kernel_rfl)) rfl ⟨⟨_,_,rfl⟩,m6⟩
    ·have ql:decide (dd<337+D)=false:=decide_eq_false hlt
     go_wp2_with (go_at_call 33;refine(days_calls _ _ _).mono ?_;rintro e w' ⟨rfl,rfl⟩;rw[HD.out])
     go_roundw
     case rel=>exact⟨y+1,dd - (337+D),by omega,by omega,by omega,by omega,rfl,HK1.out.under (by omega) ((Below.refl (w.heap.size+1) _).setCell (p:=⟨w.heap.size+1,0,none⟩) (Nat.le_refl _) _),HK2.out.setTo 0 _ rfl,HB.out.setCell (by simp) _⟩
     case measure=>simp[intOf];omega
   ·have qy:decide (y≤2107)=false:=decide_eq_false hy
    have qy2:decide (2107<y)=true:=decide_eq_true (by omega)
    go_wp2_with fail
    have k0:=HK1.out
    have m0:=HB.out
    have k1:=k0.setTo (cs':= #[.int .i64 0,.int .i64 0,.int .i64 0,.int .i64 0,.int .i64 0,.int .i64 0]) 0 (.int .i64 0) rfl
    have m1:=m0.setCell (p:=⟨w.heap.size,0,none⟩) (Nat.le_refl _) (.int .i64 0)
    have k2:=k1.setTo (cs':= #[.int .i64 0,.int .i64 0,.int .i64 0,.int .i64 0,.int .i64 0,.int .i64 0]) 1 (.int .i64 0) rfl
    have m2:=m1.setCell (p:=⟨w.heap.size,1,none⟩) (Nat.le_refl _) (.int .i64 0)
    have k3:=k2.setTo (cs':= #[.int .i64 0,.int .i64 0,.int .i64 0,.int .i64 0,.int .i64 0,.int .i64 0]) 2 (.int .i64 0) rfl
    have m3:=m2.setCell (p:=⟨w.heap.size,2,none⟩) (Nat.le_refl _) (.int .i64 0)
    have k4:=k3.setTo (cs':= #[.int .i64 0,.int .i64 0,.int .i64 0,.int .i64 0,.int .i64 0,.int .i64 0]) 3 (.int .i64 0) rfl
    have m4:=m3.setCell (p:=⟨w.heap.size,3,none⟩) (Nat.le_refl _) (.int .i64 0)
    have k5:=k4.setTo (cs':= #[.int .i64 0,.int .i64 0,.int .i64 0,.int .i64 0,.int .i64 0,.int .i64 0]) 4 (.int .i64 0) rfl
    have m5:=m4.setCell (p:=⟨w.heap.size,4,none⟩) (Nat.le_refl _) (.int .i64 0)
    have k6:=k5.setTo (cs':= #[.int .i64 0,.int .i64 0,.int .i64 0,.int .i64 0,.int .i64 0,.int .i64 0]) 5 (.int .i64 0) rfl
    have m6:=m5.setCell (p:=⟨w.heap.size,5,none⟩) (Nat.le_refl _) (.int .i64 0)
    obtain⟨Wf,hWf⟩:∃ Wf,Wf=((((((wr.setCell ⟨w.heap.size,0,none⟩ (.int .i64 0)).setCell ⟨w.heap.size,1,none⟩ (.int .i64 0)).setCell ⟨w.heap.size,2,none⟩ (.int .i64 0)).setCell ⟨w.heap.size,3,none⟩ (.int .i64 0)).setCell ⟨w.heap.size,4,none⟩ (.int .i64 0)).setCell ⟨w.heap.size,5,none⟩ (.int .i64 0)):=⟨_,rfl⟩
    rw[← hWf]at k6 m6 ⊢
    exact bodyPost_ret (v:= .tuple #[(⟨0,0,0,0,0,0⟩:Tm).val,.bool false]) (results_cell_tmp Tryz.results16 _ _ w.heap.size 40 _ _ _ rfl rfl k6 Tryz.underlying40 rfl (by kernel_rfl)) rfl ⟨⟨_,.inl rfl⟩,m6⟩
end Go.Proofs.YtgiogemkomgkhaaGreatDoor.Zp
