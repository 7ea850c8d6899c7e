/-
  A head of plain data.
-/
import Derived.Test.YtehhoigedniglaaDoorZpOf
import Derived.Test.YtehhoigedniglaaDoorZpHead
import Derived.Deep.RegionHeld3
import Derived.Deep.CutBlock
namespace Go.Proofs.YtehhoigedniglaaDoor.Zp
open Go.RowKit
set_option linter.unusedVariables false
set_option linter.unusedSimpArgs false

def cutN (name : ByteArray) : ByteArray := name.extract 0 (min name.size 300)
theorem Blk.setOther {B b : Nat} {cs : Array Value} {T : Nat} {w : World} (h : Blk B cs T w) (hne : B ≠ b) (k : Nat) (v : Value) : Blk B cs T (w.setCell ⟨b, k, none⟩ v) := by
  unfold Blk
  rw [Below.heap_setCell _ _ _ _ hne]
  exact h
theorem results_cell_cell {P : Program} {fn : Func} {p q : Tmp} {ty ty2 : TypeId} (h : fn.results = #[.cell p ty, .cell q ty2]) (tmps : Array Value) (w : World) (g g2 : Nat) (t t2 : TypeId) (cs cs2 : Array Value) (d d2 : TypeDesc)
    (hp : tmps.getD p undef = .pointer (some ⟨g, 0, none⟩)) (hq : tmps.getD q undef = .pointer (some ⟨g2, 0, none⟩)) (hg : Blk g cs t w) (hg2 : Blk g2 cs2 t2 w)
    (hu : P.underlying ty = some d) (hd : (match d with | .struct _ | .array _ _ => true | _ => false) = true) (hi : (P.info? ty).map (·.size) = some cs.size)
    (hu2 : P.underlying ty2 = some d2) (hd2 : (match d2 with | .struct _ | .array _ _ => true | _ => false) = true) (hi2 : (P.info? ty2).map (·.size) = some cs2.size) :
    (results fn tmps).run P w = .ok (.tuple #[.agg cs, .agg cs2]) w := by
  have hp' : tmps[p]?.getD undef = .pointer (some ⟨g, 0, none⟩) := by simpa using hp
  have hq' : tmps[q]?.getD undef = .pointer (some ⟨g2, 0, none⟩) := by simpa using hq
  simp [results, h, hp', hq', asAddr, run_loadVar_row w g t ty cs (0, 0) d hg hu hd hi, run_loadVar_row w g2 t2 ty2 cs2 (0, 0) d2 hg2 hu2 hd2 hi2]
theorem cutN_size (name : ByteArray) : (cutN name).size ≤ 300 := by
  unfold cutN
  rw [ByteArray.size_extract]
  omega

set_option maxHeartbeats 3000000 in
set_option maxRecDepth 100000 in
theorem made_calls (name : ByteArray) (tm packed size sum pos : Int) (kept : Bool) (w : World) (hn : name.size ≤ 140737488351232) (ht : -9223372036854775808 ≤ tm) (ht2 : tm ≤ 9223372036854775807) :
    Calls Tryd.prog 10 #[.agg #[.string name, .int .i64 tm, .int .u64 packed, .int .u64 size, .int .u32 sum, .int .u64 pos, .bool kept]] w fun e w' => (∃ T : Tm, e = .returned (.tuple #[(⟨cutN name, T, packed, size, sum, pos, kept⟩ : Hd).val, (⟨cutN name, T, packed, size, sum, pos, kept⟩ : Hd).val])) ∧ Below w.heap.size w w' := by
  obtain ⟨nm, hnm⟩ : ∃ nm, nm = cutN name := ⟨_, rfl⟩
  rw [← hnm]
  obtain ⟨k, hk⟩ : ∃ k, k = min name.size 300 := ⟨_, rfl⟩
  have ek : min (name.size : Int) 300 = (k : Int) := by omega
  have ek2 : k ≤ name.size := by omega
  have HN : Hid (name.extract 0 k = nm) := Lib.hid (by rw [hnm, hk]; rfl)
  clear hnm hk
  have KX0 := Blk.new w #[.string name, .int .i64 tm, .int .u64 packed, .int .u64 size, .int .u32 sum, .int .u64 pos, .bool kept] 28
  have KX := (KX0.alloc (.cells #[.string ⟨#[]⟩, .int .i64 0, .int .i64 0, .int .i64 0, .int .i64 0, .int .i64 0, .int .i64 0, .int .u64 0, .int .u64 0, .int .u32 0, .int .u64 0, .bool false] 32)).alloc (.cells #[.string ⟨#[]⟩, .int .i64 0, .int .i64 0, .int .i64 0, .int .i64 0, .int .i64 0, .int .i64 0, .int .u64 0, .int .u64 0, .int .u32 0, .int .u64 0, .bool false] 35)
  have KH := (Blk.new1 w (.cells #[.string name, .int .i64 tm, .int .u64 packed, .int .u64 size, .int .u32 sum, .int .u64 pos, .bool kept] 28) #[.string ⟨#[]⟩, .int .i64 0, .int .i64 0, .int .i64 0, .int .i64 0, .int .i64 0, .int .i64 0, .int .u64 0, .int .u64 0, .int .u32 0, .int .u64 0, .bool false] 32).alloc (.cells #[.string ⟨#[]⟩, .int .i64 0, .int .i64 0, .int .i64 0, .int .i64 0, .int .i64 0, .int .i64 0, .int .u64 0, .int .u64 0, .int .u32 0, .int .u64 0, .bool false] 35)
  have KR := Blk.new2 w (.cells #[.string name, .int .i64 tm, .int .u64 packed, .int .u64 size, .int .u32 sum, .int .u64 pos, .bool kept] 28) (.cells #[.string ⟨#[]⟩, .int .i64 0, .int .i64 0, .int .i64 0, .int .i64 0, .int .i64 0, .int .i64 0, .int .u64 0, .int .u64 0, .int .u32 0, .int .u64 0, .bool false] 32) #[.string ⟨#[]⟩, .int .i64 0, .int .i64 0, .int .i64 0, .int .i64 0, .int .i64 0, .int .i64 0, .int .u64 0, .int .u64 0, .int .u32 0, .int .u64 0, .bool false] 35
  have B0 := (Below.refl w.heap.size w).alloc (Nat.le_refl _) (.cells #[.string name, .int .i64 tm, .int .u64 packed, .int .u64 size, .int .u32 sum, .int .u64 pos, .bool kept] 28)
  have B1 := B0.alloc B0.size (.cells #[.string ⟨#[]⟩, .int .i64 0, .int .i64 0, .int .i64 0, .int .i64 0, .int .i64 0, .int .i64 0, .int .u64 0, .int .u64 0, .int .u32 0, .int .u64 0, .bool false] 32)
  have B2 := B1.alloc B1.size (.cells #[.string ⟨#[]⟩, .int .i64 0, .int .i64 0, .int .i64 0, .int .i64 0, .int .i64 0, .int .i64 0, .int .u64 0, .int .u64 0, .int .u32 0, .int .u64 0, .bool false] 35)
  have HX := Lib.hid KX
  have HH := Lib.hid KH
  have HR := Lib.hid KR
  have HB := Lib.hid B2
  clear KX0 KX KH KR B0 B1 B2
  go_enter Tryd.func10, Tryd.ntmps10
  go_wp2_with fail
  refine (of_calls _ _ ht ht2).mono ?_
  rintro e w1 ⟨⟨T, ok, rfl⟩, hb⟩
  replace HX := HX.out.below hb
  replace HH := Lib.hid (HH.out.below hb)
  replace HR := HR.out.below hb
  replace HB := Lib.hid (HB.out.trans (hb.mono HB.out.size))
  have hl := HR.lt
  replace HR := Lib.hid HR
  obtain ⟨ty, tmo, td, thh, tmi, tsc⟩ := T
  simp only [Tm.val]
  have hx := HN.out
  have KT := Blk.new w1 #[.int .i64 ty, .int .i64 tmo, .int .i64 td, .int .i64 thh, .int .i64 tmi, .int .i64 tsc] 30
  replace HX := HX.alloc (.cells #[.int .i64 ty, .int .i64 tmo, .int .i64 td, .int .i64 thh, .int .i64 tmi, .int .i64 tsc] 30)
  replace HH := HH.out.alloc (.cells #[.int .i64 ty, .int .i64 tmo, .int .i64 td, .int .i64 thh, .int .i64 tmi, .int .i64 tsc] 30)
  replace HR := HR.out.alloc (.cells #[.int .i64 ty, .int .i64 tmo, .int .i64 td, .int .i64 thh, .int .i64 tmi, .int .i64 tsc] 30)
  replace HB := HB.out.alloc HB.out.size (.cells #[.int .i64 ty, .int .i64 tmo, .int .i64 td, .int .i64 thh, .int .i64 tmi, .int .i64 tsc] 30)
  clear hb
  go_upto_region 2 with fail
  obtain ⟨W1, hW1⟩ : ∃ W1, W1 = w1.alloc (.cells #[.int .i64 ty, .int .i64 tmo, .int .i64 td, .int .i64 thh, .int .i64 tmi, .int .i64 tsc] 30) := ⟨_, rfl⟩
  rw [← hW1] at KT HX HH HR HB ⊢
  clear hW1
  have x0 := HX.cell 0
  have x1 := HX.cell 1
  have x2 := HX.cell 2
  have x3 := HX.cell 3
  have x4 := HX.cell 4
  have x5 := HX.cell 5
  have x6 := HX.cell 6
  have y0 := KT.cell 0
  have y1 := KT.cell 1
  have y2 := KT.cell 2
  have y3 := KT.cell 3
  have y4 := KT.cell 4
  have y5 := KT.cell 5
  simp at x0 x1 x2 x3 x4 x5 x6 y0 y1 y2 y3 y4 y5
  replace HH := Lib.hid HH
  replace HR := Lib.hid HR
  replace HB := Lib.hid HB
  clear HX KT
  generalize hBT : w1.heap.size = BT at *
  clear hBT
  go_upto_region 3 with fail
  have b0 : ¬ BT = w.heap.size := by omega
  have b1 : ¬ BT = w.heap.size + 1 := by omega
  have b2 : ¬ BT = w.heap.size + 1 + 1 := by omega
  have a0 : ¬ w.heap.size = BT := by omega
  have a1 : ¬ w.heap.size + 1 = BT := by omega
  have a2 : ¬ w.heap.size + 1 + 1 = BT := by omega
  have e0 : ¬ w.heap.size + 1 + 1 = w.heap.size := by omega
  have e1 : ¬ w.heap.size = w.heap.size + 1 + 1 := by omega
  have z1 := HH.out.frozen
  have z2 : ∀ k, W1.frozen? ⟨w.heap.size + 1 + 1, k, none⟩ = false := HR.out.frozen
  have u0 := HH.out.cell 0
  have u1 := HH.out.cell 1
  have u2 := HH.out.cell 2
  have u3 := HH.out.cell 3
  have u4 := HH.out.cell 4
  have u5 := HH.out.cell 5
  have u6 := HH.out.cell 6
  have u7 := HH.out.cell 7
  have u8 := HH.out.cell 8
  have u9 := HH.out.cell 9
  have u10 := HH.out.cell 10
  have u11 := HH.out.cell 11
  have v0 : W1.cell? ⟨w.heap.size + 1 + 1, 0, none⟩ = _ := HR.out.cell 0
  have v1 : W1.cell? ⟨w.heap.size + 1 + 1, 1, none⟩ = _ := HR.out.cell 1
  have v2 : W1.cell? ⟨w.heap.size + 1 + 1, 2, none⟩ = _ := HR.out.cell 2
  have v3 : W1.cell? ⟨w.heap.size + 1 + 1, 3, none⟩ = _ := HR.out.cell 3
  have v4 : W1.cell? ⟨w.heap.size + 1 + 1, 4, none⟩ = _ := HR.out.cell 4
  have v5 : W1.cell? ⟨w.heap.size + 1 + 1, 5, none⟩ = _ := HR.out.cell 5
  have v6 : W1.cell? ⟨w.heap.size + 1 + 1, 6, none⟩ = _ := HR.out.cell 6
  have v7 : W1.cell? ⟨w.heap.size + 1 + 1, 7, none⟩ = _ := HR.out.cell 7
  have v8 : W1.cell? ⟨w.heap.size + 1 + 1, 8, none⟩ = _ := HR.out.cell 8
  have v9 : W1.cell? ⟨w.heap.size + 1 + 1, 9, none⟩ = _ := HR.out.cell 9
  have v10 : W1.cell? ⟨w.heap.size + 1 + 1, 10, none⟩ = _ := HR.out.cell 10
  have v11 : W1.cell? ⟨w.heap.size + 1 + 1, 11, none⟩ = _ := HR.out.cell 11
  simp at u0 v0 u1 v1 u2 v2 u3 v3 u4 v4 u5 v5 u6 v6 u7 v7 u8 v8 u9 v9 u10 v10 u11 v11
  go_region_held3 (fun wx => wx.cell? ⟨w.heap.size, 2, none⟩ = some (.int .u64 packed) ∧ wx.cell? ⟨w.heap.size, 3, none⟩ = some (.int .u64 size) ∧ wx.cell? ⟨w.heap.size, 4, none⟩ = some (.int .u32 sum) ∧ wx.cell? ⟨w.heap.size, 5, none⟩ = some (.int .u64 pos) ∧ wx.cell? ⟨w.heap.size, 6, none⟩ = some (.bool kept) ∧ wx.cell? ⟨BT, 0, none⟩ = some (.int .i64 ty) ∧ wx.cell? ⟨BT, 1, none⟩ = some (.int .i64 tmo) ∧ wx.cell? ⟨BT, 2, none⟩ = some (.int .i64 td) ∧ wx.cell? ⟨BT, 3, none⟩ = some (.int .i64 thh) ∧ wx.cell? ⟨BT, 4, none⟩ = some (.int .i64 tmi) ∧ wx.cell? ⟨BT, 5, none⟩ = some (.int .i64 tsc)) (go_keep) (fail)
  all_goals go_wp2_with fail
  all_goals
    have p0 := HH.out
    have r0 : Blk (w.heap.size + 1 + 1) _ _ W1 := HR.out
    have m0 := HB.out
    have p1 := p0.setTo (cs' := #[.string nm, .int .i64 0, .int .i64 0, .int .i64 0, .int .i64 0, .int .i64 0, .int .i64 0, .int .u64 0, .int .u64 0, .int .u32 0, .int .u64 0, .bool false]) 0 (.string nm) rfl
    have r1 := r0.setOther (b := w.heap.size + 1) (by omega) 0 (.string nm)
    have m1 := m0.setCell (p := ⟨w.heap.size + 1, 0, none⟩) (by simp) (.string nm)
    have p2 := p1.setTo (cs' := #[.string nm, .int .i64 ty, .int .i64 0, .int .i64 0, .int .i64 0, .int .i64 0, .int .i64 0, .int .u64 0, .int .u64 0, .int .u32 0, .int .u64 0, .bool false]) 1 (.int .i64 ty) rfl
    have r2 := r1.setOther (b := w.heap.size + 1) (by omega) 1 (.int .i64 ty)
    have m2 := m1.setCell (p := ⟨w.heap.size + 1, 1, none⟩) (by simp) (.int .i64 ty)
    have p3 := p2.setTo (cs' := #[.string nm, .int .i64 ty, .int .i64 tmo, .int .i64 0, .int .i64 0, .int .i64 0, .int .i64 0, .int .u64 0, .int .u64 0, .int .u32 0, .int .u64 0, .bool false]) 2 (.int .i64 tmo) rfl
    have r3 := r2.setOther (b := w.heap.size + 1) (by omega) 2 (.int .i64 tmo)
    have m3 := m2.setCell (p := ⟨w.heap.size + 1, 2, none⟩) (by simp) (.int .i64 tmo)
    have p4 := p3.setTo (cs' := #[.string nm, .int .i64 ty, .int .i64 tmo, .int .i64 td, .int .i64 0, .int .i64 0, .int .i64 0, .int .u64 0, .int .u64 0, .int .u32 0, .int .u64 0, .bool false]) 3 (.int .i64 td) rfl
    have r4 := r3.setOther (b := w.heap.size + 1) (by omega) 3 (.int .i64 td)
    have m4 := m3.setCell (p := ⟨w.heap.size + 1, 3, none⟩) (by simp) (.int .i64 td)
    have p5 := p4.setTo (cs' := #[.string nm, .int .i64 ty, .int .i64 tmo, .int .i64 td, .int .i64 thh, .int .i64 0, .int .i64 0, .int .u64 0, .int .u64 0, .int .u32 0, .int .u64 0, .bool false]) 4 (.int .i64 thh) rfl
    have r5 := r4.setOther (b := w.heap.size + 1) (by omega) 4 (.int .i64 thh)
    have m5 := m4.setCell (p := ⟨w.heap.size + 1, 4, none⟩) (by simp) (.int .i64 thh)
    have p6 := p5.setTo (cs' := #[.string nm, .int .i64 ty, .int .i64 tmo, .int .i64 td, .int .i64 thh, .int .i64 tmi, .int .i64 0, .int .u64 0, .int .u64 0, .int .u32 0, .int .u64 0, .bool false]) 5 (.int .i64 tmi) rfl
    have r6 := r5.setOther (b := w.heap.size + 1) (by omega) 5 (.int .i64 tmi)
    have m6 := m5.setCell (p := ⟨w.heap.size + 1, 5, none⟩) (by simp) (.int .i64 tmi)
    have p7 := p6.setTo (cs' := #[.string nm, .int .i64 ty, .int .i64 tmo, .int .i64 td, .int .i64 thh, .int .i64 tmi, .int .i64 tsc, .int .u64 0, .int .u64 0, .int .u32 0, .int .u64 0, .bool false]) 6 (.int .i64 tsc) rfl
    have r7 := r6.setOther (b := w.heap.size + 1) (by omega) 6 (.int .i64 tsc)
    have m7 := m6.setCell (p := ⟨w.heap.size + 1, 6, none⟩) (by simp) (.int .i64 tsc)
    have p8 := p7.setTo (cs' := #[.string nm, .int .i64 ty, .int .i64 tmo, .int .i64 td, .int .i64 thh, .int .i64 tmi, .int .i64 tsc, .int .u64 packed, .int .u64 0, .int .u32 0, .int .u64 0, .bool false]) 7 (.int .u64 packed) rfl
    have r8 := r7.setOther (b := w.heap.size + 1) (by omega) 7 (.int .u64 packed)
    have m8 := m7.setCell (p := ⟨w.heap.size + 1, 7, none⟩) (by simp) (.int .u64 packed)
    have p9 := p8.setTo (cs' := #[.string nm, .int .i64 ty, .int .i64 tmo, .int .i64 td, .int .i64 thh, .int .i64 tmi, .int .i64 tsc, .int .u64 packed, .int .u64 size, .int .u32 0, .int .u64 0, .bool false]) 8 (.int .u64 size) rfl
    have r9 := r8.setOther (b := w.heap.size + 1) (by omega) 8 (.int .u64 size)
    have m9 := m8.setCell (p := ⟨w.heap.size + 1, 8, none⟩) (by simp) (.int .u64 size)
    have p10 := p9.setTo (cs' := #[.string nm, .int .i64 ty, .int .i64 tmo, .int .i64 td, .int .i64 thh, .int .i64 tmi, .int .i64 tsc, .int .u64 packed, .int .u64 size, .int .u32 sum, .int .u64 0, .bool false]) 9 (.int .u32 sum) rfl
    have r10 := r9.setOther (b := w.heap.size + 1) (by omega) 9 (.int .u32 sum)
    have m10 := m9.setCell (p := ⟨w.heap.size + 1, 9, none⟩) (by simp) (.int .u32 sum)
    have p11 := p10.setTo (cs' := #[.string nm, .int .i64 ty, .int .i64 tmo, .int .i64 td, .int .i64 thh, .int .i64 tmi, .int .i64 tsc, .int .u64 packed, .int .u64 size, .int .u32 sum, .int .u64 pos, .bool false]) 10 (.int .u64 pos) rfl
    have r11 := r10.setOther (b := w.heap.size + 1) (by omega) 10 (.int .u64 pos)
    have m11 := m10.setCell (p := ⟨w.heap.size + 1, 10, none⟩) (by simp) (.int .u64 pos)
    have p12 := p11.setTo (cs' := #[.string nm, .int .i64 ty, .int .i64 tmo, .int .i64 td, .int .i64 thh, .int .i64 tmi, .int .i64 tsc, .int .u64 packed, .int .u64 size, .int .u32 sum, .int .u64 pos, .bool kept]) 11 (.bool kept) rfl
    have r12 := r11.setOther (b := w.heap.size + 1) (by omega) 11 (.bool kept)
    have m12 := m11.setCell (p := ⟨w.heap.size + 1, 11, none⟩) (by simp) (.bool kept)
    have r13 := r12.setTo (cs' := #[.string nm, .int .i64 0, .int .i64 0, .int .i64 0, .int .i64 0, .int .i64 0, .int .i64 0, .int .u64 0, .int .u64 0, .int .u32 0, .int .u64 0, .bool false]) 0 (.string nm) rfl
    have p13 := p12.setOther (b := w.heap.size + 1 + 1) (by omega) 0 (.string nm)
    have m13 := m12.setCell (p := ⟨w.heap.size + 1 + 1, 0, none⟩) (by simp; omega) (.string nm)
    have r14 := r13.setTo (cs' := #[.string nm, .int .i64 ty, .int .i64 0, .int .i64 0, .int .i64 0, .int .i64 0, .int .i64 0, .int .u64 0, .int .u64 0, .int .u32 0, .int .u64 0, .bool false]) 1 (.int .i64 ty) rfl
    have p14 := p13.setOther (b := w.heap.size + 1 + 1) (by omega) 1 (.int .i64 ty)
    have m14 := m13.setCell (p := ⟨w.heap.size + 1 + 1, 1, none⟩) (by simp; omega) (.int .i64 ty)
    have r15 := r14.setTo (cs' := #[.string nm, .int .i64 ty, .int .i64 tmo, .int .i64 0, .int .i64 0, .int .i64 0, .int .i64 0, .int .u64 0, .int .u64 0, .int .u32 0, .int .u64 0, .bool false]) 2 (.int .i64 tmo) rfl
    have p15 := p14.setOther (b := w.heap.size + 1 + 1) (by omega) 2 (.int .i64 tmo)
    have m15 := m14.setCell (p := ⟨w.heap.size + 1 + 1, 2, none⟩) (by simp; omega) (.int .i64 tmo)
    have r16 := r15.setTo (cs' := #[.string nm, .int .i64 ty, .int .i64 tmo, .int .i64 td, .int .i64 0, .int .i64 0, .int .i64 0, .int .u64 0, .int .u64 0, .int .u32 0, .int .u64 0, .bool false]) 3 (.int .i64 td) rfl
    have p16 := p15.setOther (b := w.heap.size + 1 + 1) (by omega) 3 (.int .i64 td)
    have m16 := m15.setCell (p := ⟨w.heap.size + 1 + 1, 3, none⟩) (by simp; omega) (.int .i64 td)
    have r17 := r16.setTo (cs' := #[.string nm, .int .i64 ty, .int .i64 tmo, .int .i64 td, .int .i64 thh, .int .i64 0, .int .i64 0, .int .u64 0, .int .u64 0, .int .u32 0, .int .u64 0, .bool false]) 4 (.int .i64 thh) rfl
    have p17 := p16.setOther (b := w.heap.size + 1 + 1) (by omega) 4 (.int .i64 thh)
    have m17 := m16.setCell (p := ⟨w.heap.size + 1 + 1, 4, none⟩) (by simp; omega) (.int .i64 thh)
    have r18 := r17.setTo (cs' := #[.string nm, .int .i64 ty, .int .i64 tmo, .int .i64 td, .int .i64 thh, .int .i64 tmi, .int .i64 0, .int .u64 0, .int .u64 0, .int .u32 0, .int .u64 0, .bool false]) 5 (.int .i64 tmi) rfl
    have p18 := p17.setOther (b := w.heap.size + 1 + 1) (by omega) 5 (.int .i64 tmi)
    have m18 := m17.setCell (p := ⟨w.heap.size + 1 + 1, 5, none⟩) (by simp; omega) (.int .i64 tmi)
    have r19 := r18.setTo (cs' := #[.string nm, .int .i64 ty, .int .i64 tmo, .int .i64 td, .int .i64 thh, .int .i64 tmi, .int .i64 tsc, .int .u64 0, .int .u64 0, .int .u32 0, .int .u64 0, .bool false]) 6 (.int .i64 tsc) rfl
    have p19 := p18.setOther (b := w.heap.size + 1 + 1) (by omega) 6 (.int .i64 tsc)
    have m19 := m18.setCell (p := ⟨w.heap.size + 1 + 1, 6, none⟩) (by simp; omega) (.int .i64 tsc)
    have r20 := r19.setTo (cs' := #[.string nm, .int .i64 ty, .int .i64 tmo, .int .i64 td, .int .i64 thh, .int .i64 tmi, .int .i64 tsc, .int .u64 packed, .int .u64 0, .int .u32 0, .int .u64 0, .bool false]) 7 (.int .u64 packed) rfl
    have p20 := p19.setOther (b := w.heap.size + 1 + 1) (by omega) 7 (.int .u64 packed)
    have m20 := m19.setCell (p := ⟨w.heap.size + 1 + 1, 7, none⟩) (by simp; omega) (.int .u64 packed)
    have r21 := r20.setTo (cs' := #[.string nm, .int .i64 ty, .int .i64 tmo, .int .i64 td, .int .i64 thh, .int .i64 tmi, .int .i64 tsc, .int .u64 packed, .int .u64 size, .int .u32 0, .int .u64 0, .bool false]) 8 (.int .u64 size) rfl
    have p21 := p20.setOther (b := w.heap.size + 1 + 1) (by omega) 8 (.int .u64 size)
    have m21 := m20.setCell (p := ⟨w.heap.size + 1 + 1, 8, none⟩) (by simp; omega) (.int .u64 size)
    have r22 := r21.setTo (cs' := #[.string nm, .int .i64 ty, .int .i64 tmo, .int .i64 td, .int .i64 thh, .int .i64 tmi, .int .i64 tsc, .int .u64 packed, .int .u64 size, .int .u32 sum, .int .u64 0, .bool false]) 9 (.int .u32 sum) rfl
    have p22 := p21.setOther (b := w.heap.size + 1 + 1) (by omega) 9 (.int .u32 sum)
    have m22 := m21.setCell (p := ⟨w.heap.size + 1 + 1, 9, none⟩) (by simp; omega) (.int .u32 sum)
    have r23 := r22.setTo (cs' := #[.string nm, .int .i64 ty, .int .i64 tmo, .int .i64 td, .int .i64 thh, .int .i64 tmi, .int .i64 tsc, .int .u64 packed, .int .u64 size, .int .u32 sum, .int .u64 pos, .bool false]) 10 (.int .u64 pos) rfl
    have p23 := p22.setOther (b := w.heap.size + 1 + 1) (by omega) 10 (.int .u64 pos)
    have m23 := m22.setCell (p := ⟨w.heap.size + 1 + 1, 10, none⟩) (by simp; omega) (.int .u64 pos)
    have r24 := r23.setTo (cs' := #[.string nm, .int .i64 ty, .int .i64 tmo, .int .i64 td, .int .i64 thh, .int .i64 tmi, .int .i64 tsc, .int .u64 packed, .int .u64 size, .int .u32 sum, .int .u64 pos, .bool kept]) 11 (.bool kept) rfl
    have p24 := p23.setOther (b := w.heap.size + 1 + 1) (by omega) 11 (.bool kept)
    have m24 := m23.setCell (p := ⟨w.heap.size + 1 + 1, 11, none⟩) (by simp; omega) (.bool kept)
    obtain ⟨Wf, hWf⟩ : ∃ Wf, Wf = ((((((((((((((((((((((((W1.setCell ⟨w.heap.size + 1, 0, none⟩ (.string nm)).setCell ⟨w.heap.size + 1, 1, none⟩ (.int .i64 ty)).setCell ⟨w.heap.size + 1, 2, none⟩ (.int .i64 tmo)).setCell ⟨w.heap.size + 1, 3, none⟩ (.int .i64 td)).setCell ⟨w.heap.size + 1, 4, none⟩ (.int .i64 thh)).setCell ⟨w.heap.size + 1, 5, none⟩ (.int .i64 tmi)).setCell ⟨w.heap.size + 1, 6, none⟩ (.int .i64 tsc)).setCell ⟨w.heap.size + 1, 7, none⟩ (.int .u64 packed)).setCell ⟨w.heap.size + 1, 8, none⟩ (.int .u64 size)).setCell ⟨w.heap.size + 1, 9, none⟩ (.int .u32 sum)).setCell ⟨w.heap.size + 1, 10, none⟩ (.int .u64 pos)).setCell ⟨w.heap.size + 1, 11, none⟩ (.bool kept)).setCell ⟨w.heap.size + 1 + 1, 0, none⟩ (.string nm)).setCell ⟨w.heap.size + 1 + 1, 1, none⟩ (.int .i64 ty)).setCell ⟨w.heap.size + 1 + 1, 2, none⟩ (.int .i64 tmo)).setCell ⟨w.heap.size + 1 + 1, 3, none⟩ (.int .i64 td)).setCell ⟨w.heap.size + 1 + 1, 4, none⟩ (.int .i64 thh)).setCell ⟨w.heap.size + 1 + 1, 5, none⟩ (.int .i64 tmi)).setCell ⟨w.heap.size + 1 + 1, 6, none⟩ (.int .i64 tsc)).setCell ⟨w.heap.size + 1 + 1, 7, none⟩ (.int .u64 packed)).setCell ⟨w.heap.size + 1 + 1, 8, none⟩ (.int .u64 size)).setCell ⟨w.heap.size + 1 + 1, 9, none⟩ (.int .u32 sum)).setCell ⟨w.heap.size + 1 + 1, 10, none⟩ (.int .u64 pos)).setCell ⟨w.heap.size + 1 + 1, 11, none⟩ (.bool kept)) := ⟨_, rfl⟩
    rw [← hWf] at p24 r24 m24 ⊢
    exact bodyPost_ret (v := .tuple #[(⟨nm, ⟨ty, tmo, td, thh, tmi, tsc⟩, packed, size, sum, pos, kept⟩ : Hd).val, (⟨nm, ⟨ty, tmo, td, thh, tmi, tsc⟩, packed, size, sum, pos, kept⟩ : Hd).val]) (results_cell_cell Tryd.results10 _ _ (w.heap.size + 1) (w.heap.size + 1 + 1) 32 35 _ _ _ _ rfl rfl p24.drew r24.drew Tryd.underlying32 rfl (by kernel_rfl) Tryd.underlying35 rfl (by kernel_rfl)) rfl ⟨⟨⟨ty, tmo, td, thh, tmi, tsc⟩, rfl⟩, m24.drew⟩
end Go.Proofs.YtehhoigedniglaaDoor.Zp
