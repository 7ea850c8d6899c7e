/-
  Headers are read: Read and ReadCentral. (Printed by mkzpread2.py.)
-/
import Derived.Test.YtehhoigedniglaaDoorZpRead
namespace Go.Proofs.YtehhoigedniglaaDoor.Zp
open Go.RowKit Go.Shelf Go.Proofs.YtehhoigedniglaaDoor.Nm
set_option linter.unusedVariables false
set_option linter.unusedSimpArgs false


set_option maxHeartbeats 1000000 in
set_option maxRecDepth 100000 in
theorem read_calls (s : ByteArray) (w : World) (hs : s.size ≤ 140737488351232) (hT : Tabs w) :
    Calls Tryd.prog 16 #[.string s] w fun e w' => e = .returned (.tuple #[(readG locF s).1.val, .int .i64 (readG locF s).2]) ∧ Below w.heap.size w w' := by
  have B0 := Lib.hid ((Below.refl w.heap.size w).alloc (Nat.le_refl _) (.cells #[.string ⟨#[]⟩, .int .i64 0, .int .i64 0, .int .i64 0, .int .i64 0, .int .i64 0, .int .i64 0, .int .u64 0, .int .u64 0, .int .u32 0, .int .u64 0, .bool false] 32))
  have K := Blk.new w #[.string ⟨#[]⟩, .int .i64 0, .int .i64 0, .int .i64 0, .int .i64 0, .int .i64 0, .int .i64 0, .int .u64 0, .int .u64 0, .int .u32 0, .int .u64 0, .bool false] 32
  have hT0 : Tabs (w.alloc (.cells #[.string ⟨#[]⟩, .int .i64 0, .int .i64 0, .int .i64 0, .int .i64 0, .int .i64 0, .int .i64 0, .int .u64 0, .int .u64 0, .int .u32 0, .int .u64 0, .bool false] 32)) := hT.below B0.out
  have HF := Lib.hid (form_calls locF 32 s (w.alloc (.cells #[.string ⟨#[]⟩, .int .i64 0, .int .i64 0, .int .i64 0, .int .i64 0, .int .i64 0, .int .i64 0, .int .u64 0, .int .u64 0, .int .u32 0, .int .u64 0, .bool false] 32)) hs hT0 ⟨by decide, by decide, by decide, by decide⟩ (.inl rfl) (fun B s name t kept w0 w hs hn hT h0 hB hb => localHead_calls B s name t kept w0 w hs (by omega) hT h0 hB hb))
  obtain ⟨⟨⟨tn, ⟨ty, tmo, td, thh, tmi, tsc⟩, tp, tz, tu, ta, tk⟩, n⟩, hr⟩ : ∃ r, r = readG locF s := ⟨_, rfl⟩
  rw [← hr] at HF ⊢
  simp only [Hd.val] at HF ⊢
  clear hr
  go_enter Tryd.func16, Tryd.ntmps16
  go_wp2_with fail
  refine HF.out.mono ?_
  rintro e w1 ⟨rfl, hb⟩
  have KZ := K.below hb
  have M0 := B0.out.trans (hb.mono B0.out.size)
  have z0 := KZ.cell 0
  have z1 := KZ.cell 1
  have z2 := KZ.cell 2
  have z3 := KZ.cell 3
  have z4 := KZ.cell 4
  have z5 := KZ.cell 5
  have z6 := KZ.cell 6
  have z7 := KZ.cell 7
  have z8 := KZ.cell 8
  have z9 := KZ.cell 9
  have z10 := KZ.cell 10
  have z11 := KZ.cell 11
  have f0 := KZ.frozen
  simp at z0 z1 z2 z3 z4 z5 z6 z7 z8 z9 z10 z11
  have k0 := Lib.hid KZ
  have m0 := Lib.hid M0
  clear KZ M0 K hb B0
  go_wp2_with fail
  replace k0 := k0.out
  replace m0 := m0.out
  have k1 := k0.setTo (cs' := #[.string tn, .int .i64 0, .int .i64 0, .int .i64 0, .int .i64 0, .int .i64 0, .int .i64 0, .int .u64 0, .int .u64 0, .int .u32 0, .int .u64 0, .bool false]) 0 (.string tn) rfl
  have m1 := m0.setCell (p := ⟨w.heap.size, 0, none⟩) (Nat.le_refl _) (.string tn)
  have k2 := k1.setTo (cs' := #[.string tn, .int .i64 ty, .int .i64 0, .int .i64 0, .int .i64 0, .int .i64 0, .int .i64 0, .int .u64 0, .int .u64 0, .int .u32 0, .int .u64 0, .bool false]) 1 (.int .i64 ty) rfl
  have m2 := m1.setCell (p := ⟨w.heap.size, 1, none⟩) (Nat.le_refl _) (.int .i64 ty)
  have k3 := k2.setTo (cs' := #[.string tn, .int .i64 ty, .int .i64 tmo, .int .i64 0, .int .i64 0, .int .i64 0, .int .i64 0, .int .u64 0, .int .u64 0, .int .u32 0, .int .u64 0, .bool false]) 2 (.int .i64 tmo) rfl
  have m3 := m2.setCell (p := ⟨w.heap.size, 2, none⟩) (Nat.le_refl _) (.int .i64 tmo)
  have k4 := k3.setTo (cs' := #[.string tn, .int .i64 ty, .int .i64 tmo, .int .i64 td, .int .i64 0, .int .i64 0, .int .i64 0, .int .u64 0, .int .u64 0, .int .u32 0, .int .u64 0, .bool false]) 3 (.int .i64 td) rfl
  have m4 := m3.setCell (p := ⟨w.heap.size, 3, none⟩) (Nat.le_refl _) (.int .i64 td)
  have k5 := k4.setTo (cs' := #[.string tn, .int .i64 ty, .int .i64 tmo, .int .i64 td, .int .i64 thh, .int .i64 0, .int .i64 0, .int .u64 0, .int .u64 0, .int .u32 0, .int .u64 0, .bool false]) 4 (.int .i64 thh) rfl
  have m5 := m4.setCell (p := ⟨w.heap.size, 4, none⟩) (Nat.le_refl _) (.int .i64 thh)
  have k6 := k5.setTo (cs' := #[.string tn, .int .i64 ty, .int .i64 tmo, .int .i64 td, .int .i64 thh, .int .i64 tmi, .int .i64 0, .int .u64 0, .int .u64 0, .int .u32 0, .int .u64 0, .bool false]) 5 (.int .i64 tmi) rfl
  have m6 := m5.setCell (p := ⟨w.heap.size, 5, none⟩) (Nat.le_refl _) (.int .i64 tmi)
  have k7 := k6.setTo (cs' := #[.string tn, .int .i64 ty, .int .i64 tmo, .int .i64 td, .int .i64 thh, .int .i64 tmi, .int .i64 tsc, .int .u64 0, .int .u64 0, .int .u32 0, .int .u64 0, .bool false]) 6 (.int .i64 tsc) rfl
  have m7 := m6.setCell (p := ⟨w.heap.size, 6, none⟩) (Nat.le_refl _) (.int .i64 tsc)
  have k8 := k7.setTo (cs' := #[.string tn, .int .i64 ty, .int .i64 tmo, .int .i64 td, .int .i64 thh, .int .i64 tmi, .int .i64 tsc, .int .u64 tp, .int .u64 0, .int .u32 0, .int .u64 0, .bool false]) 7 (.int .u64 tp) rfl
  have m8 := m7.setCell (p := ⟨w.heap.size, 7, none⟩) (Nat.le_refl _) (.int .u64 tp)
  have k9 := k8.setTo (cs' := #[.string tn, .int .i64 ty, .int .i64 tmo, .int .i64 td, .int .i64 thh, .int .i64 tmi, .int .i64 tsc, .int .u64 tp, .int .u64 tz, .int .u32 0, .int .u64 0, .bool false]) 8 (.int .u64 tz) rfl
  have m9 := m8.setCell (p := ⟨w.heap.size, 8, none⟩) (Nat.le_refl _) (.int .u64 tz)
  have k10 := k9.setTo (cs' := #[.string tn, .int .i64 ty, .int .i64 tmo, .int .i64 td, .int .i64 thh, .int .i64 tmi, .int .i64 tsc, .int .u64 tp, .int .u64 tz, .int .u32 tu, .int .u64 0, .bool false]) 9 (.int .u32 tu) rfl
  have m10 := m9.setCell (p := ⟨w.heap.size, 9, none⟩) (Nat.le_refl _) (.int .u32 tu)
  have k11 := k10.setTo (cs' := #[.string tn, .int .i64 ty, .int .i64 tmo, .int .i64 td, .int .i64 thh, .int .i64 tmi, .int .i64 tsc, .int .u64 tp, .int .u64 tz, .int .u32 tu, .int .u64 ta, .bool false]) 10 (.int .u64 ta) rfl
  have m11 := m10.setCell (p := ⟨w.heap.size, 10, none⟩) (Nat.le_refl _) (.int .u64 ta)
  have k12 := k11.setTo (cs' := #[.string tn, .int .i64 ty, .int .i64 tmo, .int .i64 td, .int .i64 thh, .int .i64 tmi, .int .i64 tsc, .int .u64 tp, .int .u64 tz, .int .u32 tu, .int .u64 ta, .bool tk]) 11 (.bool tk) rfl
  have m12 := m11.setCell (p := ⟨w.heap.size, 11, none⟩) (Nat.le_refl _) (.bool tk)
  obtain ⟨Wf, hWf⟩ : ∃ Wf, Wf = ((((((((((((w1.setCell ⟨w.heap.size, 0, none⟩ (.string tn)).setCell ⟨w.heap.size, 1, none⟩ (.int .i64 ty)).setCell ⟨w.heap.size, 2, none⟩ (.int .i64 tmo)).setCell ⟨w.heap.size, 3, none⟩ (.int .i64 td)).setCell ⟨w.heap.size, 4, none⟩ (.int .i64 thh)).setCell ⟨w.heap.size, 5, none⟩ (.int .i64 tmi)).setCell ⟨w.heap.size, 6, none⟩ (.int .i64 tsc)).setCell ⟨w.heap.size, 7, none⟩ (.int .u64 tp)).setCell ⟨w.heap.size, 8, none⟩ (.int .u64 tz)).setCell ⟨w.heap.size, 9, none⟩ (.int .u32 tu)).setCell ⟨w.heap.size, 10, none⟩ (.int .u64 ta)).setCell ⟨w.heap.size, 11, none⟩ (.bool tk)) := ⟨_, rfl⟩
  rw [← hWf] at k12 m12 ⊢
  exact bodyPost_ret (v := .tuple #[.agg #[.string tn, .int .i64 ty, .int .i64 tmo, .int .i64 td, .int .i64 thh, .int .i64 tmi, .int .i64 tsc, .int .u64 tp, .int .u64 tz, .int .u32 tu, .int .u64 ta, .bool tk], .int .i64 n]) (results_cell_tmp Tryd.results16 _ _ w.heap.size 32 _ _ _ rfl rfl k12 Tryd.underlying32 rfl (by kernel_rfl)) rfl ⟨rfl, m12⟩


set_option maxHeartbeats 1000000 in
set_option maxRecDepth 100000 in
theorem readc_calls (s : ByteArray) (w : World) (hs : s.size ≤ 140737488351232) (hT : Tabs w) :
    Calls Tryd.prog 17 #[.string s] w fun e w' => e = .returned (.tuple #[(readG cenF s).1.val, .int .i64 (readG cenF s).2]) ∧ Below w.heap.size w w' := by
  have B0 := Lib.hid ((Below.refl w.heap.size w).alloc (Nat.le_refl _) (.cells #[.string ⟨#[]⟩, .int .i64 0, .int .i64 0, .int .i64 0, .int .i64 0, .int .i64 0, .int .i64 0, .int .u64 0, .int .u64 0, .int .u32 0, .int .u64 0, .bool false] 32))
  have K := Blk.new w #[.string ⟨#[]⟩, .int .i64 0, .int .i64 0, .int .i64 0, .int .i64 0, .int .i64 0, .int .i64 0, .int .u64 0, .int .u64 0, .int .u32 0, .int .u64 0, .bool false] 32
  have hT0 : Tabs (w.alloc (.cells #[.string ⟨#[]⟩, .int .i64 0, .int .i64 0, .int .i64 0, .int .i64 0, .int .i64 0, .int .i64 0, .int .u64 0, .int .u64 0, .int .u32 0, .int .u64 0, .bool false] 32)) := hT.below B0.out
  have HF := Lib.hid (form_calls cenF 34 s (w.alloc (.cells #[.string ⟨#[]⟩, .int .i64 0, .int .i64 0, .int .i64 0, .int .i64 0, .int .i64 0, .int .i64 0, .int .u64 0, .int .u64 0, .int .u32 0, .int .u64 0, .bool false] 32)) hs hT0 ⟨by decide, by decide, by decide, by decide⟩ (.inr rfl) (fun B s name t kept w0 w hs hn hT h0 hB hb => centralHead_calls B s name t kept w0 w hs hn hT h0 hB hb))
  obtain ⟨⟨⟨tn, ⟨ty, tmo, td, thh, tmi, tsc⟩, tp, tz, tu, ta, tk⟩, n⟩, hr⟩ : ∃ r, r = readG cenF s := ⟨_, rfl⟩
  rw [← hr] at HF ⊢
  simp only [Hd.val] at HF ⊢
  clear hr
  go_enter Tryd.func17, Tryd.ntmps17
  go_wp2_with fail
  refine HF.out.mono ?_
  rintro e w1 ⟨rfl, hb⟩
  have KZ := K.below hb
  have M0 := B0.out.trans (hb.mono B0.out.size)
  have z0 := KZ.cell 0
  have z1 := KZ.cell 1
  have z2 := KZ.cell 2
  have z3 := KZ.cell 3
  have z4 := KZ.cell 4
  have z5 := KZ.cell 5
  have z6 := KZ.cell 6
  have z7 := KZ.cell 7
  have z8 := KZ.cell 8
  have z9 := KZ.cell 9
  have z10 := KZ.cell 10
  have z11 := KZ.cell 11
  have f0 := KZ.frozen
  simp at z0 z1 z2 z3 z4 z5 z6 z7 z8 z9 z10 z11
  have k0 := Lib.hid KZ
  have m0 := Lib.hid M0
  clear KZ M0 K hb B0
  go_wp2_with fail
  replace k0 := k0.out
  replace m0 := m0.out
  have k1 := k0.setTo (cs' := #[.string tn, .int .i64 0, .int .i64 0, .int .i64 0, .int .i64 0, .int .i64 0, .int .i64 0, .int .u64 0, .int .u64 0, .int .u32 0, .int .u64 0, .bool false]) 0 (.string tn) rfl
  have m1 := m0.setCell (p := ⟨w.heap.size, 0, none⟩) (Nat.le_refl _) (.string tn)
  have k2 := k1.setTo (cs' := #[.string tn, .int .i64 ty, .int .i64 0, .int .i64 0, .int .i64 0, .int .i64 0, .int .i64 0, .int .u64 0, .int .u64 0, .int .u32 0, .int .u64 0, .bool false]) 1 (.int .i64 ty) rfl
  have m2 := m1.setCell (p := ⟨w.heap.size, 1, none⟩) (Nat.le_refl _) (.int .i64 ty)
  have k3 := k2.setTo (cs' := #[.string tn, .int .i64 ty, .int .i64 tmo, .int .i64 0, .int .i64 0, .int .i64 0, .int .i64 0, .int .u64 0, .int .u64 0, .int .u32 0, .int .u64 0, .bool false]) 2 (.int .i64 tmo) rfl
  have m3 := m2.setCell (p := ⟨w.heap.size, 2, none⟩) (Nat.le_refl _) (.int .i64 tmo)
  have k4 := k3.setTo (cs' := #[.string tn, .int .i64 ty, .int .i64 tmo, .int .i64 td, .int .i64 0, .int .i64 0, .int .i64 0, .int .u64 0, .int .u64 0, .int .u32 0, .int .u64 0, .bool false]) 3 (.int .i64 td) rfl
  have m4 := m3.setCell (p := ⟨w.heap.size, 3, none⟩) (Nat.le_refl _) (.int .i64 td)
  have k5 := k4.setTo (cs' := #[.string tn, .int .i64 ty, .int .i64 tmo, .int .i64 td, .int .i64 thh, .int .i64 0, .int .i64 0, .int .u64 0, .int .u64 0, .int .u32 0, .int .u64 0, .bool false]) 4 (.int .i64 thh) rfl
  have m5 := m4.setCell (p := ⟨w.heap.size, 4, none⟩) (Nat.le_refl _) (.int .i64 thh)
  have k6 := k5.setTo (cs' := #[.string tn, .int .i64 ty, .int .i64 tmo, .int .i64 td, .int .i64 thh, .int .i64 tmi, .int .i64 0, .int .u64 0, .int .u64 0, .int .u32 0, .int .u64 0, .bool false]) 5 (.int .i64 tmi) rfl
  have m6 := m5.setCell (p := ⟨w.heap.size, 5, none⟩) (Nat.le_refl _) (.int .i64 tmi)
  have k7 := k6.setTo (cs' := #[.string tn, .int .i64 ty, .int .i64 tmo, .int .i64 td, .int .i64 thh, .int .i64 tmi, .int .i64 tsc, .int .u64 0, .int .u64 0, .int .u32 0, .int .u64 0, .bool false]) 6 (.int .i64 tsc) rfl
  have m7 := m6.setCell (p := ⟨w.heap.size, 6, none⟩) (Nat.le_refl _) (.int .i64 tsc)
  have k8 := k7.setTo (cs' := #[.string tn, .int .i64 ty, .int .i64 tmo, .int .i64 td, .int .i64 thh, .int .i64 tmi, .int .i64 tsc, .int .u64 tp, .int .u64 0, .int .u32 0, .int .u64 0, .bool false]) 7 (.int .u64 tp) rfl
  have m8 := m7.setCell (p := ⟨w.heap.size, 7, none⟩) (Nat.le_refl _) (.int .u64 tp)
  have k9 := k8.setTo (cs' := #[.string tn, .int .i64 ty, .int .i64 tmo, .int .i64 td, .int .i64 thh, .int .i64 tmi, .int .i64 tsc, .int .u64 tp, .int .u64 tz, .int .u32 0, .int .u64 0, .bool false]) 8 (.int .u64 tz) rfl
  have m9 := m8.setCell (p := ⟨w.heap.size, 8, none⟩) (Nat.le_refl _) (.int .u64 tz)
  have k10 := k9.setTo (cs' := #[.string tn, .int .i64 ty, .int .i64 tmo, .int .i64 td, .int .i64 thh, .int .i64 tmi, .int .i64 tsc, .int .u64 tp, .int .u64 tz, .int .u32 tu, .int .u64 0, .bool false]) 9 (.int .u32 tu) rfl
  have m10 := m9.setCell (p := ⟨w.heap.size, 9, none⟩) (Nat.le_refl _) (.int .u32 tu)
  have k11 := k10.setTo (cs' := #[.string tn, .int .i64 ty, .int .i64 tmo, .int .i64 td, .int .i64 thh, .int .i64 tmi, .int .i64 tsc, .int .u64 tp, .int .u64 tz, .int .u32 tu, .int .u64 ta, .bool false]) 10 (.int .u64 ta) rfl
  have m11 := m10.setCell (p := ⟨w.heap.size, 10, none⟩) (Nat.le_refl _) (.int .u64 ta)
  have k12 := k11.setTo (cs' := #[.string tn, .int .i64 ty, .int .i64 tmo, .int .i64 td, .int .i64 thh, .int .i64 tmi, .int .i64 tsc, .int .u64 tp, .int .u64 tz, .int .u32 tu, .int .u64 ta, .bool tk]) 11 (.bool tk) rfl
  have m12 := m11.setCell (p := ⟨w.heap.size, 11, none⟩) (Nat.le_refl _) (.bool tk)
  obtain ⟨Wf, hWf⟩ : ∃ Wf, Wf = ((((((((((((w1.setCell ⟨w.heap.size, 0, none⟩ (.string tn)).setCell ⟨w.heap.size, 1, none⟩ (.int .i64 ty)).setCell ⟨w.heap.size, 2, none⟩ (.int .i64 tmo)).setCell ⟨w.heap.size, 3, none⟩ (.int .i64 td)).setCell ⟨w.heap.size, 4, none⟩ (.int .i64 thh)).setCell ⟨w.heap.size, 5, none⟩ (.int .i64 tmi)).setCell ⟨w.heap.size, 6, none⟩ (.int .i64 tsc)).setCell ⟨w.heap.size, 7, none⟩ (.int .u64 tp)).setCell ⟨w.heap.size, 8, none⟩ (.int .u64 tz)).setCell ⟨w.heap.size, 9, none⟩ (.int .u32 tu)).setCell ⟨w.heap.size, 10, none⟩ (.int .u64 ta)).setCell ⟨w.heap.size, 11, none⟩ (.bool tk)) := ⟨_, rfl⟩
  rw [← hWf] at k12 m12 ⊢
  exact bodyPost_ret (v := .tuple #[.agg #[.string tn, .int .i64 ty, .int .i64 tmo, .int .i64 td, .int .i64 thh, .int .i64 tmi, .int .i64 tsc, .int .u64 tp, .int .u64 tz, .int .u32 tu, .int .u64 ta, .bool tk], .int .i64 n]) (results_cell_tmp Tryd.results17 _ _ w.heap.size 32 _ _ _ rfl rfl k12 Tryd.underlying32 rfl (by kernel_rfl)) rfl ⟨rfl, m12⟩

end Go.Proofs.YtehhoigedniglaaDoor.Zp
