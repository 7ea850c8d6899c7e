/-
  Headers: speaks answers true. (Printed by mkzpspeak.py.)
-/
import Derived.Test.YtehhoigedniglaaDoorZpSpeak0
import Derived.Test.YtehhoigedniglaaDoorZpEnd
import Derived.Deep.CutBlock
namespace Go.Proofs.YtehhoigedniglaaDoor.Zp
open Go.RowKit Go.Shelf Go.Proofs.YtehhoigedniglaaDoor.Nm
set_option linter.unusedVariables false
set_option linter.unusedSimpArgs false

set_option maxRecDepth 100000 in
theorem first_calls (w : World) : Calls Tryd.prog 20 #[] w fun e w' => e = .returned (.agg #[.int .i64 1980, .int .i64 1, .int .i64 1, .int .i64 0, .int .i64 0, .int .i64 0]) ∧ Below w.heap.size w w' := by
  have m0 := (Below.refl w.heap.size w).alloc (Nat.le_refl _) (.cells #[.int .i64 1980, .int .i64 1, .int .i64 1, .int .i64 0, .int .i64 0, .int .i64 0] 30)
  have k0 := Blk.new w #[.int .i64 1980, .int .i64 1, .int .i64 1, .int .i64 0, .int .i64 0, .int .i64 0] 30
  go_enter Tryd.func20, Tryd.ntmps20
  go_wp2_with fail
  exact bodyPost_ret (v := .agg #[.int .i64 1980, .int .i64 1, .int .i64 1, .int .i64 0, .int .i64 0, .int .i64 0]) (results_cell_row Tryd.results20 _ _ w.heap.size 30 _ _ _ rfl k0 Tryd.underlying30 rfl (by kernel_rfl)) rfl ⟨rfl, m0⟩

set_option maxHeartbeats 2000000 in
set_option maxRecDepth 100000 in
theorem speaks_calls (w : World) (hT : Tabs w) : Calls Tryd.prog 7 #[] w fun e w' => e = .returned (.bool true) ∧ Below w.heap.size w w' := by
  have okH : oneH.ok := ⟨by decide, by decide, by decide, by decide, by decide⟩
  have HL : Hid (∀ W, Tabs W → Calls Tryd.prog 12 #[.agg #[.string ⟨#[97]⟩, .int .i64 1980, .int .i64 1, .int .i64 1, .int .i64 0, .int .i64 0, .int .i64 0, .int .u64 0, .int .u64 0, .int .u32 0, .int .u64 0, .bool true]] W fun e w' => e = .returned (.string oneS) ∧ Below W.heap.size W w') := Lib.hid (fun W h => by
    have := local_calls oneH W okH h
    rw [one_loc] at this
    exact this)
  have HD : Hid (∀ W, Tabs W → Calls Tryd.prog 13 #[.agg #[.string ⟨#[97]⟩, .int .i64 1980, .int .i64 1, .int .i64 1, .int .i64 0, .int .i64 0, .int .i64 0, .int .u64 0, .int .u64 0, .int .u32 0, .int .u64 0, .bool true]] W fun e w' => e = .returned (.string ⟨#[]⟩) ∧ Below W.heap.size W w') := Lib.hid (fun W h => by
    have := descr_calls oneH W okH h
    rw [one_des] at this
    exact this)
  have HR : Hid (∀ W, Tabs W → Calls Tryd.prog 16 #[.string oneS] W fun e w' => e = .returned (.tuple #[.agg #[.string ⟨#[97]⟩, .int .i64 1980, .int .i64 1, .int .i64 1, .int .i64 0, .int .i64 0, .int .i64 0, .int .u64 0, .int .u64 0, .int .u32 0, .int .u64 0, .bool true], .int .i64 31]) ∧ Below W.heap.size W w') := Lib.hid (fun W h => by
    have := read_calls oneS W (by decide) h
    rw [one_read] at this
    exact this)
  have TH : Hid (∀ wx, Below w.heap.size w wx → Tabs wx) := Lib.hid (fun wx h => hT.below h)
  have s31 : oneS.size = 31 := rfl
  have s4 : oneS.extract 0 4 = ⟨#[80, 75, 3, 4]⟩ := by decide
  have se := one_end
  clear hT okH
  generalize oneS = OS at *
  go_enter Tryd.func7, Tryd.ntmps7
  go_wp2_with fail
  refine (first_calls _).mono ?_
  rintro e w1 ⟨rfl, hb1⟩
  go_wp2_with fail
  have K1 := Blk.new w1 #[.string ⟨#[97]⟩, .int .i64 1980, .int .i64 1, .int .i64 1, .int .i64 0, .int .i64 0, .int .i64 0, .int .u64 0, .int .u64 0, .int .u32 0, .int .u64 0, .bool true] 32
  have B1 := hb1.alloc hb1.size (.cells #[.string ⟨#[97]⟩, .int .i64 1980, .int .i64 1, .int .i64 1, .int .i64 0, .int .i64 0, .int .i64 0, .int .u64 0, .int .u64 0, .int .u32 0, .int .u64 0, .bool true] 32)
  refine (HL.out _ (TH.out _ B1)).mono ?_
  rintro e w2 ⟨rfl, hb2⟩
  have K2 := K1.below hb2
  have B2 := B1.trans (hb2.mono B1.size)
  clear K1 B1 hb1 hb2
  generalize hBH : w1.heap.size = BH at *
  clear hBH
  go_wp2_with fail
  refine (HR.out _ (TH.out _ B2)).mono ?_
  rintro e w3 ⟨rfl, hb3⟩
  have K3 := K2.below hb3
  have B3 := B2.trans (hb3.mono B2.size)
  have lt3 := K3.lt
  clear K2 B2 hb3
  go_upto_region 4 with fail
  have K4 := K3.alloc (.cells #[.string ⟨#[97]⟩, .int .i64 1980, .int .i64 1, .int .i64 1, .int .i64 0, .int .i64 0, .int .i64 0, .int .u64 0, .int .u64 0, .int .u32 0, .int .u64 0, .bool true] 32)
  have G4 := Blk.new w3 #[.string ⟨#[97]⟩, .int .i64 1980, .int .i64 1, .int .i64 1, .int .i64 0, .int .i64 0, .int .i64 0, .int .u64 0, .int .u64 0, .int .u32 0, .int .u64 0, .bool true] 32
  have B4 := B3.alloc B3.size (.cells #[.string ⟨#[97]⟩, .int .i64 1980, .int .i64 1, .int .i64 1, .int .i64 0, .int .i64 0, .int .i64 0, .int .u64 0, .int .u64 0, .int .u32 0, .int .u64 0, .bool true] 32)
  obtain ⟨W, hW⟩ : ∃ W, W = w3.alloc (.cells #[.string ⟨#[97]⟩, .int .i64 1980, .int .i64 1, .int .i64 1, .int .i64 0, .int .i64 0, .int .i64 0, .int .u64 0, .int .u64 0, .int .u32 0, .int .u64 0, .bool true] 32) := ⟨_, rfl⟩
  rw [← hW] at K4 G4 B4 ⊢
  clear hW K3 B3
  generalize hBG : w3.heap.size = BG at *
  clear hBG
  have x0 := K4.cell 0
  have y0 := G4.cell 0
  have x1 := K4.cell 1
  have y1 := G4.cell 1
  have x2 := K4.cell 2
  have y2 := G4.cell 2
  have x3 := K4.cell 3
  have y3 := G4.cell 3
  have x4 := K4.cell 4
  have y4 := G4.cell 4
  have x5 := K4.cell 5
  have y5 := G4.cell 5
  have x6 := K4.cell 6
  have y6 := G4.cell 6
  have x7 := K4.cell 7
  have y7 := G4.cell 7
  have x8 := K4.cell 8
  have y8 := G4.cell 8
  have x9 := K4.cell 9
  have y9 := G4.cell 9
  have x10 := K4.cell 10
  have y10 := G4.cell 10
  have x11 := K4.cell 11
  have y11 := G4.cell 11
  simp at x0 y0 x1 y1 x2 y2 x3 y3 x4 y4 x5 y5 x6 y6 x7 y7 x8 y8 x9 y9 x10 y10 x11 y11
  replace B4 := Lib.hid B4
  clear K4 G4 lt3
  go_wp2_with (first | (go_at_call 13; refine (HD.out _ (TH.out _ B4.out)).mono ?_; rintro e w5 ⟨rfl, hb⟩; replace B4 := Lib.hid (B4.out.trans (hb.mono B4.out.size)); clear hb) | (go_at_call 8; refine (end_calls 1 2 3 _ (by omega) (by omega) (by omega) (by omega) (by omega) (by omega)).mono ?_; rintro e w5 ⟨rfl, hb⟩; replace B4 := Lib.hid (B4.out.trans (hb.mono B4.out.size)); clear hb))
  go_ret
  exact ⟨rfl, B4.out⟩
end Go.Proofs.YtehhoigedniglaaDoor.Zp
