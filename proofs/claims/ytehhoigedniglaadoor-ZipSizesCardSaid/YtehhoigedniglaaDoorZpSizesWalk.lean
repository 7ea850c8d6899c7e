/-
  ZipSizes' walk. (Printed by mkzpsizes.py.)
-/
import Derived.Test.YtehhoigedniglaaDoorZpSizesLaw
import Derived.Test.YtehhoigedniglaaDoorZpSpeak
import Derived.Test.YtehhoigedniglaaDoorZpMade
import Derived.Test.YtehhoigedniglaaDoorZpHead3
import Derived.Deep.CutBlock
namespace Go.Proofs.YtehhoigedniglaaDoor.Zp
open Go.RowKit Go.Shelf Go.Proofs.YtehhoigedniglaaDoor.Nm
set_option linter.unusedVariables false
set_option linter.unusedSimpArgs false

set_option maxHeartbeats 8000000 in
set_option maxRecDepth 100000 in
theorem sizes_walk (name : ByteArray) (tm packed size sum pos : Int) (kept : Bool) (w : World) (hn : name.size ≤ 140737488351232) (ht : -9223372036854775808 ≤ tm) (ht2 : tm ≤ 9223372036854775807)
    (hp : 0 ≤ packed ∧ packed < 18446744073709551616) (hs : 0 ≤ size ∧ size < 18446744073709551616) (hu : 0 ≤ sum ∧ sum < 4294967296) (ha : 0 ≤ pos ∧ pos < 18446744073709551616) (hT : Tabs w) :
    Calls Tryd.prog 4 #[.agg #[.string name, .int .i64 tm, .int .u64 packed, .int .u64 size, .int .u32 sum, .int .u64 pos, .bool kept]] w fun e w' => e = .returned (.bool true) ∧ Below w.heap.size w w' := by
  have B0 := (Below.refl w.heap.size w).alloc (Nat.le_refl _) (.cells #[.string name, .int .i64 tm, .int .u64 packed, .int .u64 size, .int .u32 sum, .int .u64 pos, .bool kept] 28)
  have K0 := Blk.new w #[.string name, .int .i64 tm, .int .u64 packed, .int .u64 size, .int .u32 sum, .int .u64 pos, .bool kept] 28
  have TH : Hid (∀ wx, Below w.heap.size w wx → Tabs wx) := Lib.hid (fun wx h => hT.below h)
  clear hT
  go_enter Tryd.func4, Tryd.ntmps4
  go_wp2_with fail
  refine (speaks_calls _ (TH.out _ B0)).mono ?_
  rintro e w1 ⟨rfl, hb⟩
  have K1 := K0.below hb
  have B1 := B0.trans (hb.mono B0.size)
  clear K0 B0 hb
  have x0 := K1.cell 0
  have x1 := K1.cell 1
  have x2 := K1.cell 2
  have x3 := K1.cell 3
  have x4 := K1.cell 4
  have x5 := K1.cell 5
  have x6 := K1.cell 6
  simp at x0 x1 x2 x3 x4 x5 x6
  go_wp2_with fail
  refine (made_calls name tm packed size sum pos kept _ hn ht ht2).mono ?_
  rintro e w2 ⟨⟨T, rfl⟩, hb⟩
  have B2 := Lib.hid (B1.trans (hb.mono B1.size))
  have hnm := cutN_size name
  generalize cutN name = nm at *
  clear hb B1 K1 x0 x1 x2 x3 x4 x5 x6
  have ho : Hd.ok ⟨nm, T, packed, size, sum, pos, kept⟩ := ⟨by simp only; omega, hp, hs, hu, ha⟩
  obtain ⟨ty, tmo, td, thh, tmi, tsc⟩ := T
  simp only [Hd.val]
  go_upto_region 4 with fail
  have K1 := (Blk.new w2 #[.string nm, .int .i64 ty, .int .i64 tmo, .int .i64 td, .int .i64 thh, .int .i64 tmi, .int .i64 tsc, .int .u64 packed, .int .u64 size, .int .u32 sum, .int .u64 pos, .bool kept] 32).alloc (.cells #[.string nm, .int .i64 ty, .int .i64 tmo, .int .i64 td, .int .i64 thh, .int .i64 tmi, .int .i64 tsc, .int .u64 packed, .int .u64 size, .int .u32 sum, .int .u64 pos, .bool kept] 35)
  have K2 := Blk.new1 w2 (.cells #[.string nm, .int .i64 ty, .int .i64 tmo, .int .i64 td, .int .i64 thh, .int .i64 tmi, .int .i64 tsc, .int .u64 packed, .int .u64 size, .int .u32 sum, .int .u64 pos, .bool kept] 32) #[.string nm, .int .i64 ty, .int .i64 tmo, .int .i64 td, .int .i64 thh, .int .i64 tmi, .int .i64 tsc, .int .u64 packed, .int .u64 size, .int .u32 sum, .int .u64 pos, .bool kept] 35
  have B3 := B2.out.alloc B2.out.size (.cells #[.string nm, .int .i64 ty, .int .i64 tmo, .int .i64 td, .int .i64 thh, .int .i64 tmi, .int .i64 tsc, .int .u64 packed, .int .u64 size, .int .u32 sum, .int .u64 pos, .bool kept] 32)
  have B4 := B3.alloc B3.size (.cells #[.string nm, .int .i64 ty, .int .i64 tmo, .int .i64 td, .int .i64 thh, .int .i64 tmi, .int .i64 tsc, .int .u64 packed, .int .u64 size, .int .u32 sum, .int .u64 pos, .bool kept] 35)
  obtain ⟨W, hW⟩ : ∃ W, W = ((w2.alloc (.cells #[.string nm, .int .i64 ty, .int .i64 tmo, .int .i64 td, .int .i64 thh, .int .i64 tmi, .int .i64 tsc, .int .u64 packed, .int .u64 size, .int .u32 sum, .int .u64 pos, .bool kept] 32)).alloc (.cells #[.string nm, .int .i64 ty, .int .i64 tmo, .int .i64 td, .int .i64 thh, .int .i64 tmi, .int .i64 tsc, .int .u64 packed, .int .u64 size, .int .u32 sum, .int .u64 pos, .bool kept] 35)) := ⟨_, rfl⟩
  rw [← hW] at K1 K2 B4 ⊢
  clear hW B3 B2
  obtain ⟨U, f, HA⟩ := above W.heap.size W
  have c0 := HA.cell K1 K1.lt 0 (.string nm) rfl
  have c1 := HA.cell K1 K1.lt 1 (.int .i64 ty) rfl
  have c2 := HA.cell K1 K1.lt 2 (.int .i64 tmo) rfl
  have c3 := HA.cell K1 K1.lt 3 (.int .i64 td) rfl
  have c4 := HA.cell K1 K1.lt 4 (.int .i64 thh) rfl
  have c5 := HA.cell K1 K1.lt 5 (.int .i64 tmi) rfl
  have c6 := HA.cell K1 K1.lt 6 (.int .i64 tsc) rfl
  have c7 := HA.cell K1 K1.lt 7 (.int .u64 packed) rfl
  have c8 := HA.cell K1 K1.lt 8 (.int .u64 size) rfl
  have c9 := HA.cell K1 K1.lt 9 (.int .u32 sum) rfl
  have c10 := HA.cell K1 K1.lt 10 (.int .u64 pos) rfl
  have c11 := HA.cell K1 K1.lt 11 (.bool kept) rfl
  have d0 := HA.cell K2 K2.lt 0 (.string nm) rfl
  have d1 := HA.cell K2 K2.lt 1 (.int .i64 ty) rfl
  have d2 := HA.cell K2 K2.lt 2 (.int .i64 tmo) rfl
  have d3 := HA.cell K2 K2.lt 3 (.int .i64 td) rfl
  have d4 := HA.cell K2 K2.lt 4 (.int .i64 thh) rfl
  have d5 := HA.cell K2 K2.lt 5 (.int .i64 tmi) rfl
  have d6 := HA.cell K2 K2.lt 6 (.int .i64 tsc) rfl
  have d7 := HA.cell K2 K2.lt 7 (.int .u64 packed) rfl
  have d8 := HA.cell K2 K2.lt 8 (.int .u64 size) rfl
  have d9 := HA.cell K2 K2.lt 9 (.int .u32 sum) rfl
  have d10 := HA.cell K2 K2.lt 10 (.int .u64 pos) rfl
  have d11 := HA.cell K2 K2.lt 11 (.bool kept) rfl

  have HU := Lib.hid HA
  have HE : Hid (∀ u, Below w.heap.size w (f u)) := Lib.hid (fun u => B4.trans ((HA.below u).mono B4.size))
  have HT : Hid (∀ u, Tabs (f u)) := Lib.hid (fun u => TH.out _ (HE.out u))
  obtain ⟨u0, hu0⟩ := HA.start
  have hne : Nonempty U := ⟨u0⟩
  clear HA K1 K2 B4 TH
  rw [hu0]
  go_wp2_with fail
  refine (rgood_calls ⟨nm, ⟨ty, tmo, td, thh, tmi, tsc⟩, packed, size, sum, pos, kept⟩ _ ho).mono ?_
  rintro e w1 ⟨rfl, hb⟩
  obtain ⟨u1, rfl⟩ := HU.out.next (Nat.le_refl _) hb
  clear hb
  have HL : Hid (∀ W, Tabs W → Calls Tryd.prog 12 #[.agg #[.string nm, .int .i64 ty, .int .i64 tmo, .int .i64 td, .int .i64 thh, .int .i64 tmi, .int .i64 tsc, .int .u64 packed, .int .u64 size, .int .u32 sum, .int .u64 pos, .bool kept]] W fun e w' => e = .returned (.string (locS ⟨nm, ⟨ty, tmo, td, thh, tmi, tsc⟩, packed, size, sum, pos, kept⟩)) ∧ Below W.heap.size W w') := Lib.hid (fun W h => local_calls ⟨nm, ⟨ty, tmo, td, thh, tmi, tsc⟩, packed, size, sum, pos, kept⟩ W ho h)
  have HD : Hid (∀ W, Tabs W → Calls Tryd.prog 13 #[.agg #[.string nm, .int .i64 ty, .int .i64 tmo, .int .i64 td, .int .i64 thh, .int .i64 tmi, .int .i64 tsc, .int .u64 packed, .int .u64 size, .int .u32 sum, .int .u64 pos, .bool kept]] W fun e w' => e = .returned (.string (desS ⟨nm, ⟨ty, tmo, td, thh, tmi, tsc⟩, packed, size, sum, pos, kept⟩)) ∧ Below W.heap.size W w') := Lib.hid (fun W h => descr_calls ⟨nm, ⟨ty, tmo, td, thh, tmi, tsc⟩, packed, size, sum, pos, kept⟩ W ho h)
  have HC : Hid (∀ W, Tabs W → Calls Tryd.prog 14 #[.agg #[.string nm, .int .i64 ty, .int .i64 tmo, .int .i64 td, .int .i64 thh, .int .i64 tmi, .int .i64 tsc, .int .u64 packed, .int .u64 size, .int .u32 sum, .int .u64 pos, .bool kept]] W fun e w' => e = .returned (.string (cenS ⟨nm, ⟨ty, tmo, td, thh, tmi, tsc⟩, packed, size, sum, pos, kept⟩)) ∧ Below W.heap.size W w') := Lib.hid (fun W h => central_calls ⟨nm, ⟨ty, tmo, td, thh, tmi, tsc⟩, packed, size, sum, pos, kept⟩ W ho h)
  have HB : Hid (∀ W, Calls Tryd.prog 15 #[.agg #[.string nm, .int .i64 ty, .int .i64 tmo, .int .i64 td, .int .i64 thh, .int .i64 tmi, .int .i64 tsc, .int .u64 packed, .int .u64 size, .int .u32 sum, .int .u64 pos, .bool kept]] W fun e w' => e = .returned (.bool (bigH ⟨nm, ⟨ty, tmo, td, thh, tmi, tsc⟩, packed, size, sum, pos, kept⟩)) ∧ Below W.heap.size W w') := Lib.hid (fun W => big_calls ⟨nm, ⟨ty, tmo, td, thh, tmi, tsc⟩, packed, size, sum, pos, kept⟩ W)
  clear ho hu0
  cases hg : goodH ⟨nm, ⟨ty, tmo, td, thh, tmi, tsc⟩, packed, size, sum, pos, kept⟩ with
  | false =>
    rw [locS_not hg] at HL
    rw [desS_not hg] at HD
    rw [cenS_not hg] at HC
    have ze : (⟨#[]⟩ ++ ⟨#[]⟩ ++ ⟨#[]⟩ : ByteArray).toList.isEmpty = true := by rw [empL, empL]; exact isE0 _ rfl
    clear hg
    go_wp2_with fail
    refine wp_region_class (C := fun w' => ∃ u, w' = f u) (by kernel_rfl) (by kernel_rfl) (HU.out.drew _) ?_
    repeat (go_big_quiet_step (first | (go_at_call 12; refine (HL.out _ (HT.out _)).mono ?_; rintro e w1 ⟨rfl, hb⟩; exact ⟨rfl, HU.out.next (Nat.le_refl _) hb⟩) | (go_at_call 13; refine (HD.out _ (HT.out _)).mono ?_; rintro e w1 ⟨rfl, hb⟩; exact ⟨rfl, HU.out.next (Nat.le_refl _) hb⟩) | (go_at_call 14; refine (HC.out _ (HT.out _)).mono ?_; rintro e w1 ⟨rfl, hb⟩; exact ⟨rfl, HU.out.next (Nat.le_refl _) hb⟩)))
    refine wpQuiet_nil ?_
    rintro wx ⟨u2, rfl⟩
    go_wp2
    go_ret
    exact ⟨rfl, HE.out _⟩
  | true =>
    have l1 := locS_size hg
    have l2 := desS_size hg
    have l3 := cenS_size hg
    have l4 := locS_name hg
    have l5 := cenS_name hg
    simp only at l1 l2 l3 l4 l5
    generalize locS ⟨nm, ⟨ty, tmo, td, thh, tmi, tsc⟩, packed, size, sum, pos, kept⟩ = LS at *
    generalize desS ⟨nm, ⟨ty, tmo, td, thh, tmi, tsc⟩, packed, size, sum, pos, kept⟩ = DS at *
    generalize cenS ⟨nm, ⟨ty, tmo, td, thh, tmi, tsc⟩, packed, size, sum, pos, kept⟩ = CS at *
    obtain ⟨big, hb⟩ : ∃ b, bigH ⟨nm, ⟨ty, tmo, td, thh, tmi, tsc⟩, packed, size, sum, pos, kept⟩ = b := ⟨_, rfl⟩
    obtain ⟨far, hf⟩ : ∃ b, farH ⟨nm, ⟨ty, tmo, td, thh, tmi, tsc⟩, packed, size, sum, pos, kept⟩ = b := ⟨_, rfl⟩
    have hf2 : decide (4294967294 < pos) = far := hf
    rw [hb] at HB l1 l2 l3
    rw [hf] at l3
    clear hf hb hg
    cases big <;> cases far <;> cases kept
    all_goals as_aux_lemma =>
      simp at l1 l2 l3
      have t1 : ((30 : Int) + (nm.size : Int)).toNat = 30 + nm.size := by omega
      have t2 : ((46 : Int) + (nm.size : Int)).toNat = 46 + nm.size := by omega
      have t3 : (30 : Int) ≤ 30 + (nm.size : Int) := by omega
      have t4 : (46 : Int) ≤ 46 + (nm.size : Int) := by omega
      have i1 : (30 : Int) + (nm.size : Int) ≤ (LS.size : Int) := by omega
      have i2 : (46 : Int) + (nm.size : Int) ≤ (CS.size : Int) := by omega
      go_wp2_with fail
      refine wp_region_class (C := fun w' => ∃ u, w' = f u) (by kernel_rfl) (by kernel_rfl) (HU.out.drew _) ?_
      repeat (go_big_quiet_step (first | fail))
      refine wpQuiet_nil ?_
      rintro wx ⟨u2, rfl⟩
      go_wp2_with (first | (go_at_call 15; refine (HB.out _).mono ?_; rintro e w1 ⟨rfl, hb⟩; obtain ⟨u1, rfl⟩ := HU.out.next (Nat.le_refl _) hb; clear hb))
      refine wp_region_class (C := fun w' => ∃ u, w' = f u) (by kernel_rfl) (by kernel_rfl) (HU.out.drew _) ?_
      repeat (go_big_quiet_step (first | (go_at_call 12; refine (HL.out _ (HT.out _)).mono ?_; rintro e w1 ⟨rfl, hb⟩; exact ⟨rfl, HU.out.next (Nat.le_refl _) hb⟩) | (go_at_call 13; refine (HD.out _ (HT.out _)).mono ?_; rintro e w1 ⟨rfl, hb⟩; exact ⟨rfl, HU.out.next (Nat.le_refl _) hb⟩) | (go_at_call 14; refine (HC.out _ (HT.out _)).mono ?_; rintro e w1 ⟨rfl, hb⟩; exact ⟨rfl, HU.out.next (Nat.le_refl _) hb⟩)))
      refine wpQuiet_nil ?_
      rintro wx ⟨u2, rfl⟩
      go_wp2
      go_ret
      exact ⟨rfl, HE.out _⟩
end Go.Proofs.YtehhoigedniglaaDoor.Zp
