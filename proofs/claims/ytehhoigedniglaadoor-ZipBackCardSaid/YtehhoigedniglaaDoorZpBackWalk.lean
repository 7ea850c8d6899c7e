/-
  ZipBack's walk. (Printed by mkzpback.py.)
-/
import Derived.Test.YtehhoigedniglaaDoorZpBackLaw3
import Derived.Test.YtehhoigedniglaaDoorZpRead2
import Derived.Test.YtehhoigedniglaaDoorZpSpeak
import Derived.Test.YtehhoigedniglaaDoorZpMade
import Derived.Test.YtehhoigedniglaaDoorZpHead3
import Derived.Deep.CutBlock
namespace Go.Proofs.YtehhoigedniglaaDoor.Zp
open Go.RowKit Go.Shelf Go.Proofs.YtehhoigedniglaaDoor.Nm
set_option linter.unusedVariables false
set_option linter.unusedSimpArgs false

theorem modk (cut : Int) (n : Nat) (h : 0 < n) (hn : n ≤ 1000000) : ∃ k : Nat, k < n ∧ (wrap64 (cut.tmod n + n)).tmod n = (k : Int) := by
  have h1 : -(n : Int) < cut.tmod n := by have := Int.lt_tmod_of_pos cut (show (0 : Int) < n by omega); omega
  have h2 : cut.tmod n < n := Int.tmod_lt_of_pos cut (by omega)
  have e : wrap64 (cut.tmod n + n) = cut.tmod n + n := by unfold wrap64; omega
  rw [e, Int.tmod_eq_emod_of_nonneg (by omega)]
  have h3 := Int.emod_nonneg (cut.tmod n + n) (show (n : Int) ≠ 0 by omega)
  have h4 := Int.emod_lt_of_pos (cut.tmod n + n) (show (0 : Int) < n by omega)
  exact ⟨((cut.tmod n + n) % n).toNat, by omega, by omega⟩

set_option maxHeartbeats 8000000 in
set_option maxRecDepth 100000 in
theorem back_walk (name : ByteArray) (tm packed size sum pos : Int) (kept : Bool) (more : ByteArray) (cut : Int) (w : World) (hn : name.size ≤ 140737488351232) (hm : more.size ≤ 140737488351232) (ht : -9223372036854775808 ≤ tm) (ht2 : tm ≤ 9223372036854775807)
    (hp : 0 ≤ packed ∧ packed < 18446744073709551616) (hs : 0 ≤ size ∧ size < 18446744073709551616) (hu : 0 ≤ sum ∧ sum < 4294967296) (ha : 0 ≤ pos ∧ pos < 18446744073709551616) (hc : -9223372036854775808 ≤ cut ∧ cut ≤ 9223372036854775807) (hT : Tabs w) :
    Calls Tryd.prog 5 #[.agg #[.string name, .int .i64 tm, .int .u64 packed, .int .u64 size, .int .u32 sum, .int .u64 pos, .bool kept], .string more, .int .i64 cut] w fun e w' => e = .returned (.bool true) ∧ Below w.heap.size w w' := by
  have B0 := (Below.refl w.heap.size w).alloc (Nat.le_refl _) (.cells #[.string name, .int .i64 tm, .int .u64 packed, .int .u64 size, .int .u32 sum, .int .u64 pos, .bool kept] 28)
  have K0 := Blk.new w #[.string name, .int .i64 tm, .int .u64 packed, .int .u64 size, .int .u32 sum, .int .u64 pos, .bool kept] 28
  have TH : Hid (∀ wx, Below w.heap.size w wx → Tabs wx) := Lib.hid (fun wx h => hT.below h)
  clear hT
  go_enter Tryd.func5, Tryd.ntmps5
  go_wp2_with fail
  refine (speaks_calls _ (TH.out _ B0)).mono ?_
  rintro e w1 ⟨rfl, hb⟩
  have K1 := K0.below hb
  have B1 := B0.trans (hb.mono B0.size)
  clear K0 B0 hb
  have x0 := K1.cell 0
  have x1 := K1.cell 1
  have x2 := K1.cell 2
  have x3 := K1.cell 3
  have x4 := K1.cell 4
  have x5 := K1.cell 5
  have x6 := K1.cell 6
  simp at x0 x1 x2 x3 x4 x5 x6
  go_wp2_with fail
  refine (made_calls name tm packed size sum pos kept _ hn ht ht2).mono ?_
  rintro e w2 ⟨⟨T, rfl⟩, hb⟩
  have B2 := Lib.hid (B1.trans (hb.mono B1.size))
  have hnm := cutN_size name
  generalize cutN name = nm at *
  clear hb B1 K1 x0 x1 x2 x3 x4 x5 x6
  have ho : Hd.ok ⟨nm, T, packed, size, sum, pos, kept⟩ := ⟨by simp only; omega, hp, hs, hu, ha⟩
  obtain ⟨ty, tmo, td, thh, tmi, tsc⟩ := T
  simp only [Hd.val]
  go_upto_region 4 with fail
  have K1 := (Blk.new w2 #[.string nm, .int .i64 ty, .int .i64 tmo, .int .i64 td, .int .i64 thh, .int .i64 tmi, .int .i64 tsc, .int .u64 packed, .int .u64 size, .int .u32 sum, .int .u64 pos, .bool kept] 32).alloc (.cells #[.string nm, .int .i64 ty, .int .i64 tmo, .int .i64 td, .int .i64 thh, .int .i64 tmi, .int .i64 tsc, .int .u64 packed, .int .u64 size, .int .u32 sum, .int .u64 pos, .bool kept] 35)
  have K2 := Blk.new1 w2 (.cells #[.string nm, .int .i64 ty, .int .i64 tmo, .int .i64 td, .int .i64 thh, .int .i64 tmi, .int .i64 tsc, .int .u64 packed, .int .u64 size, .int .u32 sum, .int .u64 pos, .bool kept] 32) #[.string nm, .int .i64 ty, .int .i64 tmo, .int .i64 td, .int .i64 thh, .int .i64 tmi, .int .i64 tsc, .int .u64 packed, .int .u64 size, .int .u32 sum, .int .u64 pos, .bool kept] 35
  have B3 := B2.out.alloc B2.out.size (.cells #[.string nm, .int .i64 ty, .int .i64 tmo, .int .i64 td, .int .i64 thh, .int .i64 tmi, .int .i64 tsc, .int .u64 packed, .int .u64 size, .int .u32 sum, .int .u64 pos, .bool kept] 32)
  have B4 := B3.alloc B3.size (.cells #[.string nm, .int .i64 ty, .int .i64 tmo, .int .i64 td, .int .i64 thh, .int .i64 tmi, .int .i64 tsc, .int .u64 packed, .int .u64 size, .int .u32 sum, .int .u64 pos, .bool kept] 35)
  obtain ⟨W, hW⟩ : ∃ W, W = ((w2.alloc (.cells #[.string nm, .int .i64 ty, .int .i64 tmo, .int .i64 td, .int .i64 thh, .int .i64 tmi, .int .i64 tsc, .int .u64 packed, .int .u64 size, .int .u32 sum, .int .u64 pos, .bool kept] 32)).alloc (.cells #[.string nm, .int .i64 ty, .int .i64 tmo, .int .i64 td, .int .i64 thh, .int .i64 tmi, .int .i64 tsc, .int .u64 packed, .int .u64 size, .int .u32 sum, .int .u64 pos, .bool kept] 35)) := ⟨_, rfl⟩
  rw [← hW] at K1 K2 B4 ⊢
  clear hW B3 B2
  obtain ⟨U, f, HA⟩ := above W.heap.size W
  have c0 := HA.cell K1 K1.lt 0 (.string nm) rfl
  have c1 := HA.cell K1 K1.lt 1 (.int .i64 ty) rfl
  have c2 := HA.cell K1 K1.lt 2 (.int .i64 tmo) rfl
  have c3 := HA.cell K1 K1.lt 3 (.int .i64 td) rfl
  have c4 := HA.cell K1 K1.lt 4 (.int .i64 thh) rfl
  have c5 := HA.cell K1 K1.lt 5 (.int .i64 tmi) rfl
  have c6 := HA.cell K1 K1.lt 6 (.int .i64 tsc) rfl
  have c7 := HA.cell K1 K1.lt 7 (.int .u64 packed) rfl
  have c8 := HA.cell K1 K1.lt 8 (.int .u64 size) rfl
  have c9 := HA.cell K1 K1.lt 9 (.int .u32 sum) rfl
  have c10 := HA.cell K1 K1.lt 10 (.int .u64 pos) rfl
  have c11 := HA.cell K1 K1.lt 11 (.bool kept) rfl
  have d0 := HA.cell K2 K2.lt 0 (.string nm) rfl
  have d1 := HA.cell K2 K2.lt 1 (.int .i64 ty) rfl
  have d2 := HA.cell K2 K2.lt 2 (.int .i64 tmo) rfl
  have d3 := HA.cell K2 K2.lt 3 (.int .i64 td) rfl
  have d4 := HA.cell K2 K2.lt 4 (.int .i64 thh) rfl
  have d5 := HA.cell K2 K2.lt 5 (.int .i64 tmi) rfl
  have d6 := HA.cell K2 K2.lt 6 (.int .i64 tsc) rfl
  have d7 := HA.cell K2 K2.lt 7 (.int .u64 packed) rfl
  have d8 := HA.cell K2 K2.lt 8 (.int .u64 size) rfl
  have d9 := HA.cell K2 K2.lt 9 (.int .u32 sum) rfl
  have d10 := HA.cell K2 K2.lt 10 (.int .u64 pos) rfl
  have d11 := HA.cell K2 K2.lt 11 (.bool kept) rfl

  have HU := Lib.hid HA
  have KH : Hid (∀ u, Blk w2.heap.size #[.string nm, .int .i64 ty, .int .i64 tmo, .int .i64 td, .int .i64 thh, .int .i64 tmi, .int .i64 tsc, .int .u64 packed, .int .u64 size, .int .u32 sum, .int .u64 pos, .bool kept] 32 (f u)) := Lib.hid (fun u => K1.under K1.lt (HA.below u))
  have HE : Hid (∀ u, Below w.heap.size w (f u)) := Lib.hid (fun u => B4.trans ((HA.below u).mono B4.size))
  have HT : Hid (∀ u, Tabs (f u)) := Lib.hid (fun u => TH.out _ (HE.out u))
  obtain ⟨u0, hu0⟩ := HA.start
  have hne : Nonempty U := ⟨u0⟩
  clear HA K1 K2 B4
  rw [hu0]
  go_wp2_with fail
  refine (rgood_calls ⟨nm, ⟨ty, tmo, td, thh, tmi, tsc⟩, packed, size, sum, pos, kept⟩ _ ho).mono ?_
  rintro e w1 ⟨rfl, hb⟩
  obtain ⟨u1, rfl⟩ := HU.out.next (Nat.le_refl _) hb
  clear hb
  have HL : Hid (∀ W, Tabs W → Calls Tryd.prog 12 #[.agg #[.string nm, .int .i64 ty, .int .i64 tmo, .int .i64 td, .int .i64 thh, .int .i64 tmi, .int .i64 tsc, .int .u64 packed, .int .u64 size, .int .u32 sum, .int .u64 pos, .bool kept]] W fun e w' => e = .returned (.string (locS ⟨nm, ⟨ty, tmo, td, thh, tmi, tsc⟩, packed, size, sum, pos, kept⟩)) ∧ Below W.heap.size W w') := Lib.hid (fun W h => local_calls ⟨nm, ⟨ty, tmo, td, thh, tmi, tsc⟩, packed, size, sum, pos, kept⟩ W ho h)
  have HC : Hid (∀ W, Tabs W → Calls Tryd.prog 14 #[.agg #[.string nm, .int .i64 ty, .int .i64 tmo, .int .i64 td, .int .i64 thh, .int .i64 tmi, .int .i64 tsc, .int .u64 packed, .int .u64 size, .int .u32 sum, .int .u64 pos, .bool kept]] W fun e w' => e = .returned (.string (cenS ⟨nm, ⟨ty, tmo, td, thh, tmi, tsc⟩, packed, size, sum, pos, kept⟩)) ∧ Below W.heap.size W w') := Lib.hid (fun W h => central_calls ⟨nm, ⟨ty, tmo, td, thh, tmi, tsc⟩, packed, size, sum, pos, kept⟩ W ho h)
  have HB : Hid (∀ W, Calls Tryd.prog 15 #[.agg #[.string nm, .int .i64 ty, .int .i64 tmo, .int .i64 td, .int .i64 thh, .int .i64 tmi, .int .i64 tsc, .int .u64 packed, .int .u64 size, .int .u32 sum, .int .u64 pos, .bool kept]] W fun e w' => e = .returned (.bool (bigH ⟨nm, ⟨ty, tmo, td, thh, tmi, tsc⟩, packed, size, sum, pos, kept⟩)) ∧ Below W.heap.size W w') := Lib.hid (fun W => big_calls ⟨nm, ⟨ty, tmo, td, thh, tmi, tsc⟩, packed, size, sum, pos, kept⟩ W)
  clear hu0
  cases hg : goodH ⟨nm, ⟨ty, tmo, td, thh, tmi, tsc⟩, packed, size, sum, pos, kept⟩ with
  | false =>
    clear hg ho
    go_wp2
    go_ret
    exact ⟨rfl, HE.out _⟩
  | true =>
    have l1 := locS_size hg
    have l3 := cenS_size hg
    have HRL := fun m : ByteArray => back_local hg m
    have HRC := fun m : ByteArray => back_central ho hg m
    have HKL := fun k hk => cut_local hg k hk
    have HKC := fun k hk => cut_central ho hg k hk
    simp only at l1 l3 HRL
    have z1 : 30 ≤ (locS ⟨nm, ⟨ty, tmo, td, thh, tmi, tsc⟩, packed, size, sum, pos, kept⟩).size ∧ (locS ⟨nm, ⟨ty, tmo, td, thh, tmi, tsc⟩, packed, size, sum, pos, kept⟩).size ≤ 400 := by rw [l1]; split <;> omega
    have z3 : 46 ≤ (cenS ⟨nm, ⟨ty, tmo, td, thh, tmi, tsc⟩, packed, size, sum, pos, kept⟩).size ∧ (cenS ⟨nm, ⟨ty, tmo, td, thh, tmi, tsc⟩, packed, size, sum, pos, kept⟩).size ≤ 400 := by rw [l3]; constructor <;> (repeat' split) <;> omega
    generalize locS ⟨nm, ⟨ty, tmo, td, thh, tmi, tsc⟩, packed, size, sum, pos, kept⟩ = LS at *
    generalize cenS ⟨nm, ⟨ty, tmo, td, thh, tmi, tsc⟩, packed, size, sum, pos, kept⟩ = CS at *
    obtain ⟨big, hb⟩ : ∃ b, bigH ⟨nm, ⟨ty, tmo, td, thh, tmi, tsc⟩, packed, size, sum, pos, kept⟩ = b := ⟨_, rfl⟩
    rw [hb] at HB HRL
    clear hb hg ho l1 l3
    obtain ⟨k1, kl1, ke1⟩ := modk cut LS.size (by omega) (by omega)
    obtain ⟨k2, kl2, ke2⟩ := modk cut CS.size (by omega) (by omega)
    have HKL1 := HKL k1 kl1
    have HKC2 := HKC k2 kl2
    obtain ⟨mo, hmo⟩ : ∃ mo, mo = more.extract 0 (min more.size 20) := ⟨_, rfl⟩
    have hmz : mo.size ≤ 20 := by rw [hmo, ByteArray.size_extract]; omega
    have hmm : min (more.size : Int) 20 = ((min more.size 20 : Nat) : Int) := by omega
    have HRLm := HRL mo
    have HRCm := HRC mo
    have HRd : Hid (∀ W, Tabs W → Calls Tryd.prog 16 #[.string (LS ++ mo)] W fun e w' => e = .returned (.tuple #[(readG locF (LS ++ mo)).1.val, .int .i64 (readG locF (LS ++ mo)).2]) ∧ Below W.heap.size W w') := Lib.hid (fun W h => read_calls (LS ++ mo) W (by rw [ByteArray.size_append]; omega) h)
    have HRe : Hid (∀ W, Tabs W → Calls Tryd.prog 17 #[.string (CS ++ mo)] W fun e w' => e = .returned (.tuple #[(readG cenF (CS ++ mo)).1.val, .int .i64 (readG cenF (CS ++ mo)).2]) ∧ Below W.heap.size W w') := Lib.hid (fun W h => readc_calls (CS ++ mo) W (by rw [ByteArray.size_append]; omega) h)
    have HRf : Hid (∀ W, Tabs W → Calls Tryd.prog 16 #[.string (LS.extract 0 k1)] W fun e w' => e = .returned (.tuple #[(readG locF (LS.extract 0 k1)).1.val, .int .i64 (readG locF (LS.extract 0 k1)).2]) ∧ Below W.heap.size W w') := Lib.hid (fun W h => read_calls _ W (by rw [ByteArray.size_extract]; omega) h)
    have HRg : Hid (∀ W, Tabs W → Calls Tryd.prog 17 #[.string (CS.extract 0 k2)] W fun e w' => e = .returned (.tuple #[(readG cenF (CS.extract 0 k2)).1.val, .int .i64 (readG cenF (CS.extract 0 k2)).2]) ∧ Below W.heap.size W w') := Lib.hid (fun W h => readc_calls _ W (by rw [ByteArray.size_extract]; omega) h)
    rw [HRLm] at HRd
    rw [HRCm] at HRe
    rw [HKL1] at HRf
    rw [HKC2] at HRg
    simp only [Hd.val] at HRd HRe
    clear HRL HRC HKL HKC HRLm HRCm HKL1 HKC2
    go_wp2_with fail
    refine wp_region_class (C := fun w' => ∃ u, w' = f u) (by kernel_rfl) (by kernel_rfl) (HU.out.drew _) ?_
    repeat (go_big_quiet_step (first | (go_at_call 12; refine (HL.out _ (HT.out _)).mono ?_; rintro e w1 ⟨rfl, hb⟩; exact ⟨rfl, HU.out.next (Nat.le_refl _) hb⟩) | (go_at_call 14; refine (HC.out _ (HT.out _)).mono ?_; rintro e w1 ⟨rfl, hb⟩; exact ⟨rfl, HU.out.next (Nat.le_refl _) hb⟩)))
    refine wpQuiet_nil ?_
    rintro wx ⟨u2, rfl⟩
    cases big
    · simp only [Bool.false_eq_true, if_false, if_true] at HRd
      go_wp2_with fail
      rw [← hmo]
      refine (HRd.out _ (HT.out _)).mono ?_
      rintro e w4 ⟨rfl, hb⟩
      obtain ⟨u3, rfl⟩ := HU.out.next (Nat.le_refl _) hb
      clear hb
      have Kh := (KH.out u3).alloc (.cells #[.string nm, .int .i64 ty, .int .i64 tmo, .int .i64 td, .int .i64 thh, .int .i64 tmi, .int .i64 tsc, .int .u64 0, .int .u64 0, .int .u32 0, .int .u64 0, .bool kept] 32)
      have Kg := Blk.new (f u3) #[.string nm, .int .i64 ty, .int .i64 tmo, .int .i64 td, .int .i64 thh, .int .i64 tmi, .int .i64 tsc, .int .u64 0, .int .u64 0, .int .u32 0, .int .u64 0, .bool kept] 32
      have B1 := (HE.out u3).alloc (HE.out u3).size (.cells #[.string nm, .int .i64 ty, .int .i64 tmo, .int .i64 td, .int .i64 thh, .int .i64 tmi, .int .i64 tsc, .int .u64 0, .int .u64 0, .int .u32 0, .int .u64 0, .bool kept] 32)
      go_upto_region 9 with fail
      obtain ⟨W1, hW1⟩ : ∃ W1, W1 = (f u3).alloc (.cells #[.string nm, .int .i64 ty, .int .i64 tmo, .int .i64 td, .int .i64 thh, .int .i64 tmi, .int .i64 tsc, .int .u64 0, .int .u64 0, .int .u32 0, .int .u64 0, .bool kept] 32) := ⟨_, rfl⟩
      rw [← hW1] at Kh Kg B1 ⊢
      clear hW1
      obtain ⟨gB, hgB⟩ : ∃ gB, gB = (f u3).heap.size := ⟨_, rfl⟩
      rw [← hgB] at Kg ⊢
      have hgne : gB ≠ w2.heap.size := by
        have := (KH.out u3).lt
        omega
      clear hgB
      have y0 := Kh.cell 0
      have y1 := Kh.cell 1
      have y2 := Kh.cell 2
      have y3 := Kh.cell 3
      have y4 := Kh.cell 4
      have y5 := Kh.cell 5
      have y6 := Kh.cell 6
      have y7 := Kh.cell 7
      have y8 := Kh.cell 8
      have y9 := Kh.cell 9
      have y10 := Kh.cell 10
      have y11 := Kh.cell 11
      simp at y0 y1 y2 y3 y4 y5 y6 y7 y8 y9 y10 y11
      have Kh2 := Kh.alloc (.cells #[.string nm, .int .i64 ty, .int .i64 tmo, .int .i64 td, .int .i64 thh, .int .i64 tmi, .int .i64 tsc, .int .u64 0, .int .u64 0, .int .u32 0, .int .u64 0, .bool kept] 32)
      have Kg2 := Kg.alloc (.cells #[.string nm, .int .i64 ty, .int .i64 tmo, .int .i64 td, .int .i64 thh, .int .i64 tmi, .int .i64 tsc, .int .u64 0, .int .u64 0, .int .u32 0, .int .u64 0, .bool kept] 32)
      have Kw2 := Blk.new W1 #[.string nm, .int .i64 ty, .int .i64 tmo, .int .i64 td, .int .i64 thh, .int .i64 tmi, .int .i64 tsc, .int .u64 0, .int .u64 0, .int .u32 0, .int .u64 0, .bool kept] 32
      have B2 := B1.alloc B1.size (.cells #[.string nm, .int .i64 ty, .int .i64 tmo, .int .i64 td, .int .i64 thh, .int .i64 tmi, .int .i64 tsc, .int .u64 0, .int .u64 0, .int .u32 0, .int .u64 0, .bool kept] 32)
      have hwB0 : w.heap.size ≤ W1.heap.size := B1.size
      have hwne : W1.heap.size ≠ w2.heap.size ∧ W1.heap.size ≠ gB := by
        have := Kh.lt
        have := Kg.lt
        omega
      go_upto_region 10 with fail
      obtain ⟨W2, hW2⟩ : ∃ W2, W2 = W1.alloc (.cells #[.string nm, .int .i64 ty, .int .i64 tmo, .int .i64 td, .int .i64 thh, .int .i64 tmi, .int .i64 tsc, .int .u64 0, .int .u64 0, .int .u32 0, .int .u64 0, .bool kept] 32) := ⟨_, rfl⟩
      rw [← hW2] at Kh2 Kg2 Kw2 B2 ⊢
      clear hW2 Kh Kg B1 y0 y1 y2 y3 y4 y5 y6 y7 y8 y9 y10 y11
      obtain ⟨wB, hwB⟩ : ∃ wB, wB = W1.heap.size := ⟨_, rfl⟩
      rw [← hwB] at Kw2 hwne hwB0 ⊢
      clear hwB
      have z0 := Kh2.cell 0
      have z1 := Kh2.cell 1
      have z2 := Kh2.cell 2
      have z3 := Kh2.cell 3
      have z4 := Kh2.cell 4
      have z5 := Kh2.cell 5
      have z6 := Kh2.cell 6
      have z7 := Kh2.cell 7
      have z8 := Kh2.cell 8
      have z9 := Kh2.cell 9
      have z10 := Kh2.cell 10
      have z11 := Kh2.cell 11
      simp at z0 z1 z2 z3 z4 z5 z6 z7 z8 z9 z10 z11
      go_wp2_with fail
      refine (HB.out _).mono ?_
      rintro e w5 ⟨rfl, hb⟩
      have Kh3 := Kh2.below hb
      have Kg3 := Kg2.below hb
      have Kw3 := Kw2.below hb
      have B3 := B2.trans (hb.mono B2.size)
      clear hb Kh2 Kg2 Kw2 B2 z0 z1 z2 z3 z4 z5 z6 z7 z8 z9 z10 z11
      go_upto_region 12 with fail
      have Kh4 := Kh3
      have Kg4 := Kg3
      have Kw4 := Kw3
      have B4 := B3
      obtain ⟨W3, rfl⟩ : ∃ W3, W3 = w5 := ⟨_, rfl⟩
      clear Kh3 Kg3 Kw3 B3
      go_wp2_with fail
      rw [← hmo]
      refine (HRe.out _ (TH.out _ B4)).mono ?_
      rintro e w6 ⟨rfl, hb⟩
      have Kh5 := (Kh4.below hb).alloc (.cells #[.string nm, .int .i64 ty, .int .i64 tmo, .int .i64 td, .int .i64 thh, .int .i64 tmi, .int .i64 tsc, .int .u64 packed, .int .u64 size, .int .u32 sum, .int .u64 pos, .bool kept] 32)
      have Kg5 := (Kg4.below hb).alloc (.cells #[.string nm, .int .i64 ty, .int .i64 tmo, .int .i64 td, .int .i64 thh, .int .i64 tmi, .int .i64 tsc, .int .u64 packed, .int .u64 size, .int .u32 sum, .int .u64 pos, .bool kept] 32)
      have Kw5 := (Kw4.below hb).alloc (.cells #[.string nm, .int .i64 ty, .int .i64 tmo, .int .i64 td, .int .i64 thh, .int .i64 tmi, .int .i64 tsc, .int .u64 packed, .int .u64 size, .int .u32 sum, .int .u64 pos, .bool kept] 32)
      have Kf5 := Blk.new w6 #[.string nm, .int .i64 ty, .int .i64 tmo, .int .i64 td, .int .i64 thh, .int .i64 tmi, .int .i64 tsc, .int .u64 packed, .int .u64 size, .int .u32 sum, .int .u64 pos, .bool kept] 32
      have B5 := (B4.trans (hb.mono B4.size)).alloc (B4.trans (hb.mono B4.size)).size (.cells #[.string nm, .int .i64 ty, .int .i64 tmo, .int .i64 td, .int .i64 thh, .int .i64 tmi, .int .i64 tsc, .int .u64 packed, .int .u64 size, .int .u32 sum, .int .u64 pos, .bool kept] 32)
      clear hb Kh4 Kg4 Kw4 B4
      go_upto_region 13 with fail
      obtain ⟨W4, hW4⟩ : ∃ W4, W4 = w6.alloc (.cells #[.string nm, .int .i64 ty, .int .i64 tmo, .int .i64 td, .int .i64 thh, .int .i64 tmi, .int .i64 tsc, .int .u64 packed, .int .u64 size, .int .u32 sum, .int .u64 pos, .bool kept] 32) := ⟨_, rfl⟩
      rw [← hW4] at Kh5 Kg5 Kw5 Kf5 B5 ⊢
      clear hW4
      obtain ⟨V, g, HA⟩ := above W4.heap.size W4
      have a0 := HA.cell Kh5 Kh5.lt 0 (.string nm) rfl
      have a1 := HA.cell Kh5 Kh5.lt 1 (.int .i64 ty) rfl
      have a2 := HA.cell Kh5 Kh5.lt 2 (.int .i64 tmo) rfl
      have a3 := HA.cell Kh5 Kh5.lt 3 (.int .i64 td) rfl
      have a4 := HA.cell Kh5 Kh5.lt 4 (.int .i64 thh) rfl
      have a5 := HA.cell Kh5 Kh5.lt 5 (.int .i64 tmi) rfl
      have a6 := HA.cell Kh5 Kh5.lt 6 (.int .i64 tsc) rfl
      have a7 := HA.cell Kh5 Kh5.lt 7 (.int .u64 packed) rfl
      have a8 := HA.cell Kh5 Kh5.lt 8 (.int .u64 size) rfl
      have a9 := HA.cell Kh5 Kh5.lt 9 (.int .u32 sum) rfl
      have a10 := HA.cell Kh5 Kh5.lt 10 (.int .u64 pos) rfl
      have a11 := HA.cell Kh5 Kh5.lt 11 (.bool kept) rfl
      have e0 := HA.cell Kg5 Kg5.lt 0 (.string nm) rfl
      have e1 := HA.cell Kg5 Kg5.lt 1 (.int .i64 ty) rfl
      have e2 := HA.cell Kg5 Kg5.lt 2 (.int .i64 tmo) rfl
      have e3 := HA.cell Kg5 Kg5.lt 3 (.int .i64 td) rfl
      have e4 := HA.cell Kg5 Kg5.lt 4 (.int .i64 thh) rfl
      have e5 := HA.cell Kg5 Kg5.lt 5 (.int .i64 tmi) rfl
      have e6 := HA.cell Kg5 Kg5.lt 6 (.int .i64 tsc) rfl
      have e7 := HA.cell Kg5 Kg5.lt 7 (.int .u64 0) rfl
      have e8 := HA.cell Kg5 Kg5.lt 8 (.int .u64 0) rfl
      have e9 := HA.cell Kg5 Kg5.lt 9 (.int .u32 0) rfl
      have e10 := HA.cell Kg5 Kg5.lt 10 (.int .u64 0) rfl
      have e11 := HA.cell Kg5 Kg5.lt 11 (.bool kept) rfl
      have o0 := HA.cell Kw5 Kw5.lt 0 (.string nm) rfl
      have o1 := HA.cell Kw5 Kw5.lt 1 (.int .i64 ty) rfl
      have o2 := HA.cell Kw5 Kw5.lt 2 (.int .i64 tmo) rfl
      have o3 := HA.cell Kw5 Kw5.lt 3 (.int .i64 td) rfl
      have o4 := HA.cell Kw5 Kw5.lt 4 (.int .i64 thh) rfl
      have o5 := HA.cell Kw5 Kw5.lt 5 (.int .i64 tmi) rfl
      have o6 := HA.cell Kw5 Kw5.lt 6 (.int .i64 tsc) rfl
      have o7 := HA.cell Kw5 Kw5.lt 7 (.int .u64 0) rfl
      have o8 := HA.cell Kw5 Kw5.lt 8 (.int .u64 0) rfl
      have o9 := HA.cell Kw5 Kw5.lt 9 (.int .u32 0) rfl
      have o10 := HA.cell Kw5 Kw5.lt 10 (.int .u64 0) rfl
      have o11 := HA.cell Kw5 Kw5.lt 11 (.bool kept) rfl
      have p0 := HA.cell Kf5 Kf5.lt 0 (.string nm) rfl
      have p1 := HA.cell Kf5 Kf5.lt 1 (.int .i64 ty) rfl
      have p2 := HA.cell Kf5 Kf5.lt 2 (.int .i64 tmo) rfl
      have p3 := HA.cell Kf5 Kf5.lt 3 (.int .i64 td) rfl
      have p4 := HA.cell Kf5 Kf5.lt 4 (.int .i64 thh) rfl
      have p5 := HA.cell Kf5 Kf5.lt 5 (.int .i64 tmi) rfl
      have p6 := HA.cell Kf5 Kf5.lt 6 (.int .i64 tsc) rfl
      have p7 := HA.cell Kf5 Kf5.lt 7 (.int .u64 packed) rfl
      have p8 := HA.cell Kf5 Kf5.lt 8 (.int .u64 size) rfl
      have p9 := HA.cell Kf5 Kf5.lt 9 (.int .u32 sum) rfl
      have p10 := HA.cell Kf5 Kf5.lt 10 (.int .u64 pos) rfl
      have p11 := HA.cell Kf5 Kf5.lt 11 (.bool kept) rfl
      have HV := Lib.hid HA
      have HF : Hid (∀ u, Below w.heap.size w (g u)) := Lib.hid (fun u => B5.trans ((HA.below u).mono B5.size))
      have HS : Hid (∀ u, Tabs (g u)) := Lib.hid (fun u => TH.out _ (HF.out u))
      obtain ⟨v0, hv0⟩ := HA.start
      have hnv : Nonempty V := ⟨v0⟩
      clear HA Kh5 Kg5 Kw5 Kf5 B5
      rw [hv0]
      clear hv0
      go_wp2_with fail
      refine (HRf.out _ (HS.out _)).mono ?_
      rintro e w7 ⟨rfl, hb⟩
      obtain ⟨v1, rfl⟩ := HV.out.next (Nat.le_refl _) hb
      clear hb
      go_wp2_with fail
      refine (HRg.out _ (HS.out _)).mono ?_
      rintro e w8 ⟨rfl, hb⟩
      obtain ⟨v2, rfl⟩ := HV.out.next (Nat.le_refl _) hb
      clear hb
      go_wp2
      go_ret
      exact ⟨rfl, HF.out _⟩
    · simp only [Bool.false_eq_true, if_false, if_true] at HRd
      go_wp2_with fail
      rw [← hmo]
      refine (HRd.out _ (HT.out _)).mono ?_
      rintro e w4 ⟨rfl, hb⟩
      obtain ⟨u3, rfl⟩ := HU.out.next (Nat.le_refl _) hb
      clear hb
      have Kh := (KH.out u3).alloc (.cells #[.string nm, .int .i64 ty, .int .i64 tmo, .int .i64 td, .int .i64 thh, .int .i64 tmi, .int .i64 tsc, .int .u64 0, .int .u64 4294967295, .int .u32 0, .int .u64 0, .bool kept] 32)
      have Kg := Blk.new (f u3) #[.string nm, .int .i64 ty, .int .i64 tmo, .int .i64 td, .int .i64 thh, .int .i64 tmi, .int .i64 tsc, .int .u64 0, .int .u64 4294967295, .int .u32 0, .int .u64 0, .bool kept] 32
      have B1 := (HE.out u3).alloc (HE.out u3).size (.cells #[.string nm, .int .i64 ty, .int .i64 tmo, .int .i64 td, .int .i64 thh, .int .i64 tmi, .int .i64 tsc, .int .u64 0, .int .u64 4294967295, .int .u32 0, .int .u64 0, .bool kept] 32)
      go_upto_region 9 with fail
      obtain ⟨W1, hW1⟩ : ∃ W1, W1 = (f u3).alloc (.cells #[.string nm, .int .i64 ty, .int .i64 tmo, .int .i64 td, .int .i64 thh, .int .i64 tmi, .int .i64 tsc, .int .u64 0, .int .u64 4294967295, .int .u32 0, .int .u64 0, .bool kept] 32) := ⟨_, rfl⟩
      rw [← hW1] at Kh Kg B1 ⊢
      clear hW1
      obtain ⟨gB, hgB⟩ : ∃ gB, gB = (f u3).heap.size := ⟨_, rfl⟩
      rw [← hgB] at Kg ⊢
      have hgne : gB ≠ w2.heap.size := by
        have := (KH.out u3).lt
        omega
      clear hgB
      have y0 := Kh.cell 0
      have y1 := Kh.cell 1
      have y2 := Kh.cell 2
      have y3 := Kh.cell 3
      have y4 := Kh.cell 4
      have y5 := Kh.cell 5
      have y6 := Kh.cell 6
      have y7 := Kh.cell 7
      have y8 := Kh.cell 8
      have y9 := Kh.cell 9
      have y10 := Kh.cell 10
      have y11 := Kh.cell 11
      simp at y0 y1 y2 y3 y4 y5 y6 y7 y8 y9 y10 y11
      have Kh2 := Kh.alloc (.cells #[.string nm, .int .i64 ty, .int .i64 tmo, .int .i64 td, .int .i64 thh, .int .i64 tmi, .int .i64 tsc, .int .u64 0, .int .u64 0, .int .u32 0, .int .u64 0, .bool kept] 32)
      have Kg2 := Kg.alloc (.cells #[.string nm, .int .i64 ty, .int .i64 tmo, .int .i64 td, .int .i64 thh, .int .i64 tmi, .int .i64 tsc, .int .u64 0, .int .u64 0, .int .u32 0, .int .u64 0, .bool kept] 32)
      have Kw2 := Blk.new W1 #[.string nm, .int .i64 ty, .int .i64 tmo, .int .i64 td, .int .i64 thh, .int .i64 tmi, .int .i64 tsc, .int .u64 0, .int .u64 0, .int .u32 0, .int .u64 0, .bool kept] 32
      have B2 := B1.alloc B1.size (.cells #[.string nm, .int .i64 ty, .int .i64 tmo, .int .i64 td, .int .i64 thh, .int .i64 tmi, .int .i64 tsc, .int .u64 0, .int .u64 0, .int .u32 0, .int .u64 0, .bool kept] 32)
      have hwB0 : w.heap.size ≤ W1.heap.size := B1.size
      have hwne : W1.heap.size ≠ w2.heap.size ∧ W1.heap.size ≠ gB := by
        have := Kh.lt
        have := Kg.lt
        omega
      go_upto_region 10 with fail
      obtain ⟨W2, hW2⟩ : ∃ W2, W2 = W1.alloc (.cells #[.string nm, .int .i64 ty, .int .i64 tmo, .int .i64 td, .int .i64 thh, .int .i64 tmi, .int .i64 tsc, .int .u64 0, .int .u64 0, .int .u32 0, .int .u64 0, .bool kept] 32) := ⟨_, rfl⟩
      rw [← hW2] at Kh2 Kg2 Kw2 B2 ⊢
      clear hW2 Kh Kg B1 y0 y1 y2 y3 y4 y5 y6 y7 y8 y9 y10 y11
      obtain ⟨wB, hwB⟩ : ∃ wB, wB = W1.heap.size := ⟨_, rfl⟩
      rw [← hwB] at Kw2 hwne hwB0 ⊢
      clear hwB
      have z0 := Kh2.cell 0
      have z1 := Kh2.cell 1
      have z2 := Kh2.cell 2
      have z3 := Kh2.cell 3
      have z4 := Kh2.cell 4
      have z5 := Kh2.cell 5
      have z6 := Kh2.cell 6
      have z7 := Kh2.cell 7
      have z8 := Kh2.cell 8
      have z9 := Kh2.cell 9
      have z10 := Kh2.cell 10
      have z11 := Kh2.cell 11
      simp at z0 z1 z2 z3 z4 z5 z6 z7 z8 z9 z10 z11
      go_wp2_with fail
      refine (HB.out _).mono ?_
      rintro e w5 ⟨rfl, hb⟩
      have Kh3 := Kh2.below hb
      have Kg3 := Kg2.below hb
      have Kw3 := Kw2.below hb
      have B3 := B2.trans (hb.mono B2.size)
      clear hb Kh2 Kg2 Kw2 B2 z0 z1 z2 z3 z4 z5 z6 z7 z8 z9 z10 z11
      have q8 := Kw3.cell 8
      have fr := Kw3.frozen 8
      simp at q8
      go_upto_region 12 with fail
      have Kh4 := Kh3.setOther (Ne.symm hwne.1) 8 (.int .u64 4294967295)
      have Kg4 := Kg3.setOther (Ne.symm hwne.2) 8 (.int .u64 4294967295)
      have Kw4 := Kw3.setTo (cs' := #[.string nm, .int .i64 ty, .int .i64 tmo, .int .i64 td, .int .i64 thh, .int .i64 tmi, .int .i64 tsc, .int .u64 0, .int .u64 4294967295, .int .u32 0, .int .u64 0, .bool kept]) 8 (.int .u64 4294967295) rfl
      have B4 := B3.setCell (p := ⟨wB, 8, none⟩) hwB0 (.int .u64 4294967295)
      obtain ⟨W3, hW3⟩ : ∃ W3, W3 = w5.setCell ⟨wB, 8, none⟩ (.int .u64 4294967295) := ⟨_, rfl⟩
      rw [← hW3] at Kh4 Kg4 Kw4 B4 ⊢
      clear hW3 Kh3 Kg3 Kw3 B3 q8 fr
      go_wp2_with fail
      rw [← hmo]
      refine (HRe.out _ (TH.out _ B4)).mono ?_
      rintro e w6 ⟨rfl, hb⟩
      have Kh5 := (Kh4.below hb).alloc (.cells #[.string nm, .int .i64 ty, .int .i64 tmo, .int .i64 td, .int .i64 thh, .int .i64 tmi, .int .i64 tsc, .int .u64 packed, .int .u64 size, .int .u32 sum, .int .u64 pos, .bool kept] 32)
      have Kg5 := (Kg4.below hb).alloc (.cells #[.string nm, .int .i64 ty, .int .i64 tmo, .int .i64 td, .int .i64 thh, .int .i64 tmi, .int .i64 tsc, .int .u64 packed, .int .u64 size, .int .u32 sum, .int .u64 pos, .bool kept] 32)
      have Kw5 := (Kw4.below hb).alloc (.cells #[.string nm, .int .i64 ty, .int .i64 tmo, .int .i64 td, .int .i64 thh, .int .i64 tmi, .int .i64 tsc, .int .u64 packed, .int .u64 size, .int .u32 sum, .int .u64 pos, .bool kept] 32)
      have Kf5 := Blk.new w6 #[.string nm, .int .i64 ty, .int .i64 tmo, .int .i64 td, .int .i64 thh, .int .i64 tmi, .int .i64 tsc, .int .u64 packed, .int .u64 size, .int .u32 sum, .int .u64 pos, .bool kept] 32
      have B5 := (B4.trans (hb.mono B4.size)).alloc (B4.trans (hb.mono B4.size)).size (.cells #[.string nm, .int .i64 ty, .int .i64 tmo, .int .i64 td, .int .i64 thh, .int .i64 tmi, .int .i64 tsc, .int .u64 packed, .int .u64 size, .int .u32 sum, .int .u64 pos, .bool kept] 32)
      clear hb Kh4 Kg4 Kw4 B4
      go_upto_region 13 with fail
      obtain ⟨W4, hW4⟩ : ∃ W4, W4 = w6.alloc (.cells #[.string nm, .int .i64 ty, .int .i64 tmo, .int .i64 td, .int .i64 thh, .int .i64 tmi, .int .i64 tsc, .int .u64 packed, .int .u64 size, .int .u32 sum, .int .u64 pos, .bool kept] 32) := ⟨_, rfl⟩
      rw [← hW4] at Kh5 Kg5 Kw5 Kf5 B5 ⊢
      clear hW4
      obtain ⟨V, g, HA⟩ := above W4.heap.size W4
      have a0 := HA.cell Kh5 Kh5.lt 0 (.string nm) rfl
      have a1 := HA.cell Kh5 Kh5.lt 1 (.int .i64 ty) rfl
      have a2 := HA.cell Kh5 Kh5.lt 2 (.int .i64 tmo) rfl
      have a3 := HA.cell Kh5 Kh5.lt 3 (.int .i64 td) rfl
      have a4 := HA.cell Kh5 Kh5.lt 4 (.int .i64 thh) rfl
      have a5 := HA.cell Kh5 Kh5.lt 5 (.int .i64 tmi) rfl
      have a6 := HA.cell Kh5 Kh5.lt 6 (.int .i64 tsc) rfl
      have a7 := HA.cell Kh5 Kh5.lt 7 (.int .u64 packed) rfl
      have a8 := HA.cell Kh5 Kh5.lt 8 (.int .u64 size) rfl
      have a9 := HA.cell Kh5 Kh5.lt 9 (.int .u32 sum) rfl
      have a10 := HA.cell Kh5 Kh5.lt 10 (.int .u64 pos) rfl
      have a11 := HA.cell Kh5 Kh5.lt 11 (.bool kept) rfl
      have e0 := HA.cell Kg5 Kg5.lt 0 (.string nm) rfl
      have e1 := HA.cell Kg5 Kg5.lt 1 (.int .i64 ty) rfl
      have e2 := HA.cell Kg5 Kg5.lt 2 (.int .i64 tmo) rfl
      have e3 := HA.cell Kg5 Kg5.lt 3 (.int .i64 td) rfl
      have e4 := HA.cell Kg5 Kg5.lt 4 (.int .i64 thh) rfl
      have e5 := HA.cell Kg5 Kg5.lt 5 (.int .i64 tmi) rfl
      have e6 := HA.cell Kg5 Kg5.lt 6 (.int .i64 tsc) rfl
      have e7 := HA.cell Kg5 Kg5.lt 7 (.int .u64 0) rfl
      have e8 := HA.cell Kg5 Kg5.lt 8 (.int .u64 4294967295) rfl
      have e9 := HA.cell Kg5 Kg5.lt 9 (.int .u32 0) rfl
      have e10 := HA.cell Kg5 Kg5.lt 10 (.int .u64 0) rfl
      have e11 := HA.cell Kg5 Kg5.lt 11 (.bool kept) rfl
      have o0 := HA.cell Kw5 Kw5.lt 0 (.string nm) rfl
      have o1 := HA.cell Kw5 Kw5.lt 1 (.int .i64 ty) rfl
      have o2 := HA.cell Kw5 Kw5.lt 2 (.int .i64 tmo) rfl
      have o3 := HA.cell Kw5 Kw5.lt 3 (.int .i64 td) rfl
      have o4 := HA.cell Kw5 Kw5.lt 4 (.int .i64 thh) rfl
      have o5 := HA.cell Kw5 Kw5.lt 5 (.int .i64 tmi) rfl
      have o6 := HA.cell Kw5 Kw5.lt 6 (.int .i64 tsc) rfl
      have o7 := HA.cell Kw5 Kw5.lt 7 (.int .u64 0) rfl
      have o8 := HA.cell Kw5 Kw5.lt 8 (.int .u64 4294967295) rfl
      have o9 := HA.cell Kw5 Kw5.lt 9 (.int .u32 0) rfl
      have o10 := HA.cell Kw5 Kw5.lt 10 (.int .u64 0) rfl
      have o11 := HA.cell Kw5 Kw5.lt 11 (.bool kept) rfl
      have p0 := HA.cell Kf5 Kf5.lt 0 (.string nm) rfl
      have p1 := HA.cell Kf5 Kf5.lt 1 (.int .i64 ty) rfl
      have p2 := HA.cell Kf5 Kf5.lt 2 (.int .i64 tmo) rfl
      have p3 := HA.cell Kf5 Kf5.lt 3 (.int .i64 td) rfl
      have p4 := HA.cell Kf5 Kf5.lt 4 (.int .i64 thh) rfl
      have p5 := HA.cell Kf5 Kf5.lt 5 (.int .i64 tmi) rfl
      have p6 := HA.cell Kf5 Kf5.lt 6 (.int .i64 tsc) rfl
      have p7 := HA.cell Kf5 Kf5.lt 7 (.int .u64 packed) rfl
      have p8 := HA.cell Kf5 Kf5.lt 8 (.int .u64 size) rfl
      have p9 := HA.cell Kf5 Kf5.lt 9 (.int .u32 sum) rfl
      have p10 := HA.cell Kf5 Kf5.lt 10 (.int .u64 pos) rfl
      have p11 := HA.cell Kf5 Kf5.lt 11 (.bool kept) rfl
      have HV := Lib.hid HA
      have HF : Hid (∀ u, Below w.heap.size w (g u)) := Lib.hid (fun u => B5.trans ((HA.below u).mono B5.size))
      have HS : Hid (∀ u, Tabs (g u)) := Lib.hid (fun u => TH.out _ (HF.out u))
      obtain ⟨v0, hv0⟩ := HA.start
      have hnv : Nonempty V := ⟨v0⟩
      clear HA Kh5 Kg5 Kw5 Kf5 B5
      rw [hv0]
      clear hv0
      go_wp2_with fail
      refine (HRf.out _ (HS.out _)).mono ?_
      rintro e w7 ⟨rfl, hb⟩
      obtain ⟨v1, rfl⟩ := HV.out.next (Nat.le_refl _) hb
      clear hb
      go_wp2_with fail
      refine (HRg.out _ (HS.out _)).mono ?_
      rintro e w8 ⟨rfl, hb⟩
      obtain ⟨v2, rfl⟩ := HV.out.next (Nat.le_refl _) hb
      clear hb
      go_wp2
      go_ret
      exact ⟨rfl, HF.out _⟩
end Go.Proofs.YtehhoigedniglaaDoor.Zp
