/-
  ZipAny's walk. (Printed by mkzpany.py.)
-/
import Derived.Test.YtehhoigedniglaaDoorZpRow8
import Derived.Test.YtehhoigedniglaaDoorZpRead2
import Derived.Test.YtehhoigedniglaaDoorZpSpeak
import Derived.Test.YtehhoigedniglaaDoorZpMade
import Derived.Test.YtehhoigedniglaaDoorZpHead3
import Derived.Test.YtehhoigedniglaaDoorAllocWalk2
import Derived.Deep.CutBlock
namespace Go.Proofs.YtehhoigedniglaaDoor.Zp
open Go.RowKit Go.Shelf Go.Proofs.YtehhoigedniglaaDoor.Nm
set_option linter.unusedVariables false
set_option linter.unusedSimpArgs false

theorem modk (cut : Int) (n : Nat) (h : 0 < n) (hn : n ≤ 1000000) : ∃ k : Nat, k < n ∧ (wrap64 (cut.tmod n + n)).tmod n = (k : Int) := by
  have h1 : -(n : Int) < cut.tmod n := by have := Int.lt_tmod_of_pos cut (show (0 : Int) < n by omega); omega
  have h2 : cut.tmod n < n := Int.tmod_lt_of_pos cut (by omega)
  have e : wrap64 (cut.tmod n + n) = cut.tmod n + n := by unfold wrap64; omega
  rw [e, Int.tmod_eq_emod_of_nonneg (by omega)]
  have h3 := Int.emod_nonneg (cut.tmod n + n) (show (n : Int) ≠ 0 by omega)
  have h4 := Int.emod_lt_of_pos (cut.tmod n + n) (show (0 : Int) < n by omega)
  exact ⟨((cut.tmod n + n) % n).toNat, by omega, by omega⟩

theorem sure_in {P : Program} {ops : Array Oper} {C : World → Prop} {R : World → World → Prop} {o : Oper} {v : Value} {a : Act} (hw : Region.wanted o (yielded ops a.tmps) = true) (h : ∀ w, C w → (execOp a.eval o).run P w = .ok (.value v) w) : Aw2.Sure P ops C R o v a :=
  .inl ⟨hw, fun w hC => by rw [h w hC]; exact ⟨rfl, rfl⟩⟩

set_option maxHeartbeats 8000000 in
set_option maxRecDepth 100000 in
theorem any_walk (name : ByteArray) (tm packed size sum pos : Int) (kept : Bool) (s0 s1 bt : Int) (w : World) (hn : name.size ≤ 140737488351232) (ht : -9223372036854775808 ≤ tm) (ht2 : tm ≤ 9223372036854775807)
    (hp : 0 ≤ packed ∧ packed < 18446744073709551616) (hs : 0 ≤ size ∧ size < 18446744073709551616) (hu : 0 ≤ sum ∧ sum < 4294967296) (ha : 0 ≤ pos ∧ pos < 18446744073709551616) (hT : Tabs w) :
    Calls Tryd.prog 6 #[.agg #[.string name, .int .i64 tm, .int .u64 packed, .int .u64 size, .int .u32 sum, .int .u64 pos, .bool kept], .agg #[.int .i64 s0, .int .i64 s1], .int .u8 bt] w fun e w' => e = .returned (.bool true) ∧ Below w.heap.size w w' := by
  have B00 := (Below.refl w.heap.size w).alloc (Nat.le_refl _) (.cells #[.string name, .int .i64 tm, .int .u64 packed, .int .u64 size, .int .u32 sum, .int .u64 pos, .bool kept] 28)
  have B0 := B00.alloc B00.size (.cells #[.int .i64 s0, .int .i64 s1] 44)
  have K0 := (Blk.new w #[.string name, .int .i64 tm, .int .u64 packed, .int .u64 size, .int .u32 sum, .int .u64 pos, .bool kept] 28).alloc (.cells #[.int .i64 s0, .int .i64 s1] 44)
  have P0 := Blk.new1 w (.cells #[.string name, .int .i64 tm, .int .u64 packed, .int .u64 size, .int .u32 sum, .int .u64 pos, .bool kept] 28) #[.int .i64 s0, .int .i64 s1] 44
  have TH : Hid (∀ wx, Below w.heap.size w wx → Tabs wx) := Lib.hid (fun wx h => hT.below h)
  clear hT B00
  go_enter Tryd.func6, Tryd.ntmps6
  go_wp2_with fail
  refine (speaks_calls _ (TH.out _ B0)).mono ?_
  rintro e w1 ⟨rfl, hb⟩
  have K1 := K0.below hb
  have P1 := P0.below hb
  have B1 := B0.trans (hb.mono B0.size)
  clear K0 P0 B0 hb
  have y0 := P1.cell 0
  have y1 := P1.cell 1
  simp at y0 y1
  go_upto_region 3 with fail
  go_quiet (fail)
  generalize hW : World.drewN _ _ = w9
  have K2 : Blk w.heap.size #[.string name, .int .i64 tm, .int .u64 packed, .int .u64 size, .int .u32 sum, .int .u64 pos, .bool kept] 28 w9 := by rw [← hW]; exact K1.drewN _
  have B2 : Below w.heap.size w w9 := by rw [← hW]; exact B1.trans ((below_drewN _ _).mono B1.size)
  clear hW K1 P1 B1 y0 y1
  have x0 := K2.cell 0
  have x1 := K2.cell 1
  have x2 := K2.cell 2
  have x3 := K2.cell 3
  have x4 := K2.cell 4
  have x5 := K2.cell 5
  have x6 := K2.cell 6
  simp at x0 x1 x2 x3 x4 x5 x6
  go_wp2_with fail
  refine (made_calls name tm packed size sum pos kept _ hn ht ht2).mono ?_
  rintro e w2 ⟨⟨T, rfl⟩, hb⟩
  have B3 := Lib.hid (B2.trans (hb.mono B2.size))
  have hnm := cutN_size name
  generalize cutN name = nm at *
  clear hb B2 K2 x0 x1 x2 x3 x4 x5 x6
  have ho : Hd.ok ⟨nm, T, packed, size, sum, pos, kept⟩ := ⟨by simp only; omega, hp, hs, hu, ha⟩
  obtain ⟨ty, tmo, td, thh, tmi, tsc⟩ := T
  simp only [Hd.val]
  go_upto_region 5 with fail
  have K1 := (Blk.new w2 #[.string nm, .int .i64 ty, .int .i64 tmo, .int .i64 td, .int .i64 thh, .int .i64 tmi, .int .i64 tsc, .int .u64 packed, .int .u64 size, .int .u32 sum, .int .u64 pos, .bool kept] 32).alloc (.cells #[.string nm, .int .i64 ty, .int .i64 tmo, .int .i64 td, .int .i64 thh, .int .i64 tmi, .int .i64 tsc, .int .u64 packed, .int .u64 size, .int .u32 sum, .int .u64 pos, .bool kept] 35)
  have K2 := Blk.new1 w2 (.cells #[.string nm, .int .i64 ty, .int .i64 tmo, .int .i64 td, .int .i64 thh, .int .i64 tmi, .int .i64 tsc, .int .u64 packed, .int .u64 size, .int .u32 sum, .int .u64 pos, .bool kept] 32) #[.string nm, .int .i64 ty, .int .i64 tmo, .int .i64 td, .int .i64 thh, .int .i64 tmi, .int .i64 tsc, .int .u64 packed, .int .u64 size, .int .u32 sum, .int .u64 pos, .bool kept] 35
  have B4 := B3.out.alloc B3.out.size (.cells #[.string nm, .int .i64 ty, .int .i64 tmo, .int .i64 td, .int .i64 thh, .int .i64 tmi, .int .i64 tsc, .int .u64 packed, .int .u64 size, .int .u32 sum, .int .u64 pos, .bool kept] 32)
  have B5 := B4.alloc B4.size (.cells #[.string nm, .int .i64 ty, .int .i64 tmo, .int .i64 td, .int .i64 thh, .int .i64 tmi, .int .i64 tsc, .int .u64 packed, .int .u64 size, .int .u32 sum, .int .u64 pos, .bool kept] 35)
  obtain ⟨W, hW⟩ : ∃ W, W = ((w2.alloc (.cells #[.string nm, .int .i64 ty, .int .i64 tmo, .int .i64 td, .int .i64 thh, .int .i64 tmi, .int .i64 tsc, .int .u64 packed, .int .u64 size, .int .u32 sum, .int .u64 pos, .bool kept] 32)).alloc (.cells #[.string nm, .int .i64 ty, .int .i64 tmo, .int .i64 td, .int .i64 thh, .int .i64 tmi, .int .i64 tsc, .int .u64 packed, .int .u64 size, .int .u32 sum, .int .u64 pos, .bool kept] 35)) := ⟨_, rfl⟩
  rw [← hW] at K1 K2 B5 ⊢
  clear hW B3 B4
  obtain ⟨U, f, HA⟩ := above W.heap.size W
  have c0 := HA.cell K1 K1.lt 0 (.string nm) rfl
  have c1 := HA.cell K1 K1.lt 1 (.int .i64 ty) rfl
  have c2 := HA.cell K1 K1.lt 2 (.int .i64 tmo) rfl
  have c3 := HA.cell K1 K1.lt 3 (.int .i64 td) rfl
  have c4 := HA.cell K1 K1.lt 4 (.int .i64 thh) rfl
  have c5 := HA.cell K1 K1.lt 5 (.int .i64 tmi) rfl
  have c6 := HA.cell K1 K1.lt 6 (.int .i64 tsc) rfl
  have c7 := HA.cell K1 K1.lt 7 (.int .u64 packed) rfl
  have c8 := HA.cell K1 K1.lt 8 (.int .u64 size) rfl
  have c9 := HA.cell K1 K1.lt 9 (.int .u32 sum) rfl
  have c10 := HA.cell K1 K1.lt 10 (.int .u64 pos) rfl
  have c11 := HA.cell K1 K1.lt 11 (.bool kept) rfl
  have d0 := HA.cell K2 K2.lt 0 (.string nm) rfl
  have d1 := HA.cell K2 K2.lt 1 (.int .i64 ty) rfl
  have d2 := HA.cell K2 K2.lt 2 (.int .i64 tmo) rfl
  have d3 := HA.cell K2 K2.lt 3 (.int .i64 td) rfl
  have d4 := HA.cell K2 K2.lt 4 (.int .i64 thh) rfl
  have d5 := HA.cell K2 K2.lt 5 (.int .i64 tmi) rfl
  have d6 := HA.cell K2 K2.lt 6 (.int .i64 tsc) rfl
  have d7 := HA.cell K2 K2.lt 7 (.int .u64 packed) rfl
  have d8 := HA.cell K2 K2.lt 8 (.int .u64 size) rfl
  have d9 := HA.cell K2 K2.lt 9 (.int .u32 sum) rfl
  have d10 := HA.cell K2 K2.lt 10 (.int .u64 pos) rfl
  have d11 := HA.cell K2 K2.lt 11 (.bool kept) rfl

  have HU := Lib.hid HA
  have HE : Hid (∀ u, Below w.heap.size w (f u)) := Lib.hid (fun u => B5.trans ((HA.below u).mono B5.size))
  have HT : Hid (∀ u, Tabs (f u)) := Lib.hid (fun u => TH.out _ (HE.out u))
  obtain ⟨u0, hu0⟩ := HA.start
  have hne : Nonempty U := ⟨u0⟩
  clear HA K1 K2 B5
  rw [hu0]
  go_wp2_with fail
  refine (rgood_calls ⟨nm, ⟨ty, tmo, td, thh, tmi, tsc⟩, packed, size, sum, pos, kept⟩ _ ho).mono ?_
  rintro e w1 ⟨rfl, hb⟩
  obtain ⟨u1, rfl⟩ := HU.out.next (Nat.le_refl _) hb
  clear hb hu0
  have HL : Hid (∀ W, Tabs W → Calls Tryd.prog 12 #[.agg #[.string nm, .int .i64 ty, .int .i64 tmo, .int .i64 td, .int .i64 thh, .int .i64 tmi, .int .i64 tsc, .int .u64 packed, .int .u64 size, .int .u32 sum, .int .u64 pos, .bool kept]] W fun e w' => e = .returned (.string (locS ⟨nm, ⟨ty, tmo, td, thh, tmi, tsc⟩, packed, size, sum, pos, kept⟩)) ∧ Below W.heap.size W w') := Lib.hid (fun W h => local_calls ⟨nm, ⟨ty, tmo, td, thh, tmi, tsc⟩, packed, size, sum, pos, kept⟩ W ho h)
  have HC : Hid (∀ W, Tabs W → Calls Tryd.prog 14 #[.agg #[.string nm, .int .i64 ty, .int .i64 tmo, .int .i64 td, .int .i64 thh, .int .i64 tmi, .int .i64 tsc, .int .u64 packed, .int .u64 size, .int .u32 sum, .int .u64 pos, .bool kept]] W fun e w' => e = .returned (.string (cenS ⟨nm, ⟨ty, tmo, td, thh, tmi, tsc⟩, packed, size, sum, pos, kept⟩)) ∧ Below W.heap.size W w') := Lib.hid (fun W h => central_calls ⟨nm, ⟨ty, tmo, td, thh, tmi, tsc⟩, packed, size, sum, pos, kept⟩ W ho h)
  cases hg : goodH ⟨nm, ⟨ty, tmo, td, thh, tmi, tsc⟩, packed, size, sum, pos, kept⟩ with
  | false =>
    clear hg ho
    go_wp2
    go_ret
    exact ⟨rfl, HE.out _⟩
  | true =>
    have l1 := locS_size hg
    have l3 := cenS_size hg
    simp only at l1 l3
    have z1 : 30 ≤ (locS ⟨nm, ⟨ty, tmo, td, thh, tmi, tsc⟩, packed, size, sum, pos, kept⟩).size ∧ (locS ⟨nm, ⟨ty, tmo, td, thh, tmi, tsc⟩, packed, size, sum, pos, kept⟩).size ≤ 400 := by rw [l1]; split <;> omega
    have z3 : 46 ≤ (cenS ⟨nm, ⟨ty, tmo, td, thh, tmi, tsc⟩, packed, size, sum, pos, kept⟩).size ∧ (cenS ⟨nm, ⟨ty, tmo, td, thh, tmi, tsc⟩, packed, size, sum, pos, kept⟩).size ≤ 400 := by rw [l3]; constructor <;> (repeat' split) <;> omega
    generalize locS ⟨nm, ⟨ty, tmo, td, thh, tmi, tsc⟩, packed, size, sum, pos, kept⟩ = LS at *
    generalize cenS ⟨nm, ⟨ty, tmo, td, thh, tmi, tsc⟩, packed, size, sum, pos, kept⟩ = CS at *
    clear hg ho l1 l3
    go_upto_region 7 with fail
    go_cut [11, 12] from 11 to 39 (fun a b wx => ∃ (A B ca cb : Nat), a = .slice (some ⟨A, 0, none⟩) LS.size ca ∧ b = .slice (some ⟨B, 0, none⟩) CS.size cb ∧ (A ≠ B ∧ w.heap.size ≤ A ∧ w.heap.size ≤ B) ∧ (LS.size ≤ ca ∧ CS.size ≤ cb ∧ ca ≤ 9223372036854775807 ∧ cb ≤ 9223372036854775807) ∧ Row8 A (byI LS) wx ∧ Row8 B (byI CS) wx ∧ Below w.heap.size w wx)
    case first =>
      have hc1 := row_run LS
      have hc2 := row_run CS
      have cn : ∀ (u : U) wx, Below (f u).heap.size (f u) wx → ∃ u', wx = f u' := fun u wx h => HU.out.next (Nat.le_refl _) h
      have hCR : ∀ w1 w2 : World, (∃ u, w1 = f u) → Below w1.heap.size w1 w2 → ∃ u, w2 = f u := by
        rintro w1 w2 ⟨u, rfl⟩ h
        exact cn u _ h
      have hmk : ∀ (s : ByteArray) (w1 wx : World), Below (w1.heap.size + 1) (rowW s w1) wx → Below w1.heap.size w1 wx := fun s w1 wx h => (row_below s w1).trans (h.mono (by omega))
      have hrr : ∀ (s : ByteArray) (w1 wx wy : World), Below (w1.heap.size + 1) (rowW s w1) wx → Below wx.heap.size wx wy → Below (w1.heap.size + 1) (rowW s w1) wy := fun s w1 wx wy h k => h.trans (k.mono (by have := h.size; rw [row_size] at this; exact this))
      have hee : ∀ (s t : ByteArray) (w1 w2 wx : World), Below (w1.heap.size + 1) (rowW s w1) w2 → Below (w2.heap.size + 1) (rowW t w2) wx → Below (w1.heap.size + 1) (rowW s w1) wx := fun s t w1 w2 wx h k => hrr s w1 w2 wx h (hmk t w2 wx k)
      have hlt : ∀ (s : ByteArray) (w1 wx : World), Below (w1.heap.size + 1) (rowW s w1) wx → w1.heap.size < wx.heap.size := fun s w1 wx h => by have := h.size; rw [row_size] at this; omega
      have hfin : ∀ (s t : ByteArray) (w1 w2 wx : World), (∃ u, w1 = f u) → Below (w1.heap.size + 1) (rowW s w1) w2 → Below (w2.heap.size + 1) (rowW t w2) wx → Row8 w1.heap.size (byI s) wx ∧ Row8 w2.heap.size (byI t) wx ∧ w1.heap.size < w2.heap.size ∧ w.heap.size ≤ w1.heap.size ∧ Below w.heap.size w wx := by
        rintro s t _ w2 wx ⟨u, rfl⟩ h k
        refine ⟨(row_made s _).under (by omega) (hee s t _ _ _ h k), (row_made t _).under (by omega) k, hlt s _ _ h, (HE.out u).size, (HE.out u).trans ((hmk s _ _ (hee s t _ _ _ h k)).mono (HE.out u).size)⟩
      refine wp_region_any (by kernel_rfl) ?_
      refine Aw2.wpAny_of_before2 (C := fun w => ∃ u, w = f u) (R := fun w w' => Below w.heap.size w w') (DA := fun w1 wx => Below (w1.heap.size + 1) (rowW LS w1) wx) (DB := fun w1 wx => Below (w1.heap.size + 1) (rowW CS w1) wx) (EA := fun w1 w2 wx => Below (w2.heap.size + 1) (rowW CS w2) wx) (EB := fun w1 w2 wx => Below (w2.heap.size + 1) (rowW LS w2) wx)
        (VA := rowV LS) (VB := rowV CS) (NA := rowW LS) (NB := rowW CS) (iA := 2) (iB := 5)
        (QA := fun w1 w2 a' => ∀ wx, (Row8 w1.heap.size (byI LS) wx ∧ Row8 w2.heap.size (byI CS) wx ∧ w1.heap.size < w2.heap.size ∧ w.heap.size ≤ w1.heap.size ∧ Below w.heap.size w wx) → _)
        (QB := fun w1 w2 a' => ∀ wx, (Row8 w1.heap.size (byI CS) wx ∧ Row8 w2.heap.size (byI LS) wx ∧ w1.heap.size < w2.heap.size ∧ w.heap.size ≤ w1.heap.size ∧ Below w.heap.size w wx) → _)
        (by decide) hCR (hrr LS) (hrr CS) rfl rfl
        (fun w1 w2 wx a hw h k q => q wx (hfin LS CS w1 w2 wx hw h k)) (fun w1 w2 wx a hw h k q => q wx (hfin CS LS w1 w2 wx hw h k)) 8 _ _ _ (HU.out.drew _) ?_
      refine Aw2.before2_num (fuel := 3) (by decide) (fun w1 wx hw h => hCR w1 wx hw (hmk LS w1 wx h)) (hrr LS) (fun w1 wx hw h => hCR w1 wx hw (hmk CS w1 wx h)) (hrr CS)
        (fun w1 w2 wx h k => hee LS CS w1 w2 wx h k) (fun w1 w2 wx wy h k => hrr CS w2 wx wy h k) (fun w1 w2 wx h k => hee CS LS w1 w2 wx h k) (fun w1 w2 wx wy h k => hrr LS w2 wx wy h k)
        (by kernel_rfl) rfl rfl (dA := some 36) (dB := some 39) rfl rfl [0, 3, 1, 4] _ _ (by decide) (by decide) (by kernel_rfl) ?_
      refine ⟨_, _, some 34, rfl, rfl, sure_in (v := .agg #[.string nm, .int .i64 ty, .int .i64 tmo, .int .i64 td, .int .i64 thh, .int .i64 tmi, .int .i64 tsc, .int .u64 packed, .int .u64 size, .int .u32 sum, .int .u64 pos, .bool kept]) (by kernel_rfl) (fun w1 hw => by obtain ⟨u, rfl⟩ := hw; simp [execOp, Act.eval, Act.put, go_sem, c0, c1, c2, c3, c4, c5, c6, c7, c8, c9, c10, c11]), ?_⟩
      refine ⟨_, _, some 37, rfl, rfl, sure_in (v := .agg #[.string nm, .int .i64 ty, .int .i64 tmo, .int .i64 td, .int .i64 thh, .int .i64 tmi, .int .i64 tsc, .int .u64 packed, .int .u64 size, .int .u32 sum, .int .u64 pos, .bool kept]) (by kernel_rfl) (fun w1 hw => by obtain ⟨u, rfl⟩ := hw; simp [execOp, Act.eval, Act.put, go_sem, c0, c1, c2, c3, c4, c5, c6, c7, c8, c9, c10, c11]), ?_⟩
      refine ⟨_, _, some 35, rfl, rfl, Aw2.sure_call (f := 12) (args := #[.agg #[.string nm, .int .i64 ty, .int .i64 tmo, .int .i64 td, .int .i64 thh, .int .i64 tmi, .int .i64 tsc, .int .u64 packed, .int .u64 size, .int .u32 sum, .int .u64 pos, .bool kept]]) (by kernel_rfl) (fun w1 => by simp [execOp, Act.eval, Act.put, go_sem]) (fun w1 hw => by obtain ⟨u, rfl⟩ := hw; exact HL.out _ (HT.out _)), ?_⟩
      refine ⟨_, _, some 38, rfl, rfl, Aw2.sure_call (f := 14) (args := #[.agg #[.string nm, .int .i64 ty, .int .i64 tmo, .int .i64 td, .int .i64 thh, .int .i64 tmi, .int .i64 tsc, .int .u64 packed, .int .u64 size, .int .u32 sum, .int .u64 pos, .bool kept]]) (by kernel_rfl) (fun w1 => by simp [execOp, Act.eval, Act.put, go_sem]) (fun w1 hw => by obtain ⟨u, rfl⟩ := hw; exact HC.out _ (HT.out _)), ?_⟩
      refine ⟨fun wz hw => ⟨by kernel_rfl, by simp [execOp, Act.eval, Act.put, go_sem, hc1, hc2], Below.refl _ _⟩, fun wz hw => ⟨by kernel_rfl, by simp [execOp, Act.eval, Act.put, go_sem, hc1, hc2], Below.refl _ _⟩, ?_, ?_⟩
      · intro w1 hw1
        refine Aw2.before_num (fuel := 1) (fun w2 wx h k => hee LS CS w1 w2 wx h k) (fun w2 wx wy h k => hrr CS w2 wx wy h k) (by kernel_rfl) rfl (d0 := some 39) rfl [6] _ _ (by decide) (by kernel_rfl) ?_
        refine ⟨_, _, some 11, rfl, rfl, Aw2.sure_val (v := rowV LS w1) (by kernel_rfl) (fun wz => by simp [execOp, Act.eval, Act.put, go_sem]), ?_⟩
        refine ⟨fun wz hw => ⟨by kernel_rfl, by simp [execOp, Act.eval, Act.put, go_sem, hc1, hc2], Below.refl _ _⟩, ?_⟩
        intro w2 hw2
        refine Aw2.quiet_num (by kernel_rfl) [7] _ _ (by kernel_rfl) ?_
        refine ⟨_, _, some 12, rfl, rfl, Aw2.yin_val (v := rowV CS w2) (by kernel_rfl) (fun wz hd => by simp [execOp, Act.eval, Act.put, go_sem]), ?_⟩
        intro wx hwx
        have HW := Lib.hid hwx
        have g1 := capW_ge LS w1
        have g2 := capW_ge CS w2
        have g3 := capW_le LS w1 (by omega)
        have g4 := capW_le CS w2 (by omega)
        clear hwx
        simp only [Act.put]
        simp only [List.setIfInBounds_toArray, List.set_cons_succ, List.set_cons_zero]
        go_wp2_with fail
        go_meet
        obtain ⟨r1, r2, r3, r4, r5⟩ := HW.out
        exact ⟨_, _, _, _, rfl, rfl, ⟨by omega, by omega, by omega⟩, ⟨by assumption, by assumption, by assumption, by assumption⟩, by assumption, by assumption, r5⟩
      · intro w1 hw1
        refine Aw2.before_num (fuel := 2) (fun w2 wx h k => hee CS LS w1 w2 wx h k) (fun w2 wx wy h k => hrr LS w2 wx wy h k) (by kernel_rfl) rfl (d0 := some 36) rfl [] _ _ (by decide) (by kernel_rfl) ?_
        refine ⟨fun wz hw => ⟨by kernel_rfl, by simp [execOp, Act.eval, Act.put, go_sem, hc1, hc2], Below.refl _ _⟩, ?_⟩
        intro w2 hw2
        refine Aw2.quiet_num (by kernel_rfl) [6, 7] _ _ (by kernel_rfl) ?_
        refine ⟨_, _, some 11, rfl, rfl, Aw2.yin_val (v := rowV LS w2) (by kernel_rfl) (fun wz hd => by simp [execOp, Act.eval, Act.put, go_sem]), ?_⟩
        refine ⟨_, _, some 12, rfl, rfl, Aw2.yin_val (v := rowV CS w1) (by kernel_rfl) (fun wz hd => by simp [execOp, Act.eval, Act.put, go_sem]), ?_⟩
        intro wx hwx
        have HW := Lib.hid hwx
        have g1 := capW_ge CS w1
        have g2 := capW_ge LS w2
        have g3 := capW_le CS w1 (by omega)
        have g4 := capW_le LS w2 (by omega)
        clear hwx
        simp only [Act.put]
        simp only [List.setIfInBounds_toArray, List.set_cons_succ, List.set_cons_zero]
        go_wp2_with fail
        go_meet
        obtain ⟨r1, r2, r3, r4, r5⟩ := HW.out
        exact ⟨_, _, _, _, rfl, rfl, ⟨by omega, by omega, by omega⟩, ⟨by assumption, by assumption, by assumption, by assumption⟩, by assumption, by assumption, r5⟩
    case rest =>
      obtain ⟨A, B, ca, cb, rfl, rfl, hne, hca, rA, rB, hbx⟩ := hcut
      obtain ⟨k1, kl1, ke1⟩ := modk s0 LS.size (by omega) (by omega)
      obtain ⟨k2, kl2, ke2⟩ := modk s0 CS.size (by omega) (by omega)
      have n1 : (byI LS).length = LS.size := byI_len LS
      have n2 : (byI CS).length = CS.size := byI_len CS
      generalize byI LS = xa at *
      generalize byI CS = xb at *
      have cA := rA.cell k1 (by omega)
      have fA := rA.frozen k1 (by omega)
      clear HL HC c0 c1 c2 c3 c4 c5 c6 c7 c8 c9 c10 c11 d0 d1 d2 d3 d4 d5 d6 d7 d8 d9 d10 d11
      go_upto_region 9 with fail
      have rA2 := rA.set k1 bt
      have rB2 := rB.setOther (Ne.symm hne.1) k1 (.int .u8 bt)
      have B2 := hbx.setCell (p := ⟨A, k1, none⟩) hne.2.1 (.int .u8 bt)
      obtain ⟨W8, hW8⟩ : ∃ W8, W8 = wc.setCell ⟨A, k1, none⟩ (.int .u8 bt) := ⟨_, rfl⟩
      rw [← hW8] at rA2 rB2 B2 ⊢
      clear hW8 cA fA rA rB hbx
      have cB := rB2.cell k2 (by omega)
      have fB := rB2.frozen k2 (by omega)
      go_upto_region 10 with fail
      have rA3 := rA2.setOther hne.1 k2 (.int .u8 bt)
      have rB3 := rB2.set k2 bt
      have B3 := B2.setCell (p := ⟨B, k2, none⟩) hne.2.2 (.int .u8 bt)
      obtain ⟨W9, hW9⟩ : ∃ W9, W9 = W8.setCell ⟨B, k2, none⟩ (.int .u8 bt) := ⟨_, rfl⟩
      rw [← hW9] at rA3 rB3 B3 ⊢
      clear hW9 cB fB rA2 rB2 B2
      have n3 : (xa.set k1 bt).length = LS.size := by rw [List.length_set]; exact n1
      have n4 : (xb.set k2 bt).length = CS.size := by rw [List.length_set]; exact n2
      generalize xa.set k1 bt = ya at *
      generalize xb.set k2 bt = yb at *
      have r3 := and3_range s1
      obtain ⟨q, hq⟩ : ∃ q : Nat, Go.bits .and .i64 s1 3 = (q : Int) := ⟨(Go.bits .and .i64 s1 3).toNat, by omega⟩
      rw [hq] at r3
      have HCA : ∀ n, (convert 45 9 (.slice (some ⟨A, 0, none⟩) (LS.size - q) ca)).run Tryd.prog (W9.drewN n) = .ok (.string (strOfNums (ya.take (LS.size - q)))) (W9.drewN n) := fun n =>
        (rA3.under rA3.lt (below_drewN _ n)).text _ ca (by omega)
      have HCB : ∀ n, (convert 45 9 (.slice (some ⟨B, 0, none⟩) (CS.size - q) cb)).run Tryd.prog (W9.drewN n) = .ok (.string (strOfNums (yb.take (CS.size - q)))) (W9.drewN n) := fun n =>
        (rB3.under rB3.lt (below_drewN _ n)).text _ cb (by omega)
      have s1a : (LS.size : Int) - (q : Int) = ((LS.size - q : Nat) : Int) := by omega
      have s1b : (CS.size : Int) - (q : Int) = ((CS.size - q : Nat) : Int) := by omega
      have pz : (strOfNums (ya.take (LS.size - q))).size ≤ 140737488351232 := by rw [strOfNums_size, List.length_take]; omega
      have qz : (strOfNums (yb.take (CS.size - q))).size ≤ 140737488351232 := by rw [strOfNums_size, List.length_take]; omega
      generalize strOfNums (ya.take (LS.size - q)) = ps at *
      generalize strOfNums (yb.take (CS.size - q)) = qs at *
      go_quiet (fail)
      generalize hW : World.drewN _ _ = W5
      have B5 : Below w.heap.size w W5 := by rw [← hW]; exact B3.trans ((below_drewN _ _).mono B3.size)
      clear hW HCA HCB rA3 rB3 B3
      obtain ⟨⟨⟨gn, ⟨gy, gmo, gd, ghh, gmi, gsc⟩, gp, gz, gu, ga, gk⟩, gN⟩, hr⟩ : ∃ r, r = readG locF ps := ⟨_, rfl⟩
      have HR := read_calls ps W5 pz (TH.out _ B5)
      have WY := read_ways locF ps (by decide)
      have HSz : Hid (∀ W, Calls Tryd.prog 18 #[.string ps, .string ⟨#[80, 75, 3, 4]⟩, .int .i64 30, .int .i64 26] W fun e w' => e = .returned (.int .i64 (sizeG locF ps)) ∧ Below W.heap.size W w') := Lib.hid (fun W => size_calls locF ps W pz ⟨by decide, by decide, by decide, by decide⟩ rfl (by decide))
      rw [← hr] at HR WY
      simp only [Hd.val] at HR
      simp only at WY
      have HY := Lib.hid WY
      clear hr WY
      generalize hz : sizeG locF ps = sz at *
      go_wp2_with fail
      refine HR.mono ?_
      rintro e w6 ⟨rfl, hb⟩
      have Kg := Blk.new w6 #[.string gn, .int .i64 gy, .int .i64 gmo, .int .i64 gd, .int .i64 ghh, .int .i64 gmi, .int .i64 gsc, .int .u64 gp, .int .u64 gz, .int .u32 gu, .int .u64 ga, .bool gk] 32
      have B6 := (B5.trans (hb.mono B5.size)).alloc (B5.trans (hb.mono B5.size)).size (.cells #[.string gn, .int .i64 gy, .int .i64 gmo, .int .i64 gd, .int .i64 ghh, .int .i64 gmi, .int .i64 gsc, .int .u64 gp, .int .u64 gz, .int .u32 gu, .int .u64 ga, .bool gk] 32)
      clear hb HR
      go_wp2_with fail
      refine (HSz.out _).mono ?_
      rintro e w7 ⟨rfl, hb⟩
      have Kg2 := Kg.below hb
      have B7 := B6.trans (hb.mono B6.size)
      clear hb Kg B6 HSz
      go_upto_region 13 with fail
      obtain ⟨V, g, HA⟩ := above w7.heap.size w7
      have a0 := HA.cell Kg2 Kg2.lt 0 (.string gn) rfl
      have a1 := HA.cell Kg2 Kg2.lt 1 (.int .i64 gy) rfl
      have a2 := HA.cell Kg2 Kg2.lt 2 (.int .i64 gmo) rfl
      have a3 := HA.cell Kg2 Kg2.lt 3 (.int .i64 gd) rfl
      have a4 := HA.cell Kg2 Kg2.lt 4 (.int .i64 ghh) rfl
      have a5 := HA.cell Kg2 Kg2.lt 5 (.int .i64 gmi) rfl
      have a6 := HA.cell Kg2 Kg2.lt 6 (.int .i64 gsc) rfl
      have a7 := HA.cell Kg2 Kg2.lt 7 (.int .u64 gp) rfl
      have a8 := HA.cell Kg2 Kg2.lt 8 (.int .u64 gz) rfl
      have a9 := HA.cell Kg2 Kg2.lt 9 (.int .u32 gu) rfl
      have a10 := HA.cell Kg2 Kg2.lt 10 (.int .u64 ga) rfl
      have a11 := HA.cell Kg2 Kg2.lt 11 (.bool gk) rfl
      have HV := Lib.hid HA
      have HF : Hid (∀ u, Below w.heap.size w (g u)) := Lib.hid (fun u => B7.trans ((HA.below u).mono B7.size))
      have HS : Hid (∀ u, Tabs (g u)) := Lib.hid (fun u => TH.out _ (HF.out u))
      obtain ⟨v0, hv0⟩ := HA.start
      have hnv : Nonempty V := ⟨v0⟩
      clear HA Kg2 B7
      rw [hv0]
      clear hv0
      go_cut [128] from 89 to 128 (fun c wx => c = .bool false ∧ Below w.heap.size w wx)
      case first =>
        rcases HY.out with ⟨k, k0, kp, e1, e2, e3, e4, e5⟩ | ⟨e1, e2, e3⟩ | ⟨e1, e2, e3⟩
        · as_aux_lemma =>
            have ho2 : Hd.ok ⟨gn, ⟨gy, gmo, gd, ghh, gmi, gsc⟩, gp, gz, gu, ga, gk⟩ := by rw [e5]; exact told_loc ps
            have HLg : Hid (∀ W, Tabs W → Calls Tryd.prog 12 #[.agg #[.string gn, .int .i64 gy, .int .i64 gmo, .int .i64 gd, .int .i64 ghh, .int .i64 gmi, .int .i64 gsc, .int .u64 gp, .int .u64 gz, .int .u32 gu, .int .u64 ga, .bool gk]] W fun e w' => e = .returned (.string (ps.extract 0 k)) ∧ Below W.heap.size W w') := Lib.hid (fun W h => by rw [← e3]; exact local_calls ⟨gn, ⟨gy, gmo, gd, ghh, gmi, gsc⟩, gp, gz, gu, ga, gk⟩ W ho2 h)
            subst e1 e2
            have p1 : decide (0 < (k : Int)) = true := decide_eq_true (by omega)
            have p2 : ((k : Int) == 0) = false := by rw [beq_eq_false_iff_ne]; omega
            have p3 : decide ((k : Int) < 0) = false := decide_eq_false (by omega)
            have p4 : decide ((k : Int) ≤ 0) = false := decide_eq_false (by omega)
            have p5 : decide (0 ≤ (k : Int)) = true := decide_eq_true (by omega)
            have p6 : (k : Int) ≤ (ps.size : Int) := by omega
            have p7 : (0 : Int) ≤ (k : Int) := by omega
            have p8 : decide (k = 0) = false := decide_eq_false (by omega)
            have p9 : (k == 0) = false := by rw [beq_eq_false_iff_ne]; omega
            have p10 : k ≠ 0 := by omega
            have p11 : ((k : Int) != 0) = true := by rw [bne_iff_ne]; omega
            have p12 : (k != 0) = true := by rw [bne_iff_ne]; omega
            clear ho2 e3 e4 e5 HY
            refine wp_region_class (C := fun w' => ∃ u, w' = g u) (by kernel_rfl) (by kernel_rfl) (HV.out.drew _) ?_
            repeat (go_big_quiet_step (first | (go_at_call 12; refine (HLg.out _ (HS.out _)).mono ?_; rintro e w1 ⟨rfl, hb⟩; exact ⟨rfl, HV.out.next (Nat.le_refl _) hb⟩)))
            refine wpQuiet_nil ?_
            rintro wx ⟨u2, rfl⟩
            go_wp2_with fail
            go_meet
            exact ⟨by simp, HF.out _⟩
        · as_aux_lemma =>
            simp only [zeroH, freshH, zeroT, Hd.mk.injEq, Tm.mk.injEq] at e1
            obtain ⟨rfl, ⟨rfl, rfl, rfl, rfl, rfl, rfl⟩, rfl, rfl, rfl, rfl, rfl⟩ := e1
            subst e2 e3
            clear HY
            refine wp_region_class (C := fun w' => ∃ u, w' = g u) (by kernel_rfl) (by kernel_rfl) (HV.out.drew _) ?_
            repeat (go_big_quiet_step (first | fail))
            refine wpQuiet_nil ?_
            rintro wx ⟨u2, rfl⟩
            go_wp2_with fail
            go_meet
            exact ⟨by simp, HF.out _⟩
        · as_aux_lemma =>
            simp only [zeroH, freshH, zeroT, Hd.mk.injEq, Tm.mk.injEq] at e1
            obtain ⟨rfl, ⟨rfl, rfl, rfl, rfl, rfl, rfl⟩, rfl, rfl, rfl, rfl, rfl⟩ := e1
            subst e2
            have p2 : (sz == 0) = false := e3
            have p3 : (sz != 0) = true := by rw [bne, e3]; rfl
            clear HY
            refine wp_region_class (C := fun w' => ∃ u, w' = g u) (by kernel_rfl) (by kernel_rfl) (HV.out.drew _) ?_
            repeat (go_big_quiet_step (first | fail))
            refine wpQuiet_nil ?_
            rintro wx ⟨u2, rfl⟩
            go_wp2_with fail
            go_meet
            exact ⟨by simp, HF.out _⟩
      case rest =>
        obtain ⟨rfl, B8⟩ := hcut
        clear HY HV HF HS v0 hnv a0 a1 a2 a3 a4 a5 a6 a7 a8 a9 a10 a11 hz B5
        obtain ⟨⟨⟨en, ⟨ey, emo, ed, ehh, emi, esc⟩, ep, ez, eu, ea, ek⟩, eN⟩, hr⟩ : ∃ r, r = readG cenF qs := ⟨_, rfl⟩
        have HR := readc_calls qs wc qz (TH.out _ B8)
        have WY := read_ways cenF qs (by decide)
        have HSz : Hid (∀ W, Calls Tryd.prog 18 #[.string qs, .string ⟨#[80, 75, 1, 2]⟩, .int .i64 46, .int .i64 28] W fun e w' => e = .returned (.int .i64 (sizeG cenF qs)) ∧ Below W.heap.size W w') := Lib.hid (fun W => size_calls cenF qs W qz ⟨by decide, by decide, by decide, by decide⟩ rfl (by decide))
        rw [← hr] at HR WY
        simp only [Hd.val] at HR
        simp only at WY
        have HY := Lib.hid WY
        clear hr WY
        generalize hz : sizeG cenF qs = sz at *
        go_wp2_with fail
        refine HR.mono ?_
        rintro e w6 ⟨rfl, hb⟩
        have Kg := Blk.new w6 #[.string en, .int .i64 ey, .int .i64 emo, .int .i64 ed, .int .i64 ehh, .int .i64 emi, .int .i64 esc, .int .u64 ep, .int .u64 ez, .int .u32 eu, .int .u64 ea, .bool ek] 32
        have B6 := (B8.trans (hb.mono B8.size)).alloc (B8.trans (hb.mono B8.size)).size (.cells #[.string en, .int .i64 ey, .int .i64 emo, .int .i64 ed, .int .i64 ehh, .int .i64 emi, .int .i64 esc, .int .u64 ep, .int .u64 ez, .int .u32 eu, .int .u64 ea, .bool ek] 32)
        clear hb HR
        go_wp2_with fail
        refine (HSz.out _).mono ?_
        rintro e w7 ⟨rfl, hb⟩
        have Kg2 := Kg.below hb
        have B7 := B6.trans (hb.mono B6.size)
        clear hb Kg B6 HSz
        go_upto_region 17 with fail
        obtain ⟨V, g, HA⟩ := above w7.heap.size w7
        have a0 := HA.cell Kg2 Kg2.lt 0 (.string en) rfl
        have a1 := HA.cell Kg2 Kg2.lt 1 (.int .i64 ey) rfl
        have a2 := HA.cell Kg2 Kg2.lt 2 (.int .i64 emo) rfl
        have a3 := HA.cell Kg2 Kg2.lt 3 (.int .i64 ed) rfl
        have a4 := HA.cell Kg2 Kg2.lt 4 (.int .i64 ehh) rfl
        have a5 := HA.cell Kg2 Kg2.lt 5 (.int .i64 emi) rfl
        have a6 := HA.cell Kg2 Kg2.lt 6 (.int .i64 esc) rfl
        have a7 := HA.cell Kg2 Kg2.lt 7 (.int .u64 ep) rfl
        have a8 := HA.cell Kg2 Kg2.lt 8 (.int .u64 ez) rfl
        have a9 := HA.cell Kg2 Kg2.lt 9 (.int .u32 eu) rfl
        have a10 := HA.cell Kg2 Kg2.lt 10 (.int .u64 ea) rfl
        have a11 := HA.cell Kg2 Kg2.lt 11 (.bool ek) rfl
        have HV := Lib.hid HA
        have HF : Hid (∀ u, Below w.heap.size w (g u)) := Lib.hid (fun u => B7.trans ((HA.below u).mono B7.size))
        have HS : Hid (∀ u, Tabs (g u)) := Lib.hid (fun u => TH.out _ (HF.out u))
        obtain ⟨v0, hv0⟩ := HA.start
        have hnv : Nonempty V := ⟨v0⟩
        clear HA Kg2 B7
        rw [hv0]
        clear hv0
        rcases HY.out with ⟨k, k0, kp, e1, e2, e3, e4, e5⟩ | ⟨e1, e2, e3⟩ | ⟨e1, e2, e3⟩
        · as_aux_lemma =>
            have ho2 : Hd.ok ⟨en, ⟨ey, emo, ed, ehh, emi, esc⟩, ep, ez, eu, ea, ek⟩ := by rw [e5]; exact told_cen qs
            have hgg := cenS_good (h := ⟨en, ⟨ey, emo, ed, ehh, emi, esc⟩, ep, ez, eu, ea, ek⟩) (by show 0 < (cenF.str _).size; rw [e3, e4]; exact k0)
            have HCg : Hid (∀ W, Tabs W → Calls Tryd.prog 14 #[.agg #[.string en, .int .i64 ey, .int .i64 emo, .int .i64 ed, .int .i64 ehh, .int .i64 emi, .int .i64 esc, .int .u64 ep, .int .u64 ez, .int .u32 eu, .int .u64 ea, .bool ek]] W fun e w' => e = .returned (.string (qs.extract 0 k)) ∧ Below W.heap.size W w') := Lib.hid (fun W h => by rw [← e3]; exact central_calls ⟨en, ⟨ey, emo, ed, ehh, emi, esc⟩, ep, ez, eu, ea, ek⟩ W ho2 h)
            have HGg : Hid (∀ W, Tabs W → Calls Tryd.prog 19 #[.agg #[.string en, .int .i64 ey, .int .i64 emo, .int .i64 ed, .int .i64 ehh, .int .i64 emi, .int .i64 esc, .int .u64 ep, .int .u64 ez, .int .u32 eu, .int .u64 ea, .bool ek]] W fun e w' => e = .returned (.bool true) ∧ Below W.heap.size W w') := Lib.hid (fun W h => by rw [← hgg]; exact hgood_calls ⟨en, ⟨ey, emo, ed, ehh, emi, esc⟩, ep, ez, eu, ea, ek⟩ W ho2.n h)
            clear hgg
            subst e1 e2
            have p1 : decide (0 < (k : Int)) = true := decide_eq_true (by omega)
            have p2 : ((k : Int) == 0) = false := by rw [beq_eq_false_iff_ne]; omega
            have p3 : decide ((k : Int) < 0) = false := decide_eq_false (by omega)
            have p4 : decide ((k : Int) ≤ 0) = false := decide_eq_false (by omega)
            have p5 : decide (0 ≤ (k : Int)) = true := decide_eq_true (by omega)
            have p6 : (k : Int) ≤ (qs.size : Int) := by omega
            have p7 : (0 : Int) ≤ (k : Int) := by omega
            have p8 : decide (k = 0) = false := decide_eq_false (by omega)
            have p9 : (k == 0) = false := by rw [beq_eq_false_iff_ne]; omega
            have p10 : k ≠ 0 := by omega
            have p11 : ((k : Int) != 0) = true := by rw [bne_iff_ne]; omega
            have p12 : (k != 0) = true := by rw [bne_iff_ne]; omega
            clear ho2 e3 e4 e5 HY
            refine wp_region_class (C := fun w' => ∃ u, w' = g u) (by kernel_rfl) (by kernel_rfl) (HV.out.drew _) ?_
            repeat (go_big_quiet_step (first | (go_at_call 14; refine (HCg.out _ (HS.out _)).mono ?_; rintro e w1 ⟨rfl, hb⟩; exact ⟨rfl, HV.out.next (Nat.le_refl _) hb⟩) | (go_at_call 19; refine (HGg.out _ (HS.out _)).mono ?_; rintro e w1 ⟨rfl, hb⟩; exact ⟨rfl, HV.out.next (Nat.le_refl _) hb⟩)))
            refine wpQuiet_nil ?_
            rintro wx ⟨u2, rfl⟩
            go_wp2
            go_ret
            exact ⟨by simp, HF.out _⟩
        · as_aux_lemma =>
            simp only [zeroH, freshH, zeroT, Hd.mk.injEq, Tm.mk.injEq] at e1
            obtain ⟨rfl, ⟨rfl, rfl, rfl, rfl, rfl, rfl⟩, rfl, rfl, rfl, rfl, rfl⟩ := e1
            subst e2 e3
            clear HY
            refine wp_region_class (C := fun w' => ∃ u, w' = g u) (by kernel_rfl) (by kernel_rfl) (HV.out.drew _) ?_
            repeat (go_big_quiet_step (first | fail))
            refine wpQuiet_nil ?_
            rintro wx ⟨u2, rfl⟩
            go_wp2
            go_ret
            exact ⟨by simp, HF.out _⟩
        · as_aux_lemma =>
            simp only [zeroH, freshH, zeroT, Hd.mk.injEq, Tm.mk.injEq] at e1
            obtain ⟨rfl, ⟨rfl, rfl, rfl, rfl, rfl, rfl⟩, rfl, rfl, rfl, rfl, rfl⟩ := e1
            subst e2
            have p2 : (sz == 0) = false := e3
            have p3 : (sz != 0) = true := by rw [bne, e3]; rfl
            clear HY
            refine wp_region_class (C := fun w' => ∃ u, w' = g u) (by kernel_rfl) (by kernel_rfl) (HV.out.drew _) ?_
            repeat (go_big_quiet_step (first | fail))
            refine wpQuiet_nil ?_
            rintro wx ⟨u2, rfl⟩
            go_wp2
            go_ret
            exact ⟨by simp, HF.out _⟩

theorem wfk {k : IntKind} {a : Int} (h : (Lit.int k a).wf = true) : k.min ≤ a ∧ a ≤ k.max := by simpa [Lit.wf] using h

theorem any_any (name : ByteArray) (tm packed size sum pos : Int) (kept : Bool) (s0 s1 bt : Int) (w : World) (z : name.size ≤ 140737488351232) (w1 : (Lit.int .i64 tm).wf = true) (w2 : (Lit.int .u64 packed).wf = true) (w3 : (Lit.int .u64 size).wf = true) (w4 : (Lit.int .u32 sum).wf = true) (w5 : (Lit.int .u64 pos).wf = true)
    (w6 : (Lit.int .i64 s0).wf = true) (w7 : (Lit.int .i64 s1).wf = true) (w8 : (Lit.int .u8 bt).wf = true) (hT : Tabs w) :
    Calls Tryd.prog 6 #[.agg #[.string name, .int .i64 tm, .int .u64 packed, .int .u64 size, .int .u32 sum, .int .u64 pos, .bool kept], .agg #[.int .i64 s0, .int .i64 s1], .int .u8 bt] w fun e w' => e = .returned (.bool true) ∧ Below w.heap.size w w' := by
  have v1 := wfk w1
  have v2 := wfk w2
  have v3 := wfk w3
  have v4 := wfk w4
  have v5 := wfk w5
  have m1 : IntKind.i64.min = -9223372036854775808 := rfl
  have m2 : IntKind.i64.max = 9223372036854775807 := rfl
  have m3 : IntKind.u64.min = 0 := rfl
  have m4 : IntKind.u64.max = 18446744073709551615 := rfl
  have m5 : IntKind.u32.min = 0 := rfl
  have m6 : IntKind.u32.max = 4294967295 := rfl
  exact any_walk name tm packed size sum pos kept s0 s1 bt w z (by omega) (by omega) (by omega) (by omega) (by omega) (by omega) hT
end Go.Proofs.YtehhoigedniglaaDoor.Zp
