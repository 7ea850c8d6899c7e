/-
  An archive's end: the reference's End gives the bytes endS.
-/
import Derived.Test.YtehhoigedniglaaDoorZpEnd
import Derived.Test.YtehhoigedniglaaDoorAllocWalk
import Derived.Deep.RegionHeld3
import Derived.Deep.CutBlock
import Derived.Deep.CutRange
import Derived.Laws.OwnMore
namespace Go.Proofs.YtehhoigedniglaaDoor.Zp
open Go.RowKit
set_option linter.unusedVariables false
set_option linter.unusedSimpArgs false

/-- Eight zero bytes lie there. -/
def Lies8 (B : Nat) (wx : World) : Prop := wx.heap[B]? = some (.cells (madeCells #[.int .u8 0] 8) 5 (0, 0))
theorem Lies8.below {B : Nat} {w w' : World} (h : Lies8 B w) (hb : Below w.heap.size w w') : Lies8 B w' := by
  unfold Lies8 at *
  have hlt : B < w.heap.size := by
    rcases Nat.lt_or_ge B w.heap.size with h1 | h1
    · exact h1
    · rw [Array.getElem?_eq_none h1] at h
      cases h
  rw [hb.block B hlt]
  exact h
theorem lies8_new (W : World) : Lies8 W.heap.size (W.alloc (.cells (madeCells #[.int .u8 0] 8) 5)) := World.alloc_heap_new _ _
set_option maxRecDepth 100000 in
theorem lies8_conv (B : Nat) (W : World) (h : Lies8 B W) : (convert 45 9 (.slice (some ⟨B, 0, none⟩) 8 8)).run Tryd.prog W = .ok (.string (puI 0 8)) W := by
  have hcell : ∀ i, i < 8 → W.cell? ⟨B, 0 + i, none⟩ = some (.int .u8 ((putL 0 8).getD i 0)) := fun i hi => by
    simp only [World.cell?]
    rw [h]
    rw [putL_at _ _ _ hi, Nat.zero_div, Nat.zero_mod]
    have e : (madeCells #[.int .u8 0] 8)[0 + i]? = some (.int .u8 0) := by
      rw [← Array.getElem?_toList, toList_madeCells_one, List.getElem?_replicate, if_pos (by omega)]
    simpa using e
  exact run_convert_bytes_arg (P := Tryd.prog) (w := W) 45 5 Tryd.underlying45 Tryd.underlying5 B 0 8 8 (putL 0 8) (putL_len _ _) hcell 9 Tryd.underlying9
theorem make8 (W : World) : (Instr.makeSlice 45 (.int .i64 8) (.int .i64 8)).run Tryd.prog W = .ok (.slice (some ⟨W.heap.size, 0, none⟩) 8 8) (W.alloc (.cells (madeCells #[.int .u8 0] 8) 5)) := by
  obtain ⟨i0, hi, hz0, hz1, hz2⟩ := info_parts Tryd.infoByteZ
  have := run_make (P := Tryd.prog) W 45 5 i0 (.int .u8 0) Tryd.underlying45 hi hz0 .i64 .i64 8 8 (by omega) (by omega) (by rw [hz2]; omega) (by omega)
  simpa [hz1, Value.cells] using this

set_option maxHeartbeats 60000000 in
set_option maxRecDepth 100000 in
theorem refend_calls (c z a : Int) (w : World) (c0 : 0 ≤ c) (cn : c < 18446744073709551616) (z0 : 0 ≤ z) (zn : z < 18446744073709551616) (a0 : 0 ≤ a) (an : a < 18446744073709551616) :
    Calls Tryd.prog 9 #[.int .u64 c, .int .u64 z, .int .u64 a] w fun e w' => e = .returned (.string (endS c z a)) ∧ Below w.heap.size w w' := by
  obtain ⟨R, HR⟩ : ∃ R, R = endS c z a := ⟨_, rfl⟩
  rw [← HR]
  unfold endS at HR
  have B0 := Lib.hid (Below.refl w.heap.size w)
  by_cases hc : c < 4611686018427387904
  · by_cases hz : z < 4611686018427387904
    · by_cases ha : a < 4611686018427387904
      · have q1 : decide (4611686018427387904 ≤ c) = false := decide_eq_false (by omega)
        have q2 : decide (4611686018427387904 ≤ z) = false := decide_eq_false (by omega)
        have q3 : decide (4611686018427387904 ≤ a) = false := decide_eq_false (by omega)
        rw [if_pos ⟨hc, hz, ha⟩] at HR
        have e8 := puI_8
        have e4 := puI_4
        have e2 := puI_2
        have ev := verS_size
        have en := narS_size
        obtain ⟨b1, p1⟩ : ∃ b, decide (65534 < c) = b := ⟨_, rfl⟩
        obtain ⟨b2, p2⟩ : ∃ b, decide (4294967294 < z) = b := ⟨_, rfl⟩
        obtain ⟨b3, p3⟩ : ∃ b, decide (4294967294 < a) = b := ⟨_, rfl⟩
        obtain ⟨X, hX⟩ : ∃ X, X = (if (b1 || b2 || b3) then
      ⟨#[80, 75, 6, 6]⟩ ++ puI 44 8 ++ verS true ++ verS true ++ puI 0 8 ++ puI c 8 ++ puI c 8 ++ puI z 8 ++ puI a 8 ++ (⟨#[80, 75, 6, 7]⟩ ++ puI 0 4 ++ puI (a + z) 8 ++ puI 1 4)
    else ⟨#[]⟩) := ⟨_, rfl⟩
        have HR2 : R = X ++ ⟨#[80, 75, 5, 6]⟩ ++ puI 0 4 ++ puI (min c 65535) 2 ++ puI (min c 65535) 2 ++ narS z b2 ++ narS a b3 ++ puI 0 2 := by
          rw [HR, hX, ← p1, ← p2, ← p3]
          simp only [Bool.or_eq_true, decide_eq_true_eq, or_assoc]
        have hXs : X.size ≤ 1000 := by
          rw [hX]
          split
          · simp [ByteArray.size_append, puI_size, verS_size]
            decide
          · decide
        have H3 := Lib.hid HR2
        have HX := Lib.hid hX
        clear HR2 HR hX
        have hmk := make8
        have hln := lies8_new
        have hwr : IntKind.u64.wrap (a + z) = a + z := by rw [IntKind.wrap_u64]; omega
        have hcv := lies8_conv
        go_enter Tryd.func9, Tryd.ntmps9
        go_upto_region 4 with fail
        go_cut [30] from 21 to 30 (fun x wx => x = .bool (b1 || b2 || b3) ∧ wx = w)
        case first =>
          cases b1 <;> cases b2 <;> cases b3
          all_goals
            go_wp2
            go_meet
            exact ⟨rfl, rfl⟩
        case rest =>
          obtain ⟨rfl, rfl⟩ := hcut
          cases hb : (b1 || b2 || b3) with
          | true =>
            rw [hb, if_pos rfl] at HX
            go_upto_region 5 with fail
            go_cut [7] from 31 to 61 (fun x wx => x = .string X ∧ Below wc.heap.size wc wx)
            case first =>
              have hmk := make8
              have C0 : Below wc.heap.size wc wc.drew := (Below.refl _ _).drew
              clear B0 q1 q2 q3 p1 p2 p3 en ev H3 hln hcv hXs
              refine wp_region_any (by kernel_rfl) ?_
              refine Aw.wpAny_of_before (C := fun w => Below wc.heap.size wc w) (R := fun w w' => Below w.heap.size w w') (D := fun w wx => Below (w.alloc (.cells (madeCells #[.int .u8 0] 8) 5)).heap.size (w.alloc (.cells (madeCells #[.int .u8 0] 8) 5)) wx)
                (V := fun w => .slice (some ⟨w.heap.size, 0, none⟩) 8 8) (i0 := 6) (N := fun w => (w.alloc (.cells (madeCells #[.int .u8 0] 8) 5))) (Q := fun a' => ∀ wx, Below wc.heap.size wc wx → _) (fun w w' h hr => h.trans (hr.mono h.size)) rfl
                (fun a w hw => ⟨by kernel_rfl, by simp [execOp, Act.eval, hmk, go_sem], Below.refl _ _⟩)
                (fun w wx a hw hd hq => hq wx ((hw.alloc hw.size _).trans (hd.mono (hw.alloc hw.size _).size))) 32 _ _ _ C0 ?_
              refine Aw.before_num (fuel := 11) (fun w wx hw hd => (hw.alloc hw.size _).trans (hd.mono (hw.alloc hw.size _).size)) (fun w wx wy hd hr => hd.trans (hr.mono hd.size)) (by kernel_rfl) rfl (d0 := some 37) rfl [0, 1, 2, 3, 4, 5, 9, 10, 12, 13, 15, 16, 18, 19, 22, 24, 25, 26, 27, 29] _ _ (by decide) (by kernel_rfl) ?_
              refine ⟨_, _, some 31, rfl, rfl, Aw.sure_call (f := 24) (args := #[.int .u64 44, .int .i64 8]) (by kernel_rfl) (fun w => by simp [execOp, Act.eval, Act.put, go_sem, e8, e4, e2, hwr]) (fun w hw => refput_any 44 8 w (by omega) (by omega) (by omega) (by omega)), ?_⟩
              refine ⟨_, _, some 32, rfl, rfl, Aw.sure_val (v := .string (⟨#[80, 75, 6, 6]⟩ ++ puI 44 8)) (by kernel_rfl) (fun w => by simp [execOp, Act.eval, Act.put, go_sem, e8, e4, e2, hwr]), ?_⟩
              refine ⟨_, _, some 33, rfl, rfl, Aw.sure_call (f := 25) (args := #[.int .u64 45]) (by kernel_rfl) (fun w => by simp [execOp, Act.eval, Act.put, go_sem, e8, e4, e2, hwr]) (fun w hw => n2_calls 45 w (by omega) (by omega)), ?_⟩
              refine ⟨_, _, some 34, rfl, rfl, Aw.sure_val (v := .string (⟨#[80, 75, 6, 6]⟩ ++ puI 44 8 ++ puI 45 2)) (by kernel_rfl) (fun w => by simp [execOp, Act.eval, Act.put, go_sem, e8, e4, e2, hwr]), ?_⟩
              refine ⟨_, _, some 35, rfl, rfl, Aw.sure_call (f := 25) (args := #[.int .u64 45]) (by kernel_rfl) (fun w => by simp [execOp, Act.eval, Act.put, go_sem, e8, e4, e2, hwr]) (fun w hw => n2_calls 45 w (by omega) (by omega)), ?_⟩
              refine ⟨_, _, some 36, rfl, rfl, Aw.sure_val (v := .string (⟨#[80, 75, 6, 6]⟩ ++ puI 44 8 ++ puI 45 2 ++ puI 45 2)) (by kernel_rfl) (fun w => by simp [execOp, Act.eval, Act.put, go_sem, e8, e4, e2, hwr]), ?_⟩
              refine ⟨_, _, some 40, rfl, rfl, Aw.sure_val (v := .int .u64 c) (by kernel_rfl) (fun w => by simp [execOp, Act.eval, Act.put, go_sem, e8, e4, e2, hwr]), ?_⟩
              refine ⟨_, _, some 41, rfl, rfl, Aw.sure_call (f := 24) (args := #[.int .u64 c, .int .i64 8]) (by kernel_rfl) (fun w => by simp [execOp, Act.eval, Act.put, go_sem, e8, e4, e2, hwr]) (fun w hw => refput_any c 8 w (by omega) (by omega) (by omega) (by omega)), ?_⟩
              refine ⟨_, _, some 43, rfl, rfl, Aw.sure_val (v := .int .u64 c) (by kernel_rfl) (fun w => by simp [execOp, Act.eval, Act.put, go_sem, e8, e4, e2, hwr]), ?_⟩
              refine ⟨_, _, some 44, rfl, rfl, Aw.sure_call (f := 24) (args := #[.int .u64 c, .int .i64 8]) (by kernel_rfl) (fun w => by simp [execOp, Act.eval, Act.put, go_sem, e8, e4, e2, hwr]) (fun w hw => refput_any c 8 w (by omega) (by omega) (by omega) (by omega)), ?_⟩
              refine ⟨_, _, some 46, rfl, rfl, Aw.sure_val (v := .int .u64 z) (by kernel_rfl) (fun w => by simp [execOp, Act.eval, Act.put, go_sem, e8, e4, e2, hwr]), ?_⟩
              refine ⟨_, _, some 47, rfl, rfl, Aw.sure_call (f := 24) (args := #[.int .u64 z, .int .i64 8]) (by kernel_rfl) (fun w => by simp [execOp, Act.eval, Act.put, go_sem, e8, e4, e2, hwr]) (fun w hw => refput_any z 8 w (by omega) (by omega) (by omega) (by omega)), ?_⟩
              refine ⟨_, _, some 49, rfl, rfl, Aw.sure_val (v := .int .u64 a) (by kernel_rfl) (fun w => by simp [execOp, Act.eval, Act.put, go_sem, e8, e4, e2, hwr]), ?_⟩
              refine ⟨_, _, some 50, rfl, rfl, Aw.sure_call (f := 24) (args := #[.int .u64 a, .int .i64 8]) (by kernel_rfl) (fun w => by simp [execOp, Act.eval, Act.put, go_sem, e8, e4, e2, hwr]) (fun w hw => refput_any a 8 w (by omega) (by omega) (by omega) (by omega)), ?_⟩
              refine ⟨_, _, some 53, rfl, rfl, Aw.sure_call (f := 26) (args := #[.int .u64 0]) (by kernel_rfl) (fun w => by simp [execOp, Act.eval, Act.put, go_sem, e8, e4, e2, hwr]) (fun w hw => n4_calls 0 w (by omega) (by omega)), ?_⟩
              refine ⟨_, _, some 55, rfl, rfl, Aw.sure_val (v := .int .u64 a) (by kernel_rfl) (fun w => by simp [execOp, Act.eval, Act.put, go_sem, e8, e4, e2, hwr]), ?_⟩
              refine ⟨_, _, some 56, rfl, rfl, Aw.sure_val (v := .int .u64 z) (by kernel_rfl) (fun w => by simp [execOp, Act.eval, Act.put, go_sem, e8, e4, e2, hwr]), ?_⟩
              refine ⟨_, _, some 57, rfl, rfl, Aw.sure_val (v := .int .u64 (a + z)) (by kernel_rfl) (fun w => by simp [execOp, Act.eval, Act.put, go_sem, e8, e4, e2, hwr]), ?_⟩
              refine ⟨_, _, some 58, rfl, rfl, Aw.sure_call (f := 24) (args := #[.int .u64 (a + z), .int .i64 8]) (by kernel_rfl) (fun w => by simp [execOp, Act.eval, Act.put, go_sem, e8, e4, e2, hwr]) (fun w hw => refput_any (a + z) 8 w (by omega) (by omega) (by omega) (by omega)), ?_⟩
              refine ⟨_, _, some 60, rfl, rfl, Aw.sure_call (f := 26) (args := #[.int .u64 1]) (by kernel_rfl) (fun w => by simp [execOp, Act.eval, Act.put, go_sem, e8, e4, e2, hwr]) (fun w hw => n4_calls 1 w (by omega) (by omega)), ?_⟩
              intro w0 hw0
              refine Aw.quiet_num (by kernel_rfl) [7, 8, 11, 14, 17, 20, 21, 23, 28, 30, 31] _ _ (by kernel_rfl) ?_
              refine ⟨_, _, some 38, rfl, rfl, Aw.yin_val (v := .string (puI 0 8)) (by kernel_rfl) (fun w hd => by have hx := lies8_conv _ _ ((lies8_new w0).below hd); simp [execOp, Act.eval, Act.put, go_sem, hx]), ?_⟩
              refine ⟨_, _, some 39, rfl, rfl, Aw.yin_val (v := .string (⟨#[80, 75, 6, 6]⟩ ++ puI 44 8 ++ puI 45 2 ++ puI 45 2 ++ puI 0 8)) (by kernel_rfl) (fun w hd => by simp [execOp, Act.eval, Act.put, go_sem, e8, e4, e2, hwr]), ?_⟩
              refine ⟨_, _, some 42, rfl, rfl, Aw.yin_val (v := .string (⟨#[80, 75, 6, 6]⟩ ++ puI 44 8 ++ puI 45 2 ++ puI 45 2 ++ puI 0 8 ++ puI c 8)) (by kernel_rfl) (fun w hd => by simp [execOp, Act.eval, Act.put, go_sem, e8, e4, e2, hwr]), ?_⟩
              refine ⟨_, _, some 45, rfl, rfl, Aw.yin_val (v := .string (⟨#[80, 75, 6, 6]⟩ ++ puI 44 8 ++ puI 45 2 ++ puI 45 2 ++ puI 0 8 ++ puI c 8 ++ puI c 8)) (by kernel_rfl) (fun w hd => by simp [execOp, Act.eval, Act.put, go_sem, e8, e4, e2, hwr]), ?_⟩
              refine ⟨_, _, some 48, rfl, rfl, Aw.yin_val (v := .string (⟨#[80, 75, 6, 6]⟩ ++ puI 44 8 ++ puI 45 2 ++ puI 45 2 ++ puI 0 8 ++ puI c 8 ++ puI c 8 ++ puI z 8)) (by kernel_rfl) (fun w hd => by simp [execOp, Act.eval, Act.put, go_sem, e8, e4, e2, hwr]), ?_⟩
              refine ⟨_, _, some 51, rfl, rfl, Aw.yin_val (v := .string (⟨#[80, 75, 6, 6]⟩ ++ puI 44 8 ++ puI 45 2 ++ puI 45 2 ++ puI 0 8 ++ puI c 8 ++ puI c 8 ++ puI z 8 ++ puI a 8)) (by kernel_rfl) (fun w hd => by simp [execOp, Act.eval, Act.put, go_sem, e8, e4, e2, hwr]), ?_⟩
              refine ⟨_, _, some 52, rfl, rfl, Aw.yin_val (v := .string (⟨#[80, 75, 6, 6]⟩ ++ puI 44 8 ++ puI 45 2 ++ puI 45 2 ++ puI 0 8 ++ puI c 8 ++ puI c 8 ++ puI z 8 ++ puI a 8 ++ ⟨#[80, 75, 6, 7]⟩)) (by kernel_rfl) (fun w hd => by simp [execOp, Act.eval, Act.put, go_sem, e8, e4, e2, hwr]), ?_⟩
              refine ⟨_, _, some 54, rfl, rfl, Aw.yin_val (v := .string (⟨#[80, 75, 6, 6]⟩ ++ puI 44 8 ++ puI 45 2 ++ puI 45 2 ++ puI 0 8 ++ puI c 8 ++ puI c 8 ++ puI z 8 ++ puI a 8 ++ ⟨#[80, 75, 6, 7]⟩ ++ puI 0 4)) (by kernel_rfl) (fun w hd => by simp [execOp, Act.eval, Act.put, go_sem, e8, e4, e2, hwr]), ?_⟩
              refine ⟨_, _, some 59, rfl, rfl, Aw.yin_val (v := .string (⟨#[80, 75, 6, 6]⟩ ++ puI 44 8 ++ puI 45 2 ++ puI 45 2 ++ puI 0 8 ++ puI c 8 ++ puI c 8 ++ puI z 8 ++ puI a 8 ++ ⟨#[80, 75, 6, 7]⟩ ++ puI 0 4 ++ puI (a + z) 8)) (by kernel_rfl) (fun w hd => by simp [execOp, Act.eval, Act.put, go_sem, e8, e4, e2, hwr]), ?_⟩
              refine ⟨_, _, some 61, rfl, rfl, Aw.yin_val (v := .string (⟨#[80, 75, 6, 6]⟩ ++ puI 44 8 ++ puI 45 2 ++ puI 45 2 ++ puI 0 8 ++ puI c 8 ++ puI c 8 ++ puI z 8 ++ puI a 8 ++ ⟨#[80, 75, 6, 7]⟩ ++ puI 0 4 ++ puI (a + z) 8 ++ puI 1 4)) (by kernel_rfl) (fun w hd => by simp [execOp, Act.eval, Act.put, go_sem, e8, e4, e2, hwr]), ?_⟩
              refine ⟨_, _, some 7, rfl, rfl, Aw.yin_val (v := .string (⟨#[80, 75, 6, 6]⟩ ++ puI 44 8 ++ puI 45 2 ++ puI 45 2 ++ puI 0 8 ++ puI c 8 ++ puI c 8 ++ puI z 8 ++ puI a 8 ++ ⟨#[80, 75, 6, 7]⟩ ++ puI 0 4 ++ puI (a + z) 8 ++ puI 1 4)) (by kernel_rfl) (fun w hd => by simp [execOp, Act.eval, Act.put, go_sem, e8, e4, e2, hwr]), ?_⟩
              intro wx hwx
              have Bx := Lib.hid hwx
              clear hwx
              simp only [Act.put]
              simp only [List.setIfInBounds_toArray, List.set_cons_succ, List.set_cons_zero]
              go_wp2_with fail
              go_meet
              refine ⟨?_, Bx.out⟩
              rw [HX.out]
              simp only [ByteArray.append_assoc]
              rfl
            case rest =>
              obtain ⟨rfl, hbw0⟩ := hcut
              have hbw := Lib.hid hbw0
              have hbb := hb
              clear hbw0
              have hb' := hbw
              clear hbw
              have ff : puI 4294967295 4 = ⟨#[255, 255, 255, 255]⟩ := by decide
              cases b1 <;> cases b2 <;> cases b3
              all_goals first
                | exact absurd hbb (by decide)
                | (have hc1 := p1; simp at hc1
                   go_wp2_with (first | (go_at_call 25; refine (n2_calls _ _ (by omega) (by omega)).mono ?_; rintro e w1 ⟨rfl, hb⟩; replace hb' := Lib.hid (hb'.out.trans (hb.mono hb'.out.size)); clear hb) | (go_at_call 26; refine (n4_calls _ _ (by omega) (by omega)).mono ?_; rintro e w1 ⟨rfl, hb⟩; replace hb' := Lib.hid (hb'.out.trans (hb.mono hb'.out.size)); clear hb))
                   go_ret
                   refine ⟨?_, hb'.out⟩
                   rw [H3.out]
                   first | (have e : min c 65535 = 65535 := by omega); rw [e]; simp [ByteArray.append_assoc, narS, ff]; done | (have e : min c 65535 = c := by omega); rw [e]; simp [ByteArray.append_assoc, narS, ff]; done)
          | false =>
            rw [hb, if_neg Bool.false_ne_true] at HX
            have hX0 := HX.out
            subst hX0
            have hbw := Lib.hid (Below.refl wc.heap.size wc)
            have hbb := hb
            have hb' := hbw
            clear hbw
            have ff : puI 4294967295 4 = ⟨#[255, 255, 255, 255]⟩ := by decide
            cases b1 <;> cases b2 <;> cases b3
            all_goals first
              | exact absurd hbb (by decide)
              | (have hc1 := p1; simp at hc1
                 go_wp2_with (first | (go_at_call 25; refine (n2_calls _ _ (by omega) (by omega)).mono ?_; rintro e w1 ⟨rfl, hb⟩; replace hb' := Lib.hid (hb'.out.trans (hb.mono hb'.out.size)); clear hb) | (go_at_call 26; refine (n4_calls _ _ (by omega) (by omega)).mono ?_; rintro e w1 ⟨rfl, hb⟩; replace hb' := Lib.hid (hb'.out.trans (hb.mono hb'.out.size)); clear hb))
                 go_ret
                 refine ⟨?_, hb'.out⟩
                 rw [H3.out]
                 first | (have e : min c 65535 = 65535 := by omega); rw [e]; simp [ByteArray.append_assoc, narS, ff]; done | (have e : min c 65535 = c := by omega); rw [e]; simp [ByteArray.append_assoc, narS, ff]; done)
      · have q1 : decide (4611686018427387904 ≤ c) = false := decide_eq_false (by omega)
        have q2 : decide (4611686018427387904 ≤ z) = false := decide_eq_false (by omega)
        have q3 : decide (4611686018427387904 ≤ a) = true := decide_eq_true (by omega)
        rw [if_neg (by omega)] at HR
        clear hc hz ha
        go_enter Tryd.func9, Tryd.ntmps9
        go_wp2
        go_ret
        exact ⟨by rw [HR]; rfl, B0.out⟩
    · have q1 : decide (4611686018427387904 ≤ c) = false := decide_eq_false (by omega)
      have q2 : decide (4611686018427387904 ≤ z) = true := decide_eq_true (by omega)
      rw [if_neg (by omega)] at HR
      clear hc hz
      go_enter Tryd.func9, Tryd.ntmps9
      go_wp2
      go_ret
      exact ⟨by rw [HR]; rfl, B0.out⟩
  · have q1 : decide (4611686018427387904 ≤ c) = true := decide_eq_true (by omega)
    rw [if_neg (by omega)] at HR
    clear hc
    go_enter Tryd.func9, Tryd.ntmps9
    go_wp2
    go_ret
    exact ⟨by rw [HR]; rfl, B0.out⟩
end Go.Proofs.YtehhoigedniglaaDoor.Zp
