/-
  NameLong's walk: a text of 65530 to 65537 letters is a name just where it has at most 65535.
-/
import Derived.Test.YtndfffningdcgaaDoorNmChecksWalk
import Derived.Laws.BytesArg
import Derived.Laws.MakeOwn
import Derived.Laws.Rows
namespace Go.Proofs.YtndfffningdcgaaDoor.Nm
open Go.RowKit Go.Shelf
set_option linter.unusedVariables false
set_option linter.unusedSimpArgs false

theorem plain_good_name (s : ByteArray) (h : ∀ i, i < s.size → 97 ≤ byt s i ∧ byt s i ≤ 112) : ∀ f i, goodGo f s i = true
  | 0, i => rfl
  | f + 1, i => by
    unfold goodGo
    by_cases hi : i < s.size
    · have hb := h i hi
      have hd := dec1 s i (by omega)
      have ho : okSign s i = true := by
        unfold okSign oddR
        rw [hd]
        simp only [Bool.and_eq_true, Bool.not_eq_true', decide_eq_false_iff_not, Prod.mk.injEq, Bool.or_eq_false_iff]
        omega
      rw [if_pos hi, if_pos ho]
      exact plain_good_name s h f _
    · rw [if_neg hi]

theorem rep_byte (N : Nat) (v : Int) (i : Nat) (hi : i < N) : byt (strOfNums (List.replicate N v)) i = (UInt8.ofNat v.toNat).toNat := by
  have hsz : (strOfNums (List.replicate N v)).size = N := by rw [strOfNums_size, List.length_replicate]
  rw [byt_at _ _ (by omega)]
  have e : (strOfNums (List.replicate N v))[i]'(by omega) = UInt8.ofNat v.toNat := by
    simp [strOfNums, ByteArray.getElem_eq_getElem_data]
  rw [e]

theorem rep_check (N : Nat) (v : Int) (h0 : 97 ≤ v) (h1 : v ≤ 112) (hN : 3 ≤ N) : checkB (strOfNums (List.replicate N v)) = decide (N ≤ 65535) := by
  have hsz : (strOfNums (List.replicate N v)).size = N := by rw [strOfNums_size, List.length_replicate]
  have hv : (UInt8.ofNat v.toNat).toNat = v.toNat := by
    rw [UInt8.toNat_ofNat']
    omega
  have hg : goodB (strOfNums (List.replicate N v)) = true := plain_good_name _ (fun i hi => by
    rw [rep_byte N v i (by omega), hv]
    omega) _ _
  have hl : (strOfNums (List.replicate N v)).toList = List.replicate N (UInt8.ofNat v.toNat) := by
    rw [Lib.toList_data, strOfNums_data, List.map_replicate]
  have hc : chk [] (strOfNums (List.replicate N v)).toList = true := by
    rw [hl]
    unfold chk
    rw [splitGo_none]
    · obtain ⟨m, rfl⟩ : ∃ m, N = m + 3 := ⟨N - 3, by omega⟩
      simp [goodPart, List.replicate_succ]
    · intro k hk
      obtain ⟨hk1, hk2⟩ := List.getElem?_eq_some_iff.1 hk
      simp only [List.getElem_replicate] at hk2
      have := congrArg UInt8.toNat hk2
      rw [hv] at this
      have e : (47 : UInt8).toNat = 47 := rfl
      omega
  unfold checkB
  rw [hsz, hg, hc]
  have : decide (1 ≤ N) = true := decide_eq_true (by omega)
  rw [this]
  simp

theorem and7_range (a : Int) : 0 ≤ Go.bits .and .i64 a 7 ∧ Go.bits .and .i64 a 7 ≤ 7 := by
  have h : ((BitVec.ofInt 64 a &&& BitVec.ofInt 64 7).toNat) ≤ 7 := by
    rw [BitVec.toNat_and]
    exact Nat.le_trans Nat.and_le_right (by decide)
  have e : Go.bits .and .i64 a 7 = IntKind.i64.wrap ((BitVec.ofInt 64 a &&& BitVec.ofInt 64 7).toNat : Int) := rfl
  rw [e, IntKind.wrap_i64]
  omega

theorem and15_range (a : Int) : 0 ≤ Go.bits .and .u8 a 15 ∧ Go.bits .and .u8 a 15 ≤ 15 := by
  have h : ((BitVec.ofInt 8 a &&& BitVec.ofInt 8 15).toNat) ≤ 15 := by
    rw [BitVec.toNat_and]
    exact Nat.le_trans Nat.and_le_right (by decide)
  have e : Go.bits .and .u8 a 15 = IntKind.u8.wrap ((BitVec.ofInt 8 a &&& BitVec.ofInt 8 15).toNat : Int) := rfl
  rw [e, IntKind.wrap_u8]
  omega

theorem Tryd.infoByte : (Tryd.prog.info? 5).map (fun i => (i.zero, i.size, i.bytes)) = some (some (.int .u8 0), 1, 1) := by kernel_rfl

set_option maxHeartbeats 1000000 in
set_option maxRecDepth 100000 in
theorem long_walk (n0 c : Int) (w : World) (wn : (Lit.int .i64 n0).wf = true) (wc : (Lit.int .u8 c).wf = true) (hT : Tabs w) :
    Calls Tryd.prog 3 #[.int .i64 n0, .int .u8 c] w fun e w' => e = .returned (.bool true) ∧ Below w.heap.size w w' := by
  have r7 := and7_range n0
  have r15 := and15_range c
  obtain ⟨N, hN⟩ : ∃ N : Nat, wrap64 (65530 + Go.bits .and .i64 n0 7) = N := ⟨(65530 + Go.bits .and .i64 n0 7).toNat, by unfold wrap64; omega⟩
  obtain ⟨v, hv⟩ : ∃ v : Int, (97 + Go.bits .and .u8 c 15) % 256 = v := ⟨_, rfl⟩
  have hN0 : 65530 ≤ N ∧ N ≤ 65537 := by unfold wrap64 at hN; omega
  have hv0 : 97 ≤ v ∧ v ≤ 112 := by omega
  obtain ⟨i0, hi, hz0, hz1, hz2⟩ := info_parts Tryd.infoByte
  have hmk : ∀ W : World, (Instr.makeSlice 23 (.int .i64 N) (.int .i64 N)).run Tryd.prog W = .ok (.slice (some ⟨W.heap.size, 0, none⟩) N N) (W.alloc (.cells (madeCells #[.int .u8 0] N) 5)) := fun W => by
    have := run_make (P := Tryd.prog) W 23 5 i0 (.int .u8 0) Tryd.underlying23 hi hz0 .i64 .i64 N N (by omega) (by omega) (by rw [hz2]; omega) (by omega)
    simpa [hz1, Value.cells] using this
  have B0 := Lib.hid (Below.refl w.heap.size w)
  clear r7 r15 wn wc hi hz0 hz1 hz2
  go_enter Tryd.func3, Tryd.ntmps3
  go_wp2_with (first | (go_at_call 8; refine (speaks_calls _ hT).mono ?_; rintro e w1 ⟨rfl, hb⟩; have hT1 := Tabs.below hT hb; replace B0 := Lib.hid (B0.out.trans (hb.mono B0.out.size)); clear hb))
  have Hmk := Lib.hid hmk
  clear hmk
  have L0 : (w1.alloc (.cells (madeCells #[.int .u8 0] N) 5)).heap[w1.heap.size]? = some (.cells (madeCells #[.int .u8 0] N) 5 (0, 0)) := World.alloc_heap_new _ _
  have B1 : Hid (Below w.heap.size w (w1.alloc (.cells (madeCells #[.int .u8 0] N) 5))) := Lib.hid (B0.out.alloc B0.out.size _)
  have hz : (madeCells #[.int .u8 0] N).size = N := size_madeCells _ _
  have LH := Lib.hid L0
  have ZH := Lib.hid hz
  have SZ := B0.out.size
  have TH : Hid (∀ wx, Below w.heap.size w wx → Tabs wx) := Lib.hid (fun wx h => hT.below h)
  clear L0 hz hT hT1
  go_loopw [6] (fun i wr => ∃ (k : Nat) (cs : Array Value), k ≤ N ∧ i = .int .i64 k ∧ wr.heap[w1.heap.size]? = some (.cells cs 5 (0, 0)) ∧ cs.size = N ∧ (∀ j, j < k → cs[j]? = some (.int .u8 v)) ∧ Below w.heap.size w wr) (fun i _ => N - (intOf i).toNat)
  case atStart => exact ⟨0, _, Nat.zero_le _, rfl, LH.out, ZH.out, fun j h => by omega, B1.out⟩
  case round =>
    obtain ⟨k, cs, hk, rfl, hcs, hsz, hj, hb⟩ := hrel
    have HC := Lib.hid hcs
    have HZ := Lib.hid hsz
    have HJ := Lib.hid hj
    have HB := Lib.hid hb
    clear hcs hsz hj hb
    by_cases hlt : k < N
    · have hcell : wr.cell? ⟨w1.heap.size, k, none⟩ = some (cs[k]'(by rw [HZ.out]; exact hlt)) := by
        simp only [World.cell?]
        rw [HC.out]
        simp only [Option.isSome_none, Bool.false_eq_true, if_false]
        exact Array.getElem?_eq_getElem _
      have hfr : wr.frozen? ⟨w1.heap.size, k, none⟩ = false := by
        simp only [World.frozen?]
        rw [HC.out]
        simp
      go_wp2
      go_roundw
      case rel => exact ⟨k + 1, cs.setIfInBounds k (.int .u8 v), by omega, by go_num, heap_setCell_same _ _ _ _ _ _ HC.out, by rw [Array.size_setIfInBounds]; exact HZ.out, fun j h => by
        rw [Array.getElem?_setIfInBounds]
        by_cases e : k = j
        · rw [if_pos e, if_pos (by rw [HZ.out]; exact hlt)]
        · rw [if_neg e]; exact HJ.out j (by omega), HB.out.setCell (by simp; omega) _⟩
      case measure => simp [intOf]; omega
    · have hkN : k = N := by omega
      have HK := Lib.hid hkN
      have hcell : ∀ i, i < N → wr.cell? ⟨w1.heap.size, 0 + i, none⟩ = some (.int .u8 ((List.replicate N v).getD i 0)) := fun i hi => by
        simp only [World.cell?]
        rw [HC.out]
        simp only [Nat.zero_add, Option.isSome_none, Bool.false_eq_true, if_false]
        rw [HJ.out i (by omega)]
        simp [List.getD_eq_getElem?_getD, List.getElem?_replicate, hi]
      have hconv := run_convert_bytes_arg (P := Tryd.prog) (w := wr) 23 5 Tryd.underlying23 Tryd.underlying5 w1.heap.size 0 N N (List.replicate N v) (by simp) hcell 9 Tryd.underlying9
      have hsz : (strOfNums (List.replicate N v)).size = N := by rw [strOfNums_size, List.length_replicate]
      have HS := Lib.hid hsz
      have e1 := Lib.hid (rep_check N v hv0.1 hv0.2 (by omega))
      have hTr := TH.out wr HB.out
      have v0 : errN true = 0 := rfl
      have v1 : errN false = 9 := rfl
      clear hkN hcell hsz
      generalize strOfNums (List.replicate N v) = t at *
      by_cases h5 : N ≤ 65535
      · have q : decide ((N : Int) ≤ 65535) = true := decide_eq_true (by omega)
        have e2 : checkB t = true := by rw [e1.out]; exact decide_eq_true h5
        go_wp2_with (go_at_call 9; refine (check_calls _ _ (by rw [HS.out]; omega) (by assumption)).mono ?_; rintro e w3 ⟨rfl, hb⟩; replace HB := Lib.hid (HB.out.trans (hb.mono HB.out.size)); clear hb)
        go_ret
        exact ⟨by simp, HB.out⟩
      · have q : decide ((N : Int) ≤ 65535) = false := decide_eq_false (by omega)
        have e2 : checkB t = false := by rw [e1.out]; exact decide_eq_false h5
        go_wp2_with (go_at_call 9; refine (check_calls _ _ (by rw [HS.out]; omega) (by assumption)).mono ?_; rintro e w3 ⟨rfl, hb⟩; replace HB := Lib.hid (HB.out.trans (hb.mono HB.out.size)); clear hb)
        go_ret
        exact ⟨by simp, HB.out⟩

end Go.Proofs.YtndfffningdcgaaDoor.Nm
