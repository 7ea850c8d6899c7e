/-
  block.coder.head: the head of a Dynamic block.
-/
import Derived.Test.YtmpokiflhijnoaaGreatDoorBkDyn
namespace Go.Proofs.YtmpokiflhijnoaaGreatDoor.Bk
open Go.RowKit Go.Shelf Go.Proofs.YtmpokiflhijnoaaGreatDoor.Mg Go.Proofs.YtmpokiflhijnoaaGreatDoor.Bw Go.Proofs.YtmpokiflhijnoaaGreatDoor.Ri
set_option linter.unusedVariables false
set_option linter.unusedSimpArgs false

set_option maxRecDepth 100000 in
theorem lengthsof_calls (b g : Nat) (ls : List Int) (w : World) (h : CanonAt w b g ls) (hl : ls.length ≤ 288) :
    Calls Tryz.prog 67 #[.pointer (some ⟨g, 0, none⟩)] w fun e w' => ∃ gl cap, e = .returned (.slice (some ⟨gl, 0, none⟩) ls.length cap) ∧ w.heap.size ≤ gl ∧ Reads w' (some ⟨gl, 0, none⟩) ls ∧ (∃ cur, w'.heap[gl]? = some (.cells cur 3 (0, 0))) ∧ Below w.heap.size w w' := by
  obtain ⟨gl, cap, Wb, sv, f, hc, -, -, hr, -⟩ := h.ex
  obtain ⟨x0, x1, x18, -⟩ := hc.cell
  have HC := Lib.hid (clonex_calls gl 0 ls.length cap ls w rfl hl (fun j hj => by rw [Nat.zero_add]; exact hr j hj))
  clear hc hr h x1 x18
  generalize ls.length = n at *
  go_enter Tryz.func67, Tryz.ntmps67
  go_wp2_with fail
  refine HC.out.mono ?_
  rintro e w1 ⟨g2, c2, rfl, h1, h2, h3, h4, h5, h6⟩
  have H1 := Lib.hid (⟨h1, h3, h4, h6⟩ : _ ∧ _ ∧ _ ∧ _)
  clear h1 h2 h3 h4 h5 h6
  go_wp2
  go_ret
  exact ⟨g2, c2, rfl, H1.out.1, H1.out.2.1, H1.out.2.2.1, H1.out.2.2.2⟩

/-- A row of another kind stays where a Writer writes. -/
theorem rd_wrote {B o base : Nat} {v v' : Value} {w W : World} {bs : List Bool} {T : TypeId} {size n g c : Nat} {xs : List Value} (h : Wrote B o v w v' W) (hw : WAt w base B o v bs) (hr : Rd w T size (.slice (some ⟨g, 0, none⟩) n c) n xs) (hB : g ≠ B) (hT : T ≠ 5) : Rd W T size (.slice (some ⟨g, 0, none⟩) n c) n xs := by
  obtain ⟨h1, g', o', c', cur, fr, h2, h3, h4, h5⟩ := hr
  cases h2
  exact ⟨h1, g, 0, c, cur, fr, rfl, h3, wrote_block h hw h4 hB hT, h5⟩
theorem dyn_wrote {B o base b g : Nat} {v v' : Value} {w W : World} {bs : List Bool} {ts : List Tok} (h : Wrote B o v w v' W) (hw : WAt w base B o v bs) (hB : B < b) (hd : DynAt w b g ts) : DynAt W b g ts := by
  obtain ⟨gs, gd, gt, gT, cT, h1, h2, h3, h4, h5, h6, h7⟩ := hd.ex
  exact ⟨gs, gd, gt, gT, cT, wrote_block h hw h1 (by omega) (by decide), wrote_canon h hw hB h2, wrote_canon h hw hB h3, wrote_canon h hw hB h4, rd_wrote h hw h5 (by omega) (by decide), h6, h7⟩
theorem ord_wrote {B o base : Nat} {v v' : Value} {w W : World} {bs : List Bool} (h : Wrote B o v w v' W) (hw : WAt w base B o v bs) (hO : OrdT w) (h1 : 1 < base) (h2 : 1 ≠ B) : OrdT W := by
  obtain ⟨cs, t, fr, h3, h4⟩ := hO
  exact ⟨cs, t, fr, (h.block _ (Array.getElem?_eq_some_iff.1 h3).1 h2 (fun e => by have := (hw.ge.2.1 _ e).1; omega)).trans h3, h4⟩

def headN (a d c : Nat) : Nat := (a - 257) + (d - 1) * 32 + (c - 4) * 1024
def tellB (z : List Int) (i : Nat) : List Bool := bitsN 3 (z.getD (ordT.getD i 0) 0).toNat
def tellsB (z : List Int) (c : Nat) : List Bool := (List.range c).flatMap (tellB z)
def exB (z : List Int) (x : Ex) : List Bool := wordB z x.sym.toNat ++ bitsN x.bits x.val
def exsB (z : List Int) (l : List Ex) : List Bool := l.flatMap (exB z)
def headB (ts : List Tok) : List Bool := bitsN 14 (headN (lsD ts).length (dsD ts).length (tellC (tellD ts))) ++ tellsB (tellD ts) (tellC (tellD ts)) ++ exsB (tellD ts) (toldD ts)
theorem tellsB_succ (z : List Int) (k : Nat) : tellsB z (k + 1) = tellsB z k ++ tellB z k := by
  unfold tellsB
  rw [List.range_succ, List.flatMap_append]
  simp
theorem exsB_take (z : List Int) (l : List Ex) (k : Nat) (h : k < l.length) : exsB z (l.take (k + 1)) = exsB z (l.take k) ++ exB z l[k] := by
  rw [List.take_succ_eq_append_getElem h]
  unfold exsB
  rw [List.flatMap_append]
  simp
theorem tellsB_len (z : List Int) : ∀ k, (tellsB z k).length = 3 * k
  | 0 => rfl
  | k + 1 => by
    rw [tellsB_succ, List.length_append, tellsB_len z k]
    unfold tellB
    rw [bitsN_len]
    omega
theorem exsB_len (z : List Int) : ∀ l : List Ex, (∀ x ∈ l, exOk x) → (exsB z l).length ≤ 22 * l.length
  | [], _ => Nat.le_refl _
  | x :: l, h => by
    have ih := exsB_len z l (fun y hy => h y (List.mem_cons_of_mem _ hy))
    have h1 := wordB_le z x.sym.toNat
    have h2 := (h x List.mem_cons_self).2.2.1
    have e : exsB z (x :: l) = exB z x ++ exsB z l := by simp [exsB]
    rw [e, List.length_append, List.length_cons]
    unfold exB
    rw [List.length_append, bitsN_len]
    omega
theorem or_nat (x y : Nat) (hx : x < 18446744073709551616) (hy : y < 18446744073709551616) : Go.bits .or .u64 (x : Int) (y : Int) = ((x ||| y : Nat) : Int) := by
  have e : Go.bits .or .u64 (x : Int) (y : Int) = IntKind.u64.wrap ((BitVec.ofInt 64 (x : Int) ||| BitVec.ofInt 64 (y : Int)).toNat : Int) := rfl
  have hlt : x ||| y < 2 ^ 64 := Nat.or_lt_two_pow (by omega) (by omega)
  rw [e, BitVec.toNat_or]
  have b1 : (BitVec.ofInt 64 (x : Int)).toNat = x := by simp only [BitVec.toNat_ofInt]; omega
  have b2 : (BitVec.ofInt 64 (y : Int)).toNat = y := by simp only [BitVec.toNat_ofInt]; omega
  rw [b1, b2, IntKind.wrap_u64]
  omega
theorem head_eq (a d c : Nat) (h1 : 257 ≤ a ∧ a ≤ 286) (h2 : 1 ≤ d ∧ d ≤ 30) (h3 : 4 ≤ c ∧ c ≤ 19) :
    Go.bits .or .u64 (Go.bits .or .u64 ((a : Int) - 257) (((d : Int) - 1) * 32)) (((c : Int) - 4) * 1024) = ((headN a d c : Nat) : Int) := by
  have e1 : (a : Int) - 257 = ((a - 257 : Nat) : Int) := by omega
  have e2 : ((d : Int) - 1) * 32 = (((d - 1) * 2 ^ 5 : Nat) : Int) := by omega
  have e3 : ((c : Int) - 4) * 1024 = (((c - 4) * 2 ^ 10 : Nat) : Int) := by omega
  have k1 : (a - 257) ||| ((d - 1) * 2 ^ 5) = (a - 257) + (d - 1) * 2 ^ 5 := nat_or_add _ _ _ (by omega)
  have k2 : ((a - 257) + (d - 1) * 2 ^ 5) ||| ((c - 4) * 2 ^ 10) = (a - 257) + (d - 1) * 2 ^ 5 + (c - 4) * 2 ^ 10 := nat_or_add _ _ _ (by omega)
  rw [e1, e2, e3, or_nat _ _ (by omega) (by omega), k1, or_nat _ _ (by omega) (by omega), k2]
  unfold headN
  rfl

set_option maxHeartbeats 8000000 in
set_option maxRecDepth 100000 in
theorem head_calls (b g base B o : Nat) (v : Value) (bs : List Bool) (ts : List Tok) (w : World) (hd : DynAt w b g ts) (hw : WAt w base B o v bs) (hB : B < b) (hn : ts.length ≤ 1000000) (hO : OrdT w) (hO1 : 1 < base) (hO2 : 1 ≠ B) (hbs : bs.length ≤ 100000000000) :
    Calls Tryz.prog 39 #[.pointer (some ⟨g, 0, none⟩), .pointer (some ⟨B, o, none⟩)] w fun e w' => e = .returned (.tuple #[]) ∧ ∃ v', WAt w' base B o v' (bs ++ headB ts) ∧ Wrote B o v w v' w' := by
  obtain ⟨gs, gd, gt, gT, cT, hg, -, -, hct, hrT, hbg, hbT⟩ := hd.ex
  have hl1 := lsD_len ts
  have hl2 := dsD_len ts
  have hc4 := tellGo_ge (tellD ts) 19 (by omega)
  have hc19 := tellGo_le (tellD ts) 19
  have HTO := Lib.hid (told_ok ts hn)
  have HZL := Lib.hid (tellD_len ts)
  have HZI := Lib.hid (tellD_in ts hn)
  have HLB : Hid (∀ k, (exsB (tellD ts) ((toldD ts).take k)).length ≤ 22 * 316) := Lib.hid (fun k => by
    have h1 := exsB_len (tellD ts) ((toldD ts).take k) (fun x hx => HTO.out.1 x (List.mem_of_mem_take hx))
    have h2 : ((toldD ts).take k).length ≤ 316 := Nat.le_trans (by rw [List.length_take]; exact Nat.min_le_right _ _) HTO.out.2.1
    omega)
  obtain ⟨a, ha⟩ : ∃ a, (lsD ts).length = a := ⟨_, rfl⟩
  obtain ⟨d, hd2⟩ : ∃ d, (dsD ts).length = d := ⟨_, rfl⟩
  obtain ⟨c, hcc⟩ : ∃ c, tellC (tellD ts) = c := ⟨_, rfl⟩
  obtain ⟨nT, hnT⟩ : ∃ nT, (toldD ts).length = nT := ⟨_, rfl⟩
  have hHB : headB ts = bitsN 14 (headN a d c) ++ tellsB (tellD ts) c ++ exsB (tellD ts) (toldD ts) := by unfold headB; rw [ha, hd2, hcc]
  rw [hHB]
  have hcc' : tellGo (tellD ts) 19 = c := hcc
  rw [hcc'] at hc4 hc19
  have ha1 : 257 ≤ a ∧ a ≤ 286 := by omega
  have hd1 : 1 ≤ d ∧ d ≤ 30 := by omega
  have hnT1 : nT ≤ 316 := by rw [← hnT]; exact HTO.out.2.1
  rw [ha, hd2, hcc, hnT] at hg
  rw [hnT] at hrT
  have HNT := Lib.hid hnT
  have HHE := Lib.hid (head_eq a d c ha1 hd1 ⟨hc4, hc19⟩)
  have hhl : headN a d c < 18446744073709551616 := by unfold headN; omega
  obtain ⟨N, hN⟩ : ∃ N, headN a d c = N := ⟨_, rfl⟩
  rw [hN] at hhl HHE ⊢
  clear hcc hcc' ha hd2 hnT hHB hl1 hl2 hN
  have HW0 := Lib.hid hw
  have R0 := Lib.hid (Wrote.refl B o v w)
  have HGW : Hid (∀ W v', Wrote B o v w v' W → W.heap[g]? = some (.cells #[.pointer (some ⟨gs, 0, none⟩), .pointer (some ⟨gd, 0, none⟩), .pointer (some ⟨gt, 0, none⟩), .slice (some ⟨gT, 0, none⟩) nT cT, .int .i64 a, .int .i64 d, .int .i64 c] 111 (0, 0))) := Lib.hid (fun W v' h => wrote_block h hw hg (by omega) (by decide))
  have HCT : Hid (∀ W v', Wrote B o v w v' W → CanonAt W b gt (tellD ts)) := Lib.hid (fun W v' h => wrote_canon h hw hB hct)
  have HRT : Hid (∀ W v', Wrote B o v w v' W → Rd W 116 3 (.slice (some ⟨gT, 0, none⟩) nT cT) nT (exsC (toldD ts))) := Lib.hid (fun W v' h => rd_wrote h hw hrT (by omega) (by decide))
  have HOW : Hid (∀ W v', Wrote B o v w v' W → OrdT W) := Lib.hid (fun W v' h => ord_wrote h hw hO hO1 hO2)
  obtain ⟨k4, l4⟩ := cell_at hg 4 _ rfl
  obtain ⟨k5, l5⟩ := cell_at hg 5 _ rfl
  obtain ⟨k6, l6⟩ := cell_at hg 6 _ rfl
  clear hct hrT hO hw hd hg l4 l5 l6
  have a1 : (257 : Int) ≤ (a : Int) := by omega
  have a2 : (a : Int) ≤ 286 := by omega
  have d1 : (1 : Int) ≤ (d : Int) := by omega
  have d2 : (d : Int) ≤ 30 := by omega
  have c1 : (4 : Int) ≤ (c : Int) := by omega
  have c2 : (c : Int) ≤ 19 := by omega
  go_enter Tryz.func39, Tryz.ntmps39
  go_upto_region 0 with fail
  go_still_tail 23, (by kernel_rfl)
  change wpList _ _ _ _ _ w.drew
  have HW1 : Hid (WAt w.drew base B o v bs) := Lib.hid (HW0.out.drewN 1)
  have HR1 : Hid (Wrote B o v w v w.drew) := Lib.hid (R0.out.drewN 1)
  have HCW := Lib.hid (write_any base B o v bs N 14 w.drew HW1.out hhl (by omega) (by omega))
  generalize w.drew = w1 at *
  go_wp2_with fail
  rw [HHE.out]
  refine HCW.out.mono ?_
  rintro e w2 ⟨rfl, v2, r1, r2⟩
  have HW2 := Lib.hid r1
  have HR2 := Lib.hid (HR1.out.trans r2)
  clear r1 r2 HW1 HR1 HCW k4 k5 k6
  obtain ⟨t2, _⟩ := cell_at (HGW.out _ _ HR2.out) 2 _ rfl
  have HLC := Lib.hid (lengthsof_calls b gt (tellD ts) w2 (HCT.out _ _ HR2.out) (by rw [HZL.out]; decide))
  rw [HZL.out] at HLC
  go_wp2_with fail
  refine HLC.out.mono ?_
  rintro e w3 ⟨gl, cl, rfl, hgl, hrl, ⟨cur, htl⟩, hbl⟩
  have HW3 := Lib.hid (wat_below HW2.out hbl)
  have HR3 := Lib.hid (wrote_grow HR2.out HW2.out.Bt hbl)
  have hglB : gl ≠ B := by have := HW2.out.Bt; omega
  have HL3 : Hid (∀ W v', Wrote B o v2 w3 v' W → Reads W (some ⟨gl, 0, none⟩) (tellD ts)) := Lib.hid (fun W v' h j hj => by
    obtain ⟨g', o', e, hc⟩ := hrl j hj
    cases e
    have h1 := wrote_block h HW3.out htl hglB (by decide)
    have h2 : W.heap[gl]? = w3.heap[gl]? := h1.trans htl.symm
    exact ⟨gl, 0, rfl, (World.cell?_of_block (a := ⟨gl, 0 + j, none⟩) h2).trans hc⟩)
  have R3 := Lib.hid (Wrote.refl B o v2 w3)
  clear hbl hrl htl hgl HLC t2 HW2 HR2
  obtain ⟨t6, _⟩ := cell_at (HGW.out _ _ HR3.out) 6 _ rfl
  go_wp2_with fail
  have hbase : bs ++ bitsN 14 N ++ tellsB (tellD ts) 0 = bs ++ bitsN 14 N := by simp [tellsB]
  have HBA := Lib.hid hbase
  clear hbase t6
  go_loopw [44] (fun vi wr => ∃ (i : Nat) (v1 : Value), i ≤ c ∧ vi = .int .i64 i ∧ WAt wr base B o v1 (bs ++ bitsN 14 N ++ tellsB (tellD ts) i) ∧ Wrote B o v2 w3 v1 wr) (fun vi _ => c - (intOf vi).toNat)
  case atStart => exact ⟨0, v2, Nat.zero_le _, rfl, by rw [HBA.out]; exact HW3.out, R3.out⟩
  case round =>
    obtain ⟨i, v1, hi, rfl, hwa, hwr⟩ := hrel
    have HWA := Lib.hid hwa
    have HWR := Lib.hid hwr
    clear hwa hwr
    by_cases hlt : i < c
    · have p1 : decide ((i : Int) < (c : Int)) = true := decide_eq_true (by omega)
      have p1' : decide (i < c) = true := decide_eq_true hlt
      have hoc := (HOW.out _ _ (HR3.out.trans HWR.out)).cell i (by omega)
      have hos := ordT_lt i (by omega)
      obtain ⟨os, hos2⟩ : ∃ os, ordT.getD i 0 = os := ⟨_, rfl⟩
      rw [hos2] at hoc hos
      have hzl : os < (tellD ts).length := by rw [HZL.out]; exact hos
      obtain ⟨g', o', e', hzc⟩ := HL3.out _ _ HWR.out os hzl
      cases e'
      rw [Nat.zero_add] at hzc
      have hzd : (tellD ts).getD os 0 = (tellD ts)[os] := getD_of hzl
      have hz07 := HZI.out _ (List.getElem_mem hzl)
      obtain ⟨y, hy⟩ : ∃ y, (tellD ts)[os] = y := ⟨_, rfl⟩
      rw [hy] at hzc hzd hz07
      obtain ⟨yn, rfl⟩ : ∃ yn : Nat, y = (yn : Int) := ⟨y.toNat, by omega⟩
      have HTB : Hid (tellB (tellD ts) i = bitsN 3 yn) := Lib.hid (by unfold tellB; rw [hos2, hzd, Int.toNat_natCast])
      have HTS := Lib.hid (tellsB_succ (tellD ts) i)
      have htl2 := tellsB_len (tellD ts) i
      have HCW := Lib.hid (write_any base B o v1 (bs ++ bitsN 14 N ++ tellsB (tellD ts) i) yn 3 wr HWA.out (by omega) (by omega) (by rw [List.length_append, List.length_append, bitsN_len, htl2]; omega))
      have o0 : (0 : Int) ≤ (os : Int) := by omega
      have o1 : (os : Int) < 19 := by omega
      have y1 : (yn : Int) ≤ 7 := by omega
      clear hy hzd hos2 htl2
      go_wp2_with fail
      refine HCW.out.mono ?_
      rintro e w5 ⟨rfl, v5, r1, r2⟩
      have HW5 : Hid (WAt w5 base B o v5 (bs ++ bitsN 14 N ++ tellsB (tellD ts) (i + 1))) := Lib.hid (by rw [HTS.out, HTB.out, ← List.append_assoc]; exact r1)
      have HR5 := Lib.hid (HWR.out.trans r2)
      clear r1 r2 HCW hoc hzc
      go_wp2
      go_roundw
      case rel => exact ⟨i + 1, v5, by omega, by go_num, HW5.out, HR5.out⟩
      case measure => simp [intOf]; omega
    · obtain rfl : i = c := by omega
      have p1 : decide ((i : Int) < (i : Int)) = false := decide_eq_false (by omega)
      have HR6 := Lib.hid (HR3.out.trans HWR.out)
      have htl2 := tellsB_len (tellD ts) i
      obtain ⟨bs2, hbs2⟩ : ∃ b, bs ++ bitsN 14 N ++ tellsB (tellD ts) i = b := ⟨_, rfl⟩
      have hb2l : bs2.length ≤ 100000000100 := by rw [← hbs2, List.length_append, List.length_append, bitsN_len, htl2]; omega
      rw [hbs2] at HWA
      have HBS := Lib.hid hbs2
      obtain ⟨t3, _⟩ := cell_at (HGW.out _ _ HR6.out) 3 _ rfl
      clear hbs2 htl2 HL3 R3 HR3 HW3 HWR
      go_wp2_with fail
      clear t3
      go_loopw [61] (fun vi wx => ∃ (k : Nat) (v1 : Value), k ≤ nT ∧ vi = .int .i64 k ∧ WAt wx base B o v1 (bs2 ++ exsB (tellD ts) ((toldD ts).take k)) ∧ Wrote B o v w v1 wx) (fun vi _ => nT - (intOf vi).toNat)
      case atStart => exact ⟨0, _, Nat.zero_le _, rfl, by simpa [exsB] using HWA.out, HR6.out⟩
      case round =>
        obtain ⟨k, v7, hk, rfl, hwa, hwr⟩ := hrel
        have HWB := Lib.hid hwa
        have HWR := Lib.hid hwr
        clear hwa hwr
        by_cases hlt : k < nT
        · have p2 : decide ((k : Int) < (nT : Int)) = true := decide_eq_true (by omega)
          have p2' : decide (k < nT) = true := decide_eq_true hlt
          have k1 : k < (toldD ts).length := by rw [HNT.out]; exact hlt
          have HEX := Lib.hid (exsB_take (tellD ts) (toldD ts) k k1)
          have hok := HTO.out.1 (toldD ts)[k] (List.getElem_mem k1)
          have hel := HLB.out k
          obtain ⟨h1, h2, h3⟩ := exs_cells (HRT.out _ _ HWR.out) k k1
          obtain ⟨x, hx⟩ : ∃ x, (toldD ts)[k] = x := ⟨_, rfl⟩
          rw [hx] at h1 h2 h3 HEX hok
          obtain ⟨xs, xb, xv⟩ := x
          obtain ⟨ho0, ho18, hob, hov⟩ := hok
          simp only at h1 h2 h3 ho0 ho18 hob hov
          obtain ⟨s, rfl⟩ : ∃ s : Nat, xs = (s : Int) := ⟨xs.toNat, by omega⟩
          have HEX2 : Hid (exB (tellD ts) ⟨(s : Int), xb, xv⟩ = wordB (tellD ts) s ++ bitsN xb xv) := Lib.hid (by unfold exB; simp only [Int.toNat_natCast])
          have hsl : s < (tellD ts).length := by rw [HZL.out]; omega
          obtain ⟨bs3, hbs3⟩ : ∃ b, bs2 ++ exsB (tellD ts) ((toldD ts).take k) = b := ⟨_, rfl⟩
          have hb3l : bs3.length ≤ 100000010000 := by rw [← hbs3, List.length_append]; omega
          rw [hbs3] at HWB
          have HB3 : Hid (bs2 ++ exsB (tellD ts) ((toldD ts).take (k + 1)) = bs3 ++ wordB (tellD ts) s ++ bitsN xb xv) := Lib.hid (by rw [HEX.out, HEX2.out, ← List.append_assoc, hbs3, List.append_assoc])
          have hwl := wordB_le (tellD ts) s
          clear hx hbs3 hel
          go_upto_region 10 with fail
          obtain ⟨K, hK⟩ : ∃ K, wr.heap.size = K := ⟨_, rfl⟩
          obtain ⟨W1, hW1⟩ : ∃ W1, wr.alloc (.cells #[.int .i64 s, .int .i64 (xb : Int), .int .u64 (xv : Int)] 116) = W1 := ⟨_, rfl⟩
          have hbl : Below wr.heap.size wr W1 := by rw [← hW1]; exact (Below.refl _ _).alloc (Nat.le_refl _) _
          have hKc : W1.heap[K]? = some (.cells #[.int .i64 s, .int .i64 (xb : Int), .int .u64 (xv : Int)] 116 (0, 0)) := by rw [← hW1, ← hK]; exact World.alloc_heap_new _ _
          have hKB : K ≠ B := by have := HWB.out.Bt; omega
          rw [hW1, hK]
          have HW8 := Lib.hid (wat_below HWB.out hbl)
          have HR8 := Lib.hid (wrote_grow HWR.out HWB.out.Bt hbl)
          obtain ⟨e0, _⟩ := cell_at hKc 0 _ rfl
          obtain ⟨t2, _⟩ := cell_at (HGW.out _ _ HR8.out) 2 _ rfl
          have HKc := Lib.hid hKc
          clear hW1 hK h1 h2 h3 hbl hKc
          go_still_tail 7, (by kernel_rfl)
          change wpList _ _ _ _ _ (World.drew _)
          have HW9 := Lib.hid (HW8.out.drewN 1)
          have HR9 := Lib.hid (HR8.out.drewN 1)
          have HCW := Lib.hid (codewrite_calls b gt s base B o v7 bs3 (tellD ts) _ (HCT.out _ _ HR9.out) HW9.out hsl (by rw [HZL.out]; decide) (by omega))
          go_wp2_with fail
          refine HCW.out.mono ?_
          rintro e w10 ⟨rfl, v10, r1, r2⟩
          have H10 := Lib.hid (wrote_block r2 HW9.out (show (World.drew _).heap[K]? = _ from HKc.out) hKB (by decide))
          have HW10 := Lib.hid r1
          have HR10 := Lib.hid (HR9.out.trans r2)
          clear r1 r2 e0 t2 HCW HW9 HR9 HW8 HR8 HKc
          obtain ⟨e1, _⟩ := cell_at H10.out 1 _ rfl
          obtain ⟨e2, _⟩ := cell_at H10.out 2 _ rfl
          have HCW := Lib.hid (write_any base B o v10 (bs3 ++ wordB (tellD ts) s) xv xb _ HW10.out (by omega) (by omega) (by rw [List.length_append]; omega))
          go_wp2_with fail
          refine HCW.out.mono ?_
          rintro e w11 ⟨rfl, v11, r1, r2⟩
          have HW11 : Hid (WAt w11 base B o v11 (bs2 ++ exsB (tellD ts) ((toldD ts).take (k + 1)))) := Lib.hid (by rw [HB3.out]; exact r1)
          have HR11 := Lib.hid (HR10.out.trans r2)
          clear r1 r2 e1 e2 HCW
          go_wp2
          go_roundw
          case rel => exact ⟨k + 1, v11, by omega, by go_num, HW11.out, HR11.out⟩
          case measure => simp [intOf]; omega
        · obtain rfl : k = nT := by omega
          have p2 : decide ((k : Int) < (k : Int)) = false := decide_eq_false (by omega)
          have HFin : Hid (bs2 ++ exsB (tellD ts) ((toldD ts).take k) = bs ++ (bitsN 14 N ++ tellsB (tellD ts) i ++ exsB (tellD ts) (toldD ts))) := Lib.hid (by
            rw [List.take_of_length_le (by rw [HNT.out]; exact Nat.le_refl _), ← HBS.out]
            simp only [List.append_assoc])
          go_wp2
          go_end0
          exact ⟨rfl, v7, by rw [← HFin.out]; exact HWB.out, HWR.out⟩
end Go.Proofs.YtmpokiflhijnoaaGreatDoor.Bk
