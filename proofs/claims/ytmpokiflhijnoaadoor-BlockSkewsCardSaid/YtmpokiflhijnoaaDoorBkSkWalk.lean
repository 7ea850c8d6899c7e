/-
  lighterlaw09.BlockSkews: of bytes some of which come much more often than others a Dynamic block is read again.
-/
import Derived.Test.YtmpokiflhijnoaaDoorRfReadX
import Derived.Test.YtmpokiflhijnoaaDoorRfDrain
import Derived.Test.YtmpokiflhijnoaaDoorTkCells
import Derived.Test.YtmpokiflhijnoaaDoorFrameArgs
namespace Go.Proofs.YtmpokiflhijnoaaDoor.Rf
open Go.RowKit Go.Shelf Go.Proofs.YtmpokiflhijnoaaDoor.Mg Go.Proofs.YtmpokiflhijnoaaDoor.Bw Go.Proofs.YtmpokiflhijnoaaDoor.Bk Go.Proofs.YtmpokiflhijnoaaDoor.Cn Go.Proofs.YtmpokiflhijnoaaDoor.Zp
set_option linter.unusedVariables false
set_option linter.unusedSimpArgs false

/-- Tokens that are bytes. -/
def byT (l : List Nat) : List Tok := l.map fun x : Nat => ⟨(x : Int), 0, 0⟩
def byS (l : List Nat) : ByteArray := strOfNums (l.map fun x : Nat => (x : Int))
theorem byT_len (l : List Nat) : (byT l).length = l.length := List.length_map _
theorem byS_size (l : List Nat) : (byS l).size = l.length := by rw [byS, strOfNums_size, List.length_map]
theorem byS_snoc (l : List Nat) (x : Nat) : byS (l ++ [x]) = byS l ++ strOfNums [(x : Int)] := by
  unfold byS
  rw [List.map_append, nums_app]
  rfl
theorem exp_by : ∀ (l : List Nat) (out : List Int), expTs out (byT l) = out ++ l.map fun x : Nat => (x : Int)
  | [], out => by simp [byT, expTs]
  | x :: l, out => by
    show expTs (expT out ⟨(x : Int), 0, 0⟩) (byT l) = _
    rw [exp_by l]
    simp [expT]
theorem fit_by : ∀ (l : List Nat) (out : List Int), fitTs out (byT l)
  | [], _ => trivial
  | x :: l, out => ⟨.inl rfl, fit_by l _⟩
theorem in_by (l : List Nat) (h : ∀ x ∈ l, x < 256) : ∀ t ∈ byT l, tokIn t ∧ goodT t = true ∧ 0 ≤ t.b ∧ t.b < 256 := fun t ht => by
  obtain ⟨x, hx, rfl⟩ := List.mem_map.1 ht
  have := h x hx
  exact ⟨.inl ⟨rfl, by simp, by simp; omega⟩, by simp [goodT], by simp, by simp; omega⟩
def andB (m x : Int) : Int := Go.bits .and .i64 x m
theorem andB_range (m : Nat) (hm : m < 2 ^ 62) (x : Int) : 0 ≤ andB (m : Int) x ∧ andB (m : Int) x ≤ m := by
  have h : ((BitVec.ofInt 64 x &&& BitVec.ofInt 64 (m : Int)).toNat) ≤ m := by
    rw [BitVec.toNat_and]
    refine Nat.le_trans Nat.and_le_right ?_
    rw [BitVec.toNat_ofInt]
    have : ((m : Int) % ((2 ^ 64 : Nat) : Int)).toNat = m := by
      rw [Int.emod_eq_of_lt (by omega) (by omega)]
      omega
    rw [this]
    exact Nat.le_refl _
  have e : andB (m : Int) x = IntKind.i64.wrap ((BitVec.ofInt 64 x &&& BitVec.ofInt 64 (m : Int)).toNat : Int) := rfl
  rw [e, IntKind.wrap_i64]
  omega
theorem and63 (x : Int) : 0 ≤ Go.bits .and .i64 x 63 ∧ Go.bits .and .i64 x 63 ≤ 63 := andB_range 63 (by omega) x
theorem byT_snoc (l : List Nat) (x : Nat) : byT (l ++ [x]) = byT l ++ [⟨(x : Int), 0, 0⟩] := by simp [byT]
theorem may_by {l : List Nat} (h : ∀ x ∈ l, x < 256) (hl : l.length ≤ 65535) (k : Int) (hk : 0 ≤ k ∧ k < 3) : mayB k (byS l).size (byT l) = true := by
  unfold mayB
  rw [byS_size, byT_len, decide_eq_true hk.1, decide_eq_true hk.2, decide_eq_true hl]
  simp only [Bool.true_and]
  rw [List.all_eq_true]
  exact fun t ht => (in_by l h t ht).2.1

set_option maxHeartbeats 8000000 in
set_option maxRecDepth 100000 in
theorem skews_walk (A : Option Addr) (c : Nat) (xs : List Int) (w : World) (hA : Reads w A xs) (hc : xs.length ≤ c) (hl : c ≤ 140737488351232) (hO : OrdT w) :
    Calls Tryd.prog 3 #[.slice A xs.length c] w fun e w' => e = .returned (.bool true) ∧ Below w.heap.size w w' := by
  have hii : Tryd.prog.info? 27 = some ttk := by kernel_rfl
  have hiz0 : ttk.zero = some (.agg #[.int .u8 0, .int .i64 0, .int .i64 0]) := by kernel_rfl
  have hiz1 : ttk.size = 3 := by kernel_rfl
  have hiz2 : ttk.bytes = 24 := by kernel_rfl
  have HSP := Lib.hid (speaks_calls w hO)
  have HA := Lib.hid hA
  have HO := Lib.hid hO
  obtain ⟨n0, hn0⟩ : ∃ n, xs.length = n := ⟨_, rfl⟩
  have HN0 := Lib.hid hn0
  rw [hn0] at hc ⊢
  clear hA hO hn0
  go_enter Tryd.func3, Tryd.ntmps3
  go_wp2_with fail
  refine HSP.out.mono ?_
  rintro e w1 ⟨rfl, hb1⟩
  have HA1 := Lib.hid (HA.out.below hb1)
  have HO1 : Hid (OrdT w1) := Lib.hid (by
    obtain ⟨cs, t, fr, h, h2⟩ := HO.out
    exact ⟨cs, t, fr, (hb1.block _ (Array.getElem?_eq_some_iff.1 h).1).trans h, h2⟩)
  have HB1 := Lib.hid hb1
  have N0 := Lib.hid (World.ownsRow_nil w1 w1.heap.size 27 3)
  clear hb1 HSP HA HO
  go_wp2_with fail
  go_loopw [3, 4, 5] (fun vs vt vi wr => ∃ (i : Nat) (l : List Nat), i ≤ n0 ∧ i ≤ 40 ∧ vi = .int .i64 i ∧ vs = .string (byS l) ∧ l.length ≤ 64 * i ∧ (∀ x ∈ l, x < 256) ∧ wr.ownsRow w1.heap.size 27 3 vt l.length (toksC (byT l)) ∧ Below w1.heap.size w1 wr) (fun _ _ vi _ => 40 - (intOf vi).toNat)
  case atStart => exact ⟨0, [], Nat.zero_le _, by omega, rfl, rfl, Nat.le_refl _, (fun x hx => by cases hx), N0.out, Below.refl _ _⟩
  case round =>
    obtain ⟨i, l, hi0, hi, rfl, rfl, hll, hlx, hown, hbl⟩ := hrel
    have HOW := Lib.hid hown
    have HBL := Lib.hid hbl
    have HLX := Lib.hid hlx
    clear hown hbl hlx
    by_cases hgo : i < n0 ∧ i < 40
    · obtain ⟨hg1, hg2⟩ := hgo
      have q1 : decide ((i : Int) < (n0 : Int)) = true := decide_eq_true (by omega)
      have q1' : decide (i < n0) = true := decide_eq_true hg1
      have q2 : decide ((i : Int) < 40) = true := decide_eq_true (by omega)
      obtain ⟨y, hy⟩ : ∃ y, Go.bits .and .i64 (xs[i]'(by rw [HN0.out]; exact hg1)) 63 = y := ⟨_, rfl⟩
      have hyr := and63 (xs[i]'(by rw [HN0.out]; exact hg1))
      rw [hy] at hyr
      have HY := Lib.hid hy
      obtain ⟨b, hb⟩ : ∃ b, 5 * i = b := ⟨_, rfl⟩
      have hb2 : b < 256 := by omega
      have e5 : (i : Int) * 5 = (b : Int) := by omega
      clear hy hb
      go_wp2_with fail
      go_loopw [3, 4, 6] (fun vs vt vk wr => ∃ (k : Nat) (l2 : List Nat), (k : Int) ≤ 1 + y ∧ vk = .int .i64 k ∧ vs = .string (byS l2) ∧ l2.length ≤ 64 * i + k ∧ (∀ x ∈ l2, x < 256) ∧ wr.ownsRow w1.heap.size 27 3 vt l2.length (toksC (byT l2)) ∧ Below w1.heap.size w1 wr) (fun _ _ vk _ => (1 + y).toNat - (intOf vk).toNat)
      case atStart => exact ⟨0, l, by omega, rfl, rfl, by omega, HLX.out, HOW.out, HBL.out⟩
      case round =>
        obtain ⟨k, l2, hk, rfl, rfl, hll2, hlx, hown, hbl⟩ := hrel
        have HOW2 := Lib.hid hown
        have HBL2 := Lib.hid hbl
        have HLX2 := Lib.hid hlx
        clear hown hbl hlx HOW HBL HLX
        obtain ⟨gx, ox, hax, hcx⟩ := (HA1.out.below HBL2.out) i (by rw [HN0.out]; exact hg1)
        subst hax
        obtain ⟨x, hx⟩ : ∃ x, xs[i]'(by rw [HN0.out]; exact hg1) = x := ⟨_, rfl⟩
        rw [hx] at hcx
        have hy2 : Go.bits .and .i64 x 63 = y := by rw [← hx]; exact HY.out
        have i0 : (0 : Int) ≤ (i : Int) := by omega
        have i1 : (i : Int) < (n0 : Int) := by omega
        clear hx
        by_cases hk2 : (k : Int) < 1 + y
        · have q3 : decide ((k : Int) < 1 + y) = true := decide_eq_true hk2
          have hcv := conv_one (b : Int) wr
          have s1 : (byS l2).size ≤ 3000 := by rw [byS_size]; omega
          have s2 : (strOfNums [(b : Int)]).size = 1 := by rw [strOfNums_size]; rfl
          have e8 : IntKind.u8.wrap (b : Int) = (b : Int) := by rw [IntKind.wrap_u8]; omega
          have HS : Hid (byS l2 ++ strOfNums [(b : Int)] = byS (l2 ++ [b])) := Lib.hid (byS_snoc l2 b).symm
          have HBX := Lib.hid ((Below.refl wr.heap.size wr).alloc (Nat.le_refl _) (.cells #[.int .u8 (b : Int)] 5))
          have hl2 : l2.length ≤ 3000 := by omega
          generalize byS l2 = S at *
          go_upto_region 12 with fail
          clear hcv
          have HO5 := Lib.hid (own_below HOW2.out HBX.out)
          have HB5 := Lib.hid (HBL2.out.trans (HBX.out.mono HBL2.out.size))
          obtain ⟨w5, hw5⟩ : ∃ w5, wr.alloc (.cells #[.int .u8 (b : Int)] 5) = w5 := ⟨_, rfl⟩
          rw [hw5] at HO5 HB5 ⊢
          have hbz : w1.heap.size ≤ w5.heap.size := HB5.out.size
          rw [HS.out]
          clear hw5 s1 s2 HOW2 HBL2 HBX
          go_wp2_with (at_builtin; refine wpList_append_at _ rfl _ _ 24 rfl w1.heap.size 27 ttk (.agg #[.int .u8 0, .int .i64 0, .int .i64 0]) 3 24 Tryd.underlying24 hii hiz0 hiz1 hiz2 rfl (by decide) _ _ _ rfl (HO5.out.alloc _) ⟨w5.heap.size, 0, none⟩ 1 1 (tokC ⟨(b : Int), 0, 0⟩) rfl rfl ?c1 ?c2 ?c3 ?c4 ?c5 ?_)
          case c1 => exact new_cells w5 (tokC ⟨(b : Int), 0, 0⟩) _
          case c2 => exact tokC_one _
          case c3 => unfold maxLen; omega
          case c4 => omega
          case c5 => simp; omega
          intro v7 w7 hown1 hg1 hfr
          have HO7 : Hid (w7.ownsRow w1.heap.size 27 3 v7 (l2 ++ [b]).length (toksC (byT (l2 ++ [b])))) := Lib.hid (by
            rw [byT_snoc, toksC_snoc, List.length_append]
            exact hown1)
          have HB7 : Hid (Below w1.heap.size w1 w7) := Lib.hid ((HB5.out.alloc HB5.out.size _).grown hg1 (by simp; omega) (fun r e => (HO5.out.lt r e).1))
          have HLX7 : Hid (∀ x ∈ l2 ++ [b], x < 256) := Lib.hid (fun x hx => by
            rcases List.mem_append.1 hx with h | h
            · exact HLX2.out x h
            · rw [List.mem_singleton.1 h]; exact hb2)
          clear hown1 hg1 hfr hbz
          go_wp2
          go_roundw
          case rel => exact ⟨k + 1, l2 ++ [b], by omega, by go_num, rfl, by rw [List.length_append]; simp; omega, HLX7.out, HO7.out, HB7.out⟩
          case measure => simp [intOf]; omega
        · have q3 : decide ((k : Int) < 1 + y) = false := decide_eq_false hk2
          go_wp2
          go_roundw
          case rel => exact ⟨i + 1, l2, by omega, by omega, by go_num, rfl, by omega, HLX2.out, HOW2.out, HBL2.out⟩
          case measure => simp [intOf]; omega
    · rcases (by omega : n0 ≤ i ∨ (i < n0 ∧ 40 ≤ i)) with hg | ⟨hg1, hg2⟩
      have q1 : decide ((i : Int) < (n0 : Int)) = false := decide_eq_false (by omega)
      have q1' : decide (i < n0) = false := decide_eq_false (by omega)
      rotate_left
      have q1 : decide ((i : Int) < (n0 : Int)) = true := decide_eq_true (by omega)
      have q1' : decide (i < n0) = true := decide_eq_true (by omega)
      have q2 : decide ((i : Int) < 40) = false := decide_eq_false (by omega)
      rotate_left
      all_goals
        obtain ⟨At, ct, rfl⟩ := own_form HOW.out
        have hlb : l.length ≤ 2560 := by omega
        have HOR : Hid (OrdT wr) := Lib.hid (by
          obtain ⟨cs, t, fr, h, h2⟩ := HO1.out
          exact ⟨cs, t, fr, (HBL.out.block _ (Array.getElem?_eq_some_iff.1 h).1).trans h, h2⟩)
        have HBI := Lib.hid (in_by l HLX.out)
        have HMB := Lib.hid (may_by (l := l) HLX.out (by omega) 2 (by decide))
        have HWR := Lib.hid (writer_new wr)
        have hw1 : w1.heap.size ≤ wr.heap.size := HBL.out.size
        have HOL := Lib.hid (byT_len l)
        go_upto_region 14 with fail
        have HBX := Lib.hid ((Below.refl wr.heap.size wr).alloc (Nat.le_refl _) (.cells #[.slice none 0 0, .int .u64 0, .int .i64 0] 30))
        have hBo : 0 < wr.heap.size := by
          obtain ⟨cs, t, fr, h, h2⟩ := HOR.out
          exact (Array.getElem?_eq_some_iff.1 h).1
        have HTA := Lib.hid (tokAt_own (l := byT l) (A := At) (c := ct) (by rw [HOL.out]; exact own_below HOW.out HBX.out))
        have HTB := Lib.hid (tokB_own HOW.out HBX.out (Nat.le_refl wr.heap.size))
        have HO2 : Hid (OrdT (wr.alloc (.cells #[.slice none 0 0, .int .u64 0, .int .i64 0] 30))) := Lib.hid (by
          obtain ⟨cs, t, fr, h, h2⟩ := HOR.out
          exact ⟨cs, t, fr, (HBX.out.block _ (Array.getElem?_eq_some_iff.1 h).1).trans h, h2⟩)
        obtain ⟨B, hB⟩ : ∃ B, wr.heap.size = B := ⟨_, rfl⟩
        obtain ⟨w5, hw5⟩ : ∃ w5, wr.alloc (.cells #[.slice none 0 0, .int .u64 0, .int .i64 0] 30) = w5 := ⟨_, rfl⟩
        rw [hw5] at HWR HBX HTA HTB HO2
        rw [hB] at HWR HTB hBo
        rw [hw5, hB]
        have HW2 := Lib.hid (write2_calls true (byS l) At ct (byT l) B B 0 _ [] w5 HTA.out HTB.out (fun t ht => (HBI.out t ht).2.2) HMB.out HWR.out HO2.out hBo (by omega) (by simp))
        rw [HOL.out] at HW2
        have HBB := Lib.hid hB
        have hBz : w1.heap.size ≤ B := by omega
        clear hw5 hB
        go_wp2_with fail
        refine HW2.out.mono ?_
        rintro e w6 ⟨rfl, v6, hw6, ht6⟩
        rw [List.nil_append] at hw6
        have hbl := blockB_le 2 (.inr rfl) true (byT l) (by rw [HOL.out]; omega)
        have HW6 := Lib.hid hw6
        have HB6 : Hid (Below w1.heap.size w1 w6) := Lib.hid (((HBL.out.trans (HBX.out.mono hw1))).trans (ht6.below hBz (fun k e => by cases e) (by have := HBX.out.size; omega)))
        clear hw6 ht6 HW2 HTA HTB HWR HO2
        go_wp2_with fail
        refine (align_calls B B 0 v6 _ w6 HW6.out (by omega)).mono ?_
        rintro e w7 ⟨rfl, v7, hw7, ht7⟩
        have HB7 : Hid (Below w1.heap.size w1 w7) := Lib.hid (HB6.out.trans (ht7.below hBz (fun k e => by have := (HW6.out.ge.2.1 k e).1; omega) HB6.out.size))
        obtain ⟨dn, hr7, hdn, hdl⟩ := wat_whole hw7 (padB_mod _)
        have hpl := padB_le (blockB 2 true (byT l))
        have hp0 : 3 ≤ (padB (blockB 2 true (byT l))).length := by
          unfold padB blockB
          rw [List.length_append, List.length_append, kindB_len]
          omega
        have hd0 : 0 < dn.length := by omega
        have hd1 : dn.length ≤ 1000000 := by omega
        obtain ⟨g7, c7, rfl, _, _⟩ := hr7.row.form hd0
        have HR7 := Lib.hid hr7
        have HDN : Hid (strB (strOfNums (dn.map fun x : Nat => (x : Int))) = padB (blockB 2 true (byT l))) := Lib.hid (by
          unfold strB
          rw [strN_nums dn hr7.byte]
          exact hdn)
        have HDS : Hid ((strOfNums (dn.map fun x : Nat => (x : Int))).size = dn.length) := Lib.hid (by rw [strOfNums_size, List.length_map])
        clear hw7 ht7 hr7 hdn hdl hpl hp0 hbl HW6 HB6
        go_wp2_with fail
        refine (drain_calls B B 0 g7 c7 0 0 dn w7 HR7.out (by omega)).mono ?_
        rintro e w8 ⟨rfl, hw8⟩
        have HB8 : Hid (Below w1.heap.size w1 w8) := Lib.hid (by rw [hw8]; exact HB7.out.setCell (p := ⟨B, 0, none⟩) hBz _)
        clear hw8 HB7 HR7
        go_wp2_with fail
        have HRD := Lib.hid (readx_calls (strOfNums (dn.map fun x : Nat => (x : Int))) [⟨2, true, byT l, byS l⟩] (List.replicate ((8 - (blockB 2 true (byT l)).length % 8) % 8) false) w8 (by rw [HDS.out]; omega) (by simp) ⟨⟨by simp, by rw [byS_size]; omega, fun _ => ⟨by rw [HOL.out]; omega, fun t ht => (HBI.out t ht).1, fit_by l []⟩⟩, rfl, trivial⟩ (by rw [HDN.out]; rfl) (by show (expTs [] (byT l)).length ≤ _; rw [exp_by, List.length_append, List.length_map]; simp; omega))
        have hout : outBs [] [⟨2, true, byT l, byS l⟩] = l.map fun x : Nat => (x : Int) := by
          show expTs [] (byT l) = _
          rw [exp_by, List.nil_append]
        rw [hout] at HRD
        obtain ⟨z, hz⟩ : ∃ z, 8 * (strOfNums (dn.map fun x : Nat => (x : Int))).size - (List.replicate ((8 - (blockB 2 true (byT l)).length % 8) % 8) false).length = z := ⟨_, rfl⟩
        rw [hz] at HRD
        obtain ⟨S, hS⟩ : ∃ S, byS l = S := ⟨_, rfl⟩
        have hS2 : strOfNums (l.map fun x : Nat => (x : Int)) = S := hS
        rw [hS2] at HRD
        rw [hS]
        clear hS hS2 hz hout
        refine HRD.out.mono ?_
        rintro e w9 ⟨rfl, hb9⟩
        have HB9 := Lib.hid (HB1.out.trans ((HB8.out.trans (hb9.mono HB8.out.size)).mono HB1.out.size))
        clear hb9 HRD
        have hSS : (S.toList == S.toList) = true := beq_self_eq_true _
        go_wp2
        go_ret
        exact ⟨rfl, HB9.out⟩
theorem skews_any (v : Value) (xs : List Int) (w : World) (h : Fa.IntsOf w .i64 v xs) (hx : ∀ x ∈ xs, (Lit.int .i64 x).wf = true) {n : Nat} (hy : n ≤ 140737488351232) (hO : OrdT w) :
    Calls Tryd.prog 3 #[v] w fun e w' => e = .returned (.bool true) ∧ Below w.heap.size w w' := by
  rcases h with ⟨a, c, rfl, rfl, h1, h2⟩ | ⟨b, o, c, rfl, h0, h1, h2, h3, h4⟩
  · exact skews_walk a c [] w (fun j hj => (by cases hj)) (Nat.zero_le _) h2 hO
  · exact skews_walk _ c xs w (fun j hj => ⟨b, o, rfl, h4 j hj⟩) h1 h2 hO
end Go.Proofs.YtmpokiflhijnoaaDoor.Rf
