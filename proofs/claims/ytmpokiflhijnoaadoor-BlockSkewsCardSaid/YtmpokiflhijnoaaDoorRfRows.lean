/-
  The reference of layer 5: the rows of the lengths.
-/
import Derived.Test.YtmpokiflhijnoaaDoorRfFixed
namespace Go.Proofs.YtmpokiflhijnoaaDoor.Rf
open Go.RowKit Go.Shelf Go.Proofs.YtmpokiflhijnoaaDoor.Mg Go.Proofs.YtmpokiflhijnoaaDoor.Bw Go.Proofs.YtmpokiflhijnoaaDoor.Bk Go.Proofs.YtmpokiflhijnoaaDoor.Cn Go.Proofs.YtmpokiflhijnoaaDoor.Zp
set_option linter.unusedVariables false
set_option linter.unusedSimpArgs false

noncomputable def tr5 : TypeInfo := (Tryd.prog.info? 129).getD default
def row3 (s l b : Int) : List Value := [.int .i64 s, .int .i64 l, .int .i64 b]
def lenRow (d : Nat) : List Value := row3 (257 + (d : Int)) (lenLeast d : Int) (lenBits d : Int)
def dstRow (d : Nat) : List Value := row3 (d : Int) (dstLeast d : Int) (dstBits d : Int)
def lenRows (n : Nat) : List Value := (List.range n).flatMap lenRow
def dstRows (n : Nat) : List Value := (List.range n).flatMap dstRow
theorem lenRows_next (n : Nat) : lenRows (n + 1) = lenRows n ++ lenRow n := by simp [lenRows, List.range_succ]
theorem dstRows_next (n : Nat) : dstRows (n + 1) = dstRows n ++ dstRow n := by simp [dstRows, List.range_succ]
def atL (n : Nat) : Nat := (stepsP n 3 8 4).1
def atD (n : Nat) : Nat := (stepsP n 1 4 2).1
def szP (j : Nat) : Nat := 2 ^ (j + 1)
theorem len_low : ∀ k, k < 8 → lenLeast k = 3 + k ∧ lenBits k = 0 := by decide +kernel
theorem len_mid : ∀ j, j < 5 → ∀ i, i < 4 → lenLeast (8 + 4 * j + i) = atL (8 + 4 * j + i) ∧ lenBits (8 + 4 * j + i) = j + 1 ∧ atL (8 + 4 * j + (i + 1)) = atL (8 + 4 * j + i) + szP j ∧ atL (8 + 4 * j + i) < 1000 ∧ szP j < 1000 ∧ szP (j + 1) = szP j * 2 := by decide +kernel
theorem dst_mid : ∀ j, j < 13 → ∀ i, i < 2 → dstLeast (4 + 2 * j + i) = atD (4 + 2 * j + i) ∧ dstBits (4 + 2 * j + i) = j + 1 ∧ atD (4 + 2 * j + (i + 1)) = atD (4 + 2 * j + i) + szP j ∧ atD (4 + 2 * j + i) < 100000 ∧ szP j < 100000 ∧ szP (j + 1) = szP j * 2 := by decide +kernel
theorem at_start : atL 8 = 11 ∧ szP 0 = 2 ∧ atD 4 = 5 ∧ lenRow 28 = row3 285 258 0 ∧ dstRows 4 = row3 0 1 0 ++ (row3 1 2 0 ++ (row3 2 3 0 ++ row3 3 4 0)) := ⟨by decide +kernel, by decide +kernel, by decide +kernel, by rfl, by rfl⟩
theorem row3_one (a b c : Int) : ∀ u ∈ row3 a b c, u.oneCell' = true := by
  intro u hu
  simp [row3] at hu
  rcases hu with rfl | rfl | rfl <;> rfl

set_option maxHeartbeats 4000000 in
set_option maxRecDepth 100000 in
theorem lengths5_calls (w : World) :
    Calls Tryd.prog 74 #[] w fun e w' => (∃ v, e = .returned v ∧ w'.ownsRow w.heap.size 129 3 v 29 (lenRows 29)) ∧ Below w.heap.size w w' := by
  have hii : Tryd.prog.info? 129 = some tr5 := by kernel_rfl
  have hiz0 : tr5.zero = some (.agg #[.int .i64 0, .int .i64 0, .int .i64 0]) := by kernel_rfl
  have hiz1 : tr5.size = 3 := by kernel_rfl
  have hiz2 : tr5.bytes = 24 := by kernel_rfl
  have N0 := Lib.hid (World.ownsRow_nil w w.heap.size 129 3)
  have B0 := Lib.hid (Below.refl w.heap.size w)
  go_enter Tryd.func74, Tryd.ntmps74
  go_wp2
  go_loopw [1, 2] (fun va vi wr => ∃ k : Nat, k ≤ 8 ∧ vi = .int .i64 k ∧ wr.ownsRow w.heap.size 129 3 va k (lenRows k) ∧ Below w.heap.size w wr) (fun _ vi _ => 8 - (intOf vi).toNat)
  case atStart => exact ⟨0, Nat.zero_le _, rfl, N0.out, B0.out⟩
  case round =>
    obtain ⟨k, hk, rfl, hown, hbl⟩ := hrel
    have HO := Lib.hid hown
    have HB := Lib.hid hbl
    clear hown hbl
    by_cases hlt : k < 8
    · have q1 : decide ((k : Int) < 8) = true := decide_eq_true (by omega)
      have HNX : Hid (lenRows (k + 1) = lenRows k ++ row3 (257 + (k : Int)) (3 + (k : Int)) 0) := Lib.hid (by
        rw [lenRows_next, lenRow, (len_low k hlt).1, (len_low k hlt).2]
        rfl)
      go_wp2_with (at_builtin; refine wpList_append_at _ rfl _ _ 123 rfl w.heap.size 129 tr5 (.agg #[.int .i64 0, .int .i64 0, .int .i64 0]) 3 24 Tryd.underlying123 hii hiz0 hiz1 hiz2 rfl (by decide) _ _ _ rfl (HO.out.alloc _) ⟨wr.heap.size, 0, none⟩ 1 1 (row3 (257 + (k : Int)) (3 + (k : Int)) 0) rfl rfl ?c1 ?c2 ?c3 ?c4 ?c5 ?_)
      case c1 => exact new_cells wr (row3 (257 + (k : Int)) (3 + (k : Int)) 0) _
      case c2 => exact row3_one _ _ _
      case c3 => unfold maxLen; omega
      case c4 => omega
      case c5 => have := HB.out.size; simp; omega
      intro v3 w3 hown1 hg1 hfr
      have hbl : Below w.heap.size w w3 := (HB.out.alloc HB.out.size _).grown hg1 (by have := HB.out.size; simp; omega) (fun r e => (HO.out.lt r e).1)
      rw [← HNX.out] at hown1
      obtain ⟨gv, cv, rfl, _, _⟩ := hown1.form (by omega)
      have HO7 := Lib.hid hown1
      have HB7 := Lib.hid hbl
      clear hown1 hg1 hbl hfr
      go_wp2
      go_roundw
      case rel => exact ⟨k + 1, by omega, by go_num, HO7.out, HB7.out⟩
      case measure => simp [intOf]; omega
    · have e8 : k = 8 := by omega
      have q1 : decide ((k : Int) < 8) = false := decide_eq_false (by omega)
      have HO1 : Hid (wr.ownsRow w.heap.size 129 3 u1 (8 + 4 * 0) (lenRows (8 + 4 * 0))) := Lib.hid (e8 ▸ HO.out)
      obtain ⟨w1, hw1⟩ : ∃ w1, wr = w1 := ⟨_, rfl⟩
      rw [hw1] at HO1 HB ⊢
      clear hw1 HO N0 B0 e8 hk hlt
      go_wp2
      go_loopw [1, 3, 4, 5] (fun va vt vs ve wr => ∃ j : Nat, j ≤ 5 ∧ ve = .int .i64 ((j : Int) + 1) ∧ vs = .int .i64 (szP j : Int) ∧ vt = .int .i64 (atL (8 + 4 * j) : Int) ∧ wr.ownsRow w.heap.size 129 3 va (8 + 4 * j) (lenRows (8 + 4 * j)) ∧ Below w.heap.size w wr) (fun _ _ _ ve _ => 6 - (intOf ve).toNat)
      case atStart => exact ⟨0, Nat.zero_le _, rfl, by rw [at_start.2.1]; rfl, by rw [Nat.mul_zero, Nat.add_zero, at_start.1]; rfl, HO1.out, HB.out⟩
      case round =>
        obtain ⟨j, hj, rfl, rfl, rfl, hown, hbl⟩ := hrel
        have HO2 := Lib.hid hown
        have HB2 := Lib.hid hbl
        clear hown hbl HO1 HB
        by_cases hjl : j < 5
        · have q2 : decide ((j : Int) + 1 ≤ 5) = true := decide_eq_true (by omega)
          obtain ⟨S, hS⟩ : ∃ S, szP j = S := ⟨_, rfl⟩
          rw [hS]
          have HM : Hid (∀ i, i < 4 → lenLeast (8 + 4 * j + i) = atL (8 + 4 * j + i) ∧ lenBits (8 + 4 * j + i) = j + 1 ∧ atL (8 + 4 * j + (i + 1)) = atL (8 + 4 * j + i) + S ∧ atL (8 + 4 * j + i) < 1000 ∧ S < 1000 ∧ szP (j + 1) = S * 2) := Lib.hid (by rw [← hS]; exact len_mid j hjl)
          have hSl : S < 1000 := (HM.out 0 (by decide)).2.2.2.2.1
          clear hS
          go_wp2
          go_loopw [1, 3, 6] (fun va vt vi wr => ∃ i : Nat, i ≤ 4 ∧ vi = .int .i64 i ∧ vt = .int .i64 (atL (8 + 4 * j + i) : Int) ∧ wr.ownsRow w.heap.size 129 3 va (8 + 4 * j + i) (lenRows (8 + 4 * j + i)) ∧ Below w.heap.size w wr) (fun _ _ vi _ => 4 - (intOf vi).toNat)
          case atStart => exact ⟨0, Nat.zero_le _, rfl, rfl, HO2.out, HB2.out⟩
          case round =>
            obtain ⟨i, hi, rfl, rfl, hown, hbl⟩ := hrel
            obtain ⟨gu, cu, rfl, _, _⟩ := hown.form (by omega)
            have HO3 := Lib.hid hown
            have HB3 := Lib.hid hbl
            clear hown hbl
            by_cases hil : i < 4
            · have q3 : decide ((i : Int) < 4) = true := decide_eq_true (by omega)
              obtain ⟨n, hn⟩ : ∃ n, 8 + 4 * j + i = n := ⟨_, rfl⟩
              have HMM : Hid (lenLeast n = atL n ∧ lenBits n = j + 1 ∧ atL (n + 1) = atL n + S ∧ atL n < 1000) := Lib.hid (by
                have h := HM.out i hil
                rw [← hn]
                exact ⟨h.1, h.2.1, h.2.2.1, h.2.2.2.1⟩)
              have hal := HMM.out.2.2.2
              have HNN : Hid (8 + 4 * j + (i + 1) = n + 1) := Lib.hid (by omega)
              have hnl : n < 40 := by omega
              rw [hn] at HO3 ⊢
              obtain ⟨a, ha⟩ : ∃ a, atL n = a := ⟨_, rfl⟩
              have HNX : Hid (lenRows (n + 1) = lenRows n ++ row3 (257 + (n : Int)) (a : Int) ((j : Int) + 1)) := Lib.hid (by
                rw [lenRows_next, lenRow, HMM.out.1, HMM.out.2.1, ha]
                rfl)
              have HA : Hid (atL (n + 1) = a + S) := Lib.hid (by rw [HMM.out.2.2.1, ha])
              rw [ha] at hal ⊢
              clear hn HMM ha
              go_wp2_with (at_builtin; refine wpList_append_at _ rfl _ _ 123 rfl w.heap.size 129 tr5 (.agg #[.int .i64 0, .int .i64 0, .int .i64 0]) 3 24 Tryd.underlying123 hii hiz0 hiz1 hiz2 rfl (by decide) _ _ _ rfl (HO3.out.alloc _) ⟨wr.heap.size, 0, none⟩ 1 1 (row3 (257 + (n : Int)) (a : Int) ((j : Int) + 1)) rfl rfl ?c1 ?c2 ?c3 ?c4 ?c5 ?_)
              case c1 => exact new_cells wr (row3 (257 + (n : Int)) (a : Int) ((j : Int) + 1)) _
              case c2 => exact row3_one _ _ _
              case c3 => unfold maxLen; omega
              case c4 => omega
              case c5 => have := HB3.out.size; simp; omega
              intro v3 w3 hown1 hg1 hfr
              have hbl : Below w.heap.size w w3 := (HB3.out.alloc HB3.out.size _).grown hg1 (by have := HB3.out.size; simp; omega) (fun r e => (HO3.out.lt r e).1)
              rw [← HNX.out] at hown1
              obtain ⟨gv, cv, rfl, _, _⟩ := hown1.form (by omega)
              have HO7 : Hid (w3.ownsRow w.heap.size 129 3 (.slice (some ⟨gv, 0, none⟩) (n + 1) cv) (8 + 4 * j + (i + 1)) (lenRows (8 + 4 * j + (i + 1)))) := Lib.hid (by rw [HNN.out]; exact hown1)
              have HA7 : Hid (((a : Int) + (S : Int)) = ((atL (8 + 4 * j + (i + 1)) : Nat) : Int)) := Lib.hid (by rw [HNN.out, HA.out]; push_cast; rfl)
              have HB7 := Lib.hid hbl
              clear hown1 hg1 hbl hfr
              go_wp2
              go_roundw
              case rel => exact ⟨i + 1, by omega, by go_num, by rw [HA7.out], HO7.out, HB7.out⟩
              case measure => simp [intOf]; omega
            · have e4 : i = 4 := by omega
              have q3 : decide ((i : Int) < 4) = false := decide_eq_false (by omega)
              have HO4 : Hid (wr.ownsRow w.heap.size 129 3 (.slice (some ⟨gu, 0, none⟩) (8 + 4 * j + i) cu) (8 + 4 * (j + 1)) (lenRows (8 + 4 * (j + 1)))) := Lib.hid (by
                have e : 8 + 4 * (j + 1) = 8 + 4 * j + i := by omega
                rw [e]
                exact HO3.out)
              have HA4 : Hid (atL (8 + 4 * j + i) = atL (8 + 4 * (j + 1))) := Lib.hid (by
                have e : 8 + 4 * (j + 1) = 8 + 4 * j + i := by omega
                rw [e])
              have HS4 : Hid (((S : Int) * 2) = ((szP (j + 1) : Nat) : Int)) := Lib.hid (by rw [(HM.out 0 (by decide)).2.2.2.2.2]; push_cast; rfl)
              obtain ⟨a, ha⟩ : ∃ a, atL (8 + 4 * j + i) = a := ⟨_, rfl⟩
              obtain ⟨n, hn⟩ : ∃ n, 8 + 4 * j + i = n := ⟨_, rfl⟩
              rw [ha] at HA4 ⊢
              rw [hn] at HO4 ⊢
              clear hn ha e4 hi hil HO3
              go_wp2
              go_roundw
              case rel => exact ⟨j + 1, by omega, by go_num, by rw [HS4.out], by rw [HA4.out], HO4.out, HB3.out⟩
              case measure => simp [intOf]; omega
        · have q2 : decide ((j : Int) + 1 ≤ 5) = false := decide_eq_false (by omega)
          have HO5 : Hid (wr.ownsRow w.heap.size 129 3 u1 28 (lenRows 28)) := Lib.hid (by
            have e : 28 = 8 + 4 * j := by omega
            rw [e]
            exact HO2.out)
          obtain ⟨S, hS⟩ : ∃ S, szP j = S := ⟨_, rfl⟩
          obtain ⟨a, ha⟩ : ∃ a, atL (8 + 4 * j) = a := ⟨_, rfl⟩
          rw [hS, ha]
          obtain ⟨gu, cu, rfl, _, _⟩ := HO5.out.form (by decide)
          clear hS ha HO2 hj hjl
          go_wp2_with (at_builtin; refine wpList_append_at _ rfl _ _ 123 rfl w.heap.size 129 tr5 (.agg #[.int .i64 0, .int .i64 0, .int .i64 0]) 3 24 Tryd.underlying123 hii hiz0 hiz1 hiz2 rfl (by decide) _ _ _ rfl (HO5.out.alloc _) ⟨wr.heap.size, 0, none⟩ 1 1 (row3 285 258 0) rfl rfl ?c1 ?c2 ?c3 ?c4 ?c5 ?_)
          case c1 => exact new_cells wr (row3 285 258 0) _
          case c2 => exact row3_one _ _ _
          case c3 => unfold maxLen; omega
          case c4 => omega
          case c5 => have := HB2.out.size; simp; omega
          intro v3 w3 hown1 hg1 hfr
          have hbl : Below w.heap.size w w3 := (HB2.out.alloc HB2.out.size _).grown hg1 (by have := HB2.out.size; simp; omega) (fun r e => (HO5.out.lt r e).1)
          have HO7 : Hid (w3.ownsRow w.heap.size 129 3 v3 29 (lenRows 29)) := Lib.hid (by
            rw [lenRows_next 28, at_start.2.2.2.1]
            exact hown1)
          have HB7 := Lib.hid hbl
          clear hown1 hg1 hbl hfr
          go_wp2
          go_ret
          exact ⟨⟨_, rfl, HO7.out⟩, HB7.out⟩
end Go.Proofs.YtmpokiflhijnoaaDoor.Rf
