/-
  The reference of layer 5: the rows of the distances.
-/
import Derived.Test.YtmpokiflhijnoaaDoorRfRows
namespace Go.Proofs.YtmpokiflhijnoaaDoor.Rf
open Go.RowKit Go.Shelf Go.Proofs.YtmpokiflhijnoaaDoor.Mg Go.Proofs.YtmpokiflhijnoaaDoor.Bw Go.Proofs.YtmpokiflhijnoaaDoor.Bk Go.Proofs.YtmpokiflhijnoaaDoor.Cn Go.Proofs.YtmpokiflhijnoaaDoor.Zp
set_option linter.unusedVariables false
set_option linter.unusedSimpArgs false

theorem own_four {w W : World} (hb : Below w.heap.size w W) (T : TypeId) (l : List Value) (hl : l.length = 12) (h1 : ∀ u ∈ l, u.oneCell' = true) : (W.alloc (.cells l.toArray T)).ownsRow w.heap.size T 3 (.slice (some ⟨W.heap.size, 0, none⟩) 4 4) 4 l := by
  refine ⟨hl, .inr ⟨W.heap.size, 4, l.toArray, rfl, hb.size, ?_⟩⟩
  refine ⟨?_, Nat.le_refl _, by unfold maxLen; omega, by simp [hl], ?_⟩
  · rw [World.alloc_heap_new]
  · exact List.take_of_length_le (by rw [show l.toArray.toList = l from rfl, hl]; exact Nat.le_refl _)

set_option maxHeartbeats 4000000 in
set_option maxRecDepth 100000 in
theorem dists5_calls (w : World) :
    Calls Tryd.prog 75 #[] w fun e w' => (∃ v, e = .returned v ∧ w'.ownsRow w.heap.size 129 3 v 30 (dstRows 30)) ∧ Below w.heap.size w w' := by
  have hii : Tryd.prog.info? 129 = some tr5 := by kernel_rfl
  have hiz0 : tr5.zero = some (.agg #[.int .i64 0, .int .i64 0, .int .i64 0]) := by kernel_rfl
  have hiz1 : tr5.size = 3 := by kernel_rfl
  have hiz2 : tr5.bytes = 24 := by kernel_rfl
  go_enter Tryd.func75, Tryd.ntmps75
  have HO1 : Hid ((w.alloc (.cells (row3 0 1 0 ++ (row3 1 2 0 ++ (row3 2 3 0 ++ row3 3 4 0))).toArray 129)).ownsRow w.heap.size 129 3 (.slice (some ⟨w.heap.size, 0, none⟩) 4 4) (4 + 2 * 0) (dstRows (4 + 2 * 0))) := Lib.hid (by
    rw [Nat.mul_zero, Nat.add_zero, at_start.2.2.2.2]
    exact own_four (Below.refl w.heap.size w) _ _ rfl (by
      intro u hu
      simp only [List.mem_append] at hu
      rcases hu with h | h | h | h <;> exact row3_one _ _ _ u h))
  have HB : Hid (Below w.heap.size w (w.alloc (.cells (row3 0 1 0 ++ (row3 1 2 0 ++ (row3 2 3 0 ++ row3 3 4 0))).toArray 129))) := Lib.hid ((Below.refl w.heap.size w).alloc (Nat.le_refl _) _)
  go_wp2
  go_loopw [1, 2, 3, 4] (fun va vt vs ve wr => ∃ j : Nat, j ≤ 13 ∧ ve = .int .i64 ((j : Int) + 1) ∧ vs = .int .i64 (szP j : Int) ∧ vt = .int .i64 (atD (4 + 2 * j) : Int) ∧ wr.ownsRow w.heap.size 129 3 va (4 + 2 * j) (dstRows (4 + 2 * j)) ∧ Below w.heap.size w wr) (fun _ _ _ ve _ => 14 - (intOf ve).toNat)
  case atStart => exact ⟨0, Nat.zero_le _, rfl, by rw [at_start.2.1]; rfl, by rw [Nat.mul_zero, Nat.add_zero, at_start.2.2.1]; rfl, HO1.out, HB.out⟩
  case round =>
    obtain ⟨j, hj, rfl, rfl, rfl, hown, hbl⟩ := hrel
    have HO2 := Lib.hid hown
    have HB2 := Lib.hid hbl
    clear hown hbl HO1 HB
    by_cases hjl : j < 13
    · have q2 : decide ((j : Int) + 1 ≤ 13) = true := decide_eq_true (by omega)
      obtain ⟨S, hS⟩ : ∃ S, szP j = S := ⟨_, rfl⟩
      rw [hS]
      have HM : Hid (∀ i, i < 2 → dstLeast (4 + 2 * j + i) = atD (4 + 2 * j + i) ∧ dstBits (4 + 2 * j + i) = j + 1 ∧ atD (4 + 2 * j + (i + 1)) = atD (4 + 2 * j + i) + S ∧ atD (4 + 2 * j + i) < 100000 ∧ S < 100000 ∧ szP (j + 1) = S * 2) := Lib.hid (by rw [← hS]; exact dst_mid j hjl)
      have hSl : S < 100000 := (HM.out 0 (by decide)).2.2.2.2.1
      clear hS
      go_wp2
      go_loopw [1, 2, 5] (fun va vt vi wr => ∃ i : Nat, i ≤ 2 ∧ vi = .int .i64 i ∧ vt = .int .i64 (atD (4 + 2 * j + i) : Int) ∧ wr.ownsRow w.heap.size 129 3 va (4 + 2 * j + i) (dstRows (4 + 2 * j + i)) ∧ Below w.heap.size w wr) (fun _ _ vi _ => 2 - (intOf vi).toNat)
      case atStart => exact ⟨0, Nat.zero_le _, rfl, rfl, HO2.out, HB2.out⟩
      case round =>
        obtain ⟨i, hi, rfl, rfl, hown, hbl⟩ := hrel
        obtain ⟨gu, cu, rfl, _, _⟩ := hown.form (by omega)
        have HO3 := Lib.hid hown
        have HB3 := Lib.hid hbl
        clear hown hbl
        by_cases hil : i < 2
        · have q3 : decide ((i : Int) < 2) = true := decide_eq_true (by omega)
          obtain ⟨n, hn⟩ : ∃ n, 4 + 2 * j + i = n := ⟨_, rfl⟩
          have HMM : Hid (dstLeast n = atD n ∧ dstBits n = j + 1 ∧ atD (n + 1) = atD n + S ∧ atD n < 100000) := Lib.hid (by
            have h := HM.out i hil
            rw [← hn]
            exact ⟨h.1, h.2.1, h.2.2.1, h.2.2.2.1⟩)
          have hal := HMM.out.2.2.2
          have HNN : Hid (4 + 2 * j + (i + 1) = n + 1) := Lib.hid (by omega)
          have hnl : n < 40 := by omega
          rw [hn] at HO3 ⊢
          obtain ⟨a, ha⟩ : ∃ a, atD n = a := ⟨_, rfl⟩
          have HNX : Hid (dstRows (n + 1) = dstRows n ++ row3 (n : Int) (a : Int) ((j : Int) + 1)) := Lib.hid (by
            rw [dstRows_next, dstRow, HMM.out.1, HMM.out.2.1, ha]
            rfl)
          have HA : Hid (atD (n + 1) = a + S) := Lib.hid (by rw [HMM.out.2.2.1, ha])
          rw [ha] at hal ⊢
          clear hn HMM ha
          go_wp2_with (at_builtin; refine wpList_append_at _ rfl _ _ 123 rfl w.heap.size 129 tr5 (.agg #[.int .i64 0, .int .i64 0, .int .i64 0]) 3 24 Tryd.underlying123 hii hiz0 hiz1 hiz2 rfl (by decide) _ _ _ rfl (HO3.out.alloc _) ⟨wr.heap.size, 0, none⟩ 1 1 (row3 (n : Int) (a : Int) ((j : Int) + 1)) rfl rfl ?c1 ?c2 ?c3 ?c4 ?c5 ?_)
          case c1 => exact new_cells wr (row3 (n : Int) (a : Int) ((j : Int) + 1)) _
          case c2 => exact row3_one _ _ _
          case c3 => unfold maxLen; omega
          case c4 => omega
          case c5 => have := HB3.out.size; simp; omega
          intro v3 w3 hown1 hg1 hfr
          have hbl : Below w.heap.size w w3 := (HB3.out.alloc HB3.out.size _).grown hg1 (by have := HB3.out.size; simp; omega) (fun r e => (HO3.out.lt r e).1)
          rw [← HNX.out] at hown1
          obtain ⟨gv, cv, rfl, _, _⟩ := hown1.form (by omega)
          have HO7 : Hid (w3.ownsRow w.heap.size 129 3 (.slice (some ⟨gv, 0, none⟩) (n + 1) cv) (4 + 2 * j + (i + 1)) (dstRows (4 + 2 * j + (i + 1)))) := Lib.hid (by rw [HNN.out]; exact hown1)
          have HA7 : Hid (((a : Int) + (S : Int)) = ((atD (4 + 2 * j + (i + 1)) : Nat) : Int)) := Lib.hid (by rw [HNN.out, HA.out]; push_cast; rfl)
          have HB7 := Lib.hid hbl
          clear hown1 hg1 hbl hfr
          go_wp2
          go_roundw
          case rel => exact ⟨i + 1, by omega, by go_num, by rw [HA7.out], HO7.out, HB7.out⟩
          case measure => simp [intOf]; omega
        · have e4 : i = 2 := by omega
          have q3 : decide ((i : Int) < 2) = false := decide_eq_false (by omega)
          have HO4 : Hid (wr.ownsRow w.heap.size 129 3 (.slice (some ⟨gu, 0, none⟩) (4 + 2 * j + i) cu) (4 + 2 * (j + 1)) (dstRows (4 + 2 * (j + 1)))) := Lib.hid (by
            have e : 4 + 2 * (j + 1) = 4 + 2 * j + i := by omega
            rw [e]
            exact HO3.out)
          have HA4 : Hid (atD (4 + 2 * j + i) = atD (4 + 2 * (j + 1))) := Lib.hid (by
            have e : 4 + 2 * (j + 1) = 4 + 2 * j + i := by omega
            rw [e])
          have HS4 : Hid (((S : Int) * 2) = ((szP (j + 1) : Nat) : Int)) := Lib.hid (by rw [(HM.out 0 (by decide)).2.2.2.2.2]; push_cast; rfl)
          obtain ⟨a, ha⟩ : ∃ a, atD (4 + 2 * j + i) = a := ⟨_, rfl⟩
          obtain ⟨n, hn⟩ : ∃ n, 4 + 2 * j + i = n := ⟨_, rfl⟩
          rw [ha] at HA4 ⊢
          rw [hn] at HO4 ⊢
          clear hn ha e4 hi hil HO3
          go_wp2
          go_roundw
          case rel => exact ⟨j + 1, by omega, by go_num, by rw [HS4.out], by rw [HA4.out], HO4.out, HB3.out⟩
          case measure => simp [intOf]; omega
    · have q2 : decide ((j : Int) + 1 ≤ 13) = false := decide_eq_false (by omega)
      have HO5 : Hid (wr.ownsRow w.heap.size 129 3 u1 30 (dstRows 30)) := Lib.hid (by
        have e : 30 = 4 + 2 * j := by omega
        rw [e]
        exact HO2.out)
      obtain ⟨S, hS⟩ : ∃ S, szP j = S := ⟨_, rfl⟩
      obtain ⟨a, ha⟩ : ∃ a, atD (4 + 2 * j) = a := ⟨_, rfl⟩
      rw [hS, ha]
      obtain ⟨gu, cu, rfl, _, _⟩ := HO5.out.form (by decide)
      clear hS ha HO2 hj hjl
      go_wp2
      go_ret
      exact ⟨⟨_, rfl, HO5.out⟩, HB2.out⟩
end Go.Proofs.YtmpokiflhijnoaaDoor.Rf
