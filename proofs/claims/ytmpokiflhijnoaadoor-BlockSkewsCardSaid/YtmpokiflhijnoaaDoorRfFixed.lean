/-
  The reference of layer 7: the lengths of the kind Fixed.
-/
import Derived.Test.YtmpokiflhijnoaaDoorRfWhy
namespace Go.Proofs.YtmpokiflhijnoaaDoor.Rf
open Go.RowKit Go.Shelf Go.Proofs.YtmpokiflhijnoaaDoor.Mg Go.Proofs.YtmpokiflhijnoaaDoor.Bw Go.Proofs.YtmpokiflhijnoaaDoor.Bk Go.Proofs.YtmpokiflhijnoaaDoor.Cn Go.Proofs.YtmpokiflhijnoaaDoor.Zp
set_option linter.unusedVariables false
set_option linter.unusedSimpArgs false

theorem own_base {w : World} {b b' T size n : Nat} {v : Value} {xs : List Value} (h : w.ownsRow b T size v n xs) (hb : b' ≤ b) : w.ownsRow b' T size v n xs := by
  obtain ⟨h1, h2 | ⟨g, cap, cur, h3, h4, h5⟩⟩ := h
  · exact ⟨h1, .inl h2⟩
  · exact ⟨h1, .inr ⟨g, cap, cur, h3, Nat.le_trans hb h4, h5⟩⟩
theorem fixL_at : ∀ k, k < 288 → fixL[k]? = some (if 144 ≤ k ∧ k < 256 then 9 else if 256 ≤ k ∧ k < 280 then 7 else 8) := by decide +kernel
theorem fixL_next (k : Nat) (h : k < 288) : fixL.take (k + 1) = fixL.take k ++ [if 144 ≤ k ∧ k < 256 then 9 else if 256 ≤ k ∧ k < 280 then 7 else 8] := by
  rw [List.take_add_one, fixL_at k h]
  rfl

set_option maxHeartbeats 4000000 in
set_option maxRecDepth 100000 in
theorem reffixed_calls (w : World) :
    Calls Tryd.prog 52 #[] w fun e w' => (∃ v1 v2, e = .returned (.tuple #[v1, v2]) ∧ w'.ownsRow w.heap.size 3 1 v1 288 (intsV fixL) ∧ w'.ownsRow w.heap.size 3 1 v2 32 (intsV fixD)) ∧ Below w.heap.size w w' := by
  have hii : Tryd.prog.info? 3 = some ti := by kernel_rfl
  have hiz0 : ti.zero = some (.int .i64 0) := by kernel_rfl
  have hiz1 : ti.size = 1 := by kernel_rfl
  have hiz2 : ti.bytes = 8 := by kernel_rfl
  have N0 := Lib.hid (World.ownsRow_nil w w.heap.size 3 1)
  have B0 := Lib.hid (Below.refl w.heap.size w)
  go_enter Tryd.func52, Tryd.ntmps52
  go_wp2
  go_loopw [2, 4] (fun va vi wr => ∃ k : Nat, k ≤ 288 ∧ vi = .int .i64 k ∧ wr.ownsRow w.heap.size 3 1 va k (intsV (fixL.take k)) ∧ Below w.heap.size w wr) (fun _ vi _ => 288 - (intOf vi).toNat)
  case atStart => exact ⟨0, Nat.zero_le _, rfl, N0.out, B0.out⟩
  case round =>
    obtain ⟨k, hk, rfl, hown, hbl⟩ := hrel
    have HO := Lib.hid hown
    have HB := Lib.hid hbl
    clear hown hbl
    by_cases hlt : k < 288
    · have q1 : decide ((k : Int) < 288) = true := decide_eq_true (by omega)
      have HNX := Lib.hid (fixL_next k hlt)
      have key : ∀ z : Int, Hid (fixL.take (k + 1) = fixL.take k ++ [z]) → ∀ (v3 : Value) (w3 : World), w3.ownsRow w.heap.size 3 1 v3 (k + 1) (intsV (fixL.take k) ++ [.int .i64 z]) → w3.ownsRow w.heap.size 3 1 v3 (k + 1) (intsV (fixL.take (k + 1))) := fun z h v3 w3 ho => by
        rw [h.out, intsV_snoc]
        exact ho
      have KEY := Lib.hid key
      clear key
      by_cases h1 : 144 ≤ k ∧ k < 256
      · have t1 : decide ((144 : Int) ≤ (k : Int)) = true := decide_eq_true (by omega)
        have t2 : decide ((k : Int) < 256) = true := decide_eq_true (by omega)
        have t3 : decide ((256 : Int) ≤ (k : Int)) = false := decide_eq_false (by omega)
        rw [if_pos h1] at HNX
        go_wp2_with (at_builtin; refine wpList_append_at _ rfl _ _ 22 rfl w.heap.size 3 ti (.int .i64 0) 1 8 Tryd.underlying22 hii hiz0 hiz1 hiz2 rfl (by decide) _ _ _ rfl (HO.out.alloc _) ⟨wr.heap.size, 0, none⟩ 1 1 [.int .i64 9] rfl rfl ?c1 ?c2 ?c3 ?c4 ?c5 ?_)
        case c1 => exact new_cells wr [.int .i64 9] _
        case c2 => simp [Value.oneCell']
        case c3 => unfold maxLen; omega
        case c4 => omega
        case c5 => have := HB.out.size; simp; omega
        intro v3 w3 hown1 hg1 hfr
        have hbl : Below w.heap.size w w3 := (HB.out.alloc HB.out.size _).grown hg1 (by have := HB.out.size; simp; omega) (fun r e => (HO.out.lt r e).1)
        have hown2 := KEY.out 9 HNX _ _ hown1
        obtain ⟨gv, cv, rfl, _, _⟩ := hown2.form (by omega)
        have HO7 := Lib.hid hown2
        have HB7 := Lib.hid hbl
        clear hown1 hown2 hg1 hbl hfr
        go_wp2
        go_roundw
        case rel => exact ⟨k + 1, by omega, by go_num, HO7.out, HB7.out⟩
        case measure => simp [intOf]; omega
      · rw [if_neg h1] at HNX
        by_cases h2 : 256 ≤ k ∧ k < 280
        · have t1 : decide ((144 : Int) ≤ (k : Int)) = true := decide_eq_true (by omega)
          have t2 : decide ((k : Int) < 256) = false := decide_eq_false (by omega)
          have t3 : decide ((256 : Int) ≤ (k : Int)) = true := decide_eq_true (by omega)
          have t4 : decide ((k : Int) < 280) = true := decide_eq_true (by omega)
          rw [if_pos h2] at HNX
          go_wp2_with (at_builtin; refine wpList_append_at _ rfl _ _ 22 rfl w.heap.size 3 ti (.int .i64 0) 1 8 Tryd.underlying22 hii hiz0 hiz1 hiz2 rfl (by decide) _ _ _ rfl (HO.out.alloc _) ⟨wr.heap.size, 0, none⟩ 1 1 [.int .i64 7] rfl rfl ?c1 ?c2 ?c3 ?c4 ?c5 ?_)
          case c1 => exact new_cells wr [.int .i64 7] _
          case c2 => simp [Value.oneCell']
          case c3 => unfold maxLen; omega
          case c4 => omega
          case c5 => have := HB.out.size; simp; omega
          intro v3 w3 hown1 hg1 hfr
          have hbl : Below w.heap.size w w3 := (HB.out.alloc HB.out.size _).grown hg1 (by have := HB.out.size; simp; omega) (fun r e => (HO.out.lt r e).1)
          have hown2 := KEY.out 7 HNX _ _ hown1
          obtain ⟨gv, cv, rfl, _, _⟩ := hown2.form (by omega)
          have HO7 := Lib.hid hown2
          have HB7 := Lib.hid hbl
          clear hown1 hown2 hg1 hbl hfr
          go_wp2
          go_roundw
          case rel => exact ⟨k + 1, by omega, by go_num, HO7.out, HB7.out⟩
          case measure => simp [intOf]; omega
        · rw [if_neg h2] at HNX
          cases t1 : decide ((144 : Int) ≤ (k : Int)) <;> cases t2 : decide ((k : Int) < 256) <;> cases t3 : decide ((256 : Int) ≤ (k : Int)) <;> cases t4 : decide ((k : Int) < 280)
          all_goals first
            | (exfalso; simp only [decide_eq_true_eq, decide_eq_false_iff_not] at t1 t2 t3 t4; omega)
            | (go_wp2_with (at_builtin; refine wpList_append_at _ rfl _ _ 22 rfl w.heap.size 3 ti (.int .i64 0) 1 8 Tryd.underlying22 hii hiz0 hiz1 hiz2 rfl (by decide) _ _ _ rfl (HO.out.alloc _) ⟨wr.heap.size, 0, none⟩ 1 1 [.int .i64 8] rfl rfl ?c1 ?c2 ?c3 ?c4 ?c5 ?_)
               case c1 => exact new_cells wr [.int .i64 8] _
               case c2 => simp [Value.oneCell']
               case c3 => unfold maxLen; omega
               case c4 => omega
               case c5 => have := HB.out.size; simp; omega
               intro v3 w3 hown1 hg1 hfr
               have hbl : Below w.heap.size w w3 := (HB.out.alloc HB.out.size _).grown hg1 (by have := HB.out.size; simp; omega) (fun r e => (HO.out.lt r e).1)
               have hown2 := KEY.out 8 HNX _ _ hown1
               obtain ⟨gv, cv, rfl, _, _⟩ := hown2.form (by omega)
               have HO7 := Lib.hid hown2
               have HB7 := Lib.hid hbl
               clear hown1 hown2 hg1 hbl hfr
               go_wp2
               go_roundw
               case rel => exact ⟨k + 1, by omega, by go_num, HO7.out, HB7.out⟩
               case measure => simp [intOf]; omega)
    · have e288 : k = 288 := by omega
      have q1 : decide ((k : Int) < 288) = false := decide_eq_false (by omega)
      have HO1 : Hid (wr.ownsRow w.heap.size 3 1 u2 288 (intsV fixL)) := Lib.hid (by
        have h := HO.out
        rw [List.take_of_length_le (by rw [fixL_len, e288]; exact Nat.le_refl _)] at h
        exact e288 ▸ h)
      clear e288 hk hlt
      obtain ⟨g1, c1, rfl, _, _⟩ := HO1.out.form (by decide)
      have N1 := Lib.hid (World.ownsRow_nil wr wr.heap.size 3 1)
      have B1 := Lib.hid (Below.refl wr.heap.size wr)
      obtain ⟨w1, hw1⟩ : ∃ w1, wr = w1 := ⟨_, rfl⟩
      rw [hw1] at HO1 HB N1 B1 ⊢
      clear hw1 HO N0 B0
      go_wp2
      go_loopw [3, 6] (fun va vi wx => ∃ j : Nat, j ≤ 32 ∧ vi = .int .i64 j ∧ wx.ownsRow w1.heap.size 3 1 va j (intsV (List.replicate j 5)) ∧ Below w1.heap.size w1 wx) (fun _ vi _ => 32 - (intOf vi).toNat)
      case atStart => exact ⟨0, Nat.zero_le _, rfl, N1.out, B1.out⟩
      case round =>
        obtain ⟨j, hj, rfl, hown, hbl⟩ := hrel
        have HO2 := Lib.hid hown
        have HB2 := Lib.hid hbl
        clear hown hbl
        by_cases hjl : j < 32
        · have q2 : decide ((j : Int) < 32) = true := decide_eq_true (by omega)
          go_wp2_with (at_builtin; refine wpList_append_at _ rfl _ _ 22 rfl w1.heap.size 3 ti (.int .i64 0) 1 8 Tryd.underlying22 hii hiz0 hiz1 hiz2 rfl (by decide) _ _ _ rfl (HO2.out.alloc _) ⟨wr.heap.size, 0, none⟩ 1 1 [.int .i64 5] rfl rfl ?c1 ?c2 ?c3 ?c4 ?c5 ?_)
          case c1 => exact new_cells wr [.int .i64 5] _
          case c2 => simp [Value.oneCell']
          case c3 => unfold maxLen; omega
          case c4 => omega
          case c5 => have := HB2.out.size; simp; omega
          intro v3 w3 hown1 hg1 hfr
          have hbl : Below w1.heap.size w1 w3 := (HB2.out.alloc HB2.out.size _).grown hg1 (by have := HB2.out.size; simp; omega) (fun r e => (HO2.out.lt r e).1)
          rw [← intsV_snoc, ← List.replicate_succ'] at hown1
          obtain ⟨gv, cv, rfl, _, _⟩ := hown1.form (by omega)
          have HO7 := Lib.hid hown1
          have HB7 := Lib.hid hbl
          clear hown1 hg1 hbl hfr
          go_wp2
          go_roundw
          case rel => exact ⟨j + 1, by omega, by go_num, HO7.out, HB7.out⟩
          case measure => simp [intOf]; omega
        · obtain rfl : j = 32 := by omega
          have q2 : decide (((32 : Nat) : Int) < 32) = false := by decide
          have HF1 := Lib.hid (own_below HO1.out HB2.out)
          have HF2 : Hid (wr.ownsRow w.heap.size 3 1 u3 32 (intsV fixD)) := Lib.hid (own_base HO2.out HB.out.size)
          have HF3 := Lib.hid (HB.out.trans (HB2.out.mono HB.out.size))
          go_wp2
          go_ret2
          exact ⟨⟨_, _, rfl, HF1.out, HF2.out⟩, HF3.out⟩
end Go.Proofs.YtmpokiflhijnoaaDoor.Rf
