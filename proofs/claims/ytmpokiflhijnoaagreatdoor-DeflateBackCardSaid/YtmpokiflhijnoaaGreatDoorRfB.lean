/-
  The reference of layer 3: lengths that may be.
-/
import Derived.Test.YtmpokiflhijnoaaGreatDoorRfA
namespace Go.Proofs.YtmpokiflhijnoaaGreatDoor.Rf
open Go.RowKit Go.Shelf Go.Proofs.YtmpokiflhijnoaaGreatDoor.Mg Go.Proofs.YtmpokiflhijnoaaGreatDoor.Bw Go.Proofs.YtmpokiflhijnoaaGreatDoor.Bk Go.Proofs.YtmpokiflhijnoaaGreatDoor.Cn Go.Proofs.YtmpokiflhijnoaaGreatDoor.Zp
set_option linter.unusedVariables false
set_option linter.unusedSimpArgs false

def oneN (l : List Int) : Nat := l.count 1
theorem tot_snoc (n : Nat) (l : List Int) (k : Nat) (h : k < l.length) : tot n (l.take (k + 1)) = tot n (l.take k) + gN n l[k] := by
  rw [List.take_succ_eq_append_getElem h, tot_append]
  simp [tot]
theorem oneN_take (l : List Int) (k : Nat) (h : k < l.length) : oneN (l.take (k + 1)) = oneN (l.take k) + if l[k] = 1 then 1 else 0 := by
  unfold oneN
  rw [List.take_succ_eq_append_getElem h, List.count_append, List.count_singleton]
  simp
theorem oneN_le (l : List Int) : oneN l ≤ l.length := List.count_le_length
theorem half_pow (k : Nat) (h : k < 15) : 2 ^ (15 - k) / 2 = 2 ^ (15 - (k + 1)) := by
  rw [show 15 - k = (15 - (k + 1)) + 1 by omega, Nat.pow_succ, Nat.mul_div_cancel _ (by omega)]
/-- May lengths be? -/
def whyOk (ls : List Int) (loose : Bool) : Prop := tot 15 ls = 32768 ∨ (tot 15 ls < 32768 ∧ loose = true ∧ (posN ls = 0 ∨ (posN ls = 1 ∧ oneN ls = 1)))

set_option maxHeartbeats 4000000 in
set_option maxRecDepth 100000 in
theorem why_calls (A : Option Addr) (c : Nat) (ls : List Int) (loose : Bool) (w : World) (hA : Reads w A ls) (hl : ls.length ≤ 288) (hin : ∀ x ∈ ls, 0 ≤ x ∧ x ≤ 15) (hok : whyOk ls loose) :
    Calls Tryz.prog 49 #[.slice A ls.length c, .bool loose] w fun e w' => e = .returned (.int .i64 0) ∧ w' = w := by
  have HA := Lib.hid hA
  have HIN := Lib.hid hin
  have HOK := Lib.hid hok
  obtain ⟨n, hn⟩ : ∃ n, ls.length = n := ⟨_, rfl⟩
  have HN := Lib.hid hn
  rw [hn] at hl ⊢
  have q0 : decide (288 < (n : Int)) = false := decide_eq_false (by omega)
  have q0' : decide (288 < n) = false := decide_eq_false (by omega)
  have HT0 : Hid (tot 15 (ls.take 0) = 0 ∧ posN (ls.take 0) = 0 ∧ oneN (ls.take 0) = 0) := Lib.hid ⟨by simp [tot], by simp [posN], by simp [oneN]⟩
  clear hA hin hok hn
  go_enter Tryz.func49, Tryz.ntmps49
  go_wp2_with fail
  go_loop [5] (fun vi => ∃ k : Nat, k ≤ n ∧ vi = .int .i64 k) (fun vi => n - (intOf vi).toNat)
  case atStart => exact ⟨0, Nat.zero_le _, rfl⟩
  case round =>
    obtain ⟨k, hk, rfl⟩ := hrel
    by_cases hlt : k < n
    · have q1 : decide ((k : Int) < (n : Int)) = true := decide_eq_true (by omega)
      have q1' : decide (k < n) = true := decide_eq_true hlt
      have k1 : k < ls.length := by rw [HN.out]; exact hlt
      obtain ⟨g, o, rfl, hcell⟩ := HA.out k k1
      have hx := HIN.out _ (List.getElem_mem k1)
      obtain ⟨x, hx2⟩ : ∃ x, ls[k] = x := ⟨_, rfl⟩
      rw [hx2] at hcell hx
      have q2 : decide (x < 0) = false := decide_eq_false (by omega)
      have q3 : decide (15 < x) = false := decide_eq_false (by omega)
      have i0 : (0 : Int) ≤ (k : Int) := by omega
      have i1 : (k : Int) < (n : Int) := by omega
      clear hx2
      go_wp2
      go_round
      case rel => exact ⟨k + 1, by omega, by go_num⟩
      case measure => simp [intOf]; omega
    · obtain rfl : k = n := by omega
      have q1 : decide ((k : Int) < (k : Int)) = false := decide_eq_false (by omega)
      go_wp2_with fail
      go_loop [6, 7, 8, 9] (fun vs va vo vi => ∃ j : Nat, j ≤ k ∧ vi = .int .i64 j ∧ vs = .int .i64 (tot 15 (ls.take j) : Nat) ∧ va = .int .i64 (posN (ls.take j) : Nat) ∧ vo = .int .i64 (oneN (ls.take j) : Nat)) (fun _ _ _ vi => k - (intOf vi).toNat)
      case atStart => exact ⟨0, Nat.zero_le _, rfl, by rw [HT0.out.1]; rfl, by rw [HT0.out.2.1]; rfl, by rw [HT0.out.2.2]; rfl⟩
      case round =>
        obtain ⟨j, hj, rfl, rfl, rfl, rfl⟩ := hrel
        by_cases hlt : j < k
        · have p1 : decide ((j : Int) < (k : Int)) = true := decide_eq_true (by omega)
          have p1' : decide (j < k) = true := decide_eq_true hlt
          have j1 : j < ls.length := by rw [HN.out]; exact hlt
          obtain ⟨g, o, rfl, hcell⟩ := HA.out j j1
          have hx := HIN.out _ (List.getElem_mem j1)
          have HTS := Lib.hid (tot_snoc 15 ls j j1)
          have HPS := Lib.hid (posN_take ls j j1)
          have HOS := Lib.hid (oneN_take ls j j1)
          have hlen : (ls.take j).length ≤ 288 := by rw [List.length_take]; omega
          have b1 : tot 15 (ls.take j) ≤ 288 * 16384 := by
            have h1 := tot_pos (ls.take j)
            have h2 := posN_le (ls.take j)
            have h3 : posN (ls.take j) * 16384 ≤ 288 * 16384 := Nat.mul_le_mul_right _ (by omega)
            omega
          have b2 : posN (ls.take j) ≤ 288 := by have := posN_le (ls.take j); omega
          have b3 : oneN (ls.take j) ≤ 288 := by have := oneN_le (ls.take j); omega
          obtain ⟨x, hx2⟩ : ∃ x, ls[j] = x := ⟨_, rfl⟩
          rw [hx2] at hcell hx HTS HPS HOS
          obtain ⟨S, hS⟩ : ∃ S, tot 15 (ls.take j) = S := ⟨_, rfl⟩
          obtain ⟨Pn, hP⟩ : ∃ P, posN (ls.take j) = P := ⟨_, rfl⟩
          obtain ⟨O, hO⟩ : ∃ O, oneN (ls.take j) = O := ⟨_, rfl⟩
          rw [hS] at HTS b1
          rw [hP] at HPS b2
          rw [hO] at HOS b3
          rw [hS, hP, hO]
          have i0 : (0 : Int) ≤ (j : Int) := by omega
          have i1 : (j : Int) < (k : Int) := by omega
          clear hx2 hS hP hO hlen
          obtain ⟨m, rfl⟩ : ∃ m : Nat, x = (m : Int) := ⟨x.toNat, by omega⟩
          rcases Nat.eq_zero_or_pos m with rfl | hp
          · have HZ : Hid (tot 15 (ls.take (j + 1)) = S ∧ posN (ls.take (j + 1)) = Pn ∧ oneN (ls.take (j + 1)) = O) := Lib.hid ⟨by rw [HTS.out, gN_non 15 _ (by omega)]; rfl, by rw [HPS.out, if_neg (by omega)]; rfl, by rw [HOS.out, if_neg (by omega)]; rfl⟩
            rw [show (((0 : Nat) : Int)) = 0 from rfl] at hcell
            go_wp2
            go_round
            case rel => exact ⟨j + 1, by omega, by go_num, by rw [HZ.out.1], by rw [HZ.out.2.1], by rw [HZ.out.2.2]⟩
            case measure => simp [intOf]; omega
          · have hm15 : m ≤ 15 := by omega
            have e0 : ((m : Int) == 0) = false := beq_eq_false_iff_ne.2 (by omega)
            have e0' : (m == 0) = false := beq_eq_false_iff_ne.2 (by omega)
            have hgn : gN 15 (m : Int) = 2 ^ (15 - m) := by
              unfold gN
              rw [if_pos ⟨by omega, by omega⟩, Int.toNat_natCast]
            have hpw : 2 ^ (15 - m) ≤ 32768 := by
              have h1 : 2 ^ (15 - m) ≤ 2 ^ 15 := Nat.pow_le_pow_right (by omega) (by omega)
              have h2 : (2 : Nat) ^ 15 = 32768 := by decide
              omega
            have HST : Hid (((2 ^ (15 - 0) : Nat) : Int) = 32768) := Lib.hid (by decide)
            have HZ : Hid (tot 15 (ls.take (j + 1)) = S + 2 ^ (15 - m) ∧ posN (ls.take (j + 1)) = Pn + 1) := Lib.hid ⟨by rw [HTS.out, hgn], by rw [HPS.out, if_pos (by omega)]⟩
            clear hgn
            go_wp2_with fail
            go_loop [10, 11] (fun vp vk => ∃ i : Nat, i ≤ m ∧ vk = .int .i64 i ∧ vp = .int .i64 ((2 ^ (15 - i) : Nat) : Int)) (fun _ vk => m - (intOf vk).toNat)
            case atStart => exact ⟨0, Nat.zero_le _, rfl, by rw [HST.out]⟩
            case round =>
              obtain ⟨i, hi, rfl, rfl⟩ := hrel
              by_cases hlm : i < m
              · have p2 : decide ((i : Int) < (m : Int)) = true := decide_eq_true (by omega)
                have p2' : decide (i < m) = true := decide_eq_true hlm
                have HH := Lib.hid (half_pow i (by omega))
                have hpb : 2 ^ (15 - i) ≤ 32768 := by
                  have h1 : 2 ^ (15 - i) ≤ 2 ^ 15 := Nat.pow_le_pow_right (by omega) (by omega)
                  have h2 : (2 : Nat) ^ 15 = 32768 := by decide
                  omega
                obtain ⟨q, hq⟩ : ∃ q, 2 ^ (15 - i) = q := ⟨_, rfl⟩
                rw [hq] at HH hpb ⊢
                have htd : Int.tdiv (q : Int) 2 = ((q / 2 : Nat) : Int) := by rw [Int.tdiv_eq_ediv_of_nonneg (by omega)]; rfl
                clear hq
                go_wp2
                go_round
                case rel => exact ⟨i + 1, by omega, by go_num, by rw [← HH.out]; rfl⟩
                case measure => simp [intOf]; omega
              · obtain rfl : i = m := by omega
                have p2 : decide ((i : Int) < (i : Int)) = false := decide_eq_false (by omega)
                obtain ⟨q, hq⟩ : ∃ q, 2 ^ (15 - i) = q := ⟨_, rfl⟩
                rw [hq] at HZ hpw ⊢
                clear hq
                by_cases h1 : i = 1
                · subst h1
                  have HZO : Hid (oneN (ls.take (j + 1)) = O + 1) := Lib.hid (by rw [HOS.out, if_pos (show ((1 : Nat) : Int) = 1 from rfl)])
                  rw [show (((1 : Nat) : Int)) = 1 from rfl] at hcell
                  go_wp2
                  go_round
                  case rel => exact ⟨j + 1, by omega, by go_num, by rw [HZ.out.1]; go_num, by rw [HZ.out.2]; go_num, by rw [HZO.out]; go_num⟩
                  case measure => simp [intOf]; omega
                · have e1 : ((i : Int) == 1) = false := beq_eq_false_iff_ne.2 (by omega)
                  have e1' : (i == 1) = false := beq_eq_false_iff_ne.2 h1
                  have HZO : Hid (oneN (ls.take (j + 1)) = O) := Lib.hid (by rw [HOS.out, if_neg (by omega)]; rfl)
                  go_wp2
                  go_round
                  case rel => exact ⟨j + 1, by omega, by go_num, by rw [HZ.out.1]; go_num, by rw [HZ.out.2]; go_num, by rw [HZO.out]⟩
                  case measure => simp [intOf]; omega
        · obtain rfl : j = k := by omega
          have p1 : decide ((j : Int) < (j : Int)) = false := decide_eq_false (by omega)
          have hfin : ls.take j = ls := List.take_of_length_le (by rw [HN.out]; exact Nat.le_refl _)
          rw [hfin]
          have hok := HOK.out
          unfold whyOk at hok
          obtain ⟨S, hS⟩ : ∃ S, tot 15 ls = S := ⟨_, rfl⟩
          obtain ⟨Pn, hP⟩ : ∃ P, posN ls = P := ⟨_, rfl⟩
          obtain ⟨O, hO⟩ : ∃ O, oneN ls = O := ⟨_, rfl⟩
          rw [hS, hP, hO] at hok
          rw [hS, hP, hO]
          clear hS hP hO hfin
          rcases hok with rfl | ⟨h1, rfl, rfl | ⟨rfl, rfl⟩⟩
          · go_wp2
            go_ret
            exact ⟨rfl, rfl⟩
          · have e1 : decide ((32768 : Int) < (S : Int)) = false := decide_eq_false (by omega)
            have e2 : decide ((S : Int) < 32768) = true := decide_eq_true (by omega)
            have e1' : decide (32768 < S) = false := decide_eq_false (by omega)
            have e2' : decide (S < 32768) = true := decide_eq_true h1
            go_wp2
            go_ret
            exact ⟨rfl, rfl⟩
          · have e1 : decide ((32768 : Int) < (S : Int)) = false := decide_eq_false (by omega)
            have e2 : decide ((S : Int) < 32768) = true := decide_eq_true (by omega)
            have e1' : decide (32768 < S) = false := decide_eq_false (by omega)
            have e2' : decide (S < 32768) = true := decide_eq_true h1
            go_wp2
            go_ret
            exact ⟨rfl, rfl⟩
end Go.Proofs.YtmpokiflhijnoaaGreatDoor.Rf

/-
  The reference of layer 7: the lengths of the kind Fixed.
-/
namespace Go.Proofs.YtmpokiflhijnoaaGreatDoor.Rf
open Go.RowKit Go.Shelf Go.Proofs.YtmpokiflhijnoaaGreatDoor.Mg Go.Proofs.YtmpokiflhijnoaaGreatDoor.Bw Go.Proofs.YtmpokiflhijnoaaGreatDoor.Bk Go.Proofs.YtmpokiflhijnoaaGreatDoor.Cn Go.Proofs.YtmpokiflhijnoaaGreatDoor.Zp
set_option linter.unusedVariables false
set_option linter.unusedSimpArgs false

theorem own_base {w : World} {b b' T size n : Nat} {v : Value} {xs : List Value} (h : w.ownsRow b T size v n xs) (hb : b' ≤ b) : w.ownsRow b' T size v n xs := by
  obtain ⟨h1, h2 | ⟨g, cap, cur, h3, h4, h5⟩⟩ := h
  · exact ⟨h1, .inl h2⟩
  · exact ⟨h1, .inr ⟨g, cap, cur, h3, Nat.le_trans hb h4, h5⟩⟩
theorem fixL_at : ∀ k, k < 288 → fixL[k]? = some (if 144 ≤ k ∧ k < 256 then 9 else if 256 ≤ k ∧ k < 280 then 7 else 8) := by decide +kernel
theorem fixL_next (k : Nat) (h : k < 288) : fixL.take (k + 1) = fixL.take k ++ [if 144 ≤ k ∧ k < 256 then 9 else if 256 ≤ k ∧ k < 280 then 7 else 8] := by
  rw [List.take_add_one, fixL_at k h]
  rfl

set_option maxHeartbeats 4000000 in
set_option maxRecDepth 100000 in
theorem reffixed_calls (w : World) :
    Calls Tryz.prog 27 #[] w fun e w' => (∃ v1 v2, e = .returned (.tuple #[v1, v2]) ∧ w'.ownsRow w.heap.size 3 1 v1 288 (intsV fixL) ∧ w'.ownsRow w.heap.size 3 1 v2 32 (intsV fixD)) ∧ Below w.heap.size w w' := by
  have hii : Tryz.prog.info? 3 = some ti := by kernel_rfl
  have hiz0 : ti.zero = some (.int .i64 0) := by kernel_rfl
  have hiz1 : ti.size = 1 := by kernel_rfl
  have hiz2 : ti.bytes = 8 := by kernel_rfl
  have N0 := Lib.hid (World.ownsRow_nil w w.heap.size 3 1)
  have B0 := Lib.hid (Below.refl w.heap.size w)
  go_enter Tryz.func27, Tryz.ntmps27
  go_wp2
  go_loopw [2, 4] (fun va vi wr => ∃ k : Nat, k ≤ 288 ∧ vi = .int .i64 k ∧ wr.ownsRow w.heap.size 3 1 va k (intsV (fixL.take k)) ∧ Below w.heap.size w wr) (fun _ vi _ => 288 - (intOf vi).toNat)
  case atStart => exact ⟨0, Nat.zero_le _, rfl, N0.out, B0.out⟩
  case round =>
    obtain ⟨k, hk, rfl, hown, hbl⟩ := hrel
    have HO := Lib.hid hown
    have HB := Lib.hid hbl
    clear hown hbl
    by_cases hlt : k < 288
    · have q1 : decide ((k : Int) < 288) = true := decide_eq_true (by omega)
      have HNX := Lib.hid (fixL_next k hlt)
      have key : ∀ z : Int, Hid (fixL.take (k + 1) = fixL.take k ++ [z]) → ∀ (v3 : Value) (w3 : World), w3.ownsRow w.heap.size 3 1 v3 (k + 1) (intsV (fixL.take k) ++ [.int .i64 z]) → w3.ownsRow w.heap.size 3 1 v3 (k + 1) (intsV (fixL.take (k + 1))) := fun z h v3 w3 ho => by
        rw [h.out, intsV_snoc]
        exact ho
      have KEY := Lib.hid key
      clear key
      by_cases h1 : 144 ≤ k ∧ k < 256
      · have t1 : decide ((144 : Int) ≤ (k : Int)) = true := decide_eq_true (by omega)
        have t2 : decide ((k : Int) < 256) = true := decide_eq_true (by omega)
        have t3 : decide ((256 : Int) ≤ (k : Int)) = false := decide_eq_false (by omega)
        rw [if_pos h1] at HNX
        go_wp2_with (at_builtin; refine wpList_append_at _ rfl _ _ 64 rfl w.heap.size 3 ti (.int .i64 0) 1 8 Tryz.underlying64 hii hiz0 hiz1 hiz2 rfl (by decide) _ _ _ rfl (HO.out.alloc _) ⟨wr.heap.size, 0, none⟩ 1 1 [.int .i64 9] rfl rfl ?c1 ?c2 ?c3 ?c4 ?c5 ?_)
        case c1 => exact new_cells wr [.int .i64 9] _
        case c2 => simp [Value.oneCell']
        case c3 => unfold maxLen; omega
        case c4 => omega
        case c5 => have := HB.out.size; simp; omega
        intro v3 w3 hown1 hg1 hfr
        have hbl : Below w.heap.size w w3 := (HB.out.alloc HB.out.size _).grown hg1 (by have := HB.out.size; simp; omega) (fun r e => (HO.out.lt r e).1)
        have hown2 := KEY.out 9 HNX _ _ hown1
        obtain ⟨gv, cv, rfl, _, _⟩ := hown2.form (by omega)
        have HO7 := Lib.hid hown2
        have HB7 := Lib.hid hbl
        clear hown1 hown2 hg1 hbl hfr
        go_wp2
        go_roundw
        case rel => exact ⟨k + 1, by omega, by go_num, HO7.out, HB7.out⟩
        case measure => simp [intOf]; omega
      · rw [if_neg h1] at HNX
        by_cases h2 : 256 ≤ k ∧ k < 280
        · have t1 : decide ((144 : Int) ≤ (k : Int)) = true := decide_eq_true (by omega)
          have t2 : decide ((k : Int) < 256) = false := decide_eq_false (by omega)
          have t3 : decide ((256 : Int) ≤ (k : Int)) = true := decide_eq_true (by omega)
          have t4 : decide ((k : Int) < 280) = true := decide_eq_true (by omega)
          rw [if_pos h2] at HNX
          go_wp2_with (at_builtin; refine wpList_append_at _ rfl _ _ 64 rfl w.heap.size 3 ti (.int .i64 0) 1 8 Tryz.underlying64 hii hiz0 hiz1 hiz2 rfl (by decide) _ _ _ rfl (HO.out.alloc _) ⟨wr.heap.size, 0, none⟩ 1 1 [.int .i64 7] rfl rfl ?c1 ?c2 ?c3 ?c4 ?c5 ?_)
          case c1 => exact new_cells wr [.int .i64 7] _
          case c2 => simp [Value.oneCell']
          case c3 => unfold maxLen; omega
          case c4 => omega
          case c5 => have := HB.out.size; simp; omega
          intro v3 w3 hown1 hg1 hfr
          have hbl : Below w.heap.size w w3 := (HB.out.alloc HB.out.size _).grown hg1 (by have := HB.out.size; simp; omega) (fun r e => (HO.out.lt r e).1)
          have hown2 := KEY.out 7 HNX _ _ hown1
          obtain ⟨gv, cv, rfl, _, _⟩ := hown2.form (by omega)
          have HO7 := Lib.hid hown2
          have HB7 := Lib.hid hbl
          clear hown1 hown2 hg1 hbl hfr
          go_wp2
          go_roundw
          case rel => exact ⟨k + 1, by omega, by go_num, HO7.out, HB7.out⟩
          case measure => simp [intOf]; omega
        · rw [if_neg h2] at HNX
          cases t1 : decide ((144 : Int) ≤ (k : Int)) <;> cases t2 : decide ((k : Int) < 256) <;> cases t3 : decide ((256 : Int) ≤ (k : Int)) <;> cases t4 : decide ((k : Int) < 280)
          all_goals first
            | (exfalso; simp only [decide_eq_true_eq, decide_eq_false_iff_not] at t1 t2 t3 t4; omega)
            | (go_wp2_with (at_builtin; refine wpList_append_at _ rfl _ _ 64 rfl w.heap.size 3 ti (.int .i64 0) 1 8 Tryz.underlying64 hii hiz0 hiz1 hiz2 rfl (by decide) _ _ _ rfl (HO.out.alloc _) ⟨wr.heap.size, 0, none⟩ 1 1 [.int .i64 8] rfl rfl ?c1 ?c2 ?c3 ?c4 ?c5 ?_)
               case c1 => exact new_cells wr [.int .i64 8] _
               case c2 => simp [Value.oneCell']
               case c3 => unfold maxLen; omega
               case c4 => omega
               case c5 => have := HB.out.size; simp; omega
               intro v3 w3 hown1 hg1 hfr
               have hbl : Below w.heap.size w w3 := (HB.out.alloc HB.out.size _).grown hg1 (by have := HB.out.size; simp; omega) (fun r e => (HO.out.lt r e).1)
               have hown2 := KEY.out 8 HNX _ _ hown1
               obtain ⟨gv, cv, rfl, _, _⟩ := hown2.form (by omega)
               have HO7 := Lib.hid hown2
               have HB7 := Lib.hid hbl
               clear hown1 hown2 hg1 hbl hfr
               go_wp2
               go_roundw
               case rel => exact ⟨k + 1, by omega, by go_num, HO7.out, HB7.out⟩
               case measure => simp [intOf]; omega)
    · have e288 : k = 288 := by omega
      have q1 : decide ((k : Int) < 288) = false := decide_eq_false (by omega)
      have HO1 : Hid (wr.ownsRow w.heap.size 3 1 u2 288 (intsV fixL)) := Lib.hid (by
        have h := HO.out
        rw [List.take_of_length_le (by rw [fixL_len, e288]; exact Nat.le_refl _)] at h
        exact e288 ▸ h)
      clear e288 hk hlt
      obtain ⟨g1, c1, rfl, _, _⟩ := HO1.out.form (by decide)
      have N1 := Lib.hid (World.ownsRow_nil wr wr.heap.size 3 1)
      have B1 := Lib.hid (Below.refl wr.heap.size wr)
      obtain ⟨w1, hw1⟩ : ∃ w1, wr = w1 := ⟨_, rfl⟩
      rw [hw1] at HO1 HB N1 B1 ⊢
      clear hw1 HO N0 B0
      go_wp2
      go_loopw [3, 6] (fun va vi wx => ∃ j : Nat, j ≤ 32 ∧ vi = .int .i64 j ∧ wx.ownsRow w1.heap.size 3 1 va j (intsV (List.replicate j 5)) ∧ Below w1.heap.size w1 wx) (fun _ vi _ => 32 - (intOf vi).toNat)
      case atStart => exact ⟨0, Nat.zero_le _, rfl, N1.out, B1.out⟩
      case round =>
        obtain ⟨j, hj, rfl, hown, hbl⟩ := hrel
        have HO2 := Lib.hid hown
        have HB2 := Lib.hid hbl
        clear hown hbl
        by_cases hjl : j < 32
        · have q2 : decide ((j : Int) < 32) = true := decide_eq_true (by omega)
          go_wp2_with (at_builtin; refine wpList_append_at _ rfl _ _ 64 rfl w1.heap.size 3 ti (.int .i64 0) 1 8 Tryz.underlying64 hii hiz0 hiz1 hiz2 rfl (by decide) _ _ _ rfl (HO2.out.alloc _) ⟨wr.heap.size, 0, none⟩ 1 1 [.int .i64 5] rfl rfl ?c1 ?c2 ?c3 ?c4 ?c5 ?_)
          case c1 => exact new_cells wr [.int .i64 5] _
          case c2 => simp [Value.oneCell']
          case c3 => unfold maxLen; omega
          case c4 => omega
          case c5 => have := HB2.out.size; simp; omega
          intro v3 w3 hown1 hg1 hfr
          have hbl : Below w1.heap.size w1 w3 := (HB2.out.alloc HB2.out.size _).grown hg1 (by have := HB2.out.size; simp; omega) (fun r e => (HO2.out.lt r e).1)
          rw [← intsV_snoc, ← List.replicate_succ'] at hown1
          obtain ⟨gv, cv, rfl, _, _⟩ := hown1.form (by omega)
          have HO7 := Lib.hid hown1
          have HB7 := Lib.hid hbl
          clear hown1 hg1 hbl hfr
          go_wp2
          go_roundw
          case rel => exact ⟨j + 1, by omega, by go_num, HO7.out, HB7.out⟩
          case measure => simp [intOf]; omega
        · obtain rfl : j = 32 := by omega
          have q2 : decide (((32 : Nat) : Int) < 32) = false := by decide
          have HF1 := Lib.hid (own_below HO1.out HB2.out)
          have HF2 : Hid (wr.ownsRow w.heap.size 3 1 u3 32 (intsV fixD)) := Lib.hid (own_base HO2.out HB.out.size)
          have HF3 := Lib.hid (HB.out.trans (HB2.out.mono HB.out.size))
          go_wp2
          go_ret2
          exact ⟨⟨_, _, rfl, HF1.out, HF2.out⟩, HF3.out⟩
end Go.Proofs.YtmpokiflhijnoaaGreatDoor.Rf

/-
  The reference of layer 5: the rows of the lengths.
-/
namespace Go.Proofs.YtmpokiflhijnoaaGreatDoor.Rf
open Go.RowKit Go.Shelf Go.Proofs.YtmpokiflhijnoaaGreatDoor.Mg Go.Proofs.YtmpokiflhijnoaaGreatDoor.Bw Go.Proofs.YtmpokiflhijnoaaGreatDoor.Bk Go.Proofs.YtmpokiflhijnoaaGreatDoor.Cn Go.Proofs.YtmpokiflhijnoaaGreatDoor.Zp
set_option linter.unusedVariables false
set_option linter.unusedSimpArgs false

noncomputable def tr5 : TypeInfo := (Tryz.prog.info? 96).getD default
def row3 (s l b : Int) : List Value := [.int .i64 s, .int .i64 l, .int .i64 b]
def lenRow (d : Nat) : List Value := row3 (257 + (d : Int)) (lenLeast d : Int) (lenBits d : Int)
def dstRow (d : Nat) : List Value := row3 (d : Int) (dstLeast d : Int) (dstBits d : Int)
def lenRows (n : Nat) : List Value := (List.range n).flatMap lenRow
def dstRows (n : Nat) : List Value := (List.range n).flatMap dstRow
theorem lenRows_next (n : Nat) : lenRows (n + 1) = lenRows n ++ lenRow n := by simp [lenRows, List.range_succ]
theorem dstRows_next (n : Nat) : dstRows (n + 1) = dstRows n ++ dstRow n := by simp [dstRows, List.range_succ]
def atL (n : Nat) : Nat := (stepsP n 3 8 4).1
def atD (n : Nat) : Nat := (stepsP n 1 4 2).1
def szP (j : Nat) : Nat := 2 ^ (j + 1)
theorem len_low : ∀ k, k < 8 → lenLeast k = 3 + k ∧ lenBits k = 0 := by decide +kernel
theorem len_mid : ∀ j, j < 5 → ∀ i, i < 4 → lenLeast (8 + 4 * j + i) = atL (8 + 4 * j + i) ∧ lenBits (8 + 4 * j + i) = j + 1 ∧ atL (8 + 4 * j + (i + 1)) = atL (8 + 4 * j + i) + szP j ∧ atL (8 + 4 * j + i) < 1000 ∧ szP j < 1000 ∧ szP (j + 1) = szP j * 2 := by decide +kernel
theorem dst_mid : ∀ j, j < 13 → ∀ i, i < 2 → dstLeast (4 + 2 * j + i) = atD (4 + 2 * j + i) ∧ dstBits (4 + 2 * j + i) = j + 1 ∧ atD (4 + 2 * j + (i + 1)) = atD (4 + 2 * j + i) + szP j ∧ atD (4 + 2 * j + i) < 100000 ∧ szP j < 100000 ∧ szP (j + 1) = szP j * 2 := by decide +kernel
theorem at_start : atL 8 = 11 ∧ szP 0 = 2 ∧ atD 4 = 5 ∧ lenRow 28 = row3 285 258 0 ∧ dstRows 4 = row3 0 1 0 ++ (row3 1 2 0 ++ (row3 2 3 0 ++ row3 3 4 0)) := ⟨by decide +kernel, by decide +kernel, by decide +kernel, by rfl, by rfl⟩
theorem row3_one (a b c : Int) : ∀ u ∈ row3 a b c, u.oneCell' = true := by
  intro u hu
  simp [row3] at hu
  rcases hu with rfl | rfl | rfl <;> rfl

set_option maxHeartbeats 4000000 in
set_option maxRecDepth 100000 in
theorem lengths5_calls (w : World) :
    Calls Tryz.prog 45 #[] w fun e w' => (∃ v, e = .returned v ∧ w'.ownsRow w.heap.size 96 3 v 29 (lenRows 29)) ∧ Below w.heap.size w w' := by
  have hii : Tryz.prog.info? 96 = some tr5 := by kernel_rfl
  have hiz0 : tr5.zero = some (.agg #[.int .i64 0, .int .i64 0, .int .i64 0]) := by kernel_rfl
  have hiz1 : tr5.size = 3 := by kernel_rfl
  have hiz2 : tr5.bytes = 24 := by kernel_rfl
  have N0 := Lib.hid (World.ownsRow_nil w w.heap.size 96 3)
  have B0 := Lib.hid (Below.refl w.heap.size w)
  go_enter Tryz.func45, Tryz.ntmps45
  go_wp2
  go_loopw [1, 2] (fun va vi wr => ∃ k : Nat, k ≤ 8 ∧ vi = .int .i64 k ∧ wr.ownsRow w.heap.size 96 3 va k (lenRows k) ∧ Below w.heap.size w wr) (fun _ vi _ => 8 - (intOf vi).toNat)
  case atStart => exact ⟨0, Nat.zero_le _, rfl, N0.out, B0.out⟩
  case round =>
    obtain ⟨k, hk, rfl, hown, hbl⟩ := hrel
    have HO := Lib.hid hown
    have HB := Lib.hid hbl
    clear hown hbl
    by_cases hlt : k < 8
    · have q1 : decide ((k : Int) < 8) = true := decide_eq_true (by omega)
      have HNX : Hid (lenRows (k + 1) = lenRows k ++ row3 (257 + (k : Int)) (3 + (k : Int)) 0) := Lib.hid (by
        rw [lenRows_next, lenRow, (len_low k hlt).1, (len_low k hlt).2]
        rfl)
      go_wp2_with (at_builtin; refine wpList_append_at _ rfl _ _ 89 rfl w.heap.size 96 tr5 (.agg #[.int .i64 0, .int .i64 0, .int .i64 0]) 3 24 Tryz.underlying89 hii hiz0 hiz1 hiz2 rfl (by decide) _ _ _ rfl (HO.out.alloc _) ⟨wr.heap.size, 0, none⟩ 1 1 (row3 (257 + (k : Int)) (3 + (k : Int)) 0) rfl rfl ?c1 ?c2 ?c3 ?c4 ?c5 ?_)
      case c1 => exact new_cells wr (row3 (257 + (k : Int)) (3 + (k : Int)) 0) _
      case c2 => exact row3_one _ _ _
      case c3 => unfold maxLen; omega
      case c4 => omega
      case c5 => have := HB.out.size; simp; omega
      intro v3 w3 hown1 hg1 hfr
      have hbl : Below w.heap.size w w3 := (HB.out.alloc HB.out.size _).grown hg1 (by have := HB.out.size; simp; omega) (fun r e => (HO.out.lt r e).1)
      rw [← HNX.out] at hown1
      obtain ⟨gv, cv, rfl, _, _⟩ := hown1.form (by omega)
      have HO7 := Lib.hid hown1
      have HB7 := Lib.hid hbl
      clear hown1 hg1 hbl hfr
      go_wp2
      go_roundw
      case rel => exact ⟨k + 1, by omega, by go_num, HO7.out, HB7.out⟩
      case measure => simp [intOf]; omega
    · have e8 : k = 8 := by omega
      have q1 : decide ((k : Int) < 8) = false := decide_eq_false (by omega)
      have HO1 : Hid (wr.ownsRow w.heap.size 96 3 u1 (8 + 4 * 0) (lenRows (8 + 4 * 0))) := Lib.hid (e8 ▸ HO.out)
      obtain ⟨w1, hw1⟩ : ∃ w1, wr = w1 := ⟨_, rfl⟩
      rw [hw1] at HO1 HB ⊢
      clear hw1 HO N0 B0 e8 hk hlt
      go_wp2
      go_loopw [1, 3, 4, 5] (fun va vt vs ve wr => ∃ j : Nat, j ≤ 5 ∧ ve = .int .i64 ((j : Int) + 1) ∧ vs = .int .i64 (szP j : Int) ∧ vt = .int .i64 (atL (8 + 4 * j) : Int) ∧ wr.ownsRow w.heap.size 96 3 va (8 + 4 * j) (lenRows (8 + 4 * j)) ∧ Below w.heap.size w wr) (fun _ _ _ ve _ => 6 - (intOf ve).toNat)
      case atStart => exact ⟨0, Nat.zero_le _, rfl, by rw [at_start.2.1]; rfl, by rw [Nat.mul_zero, Nat.add_zero, at_start.1]; rfl, HO1.out, HB.out⟩
      case round =>
        obtain ⟨j, hj, rfl, rfl, rfl, hown, hbl⟩ := hrel
        have HO2 := Lib.hid hown
        have HB2 := Lib.hid hbl
        clear hown hbl HO1 HB
        by_cases hjl : j < 5
        · have q2 : decide ((j : Int) + 1 ≤ 5) = true := decide_eq_true (by omega)
          obtain ⟨S, hS⟩ : ∃ S, szP j = S := ⟨_, rfl⟩
          rw [hS]
          have HM : Hid (∀ i, i < 4 → lenLeast (8 + 4 * j + i) = atL (8 + 4 * j + i) ∧ lenBits (8 + 4 * j + i) = j + 1 ∧ atL (8 + 4 * j + (i + 1)) = atL (8 + 4 * j + i) + S ∧ atL (8 + 4 * j + i) < 1000 ∧ S < 1000 ∧ szP (j + 1) = S * 2) := Lib.hid (by rw [← hS]; exact len_mid j hjl)
          have hSl : S < 1000 := (HM.out 0 (by decide)).2.2.2.2.1
          clear hS
          go_wp2
          go_loopw [1, 3, 6] (fun va vt vi wr => ∃ i : Nat, i ≤ 4 ∧ vi = .int .i64 i ∧ vt = .int .i64 (atL (8 + 4 * j + i) : Int) ∧ wr.ownsRow w.heap.size 96 3 va (8 + 4 * j + i) (lenRows (8 + 4 * j + i)) ∧ Below w.heap.size w wr) (fun _ _ vi _ => 4 - (intOf vi).toNat)
          case atStart => exact ⟨0, Nat.zero_le _, rfl, rfl, HO2.out, HB2.out⟩
          case round =>
            obtain ⟨i, hi, rfl, rfl, hown, hbl⟩ := hrel
            obtain ⟨gu, cu, rfl, _, _⟩ := hown.form (by omega)
            have HO3 := Lib.hid hown
            have HB3 := Lib.hid hbl
            clear hown hbl
            by_cases hil : i < 4
            · have q3 : decide ((i : Int) < 4) = true := decide_eq_true (by omega)
              obtain ⟨n, hn⟩ : ∃ n, 8 + 4 * j + i = n := ⟨_, rfl⟩
              have HMM : Hid (lenLeast n = atL n ∧ lenBits n = j + 1 ∧ atL (n + 1) = atL n + S ∧ atL n < 1000) := Lib.hid (by
                have h := HM.out i hil
                rw [← hn]
                exact ⟨h.1, h.2.1, h.2.2.1, h.2.2.2.1⟩)
              have hal := HMM.out.2.2.2
              have HNN : Hid (8 + 4 * j + (i + 1) = n + 1) := Lib.hid (by omega)
              have hnl : n < 40 := by omega
              rw [hn] at HO3 ⊢
              obtain ⟨a, ha⟩ : ∃ a, atL n = a := ⟨_, rfl⟩
              have HNX : Hid (lenRows (n + 1) = lenRows n ++ row3 (257 + (n : Int)) (a : Int) ((j : Int) + 1)) := Lib.hid (by
                rw [lenRows_next, lenRow, HMM.out.1, HMM.out.2.1, ha]
                rfl)
              have HA : Hid (atL (n + 1) = a + S) := Lib.hid (by rw [HMM.out.2.2.1, ha])
              rw [ha] at hal ⊢
              clear hn HMM ha
              go_wp2_with (at_builtin; refine wpList_append_at _ rfl _ _ 89 rfl w.heap.size 96 tr5 (.agg #[.int .i64 0, .int .i64 0, .int .i64 0]) 3 24 Tryz.underlying89 hii hiz0 hiz1 hiz2 rfl (by decide) _ _ _ rfl (HO3.out.alloc _) ⟨wr.heap.size, 0, none⟩ 1 1 (row3 (257 + (n : Int)) (a : Int) ((j : Int) + 1)) rfl rfl ?c1 ?c2 ?c3 ?c4 ?c5 ?_)
              case c1 => exact new_cells wr (row3 (257 + (n : Int)) (a : Int) ((j : Int) + 1)) _
              case c2 => exact row3_one _ _ _
              case c3 => unfold maxLen; omega
              case c4 => omega
              case c5 => have := HB3.out.size; simp; omega
              intro v3 w3 hown1 hg1 hfr
              have hbl : Below w.heap.size w w3 := (HB3.out.alloc HB3.out.size _).grown hg1 (by have := HB3.out.size; simp; omega) (fun r e => (HO3.out.lt r e).1)
              rw [← HNX.out] at hown1
              obtain ⟨gv, cv, rfl, _, _⟩ := hown1.form (by omega)
              have HO7 : Hid (w3.ownsRow w.heap.size 96 3 (.slice (some ⟨gv, 0, none⟩) (n + 1) cv) (8 + 4 * j + (i + 1)) (lenRows (8 + 4 * j + (i + 1)))) := Lib.hid (by rw [HNN.out]; exact hown1)
              have HA7 : Hid (((a : Int) + (S : Int)) = ((atL (8 + 4 * j + (i + 1)) : Nat) : Int)) := Lib.hid (by rw [HNN.out, HA.out]; push_cast; rfl)
              have HB7 := Lib.hid hbl
              clear hown1 hg1 hbl hfr
              go_wp2
              go_roundw
              case rel => exact ⟨i + 1, by omega, by go_num, by rw [HA7.out], HO7.out, HB7.out⟩
              case measure => simp [intOf]; omega
            · have e4 : i = 4 := by omega
              have q3 : decide ((i : Int) < 4) = false := decide_eq_false (by omega)
              have HO4 : Hid (wr.ownsRow w.heap.size 96 3 (.slice (some ⟨gu, 0, none⟩) (8 + 4 * j + i) cu) (8 + 4 * (j + 1)) (lenRows (8 + 4 * (j + 1)))) := Lib.hid (by
                have e : 8 + 4 * (j + 1) = 8 + 4 * j + i := by omega
                rw [e]
                exact HO3.out)
              have HA4 : Hid (atL (8 + 4 * j + i) = atL (8 + 4 * (j + 1))) := Lib.hid (by
                have e : 8 + 4 * (j + 1) = 8 + 4 * j + i := by omega
                rw [e])
              have HS4 : Hid (((S : Int) * 2) = ((szP (j + 1) : Nat) : Int)) := Lib.hid (by rw [(HM.out 0 (by decide)).2.2.2.2.2]; push_cast; rfl)
              obtain ⟨a, ha⟩ : ∃ a, atL (8 + 4 * j + i) = a := ⟨_, rfl⟩
              obtain ⟨n, hn⟩ : ∃ n, 8 + 4 * j + i = n := ⟨_, rfl⟩
              rw [ha] at HA4 ⊢
              rw [hn] at HO4 ⊢
              clear hn ha e4 hi hil HO3
              go_wp2
              go_roundw
              case rel => exact ⟨j + 1, by omega, by go_num, by rw [HS4.out], by rw [HA4.out], HO4.out, HB3.out⟩
              case measure => simp [intOf]; omega
        · have q2 : decide ((j : Int) + 1 ≤ 5) = false := decide_eq_false (by omega)
          have HO5 : Hid (wr.ownsRow w.heap.size 96 3 u1 28 (lenRows 28)) := Lib.hid (by
            have e : 28 = 8 + 4 * j := by omega
            rw [e]
            exact HO2.out)
          obtain ⟨S, hS⟩ : ∃ S, szP j = S := ⟨_, rfl⟩
          obtain ⟨a, ha⟩ : ∃ a, atL (8 + 4 * j) = a := ⟨_, rfl⟩
          rw [hS, ha]
          obtain ⟨gu, cu, rfl, _, _⟩ := HO5.out.form (by decide)
          clear hS ha HO2 hj hjl
          go_wp2_with (at_builtin; refine wpList_append_at _ rfl _ _ 89 rfl w.heap.size 96 tr5 (.agg #[.int .i64 0, .int .i64 0, .int .i64 0]) 3 24 Tryz.underlying89 hii hiz0 hiz1 hiz2 rfl (by decide) _ _ _ rfl (HO5.out.alloc _) ⟨wr.heap.size, 0, none⟩ 1 1 (row3 285 258 0) rfl rfl ?c1 ?c2 ?c3 ?c4 ?c5 ?_)
          case c1 => exact new_cells wr (row3 285 258 0) _
          case c2 => exact row3_one _ _ _
          case c3 => unfold maxLen; omega
          case c4 => omega
          case c5 => have := HB2.out.size; simp; omega
          intro v3 w3 hown1 hg1 hfr
          have hbl : Below w.heap.size w w3 := (HB2.out.alloc HB2.out.size _).grown hg1 (by have := HB2.out.size; simp; omega) (fun r e => (HO5.out.lt r e).1)
          have HO7 : Hid (w3.ownsRow w.heap.size 96 3 v3 29 (lenRows 29)) := Lib.hid (by
            rw [lenRows_next 28, at_start.2.2.2.1]
            exact hown1)
          have HB7 := Lib.hid hbl
          clear hown1 hg1 hbl hfr
          go_wp2
          go_ret
          exact ⟨⟨_, rfl, HO7.out⟩, HB7.out⟩
end Go.Proofs.YtmpokiflhijnoaaGreatDoor.Rf

/-
  The reference of layer 5: the rows of the distances.
-/
namespace Go.Proofs.YtmpokiflhijnoaaGreatDoor.Rf
open Go.RowKit Go.Shelf Go.Proofs.YtmpokiflhijnoaaGreatDoor.Mg Go.Proofs.YtmpokiflhijnoaaGreatDoor.Bw Go.Proofs.YtmpokiflhijnoaaGreatDoor.Bk Go.Proofs.YtmpokiflhijnoaaGreatDoor.Cn Go.Proofs.YtmpokiflhijnoaaGreatDoor.Zp
set_option linter.unusedVariables false
set_option linter.unusedSimpArgs false

theorem own_four {w W : World} (hb : Below w.heap.size w W) (T : TypeId) (l : List Value) (hl : l.length = 12) (h1 : ∀ u ∈ l, u.oneCell' = true) : (W.alloc (.cells l.toArray T)).ownsRow w.heap.size T 3 (.slice (some ⟨W.heap.size, 0, none⟩) 4 4) 4 l := by
  refine ⟨hl, .inr ⟨W.heap.size, 4, l.toArray, rfl, hb.size, ?_⟩⟩
  refine ⟨?_, Nat.le_refl _, by unfold maxLen; omega, by simp [hl], ?_⟩
  · rw [World.alloc_heap_new]
  · exact List.take_of_length_le (by rw [show l.toArray.toList = l from rfl, hl]; exact Nat.le_refl _)

set_option maxHeartbeats 4000000 in
set_option maxRecDepth 100000 in
theorem dists5_calls (w : World) :
    Calls Tryz.prog 46 #[] w fun e w' => (∃ v, e = .returned v ∧ w'.ownsRow w.heap.size 96 3 v 30 (dstRows 30)) ∧ Below w.heap.size w w' := by
  have hii : Tryz.prog.info? 96 = some tr5 := by kernel_rfl
  have hiz0 : tr5.zero = some (.agg #[.int .i64 0, .int .i64 0, .int .i64 0]) := by kernel_rfl
  have hiz1 : tr5.size = 3 := by kernel_rfl
  have hiz2 : tr5.bytes = 24 := by kernel_rfl
  go_enter Tryz.func46, Tryz.ntmps46
  have HO1 : Hid ((w.alloc (.cells (row3 0 1 0 ++ (row3 1 2 0 ++ (row3 2 3 0 ++ row3 3 4 0))).toArray 96)).ownsRow w.heap.size 96 3 (.slice (some ⟨w.heap.size, 0, none⟩) 4 4) (4 + 2 * 0) (dstRows (4 + 2 * 0))) := Lib.hid (by
    rw [Nat.mul_zero, Nat.add_zero, at_start.2.2.2.2]
    exact own_four (Below.refl w.heap.size w) _ _ rfl (by
      intro u hu
      simp only [List.mem_append] at hu
      rcases hu with h | h | h | h <;> exact row3_one _ _ _ u h))
  have HB : Hid (Below w.heap.size w (w.alloc (.cells (row3 0 1 0 ++ (row3 1 2 0 ++ (row3 2 3 0 ++ row3 3 4 0))).toArray 96))) := Lib.hid ((Below.refl w.heap.size w).alloc (Nat.le_refl _) _)
  go_wp2
  go_loopw [1, 2, 3, 4] (fun va vt vs ve wr => ∃ j : Nat, j ≤ 13 ∧ ve = .int .i64 ((j : Int) + 1) ∧ vs = .int .i64 (szP j : Int) ∧ vt = .int .i64 (atD (4 + 2 * j) : Int) ∧ wr.ownsRow w.heap.size 96 3 va (4 + 2 * j) (dstRows (4 + 2 * j)) ∧ Below w.heap.size w wr) (fun _ _ _ ve _ => 14 - (intOf ve).toNat)
  case atStart => exact ⟨0, Nat.zero_le _, rfl, by rw [at_start.2.1]; rfl, by rw [Nat.mul_zero, Nat.add_zero, at_start.2.2.1]; rfl, HO1.out, HB.out⟩
  case round =>
    obtain ⟨j, hj, rfl, rfl, rfl, hown, hbl⟩ := hrel
    have HO2 := Lib.hid hown
    have HB2 := Lib.hid hbl
    clear hown hbl HO1 HB
    by_cases hjl : j < 13
    · have q2 : decide ((j : Int) + 1 ≤ 13) = true := decide_eq_true (by omega)
      obtain ⟨S, hS⟩ : ∃ S, szP j = S := ⟨_, rfl⟩
      rw [hS]
      have HM : Hid (∀ i, i < 2 → dstLeast (4 + 2 * j + i) = atD (4 + 2 * j + i) ∧ dstBits (4 + 2 * j + i) = j + 1 ∧ atD (4 + 2 * j + (i + 1)) = atD (4 + 2 * j + i) + S ∧ atD (4 + 2 * j + i) < 100000 ∧ S < 100000 ∧ szP (j + 1) = S * 2) := Lib.hid (by rw [← hS]; exact dst_mid j hjl)
      have hSl : S < 100000 := (HM.out 0 (by decide)).2.2.2.2.1
      clear hS
      go_wp2
      go_loopw [1, 2, 5] (fun va vt vi wr => ∃ i : Nat, i ≤ 2 ∧ vi = .int .i64 i ∧ vt = .int .i64 (atD (4 + 2 * j + i) : Int) ∧ wr.ownsRow w.heap.size 96 3 va (4 + 2 * j + i) (dstRows (4 + 2 * j + i)) ∧ Below w.heap.size w wr) (fun _ _ vi _ => 2 - (intOf vi).toNat)
      case atStart => exact ⟨0, Nat.zero_le _, rfl, rfl, HO2.out, HB2.out⟩
      case round =>
        obtain ⟨i, hi, rfl, rfl, hown, hbl⟩ := hrel
        obtain ⟨gu, cu, rfl, _, _⟩ := hown.form (by omega)
        have HO3 := Lib.hid hown
        have HB3 := Lib.hid hbl
        clear hown hbl
        by_cases hil : i < 2
        · have q3 : decide ((i : Int) < 2) = true := decide_eq_true (by omega)
          obtain ⟨n, hn⟩ : ∃ n, 4 + 2 * j + i = n := ⟨_, rfl⟩
          have HMM : Hid (dstLeast n = atD n ∧ dstBits n = j + 1 ∧ atD (n + 1) = atD n + S ∧ atD n < 100000) := Lib.hid (by
            have h := HM.out i hil
            rw [← hn]
            exact ⟨h.1, h.2.1, h.2.2.1, h.2.2.2.1⟩)
          have hal := HMM.out.2.2.2
          have HNN : Hid (4 + 2 * j + (i + 1) = n + 1) := Lib.hid (by omega)
          have hnl : n < 40 := by omega
          rw [hn] at HO3 ⊢
          obtain ⟨a, ha⟩ : ∃ a, atD n = a := ⟨_, rfl⟩
          have HNX : Hid (dstRows (n + 1) = dstRows n ++ row3 (n : Int) (a : Int) ((j : Int) + 1)) := Lib.hid (by
            rw [dstRows_next, dstRow, HMM.out.1, HMM.out.2.1, ha]
            rfl)
          have HA : Hid (atD (n + 1) = a + S) := Lib.hid (by rw [HMM.out.2.2.1, ha])
          rw [ha] at hal ⊢
          clear hn HMM ha
          go_wp2_with (at_builtin; refine wpList_append_at _ rfl _ _ 89 rfl w.heap.size 96 tr5 (.agg #[.int .i64 0, .int .i64 0, .int .i64 0]) 3 24 Tryz.underlying89 hii hiz0 hiz1 hiz2 rfl (by decide) _ _ _ rfl (HO3.out.alloc _) ⟨wr.heap.size, 0, none⟩ 1 1 (row3 (n : Int) (a : Int) ((j : Int) + 1)) rfl rfl ?c1 ?c2 ?c3 ?c4 ?c5 ?_)
          case c1 => exact new_cells wr (row3 (n : Int) (a : Int) ((j : Int) + 1)) _
          case c2 => exact row3_one _ _ _
          case c3 => unfold maxLen; omega
          case c4 => omega
          case c5 => have := HB3.out.size; simp; omega
          intro v3 w3 hown1 hg1 hfr
          have hbl : Below w.heap.size w w3 := (HB3.out.alloc HB3.out.size _).grown hg1 (by have := HB3.out.size; simp; omega) (fun r e => (HO3.out.lt r e).1)
          rw [← HNX.out] at hown1
          obtain ⟨gv, cv, rfl, _, _⟩ := hown1.form (by omega)
          have HO7 : Hid (w3.ownsRow w.heap.size 96 3 (.slice (some ⟨gv, 0, none⟩) (n + 1) cv) (4 + 2 * j + (i + 1)) (dstRows (4 + 2 * j + (i + 1)))) := Lib.hid (by rw [HNN.out]; exact hown1)
          have HA7 : Hid (((a : Int) + (S : Int)) = ((atD (4 + 2 * j + (i + 1)) : Nat) : Int)) := Lib.hid (by rw [HNN.out, HA.out]; push_cast; rfl)
          have HB7 := Lib.hid hbl
          clear hown1 hg1 hbl hfr
          go_wp2
          go_roundw
          case rel => exact ⟨i + 1, by omega, by go_num, by rw [HA7.out], HO7.out, HB7.out⟩
          case measure => simp [intOf]; omega
        · have e4 : i = 2 := by omega
          have q3 : decide ((i : Int) < 2) = false := decide_eq_false (by omega)
          have HO4 : Hid (wr.ownsRow w.heap.size 96 3 (.slice (some ⟨gu, 0, none⟩) (4 + 2 * j + i) cu) (4 + 2 * (j + 1)) (dstRows (4 + 2 * (j + 1)))) := Lib.hid (by
            have e : 4 + 2 * (j + 1) = 4 + 2 * j + i := by omega
            rw [e]
            exact HO3.out)
          have HA4 : Hid (atD (4 + 2 * j + i) = atD (4 + 2 * (j + 1))) := Lib.hid (by
            have e : 4 + 2 * (j + 1) = 4 + 2 * j + i := by omega
            rw [e])
          have HS4 : Hid (((S : Int) * 2) = ((szP (j + 1) : Nat) : Int)) := Lib.hid (by rw [(HM.out 0 (by decide)).2.2.2.2.2]; push_cast; rfl)
          obtain ⟨a, ha⟩ : ∃ a, atD (4 + 2 * j + i) = a := ⟨_, rfl⟩
          obtain ⟨n, hn⟩ : ∃ n, 4 + 2 * j + i = n := ⟨_, rfl⟩
          rw [ha] at HA4 ⊢
          rw [hn] at HO4 ⊢
          clear hn ha e4 hi hil HO3
          go_wp2
          go_roundw
          case rel => exact ⟨j + 1, by omega, by go_num, by rw [HS4.out], by rw [HA4.out], HO4.out, HB3.out⟩
          case measure => simp [intOf]; omega
    · have q2 : decide ((j : Int) + 1 ≤ 13) = false := decide_eq_false (by omega)
      have HO5 : Hid (wr.ownsRow w.heap.size 96 3 u1 30 (dstRows 30)) := Lib.hid (by
        have e : 30 = 4 + 2 * j := by omega
        rw [e]
        exact HO2.out)
      obtain ⟨S, hS⟩ : ∃ S, szP j = S := ⟨_, rfl⟩
      obtain ⟨a, ha⟩ : ∃ a, atD (4 + 2 * j) = a := ⟨_, rfl⟩
      rw [hS, ha]
      obtain ⟨gu, cu, rfl, _, _⟩ := HO5.out.form (by decide)
      clear hS ha HO2 hj hjl
      go_wp2
      go_ret
      exact ⟨⟨_, rfl, HO5.out⟩, HB2.out⟩
end Go.Proofs.YtmpokiflhijnoaaGreatDoor.Rf

/-
  The reference's Get (ZpGet's first half, for seats without bits.Get).
-/
namespace Go.Proofs.YtmpokiflhijnoaaGreatDoor.Zp
open Go.RowKit
set_option linter.unusedVariables false
set_option linter.unusedSimpArgs false

/-- A text's bytes as numbers; the number of a short text. -/
def byL (s : ByteArray) : List Nat := s.data.toList.map UInt8.toNat
def getS (s : ByteArray) : Nat := if s.size ≤ 8 then getB (byL s) else 0
theorem byL_len (s : ByteArray) : (byL s).length = s.size := by rw [byL, List.length_map]; rfl
theorem byL_lt (s : ByteArray) : ∀ b ∈ byL s, b < 256 := by
  intro b hb
  obtain ⟨c, _, rfl⟩ := List.mem_map.1 hb
  exact c.toNat_lt
theorem byL_drop (s : ByteArray) (k : Nat) (h : k < s.size) : getB ((byL s).drop k) = s[k].toNat + 256 * getB ((byL s).drop (k + 1)) := by
  have hl : k < (byL s).length := by rw [byL_len]; exact h
  rw [List.drop_eq_getElem_cons hl, getB]
  congr 1
  simp [byL, ByteArray.getElem_eq_getElem_data]
theorem byL_drop_lt (s : ByteArray) (k : Nat) (h : s.size ≤ k + 7) : getB ((byL s).drop k) < 72057594037927936 := by
  have h1 := getB_lt ((byL s).drop k) (fun b hb => byL_lt s b (List.mem_of_mem_drop hb))
  refine Nat.lt_of_lt_of_le h1 ?_
  rw [List.length_drop, byL_len]
  exact Nat.pow_le_pow_right (by omega) (show s.size - k ≤ 7 by omega)
theorem byL_end (s : ByteArray) (k : Nat) (h : s.size ≤ k) : getB ((byL s).drop k) = 0 := by
  rw [List.drop_of_length_le (by rw [byL_len]; exact h)]
  rfl
theorem getS_lt (s : ByteArray) : getS s < 18446744073709551616 := by
  unfold getS
  split
  · refine Nat.lt_of_lt_of_le (getB_lt _ (byL_lt s)) ?_
    rw [byL_len]
    exact Nat.pow_le_pow_right (show 256 > 0 by omega) (show s.size ≤ 8 by assumption)
  · omega

theorem nat_or_add (m i b : Nat) (hb : b < 2 ^ i) : m * 2 ^ i ||| b = m * 2 ^ i + b := by
  rw [← Nat.shiftLeft_eq, Nat.shiftLeft_add_eq_or_of_lt hb]
set_option maxRecDepth 100000 in
theorem or_u64 (n b : Nat) (hn : n < 72057594037927936) (hb : b < 2 ^ 8) : Go.bits .or .u64 ((n : Int) * 256) (b : Int) = ((b + 256 * n : Nat) : Int) := by
  have e : Go.bits .or .u64 ((n : Int) * 256) (b : Int) = IntKind.u64.wrap ((BitVec.ofInt 64 ((n : Int) * 256) ||| BitVec.ofInt 64 (b : Int)).toNat : Int) := rfl
  have e1 : BitVec.ofInt 64 ((n : Int) * 256) = BitVec.ofNat 64 (n * 256) := by
    rw [← BitVec.ofInt_natCast, Int.natCast_mul]
    rfl
  rw [e, e1, BitVec.ofInt_natCast, BitVec.toNat_or, BitVec.toNat_ofNat, BitVec.toNat_ofNat, Nat.mod_eq_of_lt (by omega), Nat.mod_eq_of_lt (by omega)]
  have e2 := nat_or_add n 8 b hb
  rw [show n * 256 = n * 2 ^ 8 from rfl, e2, IntKind.wrap_u64]
  omega

set_option maxHeartbeats 1000000 in
set_option maxRecDepth 100000 in
theorem refget_calls (s : ByteArray) (w : World) (hs : s.size ≤ 140737488351232) :
    Calls Tryz.prog 43 #[.string s] w fun e w' => e = .returned (.int .u64 (getS s)) ∧ w = w' := by
  by_cases h8 : s.size ≤ 8
  · have q2 : decide ((s.size : Int) ≤ 8) = true := decide_eq_true (by omega)
    have HG : Hid (getS s = getB ((byL s).drop 0)) := Lib.hid (by unfold getS; rw [if_pos h8]; rfl)
    go_enter Tryz.func43, Tryz.ntmps43
    go_wp2
    go_loop [3, 4] (fun p i => ∃ k : Nat, k ≤ s.size ∧ i = .int .i64 k ∧ p = .int .u64 (getB ((byL s).drop k))) (fun _ i => (intOf i).toNat)
    case atStart => exact ⟨s.size, by omega, rfl, by rw [byL_end s _ (by omega)]; rfl⟩
    case round =>
      obtain ⟨k, hk, rfl, rfl⟩ := hrel
      rcases Nat.eq_zero_or_pos k with rfl | hp
      · go_wp2
        go_ret
        exact ⟨by rw [HG.out]; rfl, rfl⟩
      · obtain ⟨j, rfl⟩ : ∃ j, k = j + 1 := ⟨k - 1, by omega⟩
        have HD := Lib.hid (byL_drop s j (by omega))
        have hb := byL_drop_lt s (j + 1) (by omega)
        have hc := s[j].toNat_lt
        generalize getB ((byL s).drop (j + 1)) = n at *
        have q3 : decide ((0 : Int) < ((j + 1 : Nat) : Int)) = true := decide_eq_true (by omega)
        go_wp2
        go_round
        case rel => exact ⟨j, by omega, by go_num, by rw [HD.out]; go_num⟩
        case measure => simp [intOf]
  · have q2 : decide ((s.size : Int) ≤ 8) = false := decide_eq_false (by omega)
    have q3 : decide ((0 : Int) < (s.size : Int)) = true := decide_eq_true (by omega)
    have HG : Hid (getS s = 0) := Lib.hid (by unfold getS; rw [if_neg h8])
    go_enter Tryz.func43, Tryz.ntmps43
    go_wp2
    go_loop [3, 4] (fun p i => i = .int .i64 s.size ∧ p = .int .u64 0) (fun _ i => (intOf i).toNat)
    case atStart => exact ⟨rfl, rfl⟩
    case round =>
      obtain ⟨rfl, rfl⟩ := hrel
      go_wp2
      go_ret
      exact ⟨by rw [HG.out]; rfl, rfl⟩

end Go.Proofs.YtmpokiflhijnoaaGreatDoor.Zp

