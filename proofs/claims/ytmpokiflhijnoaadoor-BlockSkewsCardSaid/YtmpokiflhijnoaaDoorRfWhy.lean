/-
  The reference of layer 3: lengths that may be.
-/
import Derived.Test.YtmpokiflhijnoaaDoorRfFind
namespace Go.Proofs.YtmpokiflhijnoaaDoor.Rf
open Go.RowKit Go.Shelf Go.Proofs.YtmpokiflhijnoaaDoor.Mg Go.Proofs.YtmpokiflhijnoaaDoor.Bw Go.Proofs.YtmpokiflhijnoaaDoor.Bk Go.Proofs.YtmpokiflhijnoaaDoor.Cn Go.Proofs.YtmpokiflhijnoaaDoor.Zp
set_option linter.unusedVariables false
set_option linter.unusedSimpArgs false

def oneN (l : List Int) : Nat := l.count 1
theorem tot_snoc (n : Nat) (l : List Int) (k : Nat) (h : k < l.length) : tot n (l.take (k + 1)) = tot n (l.take k) + gN n l[k] := by
  rw [List.take_succ_eq_append_getElem h, tot_append]
  simp [tot]
theorem oneN_take (l : List Int) (k : Nat) (h : k < l.length) : oneN (l.take (k + 1)) = oneN (l.take k) + if l[k] = 1 then 1 else 0 := by
  unfold oneN
  rw [List.take_succ_eq_append_getElem h, List.count_append, List.count_singleton]
  simp
theorem oneN_le (l : List Int) : oneN l ≤ l.length := List.count_le_length
theorem half_pow (k : Nat) (h : k < 15) : 2 ^ (15 - k) / 2 = 2 ^ (15 - (k + 1)) := by
  rw [show 15 - k = (15 - (k + 1)) + 1 by omega, Nat.pow_succ, Nat.mul_div_cancel _ (by omega)]
/-- May lengths be? -/
def whyOk (ls : List Int) (loose : Bool) : Prop := tot 15 ls = 32768 ∨ (tot 15 ls < 32768 ∧ loose = true ∧ (posN ls = 0 ∨ (posN ls = 1 ∧ oneN ls = 1)))

set_option maxHeartbeats 4000000 in
set_option maxRecDepth 100000 in
theorem why_calls (A : Option Addr) (c : Nat) (ls : List Int) (loose : Bool) (w : World) (hA : Reads w A ls) (hl : ls.length ≤ 288) (hin : ∀ x ∈ ls, 0 ≤ x ∧ x ≤ 15) (hok : whyOk ls loose) :
    Calls Tryd.prog 78 #[.slice A ls.length c, .bool loose] w fun e w' => e = .returned (.int .i64 0) ∧ w' = w := by
  have HA := Lib.hid hA
  have HIN := Lib.hid hin
  have HOK := Lib.hid hok
  obtain ⟨n, hn⟩ : ∃ n, ls.length = n := ⟨_, rfl⟩
  have HN := Lib.hid hn
  rw [hn] at hl ⊢
  have q0 : decide (288 < (n : Int)) = false := decide_eq_false (by omega)
  have q0' : decide (288 < n) = false := decide_eq_false (by omega)
  have HT0 : Hid (tot 15 (ls.take 0) = 0 ∧ posN (ls.take 0) = 0 ∧ oneN (ls.take 0) = 0) := Lib.hid ⟨by simp [tot], by simp [posN], by simp [oneN]⟩
  clear hA hin hok hn
  go_enter Tryd.func78, Tryd.ntmps78
  go_wp2_with fail
  go_loop [5] (fun vi => ∃ k : Nat, k ≤ n ∧ vi = .int .i64 k) (fun vi => n - (intOf vi).toNat)
  case atStart => exact ⟨0, Nat.zero_le _, rfl⟩
  case round =>
    obtain ⟨k, hk, rfl⟩ := hrel
    by_cases hlt : k < n
    · have q1 : decide ((k : Int) < (n : Int)) = true := decide_eq_true (by omega)
      have q1' : decide (k < n) = true := decide_eq_true hlt
      have k1 : k < ls.length := by rw [HN.out]; exact hlt
      obtain ⟨g, o, rfl, hcell⟩ := HA.out k k1
      have hx := HIN.out _ (List.getElem_mem k1)
      obtain ⟨x, hx2⟩ : ∃ x, ls[k] = x := ⟨_, rfl⟩
      rw [hx2] at hcell hx
      have q2 : decide (x < 0) = false := decide_eq_false (by omega)
      have q3 : decide (15 < x) = false := decide_eq_false (by omega)
      have i0 : (0 : Int) ≤ (k : Int) := by omega
      have i1 : (k : Int) < (n : Int) := by omega
      clear hx2
      go_wp2
      go_round
      case rel => exact ⟨k + 1, by omega, by go_num⟩
      case measure => simp [intOf]; omega
    · obtain rfl : k = n := by omega
      have q1 : decide ((k : Int) < (k : Int)) = false := decide_eq_false (by omega)
      go_wp2_with fail
      go_loop [6, 7, 8, 9] (fun vs va vo vi => ∃ j : Nat, j ≤ k ∧ vi = .int .i64 j ∧ vs = .int .i64 (tot 15 (ls.take j) : Nat) ∧ va = .int .i64 (posN (ls.take j) : Nat) ∧ vo = .int .i64 (oneN (ls.take j) : Nat)) (fun _ _ _ vi => k - (intOf vi).toNat)
      case atStart => exact ⟨0, Nat.zero_le _, rfl, by rw [HT0.out.1]; rfl, by rw [HT0.out.2.1]; rfl, by rw [HT0.out.2.2]; rfl⟩
      case round =>
        obtain ⟨j, hj, rfl, rfl, rfl, rfl⟩ := hrel
        by_cases hlt : j < k
        · have p1 : decide ((j : Int) < (k : Int)) = true := decide_eq_true (by omega)
          have p1' : decide (j < k) = true := decide_eq_true hlt
          have j1 : j < ls.length := by rw [HN.out]; exact hlt
          obtain ⟨g, o, rfl, hcell⟩ := HA.out j j1
          have hx := HIN.out _ (List.getElem_mem j1)
          have HTS := Lib.hid (tot_snoc 15 ls j j1)
          have HPS := Lib.hid (posN_take ls j j1)
          have HOS := Lib.hid (oneN_take ls j j1)
          have hlen : (ls.take j).length ≤ 288 := by rw [List.length_take]; omega
          have b1 : tot 15 (ls.take j) ≤ 288 * 16384 := by
            have h1 := tot_pos (ls.take j)
            have h2 := posN_le (ls.take j)
            have h3 : posN (ls.take j) * 16384 ≤ 288 * 16384 := Nat.mul_le_mul_right _ (by omega)
            omega
          have b2 : posN (ls.take j) ≤ 288 := by have := posN_le (ls.take j); omega
          have b3 : oneN (ls.take j) ≤ 288 := by have := oneN_le (ls.take j); omega
          obtain ⟨x, hx2⟩ : ∃ x, ls[j] = x := ⟨_, rfl⟩
          rw [hx2] at hcell hx HTS HPS HOS
          obtain ⟨S, hS⟩ : ∃ S, tot 15 (ls.take j) = S := ⟨_, rfl⟩
          obtain ⟨Pn, hP⟩ : ∃ P, posN (ls.take j) = P := ⟨_, rfl⟩
          obtain ⟨O, hO⟩ : ∃ O, oneN (ls.take j) = O := ⟨_, rfl⟩
          rw [hS] at HTS b1
          rw [hP] at HPS b2
          rw [hO] at HOS b3
          rw [hS, hP, hO]
          have i0 : (0 : Int) ≤ (j : Int) := by omega
          have i1 : (j : Int) < (k : Int) := by omega
          clear hx2 hS hP hO hlen
          obtain ⟨m, rfl⟩ : ∃ m : Nat, x = (m : Int) := ⟨x.toNat, by omega⟩
          rcases Nat.eq_zero_or_pos m with rfl | hp
          · have HZ : Hid (tot 15 (ls.take (j + 1)) = S ∧ posN (ls.take (j + 1)) = Pn ∧ oneN (ls.take (j + 1)) = O) := Lib.hid ⟨by rw [HTS.out, gN_non 15 _ (by omega)]; rfl, by rw [HPS.out, if_neg (by omega)]; rfl, by rw [HOS.out, if_neg (by omega)]; rfl⟩
            rw [show (((0 : Nat) : Int)) = 0 from rfl] at hcell
            go_wp2
            go_round
            case rel => exact ⟨j + 1, by omega, by go_num, by rw [HZ.out.1], by rw [HZ.out.2.1], by rw [HZ.out.2.2]⟩
            case measure => simp [intOf]; omega
          · have hm15 : m ≤ 15 := by omega
            have e0 : ((m : Int) == 0) = false := beq_eq_false_iff_ne.2 (by omega)
            have e0' : (m == 0) = false := beq_eq_false_iff_ne.2 (by omega)
            have hgn : gN 15 (m : Int) = 2 ^ (15 - m) := by
              unfold gN
              rw [if_pos ⟨by omega, by omega⟩, Int.toNat_natCast]
            have hpw : 2 ^ (15 - m) ≤ 32768 := by
              have h1 : 2 ^ (15 - m) ≤ 2 ^ 15 := Nat.pow_le_pow_right (by omega) (by omega)
              have h2 : (2 : Nat) ^ 15 = 32768 := by decide
              omega
            have HST : Hid (((2 ^ (15 - 0) : Nat) : Int) = 32768) := Lib.hid (by decide)
            have HZ : Hid (tot 15 (ls.take (j + 1)) = S + 2 ^ (15 - m) ∧ posN (ls.take (j + 1)) = Pn + 1) := Lib.hid ⟨by rw [HTS.out, hgn], by rw [HPS.out, if_pos (by omega)]⟩
            clear hgn
            go_wp2_with fail
            go_loop [10, 11] (fun vp vk => ∃ i : Nat, i ≤ m ∧ vk = .int .i64 i ∧ vp = .int .i64 ((2 ^ (15 - i) : Nat) : Int)) (fun _ vk => m - (intOf vk).toNat)
            case atStart => exact ⟨0, Nat.zero_le _, rfl, by rw [HST.out]⟩
            case round =>
              obtain ⟨i, hi, rfl, rfl⟩ := hrel
              by_cases hlm : i < m
              · have p2 : decide ((i : Int) < (m : Int)) = true := decide_eq_true (by omega)
                have p2' : decide (i < m) = true := decide_eq_true hlm
                have HH := Lib.hid (half_pow i (by omega))
                have hpb : 2 ^ (15 - i) ≤ 32768 := by
                  have h1 : 2 ^ (15 - i) ≤ 2 ^ 15 := Nat.pow_le_pow_right (by omega) (by omega)
                  have h2 : (2 : Nat) ^ 15 = 32768 := by decide
                  omega
                obtain ⟨q, hq⟩ : ∃ q, 2 ^ (15 - i) = q := ⟨_, rfl⟩
                rw [hq] at HH hpb ⊢
                have htd : Int.tdiv (q : Int) 2 = ((q / 2 : Nat) : Int) := by rw [Int.tdiv_eq_ediv_of_nonneg (by omega)]; rfl
                clear hq
                go_wp2
                go_round
                case rel => exact ⟨i + 1, by omega, by go_num, by rw [← HH.out]; rfl⟩
                case measure => simp [intOf]; omega
              · obtain rfl : i = m := by omega
                have p2 : decide ((i : Int) < (i : Int)) = false := decide_eq_false (by omega)
                obtain ⟨q, hq⟩ : ∃ q, 2 ^ (15 - i) = q := ⟨_, rfl⟩
                rw [hq] at HZ hpw ⊢
                clear hq
                by_cases h1 : i = 1
                · subst h1
                  have HZO : Hid (oneN (ls.take (j + 1)) = O + 1) := Lib.hid (by rw [HOS.out, if_pos (show ((1 : Nat) : Int) = 1 from rfl)])
                  rw [show (((1 : Nat) : Int)) = 1 from rfl] at hcell
                  go_wp2
                  go_round
                  case rel => exact ⟨j + 1, by omega, by go_num, by rw [HZ.out.1]; go_num, by rw [HZ.out.2]; go_num, by rw [HZO.out]; go_num⟩
                  case measure => simp [intOf]; omega
                · have e1 : ((i : Int) == 1) = false := beq_eq_false_iff_ne.2 (by omega)
                  have e1' : (i == 1) = false := beq_eq_false_iff_ne.2 h1
                  have HZO : Hid (oneN (ls.take (j + 1)) = O) := Lib.hid (by rw [HOS.out, if_neg (by omega)]; rfl)
                  go_wp2
                  go_round
                  case rel => exact ⟨j + 1, by omega, by go_num, by rw [HZ.out.1]; go_num, by rw [HZ.out.2]; go_num, by rw [HZO.out]⟩
                  case measure => simp [intOf]; omega
        · obtain rfl : j = k := by omega
          have p1 : decide ((j : Int) < (j : Int)) = false := decide_eq_false (by omega)
          have hfin : ls.take j = ls := List.take_of_length_le (by rw [HN.out]; exact Nat.le_refl _)
          rw [hfin]
          have hok := HOK.out
          unfold whyOk at hok
          obtain ⟨S, hS⟩ : ∃ S, tot 15 ls = S := ⟨_, rfl⟩
          obtain ⟨Pn, hP⟩ : ∃ P, posN ls = P := ⟨_, rfl⟩
          obtain ⟨O, hO⟩ : ∃ O, oneN ls = O := ⟨_, rfl⟩
          rw [hS, hP, hO] at hok
          rw [hS, hP, hO]
          clear hS hP hO hfin
          rcases hok with rfl | ⟨h1, rfl, rfl | ⟨rfl, rfl⟩⟩
          · go_wp2
            go_ret
            exact ⟨rfl, rfl⟩
          · have e1 : decide ((32768 : Int) < (S : Int)) = false := decide_eq_false (by omega)
            have e2 : decide ((S : Int) < 32768) = true := decide_eq_true (by omega)
            have e1' : decide (32768 < S) = false := decide_eq_false (by omega)
            have e2' : decide (S < 32768) = true := decide_eq_true h1
            go_wp2
            go_ret
            exact ⟨rfl, rfl⟩
          · have e1 : decide ((32768 : Int) < (S : Int)) = false := decide_eq_false (by omega)
            have e2 : decide ((S : Int) < 32768) = true := decide_eq_true (by omega)
            have e1' : decide (32768 < S) = false := decide_eq_false (by omega)
            have e2' : decide (S < 32768) = true := decide_eq_true h1
            go_wp2
            go_ret
            exact ⟨rfl, rfl⟩
end Go.Proofs.YtmpokiflhijnoaaDoor.Rf
