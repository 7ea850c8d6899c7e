/-
  No word of a code begins another one: plain.
-/
import Derived.Test.YtmpokiflhijnoaaGreatDoorCnAll
import Derived.Test.YtmpokiflhijnoaaGreatDoorMgF
namespace Go.Proofs.YtmpokiflhijnoaaGreatDoor.Cn
open Go.Proofs.YtmpokiflhijnoaaGreatDoor.Bw Go.Proofs.YtmpokiflhijnoaaGreatDoor.Mg
set_option linter.unusedVariables false
set_option linter.unusedSimpArgs false

/-- Bits of a number, the highest first. -/
def msbL : Nat → Nat → List Bool
  | 0, _ => []
  | n + 1, c => msbL n (c / 2) ++ [decide (c % 2 = 1)]
theorem msbL_len : ∀ n c, (msbL n c).length = n
  | 0, _ => rfl
  | n + 1, c => by rw [msbL, List.length_append, msbL_len n]; rfl
theorem bitsN_cons (j out b : Nat) (hb : b < 2) : bitsN (j + 1) (out * 2 + b) = decide (b = 1) :: bitsN j out := by
  rw [Nat.add_comm j 1, bitsN_app 1 j]
  have h1 : bitsN 1 (out * 2 + b) = [decide (b = 1)] := by
    unfold bitsN
    simp only [List.range_one, List.map_cons, List.map_nil, Nat.testBit_zero]
    congr 1
    have : (out * 2 + b) % 2 = b := by omega
    rw [this]
  have h2 : (out * 2 + b) / 2 ^ 1 = out := by omega
  rw [h1, h2]
  rfl
theorem turn_bits : ∀ (k j out v : Nat), bitsN (k + j) (turnGo k out v) = msbL k v ++ bitsN j out
  | 0, j, out, v => by rw [turnGo, msbL, Nat.zero_add]; rfl
  | k + 1, j, out, v => by
    rw [turnGo, show k + 1 + j = k + (j + 1) by omega, turn_bits k (j + 1), bitsN_cons j out (v % 2) (Nat.mod_lt _ (by omega)), msbL, List.append_assoc]
    rfl
theorem turnN_bits (n v : Nat) : bitsN n (turnN n v) = msbL n v := by
  have := turn_bits n 0 0 v
  rw [Nat.add_zero, bitsN_zero, List.append_nil] at this
  exact this
theorem msbL_split (l k d : Nat) : msbL (l + k) d = msbL l (d / 2 ^ k) ++ msbL k d := by
  induction k generalizing d with
  | zero => simp [msbL]
  | succ k ih =>
    rw [show l + (k + 1) = (l + k) + 1 by omega, msbL, ih, msbL, List.append_assoc, Nat.div_div_eq_div_mul, Nat.pow_succ, Nat.mul_comm 2]
theorem msbL_inj : ∀ (l c d : Nat), c < 2 ^ l → d < 2 ^ l → msbL l c = msbL l d → c = d
  | 0, c, d, hc, hd, _ => by simp at hc hd; omega
  | l + 1, c, d, hc, hd, h => by
    rw [msbL, msbL] at h
    have h1 := List.append_inj h (by rw [msbL_len, msbL_len])
    rw [Nat.pow_succ] at hc hd
    have h2 := msbL_inj l (c / 2) (d / 2) (by omega) (by omega) h1.1
    have h3 : decide (c % 2 = 1) = decide (d % 2 = 1) := by simpa using h1.2
    have h4 : (c % 2 = 1) ↔ (d % 2 = 1) := decide_eq_decide.1 h3
    omega

theorem nx_tot (ls : List Int) : ∀ m, nxP ls (m + 1) = 2 * tot m ls
  | 0 => by rw [nxP, nxP, tot_zero]; simp
  | m + 1 => by
    rw [nxP, nx_tot ls m, tot_succ, if_neg (by omega)]
    unfold cntL
    push_cast
    rfl
theorem cnt_take_le (ls : List Int) (s m : Nat) : cntL (ls.take s) m ≤ cntL ls m := by
  unfold cntL
  exact (List.take_sublist s ls).count_le _
theorem cnt_take_lt (ls : List Int) (s t m : Nat) (hst : s < t) (ht : t ≤ ls.length) (h : ls.getD s 0 = (m : Int)) : cntL (ls.take s) m + 1 ≤ cntL (ls.take t) m := by
  have h1 := cnt_take_yes ls m s (by omega) h
  have h2 : cntL (ls.take (s + 1)) m ≤ cntL (ls.take t) m := by
    have e : ls.take (s + 1) = (ls.take t).take (s + 1) := by rw [List.take_take]; congr 1; omega
    rw [e]
    exact cnt_take_le _ _ _
  omega
/-- A symbol's number lies below. -/
theorem code_lt (ls : List Int) (s l : Nat) (hs : s < ls.length) (h : ls.getD s 0 = (l : Int)) (h1 : 1 ≤ l) : codeP ls s + 1 ≤ tot l ls ∧ 2 * tot (l - 1) ls ≤ codeP ls s := by
  unfold codeP
  rw [h]
  obtain ⟨m, rfl⟩ : ∃ m, l = m + 1 := ⟨l - 1, by omega⟩
  have e : ((m + 1 : Nat) : Int).toNat = m + 1 := by omega
  rw [e, nx_tot, tot_succ]
  have h2 := cnt_take_lt ls s ls.length (m + 1) hs (Nat.le_refl _) h
  rw [List.take_length] at h2
  unfold cntL at h2 ⊢
  push_cast at h2 ⊢
  omega
theorem tot_pow (ls : List Int) (l : Nat) (hl : l ≤ 15) (ht : tot 15 ls ≤ 2 ^ 15) : tot l ls ≤ 2 ^ l := by
  have h := tot_up l (15 - l) ls
  rw [show l + (15 - l) = 15 by omega] at h
  have h2 : tot l ls * 2 ^ (15 - l) ≤ 2 ^ l * 2 ^ (15 - l) := by
    rw [← Nat.pow_add, show l + (15 - l) = 15 by omega]
    exact Nat.le_trans h ht
  exact Nat.le_of_mul_le_mul_right h2 (Nat.two_pow_pos _)
theorem wordB_msb (ls : List Int) (s l : Nat) (h : ls.getD s 0 = (l : Int)) (h1 : 1 ≤ l) (h15 : l ≤ 15) : wordB ls s = msbL l (codeP ls s) := by
  unfold wordB wordP
  rw [if_pos (by rw [h]; omega), h]
  show bitsN ((l : Int).toNat) (turnN ((l : Int).toNat) (codeP ls s)) = _
  rw [Int.toNat_natCast]
  exact turnN_bits _ _
/-- No word begins another one. -/
theorem word_prefix (ls : List Int) (s t : Nat) (hs : s < ls.length) (ht : t < ls.length) (hin : ∀ x ∈ ls, 0 ≤ x ∧ x ≤ 15) (htot : tot 15 ls ≤ 2 ^ 15) (ps : 0 < ls.getD s 0) (pt : 0 < ls.getD t 0) (rest : List Bool) (h : (wordB ls s) <+: (wordB ls t ++ rest)) (hlen : (wordB ls s).length ≤ (wordB ls t).length) : s = t := by
  have gs : ls.getD s 0 = ls[s] := by simp [List.getD, List.getElem?_eq_getElem hs]
  have gt : ls.getD t 0 = ls[t] := by simp [List.getD, List.getElem?_eq_getElem ht]
  have is := hin _ (List.getElem_mem hs)
  have it := hin _ (List.getElem_mem ht)
  obtain ⟨m, hm⟩ : ∃ m : Nat, ls.getD s 0 = (m : Int) := ⟨(ls.getD s 0).toNat, by omega⟩
  obtain ⟨n, hn⟩ : ∃ n : Nat, ls.getD t 0 = (n : Int) := ⟨(ls.getD t 0).toNat, by omega⟩
  have m1 : 1 ≤ m ∧ m ≤ 15 := by omega
  have n1 : 1 ≤ n ∧ n ≤ 15 := by omega
  rw [wordB_msb ls s m hm m1.1 m1.2, wordB_msb ls t n hn n1.1 n1.2] at h hlen
  rw [msbL_len, msbL_len] at hlen
  obtain ⟨d, rfl⟩ : ∃ d, n = m + d := ⟨n - m, by omega⟩
  have cs := code_lt ls s m hs hm m1.1
  have ct := code_lt ls t (m + d) ht hn n1.1
  have bs := tot_pow ls m m1.2 htot
  have bt := tot_pow ls (m + d) n1.2 htot
  rw [msbL_split, List.append_assoc] at h
  have e := List.prefix_iff_eq_take.1 h
  rw [msbL_len, List.take_append_of_le_length (by rw [msbL_len]; exact Nat.le_refl _), List.take_of_length_le (by rw [msbL_len]; exact Nat.le_refl _)] at e
  have hdlt : codeP ls t / 2 ^ d < 2 ^ m := by
    rw [Nat.div_lt_iff_lt_mul (Nat.two_pow_pos d), ← Nat.pow_add]
    omega
  have hc := msbL_inj m _ _ (by omega) hdlt e
  rcases Nat.eq_zero_or_pos d with rfl | hd
  · rw [Nat.pow_zero, Nat.div_one] at hc
    rw [Nat.add_zero] at hn
    have e1 : ((m : Nat) : Int).toNat = m := by omega
    unfold codeP at hc
    rw [hm, hn, e1] at hc
    rcases Nat.lt_trichotomy s t with h3 | h3 | h3
    · have := cnt_take_lt ls s t m h3 (by omega) hm
      omega
    · exact h3
    · have := cnt_take_lt ls t s m h3 (by omega) hn
      omega
  · exfalso
    have h4 := tot_up m (d - 1) ls
    have h5 : tot m ls * 2 ^ d ≤ codeP ls t := by
      have e2 : 2 ^ d = 2 * 2 ^ (d - 1) := by rw [Nat.mul_comm, ← Nat.pow_succ]; congr 1; omega
      rw [e2, Nat.mul_left_comm]
      have e3 : m + d - 1 = m + (d - 1) := by omega
      rw [e3] at ct
      omega
    have h6 : tot m ls ≤ codeP ls t / 2 ^ d := (Nat.le_div_iff_mul_le (Nat.two_pow_pos d)).2 h5
    omega
end Go.Proofs.YtmpokiflhijnoaaGreatDoor.Cn
