/-
  Merge: what 'wrong' answers of counts that may be.
-/
import Derived.Test.YtnoplhjbachjiaaMgWrong
namespace Go.Proofs.Ytnoplhjbachjiaa.Mg
open Go.ChangeShapes Go.WideShapes Go.ChangeAt Go.RowKit Go.Shelf Go.Proofs
set_option linter.unusedVariables false
set_option linter.unusedSimpArgs false

theorem badArg_facts {cs : List Int} {most : Int} (h : badArg cs most = false) : cs.length ≤ 288 ∧ cs.any badB = false ∧ 1 ≤ most ∧ most ≤ 15 := by
  unfold badArg at h
  simp only [Bool.or_eq_false_iff, decide_eq_false_iff_not] at h
  obtain ⟨⟨⟨h1, h2⟩, h3⟩, h4⟩ := h
  exact ⟨by omega, h2, by omega, by omega⟩

theorem used_drew (A : Option Addr) (c : Nat) (cs : List Int) (w : World) (hl : cs.length ≤ 1000) (hA : Reads w A cs) : Calls Try.prog 13 #[.slice A cs.length c] w.drew fun e w' => ∃ (A : Option Addr) (cap : Nat), e = .returned (.slice A (usedL cs).length cap) ∧ Below w.heap.size w w' :=
  (used_any A c cs w.drew hl (fun j h => hA j h)).mono fun e w' ⟨A, cap, he, hb, _⟩ => ⟨A, cap, he, ⟨hb.os, hb.tape, hb.output, hb.size, hb.block⟩⟩

set_option maxHeartbeats 4000000 in
theorem wrong_fine (A : Option Addr) (c : Nat) (cs : List Int) (most : Int) (w : World) (hA : Reads w A cs) (hb : badArg cs most = false) :
    Calls Try.prog 12 #[.slice A cs.length c, .int .i64 most] w fun e w' => e = .returned (.int .i64 (wrongE cs most)) ∧ Below w.heap.size w w' := by
  obtain ⟨h1, h2, h3, h4⟩ := badArg_facts hb
  have t1 : decide (288 < (cs.length : Int)) = false := decide_eq_false (by omega)
  have t2 : decide (most < 1) = false := decide_eq_false (by omega)
  have t3 : decide (15 < most) = false := decide_eq_false (by omega)
  have hl : cs.length ≤ 140737488351232 := by omega
  have hl2 : cs.length ≤ 1000 := by omega
  have HA := Lib.hid hA
  have hb0 := Lib.hid hb
  clear hA hb h1
  have hP : IntKind.i64.wrap ((2 : Int) ^ most.toNat) = (2 : Int) ^ most.toNat := by
    have h5 : most.toNat ≤ 15 := by omega
    have h6 : (2 : Int) ^ most.toNat ≤ 2 ^ 15 := by
      have := Nat.pow_le_pow_right (n := 2) (by omega) h5
      exact_mod_cast this
    have h7 : (0 : Int) ≤ 2 ^ most.toNat := by
      exact Int.pow_nonneg (by omega)
    rw [IntKind.wrap_i64]
    omega
  have HWE : Hid (wrongE cs most = if (2 : Int) ^ most.toNat < (usedL cs).length then 11 else 0) := Lib.hid (by unfold wrongE; rw [if_neg (by rw [hb0.out]; simp)])
  obtain ⟨P, hPP⟩ : ∃ P, P = (2 : Int) ^ most.toNat := ⟨_, rfl⟩
  rw [← hPP] at HWE
  rw [← hPP] at hP
  obtain ⟨L, hL⟩ : ∃ L, L = (usedL cs).length := ⟨_, rfl⟩
  rw [← hL] at HWE
  have HPP := Lib.hid hPP
  have HL := Lib.hid hL
  cases t4 : decide (P < (L : Int)) with
  | true =>
    have HR : Hid (wrongE cs most = 11) := Lib.hid (by rw [HWE.out, if_pos (of_decide_eq_true t4)])
    rw [hPP] at hP t4
    rw [hL] at t4
    clear hPP hL
    go_enter Try.func12, Try.ntmps12
    go_wp2_with (go_at_call 17; refine (contains_calls A c cs _ HA.out hl).mono ?_; rintro e w' ⟨rfl, rfl⟩)
    go_region_with ((first | (go_at_call 13; refine (used_drew A c cs _ hl2 HA.out).mono ?_; rintro e w2 ⟨A2, cap2, rfl, hb2⟩)))
    all_goals go_wp2
    all_goals go_ret
    all_goals exact ⟨by rw [HR.out] <;> rfl, hb2⟩
  | false =>
    have HR : Hid (wrongE cs most = 0) := Lib.hid (by rw [HWE.out, if_neg (of_decide_eq_false t4)])
    rw [hPP] at hP t4
    rw [hL] at t4
    clear hPP hL
    go_enter Try.func12, Try.ntmps12
    go_wp2_with (go_at_call 17; refine (contains_calls A c cs _ HA.out hl).mono ?_; rintro e w' ⟨rfl, rfl⟩)
    go_region_with ((first | (go_at_call 13; refine (used_drew A c cs _ hl2 HA.out).mono ?_; rintro e w2 ⟨A2, cap2, rfl, hb2⟩)))
    all_goals go_wp2
    all_goals go_ret
    all_goals exact ⟨by rw [HR.out] <;> rfl, hb2⟩

end Go.Proofs.Ytnoplhjbachjiaa.Mg
