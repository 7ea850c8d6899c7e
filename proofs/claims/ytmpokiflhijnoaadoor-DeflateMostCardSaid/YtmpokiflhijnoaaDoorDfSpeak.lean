/-
  lighterlaw10.speaks: the streams of nothing and of one byte again and again; DeflateMost.
-/
import Derived.Test.YtmpokiflhijnoaaDoorDfEnc
import Derived.Test.YtmpokiflhijnoaaDoorBkSpeak
namespace Go.Proofs.YtmpokiflhijnoaaDoor.Df
open Go.RowKit Go.Shelf Go.Proofs.YtmpokiflhijnoaaDoor.Mg Go.Proofs.YtmpokiflhijnoaaDoor.Bw Go.Proofs.YtmpokiflhijnoaaDoor.Bk Go.Proofs.YtmpokiflhijnoaaDoor.Cn Go.Proofs.YtmpokiflhijnoaaDoor.Zp Go.Proofs.YtmpokiflhijnoaaDoor.Rf Go.Proofs.YtmpokiflhijnoaaDoor.Mt
set_option linter.unusedVariables false
set_option linter.unusedSimpArgs false

def str20 : ByteArray := ⟨#[97, 97, 97, 97, 97, 97, 97, 97, 97, 97, 97, 97, 97, 97, 97, 97, 97, 97, 97, 97]⟩
def ts20 : List Tok := [⟨97, 0, 0⟩, ⟨0, 19, 1⟩]
theorem tok0 : tokP ⟨#[]⟩ ⟨#[]⟩ 9 = [] := by kernel_rfl
theorem tok20 : tokP ⟨#[]⟩ str20 6 = ts20 := by kernel_rfl
theorem size_ge (sz : Nat) (ts : List Tok) : 29 ≤ sizeN 2 sz ts := by
  unfold sizeN blockB bodyB
  rw [if_neg (by decide), if_neg (by decide)]
  rw [List.length_append, List.length_append, kindB_len]
  have := headB_ge ts
  omega
theorem may0 : mayB 0 0 [] = true := by decide +kernel
theorem may20 : mayB 0 20 ts20 = true := by decide +kernel
theorem sz0 : sizeN 1 0 [] = 10 := by decide +kernel
theorem sz20 : sizeN 1 20 ts20 = 32 := by decide +kernel
theorem choose0 : chooseP 0 [] = 1 := by
  unfold chooseP
  rw [if_pos may0, sz0, if_pos (by decide), if_neg (by have := size_ge 0 []; omega)]
theorem bits0 : padB (blockB 1 true []) = strB ⟨#[3, 0]⟩ := by decide +kernel
theorem stream0 {S : ByteArray} (h : IsStream 9 ⟨#[]⟩ S) : S = ⟨#[3, 0]⟩ := by
  apply strB_inj
  rw [h, ← bits0]
  have e : blkP 9 true ⟨#[]⟩ ⟨#[]⟩ = ⟨1, true, [], ⟨#[]⟩⟩ := by
    unfold blkP
    rw [tok0]
    have : kindP 9 (⟨#[]⟩ : ByteArray).size [] = 1 := by
      unfold kindP
      rw [if_neg (by decide)]
      exact choose0
    rw [this]
  rw [e]
  rfl
/-- The kind that is chosen has no more bits than the kind Fixed, where that has fewer than the kind Stored. -/
theorem choose_fix {sz : Nat} {ts : List Tok} (hm : mayB 0 sz ts = true) (h : sizeN 1 sz ts < 35 + 8 * sz) : (chooseP sz ts = 1 ∨ chooseP sz ts = 2) ∧ sizeN (chooseP sz ts) sz ts ≤ sizeN 1 sz ts := by
  unfold chooseP
  rw [if_pos hm, if_pos h]
  split
  · exact ⟨.inr rfl, by omega⟩
  · exact ⟨.inl rfl, Nat.le_refl _⟩
theorem stream20 {S : ByteArray} (h : IsStream 6 str20 S) : S.size < 10 := by
  have hk := choose_fix (sz := 20) (ts := ts20) may20 (by rw [sz20]; decide)
  rw [sz20] at hk
  have e : blkP 6 true ⟨#[]⟩ str20 = ⟨chooseP 20 ts20, true, ts20, str20⟩ := by
    have h20 : str20.size = 20 := rfl
    have hk2 : kindP 6 str20.size ts20 = chooseP 20 ts20 := by
      unfold kindP
      rw [if_neg (by decide), h20]
    unfold blkP
    rw [tok20, hk2]
  have h2 := congrArg List.length h
  rw [strB_len, e] at h2
  have h3 := padB_le (wrB [] ⟨chooseP 20 ts20, true, ts20, str20⟩)
  have h4 : (wrB [] ⟨chooseP 20 ts20, true, ts20, str20⟩).length = sizeN (chooseP 20 ts20) 20 ts20 := by
    have h0 : chooseP 20 ts20 ≠ 0 := by omega
    unfold wrB sizeN
    rw [if_neg h0, if_neg h0]
    show (blockB _ true ts20).length = _
    unfold blockB
    rw [List.length_append, List.length_append, kindB_len, kindB_len]
  omega

set_option maxHeartbeats 2000000 in
set_option maxRecDepth 100000 in
theorem speaks10_calls (w : World) (hG : OrdT w ∧ DepT w) : Calls Tryd.prog 11 #[] w fun e w' => e = .returned (.bool true) ∧ Below w.heap.size w w' := by
  have HG := Lib.hid hG
  clear hG
  go_enter Tryd.func11, Tryd.ntmps11
  go_wp2_with fail
  refine (all_calls 9 ⟨#[]⟩ w (by decide) (by decide) HG.out).mono ?_
  rintro e w1 ⟨S1, rfl, h1, hb1⟩
  obtain rfl := stream0 h1
  have HB1 := Lib.hid hb1
  have HG1 : Hid (OrdT w1 ∧ DepT w1) := Lib.hid ⟨HG.out.1.below hb1 (Nat.le_refl _), HG.out.2.below hb1 HG.out.2.lt⟩
  clear h1 hb1
  go_wp2_with fail
  refine (all_calls 6 str20 w1 (by decide) (by decide) HG1.out).mono ?_
  rintro e w2 ⟨S2, rfl, h2, hb2⟩
  have hs2 := stream20 h2
  have HB2 := Lib.hid (HB1.out.trans (hb2.mono HB1.out.size))
  have q1 : decide ((S2.size : Int) < 10) = true := decide_eq_true (by omega)
  have HM := Lib.hid (most_calls 0 w2 (by decide))
  clear h2 hb2
  go_wp2_with fail
  refine HM.out.mono ?_
  rintro e w3 ⟨rfl, rfl⟩
  go_wp2
  go_ret
  exact ⟨rfl, HB2.out⟩

set_option maxHeartbeats 1000000 in
set_option maxRecDepth 100000 in
theorem parts_calls (n : Nat) (w : World) (hn : n ≤ 1000000000) : Calls Tryd.prog 17 #[.int .i64 n] w fun e w' => e = .returned (.int .i64 ((max ((n + 16383) / 16384) 1 : Nat) : Int)) ∧ w' = w := by
  obtain ⟨R, hR⟩ : ∃ R, max ((n + 16383) / 16384) 1 = R := ⟨_, rfl⟩
  have HR : Hid (1 + max ((n + 16383) / 16384) 1 = 1 + R) := Lib.hid (by rw [hR])
  rw [hR]
  clear hR
  go_enter Tryd.func17, Tryd.ntmps17
  go_wp2
  go_loop [0, 3] (fun vn vk => ∃ m k : Nat, vn = .int .i64 m ∧ vk = .int .i64 k ∧ m ≤ 1000000000 ∧ k ≤ 1000000000 ∧ m + k ≤ 1000000001 ∧ k + max ((m + 16383) / 16384) 1 = 1 + R) (fun vn _ => (intOf vn).toNat)
  case atStart => exact ⟨n, 1, rfl, rfl, hn, by omega, by omega, HR.out⟩
  case round =>
    obtain ⟨m, k, rfl, rfl, hm, hk, hmk, hr⟩ := hrel
    have HK := Lib.hid hr
    clear hr
    by_cases h : 16384 < m
    · have q1 : decide (16384 < (m : Int)) = true := decide_eq_true (by omega)
      obtain ⟨m2, hm2⟩ : ∃ m2, m = m2 + 16384 := ⟨m - 16384, by omega⟩
      have e1 : (m : Int) - 16384 = (m2 : Int) := by omega
      have HK2 : Hid (k + 1 + max ((m2 + 16383) / 16384) 1 = 1 + R) := Lib.hid (by have := HK.out; omega)
      have hm3 : m2 + k + 1 ≤ 1000000001 := by omega
      have HM2 := Lib.hid hm2
      clear hm2
      go_wp2
      go_round
      case rel => exact ⟨m2, k + 1, rfl, by go_num, by omega, by omega, by omega, HK2.out⟩
      case measure => have := HM2.out; simp [intOf]; omega
    · have q1 : decide (16384 < (m : Int)) = false := decide_eq_false (by omega)
      have HK2 : Hid (k = R) := Lib.hid (by have := HK.out; omega)
      go_wp2
      go_ret
      exact ⟨by rw [← HK2.out] <;> rfl, rfl⟩

set_option maxHeartbeats 2000000 in
set_option maxRecDepth 100000 in
theorem dmost_any (n : Int) (w : World) (hn : (Lit.int .i64 n).wf = true) (hO : OrdT w) (hD : DepT w) : Calls Tryd.prog 5 #[.int .i64 n] w fun e w' => e = .returned (.bool true) ∧ Below w.heap.size w w' := by
  have HS := Lib.hid (speaks10_calls w ⟨hO, hD⟩)
  have hr : 0 ≤ andB 16777215 n ∧ andB 16777215 n ≤ 16777215 := andB_range 16777215 (by omega) n
  clear hO hD hn
  by_cases h0 : n < 0
  · have q1 : decide (n < 0) = true := decide_eq_true h0
    go_enter Tryd.func5, Tryd.ntmps5
    go_wp2_with fail
    refine HS.out.mono ?_
    rintro e w1 ⟨rfl, hb1⟩
    have HB1 := Lib.hid hb1
    clear hb1
    go_wp2_with (first | (go_at_call 14; refine (encw_nil _ _).mono ?_; rintro e w' ⟨rfl, rfl⟩) | (go_at_call 15; refine (encc_nil _).mono ?_; rintro e w' ⟨rfl, rfl⟩) | (go_at_call 16; refine (most_bad n _ h0).mono ?_; rintro e w' ⟨rfl, rfl⟩))
    go_ret
    exact ⟨rfl, HB1.out⟩
  · have q1 : decide (n < 0) = false := decide_eq_false h0
    obtain ⟨m, hm⟩ : ∃ m : Nat, Go.bits .and .i64 n 16777215 = m := ⟨(andB 16777215 n).toNat, by show andB 16777215 n = _; omega⟩
    have hmb : m ≤ 16777215 := by
      have h1 : andB 16777215 n = (m : Int) := hm
      have h2 := hr.2
      omega
    have HM := Lib.hid (fun W => most_calls m W (by omega))
    have HP := Lib.hid (fun W => parts_calls m W (by omega))
    obtain ⟨q, hq⟩ : ∃ q, max ((m + 16383) / 16384) 1 = q := ⟨_, rfl⟩
    rw [hq] at HM HP
    have hqb : q ≤ 100000 := by omega
    have e1 : ((m + 6 * q : Nat) : Int) = (m : Int) + 6 * (q : Int) := by push_cast; rfl
    rw [e1] at HM
    have q2 : ((m : Int) + 6 * (q : Int) == (m : Int) + 6 * (q : Int)) = true := beq_self_eq_true _
    clear hr hq e1
    go_enter Tryd.func5, Tryd.ntmps5
    go_wp2_with fail
    refine HS.out.mono ?_
    rintro e w1 ⟨rfl, hb1⟩
    have HB1 := Lib.hid hb1
    clear hb1
    go_wp2_with (first | (go_at_call 14; refine (encw_nil _ _).mono ?_; rintro e w' ⟨rfl, rfl⟩) | (go_at_call 15; refine (encc_nil _).mono ?_; rintro e w' ⟨rfl, rfl⟩) | (go_at_call 16; refine (HM.out _).mono ?_; rintro e w' ⟨rfl, rfl⟩) | (go_at_call 17; refine (HP.out _).mono ?_; rintro e w' ⟨rfl, rfl⟩))
    go_ret
    exact ⟨rfl, HB1.out⟩
end Go.Proofs.YtmpokiflhijnoaaDoor.Df
