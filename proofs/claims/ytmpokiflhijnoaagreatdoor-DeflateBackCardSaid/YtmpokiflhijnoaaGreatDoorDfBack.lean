/-
  lighterlaw10.DeflateBack: of any level a text's stream tells just that text, and has no more bytes than it may.
-/
import Derived.Test.YtmpokiflhijnoaaGreatDoorDfSpeak
namespace Go.Proofs.YtmpokiflhijnoaaGreatDoor.Df
open Go.RowKit Go.Shelf Go.Proofs.YtmpokiflhijnoaaGreatDoor.Mg Go.Proofs.YtmpokiflhijnoaaGreatDoor.Bw Go.Proofs.YtmpokiflhijnoaaGreatDoor.Bk Go.Proofs.YtmpokiflhijnoaaGreatDoor.Cn Go.Proofs.YtmpokiflhijnoaaGreatDoor.Zp Go.Proofs.YtmpokiflhijnoaaGreatDoor.Rf Go.Proofs.YtmpokiflhijnoaaGreatDoor.Mt
set_option linter.unusedVariables false
set_option linter.unusedSimpArgs false

theorem kindP_le (level sz : Nat) (ts : List Tok) : kindP level sz ts ≤ 2 := by
  unfold kindP
  split
  · omega
  · exact choose_le _ _
theorem strI_nil : strI ⟨#[]⟩ = [] := rfl
theorem nums_strI (s : ByteArray) : strOfNums (strI s) = s := by
  apply strN_inj
  exact strN_nums (strN s) (strN_lt s)
/-- The block of a text: it may be, and tells the text. -/
theorem blk_ok (level : Nat) (last : Bool) (a s : ByteArray) (hs : s.size ≤ 60000) : okB (strI a) (blkP level last a s) ∧ outB (strI a) (blkP level last a s) = strI a ++ strI s := by
  obtain ⟨h1, h2, h3, h4⟩ := tokP_ok a s level
  refine ⟨⟨kindP_le _ _ _, by show s.size ≤ _; omega, fun _ => ⟨by show (tokP a s level).length ≤ _; omega, fun t ht => (h3 t ht).1, h2⟩⟩, ?_⟩
  unfold outB
  split
  · rfl
  · exact h1
/-- How many bits a text's stream has at most. -/
theorem stream_len {level : Nat} {s S : ByteArray} (h : IsStream level s S) (hs : s.size ≤ 60000) : S.size ≤ s.size + 6 := by
  have h2 := congrArg List.length h
  rw [strB_len] at h2
  have hm : mayB 0 s.size (tokP ⟨#[]⟩ s level) = true := may_tok ⟨#[]⟩ s level hs 0 (by decide)
  by_cases h0 : kindP level s.size (tokP ⟨#[]⟩ s level) = 0
  · have e : wrB [] (blkP level true ⟨#[]⟩ s) = storedB [] true s := by
      unfold wrB
      rw [if_pos (show (blkP level true ⟨#[]⟩ s).kind = 0 from h0)]
      rfl
    have h3 : (storedB [] true s).length = 40 + 8 * s.size := by
      unfold storedB padB
      rw [List.length_append, strB_len, storedS_size]
      have h4 : ([] ++ kindB 0 true ++ List.replicate ((8 - ([] ++ kindB 0 true).length % 8) % 8) false).length = 8 := by decide
      rw [h4]
      omega
    rw [e] at h2
    unfold padB at h2
    rw [List.length_append, List.length_replicate, h3] at h2
    omega
  · have hk : level ≠ 0 := fun e => h0 (by unfold kindP; rw [if_pos e])
    have hkc : kindP level s.size (tokP ⟨#[]⟩ s level) = chooseP s.size (tokP ⟨#[]⟩ s level) := by unfold kindP; rw [if_neg hk]
    have hlt : sizeN (chooseP s.size (tokP ⟨#[]⟩ s level)) s.size (tokP ⟨#[]⟩ s level) < 35 + 8 * s.size := by
      rw [hkc] at h0
      unfold chooseP at h0 ⊢
      rw [if_pos hm] at h0 ⊢
      split at h0
      · rename_i h5
        rw [if_pos h5]
        split
        · omega
        · exact h5
      · rename_i h5
        rw [if_neg h5]
        split at h0
        · rename_i h6
          rw [if_pos h6]
          exact h6
        · exact absurd rfl h0
    have e : (wrB [] (blkP level true ⟨#[]⟩ s)).length = sizeN (chooseP s.size (tokP ⟨#[]⟩ s level)) s.size (tokP ⟨#[]⟩ s level) := by
      unfold wrB
      rw [if_neg (show ¬ (blkP level true ⟨#[]⟩ s).kind = 0 from h0)]
      show (blockB (kindP level s.size (tokP ⟨#[]⟩ s level)) true (tokP ⟨#[]⟩ s level)).length = _
      rw [hkc] at h0 ⊢
      unfold sizeN
      rw [if_neg h0]
      unfold blockB
      rw [List.length_append, List.length_append, kindB_len, kindB_len]
    unfold padB at h2
    rw [List.length_append, List.length_replicate] at h2
    omega
/-- A text's stream is read as the text, to its last byte. -/
def ReadsAs (S s : ByteArray) (w : World) (e : Ending) (w' : World) : Prop := ∃ n : Nat, e = .returned (.tuple #[.string s, .int .i64 n, .int .i64 0]) ∧ (n + 7) / 8 = S.size ∧ Below w.heap.size w w'
theorem read_stream {level : Nat} {s S : ByteArray} (w : World) (h : IsStream level s S) (hs : s.size ≤ 16384) :
    Calls Tryz.prog 7 #[.string S] w fun e w' => ReadsAs S s w e w' := by
  have hsz := is_size h hs
  obtain ⟨h1, h2⟩ := blk_ok level true ⟨#[]⟩ s (by omega)
  rw [strI_nil] at h1 h2
  have ho : outBs [] [blkP level true ⟨#[]⟩ s] = strI s := h2
  have hb : strB S = wrBs [] [blkP level true ⟨#[]⟩ s] ++ List.replicate ((8 - (wrB [] (blkP level true ⟨#[]⟩ s)).length % 8) % 8) false := h
  have hr := readx_calls S [blkP level true ⟨#[]⟩ s] _ w (by omega) (by simp) ⟨h1, rfl, trivial⟩ hb (by rw [ho, strI_len]; omega)
  rw [ho, nums_strI] at hr
  refine hr.mono ?_
  rintro e w' ⟨rfl, hb2⟩
  refine ⟨_, rfl, ?_, hb2⟩
  have h3 := congrArg List.length h
  unfold padB at h3
  rw [strB_len, List.length_append, List.length_replicate] at h3
  rw [List.length_replicate]
  omega

set_option maxHeartbeats 4000000 in
set_option maxRecDepth 100000 in
theorem back_any (s : ByteArray) (level : Int) (w : World) (hs : s.size ≤ 140737488351232) (hl : (Lit.int .i64 level).wf = true) (hO : OrdT w) (hD : DepT w) :
    Calls Tryz.prog 3 #[.string s, .int .i64 level] w fun e w' => e = .returned (.bool true) ∧ Below w.heap.size w w' := by
  have HSP := Lib.hid (speaks10_calls w ⟨hO, hD⟩)
  have HG := Lib.hid (And.intro hO hD)
  obtain ⟨k0, hk0⟩ : ∃ k, min s.size 2000 = k := ⟨_, rfl⟩
  have e1 : min (s.size : Int) 2000 = (k0 : Int) := by omega
  have hks : k0 ≤ s.size ∧ k0 ≤ 2000 := by omega
  obtain ⟨t, ht⟩ : ∃ t, s.extract 0 k0 = t := ⟨_, rfl⟩
  have hts : t.size ≤ 2000 := by rw [← ht, ByteArray.size_extract]; omega
  have i0 : (0 : Int) ≤ (k0 : Int) := by omega
  have i1 : (k0 : Int) ≤ (s.size : Int) := by omega
  have i2 : decide ((k0 : Int) ≤ (s.size : Int)) = true := decide_eq_true i1
  have i3 : decide (k0 ≤ s.size) = true := decide_eq_true hks.1
  clear hO hD hk0 hl
  by_cases hlv : 0 ≤ level ∧ level ≤ 9
  · obtain ⟨L, hL⟩ : ∃ L : Nat, level = L := ⟨level.toNat, by omega⟩
    subst hL
    have hL9 : L ≤ 9 := by omega
    have q1 : decide ((L : Int) < 0) = false := decide_eq_false (by omega)
    have q2 : decide (9 < (L : Int)) = false := decide_eq_false (by omega)
    go_enter Tryz.func3, Tryz.ntmps3
    go_wp2_with fail
    refine HSP.out.mono ?_
    rintro e w1 ⟨rfl, hb1⟩
    have HG1 : Hid (OrdT w1 ∧ DepT w1) := Lib.hid ⟨HG.out.1.below hb1 (Nat.le_refl _), HG.out.2.below hb1 HG.out.2.lt⟩
    have HB1 := Lib.hid hb1
    clear hb1 HSP HG
    go_wp2_with fail
    refine (all_calls L t w1 hL9 (by omega) HG1.out).mono ?_
    rintro e w2 ⟨S, rfl, hS, hb2⟩
    have HS := Lib.hid hS
    have HB2 := Lib.hid (HB1.out.trans (hb2.mono HB1.out.size))
    have hS6 := stream_len hS (by omega)
    clear hS hb2 ht e1 i2 i3
    go_wp2_with fail
    refine (read_stream w2 HS.out (by omega)).mono ?_
    rintro e w3 ⟨n, rfl, hn, hb3⟩
    have HB3 := Lib.hid (HB2.out.trans (hb3.mono HB2.out.size))
    have hn2 : n ≤ 100000 := by omega
    have hSS : (t.toList == t.toList) = true := beq_self_eq_true _
    have e4 : ((n : Int) + 7) / 8 = (S.size : Int) := by omega
    have HM := Lib.hid (fun W => most_calls t.size W (by omega))
    obtain ⟨m, hm⟩ : ∃ m, t.size + 6 * max ((t.size + 16383) / 16384) 1 = m := ⟨_, rfl⟩
    rw [hm] at HM
    have q4 : decide ((S.size : Int) ≤ (m : Int)) = true := decide_eq_true (by omega)
    have q4' : decide (S.size ≤ m) = true := decide_eq_true (by omega)
    have q5 : ((S.size : Int) == (S.size : Int)) = true := beq_self_eq_true _
    clear hn hb3 hm
    go_wp2_with (go_at_call 8; refine (HM.out _).mono ?_; rintro e w' ⟨rfl, rfl⟩)
    go_ret
    exact ⟨rfl, HB3.out⟩
  · have hbad : level < 0 ∨ 9 < level := by omega
    have HBAD := Lib.hid hbad
    rcases (by omega : level < 0 ∨ (0 ≤ level ∧ 9 < level)) with hg | ⟨hg1, hg2⟩
    have q1 : decide (level < 0) = true := decide_eq_true hg
    rotate_left
    have q1 : decide (level < 0) = false := decide_eq_false (by omega)
    have q2 : decide (9 < level) = true := decide_eq_true hg2
    rotate_left
    all_goals
      clear hbad hlv
      go_enter Tryz.func3, Tryz.ntmps3
      go_wp2_with fail
      refine HSP.out.mono ?_
      rintro e w1 ⟨rfl, hb1⟩
      have HB1 := Lib.hid hb1
      clear hb1 HSP
      go_wp2_with fail
      refine (all_bad level t w1 HBAD.out).mono ?_
      rintro e w2 ⟨rfl, rfl⟩
      go_wp2
      go_ret
      exact ⟨rfl, HB1.out⟩
end Go.Proofs.YtmpokiflhijnoaaGreatDoor.Df
