/-
  lighterlaw10.speaks: the streams of nothing and of one byte again and again.
-/
import Derived.Test.YtmpokiflhijnoaaGreatDoorDfEnc
import Derived.Test.YtmpokiflhijnoaaGreatDoorBkSpkP
namespace Go.Proofs.YtmpokiflhijnoaaGreatDoor.Df
open Go.RowKit Go.Shelf Go.Proofs.YtmpokiflhijnoaaGreatDoor.Mg Go.Proofs.YtmpokiflhijnoaaGreatDoor.Bw Go.Proofs.YtmpokiflhijnoaaGreatDoor.Bk Go.Proofs.YtmpokiflhijnoaaGreatDoor.Cn Go.Proofs.YtmpokiflhijnoaaGreatDoor.Zp Go.Proofs.YtmpokiflhijnoaaGreatDoor.Rf Go.Proofs.YtmpokiflhijnoaaGreatDoor.Mt
set_option linter.unusedVariables false
set_option linter.unusedSimpArgs false

def str20 : ByteArray := ⟨#[97, 97, 97, 97, 97, 97, 97, 97, 97, 97, 97, 97, 97, 97, 97, 97, 97, 97, 97, 97]⟩
def ts20 : List Tok := [⟨97, 0, 0⟩, ⟨0, 19, 1⟩]
theorem tok0 : tokP ⟨#[]⟩ ⟨#[]⟩ 9 = [] := by kernel_rfl
theorem tok20 : tokP ⟨#[]⟩ str20 6 = ts20 := by kernel_rfl
theorem size_ge (sz : Nat) (ts : List Tok) : 29 ≤ sizeN 2 sz ts := by
  unfold sizeN blockB bodyB
  rw [if_neg (by decide), if_neg (by decide)]
  rw [List.length_append, List.length_append, kindB_len]
  have := headB_ge ts
  omega
theorem may0 : mayB 0 0 [] = true := by decide +kernel
theorem may20 : mayB 0 20 ts20 = true := by decide +kernel
theorem sz0 : sizeN 1 0 [] = 10 := by decide +kernel
theorem sz20 : sizeN 1 20 ts20 = 32 := by decide +kernel
theorem choose0 : chooseP 0 [] = 1 := by
  unfold chooseP
  rw [if_pos may0, sz0, if_pos (by decide), if_neg (by have := size_ge 0 []; omega)]
theorem bits0 : padB (blockB 1 true []) = strB ⟨#[3, 0]⟩ := by decide +kernel
theorem stream0 {S : ByteArray} (h : IsStream 9 ⟨#[]⟩ S) : S = ⟨#[3, 0]⟩ := by
  apply strB_inj
  rw [h, ← bits0]
  have e : blkP 9 true ⟨#[]⟩ ⟨#[]⟩ = ⟨1, true, [], ⟨#[]⟩⟩ := by
    unfold blkP
    rw [tok0]
    have : kindP 9 (⟨#[]⟩ : ByteArray).size [] = 1 := by
      unfold kindP
      rw [if_neg (by decide)]
      exact choose0
    rw [this]
  rw [e]
  rfl
/-- The kind that is chosen has no more bits than the kind Fixed, where that has fewer than the kind Stored. -/
theorem choose_fix {sz : Nat} {ts : List Tok} (hm : mayB 0 sz ts = true) (h : sizeN 1 sz ts < 35 + 8 * sz) : (chooseP sz ts = 1 ∨ chooseP sz ts = 2) ∧ sizeN (chooseP sz ts) sz ts ≤ sizeN 1 sz ts := by
  unfold chooseP
  rw [if_pos hm, if_pos h]
  split
  · exact ⟨.inr rfl, by omega⟩
  · exact ⟨.inl rfl, Nat.le_refl _⟩
theorem stream20 {S : ByteArray} (h : IsStream 6 str20 S) : S.size < 10 := by
  have hk := choose_fix (sz := 20) (ts := ts20) may20 (by rw [sz20]; decide)
  rw [sz20] at hk
  have e : blkP 6 true ⟨#[]⟩ str20 = ⟨chooseP 20 ts20, true, ts20, str20⟩ := by
    have h20 : str20.size = 20 := rfl
    have hk2 : kindP 6 str20.size ts20 = chooseP 20 ts20 := by
      unfold kindP
      rw [if_neg (by decide), h20]
    unfold blkP
    rw [tok20, hk2]
  have h2 := congrArg List.length h
  rw [strB_len, e] at h2
  have h3 := padB_le (wrB [] ⟨chooseP 20 ts20, true, ts20, str20⟩)
  have h4 : (wrB [] ⟨chooseP 20 ts20, true, ts20, str20⟩).length = sizeN (chooseP 20 ts20) 20 ts20 := by
    have h0 : chooseP 20 ts20 ≠ 0 := by omega
    unfold wrB sizeN
    rw [if_neg h0, if_neg h0]
    show (blockB _ true ts20).length = _
    unfold blockB
    rw [List.length_append, List.length_append, kindB_len, kindB_len]
  omega

set_option maxHeartbeats 2000000 in
set_option maxRecDepth 100000 in
theorem speaks10_calls (w : World) (hG : OrdT w ∧ DepT w) : Calls Tryz.prog 5 #[] w fun e w' => e = .returned (.bool true) ∧ Below w.heap.size w w' := by
  have HG := Lib.hid hG
  clear hG
  go_enter Tryz.func5, Tryz.ntmps5
  go_wp2_with fail
  refine (all_calls 9 ⟨#[]⟩ w (by decide) (by decide) HG.out).mono ?_
  rintro e w1 ⟨S1, rfl, h1, hb1⟩
  obtain rfl := stream0 h1
  have HB1 := Lib.hid hb1
  have HG1 : Hid (OrdT w1 ∧ DepT w1) := Lib.hid ⟨HG.out.1.below hb1 (Nat.le_refl _), HG.out.2.below hb1 HG.out.2.lt⟩
  clear h1 hb1
  go_wp2_with fail
  refine (all_calls 6 str20 w1 (by decide) (by decide) HG1.out).mono ?_
  rintro e w2 ⟨S2, rfl, h2, hb2⟩
  have hs2 := stream20 h2
  have HB2 := Lib.hid (HB1.out.trans (hb2.mono HB1.out.size))
  have q1 : decide ((S2.size : Int) < 10) = true := decide_eq_true (by omega)
  have HM := Lib.hid (most_calls 0 w2 (by decide))
  clear h2 hb2
  go_wp2_with fail
  refine HM.out.mono ?_
  rintro e w3 ⟨rfl, rfl⟩
  go_wp2
  go_ret
  exact ⟨rfl, HB2.out⟩
end Go.Proofs.YtmpokiflhijnoaaGreatDoor.Df
