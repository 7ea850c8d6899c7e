/-
  canon: New of lengths that make a code answers no error.
-/
import Derived.Test.YtnoplhjbachjiaaMgCanon3
import Derived.Test.YtnoplhjbachjiaaMgKraft2
import Derived.Deep.CutBlock
namespace Go.Proofs.Ytnoplhjbachjiaa.Mg
open Go.ChangeShapes Go.WideShapes Go.ChangeAt Go.RowKit Go.Shelf Go.Proofs
set_option linter.unusedVariables false
set_option linter.unusedSimpArgs false

theorem bad2_calls (x : Int) (w : World) (hx : 0 ≤ x ∧ x ≤ 15) : Calls Try.prog 16 #[.int .i64 x] w fun e w' => e = .returned (.bool false) ∧ w' = w := by
  have t1 : decide (x < 0) = false := decide_eq_false (by omega)
  have t2 : decide (15 < x) = false := decide_eq_false (by omega)
  go_enter Try.func16, Try.ntmps16
  go_wp2
  go_ret
  exact ⟨by simp, rfl⟩

set_option maxHeartbeats 1000000 in
theorem indexfunc2_calls (A : Option Addr) (c : Nat) (cs : List Int) (w : World) (hA : Reads w A cs) (hl : cs.length ≤ 140737488351232) (hx : ∀ x ∈ cs, 0 ≤ x ∧ x ≤ 15) :
    Calls Try.prog 30 #[.slice A cs.length c, .func (.func 16) #[] #[]] w fun e w' => e = .returned (.int .i64 (-1)) ∧ w' = w := by
  have HC := Lib.hid hA
  have HX := Lib.hid hx
  obtain ⟨n, hn⟩ : ∃ n, cs.length = n := ⟨_, rfl⟩
  have HN := Lib.hid hn
  rw [hn] at hl ⊢
  clear hA hx hn
  go_enter Try.func30, Try.ntmps30
  go_wp2
  go_loop [8] (fun i => ∃ k : Nat, k ≤ n ∧ i = .int .i64 k) (fun i => n - (intOf i).toNat)
  case atStart => exact ⟨0, Nat.zero_le _, rfl⟩
  case round =>
    obtain ⟨k, hk, rfl⟩ := hrel
    by_cases hlt : k < n
    · have q1 : decide ((k : Int) < (n : Int)) = true := decide_eq_true (by omega)
      have k1 : k < cs.length := by rw [HN.out]; exact hlt
      obtain ⟨g, o, rfl, hcell⟩ := HC.out k k1
      have hb := HX.out cs[k] (List.getElem_mem _)
      obtain ⟨x, hx⟩ : ∃ x, cs[k] = x := ⟨_, rfl⟩
      rw [hx] at hcell hb
      have HB := Lib.hid hb
      clear hx hb
      go_wp2_with (go_at_call 16; refine (bad2_calls _ _ HB.out).mono ?_; rintro e w' ⟨rfl, rfl⟩)
      go_round
      case rel => exact ⟨k + 1, by omega, by go_num⟩
      case measure => simp [intOf]; omega
    · obtain rfl : k = n := by omega
      have q1 : decide ((k : Int) < (k : Int)) = false := decide_eq_false (by omega)
      go_wp2
      go_ret
      exact ⟨rfl, rfl⟩

theorem contains2_calls (A : Option Addr) (c : Nat) (cs : List Int) (w : World) (hA : Reads w A cs) (hl : cs.length ≤ 140737488351232) (hx : ∀ x ∈ cs, 0 ≤ x ∧ x ≤ 15) :
    Calls Try.prog 17 #[.slice A cs.length c, .func (.func 16) #[] #[]] w fun e w' => e = .returned (.bool false) ∧ w' = w := by
  have HA := Lib.hid hA
  have HX := Lib.hid hx
  clear hA hx
  go_enter Try.func17, Try.ntmps17
  go_wp2_with (go_at_call 30; refine (indexfunc2_calls A c cs _ HA.out hl HX.out).mono ?_; rintro e w' ⟨rfl, rfl⟩)
  go_ret
  exact ⟨rfl, rfl⟩

def slackP (f : Nat → Int) : Bool := decide (sumF f 16 = 0) || (decide (sumF f 16 = 1) && decide (f 1 = 1))
/-- When lengths make a code. -/
def codeOk (ls : List Int) (loose : Bool) : Prop := leftP (cntF ls) 15 = 0 ∨ (0 < leftP (cntF ls) 15 ∧ loose = true ∧ slackP (cntF ls) = true)

theorem clone_calls (B n : Nat) (ls : List Int) (w : World) (hn : ls.length = n) (hl : n ≤ 288) (hr : RowI w B ls) :
    Calls Try.prog 18 #[.slice (some ⟨B, 0, none⟩) n n] w fun e w' => ∃ g cap, e = .returned (.slice (some ⟨g, 0, none⟩) n cap) ∧ w.heap.size ≤ g ∧ g < w'.heap.size ∧ Reads w' (some ⟨g, 0, none⟩) ls ∧ Below w.heap.size w w' := by
  refine (Try.slices_Clone_int B 0 n n ls w (by omega) (by omega) (fun j hj => ?_)).mono ?_
  · rw [Nat.zero_add, getD_get ls j hj]
    exact (hr.cell j hj).1
  · rintro e w' ⟨v, rfl, hown, hne, hb⟩
    obtain ⟨hl2, ⟨rfl, _⟩ | ⟨g, cap, cur, rfl, hg, hh, hnc, hcm, hsz, htk⟩⟩ := hown
    · exact absurd rfl hne
    refine ⟨g, cap, rfl, hg, (Array.getElem?_eq_some_iff.1 hh).1, fun j hj => ⟨g, 0, rfl, ?_⟩, hb⟩
    have h2 : (cur.toList.take (n * 1))[j]? = some (.int .i64 ls[j]) := by
      rw [htk, List.getElem?_map, List.getElem?_take, if_pos (by omega), List.getElem?_eq_getElem hj]
      rfl
    rw [List.getElem?_take, if_pos (by omega)] at h2
    simp only [World.cell?]
    rw [hh]
    simpa using h2

theorem code_new (w : World) (sl : Value) : CodeAt (w.alloc (.cells #[sl, .slice none 0 0, .int .i64 0, .int .i64 0, .int .i64 0, .int .i64 0, .int .i64 0, .int .i64 0, .int .i64 0, .int .i64 0, .int .i64 0, .int .i64 0, .int .i64 0, .int .i64 0, .int .i64 0, .int .i64 0, .int .i64 0, .int .i64 0, .slice none 0 0] 46)) w.heap.size sl (.slice none 0 0) (.slice none 0 0) (fun _ => 0) := by
  refine ⟨_, heap_new w _, rfl, rfl, rfl, rfl, fun m hm => ?_⟩
  rcases m with _ | _ | _ | _ | _ | _ | _ | _ | _ | _ | _ | _ | _ | _ | _ | _ | m
  any_goals rfl
  omega

set_option maxHeartbeats 1000000 in
set_option maxRecDepth 100000 in
theorem new_calls (B n : Nat) (ls : List Int) (loose : Bool) (w : World) (hn : ls.length = n) (hl : n ≤ 288) (hr : RowI w B ls) (hx : ∀ x ∈ ls, 0 ≤ x ∧ x ≤ 15) (hpos : ∀ n, n ≤ 15 → 0 ≤ leftP (cntF ls) n) (hok : codeOk ls loose) :
    Calls Try.prog 9 #[.slice (some ⟨B, 0, none⟩) n n, .bool loose] w fun e w' => ∃ g, e = .returned (.tuple #[.pointer (some ⟨g, 0, none⟩), .int .i64 0]) ∧ Below w.heap.size w w' := by
  have t1 : decide (288 < (n : Int)) = false := decide_eq_false (by omega)
  have HCF : Hid (∀ W : World, RowI W B ls → Calls Try.prog 17 #[.slice (some ⟨B, 0, none⟩) n n, .func (.func 16) #[] #[]] W fun e w' => e = .returned (.bool false) ∧ w' = W) := Lib.hid (fun W hW => by
    have h := contains2_calls (some ⟨B, 0, none⟩) n ls W hW.reads (by omega) hx
    rw [hn] at h
    exact h)
  have HCL := Lib.hid (clone_calls B n ls w hn hl hr)
  have HR := Lib.hid hr
  have HX := Lib.hid hx
  have HPOS := Lib.hid hpos
  have HOK := Lib.hid hok
  have HN := Lib.hid hn
  clear hr hx hpos hok hn
  go_enter Try.func9, Try.ntmps9
  go_upto_region 4 with (first | (go_at_call 17; refine (HCF.out _ HR.out).mono ?_; rintro e w' ⟨rfl, rfl⟩))
  go_upto_region 5 with (first | (go_at_call 18; refine HCL.out.mono ?_; rintro e w1 ⟨gl, cap, rfl, hgl, hgs, hrd, hb1⟩))
  obtain ⟨w2, hw2⟩ : ∃ w2, w2 = w1.alloc (.cells #[.slice (some ⟨gl, 0, none⟩) n cap, .slice none 0 0, .int .i64 0, .int .i64 0, .int .i64 0, .int .i64 0, .int .i64 0, .int .i64 0, .int .i64 0, .int .i64 0, .int .i64 0, .int .i64 0, .int .i64 0, .int .i64 0, .int .i64 0, .int .i64 0, .int .i64 0, .int .i64 0, .slice none 0 0] 46) := ⟨_, rfl⟩
  have hB2 : Below w'.heap.size w' w2 := by rw [hw2]; exact hb1.alloc hb1.size _
  have hC2 : CodeAt w2 w1.heap.size (.slice (some ⟨gl, 0, none⟩) ls.length cap) (.slice none 0 0) (.slice none 0 0) (fun _ => 0) := by rw [hw2, HN.out]; exact code_new w1 _
  have hR2 : ReadsOff w2 w1.heap.size (some ⟨gl, 0, none⟩) ls := fun j hj => by
    obtain ⟨g', o', e, hc⟩ := hrd j hj
    cases e
    refine ⟨gl, 0, rfl, Nat.ne_of_lt hgs, ?_, ?_⟩
    · rw [hw2]; exact Nat.lt_of_lt_of_le hgs (by simp)
    · rw [hw2]; exact (((Below.refl _ _).alloc (Nat.le_refl _) _).cell (World.block_lt_of_cell? w1 _ hc)).trans hc
  obtain ⟨g, hg⟩ : ∃ g, w1.heap.size = g := ⟨_, rfl⟩
  have hgB : w'.heap.size ≤ g := by rw [← hg]; exact hb1.size
  rw [hg] at hC2 hR2
  rw [← hw2, hg]
  have HFL := Lib.hid (fill_calls g (some ⟨gl, 0, none⟩) cap ls _ _ w2 hC2 hR2 (by rw [HN.out]; exact hl) HX.out HPOS.out)
  have HR2 := Lib.hid hR2
  have HB2 := Lib.hid hB2
  have HBD : Hid (∀ m, 0 ≤ cntF ls m ∧ cntF ls m ≤ 288) := Lib.hid (fun m => by have := cntF_bound ls m; have := HN.out; omega)
  clear hw2 hC2 hR2 hB2 hrd hb1 hg
  go_upto_region 6 with (first | (go_at_call 19; refine HFL.out.mono ?_; rintro e w3 ⟨rfl, hg3, hC3⟩))
  have hL15 := HPOS.out 15 (Nat.le_refl _)
  have HG3 := Lib.hid hg3
  have HC3 := Lib.hid hC3
  have HR3 := Lib.hid (HR2.out.grown hg3)
  have HAS := Lib.hid (assign_calls g (some ⟨gl, 0, none⟩) cap ls _ (cntF ls) w3 hC3 HR3.out (by rw [HN.out]; exact hl))
  have HSL := Lib.hid (slack_calls g _ _ _ (cntF ls) w3 hC3 HBD.out)
  clear hg3 hC3
  rcases HOK.out with h0 | ⟨h0, hlo, hs⟩
  · obtain ⟨L, hL⟩ : ∃ L, leftP (cntF ls) 15 = L := ⟨_, rfl⟩
    rw [hL] at h0 hL15 ⊢
    subst h0
    clear hL
    go_wp2_with (first | (go_at_call 21; refine HAS.out.mono ?_; rintro e w4 ⟨⟨v4, rfl⟩, hg4⟩))
    go_ret2
    exact ⟨_, rfl, HB2.out.grown (HG3.out.trans hg4) HB2.out.size (fun r e => by cases e; exact hgB)⟩
  · obtain ⟨L, hL⟩ : ∃ L, leftP (cntF ls) 15 = L := ⟨_, rfl⟩
    rw [hL] at h0 hL15 ⊢
    subst hlo
    have t2 : decide (L < 0) = false := decide_eq_false (by omega)
    have t3 : decide (0 < L) = true := decide_eq_true h0
    have HS2 : Hid (slackP (cntF ls) = true) := Lib.hid hs
    unfold slackP at hs
    rw [hs] at HSL
    clear hL h0 hL15 hs
    go_wp2_with (first | (go_at_call 20; refine HSL.out.mono ?_; rintro e w4 ⟨rfl, rfl⟩) | (go_at_call 21; refine HAS.out.mono ?_; rintro e w4 ⟨⟨v4, rfl⟩, hg4⟩))
    go_ret2
    exact ⟨_, rfl, HB2.out.grown (HG3.out.trans hg4) HB2.out.size (fun r e => by cases e; exact hgB)⟩

end Go.Proofs.Ytnoplhjbachjiaa.Mg
