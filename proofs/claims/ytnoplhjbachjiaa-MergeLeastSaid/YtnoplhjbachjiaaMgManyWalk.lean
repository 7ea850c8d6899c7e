/-
  Merge: MergeMany answers true.
-/
import Derived.Test.YtnoplhjbachjiaaMgCode
import Derived.Test.YtnoplhjbachjiaaMgRefWalk
import Derived.Deep.CutBlock
namespace Go.Proofs.Ytnoplhjbachjiaa.Mg
open Go.ChangeShapes Go.WideShapes Go.ChangeAt Go.RowKit Go.Shelf Go.Proofs
set_option linter.unusedVariables false
set_option linter.unusedSimpArgs false

/-- The lowest bits. -/
def mkB (m x : Int) : Int := Go.bits .and .i64 x m
theorem mkB_range (m : Nat) (hm : m < 2 ^ 62) (x : Int) : 0 ≤ mkB (m : Int) x ∧ mkB (m : Int) x ≤ m := by
  have h : ((BitVec.ofInt 64 x &&& BitVec.ofInt 64 (m : Int)).toNat) ≤ m := by
    rw [BitVec.toNat_and]
    refine Nat.le_trans Nat.and_le_right ?_
    rw [BitVec.toNat_ofInt]
    have : ((m : Int) % ((2 ^ 64 : Nat) : Int)).toNat = m := by
      rw [Int.emod_eq_of_lt (by omega) (by omega)]
      omega
    rw [this]
    exact Nat.le_refl _
  have e : mkB (m : Int) x = IntKind.i64.wrap ((BitVec.ofInt 64 x &&& BitVec.ofInt 64 (m : Int)).toNat : Int) := rfl
  rw [e, IntKind.wrap_i64]
  omega

/-- A row of whole numbers, the first cells of a block. -/
def RowC (w : World) (B : Nat) (o : List Int) : Prop := ∃ cur : Array Value, w.heap[B]? = some (.cells cur 3 (0, 0)) ∧ ∀ j (h : j < o.length), cur[j]? = some (.int .i64 o[j])
theorem RowC.cell {w : World} {B : Nat} {o : List Int} (h : RowC w B o) (i : Nat) (hi : i < o.length) : w.cell? ⟨B, i, none⟩ = some (.int .i64 o[i]) ∧ w.frozen? ⟨B, i, none⟩ = false := by
  obtain ⟨cur, h1, h2⟩ := h
  constructor
  · simp only [World.cell?]
    rw [h1]
    simp [h2 i hi]
  · simp only [World.frozen?]
    rw [h1]
    simp
theorem RowC.set {w : World} {B : Nat} {o : List Int} (h : RowC w B o) (i : Nat) (hi : i < o.length) (x : Int) : RowC (w.setCell ⟨B, i, none⟩ (.int .i64 x)) B (o.set i x) := by
  obtain ⟨cur, h1, h2⟩ := h
  refine ⟨_, heap_setCell_same w B i _ _ _ h1, fun j hj => ?_⟩
  rw [List.length_set] at hj
  rw [Array.getElem?_setIfInBounds, List.getElem_set]
  by_cases e : i = j
  · subst e
    have hs := h2 i hi
    have hlt : i < cur.size := (Array.getElem?_eq_some_iff.1 hs).1
    rw [if_pos rfl, if_pos hlt, if_pos rfl]
  · rw [if_neg e, if_neg e]
    exact h2 j hj
theorem RowC.below {w w' : World} {B : Nat} {o : List Int} (h : RowC w B o) (hb : Below w.heap.size w w') : RowC w' B o := by
  obtain ⟨cur, h1, h2⟩ := h
  exact ⟨cur, (hb.block B (Array.getElem?_eq_some_iff.1 h1).1).trans h1, h2⟩
theorem RowC.reads {w : World} {B : Nat} {o : List Int} (h : RowC w B o) : Reads w (some ⟨B, 0, none⟩) o := fun j hj => ⟨B, 0, rfl, by rw [Nat.zero_add]; exact (h.cell j hj).1⟩
theorem RowC.lt {w : World} {B : Nat} {o : List Int} (h : RowC w B o) : B < w.heap.size := by
  obtain ⟨cur, h1, _⟩ := h
  exact (Array.getElem?_eq_some_iff.1 h1).1

/-- The first k masked. -/
def maskTo (m : Int) (xs : List Int) (k : Nat) : List Int := (xs.take k).map (mkB m) ++ xs.drop k
theorem maskTo_len (m : Int) (xs : List Int) (k : Nat) (h : k ≤ xs.length) : (maskTo m xs k).length = xs.length := by
  unfold maskTo
  rw [List.length_append, List.length_map, List.length_take, List.length_drop]
  omega
theorem maskTo_get (m : Int) (xs : List Int) (k : Nat) (h : k < xs.length) : (maskTo m xs k)[k]? = some xs[k] := by
  unfold maskTo
  rw [List.getElem?_append_right (by rw [List.length_map, List.length_take]; omega), List.length_map, List.length_take, show k - min k xs.length = 0 by omega, List.getElem?_drop, Nat.add_zero, List.getElem?_eq_getElem h]
theorem maskTo_succ (m : Int) (xs : List Int) (k : Nat) (h : k < xs.length) : maskTo m xs (k + 1) = (maskTo m xs k).set k (mkB m xs[k]) := by
  unfold maskTo
  rw [List.set_append_right _ _ (by rw [List.length_map, List.length_take]; omega), List.length_map, List.length_take, show k - min k xs.length = 0 by omega, List.drop_eq_getElem_cons h, List.take_succ_eq_append_getElem h, List.map_append, List.set_cons_zero, List.append_assoc]
  rfl
theorem maskTo_all (m : Int) (xs : List Int) : maskTo m xs xs.length = xs.map (mkB m) := by simp [maskTo]

theorem own_empty (w : World) (t : TypeId) : (w.alloc (.cells #[] t)).ownsRow w.heap.size t 1 (.slice (some ⟨w.heap.size, 0, none⟩) 0 0) 0 [] :=
  ⟨rfl, .inr ⟨w.heap.size, 0, #[], rfl, Nat.le_refl _, heap_new w _, Nat.le_refl _, by unfold maxLen; omega, rfl, rfl⟩⟩

theorem row_of_own {w : World} {b : Nat} {v : Value} {n : Nat} {xs : List Int} (h : w.ownsRow b 3 1 v n (xs.map (Value.int .i64))) (hn : xs.length = n) (hv : v ≠ .slice none 0 0) : ∃ g cap, v = .slice (some ⟨g, 0, none⟩) n cap ∧ b ≤ g ∧ RowC w g xs := by
  obtain ⟨h1, ⟨h2, _⟩ | ⟨g, cap, cur, h3, h4, h5, h6, h7, h8, h9⟩⟩ := h
  · exact absurd h2 hv
  · refine ⟨g, cap, h3, h4, cur, h5, fun j hj => ?_⟩
    have h10 : (cur.toList.take (n * 1))[j]? = some (.int .i64 xs[j]) := by rw [h9, List.getElem?_map, List.getElem?_eq_getElem hj]; rfl
    rw [List.getElem?_take, if_pos (by omega)] at h10
    simpa using h10

theorem pow_ge (m : Int) (h : 9 ≤ m) : (512 : Int) ≤ (2 : Int) ^ m.toNat := by
  obtain ⟨d, hd⟩ : ∃ d, m.toNat = 9 + d := ⟨m.toNat - 9, by omega⟩
  have h0 : (0 : Int) < 2 ^ d := Int.pow_pos (by omega)
  have e : (2 : Int) ^ 9 = 512 := rfl
  rw [hd, Int.pow_add, e]
  omega
theorem come_le (cs : List Int) : comeN cs ≤ cs.length := by rw [comeN_idx]; exact idx_len cs _

theorem fine_arg {cs : List Int} {m : Int} (hl : cs.length ≤ 288) (hc : ∀ x ∈ cs, 0 ≤ x ∧ x ≤ 1099511627776) (hm : 1 ≤ m ∧ m ≤ 15) : badArg cs m = false := by
  have h1 : cs.any badB = false := by
    rw [List.any_eq_false]
    intro x hx
    have := hc x hx
    unfold badB
    rw [decide_eq_false (show ¬ x < 0 by omega), decide_eq_false (show ¬ 1099511627776 < x by omega)]
    simp
  unfold badArg
  rw [h1, decide_eq_false (show ¬ 288 < cs.length by omega), decide_eq_false (show ¬ m < 1 by omega), decide_eq_false (show ¬ 15 < m by omega)]
  rfl

/-- Lengths of counts that may be, where there is room. -/
theorem lengths_ok (g n cap : Nat) (cs : List Int) (m : Int) (w : World) (hr : RowC w g cs) (hn : cs.length = n) (hb : badArg cs m = false) (hm : (comeN cs : Int) ≤ (2 : Int) ^ m.toNat) :
    Calls Try.prog 7 #[.slice (some ⟨g, 0, none⟩) n cap, .int .i64 m] w fun e w' => ∃ B, e = .returned (.tuple #[.slice (some ⟨B, 0, none⟩) n n, .int .i64 0]) ∧ Below w.heap.size w w' ∧ RowI w' B (lensP cs m) := by
  have h := lengths_any (some ⟨g, 0, none⟩) cap cs m w hr.reads (by have := (badArg_facts hb).1; omega)
  rw [hn] at h
  refine h.mono ?_
  rintro e w' ⟨v, x, rfl, hbw, ha⟩
  rcases ha with ⟨h, _⟩ | ⟨_, h, _⟩ | ⟨_, _, rfl, B, rfl, hr2, _⟩
  · rw [hb] at h; cases h
  · omega
  · rw [hn]
    exact ⟨B, rfl, hbw, hr2⟩

/-- New of lengths. -/
theorem new_lens (B n : Nat) (cs : List Int) (m : Int) (w : World) (hn : cs.length = n) (hb : badArg cs m = false) (hm : (comeN cs : Int) ≤ (2 : Int) ^ m.toNat) (hr : RowI w B (lensP cs m)) (loose : Bool) (hlo : 2 ≤ comeN cs ∨ loose = true) :
    Calls Try.prog 9 #[.slice (some ⟨B, 0, none⟩) n n, .bool loose] w fun e w' => ∃ g, e = .returned (.tuple #[.pointer (some ⟨g, 0, none⟩), .int .i64 0]) ∧ Below w.heap.size w w' := by
  have hf := badArg_facts hb
  have hx : ∀ x ∈ lensP cs m, 0 ≤ x ∧ x ≤ 15 := by
    intro x hx
    obtain ⟨s, hs, rfl⟩ := List.mem_iff_getElem.1 hx
    have hs' : s < cs.length := by rw [lensP_len] at hs; exact hs
    have h1 := lens_range cs m hb hm s hs'
    rw [getD_get _ s hs] at h1
    omega
  by_cases hN : 2 ≤ (usedL cs).length
  · have hfull := left_full _ (lens_full cs m hb hN hm)
    exact new_calls B n (lensP cs m) loose w (by rw [lensP_len, hn]) (by omega) hr hx hfull.2 (.inl hfull.1)
  · have hone := lens_one cs m hN
    exact new_calls B n (lensP cs m) loose w (by rw [lensP_len, hn]) (by omega) hr hx hone.1 (.inr ⟨hone.2.1, by rcases hlo with h | h; exact absurd h hN; exact h, hone.2.2⟩)

set_option maxHeartbeats 4000000 in
set_option maxRecDepth 100000 in
theorem many_walk (A : Option Addr) (c : Nat) (xs : List Int) (most : Int) (w : World) (hA : Reads w A xs) (hc : xs.length ≤ c) (hl : c ≤ 140737488351232) (wm : (Lit.int .i64 most).wf = true) :
    Calls Try.prog 5 #[.slice A xs.length c, .int .i64 most] w fun e w' => e = .returned (.bool true) ∧ Below w.heap.size w w' := by
  have HA := Lib.hid hA
  have HSP := Lib.hid (speaks_calls w)
  obtain ⟨n0, hn0⟩ : ∃ n, xs.length = n := ⟨_, rfl⟩
  have HN0 := Lib.hid hn0
  rw [hn0] at hc ⊢
  obtain ⟨n, hn⟩ : ∃ n, min n0 288 = n := ⟨_, rfl⟩
  have hmin : min (n0 : Int) 288 = n := by omega
  have hnc : n ≤ c := by omega
  have hn1 : n ≤ n0 := by omega
  have hn2 : n ≤ 288 := by omega
  have f0 : (0 : Int) ≤ (n : Int) := by omega
  have f1 : (n : Int) ≤ (c : Int) := by omega
  have HNM := Lib.hid hn
  have hii : Try.prog.info? 3 = some ti := by kernel_rfl
  have hiz0 : ti.zero = some (.int .i64 0) := by kernel_rfl
  have hiz1 : ti.size = 1 := by kernel_rfl
  have hiz2 : ti.bytes = 8 := by kernel_rfl
  clear hA hn0 hn
  go_enter Try.func5, Try.ntmps5
  go_upto_region 3 with (first | (go_at_call 6; refine HSP.out.mono ?_; rintro e w1 ⟨rfl, hb⟩; have HB1 := Lib.hid hb; have HA1 := Lib.hid (HA.out.below hb); clear hb))
  rcases A with _ | ad
  · have hn00 : n0 = 0 := by
      rcases Nat.eq_zero_or_pos n0 with h | h
      · exact h
      · obtain ⟨g, o, e, _⟩ := HA.out 0 (by rw [HN0.out]; exact h)
        cases e
    have HN00 := Lib.hid hn00
    have hn0 : n = 0 := by omega
    subst hn0
    clear hn00
    go_upto_region 4 with fail
    have hgB : w.heap.size ≤ w1.heap.size := HB1.out.size
    have HRC : Hid (RowC (w1.alloc (.cells #[] 3)) w1.heap.size []) := Lib.hid ⟨#[], heap_new w1 _, fun j hj => (by cases hj)⟩
    have HB2 : Hid (Below w.heap.size w (w1.alloc (.cells #[] 3))) := Lib.hid (HB1.out.alloc hgB _)
    obtain ⟨w2, hw2⟩ : ∃ w2, w2 = w1.alloc (.cells #[] 3) := ⟨_, rfl⟩
    obtain ⟨g2, hg2⟩ : ∃ g2, w1.heap.size = g2 := ⟨_, rfl⟩
    rw [← hw2, hg2] at HRC
    rw [← hw2] at HB2
    rw [← hw2, hg2]
    clear hw2 hg2 hgB
    have hr7 : 0 ≤ Go.bits .and .i64 most 7 ∧ Go.bits .and .i64 most 7 ≤ 7 := mkB_range 7 (by omega) most
    have hmr : 9 ≤ 9 + Go.bits .and .i64 most 7 % 7 ∧ 9 + Go.bits .and .i64 most 7 % 7 ≤ 15 := by omega
    obtain ⟨m, hm⟩ : ∃ m, 9 + Go.bits .and .i64 most 7 % 7 = m := ⟨_, rfl⟩
    rw [hm] at hmr
    have hbad : badArg [] m = false := fine_arg (by simp) (fun x hx => (by cases hx)) ⟨by omega, by omega⟩
    have hc0 : comeN [] = 0 := by have := come_le []; simp at this; exact this
    have hcm : (comeN [] : Int) ≤ (2 : Int) ^ m.toNat := by
      have h2 := pow_ge m hmr.1
      rw [hc0]
      omega
    have HLN := Lib.hid (fun W (hW : RowC W g2 []) => lengths_ok g2 0 0 [] m W hW rfl hbad hcm)
    have HCMM := Lib.hid (fun W (hW : RowC W g2 []) => come_calls (some ⟨g2, 0, none⟩) 0 [] W hW.reads (by simp))
    have HNW := Lib.hid (fun W B (hW : RowI W B (lensP [] m)) => new_lens B 0 [] m W rfl hbad hcm hW true (.inr rfl))
    rw [hc0] at HCMM
    clear hbad hcm hc0
    go_wp2
    go_loopw [5] (fun i wr => i = .int .i64 0 ∧ wr = w2) (fun _ _ => 0)
    case atStart => exact ⟨rfl, rfl⟩
    case round =>
      obtain ⟨rfl, rfl⟩ := hrel
      go_upto_region 9 with fail
      clear hm
      go_upto_region 10 with (go_at_call 7; refine (HLN.out _ HRC.out).mono ?_; rintro e w3 ⟨B1, rfl, hb3, hr3⟩; replace HRC := Lib.hid (HRC.out.below hb3); replace HB2 := Lib.hid (HB2.out.trans (hb3.mono HB2.out.size)); have HR3 := Lib.hid hr3; clear hr3 hb3)
      go_wp2_with (go_at_call 7; refine (HLN.out _ HRC.out).mono ?_; rintro e w4 ⟨B2, rfl, hb4, hr4⟩; replace HRC := Lib.hid (HRC.out.below hb4); replace HB2 := Lib.hid (HB2.out.trans (hb4.mono HB2.out.size)); replace HR3 := Lib.hid (HR3.out.below hb4); clear hr4 hb4)
      go_loopw [10] (fun i wr => i = .int .i64 0 ∧ wr = w4) (fun _ _ => 0)
      case atStart => exact ⟨rfl, rfl⟩
      case round =>
        obtain ⟨rfl, rfl⟩ := hrel
        go_wp2_with (first | (go_at_call 8; refine (HCMM.out _ HRC.out).mono ?_; rintro e w5 ⟨rfl, rfl⟩) | (go_at_call 9; refine (HNW.out _ _ HR3.out).mono ?_; rintro e w6 ⟨g6, rfl, hb6⟩))
        go_ret
        exact ⟨rfl, HB2.out.trans (hb6.mono HB2.out.size)⟩
  · go_upto_region 4 with (at_builtin; refine wpList_append_own _ rfl _ _ 22 rfl w.heap.size 3 ti (.int .i64 0) 1 8 Try.underlying22 hii hiz0 hiz1 hiz2 rfl (by decide) _ _ _ rfl (own_lower (own_empty w1 _) HB1.out.size) ad n c ((xs.take n).map (Value.int .i64)) ?c0 ?c1 ?c2 ?c3 ?c4 ?c5 ?c6 ?_)
    case c0 => rfl
    case c1 => rw [List.length_map, List.length_take, HN0.out]; omega
    case c2 =>
      intro j u hj
      rw [List.getElem?_map] at hj
      obtain ⟨x, hx, rfl⟩ := Option.map_eq_some_iff.1 hj
      obtain ⟨hjl, hxe⟩ := List.getElem?_eq_some_iff.1 hx
      rw [List.length_take] at hjl
      rw [List.getElem_take] at hxe
      obtain ⟨g, o, e, hcell⟩ := HA1.out j (by omega)
      cases e
      have hadd : (⟨g, o, none⟩ : Addr).add j = ⟨g, o + j, none⟩ := by unfold Addr.add; split <;> simp_all
      rw [hadd, ← hxe]
      exact (((Below.refl _ _).alloc (Nat.le_refl _) _).cell (World.block_lt_of_cell? w1 _ hcell)).trans hcell
    case c3 =>
      intro u hu
      obtain ⟨x, _, rfl⟩ := List.mem_map.1 hu
      rfl
    case c4 => unfold maxLen; omega
    case c5 => omega
    case c6 => exact Nat.le_trans HB1.out.size (by simp)
    intro v' w2 hown hg hnil
    go_upto_region 4 with fail
    obtain ⟨ys, hys⟩ : ∃ ys, xs.take n = ys := ⟨_, rfl⟩
    have hyl : ys.length = n := by rw [← hys, List.length_take, HN0.out]; omega
    rw [← List.map_take, hys] at hown
    obtain ⟨g2, cap2, hv, hgB, hrc⟩ := row_of_own hown hyl hnil
    subst hv
    have HYL := Lib.hid hyl
    have HRC : Hid (RowC w2 g2 (maskTo 1099511627775 ys 0)) := Lib.hid (by unfold maskTo; simpa using hrc)
    have HB2 : Hid (Below w.heap.size w w2) := Lib.hid ((HB1.out.alloc HB1.out.size _).grown hg (Nat.le_trans HB1.out.size (by simp)) (fun r e => by cases e; exact HB1.out.size))
    clear hys hyl hown hrc hg hnil
    go_wp2
    go_loopw [5] (fun i wr => ∃ k : Nat, k ≤ n ∧ i = .int .i64 k ∧ RowC wr g2 (maskTo 1099511627775 ys k) ∧ Below w.heap.size w wr) (fun i _ => n - (intOf i).toNat)
    case atStart => exact ⟨0, Nat.zero_le _, rfl, HRC.out, HB2.out⟩
    case round =>
      obtain ⟨k, hk, rfl, hrow, hbw⟩ := hrel
      have HR := Lib.hid hrow
      have HB := Lib.hid hbw
      clear hrow hbw
      by_cases hlt : k < n
      · have q1 : decide ((k : Int) < (n : Int)) = true := decide_eq_true (by omega)
        have k1 : k < ys.length := by rw [HYL.out]; exact hlt
        have k2 : k < (maskTo 1099511627775 ys k).length := by rw [maskTo_len _ _ _ (by omega)]; exact k1
        obtain ⟨hc1, hf1⟩ := HR.out.cell k k2
        have hget := maskTo_get 1099511627775 ys k k1
        rw [List.getElem?_eq_getElem k2, Option.some.injEq] at hget
        rw [hget] at hc1
        have hsu := maskTo_succ 1099511627775 ys k k1
        obtain ⟨x, hx⟩ : ∃ x, ys[k] = x := ⟨_, rfl⟩
        rw [hx] at hc1 hsu
        unfold mkB at hsu
        obtain ⟨y, hy⟩ : ∃ y, Go.bits .and .i64 x 1099511627775 = y := ⟨_, rfl⟩
        rw [hy] at hsu
        have HSU := Lib.hid hsu
        have hgl : g2 < wr.heap.size := HR.out.lt
        clear hget hx hsu
        go_wp2
        go_roundw
        case rel => exact ⟨k + 1, by omega, by go_num, by rw [HSU.out]; exact HR.out.set k k2 y, HB.out.setCell hgB _⟩
        case measure => simp [intOf]; omega
      · have hkn : k = n := by omega
        have q1 : decide ((k : Int) < (n : Int)) = false := decide_eq_false (by omega)
        obtain ⟨cs, hcs⟩ : ∃ cs, ys.map (mkB 1099511627775) = cs := ⟨_, rfl⟩
        have HRW : Hid (RowC wr g2 cs) := Lib.hid (by
          have h := HR.out
          rw [hkn, ← HYL.out, maskTo_all, hcs] at h
          exact h)
        have HCR : Hid (∀ x ∈ cs, 0 ≤ x ∧ x ≤ 1099511627775) := Lib.hid (by
          intro x hx
          rw [← hcs] at hx
          obtain ⟨z, _, rfl⟩ := List.mem_map.1 hx
          exact mkB_range 1099511627775 (by omega) z)
        have HCL : Hid (cs.length = n) := Lib.hid (by rw [← hcs, List.length_map, HYL.out])
        clear hkn hcs
        have hr7 : 0 ≤ Go.bits .and .i64 most 7 ∧ Go.bits .and .i64 most 7 ≤ 7 := mkB_range 7 (by omega) most
        have hmr : 9 ≤ 9 + Go.bits .and .i64 most 7 % 7 ∧ 9 + Go.bits .and .i64 most 7 % 7 ≤ 15 := by omega
        obtain ⟨m, hm⟩ : ∃ m, 9 + Go.bits .and .i64 most 7 % 7 = m := ⟨_, rfl⟩
        rw [hm] at hmr
        go_upto_region 9 with fail
        clear hm
        have hbad : badArg cs m = false := fine_arg (by rw [HCL.out]; exact hn2) (fun x hx => by have := HCR.out x hx; omega) ⟨by omega, by omega⟩
        have hcm : (comeN cs : Int) ≤ (2 : Int) ^ m.toNat := by
          have h1 := come_le cs
          have h2 := pow_ge m hmr.1
          rw [HCL.out] at h1
          omega
        have HLN := Lib.hid (fun W (hW : RowC W g2 cs) => lengths_ok g2 n cap2 cs m W hW HCL.out hbad hcm)
        have HRG := Lib.hid (fun s hs => lens_range cs m hbad hcm s hs)
        have HCMM := Lib.hid (fun W (hW : RowC W g2 cs) => come_calls (some ⟨g2, 0, none⟩) cap2 cs W hW.reads (by rw [HCL.out]; omega))
        have HNW := Lib.hid (fun W B (hW : RowI W B (lensP cs m)) => new_lens B n cs m W HCL.out hbad hcm hW (decide ((comeN cs : Int) < 2)) (by
          by_cases h : 2 ≤ comeN cs
          · exact .inl h
          · exact .inr (decide_eq_true (by omega))))
        have HLL : Hid ((lensP cs m).length = n) := Lib.hid (by rw [lensP_len, HCL.out])
        rw [HCL.out] at HCMM
        obtain ⟨ls, hls⟩ : ∃ ls, lensP cs m = ls := ⟨_, rfl⟩
        rw [hls] at HLN HRG HNW HLL
        clear hr7 hbad hcm hls
        go_upto_region 10 with (go_at_call 7; refine (HLN.out _ HRW.out).mono ?_; rintro e w3 ⟨B1, rfl, hb3, hr3⟩; replace HRW := Lib.hid (HRW.out.below hb3); replace HB := Lib.hid (HB.out.trans (hb3.mono HB.out.size)); have HR3 := Lib.hid hr3; clear hr3 hb3)
        go_wp2_with (go_at_call 7; refine (HLN.out _ HRW.out).mono ?_; rintro e w4 ⟨B2, rfl, hb4, hr4⟩; replace HRW := Lib.hid (HRW.out.below hb4); replace HB := Lib.hid (HB.out.trans (hb4.mono HB.out.size)); replace HR3 := Lib.hid (HR3.out.below hb4); have HR4 := Lib.hid hr4; clear hr4 hb4)
        go_loopw [10] (fun i wr => ∃ k : Nat, k ≤ n ∧ i = .int .i64 k ∧ ∃ q, wr = w4.drewN q) (fun i _ => n - (intOf i).toNat)
        case atStart => exact ⟨0, Nat.zero_le _, rfl, 0, rfl⟩
        case round =>
          obtain ⟨k, hk, rfl, q, hwq⟩ := hrel
          have HWQ := Lib.hid hwq
          have HRK : Hid (RowC wr g2 cs) := Lib.hid (by rw [hwq]; exact HRW.out.below (below_drewN (Below.refl _ _) q))
          have HRA : Hid (RowI wr B1 ls) := Lib.hid (by rw [hwq]; exact HR3.out.below (below_drewN (Below.refl _ _) q))
          have HRB : Hid (RowI wr B2 ls) := Lib.hid (by rw [hwq]; exact HR4.out.below (below_drewN (Below.refl _ _) q))
          clear hwq
          by_cases hlt : k < n
          · have q2 : decide ((k : Int) < (n : Int)) = true := decide_eq_true (by omega)
            have k1 : k < ls.length := by rw [HLL.out]; exact hlt
            have k2 : k < cs.length := by rw [HCL.out]; exact hlt
            have g0 : (0 : Int) ≤ (k : Int) := by omega
            have g1 : (k : Int) < (n : Int) := by omega
            have e1 := (HRA.out.cell k k1).1
            have e2 := (HRB.out.cell k k1).1
            have e3 := (HRK.out.cell k k2).1
            have hrg := HRG.out k k2
            rw [getD_get _ k k1, getD_get _ k k2] at hrg
            obtain ⟨l, hl⟩ : ∃ l, ls[k] = l := ⟨_, rfl⟩
            obtain ⟨x, hx⟩ : ∃ x, cs[k] = x := ⟨_, rfl⟩
            rw [hl] at e1 e2 hrg
            rw [hx] at e3 hrg
            have r1 : decide (m < l) = false := decide_eq_false (by omega)
            have r2 : (l != l) = false := by simp
            have HRGG := Lib.hid hrg
            clear hl hx hrg
            cases r3 : decide (0 < l) with
            | true =>
              have r4 : decide (0 < x) = true := decide_eq_true (HRGG.out.2.2.1 (of_decide_eq_true r3))
              go_wp2_with fail
              go_quiet (fail)
              go_wp2
              go_roundw
              case rel => exact ⟨k + 1, by omega, by go_num, _, by rw [HWQ.out, World.drewN_drewN]⟩
              case measure => simp [intOf]; omega
            | false =>
              have r4 : decide (0 < x) = false := decide_eq_false (fun h => of_decide_eq_false r3 (HRGG.out.2.2.2 h))
              go_wp2_with fail
              go_quiet (fail)
              go_wp2
              go_roundw
              case rel => exact ⟨k + 1, by omega, by go_num, _, by rw [HWQ.out, World.drewN_drewN]⟩
              case measure => simp [intOf]; omega
          · have q2 : decide ((k : Int) < (n : Int)) = false := decide_eq_false (by omega)
            have HBX : Hid (Below w.heap.size w wr) := Lib.hid (by rw [HWQ.out]; exact below_drewN HB.out q)
            go_wp2_with (first | (go_at_call 8; refine (HCMM.out _ HRK.out).mono ?_; rintro e w5 ⟨rfl, rfl⟩) | (go_at_call 9; refine (HNW.out _ _ HRA.out).mono ?_; rintro e w6 ⟨g6, rfl, hb6⟩))
            go_ret
            exact ⟨rfl, HBX.out.trans (hb6.mono HBX.out.size)⟩

theorem many_any (v : Value) (xs : List Int) (most : Int) (w : World) (h : Fa.IntsOf w .i64 v xs) (hx : ∀ x ∈ xs, (Lit.int .i64 x).wf = true) {n : Nat} (hy : n ≤ 140737488351232) (wm : (Lit.int .i64 most).wf = true) :
    Calls Try.prog 5 #[v, .int .i64 most] w fun e w' => e = .returned (.bool true) ∧ Below w.heap.size w w' := by
  rcases h with ⟨a, c, rfl, rfl, h1, h2⟩ | ⟨b, o, c, rfl, h0, h1, h2, h3, h4⟩
  · exact many_walk a c [] most w (fun j hj => (by cases hj)) (Nat.zero_le _) h2 wm
  · exact many_walk _ c xs most w (fun j hj => ⟨b, o, rfl, h4 j hj⟩) h1 h2 wm

end Go.Proofs.Ytnoplhjbachjiaa.Mg
