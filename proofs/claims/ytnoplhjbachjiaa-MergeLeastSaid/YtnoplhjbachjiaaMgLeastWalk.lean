/-
  Merge: MergeLeast answers true.
-/
import Derived.Test.YtnoplhjbachjiaaMgLeastB
import Derived.Deep.CutBlock
namespace Go.Proofs.Ytnoplhjbachjiaa.Mg
open Go.ChangeShapes Go.WideShapes Go.ChangeAt Go.RowKit Go.Shelf Go.Proofs
set_option linter.unusedVariables false
set_option linter.unusedSimpArgs false

/-- One symbol alone has a word of one bit. -/
theorem lens_single (cs : List Int) (m : Int) (h : comeN cs = 1) (s : Nat) : (lensP cs m).getD s 0 ≤ 1 := by
  have hN : (usedL cs).length < 2 := by unfold comeN at h; omega
  unfold lensP
  rw [if_pos hN]
  have key : ∀ (ks : List Nat) (o : List Int), (∀ i, o.getD i 0 ≤ 1) → ∀ i, (ks.foldl (fun o s => o.set s 1) o).getD i 0 ≤ 1 := by
    intro ks
    induction ks with
    | nil => intro o ho; exact ho
    | cons k ks ih =>
      intro o ho
      rw [List.foldl_cons]
      refine ih _ fun i => ?_
      rw [List.getD_eq_getElem?_getD, List.getElem?_set]
      have h1 := ho i
      rw [List.getD_eq_getElem?_getD] at h1
      split
      · split <;> simp
      · exact h1
  refine key _ _ (fun i => ?_) s
  rw [List.getD_eq_getElem?_getD, List.getElem?_replicate]
  split <;> simp

/-- Least, of counts as the law has them. -/
theorem least_law (g c n0 : Nat) (cs : List Int) (m : Int) (w : World) (hr : RowC w g cs) (hn0 : cs.length = n0) (hl0 : n0 ≤ 24) (hc : ∀ x ∈ cs, 0 ≤ x ∧ x ≤ 1073741823) (hb : badArg cs m = false) (hcm : (comeN cs : Int) ≤ (2 : Int) ^ m.toNat) (hm : 1 ≤ m ∧ m ≤ 15) (h2 : 2 ≤ comeN cs) :
    Calls Try.prog 11 #[.slice (some ⟨g, 0, none⟩) n0 c, .int .i64 m] w fun e w' => e = .returned (.int .i64 (costP cs (lensP cs m))) ∧ Below w.heap.size w w' := by
  have hc0 : ∀ x ∈ cs, 0 ≤ x := fun x hx => (hc x hx).1
  have hlen := srt_len cs hc0
  have hs : ∀ x ∈ srtTo cs n0, 0 ≤ x ∧ x ≤ 1073741823 := by
    intro x hx
    rw [← hn0] at hx
    have h1 := (srtTo_perm cs hc0 cs.length (Nat.le_refl _)).mem_iff.1 hx
    obtain ⟨s, hs, rfl⟩ := List.mem_map.1 h1
    have h3 := (posL_mem cs cs.length (Nat.le_refl _) s).1 hs
    rw [getD_get _ s h3.1]
    exact hc _ (List.getElem_mem h3.1)
  have h := least_calls g c n0 (usedL cs).length cs m w hr hn0 hl0 hc hm (by rw [← hn0]; exact hlen) h2 hs
  have he := least_eq cs m hb h2 hcm (restF (srtTo cs n0)) (fun i => by
    rcases Nat.lt_or_ge i (srtTo cs n0).length with h3 | h3
    · exact (restF_bound _ 1073741823 hs ((srtTo cs n0).length - i) i (by omega)).1
    · unfold restF; rw [List.drop_of_length_le h3]; exact Int.le_refl _) (fun i hi => by
    rw [← hn0]
    exact srt_rest cs hc0 i hi)
  rw [he] at h
  exact h

set_option maxHeartbeats 4000000 in
set_option maxRecDepth 100000 in
theorem least_walk (A : Option Addr) (c : Nat) (xs : List Int) (most : Int) (w : World) (hA : Reads w A xs) (hc : xs.length ≤ c) (hl : c ≤ 140737488351232) (wm : (Lit.int .i64 most).wf = true) :
    Calls Try.prog 4 #[.slice A xs.length c, .int .i64 most] w fun e w' => e = .returned (.bool true) ∧ Below w.heap.size w w' := by
  have HA := Lib.hid hA
  have HSP := Lib.hid (speaks_calls w)
  obtain ⟨n0, hn0⟩ : ∃ n, xs.length = n := ⟨_, rfl⟩
  have HN0 := Lib.hid hn0
  rw [hn0] at hc ⊢
  obtain ⟨n, hn⟩ : ∃ n, min n0 24 = n := ⟨_, rfl⟩
  have hmin : min (n0 : Int) 24 = n := by omega
  have hnc : n ≤ c := by omega
  have hn1 : n ≤ n0 := by omega
  have hn2 : n ≤ 24 := by omega
  have f0 : (0 : Int) ≤ (n : Int) := by omega
  have f1 : (n : Int) ≤ (c : Int) := by omega
  have HNM := Lib.hid hn
  have hii : Try.prog.info? 3 = some ti := by kernel_rfl
  have hiz0 : ti.zero = some (.int .i64 0) := by kernel_rfl
  have hiz1 : ti.size = 1 := by kernel_rfl
  have hiz2 : ti.bytes = 8 := by kernel_rfl
  clear hA hn0 hn
  go_enter Try.func4, Try.ntmps4
  go_upto_region 3 with (first | (go_at_call 6; refine HSP.out.mono ?_; rintro e w1 ⟨rfl, hb⟩; have HB1 := Lib.hid hb; have HA1 := Lib.hid (HA.out.below hb); clear hb))
  rcases A with _ | ad
  · have hn00 : n0 = 0 := by
      rcases Nat.eq_zero_or_pos n0 with h | h
      · exact h
      · obtain ⟨g, o, e, _⟩ := HA.out 0 (by rw [HN0.out]; exact h)
        cases e
    have HN00 := Lib.hid hn00
    have hn0 : n = 0 := by omega
    subst hn0
    clear hn00
    go_upto_region 4 with fail
    have hgB : w.heap.size ≤ w1.heap.size := HB1.out.size
    have HRC : Hid (RowC (w1.alloc (.cells #[] 3)) w1.heap.size []) := Lib.hid ⟨#[], heap_new w1 _, fun j hj => (by cases hj)⟩
    have HB2 : Hid (Below w.heap.size w (w1.alloc (.cells #[] 3))) := Lib.hid (HB1.out.alloc hgB _)
    obtain ⟨w2, hw2⟩ : ∃ w2, w2 = w1.alloc (.cells #[] 3) := ⟨_, rfl⟩
    obtain ⟨g2, hg2⟩ : ∃ g2, w1.heap.size = g2 := ⟨_, rfl⟩
    rw [← hw2, hg2] at HRC
    rw [← hw2] at HB2
    rw [← hw2, hg2]
    clear hw2 hg2 hgB
    have hr7 : 0 ≤ Go.bits .and .i64 most 15 ∧ Go.bits .and .i64 most 15 ≤ 15 := mkB_range 15 (by omega) most
    have hmr : 1 ≤ 1 + Go.bits .and .i64 most 15 % 15 ∧ 1 + Go.bits .and .i64 most 15 % 15 ≤ 15 := by omega
    obtain ⟨m, hm⟩ : ∃ m, 1 + Go.bits .and .i64 most 15 % 15 = m := ⟨_, rfl⟩
    rw [hm] at hmr
    have hbad : badArg [] m = false := fine_arg (by simp) (fun x hx => (by cases hx)) ⟨by omega, by omega⟩
    have hc0 : comeN [] = 0 := by have := come_le []; simp at this; exact this
    have h2p : (0 : Int) < (2 : Int) ^ m.toNat := Int.pow_pos (by omega)
    have hcm : (comeN [] : Int) ≤ (2 : Int) ^ m.toNat := by rw [hc0]; omega
    have tP : decide ((2 : Int) ^ m.toNat < 0) = false := decide_eq_false (by omega)
    have tP2 : decide ((2 : Int) ^ m.toNat < ((0 : Nat) : Int)) = false := decide_eq_false (by omega)
    have hP : IntKind.i64.wrap ((2 : Int) ^ m.toNat) = (2 : Int) ^ m.toNat := by
      have h5 : m.toNat ≤ 15 := by omega
      have h6 : (2 : Int) ^ m.toNat ≤ 2 ^ 15 := by
        have := Nat.pow_le_pow_right (n := 2) (by omega) h5
        exact_mod_cast this
      have h7 : (0 : Int) ≤ 2 ^ m.toNat := Int.pow_nonneg (by omega)
      rw [IntKind.wrap_i64]
      omega
    have HLN := Lib.hid (fun W (hW : RowC W g2 []) => lengths_ok g2 0 0 [] m W hW rfl hbad hcm)
    have HCMM := Lib.hid (fun W (hW : RowC W g2 []) => come_calls (some ⟨g2, 0, none⟩) 0 [] W hW.reads (by simp))
    have HNW := Lib.hid (fun W B (hW : RowI W B (lensP [] m)) => new_lens B 0 [] m W rfl hbad hcm hW true (.inr rfl))
    rw [hc0] at HCMM
    clear hbad hcm hc0
    go_wp2
    go_loopw [5] (fun i wr => i = .int .i64 0 ∧ wr = w2) (fun _ _ => 0)
    case atStart => exact ⟨rfl, rfl⟩
    case round =>
      obtain ⟨rfl, rfl⟩ := hrel
      go_upto_region 9 with fail
      clear hm
      go_upto_region 10 with (go_at_call 7; refine (HLN.out _ HRC.out).mono ?_; rintro e w3 ⟨B1, rfl, hb3, hr3⟩; replace HRC := Lib.hid (HRC.out.below hb3); replace HB2 := Lib.hid (HB2.out.trans (hb3.mono HB2.out.size)); clear hr3 hb3)
      go_wp2_with (first | (go_at_call 8; refine (HCMM.out _ HRC.out).mono ?_; rintro e w5 ⟨rfl, rfl⟩))
      go_loopw [9] (fun i wr => i = .int .i64 0 ∧ wr = w5) (fun _ _ => 0)
      case atStart => exact ⟨rfl, rfl⟩
      case round =>
        obtain ⟨rfl, rfl⟩ := hrel
        go_wp2
        go_ret
        exact ⟨rfl, HB2.out⟩
  · go_upto_region 4 with (at_builtin; refine wpList_append_own _ rfl _ _ 22 rfl w.heap.size 3 ti (.int .i64 0) 1 8 Try.underlying22 hii hiz0 hiz1 hiz2 rfl (by decide) _ _ _ rfl (own_lower (own_empty w1 _) HB1.out.size) ad n c ((xs.take n).map (Value.int .i64)) ?c0 ?c1 ?c2 ?c3 ?c4 ?c5 ?c6 ?_)
    case c0 => rfl
    case c1 => rw [List.length_map, List.length_take, HN0.out]; omega
    case c2 =>
      intro j u hj
      rw [List.getElem?_map] at hj
      obtain ⟨x, hx, rfl⟩ := Option.map_eq_some_iff.1 hj
      obtain ⟨hjl, hxe⟩ := List.getElem?_eq_some_iff.1 hx
      rw [List.length_take] at hjl
      rw [List.getElem_take] at hxe
      obtain ⟨g, o, e, hcell⟩ := HA1.out j (by omega)
      cases e
      have hadd : (⟨g, o, none⟩ : Addr).add j = ⟨g, o + j, none⟩ := by unfold Addr.add; split <;> simp_all
      rw [hadd, ← hxe]
      exact (((Below.refl _ _).alloc (Nat.le_refl _) _).cell (World.block_lt_of_cell? w1 _ hcell)).trans hcell
    case c3 =>
      intro u hu
      obtain ⟨x, _, rfl⟩ := List.mem_map.1 hu
      rfl
    case c4 => unfold maxLen; omega
    case c5 => omega
    case c6 => exact Nat.le_trans HB1.out.size (by simp)
    intro v' w2 hown hg hnil
    go_upto_region 4 with fail
    obtain ⟨ys, hys⟩ : ∃ ys, xs.take n = ys := ⟨_, rfl⟩
    have hyl : ys.length = n := by rw [← hys, List.length_take, HN0.out]; omega
    rw [← List.map_take, hys] at hown
    obtain ⟨g2, cap2, hv, hgB, hrc⟩ := row_of_own hown hyl hnil
    subst hv
    have HYL := Lib.hid hyl
    have HRC : Hid (RowC w2 g2 (maskTo 1073741823 ys 0)) := Lib.hid (by unfold maskTo; simpa using hrc)
    have HB2 : Hid (Below w.heap.size w w2) := Lib.hid ((HB1.out.alloc HB1.out.size _).grown hg (Nat.le_trans HB1.out.size (by simp)) (fun r e => by cases e; exact HB1.out.size))
    clear hys hyl hown hrc hg hnil
    go_wp2
    go_loopw [5] (fun i wr => ∃ k : Nat, k ≤ n ∧ i = .int .i64 k ∧ RowC wr g2 (maskTo 1073741823 ys k) ∧ Below w.heap.size w wr) (fun i _ => n - (intOf i).toNat)
    case atStart => exact ⟨0, Nat.zero_le _, rfl, HRC.out, HB2.out⟩
    case round =>
      obtain ⟨k, hk, rfl, hrow, hbw⟩ := hrel
      have HR := Lib.hid hrow
      have HB := Lib.hid hbw
      clear hrow hbw
      by_cases hlt : k < n
      · have q1 : decide ((k : Int) < (n : Int)) = true := decide_eq_true (by omega)
        have k1 : k < ys.length := by rw [HYL.out]; exact hlt
        have k2 : k < (maskTo 1073741823 ys k).length := by rw [maskTo_len _ _ _ (by omega)]; exact k1
        obtain ⟨hc1, hf1⟩ := HR.out.cell k k2
        have hget := maskTo_get 1073741823 ys k k1
        rw [List.getElem?_eq_getElem k2, Option.some.injEq] at hget
        rw [hget] at hc1
        have hsu := maskTo_succ 1073741823 ys k k1
        obtain ⟨x, hx⟩ : ∃ x, ys[k] = x := ⟨_, rfl⟩
        rw [hx] at hc1 hsu
        unfold mkB at hsu
        obtain ⟨y, hy⟩ : ∃ y, Go.bits .and .i64 x 1073741823 = y := ⟨_, rfl⟩
        rw [hy] at hsu
        have HSU := Lib.hid hsu
        have hgl : g2 < wr.heap.size := HR.out.lt
        clear hget hx hsu
        go_wp2
        go_roundw
        case rel => exact ⟨k + 1, by omega, by go_num, by rw [HSU.out]; exact HR.out.set k k2 y, HB.out.setCell hgB _⟩
        case measure => simp [intOf]; omega
      · have hkn : k = n := by omega
        have q1 : decide ((k : Int) < (n : Int)) = false := decide_eq_false (by omega)
        obtain ⟨cs, hcs⟩ : ∃ cs, ys.map (mkB 1073741823) = cs := ⟨_, rfl⟩
        have HRW : Hid (RowC wr g2 cs) := Lib.hid (by
          have h := HR.out
          rw [hkn, ← HYL.out, maskTo_all, hcs] at h
          exact h)
        have HCR : Hid (∀ x ∈ cs, 0 ≤ x ∧ x ≤ 1073741823) := Lib.hid (by
          intro x hx
          rw [← hcs] at hx
          obtain ⟨z, _, rfl⟩ := List.mem_map.1 hx
          exact mkB_range 1073741823 (by omega) z)
        have HCL : Hid (cs.length = n) := Lib.hid (by rw [← hcs, List.length_map, HYL.out])
        clear hkn hcs
        have hr7 : 0 ≤ Go.bits .and .i64 most 15 ∧ Go.bits .and .i64 most 15 ≤ 15 := mkB_range 15 (by omega) most
        have hmr : 1 ≤ 1 + Go.bits .and .i64 most 15 % 15 ∧ 1 + Go.bits .and .i64 most 15 % 15 ≤ 15 := by omega
        obtain ⟨m, hm⟩ : ∃ m, 1 + Go.bits .and .i64 most 15 % 15 = m := ⟨_, rfl⟩
        rw [hm] at hmr
        go_upto_region 9 with fail
        clear hm
        have hbad : badArg cs m = false := fine_arg (by rw [HCL.out]; omega) (fun x hx => by have := HCR.out x hx; omega) ⟨by omega, by omega⟩
        have hP : IntKind.i64.wrap ((2 : Int) ^ m.toNat) = (2 : Int) ^ m.toNat := by
          have h5 : m.toNat ≤ 15 := by omega
          have h6 : (2 : Int) ^ m.toNat ≤ 2 ^ 15 := by
            have := Nat.pow_le_pow_right (n := 2) (by omega) h5
            exact_mod_cast this
          have h7 : (0 : Int) ≤ 2 ^ m.toNat := Int.pow_nonneg (by omega)
          rw [IntKind.wrap_i64]
          omega
        have HCMM := Lib.hid (fun W (hW : RowC W g2 cs) => come_calls (some ⟨g2, 0, none⟩) cap2 cs W hW.reads (by rw [HCL.out]; omega))
        rw [HCL.out] at HCMM
        have HBD := Lib.hid hbad
        by_cases hcm : (comeN cs : Int) ≤ (2 : Int) ^ m.toNat
        · have tP : decide ((2 : Int) ^ m.toNat < (comeN cs : Int)) = false := decide_eq_false (by omega)
          have HLN := Lib.hid (fun W (hW : RowC W g2 cs) => lengths_ok g2 n cap2 cs m W hW HCL.out hbad hcm)
          have HRG := Lib.hid (fun s hs => lens_range cs m hbad hcm s hs)
          have HORD := Lib.hid (fun s k hs hk ps pk h => lens_order cs m hbad hcm s k hs hk ps pk h)
          have HSG := Lib.hid (fun h1 s => lens_single cs m h1 s)
          have HNW := Lib.hid (fun h2 W B (hW : RowI W B (lensP cs m)) => new_lens B n cs m W HCL.out hbad hcm hW false (.inl h2))
          have HLL : Hid ((lensP cs m).length = n) := Lib.hid (by rw [lensP_len, HCL.out])
          have HCST := Lib.hid (fun W B (hC : RowC W g2 cs) (hW : RowI W B (lensP cs m)) => cost_calls (some ⟨g2, 0, none⟩) (some ⟨B, 0, none⟩) cap2 n cs (lensP cs m) W hC.reads hW.reads (by rw [lensP_len]) (by rw [HCL.out]; omega) (fun x hx => by have := HCR.out x hx; omega) (fun x hx => by
            obtain ⟨s, hs, rfl⟩ := List.mem_iff_getElem.1 hx
            have h1 := lens_range cs m hbad hcm s (by rw [lensP_len] at hs; exact hs)
            rw [getD_get _ s hs] at h1
            omega))
          have HLST := Lib.hid (fun (h2 : 2 ≤ comeN cs) W (hC : RowC W g2 cs) => least_law g2 cap2 n cs m W hC HCL.out hn2 HCR.out hbad hcm ⟨by omega, by omega⟩ h2)
          rw [HLL.out, HCL.out] at HCST
          obtain ⟨ls, hls⟩ : ∃ ls, lensP cs m = ls := ⟨_, rfl⟩
          rw [hls] at HLN HRG HNW HLL HORD HCST HLST HSG
          obtain ⟨cost, hcost⟩ : ∃ x, costP cs ls = x := ⟨_, rfl⟩
          rw [hcost] at HCST HLST
          obtain ⟨NN, hNN⟩ : ∃ NN, comeN cs = NN := ⟨_, rfl⟩
          rw [hNN] at HNW HLST tP HCMM HSG
          have hNNl : NN ≤ 24 := by have := come_le cs; rw [HCL.out] at this; omega
          clear hr7 hbad hcm hls hcost hNN
          go_upto_region 10 with (go_at_call 7; refine (HLN.out _ HRW.out).mono ?_; rintro e w3 ⟨B1, rfl, hb3, hr3⟩; replace HRW := Lib.hid (HRW.out.below hb3); replace HB := Lib.hid (HB.out.trans (hb3.mono HB.out.size)); have HR3 := Lib.hid hr3; clear hr3 hb3)
          go_wp2_with (first | (go_at_call 8; refine (HCMM.out _ HRW.out).mono ?_; rintro e w5 ⟨rfl, rfl⟩))
          go_loopw [9] (fun i wr => ∃ k : Nat, k ≤ n ∧ i = .int .i64 k ∧ ∃ q, wr = w5.drewN q) (fun i _ => n - (intOf i).toNat)
          case atStart => exact ⟨0, Nat.zero_le _, rfl, 0, rfl⟩
          case round =>
            obtain ⟨k, hk, rfl, q, hwq⟩ := hrel
            have HWQ := Lib.hid hwq
            have HRK : Hid (RowC wr g2 cs) := Lib.hid (by rw [hwq]; exact HRW.out.below (below_drewN (Below.refl _ _) q))
            have HRA : Hid (RowI wr B1 ls) := Lib.hid (by rw [hwq]; exact HR3.out.below (below_drewN (Below.refl _ _) q))
            have HBX : Hid (Below w.heap.size w wr) := Lib.hid (by rw [hwq]; exact below_drewN HB.out q)
            clear hwq
            by_cases hlt : k < n
            · have q2 : decide ((k : Int) < (n : Int)) = true := decide_eq_true (by omega)
              have k1 : k < ls.length := by rw [HLL.out]; exact hlt
              have k2 : k < cs.length := by rw [HCL.out]; exact hlt
              have g0 : (0 : Int) ≤ (k : Int) := by omega
              have g1 : (k : Int) < (n : Int) := by omega
              have e1 := (HRA.out.cell k k1).1
              have e3 := (HRK.out.cell k k2).1
              have hrg := HRG.out k k2
              have hsg := fun h => HSG.out h k
              rw [getD_get _ k k1, getD_get _ k k2] at hrg
              simp only [getD_get _ k k1] at hsg
              obtain ⟨lk, hl⟩ : ∃ l, ls[k] = l := ⟨_, rfl⟩
              obtain ⟨x, hx⟩ : ∃ x, cs[k] = x := ⟨_, rfl⟩
              rw [hl] at e1 hrg
              simp only [hl] at hsg
              rw [hx] at e3 hrg
              have HLK := Lib.hid hl
              have HXK := Lib.hid hx
              have r1 : decide (m < lk) = false := decide_eq_false (by omega)
              have hr0 : decide (0 < x) = decide (0 < lk) := decide_eq_decide.2 hrg.2.2.symm
              have HRGG := Lib.hid hrg
              clear hl hx hrg
              cases r3 : decide (0 < lk) with
              | true =>
                rw [r3] at hr0
                by_cases hN1 : NN = 1
                · have u1 : ((NN : Int) == 1) = true := by simp [hN1]
                  have u2 : decide (1 < lk) = false := decide_eq_false (by have := hsg hN1; omega)
                  clear hN1 hsg
                  go_wp2_with fail
                  go_quiet (fail)
                  generalize hwd : World.drewN _ _ = wd
                  have HWD : Hid (wd = w5.drewN (q + nq)) := Lib.hid (by rw [← hwd, HWQ.out, World.drewN_drewN])
                  clear hwd e1 e3
                  go_wp2
                  go_loopw [10] (fun i wr => ∃ j : Nat, j ≤ n ∧ i = .int .i64 j ∧ ∃ q, wr = w5.drewN q) (fun i _ => n - (intOf i).toNat)
                  case atStart => exact ⟨0, Nat.zero_le _, rfl, _, HWD.out⟩
                  case round =>
                    obtain ⟨j, hj, rfl, q3, hwq⟩ := hrel
                    have HWQ3 := Lib.hid hwq
                    have HRK3 : Hid (RowC wr g2 cs) := Lib.hid (by rw [hwq]; exact HRW.out.below (below_drewN (Below.refl _ _) q3))
                    have HRA3 : Hid (RowI wr B1 ls) := Lib.hid (by rw [hwq]; exact HR3.out.below (below_drewN (Below.refl _ _) q3))
                    clear hwq
                    by_cases hjn : j < n
                    · have q4 : decide ((j : Int) < (n : Int)) = true := decide_eq_true (by omega)
                      have j1 : j < ls.length := by rw [HLL.out]; exact hjn
                      have j2 : j < cs.length := by rw [HCL.out]; exact hjn
                      have g2a : (0 : Int) ≤ (j : Int) := by omega
                      have g3a : (j : Int) < (n : Int) := by omega
                      have e1 := (HRA3.out.cell k k1).1
                      have e2 := (HRA3.out.cell j j1).1
                      have e3 := (HRK3.out.cell k k2).1
                      have e4 := (HRK3.out.cell j j2).1
                      have hord := HORD.out k j k2 j2
                      rw [getD_get _ k k1, getD_get _ k k2, getD_get _ j j1, getD_get _ j j2] at hord
                      rw [HLK.out] at e1 hord
                      rw [HXK.out] at e3 hord
                      obtain ⟨lj, hlj⟩ : ∃ l, ls[j] = l := ⟨_, rfl⟩
                      obtain ⟨z, hz⟩ : ∃ z, cs[j] = z := ⟨_, rfl⟩
                      rw [hlj] at e2 hord
                      rw [hz] at e4 hord
                      have HORJ := Lib.hid hord
                      clear hlj hz hord
                      by_cases hz0 : 0 < z
                      · have y2 : decide (0 < z) = true := decide_eq_true hz0
                        have hx0 : 0 < x := of_decide_eq_true hr0
                        by_cases hgt : z < x
                        · have y3 : decide (z < x) = true := decide_eq_true hgt
                          have y4 : decide (lj < lk) = false := decide_eq_false (by have := HORJ.out hx0 hz0 (.inl hgt); omega)
                          as_aux_lemma =>
                            go_wp2_with fail
                            go_quiet (fail)
                            go_wp2
                            go_roundw
                            case rel => exact ⟨j + 1, by omega, by go_num, _, by rw [HWQ3.out, World.drewN_drewN]⟩
                            case measure => simp [intOf]; omega
                        · have y3 : decide (z < x) = false := decide_eq_false hgt
                          by_cases heq : x = z
                          · have y4 : (x == z) = true := by simp [heq]
                            by_cases hkj : k < j
                            · have y5 : decide ((k : Int) < (j : Int)) = true := decide_eq_true (by omega)
                              have y6 : decide (lj < lk) = false := decide_eq_false (by have := HORJ.out hx0 hz0 (.inr ⟨heq, hkj⟩); omega)
                              clear heq
                              as_aux_lemma =>
                                go_wp2_with fail
                                go_quiet (fail)
                                go_wp2
                                go_roundw
                                case rel => exact ⟨j + 1, by omega, by go_num, _, by rw [HWQ3.out, World.drewN_drewN]⟩
                                case measure => simp [intOf]; omega
                            · have y5 : decide ((k : Int) < (j : Int)) = false := decide_eq_false (by omega)
                              clear heq
                              as_aux_lemma =>
                                go_wp2_with fail
                                go_quiet (fail)
                                go_wp2
                                go_roundw
                                case rel => exact ⟨j + 1, by omega, by go_num, _, by rw [HWQ3.out, World.drewN_drewN]⟩
                                case measure => simp [intOf]; omega
                          · have y4 : (x == z) = false := by simp [heq]
                            as_aux_lemma =>
                              go_wp2_with fail
                              go_quiet (fail)
                              go_wp2
                              go_roundw
                              case rel => exact ⟨j + 1, by omega, by go_num, _, by rw [HWQ3.out, World.drewN_drewN]⟩
                              case measure => simp [intOf]; omega
                      · have y2 : decide (0 < z) = false := decide_eq_false hz0
                        as_aux_lemma =>
                          go_wp2_with fail
                          go_quiet (fail)
                          go_wp2
                          go_roundw
                          case rel => exact ⟨j + 1, by omega, by go_num, _, by rw [HWQ3.out, World.drewN_drewN]⟩
                          case measure => simp [intOf]; omega
                    · have q4 : decide ((j : Int) < (n : Int)) = false := decide_eq_false (by omega)
                      go_wp2
                      go_roundw
                      case rel => exact ⟨k + 1, by omega, by go_num, _, HWQ3.out⟩
                      case measure => simp [intOf]; omega
                · have u1 : ((NN : Int) == 1) = false := by simp; omega
                  clear hsg
                  go_wp2_with fail
                  go_quiet (fail)
                  generalize hwd : World.drewN _ _ = wd
                  have HWD : Hid (wd = w5.drewN (q + nq)) := Lib.hid (by rw [← hwd, HWQ.out, World.drewN_drewN])
                  clear hwd e1 e3
                  go_wp2
                  go_loopw [10] (fun i wr => ∃ j : Nat, j ≤ n ∧ i = .int .i64 j ∧ ∃ q, wr = w5.drewN q) (fun i _ => n - (intOf i).toNat)
                  case atStart => exact ⟨0, Nat.zero_le _, rfl, _, HWD.out⟩
                  case round =>
                    obtain ⟨j, hj, rfl, q3, hwq⟩ := hrel
                    have HWQ3 := Lib.hid hwq
                    have HRK3 : Hid (RowC wr g2 cs) := Lib.hid (by rw [hwq]; exact HRW.out.below (below_drewN (Below.refl _ _) q3))
                    have HRA3 : Hid (RowI wr B1 ls) := Lib.hid (by rw [hwq]; exact HR3.out.below (below_drewN (Below.refl _ _) q3))
                    clear hwq
                    by_cases hjn : j < n
                    · have q4 : decide ((j : Int) < (n : Int)) = true := decide_eq_true (by omega)
                      have j1 : j < ls.length := by rw [HLL.out]; exact hjn
                      have j2 : j < cs.length := by rw [HCL.out]; exact hjn
                      have g2a : (0 : Int) ≤ (j : Int) := by omega
                      have g3a : (j : Int) < (n : Int) := by omega
                      have e1 := (HRA3.out.cell k k1).1
                      have e2 := (HRA3.out.cell j j1).1
                      have e3 := (HRK3.out.cell k k2).1
                      have e4 := (HRK3.out.cell j j2).1
                      have hord := HORD.out k j k2 j2
                      rw [getD_get _ k k1, getD_get _ k k2, getD_get _ j j1, getD_get _ j j2] at hord
                      rw [HLK.out] at e1 hord
                      rw [HXK.out] at e3 hord
                      obtain ⟨lj, hlj⟩ : ∃ l, ls[j] = l := ⟨_, rfl⟩
                      obtain ⟨z, hz⟩ : ∃ z, cs[j] = z := ⟨_, rfl⟩
                      rw [hlj] at e2 hord
                      rw [hz] at e4 hord
                      have HORJ := Lib.hid hord
                      clear hlj hz hord
                      by_cases hz0 : 0 < z
                      · have y2 : decide (0 < z) = true := decide_eq_true hz0
                        have hx0 : 0 < x := of_decide_eq_true hr0
                        by_cases hgt : z < x
                        · have y3 : decide (z < x) = true := decide_eq_true hgt
                          have y4 : decide (lj < lk) = false := decide_eq_false (by have := HORJ.out hx0 hz0 (.inl hgt); omega)
                          as_aux_lemma =>
                            go_wp2_with fail
                            go_quiet (fail)
                            go_wp2
                            go_roundw
                            case rel => exact ⟨j + 1, by omega, by go_num, _, by rw [HWQ3.out, World.drewN_drewN]⟩
                            case measure => simp [intOf]; omega
                        · have y3 : decide (z < x) = false := decide_eq_false hgt
                          by_cases heq : x = z
                          · have y4 : (x == z) = true := by simp [heq]
                            by_cases hkj : k < j
                            · have y5 : decide ((k : Int) < (j : Int)) = true := decide_eq_true (by omega)
                              have y6 : decide (lj < lk) = false := decide_eq_false (by have := HORJ.out hx0 hz0 (.inr ⟨heq, hkj⟩); omega)
                              clear heq
                              as_aux_lemma =>
                                go_wp2_with fail
                                go_quiet (fail)
                                go_wp2
                                go_roundw
                                case rel => exact ⟨j + 1, by omega, by go_num, _, by rw [HWQ3.out, World.drewN_drewN]⟩
                                case measure => simp [intOf]; omega
                            · have y5 : decide ((k : Int) < (j : Int)) = false := decide_eq_false (by omega)
                              clear heq
                              as_aux_lemma =>
                                go_wp2_with fail
                                go_quiet (fail)
                                go_wp2
                                go_roundw
                                case rel => exact ⟨j + 1, by omega, by go_num, _, by rw [HWQ3.out, World.drewN_drewN]⟩
                                case measure => simp [intOf]; omega
                          · have y4 : (x == z) = false := by simp [heq]
                            as_aux_lemma =>
                              go_wp2_with fail
                              go_quiet (fail)
                              go_wp2
                              go_roundw
                              case rel => exact ⟨j + 1, by omega, by go_num, _, by rw [HWQ3.out, World.drewN_drewN]⟩
                              case measure => simp [intOf]; omega
                      · have y2 : decide (0 < z) = false := decide_eq_false hz0
                        as_aux_lemma =>
                          go_wp2_with fail
                          go_quiet (fail)
                          go_wp2
                          go_roundw
                          case rel => exact ⟨j + 1, by omega, by go_num, _, by rw [HWQ3.out, World.drewN_drewN]⟩
                          case measure => simp [intOf]; omega
                    · have q4 : decide ((j : Int) < (n : Int)) = false := decide_eq_false (by omega)
                      go_wp2
                      go_roundw
                      case rel => exact ⟨k + 1, by omega, by go_num, _, HWQ3.out⟩
                      case measure => simp [intOf]; omega
              | false =>
                rw [r3] at hr0
                by_cases hN1 : NN = 1
                · have u1 : ((NN : Int) == 1) = true := by simp [hN1]
                  have u2 : decide (1 < lk) = false := decide_eq_false (by have := hsg hN1; omega)
                  clear hN1 hsg
                  go_wp2_with fail
                  go_quiet (fail)
                  generalize hwd : World.drewN _ _ = wd
                  have HWD : Hid (wd = w5.drewN (q + nq)) := Lib.hid (by rw [← hwd, HWQ.out, World.drewN_drewN])
                  clear hwd e1 e3
                  go_wp2
                  go_loopw [10] (fun i wr => ∃ j : Nat, j ≤ n ∧ i = .int .i64 j ∧ ∃ q, wr = w5.drewN q) (fun i _ => n - (intOf i).toNat)
                  case atStart => exact ⟨0, Nat.zero_le _, rfl, _, HWD.out⟩
                  case round =>
                    obtain ⟨j, hj, rfl, q3, hwq⟩ := hrel
                    have HWQ3 := Lib.hid hwq
                    have HRK3 : Hid (RowC wr g2 cs) := Lib.hid (by rw [hwq]; exact HRW.out.below (below_drewN (Below.refl _ _) q3))
                    have HRA3 : Hid (RowI wr B1 ls) := Lib.hid (by rw [hwq]; exact HR3.out.below (below_drewN (Below.refl _ _) q3))
                    clear hwq
                    by_cases hjn : j < n
                    · have q4 : decide ((j : Int) < (n : Int)) = true := decide_eq_true (by omega)
                      have j1 : j < ls.length := by rw [HLL.out]; exact hjn
                      have j2 : j < cs.length := by rw [HCL.out]; exact hjn
                      have g2a : (0 : Int) ≤ (j : Int) := by omega
                      have g3a : (j : Int) < (n : Int) := by omega
                      have e1 := (HRA3.out.cell k k1).1
                      have e2 := (HRA3.out.cell j j1).1
                      have e3 := (HRK3.out.cell k k2).1
                      have e4 := (HRK3.out.cell j j2).1
                      have hord := HORD.out k j k2 j2
                      rw [getD_get _ k k1, getD_get _ k k2, getD_get _ j j1, getD_get _ j j2] at hord
                      rw [HLK.out] at e1 hord
                      rw [HXK.out] at e3 hord
                      obtain ⟨lj, hlj⟩ : ∃ l, ls[j] = l := ⟨_, rfl⟩
                      obtain ⟨z, hz⟩ : ∃ z, cs[j] = z := ⟨_, rfl⟩
                      rw [hlj] at e2 hord
                      rw [hz] at e4 hord
                      have HORJ := Lib.hid hord
                      clear hlj hz hord
                      as_aux_lemma =>
                        go_wp2_with fail
                        go_quiet (fail)
                        go_wp2
                        go_roundw
                        case rel => exact ⟨j + 1, by omega, by go_num, _, by rw [HWQ3.out, World.drewN_drewN]⟩
                        case measure => simp [intOf]; omega
                    · have q4 : decide ((j : Int) < (n : Int)) = false := decide_eq_false (by omega)
                      go_wp2
                      go_roundw
                      case rel => exact ⟨k + 1, by omega, by go_num, _, HWQ3.out⟩
                      case measure => simp [intOf]; omega
                · have u1 : ((NN : Int) == 1) = false := by simp; omega
                  clear hsg
                  go_wp2_with fail
                  go_quiet (fail)
                  generalize hwd : World.drewN _ _ = wd
                  have HWD : Hid (wd = w5.drewN (q + nq)) := Lib.hid (by rw [← hwd, HWQ.out, World.drewN_drewN])
                  clear hwd e1 e3
                  go_wp2
                  go_loopw [10] (fun i wr => ∃ j : Nat, j ≤ n ∧ i = .int .i64 j ∧ ∃ q, wr = w5.drewN q) (fun i _ => n - (intOf i).toNat)
                  case atStart => exact ⟨0, Nat.zero_le _, rfl, _, HWD.out⟩
                  case round =>
                    obtain ⟨j, hj, rfl, q3, hwq⟩ := hrel
                    have HWQ3 := Lib.hid hwq
                    have HRK3 : Hid (RowC wr g2 cs) := Lib.hid (by rw [hwq]; exact HRW.out.below (below_drewN (Below.refl _ _) q3))
                    have HRA3 : Hid (RowI wr B1 ls) := Lib.hid (by rw [hwq]; exact HR3.out.below (below_drewN (Below.refl _ _) q3))
                    clear hwq
                    by_cases hjn : j < n
                    · have q4 : decide ((j : Int) < (n : Int)) = true := decide_eq_true (by omega)
                      have j1 : j < ls.length := by rw [HLL.out]; exact hjn
                      have j2 : j < cs.length := by rw [HCL.out]; exact hjn
                      have g2a : (0 : Int) ≤ (j : Int) := by omega
                      have g3a : (j : Int) < (n : Int) := by omega
                      have e1 := (HRA3.out.cell k k1).1
                      have e2 := (HRA3.out.cell j j1).1
                      have e3 := (HRK3.out.cell k k2).1
                      have e4 := (HRK3.out.cell j j2).1
                      have hord := HORD.out k j k2 j2
                      rw [getD_get _ k k1, getD_get _ k k2, getD_get _ j j1, getD_get _ j j2] at hord
                      rw [HLK.out] at e1 hord
                      rw [HXK.out] at e3 hord
                      obtain ⟨lj, hlj⟩ : ∃ l, ls[j] = l := ⟨_, rfl⟩
                      obtain ⟨z, hz⟩ : ∃ z, cs[j] = z := ⟨_, rfl⟩
                      rw [hlj] at e2 hord
                      rw [hz] at e4 hord
                      have HORJ := Lib.hid hord
                      clear hlj hz hord
                      as_aux_lemma =>
                        go_wp2_with fail
                        go_quiet (fail)
                        go_wp2
                        go_roundw
                        case rel => exact ⟨j + 1, by omega, by go_num, _, by rw [HWQ3.out, World.drewN_drewN]⟩
                        case measure => simp [intOf]; omega
                    · have q4 : decide ((j : Int) < (n : Int)) = false := decide_eq_false (by omega)
                      go_wp2
                      go_roundw
                      case rel => exact ⟨k + 1, by omega, by go_num, _, HWQ3.out⟩
                      case measure => simp [intOf]; omega
            · have q2 : decide ((k : Int) < (n : Int)) = false := decide_eq_false (by omega)
              by_cases h2 : NN < 2
              · have t9 : decide ((NN : Int) < 2) = true := decide_eq_true (by omega)
                go_wp2
                go_ret
                exact ⟨rfl, HBX.out⟩
              · have t9 : decide ((NN : Int) < 2) = false := decide_eq_false (by omega)
                have h2' : 2 ≤ NN := by omega
                go_wp2_with (first | (go_at_call 9; refine (HNW.out h2' _ _ HRA.out).mono ?_; rintro e w6 ⟨g6, rfl, hb6⟩; replace HRK := Lib.hid (HRK.out.below hb6); replace HRA := Lib.hid (HRA.out.below hb6); replace HBX := Lib.hid (HBX.out.trans (hb6.mono HBX.out.size)); clear hb6) | (go_at_call 10; refine (HCST.out _ _ HRK.out HRA.out).mono ?_; rintro e w7 ⟨rfl, hb7⟩; replace HRK := Lib.hid (HRK.out.below hb7); replace HBX := Lib.hid (HBX.out.trans (hb7.mono HBX.out.size)); clear hb7) | (go_at_call 11; refine (HLST.out h2' _ HRK.out).mono ?_; rintro e w8 ⟨rfl, hb8⟩))
                go_ret
                exact ⟨by simp, HBX.out.trans (hb8.mono HBX.out.size)⟩
        · have hcm2 : (2 : Int) ^ m.toNat < (comeN cs : Int) := by omega
          have tP : decide ((2 : Int) ^ m.toNat < (comeN cs : Int)) = true := decide_eq_true hcm2
          have HLN := Lib.hid (fun W (hW : RowC W g2 cs) => lengths_limit (some ⟨g2, 0, none⟩) cap2 cs m W hW.reads hbad hcm2)
          rw [HCL.out] at HLN
          clear hr7 hbad hcm hcm2
          go_wp2_with (first | (go_at_call 7; refine (HLN.out _ HRW.out).mono ?_; rintro e w3 ⟨rfl, hb3⟩; replace HRW := Lib.hid (HRW.out.below hb3); replace HB := Lib.hid (HB.out.trans (hb3.mono HB.out.size)); clear hb3) | (go_at_call 8; refine (HCMM.out _ HRW.out).mono ?_; rintro e w5 ⟨rfl, rfl⟩))
          go_ret
          exact ⟨rfl, HB.out⟩


theorem least_any (v : Value) (xs : List Int) (most : Int) (w : World) (h : Fa.IntsOf w .i64 v xs) (hx : ∀ x ∈ xs, (Lit.int .i64 x).wf = true) {n : Nat} (hy : n ≤ 140737488351232) (wm : (Lit.int .i64 most).wf = true) :
    Calls Try.prog 4 #[v, .int .i64 most] w fun e w' => e = .returned (.bool true) ∧ Below w.heap.size w w' := by
  rcases h with ⟨a, c, rfl, rfl, h1, h2⟩ | ⟨b, o, c, rfl, h0, h1, h2, h3, h4⟩
  · exact least_walk a c [] most w (fun j hj => (by cases hj)) (Nat.zero_le _) h2 wm
  · exact least_walk _ c xs most w (fun j hj => ⟨b, o, rfl, h4 j hj⟩) h1 h2 wm

end Go.Proofs.Ytnoplhjbachjiaa.Mg
