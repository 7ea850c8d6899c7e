/-
  The reference of layer 7: a stream of blocks is read.
-/
import Derived.Test.YtmpokiflhijnoaaDoorRfReadP
import Derived.BigQuiet
namespace Go.Proofs.YtmpokiflhijnoaaDoor.Rf
open Go.RowKit Go.Shelf Go.Proofs.YtmpokiflhijnoaaDoor.Mg Go.Proofs.YtmpokiflhijnoaaDoor.Bw Go.Proofs.YtmpokiflhijnoaaDoor.Bk Go.Proofs.YtmpokiflhijnoaaDoor.Cn Go.Proofs.YtmpokiflhijnoaaDoor.Zp
set_option linter.unusedVariables false
set_option linter.unusedSimpArgs false

theorem bitI_one (b : Bool) : (bitI b == 1) = b := by cases b <;> rfl
theorem bit_cell {s : ByteArray} {w : World} {base g c : Nat} (h : w.ownsRow base 3 1 (.slice (some ⟨g, 0, none⟩) (8 * s.size) c) (8 * s.size) (intsV (bitsI (strB s)))) (j : Nat) (b : Bool) (hj : (strB s)[j]? = some b) : w.cell? ⟨g, j, none⟩ = some (.int .i64 (bitI b)) := by
  refine own_cell1 h j _ ?_
  unfold intsV bitsI
  rw [List.getElem?_map, List.getElem?_map, hj]
  rfl
theorem bits_own {s : ByteArray} {w : World} {base g c : Nat} (h : w.ownsRow base 3 1 (.slice (some ⟨g, 0, none⟩) (8 * s.size) c) (8 * s.size) (intsV (bitsI (strB s)))) : BitsAt w (some ⟨g, 0, none⟩) (strB s) :=
  reads_own h 0 _ (fun j hj => by rw [Nat.zero_add, List.getElem?_eq_getElem hj])
theorem fixD_len : fixD.length = 32 := by decide
/-- What stands behind a block's kind, and how long the block is. -/
theorem body_at {S P rest : List Bool} {b : Blk} {l : List Blk} (hk : b.kind ≠ 0) (h : S = wrBs P (b :: l) ++ rest) :
    S.drop (P.length + 3) = bodyB b.kind b.ts ++ S.drop (wrB P b).length ∧ (wrB P b).length ≤ S.length ∧ (wrB P b).length = P.length + 3 + (bodyB b.kind b.ts).length := by
  obtain ⟨m, hm⟩ := wrBs_ext l (wrB P b)
  have h2 : S = wrB P b ++ (m ++ rest) := by rw [h, ← List.append_assoc, ← hm]; rfl
  have hw : wrB P b = P ++ (kindB b.kind b.last ++ bodyB b.kind b.ts) := by unfold wrB; rw [if_neg hk]; rfl
  have hl : (wrB P b).length = P.length + 3 + (bodyB b.kind b.ts).length := by rw [hw, List.length_append, List.length_append, kindB_len]; omega
  refine ⟨?_, by rw [h2, List.length_append]; omega, hl⟩
  have e1 : S.drop (wrB P b).length = m ++ rest := by rw [h2, List.drop_left]
  rw [e1, h2, hw]
  have e2 : (P ++ kindB b.kind b.last).length = P.length + 3 := by rw [List.length_append, kindB_len]
  rw [show P ++ (kindB b.kind b.last ++ bodyB b.kind b.ts) ++ (m ++ rest) = (P ++ kindB b.kind b.last) ++ (bodyB b.kind b.ts ++ (m ++ rest)) by simp only [List.append_assoc], ← e2, List.drop_left]
theorem kind_at {S P rest : List Bool} {b : Blk} {l : List Blk} (h : S = wrBs P (b :: l) ++ rest) :
    P.length + 3 ≤ S.length ∧ S[P.length]? = some b.last ∧ S[P.length + 1]? = some (decide (b.kind % 2 = 1)) ∧ S[P.length + 2]? = some (decide (b.kind / 2 % 2 = 1)) := by
  obtain ⟨m, hm⟩ := wrBs_ext l (wrB P b)
  obtain ⟨m2, hm2⟩ := wrB_ext P b
  have h2 : S = P ++ (kindB b.kind b.last ++ (m2 ++ (m ++ rest))) := by
    rw [h]
    show wrBs (wrB P b) l ++ rest = _
    rw [hm, hm2]
    simp only [List.append_assoc]
  rw [kindB_eq] at h2
  refine ⟨by rw [h2]; simp, ?_, ?_, ?_⟩ <;> rw [h2] <;> simp
theorem stored_len {P : List Bool} {b : Blk} (hk : b.kind = 0) : (padB (P ++ kindB 0 b.last)).length = 8 * ((P.length + 3 + 7) / 8) ∧ (wrB P b).length = 8 * ((P.length + 3 + 7) / 8 + 4 + b.s.size) := by
  have h1 := padB_mod (P ++ kindB 0 b.last)
  have h2 : (padB (P ++ kindB 0 b.last)).length = P.length + 3 + (8 - (P.length + 3) % 8) % 8 := by
    unfold padB
    rw [List.length_append, List.length_replicate, List.length_append, kindB_len]
  refine ⟨by omega, ?_⟩
  unfold wrB
  rw [if_pos hk]
  unfold storedB
  rw [List.length_append, strB_len, storedS_size]
  omega

set_option maxHeartbeats 8000000 in
set_option maxRecDepth 100000 in
theorem read_calls (s : ByteArray) (bks : List Blk) (rest : List Bool) (w : World) (hs : s.size ≤ 100000000) (hne : bks ≠ []) (hok : okBs [] bks) (hbits : strB s = wrBs [] bks ++ rest) (hout : (outBs [] bks).length ≤ 1000000000) :
    Calls Tryd.prog 29 #[.string s] w fun e w' => ∃ v, e = .returned (.tuple #[v, .int .i64 ((8 * s.size - rest.length : Nat) : Int), .int .i64 0]) ∧ w'.ownsRow w.heap.size 5 1 v (outBs [] bks).length (u8V (outBs [] bks)) ∧ Below w.heap.size w w' := by
  have HBI := Lib.hid (bits_calls s w hs)
  have HOK := Lib.hid hok
  have HBT := Lib.hid hbits
  have HNE := Lib.hid hne
  have hsl := strB_len s
  have hpos : 3 ≤ 8 * s.size := by
    rcases bks with _ | ⟨b, l⟩
    · exact absurd rfl hne
    · have h := (kind_at hbits).1
      rw [hsl] at h
      simp at h
      omega
  obtain ⟨E, hE⟩ : ∃ E, outBs [] bks = E := ⟨_, rfl⟩
  have HE := Lib.hid hE
  rw [hE] at hout ⊢
  clear hok hbits hne hE
  go_enter Tryd.func29, Tryd.ntmps29
  go_wp2_with fail
  refine HBI.out.mono ?_
  rintro e w2 ⟨⟨v, rfl, hov⟩, hb2⟩
  obtain ⟨gA, c, rfl, hg1, hg2⟩ := hov.form (by omega)
  have hcb : 8 * s.size ≤ c ∧ c ≤ maxLen := by
    rcases hov.2 with ⟨h, _⟩ | ⟨g, cap, cur, h, _, _, hnc, hcm, _⟩
    · cases h
    · cases h
      exact ⟨hnc, hcm⟩
  obtain ⟨hcb, hcm⟩ := hcb
  have HOV := Lib.hid hov
  have HB2 := Lib.hid hb2
  have N0 := Lib.hid (World.ownsRow_nil w2 w2.heap.size 5 1)
  obtain ⟨nb, hnb⟩ : ∃ nb, 8 * s.size = nb := ⟨_, rfl⟩
  have HNB := Lib.hid hnb
  have HSL := Lib.hid hsl
  have hnb2 : nb ≤ 800000000 := by omega
  rw [hnb] at hcb ⊢
  have HCB := Lib.hid hcb
  clear hov hb2 hsl hnb hcm
  go_wp2
  go_loopw [6, 7] (fun vo va wr => ∃ (P : List Bool) (ol : List Int) (l : List Blk), va = .int .i64 P.length ∧ l ≠ [] ∧ okBs ol l ∧ strB s = wrBs P l ++ rest ∧ outBs ol l = E ∧ wr.ownsRow w2.heap.size 5 1 vo ol.length (u8V ol) ∧ Below w2.heap.size w2 wr) (fun _ va _ => nb - (intOf va).toNat)
  case atStart => exact ⟨[], [], bks, rfl, HNE.out, HOK.out, HBT.out, HE.out, N0.out, Below.refl _ _⟩
  case round =>
    obtain ⟨P, ol, l, rfl, hln, hok, hbits, hE, hown, hbl⟩ := hrel
    rcases l with _ | ⟨b, l⟩
    · exact absurd rfl hln
    obtain ⟨hk3, hl1, hl2, hl3⟩ := kind_at hbits
    obtain ⟨⟨hkk, hsz, hts⟩, hlast, hok2⟩ := hok
    rw [HSL.out, HNB.out] at hk3
    have HOV' := Lib.hid (own_below HOV.out hbl)
    rw [HNB.out] at HOV'
    have c0 := bit_cell (own_below HOV.out hbl) _ _ hl1
    have c1 := bit_cell (own_below HOV.out hbl) _ _ hl2
    have c2 := bit_cell (own_below HOV.out hbl) _ _ hl3
    have HA' := Lib.hid (bits_own (own_below HOV.out hbl))
    have HOW := Lib.hid hown
    have HBL := Lib.hid hbl
    have hlen : (outB ol b).length ≤ 1000000000 := by
      have h := outBs_len l (outB ol b)
      have h2 : outBs (outB ol b) l = E := hE
      rw [h2] at h
      omega
    have HE' : Hid (outBs (outB ol b) l = E) := Lib.hid hE
    have HOK2 := Lib.hid hok2
    have HBT2 := Lib.hid hbits
    have HBT3 : Hid (strB s = wrBs (wrB P b) l ++ rest) := Lib.hid hbits
    have HLA := Lib.hid hlast
    have HTS := Lib.hid hts
    have hwz : w2.heap.size ≤ wr.heap.size := hbl.size
    have hgA : gA < w2.heap.size := hg2
    obtain ⟨L, hL⟩ : ∃ L, b.last = L := ⟨_, rfl⟩
    rw [hL] at c0 HLA
    have qL := bitI_one L
    obtain ⟨a, ha⟩ : ∃ a, P.length = a := ⟨_, rfl⟩
    have HAP := Lib.hid ha
    rw [ha] at hk3 c0 c1 c2 ⊢
    obtain ⟨a3, ha3⟩ : ∃ a3, a + 3 = a3 := ⟨_, rfl⟩
    have HA3 := Lib.hid ha3
    have e3 : (a : Int) + 3 = (a3 : Int) := by omega
    have q0 : decide ((nb : Int) < (a3 : Int)) = false := decide_eq_false (by omega)
    have q0' : decide (nb < a3) = false := decide_eq_false (by omega)
    have b1 : a3 ≤ nb ∧ a < a3 := by omega
    have w1' : IntKind.i64.wrap ((a : Int) + 1) = (a : Int) + 1 := IntWalk.i64_in _ (by omega)
    have w2' : IntKind.i64.wrap ((a : Int) + 2) = (a : Int) + 2 := IntWalk.i64_in _ (by omega)
    have w3' : ((a : Int) + 1).toNat = a + 1 := by omega
    have w4' : ((a : Int) + 2).toNat = a + 2 := by omega
    have hol : outB ol b = outB ol b := rfl
    clear hl1 hl2 hl3 hown hbl hE hok2 hbits hlast hts hln ha ha3 hL hol HOV'
    rcases (by omega : b.kind = 0 ∨ b.kind = 1 ∨ b.kind = 2) with hk | hk | hk
    · rw [hk] at c1 c2
      have c1' : wr.cell? ⟨gA, a + 1, none⟩ = some (.int .i64 0) := c1
      have c2' : wr.cell? ⟨gA, a + 2, none⟩ = some (.int .i64 0) := c2
      clear c1 c2
      obtain ⟨hp1, hp2⟩ := stored_len (P := P) hk
      obtain ⟨k, hkd⟩ : ∃ k, (P.length + 3 + 7) / 8 = k := ⟨_, rfl⟩
      rw [hkd] at hp1 hp2
      obtain ⟨more, hmore⟩ : ∃ more, strB s = padB (P ++ kindB 0 b.last) ++ (strB (storedS b.s) ++ more) := by
        obtain ⟨m, hm⟩ := wrBs_ext l (wrB P b)
        refine ⟨m ++ rest, ?_⟩
        rw [HBT3.out, hm]
        unfold wrB
        rw [if_pos hk]
        unfold storedB
        simp only [List.append_assoc]
      obtain ⟨s1, s2, s3, s4⟩ := stored_at hp1 hsz hmore
      have hob : outB ol b = ol ++ strI b.s := by unfold outB; rw [if_pos hk]
      have HPL := Lib.hid (fun (W : World) (v : Value) (hv : W.ownsRow w2.heap.size 5 1 v ol.length (u8V ol)) (hb : w2.heap.size ≤ W.heap.size) => plain_calls s a3 k b.s.size w2.heap.size ol.length v (u8V ol) W (by rw [← HA3.out, ← HAP.out]; exact hkd) (by omega) (by omega) (by have := outB_len ol b; omega) hsz s1 s2 s3 hv hb)
      rw [s4] at HPL
      have HEQ : Hid (8 * (k + 4 + b.s.size) = (wrB P b).length) := Lib.hid hp2.symm
      have HOB := Lib.hid hob
      clear hmore s1 s2 s3 s4 hp1 hp2 hkd hob
      go_wp2_with fail
      go_quiet (fail)
      generalize hW : World.drewN _ _ = w3
      have HB3 : Hid (Below w2.heap.size w2 w3) := Lib.hid (by rw [← hW]; exact below_drewN HBL.out _)
      have HA3' : Hid (BitsAt w3 (some ⟨gA, 0, none⟩) (strB s)) := Lib.hid (by rw [← hW]; exact HA'.out.below (below_drewN (Below.refl _ _) _))
      have HO3 : Hid (w3.ownsRow w2.heap.size 5 1 u6 ol.length (u8V ol)) := Lib.hid (by rw [← hW]; exact own_below HOW.out (below_drewN (Below.refl _ _) _))
      have hw3 : w2.heap.size ≤ w3.heap.size := HB3.out.size
      clear hW c0 c1' c2' w1' w2' w3' w4' qL
      go_wp2_with fail
      refine (HPL.out w3 _ HO3.out hw3).mono ?_
      rintro e w4 ⟨⟨v4, rfl, ho4⟩, hb4⟩
      have HO7 : Hid (w4.ownsRow w2.heap.size 5 1 v4 (outB ol b).length (u8V (outB ol b))) := Lib.hid (by
        rw [HOB.out, u8V_app, u8V_strI, List.length_append, strI_len]
        exact ho4)
      have HB7 := Lib.hid (HB3.out.trans hb4)
      clear ho4 hb4
      obtain ⟨n7, hn7⟩ : ∃ n7, (wrB P b).length = n7 := ⟨_, rfl⟩
      have hlt : a < n7 ∧ n7 ≤ nb := by
        obtain ⟨m, hm⟩ := wrBs_ext l (wrB P b)
        have h1 := congrArg List.length HBT3.out
        rw [hm, List.length_append, List.length_append, HSL.out, HNB.out, hn7] at h1
        obtain ⟨m2, hm2⟩ := wrB_ext P b
        have h2 := congrArg List.length hm2
        rw [List.length_append, List.length_append, kindB_len, hn7, HAP.out] at h2
        omega
      rw [hn7] at HEQ
      obtain ⟨z, hz⟩ : ∃ z, 8 * (k + 4 + b.s.size) = z := ⟨_, rfl⟩
      have hzn : z = n7 := by rw [← hz]; exact HEQ.out
      rw [hz, hzn]
      clear hz hzn HEQ
      rcases l with _ | ⟨b2, l⟩
      · obtain rfl : L = true := HLA.out
        go_wp2
        go_ret3
        have hend : n7 = nb - rest.length := by
          have h := congrArg List.length HBT3.out
          have h3 : wrBs (wrB P b) [] = wrB P b := rfl
          rw [h3, List.length_append, HSL.out, HNB.out, hn7] at h
          omega
        have hEE : outB ol b = E := HE'.out
        refine ⟨_, by rw [HNB.out, ← hend]; rfl, ?_, ?_⟩
        · rw [← hEE]
          exact own_base HO7.out HB2.out.size
        · exact HB2.out.trans (HB7.out.mono HB2.out.size)
      · obtain rfl : L = false := HLA.out
        have HN7 := Lib.hid hn7
        clear hn7
        go_wp2
        go_roundw
        case rel => exact ⟨wrB P b, outB ol b, b2 :: l, by rw [HN7.out], by simp, HOK2.out, HBT3.out, HE'.out, HO7.out, HB7.out⟩
        case measure => simp [intOf]; omega
    · rw [hk] at c1 c2
      have c1' : wr.cell? ⟨gA, a + 1, none⟩ = some (.int .i64 1) := c1
      have c2' : wr.cell? ⟨gA, a + 2, none⟩ = some (.int .i64 0) := c2
      clear c1 c2
      obtain ⟨hq1, hq2, hq3⟩ := body_at (by omega) HBT2.out
      rw [HAP.out, HA3.out] at hq1 hq3
      obtain ⟨ht1, ht2, ht3⟩ := HTS.out (by omega)
      have hob : outB ol b = expTs ol b.ts := by unfold outB; rw [if_neg (by omega)]
      have HOB := Lib.hid hob
      have hexl : (expTs ol b.ts).length ≤ 1000000000 := by rw [← hob]; exact hlen
      have HQ1 := Lib.hid hq1
      have HT1 := Lib.hid ht2
      have HT2 := Lib.hid ht3
      clear hq1 hq3 ht2 ht3 hob
      go_wp2_with fail
      go_quiet (fail)
      generalize hW : World.drewN _ _ = w3
      have HB3 : Hid (Below w2.heap.size w2 w3) := Lib.hid (by rw [← hW]; exact below_drewN HBL.out _)
      have HA3' : Hid (BitsAt w3 (some ⟨gA, 0, none⟩) (strB s)) := Lib.hid (by rw [← hW]; exact HA'.out.below (below_drewN (Below.refl _ _) _))
      have HO3 : Hid (w3.ownsRow w2.heap.size 5 1 u6 ol.length (u8V ol)) := Lib.hid (by rw [← hW]; exact own_below HOW.out (below_drewN (Below.refl _ _) _))
      have hw3 : w2.heap.size ≤ w3.heap.size := HB3.out.size
      clear hW c0 c1' c2' w1' w2' w3' w4' qL
      go_wp2_with fail
      refine (reffixed_calls _).mono ?_
      rintro e w4 ⟨⟨v1, v2, rfl, ho1, ho2⟩, hb4⟩
      obtain ⟨g1, cc1, rfl, _, _⟩ := ho1.form (by decide)
      obtain ⟨g2, cc2, rfl, _, _⟩ := ho2.form (by decide)
      have hr1 : Reads w4 (some ⟨g1, 0, none⟩) fixL := reads_own ho1 0 fixL (fun j hj => by rw [Nat.zero_add, List.getElem?_eq_getElem hj])
      have hr2 : Reads w4 (some ⟨g2, 0, none⟩) fixD := reads_own ho2 0 fixD (fun j hj => by rw [Nat.zero_add, List.getElem?_eq_getElem hj])
      have HR1 := Lib.hid hr1
      have HR2 := Lib.hid hr2
      have HBB := Lib.hid (HB3.out.trans (hb4.mono hw3))
      have HA4 := Lib.hid (HA3'.out.below hb4)
      have HO4 := Lib.hid (own_below HO3.out hb4)
      clear ho1 ho2 hr1 hr2 hb4
      go_wp2_with fail
      have HT := tell_calls gA 0 c cc1 cc2 w2.heap.size (some ⟨g1, 0, none⟩) (some ⟨g2, 0, none⟩) (strB s) ((strB s).drop (wrB P b).length) a3 fixL fixD _ ol b.ts w4 HA4.out (by rw [HSL.out, HNB.out]; exact HCB.out) (by rw [HSL.out, HNB.out]; omega) HR1.out HR2.out (by rw [fixL_len]; decide) (by rw [fixD_len]; decide) fixL_range fixD_range (by rw [fixT.1]; decide) (by rw [fixT.2]; decide) ⟨by rw [fixL_len]; decide, fixL_pos 256 (by decide)⟩ (fun t ht => tokW_fix (HT1.out t ht)) HT2.out (by rw [HSL.out, HNB.out]; omega) (by rw [HQ1.out]; unfold bodyB; rw [if_pos hk, List.append_assoc]) hexl HO4.out (fun e => by have := (HO4.out.lt gA e).1; omega) HBB.out.size
      rw [HSL.out, HNB.out, fixL_len, fixD_len] at HT
      refine HT.mono ?_
      rintro e w6 ⟨v6, rfl, ho6, hg6⟩
      have HO7 : Hid (w6.ownsRow w2.heap.size 5 1 v6 (outB ol b).length (u8V (outB ol b))) := Lib.hid (by
        rw [HOB.out]
        exact ho6)
      have HB7 := Lib.hid (HBB.out.trans (hg6.below (fun q e => (HO4.out.lt q e).1) HBB.out.size))
      have HEQ : Hid (nb - ((strB s).drop (wrB P b).length).length = (wrB P b).length) := Lib.hid (by rw [List.length_drop, HSL.out, HNB.out]; rw [HSL.out, HNB.out] at hq2; omega)
      clear ho6 hg6
      obtain ⟨n7, hn7⟩ : ∃ n7, (wrB P b).length = n7 := ⟨_, rfl⟩
      have hlt : a < n7 ∧ n7 ≤ nb := by
        obtain ⟨m, hm⟩ := wrBs_ext l (wrB P b)
        have h1 := congrArg List.length HBT3.out
        rw [hm, List.length_append, List.length_append, HSL.out, HNB.out, hn7] at h1
        obtain ⟨m2, hm2⟩ := wrB_ext P b
        have h2 := congrArg List.length hm2
        rw [List.length_append, List.length_append, kindB_len, hn7, HAP.out] at h2
        omega
      have HEQ : Hid (nb - ((strB s).drop (wrB P b).length).length = n7) := Lib.hid (HEQ.out.trans hn7)
      obtain ⟨z, hz⟩ : ∃ z, nb - ((strB s).drop (wrB P b).length).length = z := ⟨_, rfl⟩
      have hzn : z = n7 := by rw [← hz]; exact HEQ.out
      rw [hz, hzn]
      clear hz hzn HEQ
      rcases l with _ | ⟨b2, l⟩
      · obtain rfl : L = true := HLA.out
        go_wp2
        go_ret3
        have hend : n7 = nb - rest.length := by
          have h := congrArg List.length HBT3.out
          have h3 : wrBs (wrB P b) [] = wrB P b := rfl
          rw [h3, List.length_append, HSL.out, HNB.out, hn7] at h
          omega
        have hEE : outB ol b = E := HE'.out
        refine ⟨_, by rw [HNB.out, ← hend]; rfl, ?_, ?_⟩
        · rw [← hEE]
          exact own_base HO7.out HB2.out.size
        · exact HB2.out.trans (HB7.out.mono HB2.out.size)
      · obtain rfl : L = false := HLA.out
        have HN7 := Lib.hid hn7
        clear hn7
        go_wp2
        go_roundw
        case rel => exact ⟨wrB P b, outB ol b, b2 :: l, by rw [HN7.out], by simp, HOK2.out, HBT3.out, HE'.out, HO7.out, HB7.out⟩
        case measure => simp [intOf]; omega
    · rw [hk] at c1 c2
      have c1' : wr.cell? ⟨gA, a + 1, none⟩ = some (.int .i64 0) := c1
      have c2' : wr.cell? ⟨gA, a + 2, none⟩ = some (.int .i64 1) := c2
      clear c1 c2
      obtain ⟨hq1, hq2, hq3⟩ := body_at (by omega) HBT2.out
      rw [HAP.out, HA3.out] at hq1 hq3
      obtain ⟨ht1, ht2, ht3⟩ := HTS.out (by omega)
      have hob : outB ol b = expTs ol b.ts := by unfold outB; rw [if_neg (by omega)]
      have HOB := Lib.hid hob
      have hexl : (expTs ol b.ts).length ≤ 1000000000 := by rw [← hob]; exact hlen
      have HQ1 := Lib.hid hq1
      have HT1 := Lib.hid ht2
      have HT2 := Lib.hid ht3
      clear hq1 hq3 ht2 ht3 hob
      have hbd : bodyB b.kind b.ts = headB b.ts ++ (toksB (lsD b.ts) (dsD b.ts) b.ts ++ wordB (lsD b.ts) 256) := by unfold bodyB; rw [if_neg (by omega)]
      rw [hbd] at HQ1
      obtain ⟨R2, hR2⟩ : ∃ R2, toksB (lsD b.ts) (dsD b.ts) b.ts ++ (wordB (lsD b.ts) 256 ++ (strB s).drop (wrB P b).length) = R2 := ⟨_, rfl⟩
      have hn6 : b.ts.length ≤ 1000000 := by omega
      have hq5 : (strB s).drop a3 = bitsN 14 (headN (lsD b.ts).length (dsD b.ts).length (tellC (tellD b.ts))) ++ (tellsB (tellD b.ts) (tellC (tellD b.ts)) ++ (exsB (tellD b.ts) (toldD b.ts) ++ R2)) := by
        rw [HQ1.out, ← hR2]
        unfold headB
        simp only [List.append_assoc]
      have hla := lsD_len b.ts
      have hld := dsD_len b.ts
      have HH := Lib.hid (fun (W : World) (hA : BitsAt W (some ⟨gA, 0, none⟩) (strB s)) => heads_calls gA 0 c (strB s) R2 a3 (lsD b.ts) (dsD b.ts) (tellD b.ts) (toldD b.ts) W hA (by rw [HSL.out, HNB.out]; exact HCB.out) (by rw [HSL.out, HNB.out]; omega) (by rw [HSL.out, HNB.out]; omega) (by omega) (by omega) (tellD_len _) (tellD_in _ hn6) (tellD_tot _ hn6) (tellD_why _ hn6) (told_un _ hn6) (fun x hx => tellD_pos _ hn6 x hx) (lsD_in _ hn6) (dsD_in _ hn6) (lsD_end _ hn6).2 (lsD_why _ hn6) (dsD_why _ hn6) hq5)
      rw [HSL.out, HNB.out] at HH
      obtain ⟨a4, ha4⟩ : ∃ a4, nb - R2.length = a4 := ⟨_, rfl⟩
      rw [ha4] at HH
      have hq6 : (strB s).drop a4 = R2 ∧ a4 ≤ nb := by
        have h := congrArg List.length hq5
        have h0 : (strB s).drop a3 = (bitsN 14 (headN (lsD b.ts).length (dsD b.ts).length (tellC (tellD b.ts))) ++ (tellsB (tellD b.ts) (tellC (tellD b.ts)) ++ exsB (tellD b.ts) (toldD b.ts))) ++ R2 := by rw [hq5]; simp only [List.append_assoc]
        obtain ⟨h1, h2⟩ := drop_more h0
        have h3 := congrArg List.length h1
        rw [List.length_drop, HSL.out, HNB.out] at h3
        rw [HSL.out, HNB.out] at h2
        have h4 : a3 + (bitsN 14 (headN (lsD b.ts).length (dsD b.ts).length (tellC (tellD b.ts))) ++ (tellsB (tellD b.ts) (tellC (tellD b.ts)) ++ exsB (tellD b.ts) (toldD b.ts))).length = a4 := by omega
        rw [h4] at h1
        exact ⟨h1, by omega⟩
      have HQ6 := Lib.hid hq6.1
      have hq7 : a4 ≤ nb := hq6.2
      have HR2 := Lib.hid hR2
      clear hbd hq5 hla hld ha4 hq6 hR2
      go_wp2_with fail
      go_quiet (fail)
      generalize hW : World.drewN _ _ = w3
      have HB3 : Hid (Below w2.heap.size w2 w3) := Lib.hid (by rw [← hW]; exact below_drewN HBL.out _)
      have HA3' : Hid (BitsAt w3 (some ⟨gA, 0, none⟩) (strB s)) := Lib.hid (by rw [← hW]; exact HA'.out.below (below_drewN (Below.refl _ _) _))
      have HO3 : Hid (w3.ownsRow w2.heap.size 5 1 u6 ol.length (u8V ol)) := Lib.hid (by rw [← hW]; exact own_below HOW.out (below_drewN (Below.refl _ _) _))
      have hw3 : w2.heap.size ≤ w3.heap.size := HB3.out.size
      clear hW c0 c1' c2' w1' w2' w3' w4' qL
      go_wp2_with fail
      refine (HH.out w3 HA3'.out).mono ?_
      rintro e w4 ⟨g1, cc1, cc2, rfl, hr1, hr2, hb4⟩
      have HR1 := Lib.hid hr1
      have HRD := Lib.hid hr2
      have HBB := Lib.hid (HB3.out.trans (hb4.mono hw3))
      have HA4 := Lib.hid (HA3'.out.below hb4)
      have HO4 := Lib.hid (own_below HO3.out hb4)
      clear hr1 hr2 hb4
      go_wp2_with fail
      have HT := tell_calls gA 0 c cc1 cc2 w2.heap.size (some ⟨g1, 0, none⟩) (some ⟨g1, (lsD b.ts).length, none⟩) (strB s) ((strB s).drop (wrB P b).length) a4 (lsD b.ts) (dsD b.ts) _ ol b.ts w4 HA4.out (by rw [HSL.out, HNB.out]; exact HCB.out) (by rw [HSL.out, HNB.out]; omega) HR1.out HRD.out (by have := lsD_len b.ts; omega) (by have := dsD_len b.ts; omega) (lsD_in _ hn6) (dsD_in _ hn6) (Nat.le_of_eq (lsD_tot _ hn6)) (dsD_tot _ hn6) (lsD_end _ hn6) (fun t ht => tokW_dyn hn6 ht (HT1.out t ht)) HT2.out (by rw [HSL.out, HNB.out]; exact hq7) (by rw [HQ6.out, ← HR2.out]) hexl HO4.out (fun e => by have := (HO4.out.lt gA e).1; omega) HBB.out.size
      rw [HSL.out, HNB.out] at HT
      refine HT.mono ?_
      rintro e w6 ⟨v6, rfl, ho6, hg6⟩
      have HO7 : Hid (w6.ownsRow w2.heap.size 5 1 v6 (outB ol b).length (u8V (outB ol b))) := Lib.hid (by
        rw [HOB.out]
        exact ho6)
      have HB7 := Lib.hid (HBB.out.trans (hg6.below (fun q e => (HO4.out.lt q e).1) HBB.out.size))
      have HEQ : Hid (nb - ((strB s).drop (wrB P b).length).length = (wrB P b).length) := Lib.hid (by rw [List.length_drop, HSL.out, HNB.out]; rw [HSL.out, HNB.out] at hq2; omega)
      clear ho6 hg6
      obtain ⟨n7, hn7⟩ : ∃ n7, (wrB P b).length = n7 := ⟨_, rfl⟩
      have hlt : a < n7 ∧ n7 ≤ nb := by
        obtain ⟨m, hm⟩ := wrBs_ext l (wrB P b)
        have h1 := congrArg List.length HBT3.out
        rw [hm, List.length_append, List.length_append, HSL.out, HNB.out, hn7] at h1
        obtain ⟨m2, hm2⟩ := wrB_ext P b
        have h2 := congrArg List.length hm2
        rw [List.length_append, List.length_append, kindB_len, hn7, HAP.out] at h2
        omega
      have HEQ : Hid (nb - ((strB s).drop (wrB P b).length).length = n7) := Lib.hid (HEQ.out.trans hn7)
      obtain ⟨z, hz⟩ : ∃ z, nb - ((strB s).drop (wrB P b).length).length = z := ⟨_, rfl⟩
      have hzn : z = n7 := by rw [← hz]; exact HEQ.out
      rw [hz, hzn]
      clear hz hzn HEQ
      rcases l with _ | ⟨b2, l⟩
      · obtain rfl : L = true := HLA.out
        go_wp2
        go_ret3
        have hend : n7 = nb - rest.length := by
          have h := congrArg List.length HBT3.out
          have h3 : wrBs (wrB P b) [] = wrB P b := rfl
          rw [h3, List.length_append, HSL.out, HNB.out, hn7] at h
          omega
        have hEE : outB ol b = E := HE'.out
        refine ⟨_, by rw [HNB.out, ← hend]; rfl, ?_, ?_⟩
        · rw [← hEE]
          exact own_base HO7.out HB2.out.size
        · exact HB2.out.trans (HB7.out.mono HB2.out.size)
      · obtain rfl : L = false := HLA.out
        have HN7 := Lib.hid hn7
        clear hn7
        go_wp2
        go_roundw
        case rel => exact ⟨wrB P b, outB ol b, b2 :: l, by rw [HN7.out], by simp, HOK2.out, HBT3.out, HE'.out, HO7.out, HB7.out⟩
        case measure => simp [intOf]; omega
end Go.Proofs.YtmpokiflhijnoaaDoor.Rf
