/-
  Merge: 'joined' answers the two lists of packs as one.
-/
import Derived.Test.YtnoplhjbachjiaaMgJoined
namespace Go.Proofs.Ytnoplhjbachjiaa.Mg
open Go.ChangeShapes Go.WideShapes Go.ChangeAt Go.RowKit Go.Shelf Go.Proofs
set_option linter.unusedVariables false
set_option linter.unusedSimpArgs false

set_option maxHeartbeats 4000000 in
set_option maxRecDepth 200000 in
theorem joined_calls (va vb : Value) (qa qb : List PV) (w : World) (ha : Rd w 38 2 va qa.length (pcells qa)) (hb : Rd w 38 2 vb qb.length (pcells qb)) (ia : Ins w qa) (ib : Ins w qb)
    (ha0 : 0 < qa.length) (hb0 : 0 < qb.length) (hn : qa.length + qb.length ≤ 1000) :
    Calls Try.prog 14 #[va, vb] w fun e w' => ∃ v' qs', e = .returned v' ∧ w'.ownsRow w.heap.size 38 2 v' (List.length qs') (pcells qs') ∧ Ins w' qs' ∧ qs'.map PV.pure = joinP (qa.map PV.pure) (qb.map PV.pure) ∧ (∀ q ∈ qs', q ∈ qa ++ qb) ∧ Below w.heap.size w w' := by
  have hi : Try.prog.info? 38 = some pk_ti := by kernel_rfl
  have hz0 : pk_ti.zero = some (.agg #[.int .i64 0, .slice none 0 0]) := by kernel_rfl
  have hz1 : pk_ti.size = 2 := by kernel_rfl
  have hz2 : pk_ti.bytes = 32 := by kernel_rfl
  have HA := Lib.hid ha
  have HB := Lib.hid hb
  have HIA := Lib.hid ia
  have HIB := Lib.hid ib
  obtain ⟨A0, hA⟩ : ∃ l, l = joinP (qa.map PV.pure) (qb.map PV.pure) := ⟨_, rfl⟩
  rw [← hA]
  have HJ := Lib.hid hA
  clear ha hb ia ib hA
  go_enter Try.func14, Try.ntmps14
  go_wp2
  go_loopw [0, 1, 5] (fun va vb v wr => ∃ (ra rb qs' : List PV), Rd w 38 2 va ra.length (pcells ra) ∧ Rd w 38 2 vb rb.length (pcells rb) ∧ Ins w ra ∧ Ins w rb ∧ qs'.length + ra.length + rb.length = qa.length + qb.length ∧ (qs' = [] → 0 < ra.length ∧ 0 < rb.length) ∧
    qs'.map PV.pure ++ joinP (ra.map PV.pure) (rb.map PV.pure) = A0 ∧ wr.ownsRow w.heap.size 38 2 v qs'.length (pcells qs') ∧ Ins wr qs' ∧ ((∀ q ∈ qs', q ∈ qa ++ qb) ∧ (∀ q ∈ ra, q ∈ qa) ∧ (∀ q ∈ rb, q ∈ qb)) ∧ Below w.heap.size w wr) (fun va vb _ _ => slen va + slen vb)
  case atStart => exact ⟨qa, qb, [], HA.out, HB.out, HIA.out, HIB.out, by simp, fun _ => ⟨ha0, hb0⟩, by rw [HJ.out]; rfl, World.ownsRow_nil _ _ _ _, fun q h => (by cases h), ⟨fun q h => (by cases h), fun _ h => h, fun _ h => h⟩, Below.refl _ _⟩
  case round =>
    obtain ⟨ra, rb, qs', hra, hrb, ira, irb, hlen, hne, hpu, hown, hins, hmem, hbw⟩ := hrel
    have HMM := Lib.hid hmem
    clear hmem
    have HRA := Lib.hid hra
    have HRB := Lib.hid hrb
    have HIRA := Lib.hid ira
    have HIRB := Lib.hid irb
    have HNE := Lib.hid hne
    have HP := Lib.hid hpu
    have HS := Lib.hid hins
    have HBW := Lib.hid hbw
    have hB1 := hbw.size
    have HLN := Lib.hid hlen
    have hk3 : qs'.length ≤ 1000 := by omega
    obtain ⟨ga, oa, ca, rfl, hca, hcsa⟩ := hra.pack
    obtain ⟨gb, ob, cb, rfl, hcb, hcsb⟩ := hrb.pack
    have HCA := Lib.hid hcsa
    have HCB := Lib.hid hcsb
    have HOW := Lib.hid hown
    have HLC : Hid (ra.length ≤ 1000 ∧ rb.length ≤ 1000) := Lib.hid ⟨by omega, by omega⟩
    clear hra hrb ira irb hne hpu hins hbw hlen hcsa hcsb hown
    obtain ⟨na, hna⟩ : ∃ n, ra.length = n := ⟨_, rfl⟩
    obtain ⟨nb, hnb⟩ : ∃ n, rb.length = n := ⟨_, rfl⟩
    rw [hna] at hca HRA ⊢
    rw [hnb] at hcb HRB ⊢
    by_cases hla : 0 < na
    · by_cases hlb : 0 < nb
      · have t1 : decide ((0 : Int) < (na : Int)) = true := decide_eq_true (by omega)
        have t2 : decide ((0 : Int) < (nb : Int)) = true := decide_eq_true (by omega)
        have f0 : (0 : Int) < (na : Int) := by omega
        have f1 : (0 : Int) < (nb : Int) := by omega
        have f2 : (1 : Int) ≤ (na : Int) := by omega
        have f3 : (1 : Int) ≤ (nb : Int) := by omega
        obtain ⟨x, ra1, rfl⟩ := List.exists_cons_of_length_pos (l := ra) (by omega)
        obtain ⟨y, rb1, rfl⟩ := List.exists_cons_of_length_pos (l := rb) (by omega)
        have ea := HCA.out 0 (by simp)
        have eb := HCB.out 0 (by simp)
        simp only [Nat.mul_zero, Nat.add_zero, List.getElem_cons_zero] at ea eb
        obtain ⟨xc, xv, xi⟩ := x
        obtain ⟨yc, yv, yi⟩ := y
        simp only at ea eb
        obtain ⟨gx, ox, cx, hx, _, _⟩ := (HIRA.out _ List.mem_cons_self).cell
        obtain ⟨gy, oy, cy, hy, _, _⟩ := (HIRB.out _ List.mem_cons_self).cell
        simp only at hx hy
        subst hx
        subst hy
        have Ea := Lib.hid ea
        have Eb := Lib.hid eb
        have HRA0 := HRA
        have HRB0 := HRB
        have hc0 := (HBW.out.cell (World.block_lt_of_cell? w _ ea.1)).trans ea.1
        have hc1 := (HBW.out.cell (World.block_lt_of_cell? w _ ea.2)).trans ea.2
        have hc2 := (HBW.out.cell (World.block_lt_of_cell? w _ eb.1)).trans eb.1
        have hc3 := (HBW.out.cell (World.block_lt_of_cell? w _ eb.2)).trans eb.2
        have HNA := Lib.hid hna
        have HNB := Lib.hid hnb
        clear ea eb hna hnb
        by_cases hle : xc ≤ yc
        · have t3 : decide (xc ≤ yc) = true := decide_eq_true hle
          go_wp2_with fail
          go_quiet (fail)
          generalize hwd : World.drewN _ _ = wd
          have HBD : Hid (Below w.heap.size w wd) := Lib.hid (by rw [← hwd]; exact HBW.out.trans ⟨rfl, rfl, rfl, Nat.le_refl _, fun _ _ => rfl⟩)
          have HSD : Hid (Ins wd qs') := Lib.hid (by rw [← hwd]; exact HS.out.below ⟨rfl, rfl, rfl, Nat.le_refl _, fun _ _ => rfl⟩)
          have HOD : Hid (wd.ownsRow w.heap.size 38 2 u5 qs'.length (pcells qs')) := Lib.hid (by rw [← hwd]; exact HOW.out)
          have hBD := HBD.out.size
          clear hwd hc0 hc1 hc2 hc3 HS HOW
          have HRT : Hid (Rd w 38 2 (.slice (if ca = 1 then some ⟨ga, oa, none⟩ else some ⟨ga, oa + 2, none⟩) (na - 1) (ca - 1)) ra1.length (pcells ra1)) := Lib.hid (by
            have h1 := HRA0.out
            rw [← HNA.out] at h1
            have h2 := h1.tail
            rw [show na - 1 = ra1.length by rw [← HNA.out]; rfl]
            exact h2)
          have HF : Hid (∀ wx : World, Below w.heap.size w wx → wx.cell? ⟨ga, oa, none⟩ = some (.int .i64 xc) ∧ wx.cell? ⟨ga, oa + 1, none⟩ = some (.slice (some ⟨gx, ox, none⟩) xi.length cx)) := Lib.hid (fun wx hb => ⟨(hb.cell (World.block_lt_of_cell? w _ Ea.out.1)).trans Ea.out.1, (hb.cell (World.block_lt_of_cell? w _ Ea.out.2)).trans Ea.out.2⟩)
          have HB1 : Hid (Below w.heap.size w (wd.alloc (.cells #[.int .i64 xc, .slice (some ⟨gx, ox, none⟩) xi.length cx] 38)).drew) := Lib.hid (HBD.out.alloc hBD _).drew
          have hbz : w.heap.size ≤ (wd.alloc (.cells #[.int .i64 xc, .slice (some ⟨gx, ox, none⟩) xi.length cx] 38)).drew.heap.size := by
            show _ ≤ (Array.push _ _).size
            simp
            omega
          have hlow : ∀ r, u5.ownBlock = some r → w.heap.size ≤ r := fun r e => (HOD.out.lt r e).1
          have HQ : Hid (∀ W3 : World, (wd.alloc (.cells #[.int .i64 xc, .slice (some ⟨gx, ox, none⟩) xi.length cx] 38)).drew.grownBy W3 u5.ownBlock → Below w.heap.size w W3) := Lib.hid (fun W3 hg => HB1.out.grown hg hbz hlow)
          have HZ := Lib.hid hbz
          clear hbz hlow
          go_wp2_with fail
          go_region_held3 (fun wx => wx.cell? ⟨ga, oa, none⟩ = some (.int .i64 xc) ∧ wx.cell? ⟨ga, oa + 1, none⟩ = some (.slice (some ⟨gx, ox, none⟩) xi.length cx)) (first | exact HF.out _ HBD.out.drew | exact HF.out _ HB1.out | exact HF.out _ (HQ.out _ hg3)) (first | (refine step_append_lies _ rfl _ _ 36 rfl w.heap.size 38 pk_ti (.agg #[.int .i64 0, .slice none 0 0]) 2 32 Try.underlying36 hi hz0 hz1 hz2 rfl (by decide) _ _ _ rfl (HOD.out.alloc _) ⟨wd.heap.size, 0, none⟩ 1 1 [.int .i64 xc, .slice (some ⟨gx, ox, none⟩) xi.length cx] rfl rfl (news_two _ _ _ _) (two_one' _ _ _ _ _) (by decide) ?c3 ?c4 ?c5 _ rfl ?_; (case c3 => unfold maxLen; omega); (case c4 => omega); (case c5 => exact HZ.out); intro g2 cap2 W3 hown3 hg3 hat3 hlt3) | (trace_state; fail))
          have HO3 := Lib.hid hown3
          have HI3 : Hid (Ins W3 (qs' ++ [⟨xc, .slice (some ⟨gx, ox, none⟩) xi.length cx, xi⟩])) := Lib.hid (by
            have h1 : Ins wd (qs' ++ [⟨xc, .slice (some ⟨gx, ox, none⟩) xi.length cx, xi⟩]) := HSD.out.append fun q hq => by
              obtain rfl := List.mem_singleton.1 hq
              exact (HIRA.out _ List.mem_cons_self).below HBD.out
            exact (h1.below ((Below.refl _ _).alloc (Nat.le_refl _) _).drew).grown (HOD.out.alloc _) hg3)
          have HB3 := Lib.hid (HQ.out _ hg3)
          clear hown3 hg3 hat3 hlt3
          go_wp2
          go_roundw
          case rel =>
            refine ⟨ra1, (⟨yc, .slice (some ⟨gy, oy, none⟩) yi.length cy, yi⟩ : PV) :: rb1, qs' ++ [(⟨xc, .slice (some ⟨gx, ox, none⟩) xi.length cx, xi⟩ : PV)], HRT.out, (by rw [HNB.out]; exact HRB0.out), fun q hq => HIRA.out q (List.mem_cons_of_mem _ hq), HIRB.out, ?zl, ?zn, ?zp, ?zo, ?zi, ?zm, HB3.out⟩
            case zl => have := HLN.out; simp only [List.length_append, List.length_cons, List.length_nil] at this ⊢; omega
            case zn => intro h; simp at h
            case zp => rw [← HP.out, List.map_append, List.append_assoc]; simp only [List.map_cons, List.map_nil]; rw [join_left _ _ _ _ hle]; rfl
            case zo => rw [pcells_append, List.length_append]; exact HO3.out
            case zi => exact HI3.out
            case zm => exact ⟨fun q hq => by rcases List.mem_append.1 hq with h | h; exact HMM.out.1 q h; rw [List.mem_singleton.1 h]; exact List.mem_append_left _ (HMM.out.2.1 _ List.mem_cons_self), fun q hq => HMM.out.2.1 q (List.mem_cons_of_mem _ hq), HMM.out.2.2⟩
          case measure => simp [slen]; omega
        · have t3 : decide (xc ≤ yc) = false := decide_eq_false hle
          go_wp2_with fail
          go_quiet (fail)
          generalize hwd : World.drewN _ _ = wd
          have HBD : Hid (Below w.heap.size w wd) := Lib.hid (by rw [← hwd]; exact HBW.out.trans ⟨rfl, rfl, rfl, Nat.le_refl _, fun _ _ => rfl⟩)
          have HSD : Hid (Ins wd qs') := Lib.hid (by rw [← hwd]; exact HS.out.below ⟨rfl, rfl, rfl, Nat.le_refl _, fun _ _ => rfl⟩)
          have HOD : Hid (wd.ownsRow w.heap.size 38 2 u5 qs'.length (pcells qs')) := Lib.hid (by rw [← hwd]; exact HOW.out)
          have hBD := HBD.out.size
          clear hwd hc0 hc1 hc2 hc3 HS HOW
          have HRT : Hid (Rd w 38 2 (.slice (if cb = 1 then some ⟨gb, ob, none⟩ else some ⟨gb, ob + 2, none⟩) (nb - 1) (cb - 1)) rb1.length (pcells rb1)) := Lib.hid (by
            have h1 := HRB0.out
            rw [← HNB.out] at h1
            have h2 := h1.tail
            rw [show nb - 1 = rb1.length by rw [← HNB.out]; rfl]
            exact h2)
          have HF : Hid (∀ wx : World, Below w.heap.size w wx → wx.cell? ⟨gb, ob, none⟩ = some (.int .i64 yc) ∧ wx.cell? ⟨gb, ob + 1, none⟩ = some (.slice (some ⟨gy, oy, none⟩) yi.length cy)) := Lib.hid (fun wx hb => ⟨(hb.cell (World.block_lt_of_cell? w _ Eb.out.1)).trans Eb.out.1, (hb.cell (World.block_lt_of_cell? w _ Eb.out.2)).trans Eb.out.2⟩)
          have HB1 : Hid (Below w.heap.size w (wd.alloc (.cells #[.int .i64 yc, .slice (some ⟨gy, oy, none⟩) yi.length cy] 38)).drew) := Lib.hid (HBD.out.alloc hBD _).drew
          have hbz : w.heap.size ≤ (wd.alloc (.cells #[.int .i64 yc, .slice (some ⟨gy, oy, none⟩) yi.length cy] 38)).drew.heap.size := by
            show _ ≤ (Array.push _ _).size
            simp
            omega
          have hlow : ∀ r, u5.ownBlock = some r → w.heap.size ≤ r := fun r e => (HOD.out.lt r e).1
          have HQ : Hid (∀ W3 : World, (wd.alloc (.cells #[.int .i64 yc, .slice (some ⟨gy, oy, none⟩) yi.length cy] 38)).drew.grownBy W3 u5.ownBlock → Below w.heap.size w W3) := Lib.hid (fun W3 hg => HB1.out.grown hg hbz hlow)
          have HZ := Lib.hid hbz
          clear hbz hlow
          go_wp2_with fail
          go_region_held3 (fun wx => wx.cell? ⟨gb, ob, none⟩ = some (.int .i64 yc) ∧ wx.cell? ⟨gb, ob + 1, none⟩ = some (.slice (some ⟨gy, oy, none⟩) yi.length cy)) (first | exact HF.out _ HBD.out.drew | exact HF.out _ HB1.out | exact HF.out _ (HQ.out _ hg3)) (first | (refine step_append_lies _ rfl _ _ 36 rfl w.heap.size 38 pk_ti (.agg #[.int .i64 0, .slice none 0 0]) 2 32 Try.underlying36 hi hz0 hz1 hz2 rfl (by decide) _ _ _ rfl (HOD.out.alloc _) ⟨wd.heap.size, 0, none⟩ 1 1 [.int .i64 yc, .slice (some ⟨gy, oy, none⟩) yi.length cy] rfl rfl (news_two _ _ _ _) (two_one' _ _ _ _ _) (by decide) ?c3 ?c4 ?c5 _ rfl ?_; (case c3 => unfold maxLen; omega); (case c4 => omega); (case c5 => exact HZ.out); intro g2 cap2 W3 hown3 hg3 hat3 hlt3) | (trace_state; fail))
          have HO3 := Lib.hid hown3
          have HI3 : Hid (Ins W3 (qs' ++ [⟨yc, .slice (some ⟨gy, oy, none⟩) yi.length cy, yi⟩])) := Lib.hid (by
            have h1 : Ins wd (qs' ++ [⟨yc, .slice (some ⟨gy, oy, none⟩) yi.length cy, yi⟩]) := HSD.out.append fun q hq => by
              obtain rfl := List.mem_singleton.1 hq
              exact (HIRB.out _ List.mem_cons_self).below HBD.out
            exact (h1.below ((Below.refl _ _).alloc (Nat.le_refl _) _).drew).grown (HOD.out.alloc _) hg3)
          have HB3 := Lib.hid (HQ.out _ hg3)
          clear hown3 hg3 hat3 hlt3
          go_wp2
          go_roundw
          case rel =>
            refine ⟨(⟨xc, .slice (some ⟨gx, ox, none⟩) xi.length cx, xi⟩ : PV) :: ra1, rb1, qs' ++ [(⟨yc, .slice (some ⟨gy, oy, none⟩) yi.length cy, yi⟩ : PV)], (by rw [HNA.out]; exact HRA0.out), HRT.out, HIRA.out, fun q hq => HIRB.out q (List.mem_cons_of_mem _ hq), ?zl, ?zn, ?zp, ?zo, ?zi, ?zm, HB3.out⟩
            case zl => have := HLN.out; simp only [List.length_append, List.length_cons, List.length_nil] at this ⊢; omega
            case zn => intro h; simp at h
            case zp => rw [← HP.out, List.map_append, List.append_assoc]; simp only [List.map_cons, List.map_nil]; rw [join_right _ _ _ _ (Int.not_le.2 hle)]; rfl
            case zo => rw [pcells_append, List.length_append]; exact HO3.out
            case zi => exact HI3.out
            case zm => exact ⟨fun q hq => by rcases List.mem_append.1 hq with h | h; exact HMM.out.1 q h; rw [List.mem_singleton.1 h]; exact List.mem_append_right _ (HMM.out.2.2 _ List.mem_cons_self), HMM.out.2.1, fun q hq => HMM.out.2.2 q (List.mem_cons_of_mem _ hq)⟩
          case measure => simp [slen]; omega
      · have t1 : decide ((0 : Int) < (na : Int)) = true := decide_eq_true (by omega)
        have t2 : decide ((0 : Int) < (nb : Int)) = false := decide_eq_false (by omega)
        obtain ⟨A5, c5, rfl⟩ := own_slice' HOW.out
        have hpos : 0 < qs'.length := by
          rcases Nat.eq_zero_or_pos qs'.length with h | h
          · have h2 := HNE.out (List.eq_nil_of_length_eq_zero h)
            omega
          · exact h
        have HCT := Lib.hid (concat_three _ (.slice (some ⟨ga, oa, none⟩) na ca) (.slice (some ⟨gb, ob, none⟩) nb cb) qs' ra rb wr (Rd.own HOW.out (own_some HOW.out hpos)) (by rw [hna]; exact HRA.out.below HBW.out) (by rw [hnb]; exact HRB.out.below HBW.out) HS.out (HIRA.out.below HBW.out) (HIRB.out.below HBW.out) hpos (by have := HLN.out; omega))
        have HE : Hid ((qs' ++ ra ++ rb).map PV.pure = A0) := Lib.hid (by
          rw [← HP.out, List.map_append, List.map_append, List.append_assoc]
          congr 1
          have h0 : ra = [] ∨ rb = [] := by
            rcases Nat.eq_zero_or_pos na with h | h
            · exact .inl (List.eq_nil_of_length_eq_zero (by omega))
            · exact .inr (List.eq_nil_of_length_eq_zero (by omega))
          rcases h0 with rfl | rfl
          · rw [List.map_nil, join_nil_left]; rfl
          · rw [List.map_nil, join_nil_right, List.append_nil])
        have HMX : Hid (∀ q ∈ qs' ++ ra ++ rb, q ∈ qa ++ qb) := Lib.hid (fun q hq => by rcases List.mem_append.1 hq with h | h; rcases List.mem_append.1 h with h | h; exact HMM.out.1 q h; exact List.mem_append_left _ (HMM.out.2.1 _ h); exact List.mem_append_right _ (HMM.out.2.2 _ h))
        clear hpos
        go_wp2_with (go_at_call 28; refine HCT.out.mono ?_; rintro e w3 ⟨v3, rfl, ho3, hi3, hb3⟩; have HO3 := Lib.hid ho3; have HI3 := Lib.hid hi3; have HB3 := Lib.hid hb3; clear ho3 hi3 hb3)
        go_ret
        exact ⟨_, _, rfl, own_lower HO3.out hB1, HI3.out, HE.out, HMX.out, HBW.out.trans (HB3.out.mono hB1)⟩
    · have t1 : decide ((0 : Int) < (na : Int)) = false := decide_eq_false (by omega)
      obtain ⟨A5, c5, rfl⟩ := own_slice' HOW.out
      have hpos : 0 < qs'.length := by
        rcases Nat.eq_zero_or_pos qs'.length with h | h
        · have h2 := HNE.out (List.eq_nil_of_length_eq_zero h)
          omega
        · exact h
      have HCT := Lib.hid (concat_three _ (.slice (some ⟨ga, oa, none⟩) na ca) (.slice (some ⟨gb, ob, none⟩) nb cb) qs' ra rb wr (Rd.own HOW.out (own_some HOW.out hpos)) (by rw [hna]; exact HRA.out.below HBW.out) (by rw [hnb]; exact HRB.out.below HBW.out) HS.out (HIRA.out.below HBW.out) (HIRB.out.below HBW.out) hpos (by have := HLN.out; omega))
      have HE : Hid ((qs' ++ ra ++ rb).map PV.pure = A0) := Lib.hid (by
        rw [← HP.out, List.map_append, List.map_append, List.append_assoc]
        congr 1
        have h0 : ra = [] ∨ rb = [] := by
          rcases Nat.eq_zero_or_pos na with h | h
          · exact .inl (List.eq_nil_of_length_eq_zero (by omega))
          · exact .inr (List.eq_nil_of_length_eq_zero (by omega))
        rcases h0 with rfl | rfl
        · rw [List.map_nil, join_nil_left]; rfl
        · rw [List.map_nil, join_nil_right, List.append_nil])
      have HMX : Hid (∀ q ∈ qs' ++ ra ++ rb, q ∈ qa ++ qb) := Lib.hid (fun q hq => by rcases List.mem_append.1 hq with h | h; rcases List.mem_append.1 h with h | h; exact HMM.out.1 q h; exact List.mem_append_left _ (HMM.out.2.1 _ h); exact List.mem_append_right _ (HMM.out.2.2 _ h))
      clear hpos
      go_wp2_with (go_at_call 28; refine HCT.out.mono ?_; rintro e w3 ⟨v3, rfl, ho3, hi3, hb3⟩; have HO3 := Lib.hid ho3; have HI3 := Lib.hid hi3; have HB3 := Lib.hid hb3; clear ho3 hi3 hb3)
      go_ret
      exact ⟨_, _, rfl, own_lower HO3.out hB1, HI3.out, HE.out, HMX.out, HBW.out.trans (HB3.out.mono hB1)⟩

end Go.Proofs.Ytnoplhjbachjiaa.Mg
