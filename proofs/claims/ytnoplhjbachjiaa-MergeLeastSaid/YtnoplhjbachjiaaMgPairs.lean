/-
  Merge: pairs of packs, two by two.
-/
import Derived.Test.YtnoplhjbachjiaaMgPack
import Derived.Deep.RegionHeld3
namespace Go.Proofs.Ytnoplhjbachjiaa.Mg
open Go.ChangeShapes Go.WideShapes Go.ChangeAt Go.RowKit Go.Shelf Go.Proofs
set_option linter.unusedVariables false
set_option linter.unusedSimpArgs false

noncomputable def pk_ti : TypeInfo := (Try.prog.info? 38).get (by kernel_rfl)

set_option maxHeartbeats 4000000 in
set_option maxRecDepth 200000 in
theorem pairs_calls (v : Value) (qs : List PV) (w : World) (hr : Rd w 38 2 v qs.length (pcells qs)) (hin : Ins w qs) (hn : qs.length ≤ 1000)
    (hc : ∀ q ∈ qs, 0 ≤ q.cost ∧ q.cost ≤ 2 ^ 60) (hi1 : ∀ q ∈ qs, 1 ≤ q.ins.length ∧ q.ins.length ≤ 500000) :
    Calls Try.prog 15 #[v] w fun e w' => ∃ v' qs', e = .returned v' ∧ w'.ownsRow w.heap.size 38 2 v' (List.length qs') (pcells qs') ∧ Ins w' qs' ∧ qs'.map PV.pure = pairsP (qs.map PV.pure) ∧ Low w.heap.size qs' ∧ Below w.heap.size w w' := by
  have hi : Try.prog.info? 38 = some pk_ti := by kernel_rfl
  have hz0 : pk_ti.zero = some (.agg #[.int .i64 0, .slice none 0 0]) := by kernel_rfl
  have hz1 : pk_ti.size = 2 := by kernel_rfl
  have hz2 : pk_ti.bytes = 32 := by kernel_rfl
  obtain ⟨g, o, c, rfl, hcap, hcs⟩ := hr.pack
  have HIN := Lib.hid hin
  have HC := Lib.hid hc
  have HI := Lib.hid hi1
  have HCS := Lib.hid hcs
  clear hr hin hc hi1 hcs
  go_enter Try.func15, Try.ntmps15
  go_wp2
  go_loopw [3, 4] (fun v i wr => ∃ (k m : Nat) (qs' : List PV), m = 2 * k ∧ m ≤ qs.length ∧ i = .int .i64 m ∧ qs'.length = k ∧ qs'.map PV.pure = (pairsP (qs.map PV.pure)).take k ∧ wr.ownsRow w.heap.size 38 2 v k (pcells qs') ∧ Ins wr qs' ∧ Low w.heap.size qs' ∧ Below w.heap.size w wr) (fun _ i _ => qs.length + 1 - (intOf i).toNat)
  case atStart => exact ⟨0, 0, [], rfl, Nat.zero_le _, rfl, rfl, by simp, World.ownsRow_nil _ _ _ _, fun q h => (by cases h), fun q h => (by cases h), Below.refl _ _⟩
  case round =>
    obtain ⟨k, m, qs', hm, hk, rfl, hl, hpu, hown, hins, hlw, hbw⟩ := hrel
    have HLW := Lib.hid hlw
    have HM := Lib.hid hm
    have HP := Lib.hid hpu
    have HS := Lib.hid hins
    have HB := Lib.hid hbw
    have hB1 := hbw.size
    have HL := Lib.hid hl
    clear hl hpu hins hbw hlw
    by_cases hlt : m + 1 < qs.length
    · have q1 : decide ((m : Int) + 1 < (qs.length : Int)) = true := decide_eq_true (by omega)
      have hk3 : k ≤ 1000 := by omega
      have hlm : m < qs.length := Nat.lt_of_succ_lt hlt
      have e0 := HCS.out m hlm
      have e1 := HCS.out (m + 1) hlt
      have d0 := HC.out qs[m] (List.getElem_mem _)
      have d1 := HC.out qs[m + 1] (List.getElem_mem _)
      have i0 := HI.out qs[m] (List.getElem_mem _)
      have i1 := HI.out qs[m + 1] (List.getElem_mem _)
      have r0 := (HIN.out qs[m] (List.getElem_mem _)).below HB.out
      have r1 := (HIN.out qs[m + 1] (List.getElem_mem _)).below HB.out
      obtain ⟨a, ha⟩ : ∃ a, qs[m] = a := ⟨_, rfl⟩
      obtain ⟨b, hb⟩ : ∃ b, qs[m + 1] = b := ⟨_, rfl⟩
      rw [ha] at e0 d0 i0 r0
      rw [hb] at e1 d1 i1 r1
      obtain ⟨ca, va, ia⟩ := a
      obtain ⟨cb, vb, ib⟩ := b
      simp only at e0 e1 d0 d1 i0 i1 r0 r1
      have hbb0 : o + 2 * (m + 1) = o + (m + 1) * 2 := by omega
      have hbb1 : o + 2 * m = o + m * 2 := by omega
      rw [hbb0] at e1
      rw [hbb1] at e0
      clear hbb0 hbb1
      have HA := Lib.hid ha
      have HBB := Lib.hid hb
      have HR0 := Lib.hid r0
      have HR1 := Lib.hid r1
      have w1 : IntKind.i64.wrap (ca + cb) = ca + cb := by rw [IntKind.wrap_i64]; omega
      have w2 : IntKind.i64.wrap ((m : Int) + 1) = (m : Int) + 1 := by rw [IntKind.wrap_i64]; omega
      obtain ⟨ga, oa, cca, rfl, _, _⟩ := r0.cell
      obtain ⟨gb, ob, ccb, rfl, _, _⟩ := r1.cell
      clear ha hb r0 r1 hm
      have HCT := Lib.hid (concat_two (.slice (some ⟨ga, oa, none⟩) ia.length cca) (.slice (some ⟨gb, ob, none⟩) ib.length ccb) ia.length ib.length ia ib wr HR0.out HR1.out (by omega) (by omega))
      have f0 : (0 : Int) ≤ (m : Int) := by omega
      have f1 : (m : Int) < (qs.length : Int) := by omega
      have f2 : (0 : Int) ≤ (m : Int) + 1 := by omega
      have f3 : (m : Int) + 1 < (qs.length : Int) := by omega
      have HF : Hid (∀ wx : World, Below w.heap.size w wx → wx.cell? ⟨g, o + m * 2, none⟩ = some (.int .i64 ca) ∧ wx.cell? ⟨g, o + m * 2 + 1, none⟩ = some (.slice (some ⟨ga, oa, none⟩) ia.length cca) ∧ wx.cell? ⟨g, o + (m + 1) * 2, none⟩ = some (.int .i64 cb) ∧ wx.cell? ⟨g, o + (m + 1) * 2 + 1, none⟩ = some (.slice (some ⟨gb, ob, none⟩) ib.length ccb)) := Lib.hid (fun wx hb => ⟨(hb.cell (World.block_lt_of_cell? w _ e0.1)).trans e0.1, (hb.cell (World.block_lt_of_cell? w _ e0.2)).trans e0.2, (hb.cell (World.block_lt_of_cell? w _ e1.1)).trans e1.1, (hb.cell (World.block_lt_of_cell? w _ e1.2)).trans e1.2⟩)
      obtain ⟨c0, c1, c2, c3⟩ := HF.out wr HB.out
      have HB1 := Lib.hid ((HB.out.alloc hB1 (.cells #[.slice (some ⟨ga, oa, none⟩) ia.length cca, .slice (some ⟨gb, ob, none⟩) ib.length ccb] 22)).drew)
      have HB2 : Hid (∀ W : World, Below wr.heap.size wr W → Below w.heap.size w W) := Lib.hid (fun W hb => HB.out.trans (hb.mono hB1))
      have HBZ : Hid (∀ W : World, Below wr.heap.size wr W → w.heap.size ≤ W.heap.size) := Lib.hid (fun W hb => Nat.le_trans hB1 hb.size)
      have hbz : ∀ W : World, Below wr.heap.size wr W → ∀ X, w.heap.size ≤ (W.alloc X).heap.size := fun W hb X => by
        have := hb.size
        show _ ≤ (Array.push _ _).size
        simp
        omega
      have hlow : ∀ r, u3.ownBlock = some r → w.heap.size ≤ r := fun r e => (hown.lt r e).1
      have HQ : Hid (∀ W W3 : World, Below wr.heap.size wr W → ∀ X, (W.alloc X).grownBy W3 u3.ownBlock → Below w.heap.size w W3) := Lib.hid (fun W W3 hb X hg => ((HB2.out W hb).alloc (HBZ.out W hb) X).grown hg (hbz W hb X) hlow)
      have HOW := Lib.hid hown
      have HZ := Lib.hid hbz
      clear e0 e1 hlow hown hbz
      go_wp2_with fail
      go_region_held3 (fun wx => wx.cell? ⟨g, o + m * 2, none⟩ = some (.int .i64 ca) ∧ wx.cell? ⟨g, o + m * 2 + 1, none⟩ = some (.slice (some ⟨ga, oa, none⟩) ia.length cca) ∧ wx.cell? ⟨g, o + (m + 1) * 2, none⟩ = some (.int .i64 cb) ∧ wx.cell? ⟨g, o + (m + 1) * 2 + 1, none⟩ = some (.slice (some ⟨gb, ob, none⟩) ib.length ccb)) (first | exact ⟨c0, c1, c2, c3⟩ | exact HF.out _ HB1.out | exact HF.out _ (HB2.out _ hb2) | exact HF.out _ ((HB2.out _ hb2).alloc (HBZ.out _ hb2) _) | exact HF.out _ (HQ.out _ _ hb2 _ hg3)) (first | (go_at_call 29; refine HCT.out.mono ?_; rintro e W2 ⟨gn, cn, rfl, ho2, hb2⟩) | (refine step_append_lies _ rfl _ _ 36 rfl w.heap.size 38 pk_ti (.agg #[.int .i64 0, .slice none 0 0]) 2 32 Try.underlying36 hi hz0 hz1 hz2 rfl (by decide) _ _ _ rfl ((own_below HOW.out hb2).alloc _) ⟨W2.heap.size, 0, none⟩ 1 1 [.int .i64 (ca + cb), .slice (some ⟨gn, 0, none⟩) (ia.length + ib.length) cn] rfl rfl (news_two _ _ _ _) (two_one _ _ _ _) (by decide) ?c3 ?c4 ?c5 _ rfl ?_; (case c3 => unfold maxLen; omega); (case c4 => omega); (case c5 => exact HZ.out _ hb2 _); intro g2 cap2 W3 hown3 hg3 hat3 hlt3))
      have HO3 := Lib.hid hown3
      have HI3 : Hid (Ins W3 (qs' ++ [⟨ca + cb, .slice (some ⟨gn, 0, none⟩) (ia.length + ib.length) cn, ia ++ ib⟩])) := Lib.hid (by
        have h1 : Ins W2 (qs' ++ [⟨ca + cb, .slice (some ⟨gn, 0, none⟩) (ia.length + ib.length) cn, ia ++ ib⟩]) := by
          refine (HS.out.below hb2).append fun q hq => ?_
          obtain rfl := List.mem_singleton.1 hq
          have := Rd.own ho2 (by intro e; cases e)
          simpa using this
        exact (h1.below ((Below.refl _ _).alloc (Nat.le_refl _) _)).grown ((own_below HOW.out hb2).alloc _) hg3)
      have HB3 := Lib.hid (HQ.out _ _ hb2 _ hg3)
      have HP3 : Hid ((qs' ++ [(⟨ca + cb, .slice (some ⟨gn, 0, none⟩) (ia.length + ib.length) cn, ia ++ ib⟩ : PV)]).map PV.pure = (pairsP (qs.map PV.pure)).take (k + 1)) := Lib.hid (by
        have hm2 := HM.out
        subst hm2
        rw [List.map_append, HP.out, List.take_add_one, pairsP_get _ k (by simpa using hlt)]
        simp only [List.getElem_map, HA.out, HBB.out]
        rfl)
      have HL3 : Hid (Low w.heap.size (qs' ++ [⟨ca + cb, .slice (some ⟨gn, 0, none⟩) (ia.length + ib.length) cn, ia ++ ib⟩])) := Lib.hid (fun q hq => by
        rcases List.mem_append.1 hq with h | h
        · exact HLW.out q h
        · obtain rfl := List.mem_singleton.1 h
          exact ⟨gn, 0, _, cn, rfl, Nat.le_trans hB1 (ho2.lt gn rfl).1⟩)
      clear hown3 hg3 hb2 ho2 hat3 hlt3
      have w3 : IntKind.i64.wrap ((m : Int) + 2) = (m : Int) + 2 := by rw [IntKind.wrap_i64]; omega
      go_wp2
      go_roundw
      case rel => exact ⟨k + 1, m + 2, _, by have := HM.out; omega, by omega, by go_num, by rw [List.length_append, HL.out]; rfl, HP3.out, by rw [pcells_append]; exact HO3.out, HI3.out, HL3.out, HB3.out⟩
      case measure => simp [intOf]; omega
    · have q1 : decide ((m : Int) + 1 < (qs.length : Int)) = false := decide_eq_false (by omega)
      have w2 : IntKind.i64.wrap ((m : Int) + 1) = (m : Int) + 1 := by rw [IntKind.wrap_i64]; omega
      have HP3 : Hid (qs'.map PV.pure = pairsP (qs.map PV.pure)) := Lib.hid (by
        rw [HP.out]
        exact List.take_of_length_le (by rw [pairsP_len, List.length_map]; have := HM.out; omega))
      have HO3 := Lib.hid hown
      clear hown
      go_wp2
      go_ret
      exact ⟨_, qs', rfl, by rw [HL.out]; exact HO3.out, HS.out, HP3.out, HLW.out, HB.out⟩

end Go.Proofs.Ytnoplhjbachjiaa.Mg
