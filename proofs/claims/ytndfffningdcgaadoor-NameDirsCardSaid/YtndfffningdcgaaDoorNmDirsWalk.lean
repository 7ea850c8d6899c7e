/-
  NameDirs' walk.
-/
import Derived.Test.YtndfffningdcgaaDoorNmDirs
import Derived.Test.YtndfffningdcgaaDoorNmSplitOf
import Derived.Test.YtndfffningdcgaaDoorFrameArgs
import Derived.Sort.Walk0
namespace Go.Proofs.YtndfffningdcgaaDoor.Nm
open Go.RowKit Go.Shelf
set_option linter.unusedVariables false
set_option linter.unusedSimpArgs false

theorem own_slice' {w : World} {base n : Nat} {e : TypeId} {size : Nat} {v : Value} {xs : List Value} (h : w.ownsRow base e size v n xs) : ∃ A c, v = .slice A n c := by
  rcases h.2 with ⟨h1, h2⟩ | ⟨g, cap, cur, h1, -⟩
  · exact ⟨none, 0, by rw [h1, h2]⟩
  · exact ⟨_, _, h1⟩
theorem own_cells {w : World} {base : Nat} {e : TypeId} {A : Option Addr} {c : Nat} {ds : List (List UInt8)} (h : w.ownsRow base e 1 (.slice A ds.length c) ds.length (ds.map Go.Proofs.encStr)) (j : Nat) (hj : j < ds.length) :
    ∃ g, A = some ⟨g, 0, none⟩ ∧ (ds.length ≤ c ∧ c ≤ maxLen) ∧ w.cell? ⟨g, j, none⟩ = some (.string ⟨ds[j].toArray⟩) := by
  rcases h.2 with ⟨h1, h2⟩ | ⟨g, cap, cur, h1, -, -, r1, r2, -⟩
  · omega
  · simp only [Value.slice.injEq] at h1
    obtain ⟨rfl, -, rfl⟩ := h1
    refine ⟨g, rfl, ⟨r1, r2⟩, ?_⟩
    rw [h.cellAt j (by omega), List.getElem?_map, List.getElem?_eq_getElem hj]
    rfl
theorem mkS_size (l : List UInt8) : (⟨l.toArray⟩ : ByteArray).size = l.length := by simp [ByteArray.size]
theorem mkS_list (l : List UInt8) : (⟨l.toArray⟩ : ByteArray).toList = l := by rw [Lib.toList_data]

theorem ds_size {xs : List ByteArray} {ds : List (List UInt8)} (h : DsOk xs ds) (hx : ∀ x ∈ xs, x.size ≤ 140737488351232) : ∀ d ∈ ds, d.length ≤ 140737488351232 := fun d hd => by
  obtain ⟨x, h1, -, h3⟩ := (h.2 d).1 hd
  have := hx x h1
  obtain ⟨-, h5⟩ := (mem_dirsOf _ _).1 h3
  rcases Nat.lt_or_ge d.length x.toList.length with h | h
  · rw [size_toList] at h; omega
  · rw [List.getElem?_eq_none h] at h5; cases h5

theorem refcheck_same (s : ByteArray) (w : World) (hs : s.size ≤ 140737488351232) :
    Calls Tryd.prog 10 #[.string s] w fun e w' => e = .returned (.bool (checkB s)) ∧ w' = w :=
  (refcheck_calls s w hs).mono fun _ _ ⟨h1, h2⟩ => ⟨h1, h2.symm⟩
theorem isE0' (b : ByteArray) (h : b.size = 0) : b.toList.isEmpty = true := by
  rw [Lib.toList_data]
  have : b.data.toList.length = 0 := h
  rw [List.length_eq_zero_iff] at this
  rw [this]
  rfl
/-- A name that has the directory. -/
def hasD (s : ByteArray) (d : List UInt8) : Bool := checkB s && belowB s ⟨d.toArray⟩

set_option maxHeartbeats 4000000 in
set_option maxRecDepth 100000 in
theorem dirs_walk (b o c : Nat) (xs : List ByteArray) (w : World) (hT : Tabs w) (hc : xs.length ≤ c) (hcm : c ≤ 140737488351232) (hxs : ∀ x ∈ xs, x.size ≤ 140737488351232)
    (hA : ∀ j (h : j < xs.length), w.cell? ⟨b, o + j, none⟩ = some (.string xs[j])) :
    Calls Tryd.prog 7 #[.slice (some ⟨b, o, none⟩) xs.length c] w fun e w' => e = .returned (.bool true) ∧ Below w.heap.size w w' := by
  obtain ⟨ys, hys⟩ : ∃ ys, ys = xs.take 20 := ⟨_, rfl⟩
  have hyl : (min (xs.length : Int) 20).toNat = ys.length := by rw [hys, List.length_take]; omega
  have hyc : ys.length ≤ c := by rw [hys, List.length_take]; omega
  have hy20 : ys.length ≤ 20 := by rw [hys, List.length_take]; omega
  have HX : Hid (∀ x ∈ ys, x.size ≤ 140737488351232) := Lib.hid (fun x hx => hxs x (by rw [hys] at hx; exact List.mem_of_mem_take hx))
  have HC : Hid (∀ j (h : j < ys.length), w.cell? ⟨b, o + j, none⟩ = some (.string ys[j])) := Lib.hid (fun j h => by
    have h2 : j < xs.length := by rw [hys, List.length_take] at h; omega
    rw [hA j h2]
    congr 2
    simp only [hys, List.getElem_take])
  have B0 := Lib.hid (Below.refl w.heap.size w)
  clear hA hxs hys
  go_enter Tryd.func7, Tryd.ntmps7
  go_wp2_with (first | (go_at_call 8; refine (speaks_calls _ hT).mono ?_; rintro e w1 ⟨rfl, hb⟩; have hT1 := Tabs.below hT hb; replace B0 := Lib.hid (B0.out.trans (hb.mono B0.out.size)); clear hb))
  refine (dirs_calls _ _ ys _ hT1 (by omega) HX.out (fun j h => ⟨b, o, rfl, (B0.out.cell (World.block_lt_of_cell? w _ (HC.out j h))).trans (HC.out j h)⟩)).mono ?_
  rintro e w2 ⟨v, ds, rfl, hds, hrow, hb⟩
  obtain ⟨gA, gc, rfl⟩ := own_slice' hrow
  have HG : Hid (∀ W, Below w2.heap.size w2 W → ∀ j (h : j < ds.length), ∃ g, gA = some ⟨g, 0, none⟩ ∧ (ds.length ≤ gc ∧ gc ≤ maxLen) ∧ W.cell? ⟨g, j, none⟩ = some (.string ⟨ds[j].toArray⟩)) := Lib.hid (fun W hW j hj => by
    obtain ⟨g, e1, e2, e3⟩ := own_cells hrow j hj
    exact ⟨g, e1, e2, (hW.cell (World.block_lt_of_cell? w2 _ e3)).trans e3⟩)
  replace B0 := Lib.hid (B0.out.trans (hb.mono B0.out.size))
  have HDs := Lib.hid hds
  have HZ := Lib.hid (ds_size hds HX.out)
  have HC2 : Hid (∀ W, Below w2.heap.size w2 W → ∀ j (h : j < ys.length), W.cell? ⟨b, o + j, none⟩ = some (.string ys[j])) := Lib.hid (fun W hW j h => by
    have e := B0.out.cell (World.block_lt_of_cell? w _ (HC.out j h))
    have e2 := e.trans (HC.out j h)
    exact (hW.cell (World.block_lt_of_cell? w2 _ e2)).trans e2)
  have HB : Hid (∀ W, Below w2.heap.size w2 W → Below w.heap.size w W) := Lib.hid (fun W hW => B0.out.trans (hW.mono B0.out.size))
  clear hb hT1 hrow hds hyl hT HC B0
  go_wp2
  go_loopw [4] (fun i wr => ∃ k : Nat, k ≤ ds.length ∧ i = .int .i64 k ∧ Below w2.heap.size w2 wr) (fun i _ => ds.length - (intOf i).toNat)
  case atStart => exact ⟨0, Nat.zero_le _, rfl, Below.refl _ _⟩
  case round =>
    obtain ⟨i, hi, rfl, hb⟩ := hrel
    have HI := Lib.hid hb
    clear hb
    by_cases hlt : i < ds.length
    · have q1 : decide ((i : Int) < (ds.length : Int)) = true := decide_eq_true (by omega)
      go_wp2
      obtain ⟨wo, rfl⟩ : ∃ wo : World, wo = wr := ⟨_, rfl⟩
      go_loopw [5, 6] (fun a k wr => ∃ (t : Bool) (j : Nat), j ≤ ys.length ∧ a = .bool t ∧ k = .int .i64 j ∧ Below w2.heap.size w2 wr ∧ (t = false → ∀ m (hm : m < j) (hml : m < ys.length), hasD ys[m] ds[i] = false)) (fun a k _ => ys.length - (intOf k).toNat)
      case atStart => exact ⟨false, 0, Nat.zero_le _, rfl, rfl, HI.out, fun _ m hm => by omega⟩
      case round =>
        obtain ⟨t, j, hj, rfl, rfl, hb, ht⟩ := hrel
        have HJ := Lib.hid hb
        have HQ := Lib.hid ht
        clear hb ht
        by_cases hjl : j < ys.length
        · have q2 : decide ((j : Int) < (ys.length : Int)) = true := decide_eq_true (by omega)
          have hcr := HC2.out _ HJ.out j hjl
          have hsz := HX.out ys[j] (List.getElem_mem hjl)
          have hdz := HZ.out ds[i] (List.getElem_mem hlt)
          obtain ⟨g, hgA, ⟨hgc, hgm⟩, hgr⟩ := HG.out _ HJ.out i hlt
          subst hgA
          obtain ⟨s, hsk⟩ : ∃ s, s = ys[j] := ⟨_, rfl⟩
          obtain ⟨d, hd⟩ : ∃ d : ByteArray, d = ⟨ds[i].toArray⟩ := ⟨_, rfl⟩
          have hd2 : d.size ≤ 140737488351232 := by rw [hd, mkS_size]; exact hdz
          rw [← hsk] at hcr hsz
          rw [← hd] at hgr
          have HSK : Hid (∀ t : Bool, hasD s ds[i] = false → t = false → (t = false → ∀ m (hm : m < j) (hml : m < ys.length), hasD ys[m] ds[i] = false) → ∀ m (hm : m < j + 1) (hml : m < ys.length), hasD ys[m] ds[i] = false) := Lib.hid (fun t h ht hq m hm hml => by
            rcases Nat.lt_or_ge m j with h2 | h2
            · exact hq ht m h2 hml
            · obtain rfl : m = j := by omega
              rw [← hsk]; exact h)
          have HH : Hid (hasD s ds[i] = (checkB s && belowB s d)) := Lib.hid (by rw [hd]; rfl)
          clear hsk hd hdz
          cases t with
          | true =>
            go_wp2
            go_quiet (first | (go_at_call 10; exact Calls.quiet_of_same (refcheck_same _ _ (by assumption))) | (go_at_call 13; exact Calls.quiet_of_same (refbelow_same _ _ _ (by assumption) (by assumption))))
            generalize hW : World.drewN _ _ = w4
            have HW := Lib.hid hW
            clear hW
            go_wp2
            go_roundw
            case rel => exact ⟨true, j + 1, by omega, rfl, by go_num, by rw [← HW.out]; exact HJ.out.trans ((below_drewN _ _).mono HJ.out.size), fun h => Bool.noConfusion h⟩
            case measure => simp [intOf]; omega
          | false =>
            by_cases h3 : s.size < 300
            · have p1 : decide ((s.size : Int) < 300) = true := decide_eq_true (by omega)
              have p2 : decide (300 ≤ (s.size : Int)) = false := decide_eq_false (by omega)
              cases hcB : checkB s with
              | false =>
                have HN : Hid (hasD s ds[i] = false) := Lib.hid (by rw [HH.out, hcB]; rfl)
                go_wp2
                go_quiet (first | (go_at_call 10; exact Calls.quiet_of_same (refcheck_same _ _ (by assumption))) | (go_at_call 13; exact Calls.quiet_of_same (refbelow_same _ _ _ (by assumption) (by assumption))))
                generalize hW : World.drewN _ _ = w4
                have HW := Lib.hid hW
                clear hW
                go_wp2
                go_roundw
                case rel => exact ⟨false, j + 1, by omega, rfl, by go_num, by rw [← HW.out]; exact HJ.out.trans ((below_drewN _ _).mono HJ.out.size), fun h => HSK.out false HN.out rfl (fun _ => HQ.out trivial)⟩
                case measure => simp [intOf]; omega
              | true =>
                cases hbB : belowB s d with
                | false =>
                  have HN : Hid (hasD s ds[i] = false) := Lib.hid (by rw [HH.out, hcB, hbB]; rfl)
                  go_wp2
                  go_quiet (first | (go_at_call 10; exact Calls.quiet_of_same (refcheck_same _ _ (by assumption))) | (go_at_call 13; exact Calls.quiet_of_same (refbelow_same _ _ _ (by assumption) (by assumption))))
                  generalize hW : World.drewN _ _ = w4
                  have HW := Lib.hid hW
                  clear hW
                  go_wp2
                  go_roundw
                  case rel => exact ⟨false, j + 1, by omega, rfl, by go_num, by rw [← HW.out]; exact HJ.out.trans ((below_drewN _ _).mono HJ.out.size), fun h => HSK.out false HN.out rfl (fun _ => HQ.out trivial)⟩
                  case measure => simp [intOf]; omega
                | true =>
                  go_wp2
                  go_quiet (first | (go_at_call 10; exact Calls.quiet_of_same (refcheck_same _ _ (by assumption))) | (go_at_call 13; exact Calls.quiet_of_same (refbelow_same _ _ _ (by assumption) (by assumption))))
                  generalize hW : World.drewN _ _ = w4
                  have HW := Lib.hid hW
                  clear hW
                  go_wp2
                  go_roundw
                  case rel => exact ⟨true, j + 1, by omega, rfl, by go_num, by rw [← HW.out]; exact HJ.out.trans ((below_drewN _ _).mono HJ.out.size), fun h => Bool.noConfusion h⟩
                  case measure => simp [intOf]; omega
            · have p1 : decide ((s.size : Int) < 300) = false := decide_eq_false (by omega)
              have p2 : decide (300 ≤ (s.size : Int)) = true := decide_eq_true (by omega)
              go_wp2
              go_quiet (first | (go_at_call 10; exact Calls.quiet_of_same (refcheck_same _ _ (by assumption))) | (go_at_call 13; exact Calls.quiet_of_same (refbelow_same _ _ _ (by assumption) (by assumption))))
              generalize hW : World.drewN _ _ = w4
              have HW := Lib.hid hW
              clear hW
              go_wp2
              go_roundw
              case rel => exact ⟨true, j + 1, by omega, rfl, by go_num, by rw [← HW.out]; exact HJ.out.trans ((below_drewN _ _).mono HJ.out.size), fun h => Bool.noConfusion h⟩
              case measure => simp [intOf]; omega
        · obtain rfl : j = ys.length := by omega
          have ht : t = true := by
            obtain ⟨x, h1, h2, h3⟩ := (HDs.out.2 ds[i]).1 (List.getElem_mem hlt)
            obtain ⟨m, hm, rfl⟩ := List.mem_iff_getElem.1 h1
            cases t with
            | true => rfl
            | false =>
              have := HQ.out rfl m hm hm
              unfold hasD at this
              rw [h2, (below_dirs ys[m] ⟨ds[i].toArray⟩).2 (by rw [mkS_list ds[i]]; exact h3)] at this
              cases this
          subst ht
          by_cases hi0 : 0 < i
          · have q3 : decide (0 < (i : Int)) = true := decide_eq_true (by omega)
            obtain ⟨g, hgA, hgc, hgr⟩ := HG.out _ HJ.out i hlt
            subst hgA
            have hgn : ds.length ≤ 9223372036854775807 := by have := hgc.2; unfold maxLen at this; omega
            obtain ⟨g2, hgA, hgc2, hgr2⟩ := HG.out _ HJ.out (i - 1) (by omega)
            simp only [Option.some.injEq, Addr.mk.injEq, and_true] at hgA
            subst hgA
            have w1 : IntKind.i64.wrap ((i : Int) - 1) = ((i - 1 : Nat) : Int) := by have := hgc2.2; unfold maxLen at this; rw [IntKind.wrap_i64]; omega
            have n1 : (0 : Int) ≤ ((i - 1 : Nat) : Int) := by omega
            have n2 : ((i - 1 : Nat) : Int) < (ds.length : Int) := by omega
            have n3 : i - 1 < ds.length := by omega
            have hless : Op.bytesLess (ds[i - 1]'n3) (ds[i]'hlt) = true := by
              rw [bytesLess_eq]
              exact decide_eq_true (List.pairwise_iff_getElem.1 HDs.out.1 (i - 1) i n3 hlt (by omega))
            go_wp2
            go_quiet (fail)
            generalize hW : World.drewN _ _ = w4
            have HW := Lib.hid hW
            clear hW
            go_wp2
            go_roundw
            case rel => exact ⟨i + 1, by omega, by go_num, by rw [← HW.out]; exact HJ.out.trans ((below_drewN _ _).mono HJ.out.size)⟩
            case measure => simp [intOf]; omega
          · have q3 : decide (0 < (i : Int)) = false := decide_eq_false (by omega)
            go_wp2
            go_quiet (fail)
            generalize hW : World.drewN _ _ = w4
            have HW := Lib.hid hW
            clear hW
            go_wp2
            go_roundw
            case rel => exact ⟨i + 1, by omega, by go_num, by rw [← HW.out]; exact HJ.out.trans ((below_drewN _ _).mono HJ.out.size)⟩
            case measure => simp [intOf]; omega
    · go_wp2
      obtain ⟨wo, rfl⟩ : ∃ wo : World, wo = wr := ⟨_, rfl⟩
      go_loopw [7] (fun k wr => ∃ j : Nat, j ≤ ys.length ∧ k = .int .i64 j ∧ Below w2.heap.size w2 wr) (fun k _ => ys.length - (intOf k).toNat)
      case atStart => exact ⟨0, Nat.zero_le _, rfl, HI.out⟩
      case round =>
        obtain ⟨j, hj, rfl, hb⟩ := hrel
        have HJ := Lib.hid hb
        clear hb
        by_cases hjl : j < ys.length
        · have q2 : decide ((j : Int) < (ys.length : Int)) = true := decide_eq_true (by omega)
          have hcr := HC2.out _ HJ.out j hjl
          have hsz := HX.out ys[j] (List.getElem_mem hjl)
          obtain ⟨s, hsk⟩ : ∃ s, s = ys[j] := ⟨_, rfl⟩
          rw [← hsk] at hcr hsz
          have HSK := Lib.hid hsk
          clear hsk
          by_cases h3 : s.size < 300
          · have p1 : decide (300 ≤ (s.size : Int)) = false := decide_eq_false (by omega)
            cases hcB : checkB s with
            | false =>
              go_wp2_with (go_at_call 10; refine (refcheck_calls _ _ (by assumption)).mono ?_; rintro e w' ⟨rfl, rfl⟩)
              go_roundw
              case rel => exact ⟨j + 1, by omega, by go_num, HJ.out⟩
              case measure => simp [intOf]; omega
            | true =>
              have HCB := Lib.hid hcB
              go_wp2_with (first | (go_at_call 10; refine (refcheck_calls _ _ (by assumption)).mono ?_; rintro e w' ⟨rfl, rfl⟩) | (go_at_call 17; refine (splitdir_calls _ _ (by assumption)).mono ?_; rintro e w5 ⟨d, bs, rfl, hdo, q, rfl⟩))
              have HM : Hid (∀ x : List UInt8, x ∈ dirsOf s.toList → x ∈ ds) := Lib.hid (fun x hx => (HDs.out.2 x).2 ⟨s, by rw [HSK.out]; exact List.getElem_mem hjl, HCB.out, hx⟩)
              have D0 : Hid (d.size = 0 ∨ d.toList ∈ dirsOf s.toList) := Lib.hid (by
                by_cases h0 : d.size = 0
                · exact .inl h0
                · exact .inr (hdo.mem h0).1)
              have D1 : d.size ≤ s.size := by
                rcases hdo with h | ⟨h, -⟩ <;> omega
              have HK : Hid (Below w2.heap.size w2 (wr.drewN q)) := Lib.hid (HJ.out.trans ((below_drewN _ _).mono HJ.out.size))
              generalize wr.drewN q = wo2 at *
              clear hdo hcr
              go_loopw [8] (fun dv wr => ∃ d : ByteArray, dv = .string d ∧ (d.size = 0 ∨ d.toList ∈ dirsOf s.toList) ∧ d.size ≤ s.size ∧ Below w2.heap.size w2 wr) (fun dv _ => match dv with | .string d => d.size | _ => 0)
              case atStart => exact ⟨d, rfl, D0.out, D1, HK.out⟩
              case round =>
                obtain ⟨d, rfl, hd0, hd1, hb⟩ := hrel
                have HL := Lib.hid hb
                have HD := Lib.hid hd0
                clear hb hd0
                cases he : d.toList.isEmpty with
                | true =>
                  go_wp2
                  go_roundw
                  case rel => exact ⟨j + 1, by omega, by go_num, HL.out⟩
                  case measure => simp [intOf]; omega
                | false =>
                  have hdp : d.toList ∈ dirsOf s.toList := by
                    rcases HD.out with h | h
                    · rw [isE0' d h] at he; cases he
                    · exact h
                  have HDP := Lib.hid hdp
                  have hmem := Lib.hid (HM.out _ hdp)
                  clear hdp
                  go_wp2
                  obtain ⟨wo3, rfl⟩ : ∃ wo3 : World, wo3 = wr := ⟨_, rfl⟩
                  go_loopw [10, 11] (fun a k wr => ∃ (t : Bool) (i : Nat), i ≤ ds.length ∧ a = .bool t ∧ k = .int .i64 i ∧ Below w2.heap.size w2 wr ∧ (t = false → ∀ m (hm : m < i) (hml : m < ds.length), ds[m] ≠ d.toList)) (fun a k _ => ds.length - (intOf k).toNat)
                  case atStart => exact ⟨false, 0, Nat.zero_le _, rfl, rfl, HL.out, fun _ m hm => by omega⟩
                  case round =>
                    obtain ⟨t, i, hi, rfl, rfl, hb, ht⟩ := hrel
                    have HO := Lib.hid hb
                    have HQ := Lib.hid ht
                    clear hb ht
                    by_cases hil : i < ds.length
                    · have q3 : decide ((i : Int) < (ds.length : Int)) = true := decide_eq_true (by omega)
                      obtain ⟨g, hgA, hgc, hgr⟩ := HG.out _ HO.out i hil
                      have hgn : ds.length ≤ 9223372036854775807 := by have := hgc.2; unfold maxLen at this; omega
                      subst hgA
                      cases t with
                      | true =>
                        go_wp2
                        go_roundw
                        case rel => exact ⟨true, i + 1, by omega, rfl, by go_num, HO.out, fun h => Bool.noConfusion h⟩
                        case measure => simp [intOf]; omega
                      | false =>
                        cases hq : (ds[i] == d.toList) with
                        | true =>
                          go_wp2
                          go_roundw
                          case rel => exact ⟨true, i + 1, by omega, rfl, by go_num, HO.out, fun h => Bool.noConfusion h⟩
                          case measure => simp [intOf]; omega
                        | false =>
                          have HN := Lib.hid hq
                          go_wp2
                          go_roundw
                          case rel => exact ⟨false, i + 1, by omega, rfl, by go_num, HO.out, fun _ m hm hml => by
                            rcases Nat.lt_or_ge m i with h | h
                            · exact HQ.out rfl m h hml
                            · obtain rfl : m = i := by omega
                              exact beq_eq_false_iff_ne.1 HN.out⟩
                          case measure => simp [intOf]; omega
                    · obtain rfl : i = ds.length := by omega
                      have ht : t = true := by
                        cases t with
                        | true => rfl
                        | false =>
                          obtain ⟨m, hm, e⟩ := List.mem_iff_getElem.1 hmem.out
                          exact absurd e (HQ.out rfl m hm hm)
                      subst ht
                      have hds : d.size ≤ 140737488351232 := by omega
                      go_wp2_with (go_at_call 17; refine (splitdir_calls _ _ (by assumption)).mono ?_; rintro e w5 ⟨d2, bs2, rfl, hdo, q, rfl⟩)
                      go_roundw
                      case rel => exact ⟨d2, rfl, by
                        by_cases h0 : d2.size = 0
                        · exact .inl h0
                        · exact .inr (dirs_dirs HDP.out (hdo.mem h0).1), by rcases hdo with h | ⟨h, -⟩ <;> omega, HO.out.trans ((below_drewN _ _).mono HO.out.size)⟩
                      case measure =>
                        simp only
                        rcases hdo with h | ⟨h, -⟩
                        · have : d.size ≠ 0 := fun h0 => by rw [isE0' d h0] at he; cases he
                          omega
                        · exact h
          · have p1 : decide (300 ≤ (s.size : Int)) = true := decide_eq_true (by omega)
            go_wp2
            go_roundw
            case rel => exact ⟨j + 1, by omega, by go_num, HJ.out⟩
            case measure => simp [intOf]; omega
        · go_wp2
          go_ret
          exact ⟨rfl, HB.out _ HJ.out⟩

theorem ds_nil {ds : List (List UInt8)} (h : DsOk [] ds) : ds = [] := by
  cases ds with
  | nil => rfl
  | cons d t =>
    obtain ⟨x, hx, -⟩ := (h.2 d).1 List.mem_cons_self
    cases hx

set_option maxHeartbeats 1000000 in
set_option maxRecDepth 100000 in
theorem dirs_empty (A : Option Addr) (c : Nat) (w : World) (hT : Tabs w) (hc : A = none → c = 0) (hcm : c ≤ 140737488351232) :
    Calls Tryd.prog 7 #[.slice A 0 c] w fun e w' => e = .returned (.bool true) ∧ Below w.heap.size w w' := by
  have B0 := Lib.hid (Below.refl w.heap.size w)
  cases A with
  | none =>
    obtain rfl := hc rfl
    go_enter Tryd.func7, Tryd.ntmps7
    go_wp2_with (first | (go_at_call 8; refine (speaks_calls _ hT).mono ?_; rintro e w1 ⟨rfl, hb⟩; have hT1 := Tabs.below hT hb; replace B0 := Lib.hid (B0.out.trans (hb.mono B0.out.size)); clear hb))
    refine (dirs_calls _ _ [] _ hT1 (by simp) (fun x hx => by cases hx) (fun j h => by simp at h)).mono ?_
    rintro e w2 ⟨v, ds, rfl, hds, hrow, hb⟩
    obtain rfl := ds_nil hds
    obtain ⟨gA, gc, rfl⟩ := own_slice' hrow
    replace B0 := Lib.hid (B0.out.trans (hb.mono B0.out.size))
    clear hb hT1 hrow hds
    go_wp2
    go_loopw [4] (fun i wr => i = .int .i64 0 ∧ Below w.heap.size w wr) (fun i _ => 0)
    case atStart => exact ⟨rfl, B0.out⟩
    case round =>
      obtain ⟨rfl, hb⟩ := hrel
      have HB := Lib.hid hb
      clear hb
      go_wp2
      go_loopw [7] (fun i wr => i = .int .i64 0 ∧ Below w.heap.size w wr) (fun i _ => 0)
      case atStart => exact ⟨rfl, HB.out⟩
      case round =>
        obtain ⟨rfl, hb⟩ := hrel
        have HB := Lib.hid hb
        clear hb
        go_wp2
        go_ret
        exact ⟨by simp, HB.out⟩
  | some a =>
    go_enter Tryd.func7, Tryd.ntmps7
    go_wp2_with (first | (go_at_call 8; refine (speaks_calls _ hT).mono ?_; rintro e w1 ⟨rfl, hb⟩; have hT1 := Tabs.below hT hb; replace B0 := Lib.hid (B0.out.trans (hb.mono B0.out.size)); clear hb))
    refine (dirs_calls _ _ [] _ hT1 (by simp) (fun x hx => by cases hx) (fun j h => by simp at h)).mono ?_
    rintro e w2 ⟨v, ds, rfl, hds, hrow, hb⟩
    obtain rfl := ds_nil hds
    obtain ⟨gA, gc, rfl⟩ := own_slice' hrow
    replace B0 := Lib.hid (B0.out.trans (hb.mono B0.out.size))
    clear hb hT1 hrow hds
    go_wp2
    go_loopw [4] (fun i wr => i = .int .i64 0 ∧ Below w.heap.size w wr) (fun i _ => 0)
    case atStart => exact ⟨rfl, B0.out⟩
    case round =>
      obtain ⟨rfl, hb⟩ := hrel
      have HB := Lib.hid hb
      clear hb
      go_wp2
      go_loopw [7] (fun i wr => i = .int .i64 0 ∧ Below w.heap.size w wr) (fun i _ => 0)
      case atStart => exact ⟨rfl, HB.out⟩
      case round =>
        obtain ⟨rfl, hb⟩ := hrel
        have HB := Lib.hid hb
        clear hb
        go_wp2
        go_ret
        exact ⟨by simp, HB.out⟩

theorem dirs_any (v : Value) (xs : List ByteArray) (w : World) (h : Fa.StrsOf w v xs) (hx : ∀ x ∈ xs, x.size ≤ 140737488351232) (hT : Tabs w) :
    Calls Tryd.prog 7 #[v] w fun e w' => e = .returned (.bool true) ∧ Below w.heap.size w w' := by
  rcases h with ⟨a, c, rfl, rfl, h1, h2⟩ | ⟨b, o, c, rfl, h0, h1, h2, h3, h4⟩
  · exact dirs_empty a c w hT h1 h2
  · exact dirs_walk b o c xs w hT h1 h2 hx h4
end Go.Proofs.YtndfffningdcgaaDoor.Nm
