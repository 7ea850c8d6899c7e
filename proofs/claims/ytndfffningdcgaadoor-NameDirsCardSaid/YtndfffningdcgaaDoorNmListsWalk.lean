/-
  NameLists' walk: All answers as the reference's pairs say, for every list of names.
-/
import Derived.Test.YtndfffningdcgaaDoorNmAll
import Derived.Test.YtndfffningdcgaaDoorFrameArgs
namespace Go.Proofs.YtndfffningdcgaaDoor.Nm
open Go.RowKit Go.Shelf
set_option linter.unusedVariables false
set_option linter.unusedSimpArgs false

theorem mem_dirsOf (l d : List UInt8) : d ∈ dirsOf l ↔ l.take d.length = d ∧ l[d.length]? = some 47 := by
  unfold dirsOf dirsUpto
  rw [List.mem_map]
  constructor
  · rintro ⟨i, hi, rfl⟩
    rw [List.mem_filter, List.mem_range] at hi
    have e : (l.take i).length = i := by rw [List.length_take]; omega
    rw [e]
    exact ⟨rfl, by simpa using hi.2⟩
  · rintro ⟨h1, h2⟩
    refine ⟨d.length, ?_, h1⟩
    rw [List.mem_filter, List.mem_range]
    refine ⟨?_, by simp [h2]⟩
    rcases Nat.lt_or_ge d.length l.length with h | h
    · exact h
    · rw [List.getElem?_eq_none h] at h2; cases h2

theorem below_dirs (s d : ByteArray) : belowB s d = true ↔ d.toList ∈ dirsOf s.toList := by
  rw [below_iff, mem_dirsOf, size_toList, Lib.toList_data, Lib.toList_data]

/-- Two names that can't stand side by side. -/
def meetB (a b : ByteArray) : Bool := (a.toList == b.toList) || belowB b a || belowB a b

theorem clash_meets (xs : List ByteArray) (i : Nat) (s : ByteArray) : clashB (namesTo xs i) (dirsTo xs i) s.toList = true ↔ ∃ x ∈ xs.take i, meetB x s = true := by
  unfold clashB meetB namesTo dirsTo
  simp only [Bool.or_eq_true, decide_eq_true_eq, List.any_eq_true, List.mem_map, List.mem_flatMap, beq_iff_eq]
  constructor
  · rintro ((⟨x, hx, e⟩ | ⟨x, hx, e⟩) | ⟨d, hd, x, hx, rfl⟩)
    · exact ⟨x, hx, .inl (.inl e)⟩
    · exact ⟨x, hx, .inr ((below_dirs x s).2 e)⟩
    · exact ⟨x, hx, .inl (.inr ((below_dirs s x).2 hd))⟩
  · rintro ⟨x, hx, (e | e) | e⟩
    · exact .inl (.inl ⟨x, hx, e⟩)
    · exact .inr ⟨x.toList, (below_dirs s x).1 e, x, hx, rfl⟩
    · exact .inl (.inr ⟨x, hx, (below_dirs x s).1 e⟩)

theorem err_bad (xs : List ByteArray) (i : Nat) (hi : i < xs.length) (h : checkB xs[i] = false) : errAt xs i = 9 := by
  unfold errAt
  rw [List.getElem?_eq_getElem hi]
  simp [h]
theorem err_meet (xs : List ByteArray) (i k : Nat) (hi : i < xs.length) (hk : k < i) (h : checkB xs[i] = true) (hm : meetB xs[k] xs[i] = true) : errAt xs i = 10 := by
  have hc : clashB (namesTo xs i) (dirsTo xs i) xs[i].toList = true := (clash_meets xs i xs[i]).2 ⟨xs[k], by
    rw [List.mem_iff_getElem]
    exact ⟨k, by rw [List.length_take]; omega, by rw [List.getElem_take]⟩, hm⟩
  unfold errAt
  rw [List.getElem?_eq_getElem hi]
  simp [h, hc]
theorem err_fine (xs : List ByteArray) (i : Nat) (hi : i < xs.length) (h : checkB xs[i] = true) (hm : ∀ k (hk : k < i), meetB xs[k] xs[i] = false) : errAt xs i = 0 := by
  have hc : clashB (namesTo xs i) (dirsTo xs i) xs[i].toList = false := by
    rw [Bool.eq_false_iff]
    intro hc
    obtain ⟨x, hx, e⟩ := (clash_meets xs i xs[i]).1 hc
    obtain ⟨k, hk, rfl⟩ := List.mem_iff_getElem.1 hx
    rw [List.length_take] at hk
    rw [List.getElem_take, hm k (by omega)] at e
    cases e
  unfold errAt
  rw [List.getElem?_eq_getElem hi]
  simp [h, hc]

theorem refbelow_same (s d : ByteArray) (w : World) (hs : s.size ≤ 140737488351232) (hd : d.size ≤ 140737488351232) :
    Calls Tryd.prog 13 #[.string s, .string d] w fun e w' => e = .returned (.bool (belowB s d)) ∧ w' = w :=
  (refbelow_calls s d w hs hd).mono fun _ _ ⟨h1, h2⟩ => ⟨h1, h2.symm⟩

set_option maxHeartbeats 2000000 in
set_option maxRecDepth 100000 in
theorem lists_walk (b o c : Nat) (xs : List ByteArray) (w : World) (hT : Tabs w) (hc : xs.length ≤ c) (hcm : c ≤ 140737488351232) (hxs : ∀ x ∈ xs, x.size ≤ 140737488351232)
    (hA : ∀ j (h : j < xs.length), w.cell? ⟨b, o + j, none⟩ = some (.string xs[j])) :
    Calls Tryd.prog 5 #[.slice (some ⟨b, o, none⟩) xs.length c] w fun e w' => e = .returned (.bool true) ∧ Below w.heap.size w w' := by
  obtain ⟨ys, hys⟩ : ∃ ys, ys = xs.take 40 := ⟨_, rfl⟩
  have hyl : (min (xs.length : Int) 40).toNat = ys.length := by rw [hys, List.length_take]; omega
  have hyc : ys.length ≤ c := by rw [hys, List.length_take]; omega
  have hy40 : ys.length ≤ 40 := by rw [hys, List.length_take]; omega
  have HX : Hid (∀ x ∈ ys, x.size ≤ 140737488351232) := Lib.hid (fun x hx => hxs x (by rw [hys] at hx; exact List.mem_of_mem_take hx))
  have HC : Hid (∀ j (h : j < ys.length), w.cell? ⟨b, o + j, none⟩ = some (.string ys[j])) := Lib.hid (fun j h => by
    have h2 : j < xs.length := by rw [hys, List.length_take] at h; omega
    rw [hA j h2]
    congr 2
    simp only [hys, List.getElem_take])
  have B0 := Lib.hid (Below.refl w.heap.size w)
  clear hA hxs hys
  go_enter Tryd.func5, Tryd.ntmps5
  go_wp2_with (first | (go_at_call 8; refine (speaks_calls _ hT).mono ?_; rintro e w1 ⟨rfl, hb⟩; have hT1 := Tabs.below hT hb; replace B0 := Lib.hid (B0.out.trans (hb.mono B0.out.size)); clear hb))
  refine (all_calls _ _ ys _ hT1 (by omega) HX.out (fun j h => ⟨b, o, rfl, (B0.out.cell (World.block_lt_of_cell? w _ (HC.out j h))).trans (HC.out j h)⟩)).mono ?_
  rintro e w2 ⟨rfl, hb⟩
  replace B0 := Lib.hid (B0.out.trans (hb.mono B0.out.size))
  clear hb hT1
  obtain ⟨a1, a2, HE⟩ : ∃ a1 a2, allB ys = (a1, a2) := ⟨_, _, rfl⟩
  rw [HE]
  have HAns := Lib.hid HE
  clear HE hyl hT
  go_wp2
  go_loopw [5] (fun i wr => ∃ k : Nat, k ≤ ys.length ∧ i = .int .i64 k ∧ Below w.heap.size w wr ∧ ∀ j, j < k → errAt ys j = 0) (fun i _ => ys.length - (intOf i).toNat)
  case atStart => exact ⟨0, Nat.zero_le _, rfl, B0.out, fun j h => by omega⟩
  case round =>
    obtain ⟨i, hi, rfl, hb, he⟩ := hrel
    have HB := Lib.hid hb
    have HJ := Lib.hid he
    clear hb he B0
    by_cases hlt : i < ys.length
    · have q1 : decide ((i : Int) < (ys.length : Int)) = true := decide_eq_true (by omega)
      have hcell := HC.out i hlt
      have hci : wr.cell? ⟨b, o + i, none⟩ = some (.string ys[i]) := (HB.out.cell (World.block_lt_of_cell? w _ hcell)).trans hcell
      have hsz := HX.out ys[i] (List.getElem_mem hlt)
      obtain ⟨s, hsk⟩ : ∃ s, s = ys[i] := ⟨_, rfl⟩
      rw [← hsk] at hci hsz
      have HSK := Lib.hid hsk
      clear hsk hcell
      by_cases h500 : 500 < s.size
      · have q2 : decide (500 < (s.size : Int)) = true := decide_eq_true (by omega)
        go_wp2
        go_ret
        exact ⟨rfl, HB.out⟩
      · have q2 : decide (500 < (s.size : Int)) = false := decide_eq_false (by omega)
        cases hc : checkB s with
        | false =>
          have er := err_bad ys i hlt (by rw [← HSK.out]; exact hc)
          have HR := HAns.out.symm.trans (allB_at ys i hlt (by omega) HJ.out)
          rw [er] at HR
          simp only [Prod.mk.injEq] at HR
          obtain ⟨e1, e2⟩ := HR
          have g1 : (a1 == (i : Int)) = true := by rw [beq_iff_eq]; exact e1
          have g2 : (a2 == 9) = true := by rw [beq_iff_eq]; exact e2
          clear er e1 e2
          go_wp2_with (go_at_call 10; refine (refcheck_calls _ _ hsz).mono ?_; rintro e w' ⟨rfl, rfl⟩)
          go_ret
          exact ⟨by simp, HB.out⟩
        | true =>
          have HCK := Lib.hid hc
          go_wp2_with (go_at_call 10; refine (refcheck_calls _ _ hsz).mono ?_; rintro e w' ⟨rfl, rfl⟩)
          obtain ⟨wo, rfl⟩ : ∃ wo : World, wo = wr := ⟨_, rfl⟩
          go_loopw [6] (fun i2 wv => ∃ k : Nat, k ≤ i ∧ i2 = .int .i64 k ∧ Below w.heap.size w wv ∧ ∀ j (hj : j < k) (hjl : j < ys.length), meetB ys[j] s = false) (fun i2 _ => i - (intOf i2).toNat)
          case atStart => exact ⟨0, Nat.zero_le _, rfl, HB.out, fun j h => by omega⟩
          case round =>
            obtain ⟨k, hk, rfl, hv, hm⟩ := hrel
            have HV := Lib.hid hv
            have HM := Lib.hid hm
            have hci2 : wr.cell? ⟨b, o + i, none⟩ = some (.string s) := by
              rw [HSK.out]
              exact (HV.out.cell (World.block_lt_of_cell? w _ (HC.out i hlt))).trans (HC.out i hlt)
            clear hv hm hci
            by_cases hki : k < i
            · have hkl : k < ys.length := by omega
              have qk : decide ((k : Int) < (i : Int)) = true := decide_eq_true (by omega)
              have hck : wr.cell? ⟨b, o + k, none⟩ = some (.string ys[k]) := (HV.out.cell (World.block_lt_of_cell? w _ (HC.out k hkl))).trans (HC.out k hkl)
              have hsz2 := HX.out ys[k] (List.getElem_mem hkl)
              obtain ⟨x, hxk⟩ : ∃ x, x = ys[k] := ⟨_, rfl⟩
              rw [← hxk] at hck hsz2
              have HXK := Lib.hid hxk
              clear hxk
              have n1 : (0 : Int) ≤ (k : Int) := by omega
              have n2 : (0 : Int) ≤ (i : Int) := by omega
              have n3 : (k : Int) < (ys.length : Int) := by omega
              have n4 : (i : Int) < (ys.length : Int) := by omega
              cases hm : meetB x s with
              | true =>
                have er := err_meet ys i k hlt hki (by rw [← HSK.out]; exact HCK.out) (by rw [← HSK.out, ← HXK.out]; exact hm)
                have HR := HAns.out.symm.trans (allB_at ys i hlt (by omega) HJ.out)
                rw [er] at HR
                simp only [Prod.mk.injEq] at HR
                obtain ⟨e1, e2⟩ := HR
                have g1 : (a1 == (i : Int)) = true := by rw [beq_iff_eq]; exact e1
                have g2 : (a2 == 10) = true := by rw [beq_iff_eq]; exact e2
                clear er e1 e2
                unfold meetB at hm
                cases m1 : (x.toList == s.toList) with
                | true =>
                  clear hm
                  go_wp2
                  go_quiet ((first | (go_at_call 13; exact Calls.quiet_of_same (refbelow_same _ _ _ (by assumption) (by assumption)))))
                  generalize hW : World.drewN _ _ = w4
                  have HW := Lib.hid hW
                  clear hW
                  go_wp2
                  go_ret
                  exact ⟨by simp, by rw [← HW.out]; exact HV.out.trans ((below_drewN _ _).mono HV.out.size)⟩
                | false =>
                  cases m2 : belowB s x with
                  | true =>
                    clear hm
                    go_wp2
                    go_quiet ((first | (go_at_call 13; exact Calls.quiet_of_same (refbelow_same _ _ _ (by assumption) (by assumption)))))
                    generalize hW : World.drewN _ _ = w4
                    have HW := Lib.hid hW
                    clear hW
                    go_wp2
                    go_ret
                    exact ⟨by simp, by rw [← HW.out]; exact HV.out.trans ((below_drewN _ _).mono HV.out.size)⟩
                  | false =>
                    have m3 : belowB x s = true := by rw [m1, m2] at hm; simpa using hm
                    clear hm
                    go_wp2
                    go_quiet ((first | (go_at_call 13; exact Calls.quiet_of_same (refbelow_same _ _ _ (by assumption) (by assumption)))))
                    generalize hW : World.drewN _ _ = w4
                    have HW := Lib.hid hW
                    clear hW
                    go_wp2
                    go_ret
                    exact ⟨by simp, by rw [← HW.out]; exact HV.out.trans ((below_drewN _ _).mono HV.out.size)⟩
              | false =>
                have HMM := Lib.hid hm
                unfold meetB at hm
                simp only [Bool.or_eq_false_iff] at hm
                obtain ⟨⟨m1, m2⟩, m3⟩ := hm
                go_wp2
                go_quiet ((first | (go_at_call 13; exact Calls.quiet_of_same (refbelow_same _ _ _ (by assumption) (by assumption)))))
                generalize hW : World.drewN _ _ = w4
                have HW := Lib.hid hW
                clear hW
                go_wp2
                go_roundw
                case rel =>
                  refine ⟨k + 1, by omega, by go_num, by rw [← HW.out]; exact HV.out.trans ((below_drewN _ _).mono HV.out.size), fun j hj hjl => ?_⟩
                  rcases Nat.lt_or_ge j k with h | h
                  · exact HM.out j h hjl
                  · obtain rfl : j = k := by omega
                    rw [← HXK.out]
                    exact HMM.out
                case measure => simp [intOf]; omega
            · have er := Lib.hid (err_fine ys i hlt (by rw [← HSK.out]; exact HCK.out) (fun j hj => by rw [← HSK.out]; exact HM.out j (by omega) (by omega)))
              go_wp2
              go_roundw
              case rel =>
                refine ⟨i + 1, by omega, by go_num, HV.out, fun j hj => ?_⟩
                rcases Nat.lt_or_ge j i with h | h
                · exact HJ.out j h
                · obtain rfl : j = i := by omega
                  exact er.out
              case measure => simp [intOf]; omega
    · have HR := HAns.out.symm.trans (allB_none ys (fun j hj => HJ.out j (by omega)))
      simp only [Prod.mk.injEq] at HR
      obtain ⟨e1, e2⟩ := HR
      have g1 : (a1 == 0) = true := by rw [beq_iff_eq]; exact e1
      have g2 : (a2 == 0) = true := by rw [beq_iff_eq]; exact e2
      clear e1 e2
      go_wp2
      go_ret
      exact ⟨by simp, HB.out⟩

set_option maxHeartbeats 1000000 in
set_option maxRecDepth 100000 in
theorem lists_empty (A : Option Addr) (c : Nat) (w : World) (hT : Tabs w) (hc : A = none → c = 0) (hcm : c ≤ 140737488351232) :
    Calls Tryd.prog 5 #[.slice A 0 c] w fun e w' => e = .returned (.bool true) ∧ Below w.heap.size w w' := by
  have B0 := Lib.hid (Below.refl w.heap.size w)
  have ha : allB [] = (0, 0) := rfl
  cases A with
  | none =>
    obtain rfl := hc rfl
    go_enter Tryd.func5, Tryd.ntmps5
    go_wp2_with (first | (go_at_call 8; refine (speaks_calls _ hT).mono ?_; rintro e w1 ⟨rfl, hb⟩; have hT1 := Tabs.below hT hb; replace B0 := Lib.hid (B0.out.trans (hb.mono B0.out.size)); clear hb) | (go_at_call 14; refine (all_calls _ _ [] _ hT1 (by simp) (fun x hx => by cases hx) (fun j h => by cases h)).mono ?_; rintro e w2 ⟨rfl, hb⟩; replace B0 := Lib.hid (B0.out.trans (hb.mono B0.out.size)); clear hb; rw [ha]))
    go_loopw [5] (fun i wr => i = .int .i64 0 ∧ Below w.heap.size w wr) (fun i _ => 0)
    case atStart => exact ⟨rfl, B0.out⟩
    case round =>
      obtain ⟨rfl, hb⟩ := hrel
      have HB := Lib.hid hb
      clear hb
      go_wp2
      go_ret
      exact ⟨by simp, HB.out⟩
  | some a =>
    go_enter Tryd.func5, Tryd.ntmps5
    go_wp2_with (first | (go_at_call 8; refine (speaks_calls _ hT).mono ?_; rintro e w1 ⟨rfl, hb⟩; have hT1 := Tabs.below hT hb; replace B0 := Lib.hid (B0.out.trans (hb.mono B0.out.size)); clear hb) | (go_at_call 14; refine (all_calls _ _ [] _ hT1 (by simp) (fun x hx => by cases hx) (fun j h => by cases h)).mono ?_; rintro e w2 ⟨rfl, hb⟩; replace B0 := Lib.hid (B0.out.trans (hb.mono B0.out.size)); clear hb; rw [ha]))
    go_loopw [5] (fun i wr => i = .int .i64 0 ∧ Below w.heap.size w wr) (fun i _ => 0)
    case atStart => exact ⟨rfl, B0.out⟩
    case round =>
      obtain ⟨rfl, hb⟩ := hrel
      have HB := Lib.hid hb
      clear hb
      go_wp2
      go_ret
      exact ⟨by simp, HB.out⟩

theorem lists_any (v : Value) (xs : List ByteArray) (w : World) (h : Fa.StrsOf w v xs) (hx : ∀ x ∈ xs, x.size ≤ 140737488351232) (hT : Tabs w) :
    Calls Tryd.prog 5 #[v] w fun e w' => e = .returned (.bool true) ∧ Below w.heap.size w w' := by
  rcases h with ⟨a, c, rfl, rfl, h1, h2⟩ | ⟨b, o, c, rfl, h0, h1, h2, h3, h4⟩
  · exact lists_empty a c w hT h1 h2
  · exact lists_walk b o c xs w hT h1 h2 hx h4

end Go.Proofs.YtndfffningdcgaaDoor.Nm
