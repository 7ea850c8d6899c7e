/-
  Merge: MergeRefuses answers true.
-/
import Derived.Test.YtnoplhjbachjiaaMgCost
import Derived.Test.YtnoplhjbachjiaaFrameArgs
namespace Go.Proofs.Ytnoplhjbachjiaa.Mg
open Go.ChangeShapes Go.WideShapes Go.ChangeAt Go.RowKit Go.Shelf Go.Proofs
set_option linter.unusedVariables false
set_option linter.unusedSimpArgs false

theorem reads_of {w : World} {v : Value} {xs : List Int} (h : Fa.IntsOf w .i64 v xs) : ∃ A c, v = .slice A xs.length c ∧ Reads w A xs ∧ xs.length ≤ 140737488351232 := by
  rcases h with ⟨a, c, rfl, rfl, h1, h2⟩ | ⟨b, o, c, rfl, h0, h1, h2, h3, h4⟩
  · exact ⟨a, c, rfl, fun j hj => (by cases hj), by simp⟩
  · exact ⟨_, c, rfl, fun j hj => ⟨b, o, rfl, h4 j hj⟩, by omega⟩

theorem lengths_bad_any (A : Option Addr) (c : Nat) (cs : List Int) (most : Int) (w : World) (hA : Reads w A cs) (hl : cs.length ≤ 140737488351232) (hb : badArg cs most = true) :
    Calls Try.prog 7 #[.slice A cs.length c, .int .i64 most] w fun e w' => e = .returned (.tuple #[.slice none 0 0, .int .i64 1]) ∧ Below w.heap.size w w' :=
  (lengths_bad A c cs most w hA hl hb).mono fun e w' h => ⟨h.1, by rw [h.2]; exact Below.refl _ _⟩

theorem limit_ans {w w' : World} {cs : List Int} {most : Int} {v : Value} {e : Int} (h1 : badArg cs most = false) (h2 : (2 : Int) ^ most.toNat < comeN cs) (h : LenAns w w' cs most v e) : v = .slice none 0 0 ∧ e = 11 := by
  rcases h with ⟨h, _⟩ | ⟨_, _, h3, h4⟩ | ⟨_, h, _⟩
  · rw [h1] at h; cases h
  · exact ⟨h3, h4⟩
  · omega
theorem fine_ans {w w' : World} {cs : List Int} {most : Int} {v : Value} {e : Int} (h1 : badArg cs most = false) (h2 : ¬ (2 : Int) ^ most.toNat < comeN cs) (h : LenAns w w' cs most v e) : ∃ B, v = .slice (some ⟨B, 0, none⟩) cs.length cs.length ∧ e = 0 := by
  rcases h with ⟨h, _⟩ | ⟨_, h, _⟩ | ⟨_, _, h3, B, h4, _⟩
  · rw [h1] at h; cases h
  · omega
  · exact ⟨B, h4, h3⟩
theorem reads_drewN {w : World} {A : Option Addr} {cs : List Int} (h : Reads w A cs) (q : Nat) : Reads (w.drewN q) A cs := h.below (below_drewN (Below.refl _ _) q)

set_option maxHeartbeats 4000000 in
theorem refuses_walk (A : Option Addr) (c : Nat) (cs : List Int) (most : Int) (w : World) (hA : Reads w A cs) (hl : cs.length ≤ 140737488351232) (wm : (Lit.int .i64 most).wf = true) :
    Calls Try.prog 3 #[.slice A cs.length c, .int .i64 most] w fun e w' => e = .returned (.bool true) ∧ Below w.heap.size w w' := by
  have HA := Lib.hid hA
  have HSP := Lib.hid (speaks_calls w)
  obtain ⟨n, hn⟩ : ∃ n, cs.length = n := ⟨_, rfl⟩
  have HN := Lib.hid hn
  have HLB := Lib.hid (fun W (hW : Reads W A cs) (hb : badArg cs most = true) => lengths_bad_any A c cs most W hW hl hb)
  have HLA := Lib.hid (fun W (hW : Reads W A cs) => lengths_any A c cs most W hW hl)
  have HCM := Lib.hid (fun W (hW : Reads W A cs) => come_calls A c cs W hW hl)
  rw [hn] at HLB HLA HCM hl ⊢
  clear hA hn
  by_cases ht1 : 288 < (n : Int)
  · have t1 : decide (288 < (n : Int)) = true := decide_eq_true ht1
    by_cases hz : 0 < n
    · have tz : decide ((0 : Int) < (n : Int)) = true := decide_eq_true (by omega)
      go_enter Try.func3, Try.ntmps3
      go_wp2_with (go_at_call 6; refine HSP.out.mono ?_; rintro e w1 ⟨rfl, hb⟩; have HB1 := Lib.hid hb; have HA1 := Lib.hid (HA.out.below hb); clear hb)
      go_loopw [5, 6] (fun b i wr => b = .bool true ∧ i = .int .i64 0 ∧ wr = w1) (fun _ _ _ => 0)
      case atStart => exact ⟨by simp [*], rfl, rfl⟩
      case round =>
        obtain ⟨rfl, rfl, rfl⟩ := hrel
        have hbad : badArg cs most = true := by unfold badArg; rw [HN.out, decide_eq_true (show 288 < n by omega)]; simp
        have HLX := Lib.hid (HLB.out _ HA1.out hbad)
        clear hbad
        go_wp2_with (first | (go_at_call 7; refine HLX.out.mono ?_; rintro e w2 ⟨rfl, hb2⟩))
        go_ret
        exact ⟨rfl, HB1.out.trans (hb2.mono HB1.out.size)⟩
    · have tz : decide ((0 : Int) < (n : Int)) = false := decide_eq_false (by omega)
      go_enter Try.func3, Try.ntmps3
      go_wp2_with (go_at_call 6; refine HSP.out.mono ?_; rintro e w1 ⟨rfl, hb⟩; have HB1 := Lib.hid hb; have HA1 := Lib.hid (HA.out.below hb); clear hb)
      go_loopw [5, 6] (fun b i wr => b = .bool true ∧ i = .int .i64 0 ∧ wr = w1) (fun _ _ _ => 0)
      case atStart => exact ⟨by simp [*], rfl, rfl⟩
      case round =>
        obtain ⟨rfl, rfl, rfl⟩ := hrel
        have hbad : badArg cs most = true := by unfold badArg; rw [HN.out, decide_eq_true (show 288 < n by omega)]; simp
        have HLX := Lib.hid (HLB.out _ HA1.out hbad)
        clear hbad
        go_wp2_with (first | (go_at_call 7; refine HLX.out.mono ?_; rintro e w2 ⟨rfl, hb2⟩))
        go_ret
        exact ⟨rfl, HB1.out.trans (hb2.mono HB1.out.size)⟩
  · have t1 : decide (288 < (n : Int)) = false := decide_eq_false ht1
    by_cases ht2 : most < 1
    · have t2 : decide (most < 1) = true := decide_eq_true ht2
      by_cases hz : 0 < n
      · have tz : decide ((0 : Int) < (n : Int)) = true := decide_eq_true (by omega)
        go_enter Try.func3, Try.ntmps3
        go_wp2_with (go_at_call 6; refine HSP.out.mono ?_; rintro e w1 ⟨rfl, hb⟩; have HB1 := Lib.hid hb; have HA1 := Lib.hid (HA.out.below hb); clear hb)
        go_loopw [5, 6] (fun b i wr => b = .bool true ∧ i = .int .i64 0 ∧ wr = w1) (fun _ _ _ => 0)
        case atStart => exact ⟨by simp [*], rfl, rfl⟩
        case round =>
          obtain ⟨rfl, rfl, rfl⟩ := hrel
          have hbad : badArg cs most = true := by unfold badArg; rw [decide_eq_true (show most < 1 by omega)]; simp
          have HLX := Lib.hid (HLB.out _ HA1.out hbad)
          clear hbad
          go_wp2_with (first | (go_at_call 7; refine HLX.out.mono ?_; rintro e w2 ⟨rfl, hb2⟩))
          go_ret
          exact ⟨rfl, HB1.out.trans (hb2.mono HB1.out.size)⟩
      · have tz : decide ((0 : Int) < (n : Int)) = false := decide_eq_false (by omega)
        go_enter Try.func3, Try.ntmps3
        go_wp2_with (go_at_call 6; refine HSP.out.mono ?_; rintro e w1 ⟨rfl, hb⟩; have HB1 := Lib.hid hb; have HA1 := Lib.hid (HA.out.below hb); clear hb)
        go_loopw [5, 6] (fun b i wr => b = .bool true ∧ i = .int .i64 0 ∧ wr = w1) (fun _ _ _ => 0)
        case atStart => exact ⟨by simp [*], rfl, rfl⟩
        case round =>
          obtain ⟨rfl, rfl, rfl⟩ := hrel
          have hbad : badArg cs most = true := by unfold badArg; rw [decide_eq_true (show most < 1 by omega)]; simp
          have HLX := Lib.hid (HLB.out _ HA1.out hbad)
          clear hbad
          go_wp2_with (first | (go_at_call 7; refine HLX.out.mono ?_; rintro e w2 ⟨rfl, hb2⟩))
          go_ret
          exact ⟨rfl, HB1.out.trans (hb2.mono HB1.out.size)⟩
    · have t2 : decide (most < 1) = false := decide_eq_false ht2
      by_cases ht3 : 15 < most
      · have t3 : decide (15 < most) = true := decide_eq_true ht3
        by_cases hz : 0 < n
        · have tz : decide ((0 : Int) < (n : Int)) = true := decide_eq_true (by omega)
          go_enter Try.func3, Try.ntmps3
          go_wp2_with (go_at_call 6; refine HSP.out.mono ?_; rintro e w1 ⟨rfl, hb⟩; have HB1 := Lib.hid hb; have HA1 := Lib.hid (HA.out.below hb); clear hb)
          go_loopw [5, 6] (fun b i wr => b = .bool true ∧ i = .int .i64 0 ∧ wr = w1) (fun _ _ _ => 0)
          case atStart => exact ⟨by simp [*], rfl, rfl⟩
          case round =>
            obtain ⟨rfl, rfl, rfl⟩ := hrel
            have hbad : badArg cs most = true := by unfold badArg; rw [decide_eq_true (show 15 < most by omega)]; simp
            have HLX := Lib.hid (HLB.out _ HA1.out hbad)
            clear hbad
            go_wp2_with (first | (go_at_call 7; refine HLX.out.mono ?_; rintro e w2 ⟨rfl, hb2⟩))
            go_ret
            exact ⟨rfl, HB1.out.trans (hb2.mono HB1.out.size)⟩
        · have tz : decide ((0 : Int) < (n : Int)) = false := decide_eq_false (by omega)
          go_enter Try.func3, Try.ntmps3
          go_wp2_with (go_at_call 6; refine HSP.out.mono ?_; rintro e w1 ⟨rfl, hb⟩; have HB1 := Lib.hid hb; have HA1 := Lib.hid (HA.out.below hb); clear hb)
          go_loopw [5, 6] (fun b i wr => b = .bool true ∧ i = .int .i64 0 ∧ wr = w1) (fun _ _ _ => 0)
          case atStart => exact ⟨by simp [*], rfl, rfl⟩
          case round =>
            obtain ⟨rfl, rfl, rfl⟩ := hrel
            have hbad : badArg cs most = true := by unfold badArg; rw [decide_eq_true (show 15 < most by omega)]; simp
            have HLX := Lib.hid (HLB.out _ HA1.out hbad)
            clear hbad
            go_wp2_with (first | (go_at_call 7; refine HLX.out.mono ?_; rintro e w2 ⟨rfl, hb2⟩))
            go_ret
            exact ⟨rfl, HB1.out.trans (hb2.mono HB1.out.size)⟩
      · have t3 : decide (15 < most) = false := decide_eq_false ht3
        have h288 : n ≤ 288 := by omega
        have hm1 : 1 ≤ most := by omega
        have hm2 : most ≤ 15 := by omega
        clear ht1 ht2 ht3
        go_enter Try.func3, Try.ntmps3
        go_wp2_with (go_at_call 6; refine HSP.out.mono ?_; rintro e w1 ⟨rfl, hb⟩; have HB1 := Lib.hid hb; have HA1 := Lib.hid (HA.out.below hb); clear hb)
        go_loopw [5, 6] (fun b i wr => ∃ (k : Nat) (bb : Bool), k ≤ n ∧ b = .bool bb ∧ i = .int .i64 k ∧ (bb = true → cs.any badB = true) ∧ (bb = false → (cs.take k).any badB = false) ∧ wr = w1) (fun _ i _ => n - (intOf i).toNat)
        case atStart => exact ⟨0, false, Nat.zero_le _, by simp [t1, t2, t3], rfl, fun h => (by cases h), fun _ => (by simp), rfl⟩
        case round =>
          obtain ⟨k, bb, hk, rfl, rfl, hbt, hbf, rfl⟩ := hrel
          have HBT := Lib.hid hbt
          have HBF := Lib.hid hbf
          clear hbt hbf
          cases bb with
          | true =>
            by_cases hlt : k < n
            · have q1 : decide ((k : Int) < (n : Int)) = true := decide_eq_true (by omega)
              have hbad : badArg cs most = true := by unfold badArg; rw [HBT.out rfl]; simp
              have HLX := Lib.hid (HLB.out _ HA1.out hbad)
              clear hbad
              go_wp2_with (first | (go_at_call 7; refine HLX.out.mono ?_; rintro e w2 ⟨rfl, hb2⟩))
              go_ret
              exact ⟨rfl, HB1.out.trans (hb2.mono HB1.out.size)⟩
            · have q1 : decide ((k : Int) < (n : Int)) = false := decide_eq_false (by omega)
              have hbad : badArg cs most = true := by unfold badArg; rw [HBT.out rfl]; simp
              have HLX := Lib.hid (HLB.out _ HA1.out hbad)
              clear hbad
              go_wp2_with (first | (go_at_call 7; refine HLX.out.mono ?_; rintro e w2 ⟨rfl, hb2⟩))
              go_ret
              exact ⟨rfl, HB1.out.trans (hb2.mono HB1.out.size)⟩
          | false =>
            by_cases hlt : k < n
            · have q1 : decide ((k : Int) < (n : Int)) = true := decide_eq_true (by omega)
              have k1 : k < cs.length := by rw [HN.out]; exact hlt
              obtain ⟨g, o, rfl, hcell⟩ := HA1.out k k1
              have HNX : Hid ((cs.take (k + 1)).any badB = badB cs[k]) := Lib.hid (by
                rw [List.take_succ_eq_append_getElem k1, List.any_append, HBF.out rfl]
                simp)
              have HMX : Hid (badB cs[k] = true → cs.any badB = true) := Lib.hid (fun h => List.any_eq_true.2 ⟨_, List.getElem_mem k1, h⟩)
              obtain ⟨x, hx⟩ : ∃ x, cs[k] = x := ⟨_, rfl⟩
              rw [hx] at hcell HNX HMX
              clear hx
              by_cases h0 : x < 0
              · have r0 : decide (x < 0) = true := decide_eq_true h0
                have HBX : Hid (badB x = true) := Lib.hid (by unfold badB; rw [r0]; rfl)
                clear h0
                go_wp2
                go_roundw
                case rel => exact ⟨k + 1, true, by omega, rfl, by go_num, fun _ => HMX.out HBX.out, fun h => (by cases h), trivial⟩
                case measure => simp [intOf]; omega
              · have r0 : decide (x < 0) = false := decide_eq_false h0
                clear h0
                by_cases h0 : 1099511627776 < x
                · have r1 : decide (1099511627776 < x) = true := decide_eq_true h0
                  have HBX : Hid (badB x = true) := Lib.hid (by unfold badB; rw [r0, r1]; rfl)
                  clear h0
                  go_wp2
                  go_roundw
                  case rel => exact ⟨k + 1, true, by omega, rfl, by go_num, fun _ => HMX.out HBX.out, fun h => (by cases h), trivial⟩
                  case measure => simp [intOf]; omega
                · have r1 : decide (1099511627776 < x) = false := decide_eq_false h0
                  have HBX : Hid (badB x = false) := Lib.hid (by unfold badB; rw [r0, r1]; rfl)
                  clear h0
                  go_wp2
                  go_roundw
                  case rel => exact ⟨k + 1, false, by omega, rfl, by go_num, fun h => (by cases h), fun _ => (by rw [HNX.out, HBX.out]), trivial⟩
                  case measure => simp [intOf]; omega
            · have hkn : k = n := by omega
              have q1 : decide ((k : Int) < (n : Int)) = false := decide_eq_false (by omega)
              have hbad : badArg cs most = false := by
                have h1 := HBF.out rfl
                rw [hkn, ← HN.out, List.take_length] at h1
                unfold badArg
                rw [h1, HN.out, decide_eq_false (show ¬ 288 < n by omega), decide_eq_false (show ¬ most < 1 by omega), decide_eq_false (show ¬ 15 < most by omega)]
                rfl
              have HBD := Lib.hid hbad
              have hP : IntKind.i64.wrap ((2 : Int) ^ most.toNat) = (2 : Int) ^ most.toNat := by
                have h5 : most.toNat ≤ 15 := by omega
                have h6 : (2 : Int) ^ most.toNat ≤ 2 ^ 15 := by
                  have := Nat.pow_le_pow_right (n := 2) (by omega) h5
                  exact_mod_cast this
                have h7 : (0 : Int) ≤ 2 ^ most.toNat := Int.pow_nonneg (by omega)
                rw [IntKind.wrap_i64]
                omega
              by_cases hcm : (2 : Int) ^ most.toNat < (comeN cs : Int)
              · have t4 : decide ((2 : Int) ^ most.toNat < (comeN cs : Int)) = true := decide_eq_true hcm
                have HCP := Lib.hid hcm
                clear hbad hkn hcm
                go_wp2_with (first | (go_at_call 7; refine (HLA.out _ HA1.out).mono ?_; rintro e w2 ⟨v, x, rfl, hb2, ha⟩; obtain ⟨rfl, rfl⟩ := limit_ans HBD.out HCP.out ha; have HB2 := Lib.hid (HB1.out.trans (hb2.mono HB1.out.size)); have HA2 := Lib.hid (HA1.out.below hb2); clear ha hb2))
                refine wp_region_quiet_lit (by kernel_rfl) (by kernel_rfl) ?_
                iterate 5 (go_big_quiet_step (first | (go_at_call 8; refine (HCM.out _ (reads_drewN HA2.out _)).mono ?_; rintro e w' ⟨rfl, rfl⟩; exact ⟨rfl, _, rfl⟩)))
                refine wpQuiet_nil ?_
                intro _ hw'
                obtain ⟨nq, hw''⟩ := hw'
                subst hw''
                go_wp2
                go_ret
                exact ⟨rfl, below_drewN HB2.out _⟩
              · have t4 : decide ((2 : Int) ^ most.toNat < (comeN cs : Int)) = false := decide_eq_false hcm
                have HCP := Lib.hid hcm
                clear hbad hkn hcm
                go_wp2_with (first | (go_at_call 7; refine (HLA.out _ HA1.out).mono ?_; rintro e w2 ⟨v, x, rfl, hb2, ha⟩; obtain ⟨B, rfl, rfl⟩ := fine_ans HBD.out HCP.out ha; rw [HN.out]; have HB2 := Lib.hid (HB1.out.trans (hb2.mono HB1.out.size)); have HA2 := Lib.hid (HA1.out.below hb2); clear ha hb2))
                go_quiet (first | (go_at_call 8; refine (HCM.out _ (reads_drewN HA2.out _)).mono ?_; rintro e w' ⟨rfl, rfl⟩; exact ⟨rfl, _, rfl⟩))
                go_wp2
                go_ret
                exact ⟨by simp, below_drewN HB2.out _⟩

theorem refuses_any (v : Value) (xs : List Int) (most : Int) (w : World) (h : Fa.IntsOf w .i64 v xs) (hx : ∀ x ∈ xs, (Lit.int .i64 x).wf = true) {n : Nat} (hy : n ≤ 140737488351232) (wm : (Lit.int .i64 most).wf = true) :
    Calls Try.prog 3 #[v, .int .i64 most] w fun e w' => e = .returned (.bool true) ∧ Below w.heap.size w w' := by
  obtain ⟨A, c, rfl, hA, hl⟩ := reads_of h
  exact refuses_walk A c xs most w hA hl wm

end Go.Proofs.Ytnoplhjbachjiaa.Mg
