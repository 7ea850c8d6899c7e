/-
  slices.Concat at rows of int: an own row of all parts.
-/
import Derived.Test.YtnoplhjbachjiaaMgRd
import Derived.Test.YtnoplhjbachjiaaMgGrow
namespace Go.Proofs.Ytnoplhjbachjiaa.Mg
open Go.ChangeShapes Go.WideShapes Go.ChangeAt Go.RowKit Go.Shelf Go.Proofs
set_option linter.unusedVariables false
set_option linter.unusedSimpArgs false

noncomputable def ci_ti : TypeInfo := (Try.prog.info? 3).get (by kernel_rfl)

/-- slices.Grow of nothing by n: an own row of room for n. -/
theorem ci_grow (n : Nat) (w : World) (hn : 0 < n) (hb : n ≤ 1000000) :
    Calls Try.prog 36 #[.slice none 0 0, .int .i64 n] w fun e w' => ∃ v, e = .returned v ∧ w'.ownsRow w.heap.size 3 1 v 0 [] ∧ Below w.heap.size w w' := by
  have h := Any8.slices_Grow_grow growI ci_ti (.int .i64 0) (by kernel_rfl) (by kernel_rfl) (by rw [show ci_ti.size = 1 from by kernel_rfl]; decide) none 0 0 n [] w (by omega) (by omega) (by simp only [show ci_ti.bytes = 8 from by kernel_rfl]; omega) (by omega) (by simp) (fun _ => rfl) (fun a h => by cases h)
  refine h.mono ?_
  rintro e w' ⟨rfl, rfl⟩
  have h1 := grownCap_ge w (0 + n) 0 3
  have h2 := grownCap_le_maxLen w (0 + n) 0 3 (by unfold maxLen; omega)
  refine ⟨_, rfl, ⟨by simp, .inr ⟨w.heap.size, _, _, rfl, Nat.le_refl _, heap_new w.drew _, by omega, h2, ?_, by simp⟩⟩, ⟨rfl, rfl, rfl, by simp, fun k hk => ?_⟩⟩
  · simp only [Array.size_append, size_zeroCells]
    show 0 + (0 + n - 0) * 1 + (grownCap w (0 + n) 0 3 - (0 + n)) * 1 = grownCap w (0 + n) 0 3 * 1
    omega
  · exact (World.grownBy_alloc w.drew _ none).block k hk (by simp)

abbrev ci_Part := Value × Nat × List Value
def ci_sum (ps : List ci_Part) (k : Nat) : Nat := ((ps.take k).map fun p => p.2.1).sum
def ci_cat (ps : List ci_Part) (k : Nat) : List Value := ((ps.take k).map fun p => p.2.2).flatten
theorem ci_sum_succ (ps : List ci_Part) (k : Nat) (h : k < ps.length) : ci_sum ps (k + 1) = ci_sum ps k + ps[k].2.1 := by
  unfold ci_sum
  rw [List.take_succ_eq_append_getElem h, List.map_append, List.sum_append]
  simp
theorem ci_cat_succ (ps : List ci_Part) (k : Nat) (h : k < ps.length) : ci_cat ps (k + 1) = ci_cat ps k ++ ps[k].2.2 := by
  unfold ci_cat
  rw [List.take_succ_eq_append_getElem h, List.map_append, List.flatten_append]
  simp
theorem ci_sum_mono (ps : List ci_Part) (k : Nat) (h : k ≤ ps.length) : ci_sum ps k ≤ ci_sum ps ps.length := by
  obtain ⟨d, hd⟩ : ∃ d, ps.length = k + d := ⟨ps.length - k, by omega⟩
  rw [hd]
  clear h
  induction d generalizing k with
  | zero => exact Nat.le_refl _
  | succ d ih =>
    have h1 := ih (k + 1) (by omega)
    have h2 := ci_sum_succ ps k (by omega)
    have : k + 1 + d = k + (d + 1) := by omega
    rw [this] at h1
    omega

set_option maxHeartbeats 2000000 in
set_option maxRecDepth 100000 in
theorem ci_calls (g0 c0 : Nat) (ps : List ci_Part) (w : World) (hc : ∀ j (h : j < ps.length), w.cell? ⟨g0, j, none⟩ = some ps[j].1) (hr : ∀ j (h : j < ps.length), Rd w 3 1 ps[j].1 ps[j].2.1 ps[j].2.2)
    (h1 : ∀ j (h : j < ps.length), ∀ u ∈ ps[j].2.2, u.oneCell' = true) (hpos : 0 < ci_sum ps ps.length) (hb : ci_sum ps ps.length ≤ 1000000) (hl : ps.length ≤ 1000) :
    Calls Try.prog 29 #[.slice (some ⟨g0, 0, none⟩) ps.length c0] w fun e w' => ∃ v, e = .returned v ∧ w'.ownsRow w.heap.size 3 1 v (ci_sum ps ps.length) (ci_cat ps ps.length) ∧ Below w.heap.size w w' := by
  have hi : Try.prog.info? 3 = some ci_ti := by kernel_rfl
  have hz0 : ci_ti.zero = some (.int .i64 0) := by kernel_rfl
  have hz1 : ci_ti.size = 1 := by kernel_rfl
  have hz2 : ci_ti.bytes = 8 := by kernel_rfl
  have HC := Lib.hid hc
  have HR := Lib.hid hr
  have H1 := Lib.hid h1
  have HM := Lib.hid (ci_sum_mono ps)
  clear hc hr h1
  go_enter Try.func29, Try.ntmps29
  go_wp2
  go_loop [3, 11] (fun s i => ∃ k : Nat, k ≤ ps.length ∧ s = .int .i64 (ci_sum ps k) ∧ i = .int .i64 k) (fun _ i => ps.length - (intOf i).toNat)
  case atStart => exact ⟨0, Nat.zero_le _, rfl, rfl⟩
  case round =>
    obtain ⟨k, hk, rfl, rfl⟩ := hrel
    have hsk := HM.out k hk
    by_cases hlt : k < ps.length
    · have q1 : decide ((k : Int) < (ps.length : Int)) = true := decide_eq_true (by omega)
      have hcell := HC.out k hlt
      have hs2 := ci_sum_succ ps k hlt
      have hs3 := HM.out (k + 1) hlt
      obtain ⟨_, g, o, c, cur, fr, hv, _⟩ := HR.out k hlt
      rw [hv] at hcell
      obtain ⟨n, hn⟩ : ∃ n, ps[k].2.1 = n := ⟨_, rfl⟩
      rw [hn] at hcell hs2
      obtain ⟨s, hs⟩ : ∃ s, ci_sum ps k = s := ⟨_, rfl⟩
      rw [hs] at hs2 ⊢
      rw [hs2] at hs3
      have q2 : decide ((s : Int) + (n : Int) < 0) = false := decide_eq_false (by omega)
      have HS2 := Lib.hid hs2
      clear hn hv hs hs2
      go_wp2
      go_round
      case rel => exact ⟨k + 1, by omega, by rw [HS2.out]; go_num, by go_num⟩
      case measure => simp [intOf]; omega
    · obtain rfl : k = ps.length := by omega
      have q1 : decide ((ps.length : Int) < (ps.length : Int)) = false := decide_eq_false (by omega)
      go_wp2_with (go_at_call 36; refine (ci_grow _ _ hpos hb).mono ?_; rintro e w2 ⟨v, rfl, hown, hbw⟩; have HO := Lib.hid hown; have HB := Lib.hid hbw; clear hown hbw)
      go_loopw [6, 27] (fun v i wr => ∃ k : Nat, k ≤ ps.length ∧ i = .int .i64 k ∧ wr.ownsRow w.heap.size 3 1 v (ci_sum ps k) (ci_cat ps k) ∧ Below w.heap.size w wr) (fun _ i _ => ps.length - (intOf i).toNat)
      case atStart => exact ⟨0, Nat.zero_le _, rfl, HO.out, HB.out⟩
      case round =>
        obtain ⟨k, hk2, rfl, hown, hbw⟩ := hrel
        have HB2 := Lib.hid hbw
        have hB1 := hbw.size
        have hsk2 := HM.out k hk2
        clear hbw
        by_cases hlt2 : k < ps.length
        · have q2 : decide ((k : Int) < (ps.length : Int)) = true := decide_eq_true (by omega)
          have hcell := (HB2.out.cell (World.block_lt_of_cell? w _ (HC.out k hlt2))).trans (HC.out k hlt2)
          have hs2 := ci_sum_succ ps k hlt2
          have hs3 := HM.out (k + 1) hlt2
          have hct := Lib.hid (ci_cat_succ ps k hlt2)
          have hrd := (HR.out k hlt2).below HB2.out
          have hlen := hrd.len
          obtain ⟨g, o, c, hv, _, hcs⟩ := hrd.cell
          rw [hv] at hcell
          have h1x := H1.out k hlt2
          obtain ⟨n, hn⟩ : ∃ n, ps[k].2.1 = n := ⟨_, rfl⟩
          rw [hn] at hcell hs2 hlen
          obtain ⟨xs, hxs⟩ : ∃ xs, ps[k].2.2 = xs := ⟨_, rfl⟩
          rw [hxs] at hct hcs h1x hlen
          obtain ⟨s, hs⟩ : ∃ s, ci_sum ps k = s := ⟨_, rfl⟩
          rw [hs] at hs2 hown hsk2
          rw [hs2] at hs3
          have HS2 := Lib.hid hs2
          have HCS := Lib.hid hcs
          have H1X := Lib.hid h1x
          have HV := Lib.hid hv
          clear hn hv hs hs2 hxs hcs h1x hrd
          go_wp2_with (at_builtin; refine wpList_append_own _ rfl _ _ 22 rfl w.heap.size 3 ci_ti (.int .i64 0) 1 8 Try.underlying22 hi hz0 hz1 hz2 rfl (by decide) _ _ _ rfl hown ⟨g, o, none⟩ n c xs rfl hlen ?c1 H1X.out ?c3 ?c4 hB1 ?_)
          case c1 =>
            intro j u hj
            obtain ⟨hj1, rfl⟩ := List.getElem?_eq_some_iff.1 hj
            have hadd : (⟨g, o, none⟩ : Addr).add j = ⟨g, o + j, none⟩ := by unfold Addr.add; split <;> simp_all
            rw [hadd]
            exact HCS.out j hj1
          case c3 => unfold maxLen; omega
          case c4 => omega
          intro v' w3 hown1 hg1 _
          have HO2 : Hid (w3.ownsRow w.heap.size 3 1 v' (ci_sum ps (k + 1)) (ci_cat ps (k + 1))) := Lib.hid (by rw [HS2.out, hct.out]; exact hown1)
          have HB3 : Hid (Below w.heap.size w w3) := Lib.hid (HB2.out.grown hg1 hB1 (fun r e => (hown.lt r e).1))
          clear hown hown1 hg1
          go_wp2
          go_roundw
          case rel => exact ⟨k + 1, by omega, by go_num, HO2.out, HB3.out⟩
          case measure => simp [intOf]; omega
        · obtain rfl : k = ps.length := by omega
          have q2 : decide ((ps.length : Int) < (ps.length : Int)) = false := decide_eq_false (by omega)
          have HO2 := Lib.hid hown
          clear hown
          go_wp2
          go_ret
          exact ⟨_, rfl, HO2.out, HB2.out⟩

end Go.Proofs.Ytnoplhjbachjiaa.Mg

