/-
  Merge: Cost, come, and Lengths in one form.
-/
import Derived.Test.YtnoplhjbachjiaaMgSpeak
namespace Go.Proofs.Ytnoplhjbachjiaa.Mg
open Go.ChangeShapes Go.WideShapes Go.ChangeAt Go.RowKit Go.Shelf Go.Proofs
set_option linter.unusedVariables false
set_option linter.unusedSimpArgs false

theorem below_drewN {B : Nat} {a w : World} (h : Below B a w) (n : Nat) : Below B a (w.drewN n) := h.trans ⟨rfl, rfl, rfl, Nat.le_refl _, fun _ _ => rfl⟩
theorem RowI.reads {w : World} {B : Nat} {o : List Int} (h : RowI w B o) : Reads w (some ⟨B, 0, none⟩) o := fun j hj => ⟨B, 0, rfl, by rw [Nat.zero_add]; exact (h.cell j hj).1⟩

set_option maxHeartbeats 2000000 in
theorem cost_calls (A1 A2 : Option Addr) (c1 c2 : Nat) (cs ls : List Int) (w : World) (h1 : Reads w A1 cs) (h2 : Reads w A2 ls) (hn : cs.length = ls.length) (hl : cs.length ≤ 288) (hc : ∀ x ∈ cs, 0 ≤ x ∧ x ≤ 1099511627776) (hx : ∀ x ∈ ls, 0 ≤ x ∧ x ≤ 100) :
    Calls Try.prog 10 #[.slice A1 cs.length c1, .slice A2 ls.length c2] w fun e w' => e = .returned (.int .i64 (costP cs ls)) ∧ Below w.heap.size w w' := by
  have H1 := Lib.hid h1
  have H2 := Lib.hid h2
  have HN := Lib.hid hn
  have HC := Lib.hid hc
  have HX := Lib.hid hx
  rw [← hn]
  obtain ⟨n, hnn⟩ : ∃ n, cs.length = n := ⟨_, rfl⟩
  rw [hnn] at hl ⊢
  have HNN := Lib.hid hnn
  clear h1 h2 hn hc hx hnn
  have hmin : min (n : Int) (n : Int) = n := by omega
  go_enter Try.func10, Try.ntmps10
  go_wp2
  go_loopw [5, 12] (fun s i wr => ∃ k : Nat, k ≤ n ∧ s = .int .i64 (costTo cs ls k) ∧ i = .int .i64 k ∧ Below w.heap.size w wr) (fun _ i _ => n - (intOf i).toNat)
  case atStart => exact ⟨0, Nat.zero_le _, by simp [costTo, costP], rfl, Below.refl _ _⟩
  case round =>
    obtain ⟨k, hk, rfl, rfl, hb⟩ := hrel
    have HB := Lib.hid hb
    clear hb
    by_cases hlt : k < n
    · have q1 : decide ((k : Int) < (n : Int)) = true := decide_eq_true (by omega)
      have k1 : k < cs.length := by rw [HNN.out]; exact hlt
      have k2 : k < ls.length := by rw [← HN.out]; exact k1
      obtain ⟨g1, o1, rfl, e1⟩ := H1.out k k1
      obtain ⟨g2, o2, rfl, e2⟩ := H2.out k k2
      have d1 := (HB.out.cell (World.block_lt_of_cell? w _ e1)).trans e1
      have d2 := (HB.out.cell (World.block_lt_of_cell? w _ e2)).trans e2
      have b1 := costTo_bound cs ls HC.out HX.out HN.out k (by omega)
      have b2 := costTo_bound cs ls HC.out HX.out HN.out (k + 1) (by omega)
      have hs := costTo_succ cs ls k k1 k2
      have hc1 := HC.out cs[k] (List.getElem_mem _)
      have hx1 := HX.out ls[k] (List.getElem_mem _)
      obtain ⟨x, hx⟩ : ∃ x, cs[k] = x := ⟨_, rfl⟩
      obtain ⟨y, hy⟩ : ∃ y, ls[k] = y := ⟨_, rfl⟩
      rw [hx] at d1 hs hc1
      rw [hy] at d2 hs hx1
      have hm0 : 0 ≤ x * y := Int.mul_nonneg hc1.1 hx1.1
      have hm1 : x * y ≤ 1099511627776 * 100 := Int.mul_le_mul hc1.2 hx1.2 hx1.1 (by omega)
      obtain ⟨p, hp⟩ : ∃ p, x * y = p := ⟨_, rfl⟩
      rw [hp] at hs hm0 hm1
      have w1 : IntKind.i64.wrap (x * y) = p := by rw [hp, IntKind.wrap_i64]; omega
      obtain ⟨s, hse⟩ : ∃ s, costTo cs ls k = s := ⟨_, rfl⟩
      rw [hse] at hs b1 ⊢
      have w2 : IntKind.i64.wrap (s + p) = s + p := by rw [IntKind.wrap_i64]; omega
      have HS := Lib.hid hs
      clear e1 e2 b1 b2 hs hx hy hm0 hm1 hp hse
      go_wp2_with fail
      go_quiet (fail)
      go_wp2
      go_roundw
      case rel => exact ⟨k + 1, by omega, by rw [HS.out], by go_num, below_drewN HB.out _⟩
      case measure => simp [intOf]; omega
    · obtain rfl : k = n := by omega
      have q1 : decide ((k : Int) < (k : Int)) = false := decide_eq_false (by omega)
      have HT := Lib.hid (costTo_all cs ls HN.out)
      go_wp2
      go_ret
      exact ⟨by rw [← HT.out, HNN.out] <;> rfl, HB.out⟩

def comeN (cs : List Int) : Nat := (usedL cs).length
theorem comeN_idx (cs : List Int) : comeN cs = (idxTo cs cs.length).length := by unfold comeN usedL; rw [List.length_mergeSort]

set_option maxHeartbeats 2000000 in
theorem come_calls (A : Option Addr) (c : Nat) (cs : List Int) (w : World) (hA : Reads w A cs) (hl : cs.length ≤ 140737488351232) :
    Calls Try.prog 8 #[.slice A cs.length c] w fun e w' => e = .returned (.int .i64 (comeN cs)) ∧ w' = w := by
  have HA := Lib.hid hA
  obtain ⟨n, hn⟩ : ∃ n, cs.length = n := ⟨_, rfl⟩
  have HN := Lib.hid hn
  have HI := Lib.hid (comeN_idx cs)
  rw [hn] at hl ⊢
  clear hA hn
  go_enter Try.func8, Try.ntmps8
  go_wp2
  go_loop [3, 4] (fun s i => ∃ k : Nat, k ≤ n ∧ s = .int .i64 ((idxTo cs k).length : Nat) ∧ i = .int .i64 k) (fun _ i => n - (intOf i).toNat)
  case atStart => exact ⟨0, Nat.zero_le _, rfl, rfl⟩
  case round =>
    obtain ⟨k, hk, rfl, rfl⟩ := hrel
    have hil := idx_len cs k
    by_cases hlt : k < n
    · have q1 : decide ((k : Int) < (n : Int)) = true := decide_eq_true (by omega)
      have k1 : k < cs.length := by rw [HN.out]; exact hlt
      obtain ⟨g, o, rfl, hcell⟩ := HA.out k k1
      by_cases hp : 0 < cs[k]
      · have t1 : decide (0 < cs[k]) = true := decide_eq_true hp
        have HI2 : Hid ((idxTo cs (k + 1)).length = (idxTo cs k).length + 1) := Lib.hid (by
          conv => lhs; unfold idxTo
          rw [dif_pos k1, if_pos hp, List.length_append]
          rfl)
        obtain ⟨x, hx⟩ : ∃ x, cs[k] = x := ⟨_, rfl⟩
        rw [hx] at hcell t1
        obtain ⟨m, hm⟩ : ∃ m, (idxTo cs k).length = m := ⟨_, rfl⟩
        rw [hm] at hil HI2 ⊢
        clear hp hx hm
        go_wp2
        go_round
        case rel => exact ⟨k + 1, by omega, by rw [HI2.out]; go_num, by go_num⟩
        case measure => simp [intOf]; omega
      · have t1 : decide (0 < cs[k]) = false := decide_eq_false hp
        have HI2 : Hid ((idxTo cs (k + 1)).length = (idxTo cs k).length) := Lib.hid (by
          conv => lhs; unfold idxTo
          rw [dif_pos k1, if_neg hp])
        obtain ⟨x, hx⟩ : ∃ x, cs[k] = x := ⟨_, rfl⟩
        rw [hx] at hcell t1
        clear hp hx
        go_wp2
        go_round
        case rel => exact ⟨k + 1, by omega, by rw [HI2.out], by go_num⟩
        case measure => simp [intOf]; omega
    · obtain rfl : k = n := by omega
      have q1 : decide ((k : Int) < (k : Int)) = false := decide_eq_false (by omega)
      go_wp2
      go_ret
      have e0 : (idxTo cs k).length = (idxTo cs cs.length).length := congrArg (fun j => (idxTo cs j).length) HN.out.symm
      have e : ((idxTo cs k).length : Int) = (comeN cs : Int) := by rw [HI.out, e0]
      exact ⟨congrArg (fun x => Ending.returned (Value.int .i64 x)) e, rfl⟩

/-- What 'Lengths' answers. -/
def LenAns (w w' : World) (cs : List Int) (most : Int) (v : Value) (e : Int) : Prop :=
  (badArg cs most = true ∧ v = .slice none 0 0 ∧ e = 1) ∨ (badArg cs most = false ∧ (2 : Int) ^ most.toNat < comeN cs ∧ v = .slice none 0 0 ∧ e = 11) ∨
  (badArg cs most = false ∧ (comeN cs : Int) ≤ (2 : Int) ^ most.toNat ∧ e = 0 ∧ ∃ B, v = .slice (some ⟨B, 0, none⟩) cs.length cs.length ∧ RowI w' B (lensP cs most) ∧ w.heap.size ≤ B)

theorem lengths_any (A : Option Addr) (c : Nat) (cs : List Int) (most : Int) (w : World) (hA : Reads w A cs) (hl : cs.length ≤ 140737488351232) :
    Calls Try.prog 7 #[.slice A cs.length c, .int .i64 most] w fun e w' => ∃ v x, e = .returned (.tuple #[v, .int .i64 x]) ∧ Below w.heap.size w w' ∧ LenAns w w' cs most v x := by
  cases hb : badArg cs most with
  | true =>
    refine (lengths_bad A c cs most w hA hl hb).mono ?_
    rintro e w' ⟨rfl, rfl⟩
    exact ⟨_, _, rfl, Below.refl _ _, .inl ⟨hb, rfl, rfl⟩⟩
  | false =>
    by_cases hm : (2 : Int) ^ most.toNat < (usedL cs).length
    · refine (lengths_limit A c cs most w hA hb hm).mono ?_
      rintro e w' ⟨rfl, h2⟩
      exact ⟨_, _, rfl, h2, .inr (.inl ⟨hb, hm, rfl, rfl⟩)⟩
    · have hm' : ((usedL cs).length : Int) ≤ (2 : Int) ^ most.toNat := by omega
      by_cases hN : (usedL cs).length < 2
      · refine (lengths_few A c cs most w hA hb hN hm').mono ?_
        rintro e w' ⟨B, rfl, h2, h3, h4⟩
        exact ⟨_, _, rfl, h2, .inr (.inr ⟨hb, hm', rfl, B, rfl, h3, h4⟩)⟩
      · refine (lengths_many A c cs most w hA hb (by omega) hm').mono ?_
        rintro e w' ⟨B, rfl, h2, h3, h4⟩
        exact ⟨_, _, rfl, h2, .inr (.inr ⟨hb, hm', rfl, B, rfl, h3, h4⟩)⟩

theorem comeN4 : comeN [1, 1, 2, 4] = 4 := by unfold comeN; rw [usedL4]; rfl
theorem bad4 : badArg [1, 1, 2, 4] 3 = false := by decide

theorem four_cells (w : World) (a b c d : Value) (t : TypeId) : ∀ j (h : j < 4), (w.alloc (.cells #[a, b, c, d] t)).cell? ⟨w.heap.size, j, none⟩ = some (if j = 0 then a else if j = 1 then b else if j = 2 then c else d) := by
  intro j hj
  simp only [World.cell?]
  rw [heap_new]
  rcases j with _ | _ | _ | _ | j
  · rfl
  · rfl
  · rfl
  · rfl
  · omega
theorem reads4 (w : World) : Reads (w.alloc (.cells #[.int .i64 1, .int .i64 1, .int .i64 2, .int .i64 4] 3)) (some ⟨w.heap.size, 0, none⟩) [1, 1, 2, 4] := fun j hj => by
  have hj' : j < 4 := by simpa using hj
  refine ⟨_, 0, rfl, ?_⟩
  rw [Nat.zero_add, four_cells w _ _ _ _ _ j hj']
  rcases j with _ | _ | _ | _ | j
  · rfl
  · rfl
  · rfl
  · rfl
  · omega

theorem len4_calls (w : World) : Calls Try.prog 7 #[.slice (some ⟨w.heap.size, 0, none⟩) 4 4, .int .i64 3] (w.alloc (.cells #[.int .i64 1, .int .i64 1, .int .i64 2, .int .i64 4] 3)) fun e w' => ∃ B, e = .returned (.tuple #[.slice (some ⟨B, 0, none⟩) 4 4, .int .i64 0]) ∧ RowI w' B [3, 3, 2, 1] ∧ Below w.heap.size w w' := by
  refine (lengths_any (some ⟨w.heap.size, 0, none⟩) 4 [1, 1, 2, 4] 3 _ (reads4 w) (by decide)).mono ?_
  rintro e w' ⟨v, x, rfl, hb, ha⟩
  have hsz : (w.alloc (.cells #[.int .i64 1, .int .i64 1, .int .i64 2, .int .i64 4] 3)).heap.size = w.heap.size + 1 := by
    show (Array.push _ _).size = _
    simp
  have hB : Below w.heap.size w w' := ((Below.refl _ _).alloc (Nat.le_refl _) _).trans (hb.mono (by rw [hsz]; omega))
  rcases ha with ⟨h, _⟩ | ⟨_, h, _⟩ | ⟨_, _, rfl, B, rfl, hr, _⟩
  · rw [bad4] at h; cases h
  · rw [comeN4] at h; exact absurd h (by decide)
  · rw [lens4] at hr
    exact ⟨B, rfl, hr, hB⟩

set_option maxHeartbeats 2000000 in
theorem speaks_calls (w : World) : Calls Try.prog 6 #[] w fun e w' => e = .returned (.bool true) ∧ Below w.heap.size w w' := by
  have HL := Lib.hid (len4_calls w)
  go_enter Try.func6, Try.ntmps6
  go_wp2_with (first | (go_at_call 7; refine HL.out.mono ?_; rintro e w1 ⟨B, rfl, hr, hb⟩; have HB1 := Lib.hid hb; have HR1 := Lib.hid hr; have c0 := (hr.cell 0 (by decide)).1; have c1 := (hr.cell 1 (by decide)).1; have c2 := (hr.cell 2 (by decide)).1; have c3 := (hr.cell 3 (by decide)).1; simp only [List.getElem_cons_zero, List.getElem_cons_succ] at c0 c1 c2 c3; clear hr hb; have HR2 : Hid (RowI (w1.alloc (.cells #[.int .i64 1, .int .i64 1, .int .i64 2, .int .i64 4] 3)) B [3, 3, 2, 1]) := Lib.hid (HR1.out.below ((Below.refl _ _).alloc (Nat.le_refl _) _)); have HB2 : Hid (Below w.heap.size w (w1.alloc (.cells #[.int .i64 1, .int .i64 1, .int .i64 2, .int .i64 4] 3))) := Lib.hid (HB1.out.alloc HB1.out.size _)) | (go_at_call 10; refine (cost_calls _ (some ⟨B, 0, none⟩) 4 4 [1, 1, 2, 4] [3, 3, 2, 1] _ (reads4 w1) HR2.out.reads rfl (by decide) (by decide) (by decide)).mono ?_; rintro e w2 ⟨rfl, hb2⟩))
  go_ret
  exact ⟨rfl, HB2.out.trans (hb2.mono HB2.out.size)⟩

end Go.Proofs.Ytnoplhjbachjiaa.Mg
