/-
  Merge: 'Lengths' of counts that may not be, and of fewer than two symbols.
-/
import Derived.Test.YtnoplhjbachjiaaMgOut
namespace Go.Proofs.Ytnoplhjbachjiaa.Mg
open Go.ChangeShapes Go.WideShapes Go.ChangeAt Go.RowKit Go.Shelf Go.Proofs
set_option linter.unusedVariables false
set_option linter.unusedSimpArgs false

set_option maxHeartbeats 2000000 in
theorem lengths_bad (A : Option Addr) (c : Nat) (cs : List Int) (most : Int) (w : World) (hA : Reads w A cs) (hl : cs.length ≤ 140737488351232) (hb : badArg cs most = true) :
    Calls Try.prog 7 #[.slice A cs.length c, .int .i64 most] w fun e w' => e = .returned (.tuple #[.slice none 0 0, .int .i64 1]) ∧ w' = w := by
  have HA := Lib.hid hA
  clear hA
  go_enter Try.func7, Try.ntmps7
  go_wp2_with (go_at_call 12; refine (wrong_bad A c cs most _ HA.out hl hb).mono ?_; rintro e w' ⟨rfl, rfl⟩)
  go_ret2
  exact ⟨rfl, rfl⟩

set_option maxHeartbeats 2000000 in
theorem lengths_limit (A : Option Addr) (c : Nat) (cs : List Int) (most : Int) (w : World) (hA : Reads w A cs) (hb : badArg cs most = false) (hm : (2 : Int) ^ most.toNat < (usedL cs).length) :
    Calls Try.prog 7 #[.slice A cs.length c, .int .i64 most] w fun e w' => e = .returned (.tuple #[.slice none 0 0, .int .i64 11]) ∧ Below w.heap.size w w' := by
  have HA := Lib.hid hA
  have hE : wrongE cs most = 11 := by unfold wrongE; rw [if_neg (by rw [hb]; simp), if_pos hm]
  have HM := Lib.hid hm
  clear hA hm
  go_enter Try.func7, Try.ntmps7
  go_wp2_with (go_at_call 12; refine (wrong_fine A c cs most _ HA.out hb).mono ?_; rintro e w' ⟨rfl, hb2⟩; rw [hE])
  go_ret2
  exact ⟨rfl, hb2⟩

theorem Reads.below {w w' : World} {A : Option Addr} {cs : List Int} (h : Reads w A cs) (hb : Below w.heap.size w w') : Reads w' A cs := fun j hj => by
  obtain ⟨g, o, e, hc⟩ := h j hj
  exact ⟨g, o, e, (hb.cell (World.block_lt_of_cell? w _ hc)).trans hc⟩

/-- The order as it lies: in a block from b on. -/
def OrdAt (w : World) (b : Nat) (A : Option Addr) (ord : List Nat) : Prop := ∀ j (h : j < ord.length), ∃ g, A = some ⟨g, 0, none⟩ ∧ b ≤ g ∧ g < w.heap.size ∧ w.cell? ⟨g, j, none⟩ = some (.int .i64 (ord[j] : Nat))
theorem OrdAt.of {w w' : World} {A : Option Addr} {cs : List Int} (h : ∀ j (h : j < (usedL cs).length), ∃ g', A = some ⟨g', 0, none⟩ ∧ w.heap.size ≤ g' ∧ w'.cell? ⟨g', j, none⟩ = some (encP (usedL cs)[j])) : OrdAt w' w.heap.size A (ordP cs) := fun j hj => by
  rw [ordP_len] at hj
  obtain ⟨g, e, hb, hc⟩ := h j hj
  refine ⟨g, e, hb, World.block_lt_of_cell? w' _ hc, ?_⟩
  rw [hc, ordP_get cs j hj]
  have := (usedL cs)[j].2
  unfold encP
  rw [Int.toNat_of_nonneg this.1]
theorem OrdAt.far {w w' : World} {b B : Nat} {A : Option Addr} {ord : List Nat} (h : OrdAt w b A ord) (hg : w.grownBy w' (some B)) (hB : B < b) : OrdAt w' b A ord := fun j hj => by
  obtain ⟨g, e, hb, hl, hc⟩ := h j hj
  refine ⟨g, e, hb, Nat.lt_of_lt_of_le hl hg.size, (hg.cell_far ⟨g, j, none⟩ hl ?_).trans hc⟩
  intro e2
  have e3 : g = B := Option.some.inj e2
  omega

theorem info_int : (Try.prog.info? 3).map (fun i => (i.zero, i.size, i.bytes)) = some (some (.int .i64 0), 1, 8) := by kernel_rfl

set_option maxHeartbeats 4000000 in
set_option maxRecDepth 200000 in
theorem lengths_few (A : Option Addr) (c : Nat) (cs : List Int) (most : Int) (w : World) (hA : Reads w A cs) (hb : badArg cs most = false) (hN : (usedL cs).length < 2) (hm : ((usedL cs).length : Int) ≤ (2 : Int) ^ most.toNat) :
    Calls Try.prog 7 #[.slice A cs.length c, .int .i64 most] w fun e w' => ∃ B, e = .returned (.tuple #[.slice (some ⟨B, 0, none⟩) cs.length cs.length, .int .i64 0]) ∧ Below w.heap.size w w' ∧ RowI w' B (lensP cs most) ∧ w.heap.size ≤ B := by
  have HA := Lib.hid hA
  obtain ⟨h1, h2, h3, h4⟩ := badArg_facts hb
  have hE : wrongE cs most = 0 := by unfold wrongE; rw [if_neg (by rw [hb]; simp), if_neg (by omega)]
  have HBA := Lib.hid hb
  obtain ⟨n, hn⟩ : ∃ n, cs.length = n := ⟨_, rfl⟩
  obtain ⟨N, hNN⟩ : ∃ N, (usedL cs).length = N := ⟨_, rfl⟩
  obtain ⟨i0, hi, hz0, hz1, hz2⟩ := info_parts info_int
  have hmk : ∀ W : World, (Instr.makeSlice 22 (.int .i64 n) (.int .i64 n)).run Try.prog W = .ok (.slice (some ⟨W.heap.size, 0, none⟩) n n) (W.alloc (.cells (cellsI (List.replicate n 0)) 3)) := fun W => by
    have := run_make (P := Try.prog) W 22 3 i0 (.int .i64 0) Try.underlying22 hi hz0 .i64 .i64 n n (by omega) (by omega) (by rw [hz2]; omega) (by omega)
    rw [← made_cells]
    simpa [hz1, Value.cells] using this
  have HLP : Hid (lensP cs most = (ordP cs).foldl (fun o s => o.set s 1) (List.replicate n 0)) := Lib.hid (by unfold lensP; rw [if_pos hN, hn])
  have HOL : Hid ((ordP cs).length = N) := Lib.hid (by rw [ordP_len, hNN])
  have HCL := Lib.hid hn
  have HNL := Lib.hid hNN
  have HWR := Lib.hid (fun W (hW : Reads W A cs) => wrong_fine A c cs most W hW hb)
  have HUS := Lib.hid (fun W (hW : Reads W A cs) => used_any A c cs W (by omega) hW)
  rw [hn] at HWR HUS ⊢
  rw [hNN] at hm hN
  have HMM := Lib.hid hm
  have t1 : decide ((N : Int) < 2) = true := decide_eq_true (by omega)
  have HMK := Lib.hid hmk
  clear hA hb hm h3 h4 h2 hi hz0 hz1 hz2 hn hNN hmk
  go_enter Try.func7, Try.ntmps7
  go_wp2_with (first | (go_at_call 12; refine (HWR.out _ HA.out).mono ?_; rintro e w1 ⟨rfl, hb1⟩; rw [hE]; have HB1 := Lib.hid hb1; have hmk1 := HMK.out w1; clear hb1) | (go_at_call 13; have hRD : Reads (w1.alloc (.cells (cellsI (List.replicate n 0)) 3)) A cs := (HA.out.below HB1.out).below ((Below.refl _ _).alloc (Nat.le_refl _) _); refine (HUS.out _ hRD).mono ?_; rintro e w2 ⟨A2, cap2, rfl, hb2, hc2⟩; rw [HNL.out]))
  have hor := OrdAt.of hc2
  have hsz : (w1.alloc (.cells (cellsI (List.replicate n 0)) 3)).heap.size = w1.heap.size + 1 := by
    show (Array.push _ _).size = _
    simp
  rw [hsz] at hor
  have hrow : RowI w2 w1.heap.size (List.replicate n 0) := RowI.below (w := w1.alloc (.cells (cellsI (List.replicate n 0)) 3)) (heap_new w1 _) hb2
  have HR2 := Lib.hid hrow
  have HO2 := Lib.hid hor
  have HB2 : Hid (Below w1.heap.size w1 w2) := Lib.hid (((Below.refl _ _).alloc (Nat.le_refl _) _).trans (hb2.mono (by rw [hsz]; omega)))
  clear hc2 hor hb2 hrow hRD hsz
  go_loopw [35] (fun i wr => ∃ k : Nat, k ≤ N ∧ i = .int .i64 k ∧ RowI wr w1.heap.size (((ordP cs).take k).foldl (fun o s => o.set s 1) (List.replicate n 0)) ∧ w2.grownBy wr (some w1.heap.size)) (fun i _ => N - (intOf i).toNat)
  case atStart => exact ⟨0, Nat.zero_le _, rfl, HR2.out, World.grownBy.refl _ _⟩
  case round =>
    obtain ⟨k, hk, rfl, hrow, hg⟩ := hrel
    have HR := Lib.hid hrow
    have HG := Lib.hid hg
    have HO := Lib.hid (HO2.out.far hg (Nat.lt_succ_self _))
    clear hrow hg
    by_cases hlt : k < N
    · have q1 : decide ((k : Int) < (N : Int)) = true := decide_eq_true (by omega)
      have hk' : k < (ordP cs).length := by rw [HOL.out]; exact hlt
      obtain ⟨g, hAg, hbg, hlg, hcell⟩ := HO.out k hk'
      subst hAg
      have hs : (ordP cs)[k] < n := by rw [← HCL.out]; exact ordP_lt cs _ (List.getElem_mem _)
      have htk : (ordP cs).take (k + 1) = (ordP cs).take k ++ [(ordP cs)[k]] := List.take_succ_eq_append_getElem hk'
      obtain ⟨s, hse⟩ : ∃ s, (ordP cs)[k] = s := ⟨_, rfl⟩
      rw [hse] at hcell hs htk
      obtain ⟨o, ho⟩ : ∃ o, ((ordP cs).take k).foldl (fun o s => o.set s 1) (List.replicate n (0 : Int)) = o := ⟨_, rfl⟩
      have hol : o.length = n := by rw [← ho, set_len]; simp
      have hnx : ((ordP cs).take (k + 1)).foldl (fun o s => o.set s 1) (List.replicate n (0 : Int)) = o.set s 1 := by rw [htk, List.foldl_append, ho]; rfl
      rw [ho] at HR
      have hso : s < o.length := by rw [hol]; exact hs
      obtain ⟨hc1, hf1⟩ := HR.out.cell s hso
      have hlB : w1.heap.size < wr.heap.size := (Array.getElem?_eq_some_iff.1 HR.out).1
      have HN := Lib.hid hnx
      clear hse htk ho hol hnx
      go_wp2
      go_roundw
      case rel => exact ⟨k + 1, by omega, by go_num, by rw [HN.out]; exact HR.out.set s 1, HG.out.trans (grown_set _ _ _ _)⟩
      case measure => simp [intOf]; omega
    · obtain rfl : k = N := by omega
      have q1 : decide ((k : Int) < (k : Int)) = false := decide_eq_false (by omega)
      have HL2 : Hid (RowI wr w1.heap.size (lensP cs most)) := Lib.hid (by
        rw [HLP.out]
        have : (ordP cs).take k = ordP cs := List.take_of_length_le (by rw [HOL.out]; exact Nat.le_refl _)
        rw [this] at HR
        exact HR.out)
      have hlB : Hid (w1.heap.size ≤ w2.heap.size) := Lib.hid HB2.out.size
      go_wp2
      go_ret2
      exact ⟨_, rfl, (HB1.out.trans (HB2.out.mono HB1.out.size)).grown HG.out (Nat.le_trans HB1.out.size hlB.out) (fun r e => by cases e; exact HB1.out.size), HL2.out, HB1.out.size⟩

end Go.Proofs.Ytnoplhjbachjiaa.Mg
