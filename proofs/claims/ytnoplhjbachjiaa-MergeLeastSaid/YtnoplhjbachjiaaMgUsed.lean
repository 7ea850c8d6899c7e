/-
  Merge: the symbols that come, the rarest first.
-/
import Derived.Test.YtnoplhjbachjiaaMgUsed1
import Derived.Shelf.SlSortCmp.NoneTotal
import Derived.Deep.AppendLies
import Derived.OwnWalk
namespace Go.Proofs.Ytnoplhjbachjiaa.Mg
open Go.ChangeShapes Go.WideShapes Go.ChangeAt Go.RowKit Go.Shelf Go.Proofs
set_option linter.unusedVariables false
set_option linter.unusedSimpArgs false

/-- A place among n. -/
abbrev Pl (n : Nat) := { x : Int // 0 ≤ x ∧ x < n }
instance {n : Nat} [h : NeZero n] : Inhabited (Pl n) := ⟨⟨0, Int.le_refl _, by have := h.out; omega⟩⟩

def ct (cs : List Int) (x : Int) : Int := cs.getD x.toNat 0
def cfU (cs : List Int) (x y : Pl cs.length) : Int := or2 (Lib.compareInt (ct cs x.1) (ct cs y.1)) (Lib.compareInt y.1 x.1)
theorem cf_neg (cs : List Int) (x y : Pl cs.length) : ltOf (cfU cs) x y = decide (ct cs x.1 < ct cs y.1 ∨ (ct cs x.1 = ct cs y.1 ∧ y.1 < x.1)) := by
  show decide (cfU cs x y < 0) = _
  congr 1
  apply propext
  unfold cfU or2 Lib.compareInt
  split <;> rename_i h <;> (repeat (split at h)) <;> (repeat split) <;> omega

theorem swoU (cs : List Int) : Sort.SWO (ltOf (cfU cs)) := by
  constructor
  · intro x
    rw [cf_neg]
    exact decide_eq_false (by omega)
  · intro x y u h1 h2
    rw [cf_neg] at *
    have h1 := of_decide_eq_true h1
    have h2 := of_decide_eq_true h2
    exact decide_eq_true (by omega)
  · intro x y u h1 h2
    rw [cf_neg] at *
    have h1 := of_decide_eq_false h1
    have h2 := of_decide_eq_false h2
    exact decide_eq_false (by omega)

theorem totU (cs : List Int) (x y : Pl cs.length) (h1 : ltOf (cfU cs) x y = false) (h2 : ltOf (cfU cs) y x = false) : x = y := by
  rw [cf_neg] at *
  have h1 := of_decide_eq_false h1
  have h2 := of_decide_eq_false h2
  exact Subtype.ext (by omega)

/-- The places below k whose counts are above 0. -/
def idxTo (cs : List Int) : Nat → List (Pl cs.length)
  | 0 => []
  | k + 1 => if h : k < cs.length then (if 0 < cs[k] then idxTo cs k ++ [⟨(k : Int), by omega⟩] else idxTo cs k) else idxTo cs k

def usedL (cs : List Int) : List (Pl cs.length) := (idxTo cs cs.length).mergeSort fun x y => !(ltOf (cfU cs)) y x

theorem idx_len (cs : List Int) : ∀ k, (idxTo cs k).length ≤ k
  | 0 => Nat.le_refl _
  | k + 1 => by
    have := idx_len cs k
    unfold idxTo
    split
    · split
      · rw [List.length_append]; simp; omega
      · omega
    · omega

theorem own_slice {w : World} {base : Nat} {e : TypeId} {size : Nat} {v : Value} {n : Nat} {xs : List Value} (h : w.ownsRow base e size v n xs) : ∃ A c, v = .slice A n c := by
  obtain ⟨_, ⟨rfl, rfl⟩ | ⟨g, cap, cur, rfl, _⟩⟩ := h
  · exact ⟨none, 0, rfl⟩
  · exact ⟨_, _, rfl⟩

theorem run_enter {P : Program} {f : FuncId} {fn : Func} (hf : P.funcs[f]? = some fn) (hname : (fn.name == "runtime.NumGoroutine") = false) (hb : fn.body.isSome = true) (args : Array Value) (w : World) :
    (callFunc f args).run P w = .ok (.enter f args) w := by
  have h1 : fn.name ≠ "runtime.NumGoroutine" := by simpa using hname
  obtain ⟨c, hc⟩ := Option.isSome_iff_exists.1 hb
  simp [callFunc, hf, h1, hc]

def encP {n : Nat} (x : Pl n) : Value := .int .i64 x.1

noncomputable def ti : TypeInfo := (Try.prog.info? 3).get (by kernel_rfl)

set_option maxHeartbeats 4000000 in
set_option maxRecDepth 200000 in
theorem used_calls (g o c : Nat) (cs : List Int) (w : World) (hlen : cs.length ≤ 1000) (hA : ∀ j (h : j < cs.length), w.cell? ⟨g, o + j, none⟩ = some (.int .i64 cs[j])) (h0 : 0 < cs.length) :
    Calls Try.prog 13 #[.slice (some ⟨g, o, none⟩) cs.length c] w fun e w' => ∃ (A : Option Addr) (cap : Nat), e = .returned (.slice A (usedL cs).length cap) ∧ Below w.heap.size w w' ∧
      ∀ j (h : j < (usedL cs).length), ∃ g', A = some ⟨g', 0, none⟩ ∧ w.heap.size ≤ g' ∧ w'.cell? ⟨g', j, none⟩ = some (encP (usedL cs)[j]) := by
  have hi : Try.prog.info? 3 = some ti := by kernel_rfl
  have hz0 : ti.zero = some (.int .i64 0) := by kernel_rfl
  have hz1 : ti.size = 1 := by kernel_rfl
  have hz2 : ti.bytes = 8 := by kernel_rfl
  have HB0 := Lib.hid ((Below.refl w.heap.size w).alloc (Nat.le_refl _) (.cells #[.slice (some ⟨g, o, none⟩) cs.length c] 22))
  have HC : Hid (∀ j (h : j < cs.length), (w.alloc (.cells #[.slice (some ⟨g, o, none⟩) cs.length c] 22)).cell? ⟨g, o + j, none⟩ = some (.int .i64 cs[j])) := Lib.hid (fun j h => (HB0.out.cell (World.block_lt_of_cell? w _ (hA j h))).trans (hA j h))
  have hw1 : (w.alloc (.cells #[.slice (some ⟨g, o, none⟩) cs.length c] 22)).heap.size = w.heap.size + 1 := by simp
  have cB : (w.alloc (.cells #[.slice (some ⟨g, o, none⟩) cs.length c] 22)).cell? ⟨w.heap.size, 0, none⟩ = some (.slice (some ⟨g, o, none⟩) cs.length c) := by
    simp only [World.cell?]
    rw [heap_new]
    rfl
  clear hA
  go_enter Try.func13, Try.ntmps13
  go_wp2
  obtain ⟨w1, hw⟩ : ∃ w1, w1 = w.alloc (.cells #[.slice (some ⟨g, o, none⟩) cs.length c] 22) := ⟨_, rfl⟩
  rw [← hw] at hw1 cB HC ⊢
  have HW := Lib.hid hw
  have HZ := Lib.hid hw1
  clear hw hw1
  go_loopw [3, 8] (fun v i wr => ∃ k : Nat, k ≤ cs.length ∧ i = .int .i64 k ∧ wr.ownsRow w1.heap.size 3 1 v (idxTo cs k).length ((idxTo cs k).map encP) ∧ Below w1.heap.size w1 wr) (fun _ i _ => cs.length - (intOf i).toNat)
  case atStart => exact ⟨0, Nat.zero_le _, rfl, World.ownsRow_nil _ _ _ _, Below.refl _ _⟩
  case round =>
    obtain ⟨k, hk, rfl, hown, hb⟩ := hrel
    have HB := Lib.hid hb
    have hB1 := hb.size
    have hil := idx_len cs k
    obtain ⟨A, c', rfl⟩ := own_slice hown
    clear hb
    by_cases hlt : k < cs.length
    · have q1 : decide ((k : Int) < (cs.length : Int)) = true := decide_eq_true (by omega)
      have hcell := (HB.out.cell (World.block_lt_of_cell? w1 _ (HC.out k hlt))).trans (HC.out k hlt)
      obtain ⟨x, hx⟩ : ∃ x, cs[k] = x := ⟨_, rfl⟩
      rw [hx] at hcell
      have HX := Lib.hid hx
      clear hx
      by_cases hp : 0 < x
      · have t1 : decide (0 < x) = true := decide_eq_true hp
        have HI : Hid (idxTo cs (k + 1) = idxTo cs k ++ [⟨(k : Int), by omega⟩]) := Lib.hid (by
          conv => lhs; unfold idxTo
          rw [dif_pos hlt, if_pos (by rw [HX.out]; exact hp)])
        clear hp
        go_wp2_with (at_builtin; refine wpList_append_own _ rfl _ _ 22 rfl w1.heap.size 3 ti (.int .i64 0) 1 8 Try.underlying22 hi hz0 hz1 hz2 rfl (by decide) _ _ _ rfl (hown.alloc _) ⟨wr.heap.size, 0, none⟩ 1 1 [.int .i64 k] rfl rfl ?c1 ?c2 ?c3 ?c4 ?c5 ?_)
        case c1 => exact cell_one_new _ _ _
        case c2 => simp [Value.oneCell']
        case c3 => unfold maxLen; omega
        case c4 => omega
        case c5 => simp; omega
        intro v' w2 hown1 hg1 _
        have HO : Hid (w2.ownsRow w1.heap.size 3 1 v' (idxTo cs (k + 1)).length ((idxTo cs (k + 1)).map encP)) := Lib.hid (by rw [HI.out, List.length_append, List.map_append]; exact hown1)
        have HB2 : Hid (Below w1.heap.size w1 w2) := Lib.hid ((HB.out.alloc hB1 _).grown hg1 (by simp; omega) (fun r e => (hown.lt r e).1))
        clear hown hown1 hg1
        go_wp2
        go_roundw
        case rel => exact ⟨k + 1, by omega, by go_num, HO.out, HB2.out⟩
        case measure => simp [intOf]; omega
      · have t1 : decide (0 < x) = false := decide_eq_false hp
        have HI : Hid (idxTo cs (k + 1) = idxTo cs k) := Lib.hid (by
          conv => lhs; unfold idxTo
          rw [dif_pos hlt, if_neg (by rw [HX.out]; exact hp)])
        have HO : Hid (wr.ownsRow w1.heap.size 3 1 (.slice A (idxTo cs k).length c') (idxTo cs (k + 1)).length ((idxTo cs (k + 1)).map encP)) := Lib.hid (by rw [HI.out]; exact hown)
        clear hp hown
        go_wp2
        go_roundw
        case rel => exact ⟨k + 1, by omega, by go_num, HO.out, HB.out⟩
        case measure => simp [intOf]; omega
    · obtain rfl : k = cs.length := by omega
      have q1 : decide ((cs.length : Int) < (cs.length : Int)) = false := decide_eq_false (by omega)
      by_cases hne : idxTo cs cs.length = []
      · have hln : (idxTo cs cs.length).length = 0 := by rw [hne]; rfl
        have HU : Hid (usedL cs = []) := Lib.hid (by unfold usedL; rw [hne]; simp)
        rw [hln]
        clear hne hown hil hln
        have hso := fun v W => AnyF.slices_SortFunc_none (P := Try.prog) { Try.laysSlF6_f24 with } A c' v W
        have HSO := Lib.hid hso
        clear hso
        go_wp2_with (go_at_call 24; refine (HSO.out _ _).mono ?_; rintro e w3 ⟨rfl, rfl⟩)
        go_ret
        refine ⟨A, c', by rw [HU.out] <;> rfl, HB0.out.trans (by rw [← HW.out]; exact HB.out.mono (by rw [HZ.out]; omega)), fun j h => ?_⟩
        rw [HU.out] at h
        cases h
      · have hpos : 0 < (idxTo cs cs.length).length := List.length_pos_iff.2 hne
        haveI : NeZero cs.length := ⟨by omega⟩
        obtain ⟨hxl, ⟨hh, h2⟩ | ⟨g', cap, cur, hh, hg, hcur, hnc, hcm, hsz, htk⟩⟩ := hown
        · omega
        injection hh with hh1 hh2 hh3
        subst hh1
        subst hh3
        have hH : Sort.Holds encP wr g' 0 (idxTo cs cs.length).toArray := fun j hj => by
          have hj' : j < (idxTo cs cs.length).length := by simpa using hj
          have hc : cur[j]? = some (encP (idxTo cs cs.length)[j]) := by
            have h1 : (cur.toList.take ((idxTo cs cs.length).length * 1))[j]? = some (encP (idxTo cs cs.length)[j]) := by rw [htk, List.getElem?_map, List.getElem?_eq_getElem hj']; rfl
            rw [List.getElem?_take, if_pos (by omega)] at h1
            simpa using h1
          constructor
          · rw [Nat.zero_add]
            simp only [World.cell?]
            rw [hcur]
            simp [hc, getElem!_pos, hj']
          · simp only [World.frozen?]
            rw [hcur]
            rfl
        have hblk : g' < wr.heap.size := (Array.getElem?_eq_some_iff.1 hcur).1
        have hUL : (usedL cs).length = (idxTo cs cs.length).length := by unfold usedL; rw [List.length_mergeSort]
        have hcB : ∀ (m : Nat) (os : Array Obj) (dk : Array (Pl cs.length)), dk.size = (idxTo cs cs.length).toArray.size → (sortWorld encP wr g' 0 m dk os).cell? ⟨w.heap.size, 0, none⟩ = some (.slice (some ⟨g, o, none⟩) cs.length c) := fun m os dk hd => by
          have l1 := World.block_lt_of_cell? w1 _ cB
          simp only at l1
          unfold sortWorld
          rw [Sort.cell?_grow _ _ _ (by simp; omega), Sort.cell?_putRow_other _ _ _ _ _ _ (.inl (by simp; omega)), Sort.cell?_ahead]
          exact (HB.out.cell l1).trans cB
        have hcC : ∀ (m : Nat) (os : Array Obj) (dk : Array (Pl cs.length)), dk.size = (idxTo cs cs.length).toArray.size → ∀ j (h : j < cs.length), (sortWorld encP wr g' 0 m dk os).cell? ⟨g, o + j, none⟩ = some (.int .i64 cs[j]) := fun m os dk hd j h => by
          have l1 := World.block_lt_of_cell? w1 _ (HC.out j h)
          simp only at l1
          unfold sortWorld
          rw [Sort.cell?_grow _ _ _ (by simp; omega), Sort.cell?_putRow_other _ _ _ _ _ _ (.inl (by simp; omega)), Sort.cell?_ahead]
          exact (HB.out.cell l1).trans (HC.out j h)
        have hcmp : CmpLays1 Try.prog 25 #[.pointer (some ⟨w.heap.size, 0, none⟩)] encP (cfU cs) g' 0 (idxTo cs cs.length).toArray.size wr := fun m os dk hd x y => by
          have kx : x.1.toNat < cs.length := by have := x.2; omega
          have ky : y.1.toNat < cs.length := by have := y.2; omega
          have ex : cs[x.1.toNat] = ct cs x.1 := by unfold ct; rw [List.getD_eq_getElem?_getD, List.getElem?_eq_getElem kx]; rfl
          have ey : cs[y.1.toNat] = ct cs y.1 := by unfold ct; rw [List.getD_eq_getElem?_getD, List.getElem?_eq_getElem ky]; rfl
          refine (used1_calls w.heap.size g o cs.length c x.1 y.1 (ct cs x.1) (ct cs y.1) _ (hcB m os dk hd) x.2 y.2 (by rw [← ex]; exact hcC m os dk hd _ kx) (by rw [← ey]; exact hcC m os dk hd _ ky)).mono ?_
          rintro e w' ⟨rfl, rfl⟩
          exact ⟨rfl, 1, _, Sort.alloc_eq_grow _ _⟩
        have hsf := Any.slices_SortFunc_total Try.laysSlF6_f24 encP (fun _ => rfl) (cfU cs) (swoU cs) 25 #[.pointer (some ⟨w.heap.size, 0, none⟩)] g' 0 c' (idxTo cs cs.length).toArray wr (fun args w => run_enter Try.func25 (by kernel_rfl) (by kernel_rfl) args w) hcmp hH hblk (by simp; omega) (totU cs)
        have hds : (idxTo cs cs.length).toArray.size = (idxTo cs cs.length).length := by simp
        rw [hds] at hsf
        have HSF := Lib.hid hsf
        have HH := Lib.hid hH
        have HK := Lib.hid hblk
        have HG := Lib.hid hg
        have HUL := Lib.hid hUL
        clear hsf hcmp hcC hcB hH hblk hcur htk hsz hcm hnc hxl hne hpos hg hUL hds
        go_wp2_with (go_at_call 24; refine HSF.out.mono ?_; rintro e w3 ⟨rfl, n3, os3, hw3⟩; have HW3 := Lib.hid hw3; clear hw3)
        go_ret
        refine ⟨some ⟨g', 0, none⟩, c', by rw [HUL.out] <;> rfl, HB0.out.trans ?_, fun j h => ⟨g', rfl, by have := HG.out; have := HZ.out; omega, ?_⟩⟩
        · rw [← HW.out]
          refine (HB.out.mono (by rw [HZ.out]; omega)).grown (row := some g') ?_ (by have := HB.out.size; have := HZ.out; omega) (fun k e => by cases e; have := HG.out; have := HZ.out; omega)
          rw [HW3.out]
          refine ⟨rfl, rfl, rfl, by simp [sortWorld, Sort.grow], fun k hk hne => ?_⟩
          unfold sortWorld
          rw [Sort.heap_grow_old _ _ (by simpa using hk)]
          have : g' ≠ k := fun e => hne (by rw [e])
          simp [Sort.putRow, Sort.mapBlock, Sort.ahead, Array.getElem?_modify, this]
        · have hj : j < (usedL cs).toArray.size := by simpa using h
          have h1 := (holds_sortWorld encP wr g' 0 n3 (idxTo cs cs.length).toArray (usedL cs).toArray os3 HK.out HH.out (by simp [HUL.out])) j hj
          rw [Nat.zero_add] at h1
          rw [HW3.out]
          refine h1.1.trans ?_
          simp [getElem!_pos, h]

end Go.Proofs.Ytnoplhjbachjiaa.Mg
