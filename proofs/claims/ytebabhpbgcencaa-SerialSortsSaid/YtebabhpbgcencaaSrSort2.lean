/-
  Serial: Sort's contract: far apart: none; else a permutation in order, in a block of its own.
-/
import Derived.Test.YtebabhpbgcencaaSrSort
import Derived.Test.YtebabhpbgcencaaSrSpeaks
namespace Go.Proofs.Ytebabhpbgcencaa.Sr
open Go.RowKit Go.Shelf Go.Proofs
set_option linter.unusedVariables false
set_option linter.unusedSimpArgs false

def lo (z : Int) (xs : List Int) (k : Nat) : Int := (xs.take k).foldl (fun a n => min a (gap z n)) 0
def hi (z : Int) (xs : List Int) (k : Nat) : Int := (xs.take k).foldl (fun a n => max a (gap z n)) 0
theorem lo_succ (z : Int) (xs : List Int) (k : Nat) (h : k < xs.length) : lo z xs (k + 1) = min (lo z xs k) (gap z xs[k]) := by
  unfold lo
  rw [List.take_succ_eq_append_getElem h, List.foldl_append]
  rfl
theorem hi_succ (z : Int) (xs : List Int) (k : Nat) (h : k < xs.length) : hi z xs (k + 1) = max (hi z xs k) (gap z xs[k]) := by
  unfold hi
  rw [List.take_succ_eq_append_getElem h, List.foldl_append]
  rfl
theorem lo_range (z : Int) (xs : List Int) : ∀ k, k ≤ xs.length → -2147483648 ≤ lo z xs k ∧ lo z xs k ≤ 0
  | 0, _ => by simp [lo]
  | k + 1, h => by
    have := lo_range z xs k (by omega)
    have hg := gap_range z xs[k]
    rw [lo_succ z xs k h]
    omega
theorem hi_range (z : Int) (xs : List Int) : ∀ k, k ≤ xs.length → 0 ≤ hi z xs k ∧ hi z xs k < 2147483648
  | 0, _ => by simp [hi]
  | k + 1, h => by
    have := hi_range z xs k (by omega)
    have hg := gap_range z xs[k]
    rw [hi_succ z xs k h]
    omega

def farB (z : Int) (xs : List Int) : Bool := decide (2147483648 ≤ hi z xs xs.length - lo z xs xs.length)

/-- The world with Sort's argument in a cell. -/
abbrev wl (w : World) (b o n c : Nat) : World := w.alloc (.cells #[.slice (some ⟨b, o, none⟩) n c] 29)

theorem wl_below (w : World) (b o n c : Nat) : Below w.heap.size w (wl w b o n c) := (Below.refl _ w).alloc (Nat.le_refl _) _

theorem cell_fresh (W : World) (v : Value) (t : TypeId) : (W.alloc (.cells #[v] t)).cell? ⟨W.heap.size, 0, none⟩ = some v := by
  simp only [World.cell?]
  rw [World.alloc_heap_new]
  rfl

theorem run_enter {P : Program} {f : FuncId} {fn : Func} (hf : P.funcs[f]? = some fn) (hname : (fn.name == "runtime.NumGoroutine") = false) (hb : fn.body.isSome = true) (args : Array Value) (w : World) :
    (callFunc f args).run P w = .ok (.enter f args) w := by
  have h1 : fn.name ≠ "runtime.NumGoroutine" := by simpa using hname
  obtain ⟨c, hc⟩ := Option.isSome_iff_exists.1 hb
  simp [callFunc, hf, h1, hc]

noncomputable def ti : TypeInfo := (Try.prog.info? 22).get (by kernel_rfl)

theorem clone_calls (b o c : Nat) (xs : List Int) (w : World) (h0 : 0 < xs.length) (h30 : xs.length ≤ 30) (hA : ∀ j (h : j < xs.length), w.cell? ⟨b, o + j, none⟩ = some (.int .u32 xs[j])) :
    Calls Try.prog 14 #[.slice (some ⟨b, o, none⟩) xs.length c] w fun e w' => ∃ g cap : Nat, e = .returned (.slice (some ⟨g, 0, none⟩) xs.length cap) ∧ w.heap.size ≤ g ∧ g < w'.heap.size ∧ Sort.Holds encU w' g 0 xs.toArray ∧ Below w.heap.size w w' := by
  refine (Try.slices_Clone ti (.int .u32 0) 1 4 (by kernel_rfl) (by kernel_rfl) (by kernel_rfl) (by kernel_rfl) rfl (by decide) Try.sizeOf22 b o xs.length c (xs.map (Value.int .u32)) w (by simp) (by unfold maxLen; omega) (by omega) (fun j u hj => ?_) (fun u hu => ?_)).mono ?_
  · rw [List.getElem?_map, Option.map_eq_some_iff] at hj
    obtain ⟨x, hx, rfl⟩ := hj
    obtain ⟨hl, rfl⟩ := List.getElem?_eq_some_iff.1 hx
    exact hA j hl
  · obtain ⟨x, _, rfl⟩ := List.mem_map.1 hu
    rfl
  · rintro e w' ⟨v, rfl, hr, hn, hb⟩
    obtain ⟨_, ⟨rfl, _⟩ | ⟨g, cap, cur, rfl, hg, hh, hnc, hcm, hsz, htk⟩⟩ := hr
    · exact absurd rfl hn
    refine ⟨g, cap, rfl, hg, (Array.getElem?_eq_some_iff.1 hh).1, fun j hj => ?_, hb⟩
    have hj' : j < xs.length := by simpa using hj
    have hc : cur[j]? = some (.int .u32 xs[j]) := by
      have h1 : (cur.toList.take (xs.length * 1))[j]? = some (.int .u32 xs[j]) := by rw [htk, List.getElem?_map, List.getElem?_eq_getElem hj']; rfl
      rw [List.getElem?_take, if_pos (by omega)] at h1
      simpa using h1
    constructor
    · rw [Nat.zero_add]
      simp only [World.cell?]
      rw [hh]
      simp [hc, encU, getElem!_pos, hj']
    · simp only [World.frozen?]
      rw [hh]
      rfl

set_option maxHeartbeats 1000000 in
set_option maxRecDepth 100000 in
theorem sort_far (b o c : Nat) (xs : List Int) (z : Int) (w : World) (hz : xs[0]? = some z) (h30 : xs.length ≤ 30) (hA : ∀ j (h : j < xs.length), w.cell? ⟨b, o + j, none⟩ = some (.int .u32 xs[j])) (hf : farB z xs = true) :
    Calls Try.prog 13 #[.slice (some ⟨b, o, none⟩) xs.length c] w fun e w' => e = .returned (.tuple #[.slice none 0 0, .bool false]) ∧ Below w.heap.size w w' := by
  obtain ⟨h0, hz0⟩ := List.getElem?_eq_some_iff.1 hz
  have q0 : decide ((xs.length : Int) = 0) = false := decide_eq_false (by omega)
  have q0' : ((xs.length : Int) == 0) = false := by rw [beq_eq_false_iff_ne]; omega
  have B1 := wl_below w b o xs.length c
  have c0 := cell_fresh w (.slice (some ⟨b, o, none⟩) xs.length c) 29
  have HC : Hid (∀ q j (h : j < xs.length), ((wl w b o xs.length c).drewN q).cell? ⟨b, o + j, none⟩ = some (.int .u32 xs[j])) := Lib.hid (fun q j h => by
    rw [World.cell?_drewN]
    exact (B1.cell (World.block_lt_of_cell? w _ (hA j h))).trans (hA j h))
  have HL : Hid (∀ q, ((wl w b o xs.length c).drewN q).cell? ⟨w.heap.size, 0, none⟩ = some (.slice (some ⟨b, o, none⟩) xs.length c)) := Lib.hid (fun q => by
    rw [World.cell?_drewN]
    exact c0)
  have HB := Lib.hid B1
  have HF := Lib.hid hf
  have HZ := Lib.hid hz0
  clear hA B1 c0 hf hz hz0
  go_enter Try.func13, Try.ntmps13
  go_wp2
  go_loopw [4, 5, 15] (fun a e i wr => ∃ k q : Nat, k ≤ xs.length ∧ a = .int .i64 (lo z xs k) ∧ e = .int .i64 (hi z xs k) ∧ i = .int .i64 k ∧ wr = (wl w b o xs.length c).drewN q) (fun _ _ i _ => xs.length - (intOf i).toNat)
  case atStart => exact ⟨0, 0, Nat.zero_le _, rfl, rfl, rfl, rfl⟩
  case round =>
    obtain ⟨k, q, hk, rfl, rfl, rfl, rfl⟩ := hrel
    have cl := HL.out q
    by_cases hlt : k < xs.length
    · have q1 : decide ((k : Int) < (xs.length : Int)) = true := decide_eq_true (by omega)
      have ck := HC.out q k hlt
      have cz := HC.out q 0 h0
      rw [HZ.out, Nat.add_zero] at cz
      have l1 := lo_succ z xs k hlt
      have l2 := hi_succ z xs k hlt
      obtain ⟨x, hx⟩ : ∃ x, x = xs[k] := ⟨_, rfl⟩
      rw [← hx] at ck l1 l2
      clear hx
      obtain ⟨W, hW⟩ : ∃ W, W = (wl w b o xs.length c).drewN q := ⟨_, rfl⟩
      rw [← hW] at cl ck cz ⊢
      have HW := Lib.hid hW
      clear hW
      go_wp2
      exact ⟨⟨k + 1, q, by omega, by rw [l1]; rfl, by rw [l2]; rfl, by go_num, HW.out⟩, by simp [intOf]; omega⟩
    · obtain rfl : k = xs.length := by omega
      have q1 : decide ((xs.length : Int) < (xs.length : Int)) = false := decide_eq_false (by omega)
      have r1 := lo_range z xs xs.length (Nat.le_refl _)
      have r2 := hi_range z xs xs.length (Nat.le_refl _)
      have f0 := HF.out
      unfold farB at f0
      obtain ⟨l, hl⟩ : ∃ l, l = lo z xs xs.length := ⟨_, rfl⟩
      obtain ⟨h, hh⟩ : ∃ h, h = hi z xs xs.length := ⟨_, rfl⟩
      rw [← hl, ← hh] at f0 ⊢
      rw [← hl] at r1
      rw [← hh] at r2
      clear hl hh
      have f1 := of_decide_eq_true f0
      go_wp2
      go_ret2
      exact ⟨rfl, (Below.refl _ _).trans ⟨rfl, rfl, rfl, HB.out.size, fun k hk => HB.out.block k hk⟩⟩

set_option maxHeartbeats 1000000 in
set_option maxRecDepth 100000 in
theorem sort_near (b o c : Nat) (xs : List Int) (z : Int) (w : World) (hz : xs[0]? = some z) (h30 : xs.length ≤ 30) (hA : ∀ j (h : j < xs.length), w.cell? ⟨b, o + j, none⟩ = some (.int .u32 xs[j])) (hf : farB z xs = false) :
    Calls Try.prog 13 #[.slice (some ⟨b, o, none⟩) xs.length c] w fun e w' => ∃ (g cap : Nat) (ys : List Int), e = .returned (.tuple #[.slice (some ⟨g, 0, none⟩) xs.length cap, .bool true]) ∧ ys.Perm xs ∧ (∀ i j (hi : i < ys.length) (hj : j < ys.length), i < j → gap z ys[i] ≤ gap z ys[j]) ∧ (∀ j (h : j < ys.length), w'.cell? ⟨g, 0 + j, none⟩ = some (.int .u32 ys[j])) ∧ Below w.heap.size w w' := by
  obtain ⟨h0, hz0⟩ := List.getElem?_eq_some_iff.1 hz
  have q0 : decide ((xs.length : Int) = 0) = false := decide_eq_false (by omega)
  have q0' : ((xs.length : Int) == 0) = false := by rw [beq_eq_false_iff_ne]; omega
  have B1 := wl_below w b o xs.length c
  have c0 := cell_fresh w (.slice (some ⟨b, o, none⟩) xs.length c) 29
  have HC : Hid (∀ q j (h : j < xs.length), ((wl w b o xs.length c).drewN q).cell? ⟨b, o + j, none⟩ = some (.int .u32 xs[j])) := Lib.hid (fun q j h => by
    rw [World.cell?_drewN]
    exact (B1.cell (World.block_lt_of_cell? w _ (hA j h))).trans (hA j h))
  have HL : Hid (∀ q, ((wl w b o xs.length c).drewN q).cell? ⟨w.heap.size, 0, none⟩ = some (.slice (some ⟨b, o, none⟩) xs.length c)) := Lib.hid (fun q => by
    rw [World.cell?_drewN]
    exact c0)
  have HB := Lib.hid B1
  have HF := Lib.hid hf
  have HZ := Lib.hid hz0
  clear hA B1 c0 hf hz hz0
  go_enter Try.func13, Try.ntmps13
  go_wp2
  go_loopw [4, 5, 15] (fun a e i wr => ∃ k q : Nat, k ≤ xs.length ∧ a = .int .i64 (lo z xs k) ∧ e = .int .i64 (hi z xs k) ∧ i = .int .i64 k ∧ wr = (wl w b o xs.length c).drewN q) (fun _ _ i _ => xs.length - (intOf i).toNat)
  case atStart => exact ⟨0, 0, Nat.zero_le _, rfl, rfl, rfl, rfl⟩
  case round =>
    obtain ⟨k, q, hk, rfl, rfl, rfl, rfl⟩ := hrel
    have cl := HL.out q
    by_cases hlt : k < xs.length
    · have q1 : decide ((k : Int) < (xs.length : Int)) = true := decide_eq_true (by omega)
      have ck := HC.out q k hlt
      have cz := HC.out q 0 h0
      rw [HZ.out, Nat.add_zero] at cz
      have l1 := lo_succ z xs k hlt
      have l2 := hi_succ z xs k hlt
      obtain ⟨x, hx⟩ : ∃ x, x = xs[k] := ⟨_, rfl⟩
      rw [← hx] at ck l1 l2
      clear hx
      obtain ⟨W, hW⟩ : ∃ W, W = (wl w b o xs.length c).drewN q := ⟨_, rfl⟩
      rw [← hW] at cl ck cz ⊢
      have HW := Lib.hid hW
      clear hW
      go_wp2
      exact ⟨⟨k + 1, q, by omega, by rw [l1]; rfl, by rw [l2]; rfl, by go_num, HW.out⟩, by simp [intOf]; omega⟩
    · obtain rfl : k = xs.length := by omega
      have q1 : decide ((xs.length : Int) < (xs.length : Int)) = false := decide_eq_false (by omega)
      have r1 := lo_range z xs xs.length (Nat.le_refl _)
      have r2 := hi_range z xs xs.length (Nat.le_refl _)
      have f0 := HF.out
      unfold farB at f0
      obtain ⟨l, hl⟩ : ∃ l, l = lo z xs xs.length := ⟨_, rfl⟩
      obtain ⟨h, hh⟩ : ∃ h, h = hi z xs xs.length := ⟨_, rfl⟩
      rw [← hl, ← hh] at f0 ⊢
      rw [← hl] at r1
      rw [← hh] at r2
      clear hl hh
      have f1 := of_decide_eq_false f0
      have hcl := HC.out q
      have hS := HL.out q
      have hsz : ((wl w b o xs.length c).drewN q).heap.size = w.heap.size + 1 := by
        show (wl w b o xs.length c).heap.size = _
        simp
      have HB2 : Hid (Below w.heap.size w ((wl w b o xs.length c).drewN q)) := Lib.hid ⟨HB.out.os, HB.out.tape, HB.out.output, HB.out.size, HB.out.block⟩
      obtain ⟨W, hW⟩ : ∃ W, W = (wl w b o xs.length c).drewN q := ⟨_, rfl⟩
      rw [← hW] at hcl hS hsz HB2 ⊢
      clear hW HB HC HL
      have HC := Lib.hid hcl
      have HS := Lib.hid hsz
      clear hcl hsz
      go_wp2_with (go_at_call 14; refine (clone_calls b o c xs _ h0 h30 HC.out).mono ?_; rintro e w2 ⟨g, cap, rfl, hg, hgs, hh, hb⟩; have HH := Lib.hid hh; have HG := Lib.hid hg; have HK := Lib.hid hb; have HGS := Lib.hid hgs; clear hg hgs hh hb)
      have hdz : xs.toArray.size = xs.length := by simp
      have hbs : ∀ (m : Nat) (os : Array Obj) (dk : Array Int), dk.size = xs.toArray.size → (sortWorld encU w2 g 0 m dk os).cell? ⟨w.heap.size, 0, none⟩ = some (.slice (some ⟨b, o, none⟩) xs.length c) ∧ (sortWorld encU w2 g 0 m dk os).cell? ⟨b, o, none⟩ = some (.int .u32 z) := fun m os dk hd => by
        have k1 := HC.out 0 h0
        rw [HZ.out, Nat.add_zero] at k1
        have l1 := World.block_lt_of_cell? W _ hS
        have l2 := World.block_lt_of_cell? W _ k1
        have hgl := HG.out
        have hw2 := HK.out.size
        have hz2 := HGS.out
        simp only at l1 l2
        unfold sortWorld
        rw [Sort.cell?_grow _ _ _ (by simp; omega), Sort.cell?_grow _ _ _ (by simp; omega), Sort.cell?_putRow_other _ _ _ _ _ _ (.inl (by simp; omega)), Sort.cell?_putRow_other _ _ _ _ _ _ (.inl (by simp; omega)), Sort.cell?_ahead, Sort.cell?_ahead]
        exact ⟨(HK.out.cell l1).trans hS, (HK.out.cell l2).trans k1⟩
      have hcmp : CmpLays1 Try.prog 16 #[.pointer (some ⟨w.heap.size, 0, none⟩)] encU (cf z) g 0 xs.toArray.size w2 := CmpReads.lays (fun m os dk hd x y => cmp_calls w.heap.size b o xs.length c z x y _ (hbs m os dk hd).1 h0 (hbs m os dk hd).2)
      have hsf := Try.slices_SortFunc encU oneU (cf z) (swo z) 16 #[.pointer (some ⟨w.heap.size, 0, none⟩)] g 0 cap xs.toArray w2 (fun args w => run_enter Try.func16 (by kernel_rfl) (by kernel_rfl) args w) hcmp HH.out HGS.out (by rw [hdz]; omega)
      rw [hdz] at hsf
      clear hcmp hbs
      refine hsf.mono ?_
      rintro e w3 ⟨rfl, d', n, os, hp, hs, hw⟩
      have HP := Lib.hid hp
      have HS2 := Lib.hid hs
      have HW := Lib.hid hw
      clear hp hs hw hsf
      go_wp2
      go_ret2
      have hds : d'.size = xs.length := by rw [← hdz]; exact HP.out.1
      refine ⟨g, cap, d'.toList, rfl, ?_, fun i j hi hj hij => ?_, fun j h => ?_, ?_⟩
      · have h1 := HP.out.2.2
        have e1 : d'.extract 0 xs.length = d' := by rw [← hds]; simp
        have e2 : xs.toArray.extract 0 xs.length = xs.toArray := by rw [← hdz]; simp
        try rw [hdz] at h1
        rw [e1, e2] at h1
        exact h1
      · have h1 := HS2.out i j (Nat.zero_le _) hij (by simpa [hds] using hj)
        rw [ltOf_cf] at h1
        have h2 := of_decide_eq_false h1
        simp only [Array.length_toList] at hi hj
        simp only [Array.getElem_toList]
        rw [getElem!_pos d' i hi, getElem!_pos d' j hj] at h2
        omega
      · have hj : j < d'.size := by simpa using h
        have h1 := (holds_sortWorld encU w2 g 0 n xs.toArray d' os HGS.out HH.out (by rw [hds, hdz])) j hj
        rw [HW.out, h1.1]
        simp [encU, getElem!_pos, hj]
      · refine (HB2.out.trans (HK.out.mono HB2.out.size)).grown (row := some g) ?_ (by have := HB2.out.size; have := HK.out.size; omega) (fun k e => by cases e; have := HG.out; have := HS.out; omega)
        rw [HW.out]
        refine ⟨rfl, rfl, rfl, by simp [sortWorld, Sort.grow], fun k hk hne => ?_⟩
        unfold sortWorld
        rw [Sort.heap_grow_old _ _ (by simpa using hk)]
        have : g ≠ k := fun e => hne (by rw [e])
        simp [Sort.putRow, Sort.mapBlock, Sort.ahead, Array.getElem?_modify, this]

end Go.Proofs.Ytebabhpbgcencaa.Sr
