/-
  Names: All tells the first name that may not be, or that can't stand beside those ahead.
-/
import Derived.Test.YtndfffningdcgaaDoorNmSeen
import Derived.Test.YtndfffningdcgaaDoorNmSpeaks
namespace Go.Proofs.YtndfffningdcgaaDoor.Nm
open Go.RowKit Go.Shelf
set_option linter.unusedVariables false
set_option linter.unusedSimpArgs false

def namesTo (xs : List ByteArray) (k : Nat) : List (List UInt8) := (xs.take k).map fun x => x.toList
def dirsTo (xs : List ByteArray) (k : Nat) : List (List UInt8) := (xs.take k).flatMap fun x => dirsOf x.toList
theorem namesTo_succ (xs : List ByteArray) (k : Nat) (h : k < xs.length) : namesTo xs (k + 1) = namesTo xs k ++ [xs[k].toList] := by
  unfold namesTo
  rw [List.take_succ_eq_append_getElem h, List.map_append]
  rfl
theorem dirsTo_succ (xs : List ByteArray) (k : Nat) (h : k < xs.length) : dirsTo xs (k + 1) = dirsTo xs k ++ dirsOf xs[k].toList := by
  unfold dirsTo
  rw [List.take_succ_eq_append_getElem h, List.flatMap_append]
  simp

/-- Why the name at a place may not be; 0: it may. -/
def errAt (xs : List ByteArray) (k : Nat) : Int :=
  match xs[k]? with
  | none => 0
  | some s => if checkB s then (if clashB (namesTo xs k) (dirsTo xs k) s.toList then 10 else 0) else 9

def allB (xs : List ByteArray) : Int × Int :=
  match (List.range xs.length).find? fun k => errAt xs k != 0 with
  | some k => (k, errAt xs k)
  | none => (0, 0)

theorem allB_at (xs : List ByteArray) (k : Nat) (hk : k < xs.length) (he : errAt xs k ≠ 0) (hb : ∀ j, j < k → errAt xs j = 0) : allB xs = ((k : Int), errAt xs k) := by
  have h : (List.range xs.length).find? (fun k => errAt xs k != 0) = some k := by
    rw [List.find?_range_eq_some]
    refine ⟨by simpa using he, by simpa using hk, fun j hj => by simp [hb j hj]⟩
  unfold allB
  rw [h]

theorem allB_none (xs : List ByteArray) (hb : ∀ j, j < xs.length → errAt xs j = 0) : allB xs = (0, 0) := by
  have h : (List.range xs.length).find? (fun k => errAt xs k != 0) = none := by
    rw [List.find?_eq_none]
    intro j hj
    simp [hb j (by simpa using hj)]
  unfold allB
  rw [h]

theorem SeenAt.mono {w : World} {bx bn bd n m n' m' : Nat} {S T : List (List UInt8)} (h : SeenAt w bx bn bd n m S T) (h1 : n ≤ n') (h2 : m ≤ m') : SeenAt w bx bn bd n' m' S T := by
  obtain ⟨D, d1, d2, d3⟩ := h.names
  obtain ⟨E, e1, e2, e3⟩ := h.dirs
  exact ⟨h.c0, h.c1, ⟨D, d1.mono h1, d2, d3⟩, ⟨E, e1.mono h2, e2, e3⟩, h.ne, h.nx, h.dx⟩

theorem SeenAt.lt {w : World} {bx bn bd n m : Nat} {S T : List (List UInt8)} (h : SeenAt w bx bn bd n m S T) : bx < w.heap.size ∧ bn < w.heap.size ∧ bd < w.heap.size := by
  obtain ⟨D, ⟨es, cl, hm, _⟩, _⟩ := h.names
  obtain ⟨E, ⟨es', cl', hm', _⟩, _⟩ := h.dirs
  exact ⟨World.block_lt_of_cell? w _ h.c0, (Array.getElem?_eq_some_iff.1 hm).1, (Array.getElem?_eq_some_iff.1 hm').1⟩

theorem SeenAt.below {w w' : World} {bx bn bd n m : Nat} {S T : List (List UInt8)} (h : SeenAt w bx bn bd n m S T) (hb : Below w.heap.size w w') : SeenAt w' bx bn bd n m S T := by
  have hl := h.lt
  exact h.heap (fun k hk => hb.block k (by rcases hk with rfl | rfl | rfl <;> omega))

/-- The world of All's beginning. -/
abbrev wSeen (w : World) : World := ((w.alloc (.map #[] 0)).alloc (.map #[] 0)).alloc (.cells #[.map (some w.heap.size), .map (some (w.heap.size + 1))] 47)

theorem seen_start (w : World) : SeenAt (wSeen w) (w.heap.size + 2) w.heap.size (w.heap.size + 1) 0 0 [] [] := by
  have z1 : (w.alloc (.map #[] 0)).heap.size = w.heap.size + 1 := by simp
  have z2 : ((w.alloc (.map #[] 0)).alloc (.map #[] 0)).heap.size = w.heap.size + 2 := by simp
  have a := OwnSet.made w
  have b := OwnSet.made (w.alloc (.map #[] 0))
  rw [z1] at b
  have c := World.alloc_heap_new ((w.alloc (.map #[] 0)).alloc (.map #[] 0)) (.cells #[.map (some w.heap.size), .map (some (w.heap.size + 1))] 47)
  rw [z2] at c
  refine ⟨?_, ?_, ?_, ?_, by omega, by omega, by omega⟩
  · simp only [World.cell?]
    rw [c]
    rfl
  · simp only [World.cell?]
    rw [c]
    rfl
  · exact (a.kept (World.grownBy_alloc _ _ none) (by simp)).kept (World.grownBy_alloc _ _ none) (by simp)
  · exact b.kept (World.grownBy_alloc _ _ none) (by simp)

theorem seen_below (w : World) : Below w.heap.size w (wSeen w) := (((Below.refl _ w).alloc (Nat.le_refl _) _).alloc (by simp) _).alloc (by simp; omega) _

theorem err_ne {b : Bool} : (errN b != 0) = !b := by cases b <;> rfl

set_option maxHeartbeats 2000000 in
set_option maxRecDepth 100000 in
theorem all_calls (A : Option Addr) (c : Nat) (xs : List ByteArray) (w : World) (hT : Tabs w) (hlen : xs.length ≤ 1048576) (hxs : ∀ x ∈ xs, x.size ≤ 140737488351232)
    (hA : ∀ j (h : j < xs.length), ∃ b o, A = some ⟨b, o, none⟩ ∧ w.cell? ⟨b, o + j, none⟩ = some (.string xs[j])) :
    Calls Tryd.prog 14 #[.slice A xs.length c] w fun e w' => e = .returned (.tuple #[.int .i64 (allB xs).1, .int .i64 (allB xs).2]) ∧ Below w.heap.size w w' := by
  have hmm := @run_makeMap Tryd.prog
  obtain ⟨a1, a2, HE⟩ : ∃ a1 a2, allB xs = (a1, a2) := ⟨_, _, rfl⟩
  rw [HE]
  have HAns := Lib.hid HE
  have HC := Lib.hid hA
  have HX := Lib.hid hxs
  have HTa : Hid (∀ wx, Below w.heap.size w wx → Tabs wx) := Lib.hid (fun wx h => hT.below h)
  have S0 := Lib.hid (seen_start w)
  have B0 := Lib.hid (seen_below w)
  have t0 : decide (1048576 < (xs.length : Int)) = false := decide_eq_false (by omega)
  clear HE hA hxs hT
  go_enter Tryd.func14, Tryd.ntmps14
  go_wp2
  clear hmm
  go_loopw [17] (fun i wr => ∃ k : Nat, k ≤ xs.length ∧ i = .int .i64 k ∧ SeenAt wr (w.heap.size + 2) w.heap.size (w.heap.size + 1) k (k * 65536) (namesTo xs k) (dirsTo xs k) ∧ Below w.heap.size w wr ∧ ∀ j, j < k → errAt xs j = 0) (fun i _ => xs.length - (intOf i).toNat)
  case atStart => exact ⟨0, Nat.zero_le _, rfl, S0.out, B0.out, fun j h => by omega⟩
  case round =>
    obtain ⟨k, hk, rfl, hs, hb, he⟩ := hrel
    have HS := Lib.hid hs
    have HB := Lib.hid hb
    have HJ := Lib.hid he
    have hTr := HTa.out wr hb
    clear hs hb he S0 B0
    by_cases hlt : k < xs.length
    · have q1 : decide ((k : Int) < (xs.length : Int)) = true := decide_eq_true (by omega)
      obtain ⟨b, o, rfl, hcell⟩ := HC.out k hlt
      have hcr : wr.cell? ⟨b, o + k, none⟩ = some (.string xs[k]) := (HB.out.cell (World.block_lt_of_cell? w _ hcell)).trans hcell
      have hsz := HX.out xs[k] (List.getElem_mem hlt)
      have hat : xs[k]? = some xs[k] := List.getElem?_eq_getElem hlt
      obtain ⟨s, hsk⟩ : ∃ s, s = xs[k] := ⟨_, rfl⟩
      rw [← hsk] at hcr hsz hat
      have HSK := Lib.hid hsk
      clear hsk hcell
      cases hc : checkB s with
      | false =>
        have er : errAt xs k = 9 := by unfold errAt; rw [hat]; simp [hc]
        have HR := Lib.hid (HAns.out.symm.trans (allB_at xs k hlt (by omega) HJ.out))
        have HER := Lib.hid er
        have v1 : errN false = 9 := rfl
        clear er hat
        go_wp2_with (go_at_call 9; refine (check_calls _ _ hsz hTr).mono ?_; rintro e w3 ⟨rfl, hb⟩; replace HS := Lib.hid (HS.out.below hb); replace HB := Lib.hid (HB.out.trans (hb.mono HB.out.size)); clear hb)
        go_ret2
        have h := HR.out
        simp only [Prod.mk.injEq] at h
        exact ⟨by rw [h.1, h.2, HER.out] <;> rfl, HB.out⟩
      | true =>
        have v1 : errN true = 0 := rfl
        have hs5 : s.size ≤ 65535 := by
          unfold checkB at hc
          simp only [Bool.and_eq_true, decide_eq_true_eq] at hc
          exact hc.1.1.2
        cases hcl : clashB (namesTo xs k) (dirsTo xs k) s.toList with
        | true =>
          have er : errAt xs k = 10 := by unfold errAt; rw [hat]; simp [hc, hcl]
          have HR := Lib.hid (HAns.out.symm.trans (allB_at xs k hlt (by omega) HJ.out))
          have HER := Lib.hid er
          clear er hat
          go_wp2_with (first | (go_at_call 9; refine (check_calls _ _ hsz hTr).mono ?_; rintro e w3 ⟨rfl, hb⟩; replace HS := Lib.hid (HS.out.below hb); replace HB := Lib.hid (HB.out.trans (hb.mono HB.out.size)); clear hb) | (go_at_call 26; refine (clash_calls _ _ _ _ _ _ _ _ _ hsz HS.out).mono ?_; rintro e w4 ⟨rfl, q, rfl⟩; replace HS := Lib.hid (HS.out.heap (w' := World.drewN _ q) (fun j _ => by rw [drewN_heap])); replace HB := Lib.hid (HB.out.trans ((below_drewN _ q).mono HB.out.size))))
          go_ret2
          have h := HR.out
          simp only [Prod.mk.injEq] at h
          exact ⟨by rw [h.1, h.2, HER.out] <;> rfl, HB.out⟩
        | false =>
          have er : errAt xs k = 0 := by unfold errAt; rw [hat]; simp [hc, hcl]
          have HER := Lib.hid er
          have HN1 := Lib.hid (namesTo_succ xs k hlt)
          have HD1 := Lib.hid (dirsTo_succ xs k hlt)
          clear er hat
          go_wp2_with (first | (go_at_call 9; refine (check_calls _ _ hsz hTr).mono ?_; rintro e w3 ⟨rfl, hb⟩; replace HS := Lib.hid (HS.out.below hb); replace HB := Lib.hid (HB.out.trans (hb.mono HB.out.size)); clear hb) | (go_at_call 26; refine (clash_calls _ _ _ _ _ _ _ _ _ hsz HS.out).mono ?_; rintro e w4 ⟨rfl, q, rfl⟩; replace HS := Lib.hid (HS.out.heap (w' := World.drewN _ q) (fun j _ => by rw [drewN_heap])); replace HB := Lib.hid (HB.out.trans ((below_drewN _ q).mono HB.out.size))) | (go_at_call 27; refine (add_calls _ _ _ _ _ _ _ _ _ hsz HS.out (by unfold maxLen; omega) (by unfold maxLen; omega)).mono ?_; rintro e w5 ⟨rfl, hs5, ht5⟩; replace HS := Lib.hid hs5; replace HB := Lib.hid (HB.out.trans (ht5.below HB.out.size (fun j hj hp => by rcases hp with h | h <;> omega))); clear hs5 ht5))
          go_roundw
          case rel =>
            refine ⟨k + 1, by omega, by go_num, ?_, HB.out, fun j hj => ?_⟩
            · rw [HN1.out, HD1.out, ← HSK.out]
              exact HS.out.mono (by omega) (by omega)
            · rcases Nat.lt_or_ge j k with h | h
              · exact HJ.out j h
              · obtain rfl : j = k := by omega
                exact HER.out
          case measure => simp [intOf]; omega
    · have HR := Lib.hid (HAns.out.symm.trans (allB_none xs (fun j hj => HJ.out j (by omega))))
      go_wp2
      go_ret2
      have h := HR.out
      simp only [Prod.mk.injEq] at h
      exact ⟨by rw [h.1, h.2] <;> rfl, HB.out⟩

end Go.Proofs.YtndfffningdcgaaDoor.Nm
