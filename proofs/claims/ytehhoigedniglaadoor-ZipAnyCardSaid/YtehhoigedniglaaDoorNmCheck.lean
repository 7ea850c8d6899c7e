/-
  Names: Check answers 0 just where checkB says so, else 9; for every text.
-/
import Derived.Test.YtehhoigedniglaaDoorNmSplit
import Derived.Test.YtehhoigedniglaaDoorNmValid
import Derived.Test.YtehhoigedniglaaDoorNmRefCheck
namespace Go.Proofs.YtehhoigedniglaaDoor.Nm
open Go.RowKit Go.Shelf Go.Proofs.YtehhoigedniglaaDoor.Rb
attribute [local go_sem] Oper.semAt_some
set_option linter.unusedVariables false
set_option linter.unusedSimpArgs false

def errN (b : Bool) : Int := if b then 0 else 9

theorem odd_calls (r : Nat) (W : World) (h : r ≤ 1114111) : Calls Tryd.prog 55 #[.int .i32 r] W fun e w' => e = .returned (.bool (oddR r)) ∧ ∃ q, w' = W.drewN q := by
  by_cases h1 : r < 32
  · have e : Hid (oddR r = true) := Lib.hid (by simp [oddR, h1])
    have t1 : decide ((r : Int) < 32) = true := decide_eq_true (by omega)
    go_enter Tryd.func55, Tryd.ntmps55
    go_wp2
    go_ret
    exact ⟨by rw [e.out] <;> rfl, 0, rfl⟩
  · have t1 : decide ((r : Int) < 32) = false := decide_eq_false (by omega)
    by_cases h2 : r = 127
    · have e : Hid (oddR r = true) := Lib.hid (by simp [oddR, h2])
      have t2 : ((r : Int) == 127) = true := by rw [beq_iff_eq]; omega
      clear h2
      go_enter Tryd.func55, Tryd.ntmps55
      go_wp2
      go_ret
      exact ⟨by rw [e.out] <;> rfl, 0, rfl⟩
    · have t2 : ((r : Int) == 127) = false := by rw [beq_eq_false_iff_ne]; omega
      by_cases h3 : r = 92
      · have e : Hid (oddR r = true) := Lib.hid (by simp [oddR, h3])
        have t3 : ((r : Int) == 92) = true := by rw [beq_iff_eq]; omega
        clear h3
        go_enter Tryd.func55, Tryd.ntmps55
        go_wp2
        go_ret
        exact ⟨by rw [e.out] <;> rfl, 0, rfl⟩
      · have e : Hid (oddR r = false) := Lib.hid (by simp [oddR, h1, h2, h3])
        have t3 : ((r : Int) == 92) = false := by rw [beq_eq_false_iff_ne]; omega
        go_enter Tryd.func55, Tryd.ntmps55
        go_wp2
        go_ret
        exact ⟨by rw [e.out] <;> rfl, 0, rfl⟩

theorem odd_pred (w : World) : PredAtRunes Tryd.prog 55 #[] oddR w := fun W x hx _ => odd_calls x W hx

/-- The tables of unicode/utf8 that the library reads. -/
def Tabs (w : World) : Prop := Lib.Utf8Tabs 0 1 w

theorem Tabs.below {w w' : World} (h : Tabs w) (hb : Below w.heap.size w w') : Tabs w' :=
  ⟨fun c hc => (hb.cell (World.block_lt_of_cell? w _ (h.1 c hc))).trans (h.1 c hc), fun i hi => ⟨(hb.cell (World.block_lt_of_cell? w _ (h.2 i hi).1)).trans (h.2 i hi).1, (hb.cell (World.block_lt_of_cell? w _ (h.2 i hi).2)).trans (h.2 i hi).2⟩⟩

theorem valid_calls (s : ByteArray) (w : World) (hs : s.size ≤ 140737488351232) (hT : Tabs w) :
    Calls Tryd.prog 53 #[.string s] w fun e w' => e = .returned (.bool (Lib.validD s.data.toList)) ∧ Below w.heap.size w w' :=
  Any.utf8_ValidString Tryd.laysValid s w (by omega) hT

theorem contains_calls (s : ByteArray) (w : World) :
    Calls Tryd.prog 54 #[.string s, .func (.func 55) #[] #[]] w fun e w' => e = .returned (.bool (decide (0 ≤ Lib.idxFunc oddR true s))) ∧ Below w.heap.size w w' :=
  Tryd.strings_ContainsFunc_runes 55 #[] (enters_of Tryd.func55 (by kernel_rfl) rfl) oddR s w (odd_pred w)

theorem bcell {W w1 : World} (hb : Below W.heap.size W w1) : (∀ b o, b < W.heap.size → w1.cell? ⟨b, o, none⟩ = W.cell? ⟨b, o, none⟩) ∧ (∀ b o, b < W.heap.size → w1.frozen? ⟨b, o, none⟩ = W.frozen? ⟨b, o, none⟩) :=
  ⟨fun b o h => hb.cell (p := ⟨b, o, none⟩) h, fun b o h => hb.frozen (p := ⟨b, o, none⟩) h⟩

/-- The world with the result's cell. -/
abbrev w9 (w : World) (v : Int) : World := w.alloc (.cells #[.int .i64 v] 62)

theorem tabs9 {w : World} (h : Tabs w) (v : Int) : Tabs (w9 w v) := h.below ((Below.refl _ _).alloc (Nat.le_refl _) _)
theorem below9 (w : World) (v : Int) : Below w.heap.size w (w9 w v) := (Below.refl _ _).alloc (Nat.le_refl _) _

set_option maxHeartbeats 1000000 in
set_option maxRecDepth 100000 in
theorem check_short (s : ByteArray) (w : World) (hs : s.size ≤ 140737488351232) (hT : Tabs w) (hb : (decide (1 ≤ s.size) && decide (s.size ≤ 65535) && goodB s) = false) :
    Calls Tryd.prog 36 #[.string s] w fun e w' => e = .returned (.int .i64 9) ∧ Below w.heap.size w w' := by
  by_cases h1 : s.size = 0
  · have p0 : s.toList.isEmpty = true := by rw [List.isEmpty_iff, ← List.length_eq_zero_iff, size_toList]; exact h1
    clear h1 hb hT
    go_enter Tryd.func36, Tryd.ntmps36
    go_wp2
    exact bodyPost_ret (v := .int .i64 9) (by simp [results, Tryd.results36, go_sem]) rfl ⟨rfl, below9 w 9⟩
  · have p0 : s.toList.isEmpty = false := by rw [List.isEmpty_eq_false_iff]; intro h; exact h1 (by rw [← size_toList, h]; rfl)
    by_cases h2 : 65535 < s.size
    · have p1 : decide (65535 < (s.size : Int)) = true := decide_eq_true (by omega)
      clear h1 hb hT h2
      go_enter Tryd.func36, Tryd.ntmps36
      go_wp2
      exact bodyPost_ret (v := .int .i64 9) (by simp [results, Tryd.results36, go_sem]) rfl ⟨rfl, below9 w 9⟩
    · have p1 : decide (65535 < (s.size : Int)) = false := decide_eq_false (by omega)
      have hT1 := tabs9 hT 0
      have hg : goodB s = false := by
        have e1 : decide (1 ≤ s.size) = true := decide_eq_true (by omega)
        have e2 : decide (s.size ≤ 65535) = true := decide_eq_true (by omega)
        rw [e1, e2] at hb
        simpa using hb
      rw [good_iff] at hg
      clear hb h1 h2 hT
      cases hv : Lib.validD s.data.toList with
      | false =>
        clear hg
        go_enter Tryd.func36, Tryd.ntmps36
        go_wp2_with (go_at_call 53; refine (valid_calls _ _ hs hT1).mono ?_; rintro e w1 ⟨rfl, hb1⟩; obtain ⟨hc, hf⟩ := bcell hb1; have hz : w.heap.size < w1.heap.size := (by have := hb1.size; simp at this; omega))
        exact bodyPost_ret (v := .int .i64 9) (by simp [results, Tryd.results36, go_sem, hc, hz]) rfl ⟨rfl, ((below9 w 0).trans (hb1.mono (by simp))).setCell (by simp) _⟩
      | true =>
        have ho : decide (0 ≤ Lib.idxFunc oddR true s) = true := by rw [hv] at hg; simpa using hg
        clear hg
        go_enter Tryd.func36, Tryd.ntmps36
        go_wp2_with (first | (go_at_call 53; refine (valid_calls _ _ hs hT1).mono ?_; rintro e w1 ⟨rfl, hb1⟩; rw [hv]) | (go_at_call 54; refine (contains_calls _ _).mono ?_; rintro e w2 ⟨rfl, hb2⟩; rw [ho]; obtain ⟨hc, hf⟩ := bcell hb1; obtain ⟨hc2, hf2⟩ := bcell hb2; have hz : w.heap.size < w1.heap.size := (by have := hb1.size; simp at this; omega); have hz2 : w.heap.size < w2.heap.size := (by have := hb2.size; omega)))
        exact bodyPost_ret (v := .int .i64 9) (by simp [results, Tryd.results36, go_sem, hc, hz, hc2, hz2]) rfl ⟨rfl, (((below9 w 0).trans (hb1.mono (by simp))).trans (hb2.mono (by omega))).setCell (by simp) _⟩

/-- What SplitSeq lays. -/
abbrev wSplit (w : World) (s : ByteArray) : World := ((w.alloc (.cells #[.string s] 9)).alloc (.cells #[.string ⟨#[47]⟩] 9)).alloc (.cells #[.int .i64 0] 3)

theorem splitseq_calls (s : ByteArray) (w : World) :
    Calls Tryd.prog 56 #[.string s, .string ⟨#[47]⟩] w fun e w' =>
      e = .returned (.func (.func 71) #[] #[.pointer (some ⟨w.heap.size + 1, 0, none⟩), .pointer (some ⟨w.heap.size, 0, none⟩), .pointer (some ⟨w.heap.size + 2, 0, none⟩)]) ∧ wSplit w s = w' := by
  go_enter Tryd.func56, Tryd.ntmps56
  go_wp2
  go_ret
  exact ⟨rfl, rfl⟩

theorem split_facts (w : World) (s : ByteArray) : (wSplit w s).cell? ⟨w.heap.size, 0, none⟩ = some (.string s) ∧ (wSplit w s).frozen? ⟨w.heap.size, 0, none⟩ = false ∧
    (wSplit w s).cell? ⟨w.heap.size + 1, 0, none⟩ = some (.string ⟨#[47]⟩) ∧ (wSplit w s).cell? ⟨w.heap.size + 2, 0, none⟩ = some (.int .i64 0) ∧ (wSplit w s).heap.size = w.heap.size + 3 ∧ Below w.heap.size w (wSplit w s) := by
  have a1 := cell_new_l w (.string s) 9
  have a2 := cell_new_l (w.alloc (.cells #[.string s] 9)) (.string ⟨#[47]⟩) 9
  have a3 := cell_new_l ((w.alloc (.cells #[.string s] 9)).alloc (.cells #[.string ⟨#[47]⟩] 9)) (.int .i64 0) 3
  have z1 : (w.alloc (.cells #[.string s] 9)).heap.size = w.heap.size + 1 := by simp
  have z2 : ((w.alloc (.cells #[.string s] 9)).alloc (.cells #[.string ⟨#[47]⟩] 9)).heap.size = w.heap.size + 2 := by simp
  rw [z1] at a2
  rw [z2] at a3
  exact ⟨cell_alloc_l _ (cell_alloc_l _ a1.1), frozen_alloc_l _ (cell_alloc_l _ a1.1) (frozen_alloc_l _ a1.1 a1.2), cell_alloc_l _ a2.1, a3.1, by simp, (((Below.refl _ w).alloc (Nat.le_refl _) _).alloc (by simp) _).alloc (by simp; omega) _⟩

theorem part_bad {s : ByteArray} {pre : List (List UInt8)} {x : List UInt8} (h : pre ++ [x] <+: parts s.toList) (hx : goodPart x = false) : chk [] s.toList = false := by
  obtain ⟨r, hr⟩ := h
  unfold chk
  unfold parts at hr
  rw [← hr, List.all_append, List.all_append]
  simp [hx]

theorem mk_toList (x : List UInt8) : (⟨x.toArray⟩ : ByteArray).toList = x := by rw [Lib.toList_data]

set_option maxHeartbeats 2000000 in
set_option maxRecDepth 100000 in
theorem check_long (s : ByteArray) (w : World) (hs : s.size ≤ 140737488351232) (hT : Tabs w) (h1 : 1 ≤ s.size) (h2 : s.size ≤ 65535) (hg : goodB s = true) :
    Calls Tryd.prog 36 #[.string s] w fun e w' => e = .returned (.int .i64 (errN (chk [] s.toList))) ∧ Below w.heap.size w w' := by
  have p0 : s.toList.isEmpty = false := by rw [List.isEmpty_eq_false_iff]; intro h; have e := size_toList s; rw [h] at e; simp at e; omega
  have p1 : decide (65535 < (s.size : Int)) = false := decide_eq_false (by omega)
  have hT1 := tabs9 hT 0
  rw [good_iff, Bool.and_eq_true, Bool.not_eq_true'] at hg
  obtain ⟨hv, ho⟩ := hg
  obtain ⟨R, HR⟩ : ∃ r, r = errN (chk [] s.toList) := ⟨_, rfl⟩
  rw [← HR]
  have HRH := Lib.hid HR
  have HV := Lib.hid hv
  have HO := Lib.hid ho
  clear HR hT hv ho
  refine (callsIn_wide (n := 3)).1 ?_
  refine callsIn_of_wp_marks Tryd.func36 rfl trivial ?_ rfl
  simp only [Tryd.ntmps36, List.size_toArray, List.length_cons, List.length_nil, Nat.reduceAdd, Nat.reduceSub, Array.replicate_succ, Array.replicate_zero, List.push_toArray, List.append_toArray, List.nil_append, List.cons_append]
  gi_wp2_with (first | (refine ⟨trivial, ?_⟩; gi_at_call 53; refine (callsIn_wide.2 (valid_calls _ _ hs hT1)).mono ?_; rintro e w1 ⟨rfl, hb1⟩; rw [HV.out]) | (refine ⟨trivial, ?_⟩; gi_at_call 54; refine (callsIn_wide.2 (contains_calls _ _)).mono ?_; rintro e w2 ⟨rfl, hb2⟩; rw [HO.out]) | (refine ⟨trivial, ?_⟩; gi_at_call 56; refine (callsIn_wide.2 (splitseq_calls _ _)).mono ?_; rintro e w3 ⟨rfl, hw3⟩))
  obtain ⟨c0, f0, c1, c2, z3, b3⟩ := split_facts w2 s
  rw [hw3] at c0 f0 c1 c2 z3 b3
  have hz1 : w.heap.size + 1 ≤ w1.heap.size := by have := hb1.size; simp at this; omega
  have hz2 : w1.heap.size ≤ w2.heap.size := hb2.size
  have hball : Below w.heap.size w w3 := ((below9 w 0).trans (hb1.mono (by simp))).trans ((hb2.mono (by omega)).trans (b3.mono (by omega)))
  have hres : w3.cell? ⟨w.heap.size, 0, none⟩ = some (.int .i64 0) := by
    rw [b3.cell (p := ⟨w.heap.size, 0, none⟩) (by show w.heap.size < _; omega), hb2.cell (p := ⟨w.heap.size, 0, none⟩) (by show w.heap.size < _; omega), hb1.cell (p := ⟨w.heap.size, 0, none⟩) (by simp)]
    exact (cell_new_l w (.int .i64 0) 62).1
  have hfro : w3.frozen? ⟨w.heap.size, 0, none⟩ = false := by
    rw [b3.frozen (p := ⟨w.heap.size, 0, none⟩) (by show w.heap.size < _; omega), hb2.frozen (p := ⟨w.heap.size, 0, none⟩) (by show w.heap.size < _; omega), hb1.frozen (p := ⟨w.heap.size, 0, none⟩) (by simp)]
    exact (cell_new_l w (.int .i64 0) 62).2
  have Z2 : w2.heap.size + 3 ≤ w3.heap.size := by omega
  clear hw3 hb1 hb2 b3 z3
  refine range_box (F := Fence.wide) (n := 3) rfl (by omega) (gf := 71) (lb := #[.pointer (some ⟨w2.heap.size + 1, 0, none⟩), .pointer (some ⟨w2.heap.size, 0, none⟩), .pointer (some ⟨w2.heap.size + 2, 0, none⟩)]) rfl trivial
    (enters_of Tryd.func71 (by kernel_rfl) rfl) (split_box _ w2.heap.size s w3 hs c0 f0 c1 c2) (SameBoxes.refl _ _ _) Z2 rfl
    (fun pre W => (W.cell? ⟨w.heap.size, 0, none⟩ = some (.int .i64 0) ∧ W.frozen? ⟨w.heap.size, 0, none⟩ = false ∧ Below w.heap.size w W) ∧ pre.all goodPart = true)
    (fun c _ W => (W.cell? ⟨w.heap.size, 0, none⟩ = some (.int .i64 9) ∧ W.frozen? ⟨w.heap.size, 0, none⟩ = false ∧ Below w.heap.size w W) ∧ c = .ret ∧ R = 9)
    ?hI ?hIx ⟨⟨hres, hfro, hball⟩, rfl⟩
    (fun x => { tmps := #[.string s, undef, .pointer (some ⟨w.heap.size, 0, none⟩), strV x, .string s, .bool false, .bool false, .string s, .int .i64 s.size, .bool false, .bool false, .bool false, .string s, .bool true, .bool false, .bool false, .bool false, .string s, .bool false, .bool false, .string s,
      .func (.func 71) #[] #[.pointer (some ⟨w2.heap.size + 1, 0, none⟩), .pointer (some ⟨w2.heap.size, 0, none⟩), .pointer (some ⟨w2.heap.size + 2, 0, none⟩)], strV x, undef, undef, undef, undef, undef, undef, undef, undef, undef, undef], defers := [] }) ?assign ?body ?done ?stop
  case hI =>
    intro pre W W' row ⟨⟨q1, q2, q3⟩, q4⟩ hg' hr
    have hne : ∀ r, row = some r → w.heap.size < r := fun r e => by rcases hr r e with h | h <;> omega
    have hlt : w.heap.size < W.heap.size := by have := World.block_lt_of_cell? W _ q1; simpa using this
    have hblk : W'.heap[w.heap.size]? = W.heap[w.heap.size]? := hg'.block _ hlt (fun e => by have := hne _ e.symm; omega)
    exact ⟨⟨(World.cell?_of_block (a := ⟨w.heap.size, 0, none⟩) hblk).trans q1, by rw [← q2]; simp only [World.frozen?]; rw [hblk], q3.grown hg' (by omega) (fun r e => by have := hne r e; omega)⟩, q4⟩
  case hIx =>
    intro c pre W W' row ⟨⟨q1, q2, q3⟩, q4⟩ hg' hr
    have hne : ∀ r, row = some r → w.heap.size < r := fun r e => by rcases hr r e with h | h <;> omega
    have hlt : w.heap.size < W.heap.size := by have := World.block_lt_of_cell? W _ q1; simpa using this
    have hblk : W'.heap[w.heap.size]? = W.heap[w.heap.size]? := hg'.block _ hlt (fun e => by have := hne _ e.symm; omega)
    exact ⟨⟨(World.cell?_of_block (a := ⟨w.heap.size, 0, none⟩) hblk).trans q1, by rw [← q2]; simp only [World.frozen?]; rw [hblk], q3.grown hg' (by omega) (fun r e => by have := hne r e; omega)⟩, q4⟩
  case assign =>
    intro l x W K hK
    gi_wp2
    exact hK
  case body =>
    rintro l pre x W hsz ⟨⟨q1, q2, q3⟩, q4⟩ hpre
    have Q4 := Lib.hid q4
    have QP := Lib.hid hpre
    have Q3 := Lib.hid q3
    clear q4 hpre q3
    have hB : ∀ k, some k = (none : Option Nat) → False := fun k e => by cases e
    clear hB
    by_cases hx : goodPart x = true
    · obtain ⟨g0, g1, g2, g3⟩ := good_part hx
      have QX := Lib.hid hx
      clear hx
      unfold strV
      have n0 : ¬ x = [] := by simpa using g0
      gi_wp2
      exact ⟨KeepsFrom.refl _ _, SameBoxes.refl _ _ _, ⟨q1, q2, Q3.out⟩, by rw [List.all_append, Q4.out]; simp [QX.out]⟩
    · have QX : Hid (R = 9) := Lib.hid (by rw [HRH.out, part_bad QP.out (by simpa using hx)]; rfl)
      unfold strV
      rcases bad_part x hx with ⟨g0, g1⟩ | ⟨g0, g1, g2⟩ | ⟨g0, g1, g2, g3⟩
      · have n0 : x = [] := by simpa using g0
        clear hx
        gi_wp2
        exact ⟨(KeepsOthers.setCell _ _ _).from _, ⟨World.cell?_setCell_same' _ _ _ (by rw [q1]; rfl), by rw [World.frozen?_setCell]; exact q2, Q3.out.setCell (Nat.le_refl _) _⟩, rfl, QX.out⟩
      · have n0 : ¬ x = [] := by simpa using g0
        clear hx
        gi_wp2
        exact ⟨(KeepsOthers.setCell _ _ _).from _, ⟨World.cell?_setCell_same' _ _ _ (by rw [q1]; rfl), by rw [World.frozen?_setCell]; exact q2, Q3.out.setCell (Nat.le_refl _) _⟩, rfl, QX.out⟩
      · have n0 : ¬ x = [] := by simpa using g0
        clear hx
        gi_wp2
        exact ⟨(KeepsOthers.setCell _ _ _).from _, ⟨World.cell?_setCell_same' _ _ _ (by rw [q1]; rfl), by rw [World.frozen?_setCell]; exact q2, Q3.out.setCell (Nat.le_refl _) _⟩, rfl, QX.out⟩
  case done =>
    rintro D W hD ⟨⟨q1, q2, q3⟩, q4⟩ hK
    have QX : Hid (R = 0) := Lib.hid (by rw [HRH.out]; unfold chk; unfold parts at q4; rw [q4]; rfl)
    clear q4
    gi_wp2
    have hne : w.heap.size ≠ D := by have := hball.size; omega
    refine ⟨by simp, .inl ⟨_, _, rfl, run_takeDeferred ((KeepsOthers.setCell _ _ _).same D _ hK rfl), ?_⟩⟩
    have hlt : w.heap.size < W.heap.size := by have := World.block_lt_of_cell? W _ q1; simpa using this
    have hc : ((W.setCell ⟨w.heap.size, 0, none⟩ (.int .i64 0)).putObj D (.deferred none)).cell? ⟨w.heap.size, 0, none⟩ = some (.int .i64 0) := by
      rw [World.cell?_of_block (a := ⟨w.heap.size, 0, none⟩) (World.putObj_heap_other hne)]
      exact World.cell?_setCell_same' _ _ _ (by rw [q1]; rfl)
    refine ⟨.int .i64 0, by simp [results, Tryd.results36, go_sem, hc], by rw [QX.out], ?_⟩
    exact (q3.setCell (Nat.le_refl _) _).grown (grownBy_putObj' _ _ _) (by simp; omega) (fun r e => by cases e; omega)
  case stop =>
    rintro D c pre x W hD ⟨⟨q1, q2, q3⟩, rfl, rfl⟩ hK
    gi_wp2
    have hne : w.heap.size ≠ D := by have := hball.size; omega
    refine ⟨by simp, .inl ⟨_, _, rfl, run_takeDeferred hK, ?_⟩⟩
    have hlt : w.heap.size < W.heap.size := by have := World.block_lt_of_cell? W _ q1; simpa using this
    have hc : (W.putObj D (.deferred none)).cell? ⟨w.heap.size, 0, none⟩ = some (.int .i64 9) := by
      rw [World.cell?_of_block (a := ⟨w.heap.size, 0, none⟩) (World.putObj_heap_other hne)]
      exact q1
    refine ⟨.int .i64 9, by simp [results, Tryd.results36, go_sem, hc], rfl, ?_⟩
    exact q3.grown (grownBy_putObj' _ _ _) (by omega) (fun r e => by cases e; omega)

theorem check_calls (s : ByteArray) (w : World) (hs : s.size ≤ 140737488351232) (hT : Tabs w) :
    Calls Tryd.prog 36 #[.string s] w fun e w' => e = .returned (.int .i64 (errN (checkB s))) ∧ Below w.heap.size w w' := by
  cases hb : (decide (1 ≤ s.size) && decide (s.size ≤ 65535) && goodB s) with
  | false =>
    have e : checkB s = false := by unfold checkB; rw [hb]; rfl
    rw [e]
    exact check_short s w hs hT hb
  | true =>
    have e : checkB s = chk [] s.toList := by unfold checkB; rw [hb]; rfl
    rw [e]
    rw [Bool.and_eq_true, Bool.and_eq_true, decide_eq_true_eq, decide_eq_true_eq] at hb
    exact check_long s w hs hT hb.1.1 hb.1.2 hb.2

end Go.Proofs.YtehhoigedniglaaDoor.Nm
