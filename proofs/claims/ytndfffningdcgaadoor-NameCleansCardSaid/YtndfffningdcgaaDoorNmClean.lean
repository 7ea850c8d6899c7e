/-
  Names: Clean answers cleanB.
-/
import Derived.Test.YtndfffningdcgaaDoorNmRefClean
import Derived.Test.YtndfffningdcgaaDoorNmCheck
import Derived.Maps.AppendAt
import Derived.RangeFuncBox
import Derived.Laws.Rows
namespace Go.Proofs.YtndfffningdcgaaDoor.Nm
open Go.RowKit Go.Shelf Go.Proofs.YtndfffningdcgaaDoor.Rb
attribute [local go_sem] Oper.semAt_some
set_option linter.unusedVariables false
set_option linter.unusedSimpArgs false

theorem cleanGo_snoc (ps : List (List UInt8)) (p : List UInt8) : ∀ o, cleanGo (ps ++ [p]) o = (cleanGo ps o).bind fun q => cleanStep q p := by
  induction ps with
  | nil =>
    intro o
    show (cleanStep o p).bind (fun q => some q) = cleanStep o p
    cases cleanStep o p <;> rfl
  | cons x r ih =>
    intro o
    simp only [List.cons_append, cleanGo]
    cases cleanStep o x with
    | none => rfl
    | some q => simp only [Option.bind_some]; exact ih q

theorem cleanGo_stop (ps qs : List (List UInt8)) : ∀ o, cleanGo ps o = none → cleanGo (ps ++ qs) o = none := by
  induction ps with
  | nil => intro o h; cases h
  | cons x r ih =>
    intro o h
    simp only [List.cons_append, cleanGo] at h ⊢
    cases hx : cleanStep o x with
    | none => rfl
    | some q => rw [hx] at h; exact ih q h

theorem tot_go (ps : List (List UInt8)) : ∀ o q, cleanGo ps o = some q → tot q ≤ tot o + tot ps := by
  induction ps with
  | nil => intro o q h; cases h; simp [tot]
  | cons x r ih =>
    intro o q h
    simp only [cleanGo] at h
    cases hx : cleanStep o x with
    | none => rw [hx] at h; cases h
    | some z =>
      rw [hx, Option.bind_some] at h
      have h1 := ih z q h
      have h2 := tot_step o z x hx
      simp only [tot]
      omega

theorem tot_prefix {a b : List (List UInt8)} (h : a <+: b) : tot a ≤ tot b := by
  obtain ⟨c, rfl⟩ := h
  rw [tot_append]
  omega

theorem join_calls (A : Option Addr) (c : Nat) (out : List (List UInt8)) (w : World) (base : Nat) (h : w.ownsRow base 9 1 (.slice A out.length c) out.length (strVs out)) (ht : tot out ≤ 200000) :
    Calls Tryd.prog 28 #[.slice A out.length c, .string ⟨#[47]⟩] w fun e w' => e = .returned (.string (mkS (joined out))) ∧ Below w.heap.size w w' := by
  by_cases h0 : out = []
  · subst h0
    refine (Tryd.strings_Join_none A c ⟨#[47]⟩ w).mono ?_
    rintro e w' ⟨rfl, rfl⟩
    exact ⟨rfl, Below.refl _ _⟩
  · obtain ⟨g, cap, hv, _, hg⟩ := h.form (List.length_pos_iff.2 h0)
    injection hv with e1 e2 e3
    subst e1
    subst e3
    have hlc : out.length ≤ c := by
      rcases h.2 with ⟨hh, _⟩ | ⟨g', cap', cur, hv, _, _, hle, _⟩
      · cases hh
      · injection hv with _ _ h3; subst h3; exact hle
    have hlen := len_tot out
    have hmap : (out.map mkS).map (·.data.toList) = out := by
      rw [List.map_map]
      conv => rhs; rw [← List.map_id out]
      apply List.map_congr_left
      intro x _
      simp [mkS]
    have hj := joined_tot out
    have hk := Tryd.strings_Join g 0 c (out.map mkS) ⟨#[47]⟩ w (fun j x hx => by
      rw [Nat.zero_add]
      rw [List.getElem?_map, Option.map_eq_some_iff] at hx
      obtain ⟨y, hy, rfl⟩ := hx
      exact own_cell h j _ (by
        obtain ⟨hj1, hj2⟩ := List.getElem?_eq_some_iff.1 hy
        rw [strVs_get out j hj1, hj2])) hg (by rw [List.length_map]; omega) (by rw [List.length_map]; exact hlc) (by rw [hmap]; show (joined out).length ≤ _; omega)
    rw [List.length_map, hmap] at hk
    exact hk

/-- The world with the two results and the list. -/
abbrev wc (w : World) : World := ((w.alloc (.cells #[.string ⟨#[]⟩] 9)).alloc (.cells #[.bool false] 4)).alloc (.cells #[.slice none 0 0] 29)

/-- What stays while the loop goes round: the two results, and all that lay below. -/
def Still (w W : World) : Prop :=
  W.cell? ⟨w.heap.size, 0, none⟩ = some (.string ⟨#[]⟩) ∧ W.frozen? ⟨w.heap.size, 0, none⟩ = false ∧ W.cell? ⟨w.heap.size + 1, 0, none⟩ = some (.bool false) ∧ W.frozen? ⟨w.heap.size + 1, 0, none⟩ = false ∧ Below w.heap.size w W

theorem Still.step {w W W' : World} {row : Option Nat} (h : Still w W) (hg : W.grownBy W' row) (hr : ∀ r, row = some r → w.heap.size + 2 ≤ r) : Still w W' := by
  obtain ⟨a1, a2, a3, a4, a5⟩ := h
  have l1 : w.heap.size < W.heap.size := by have := World.block_lt_of_cell? W _ a1; simpa using this
  have l2 : w.heap.size + 1 < W.heap.size := by have := World.block_lt_of_cell? W _ a3; simpa using this
  have b1 : W'.heap[w.heap.size]? = W.heap[w.heap.size]? := hg.block _ l1 (fun e => by have := hr _ e.symm; omega)
  have b2 : W'.heap[w.heap.size + 1]? = W.heap[w.heap.size + 1]? := hg.block _ l2 (fun e => by have := hr _ e.symm; omega)
  exact ⟨(World.cell?_of_block (a := ⟨w.heap.size, 0, none⟩) b1).trans a1, by rw [← a2]; simp only [World.frozen?]; rw [b1], (World.cell?_of_block (a := ⟨w.heap.size + 1, 0, none⟩) b2).trans a3, by rw [← a4]; simp only [World.frozen?]; rw [b2],
    a5.grown hg (by omega) (fun r e => by have := hr r e; omega)⟩

theorem Still.zero {w W : World} (h : Still w W) : Still w ((W.setCell ⟨w.heap.size, 0, none⟩ (.string ⟨#[]⟩)).setCell ⟨w.heap.size + 1, 0, none⟩ (.bool false)) := by
  obtain ⟨a1, a2, a3, a4, a5⟩ := h
  have e1 : (W.setCell ⟨w.heap.size, 0, none⟩ (.string ⟨#[]⟩)).cell? ⟨w.heap.size + 1, 0, none⟩ = some (.bool false) := by
    rw [World.cell?_of_block (a := ⟨w.heap.size + 1, 0, none⟩) (heap_setCell_other W ⟨w.heap.size, 0, none⟩ (w.heap.size + 1) _ (by simp))]
    exact a3
  refine ⟨?_, by rw [World.frozen?_setCell, World.frozen?_setCell]; exact a2, World.cell?_setCell_same' _ _ _ (by rw [e1]; rfl), by rw [World.frozen?_setCell, World.frozen?_setCell]; exact a4, (a5.setCell (Nat.le_refl _) _).setCell (by simp) _⟩
  rw [World.cell?_of_block (a := ⟨w.heap.size, 0, none⟩) (heap_setCell_other _ ⟨w.heap.size + 1, 0, none⟩ w.heap.size _ (by simp))]
  exact World.cell?_setCell_same' _ _ _ (by rw [a1]; rfl)

theorem Still.below {w W W' : World} (h : Still w W) (hb : Below W.heap.size W W') : Still w W' :=
  h.step (row := none) ⟨hb.os, hb.tape, hb.output, hb.size, fun k hk _ => hb.block k hk⟩ (fun r e => by cases e)

/-- The results written, the mark taken up. -/
theorem Still.ends {w X : World} {D : Nat} (h : Still w X) (hD : w.heap.size + 2 ≤ D) (t : ByteArray) (b : Bool) :
    let Y := ((X.setCell ⟨w.heap.size, 0, none⟩ (.string t)).setCell ⟨w.heap.size + 1, 0, none⟩ (.bool b)).putObj D (.deferred none)
    Y.cell? ⟨w.heap.size, 0, none⟩ = some (.string t) ∧ Y.cell? ⟨w.heap.size + 1, 0, none⟩ = some (.bool b) ∧ Below w.heap.size w Y := by
  obtain ⟨a1, a2, a3, a4, a5⟩ := h
  have e1 : (X.setCell ⟨w.heap.size, 0, none⟩ (.string t)).cell? ⟨w.heap.size + 1, 0, none⟩ = some (.bool false) := by
    rw [World.cell?_of_block (a := ⟨w.heap.size + 1, 0, none⟩) (heap_setCell_other X ⟨w.heap.size, 0, none⟩ (w.heap.size + 1) _ (by simp))]
    exact a3
  refine ⟨?_, ?_, ?_⟩
  · rw [World.cell?_of_block (a := ⟨w.heap.size, 0, none⟩) (World.putObj_heap_other (by show w.heap.size ≠ D; omega)), World.cell?_of_block (a := ⟨w.heap.size, 0, none⟩) (heap_setCell_other _ ⟨w.heap.size + 1, 0, none⟩ w.heap.size _ (by simp))]
    exact World.cell?_setCell_same' _ _ _ (by rw [a1]; rfl)
  · rw [World.cell?_of_block (a := ⟨w.heap.size + 1, 0, none⟩) (World.putObj_heap_other (by show w.heap.size + 1 ≠ D; omega))]
    exact World.cell?_setCell_same' _ _ _ (by rw [e1]; rfl)
  · refine ((a5.setCell (Nat.le_refl _) _).setCell (by simp) _).grown (grownBy_putObj' _ _ _) ?_ (fun r e => by cases e; omega)
    have := a5.size
    simp
    omega

theorem wc_facts (w : World) : Still w (wc w) ∧ (wc w).cell? ⟨w.heap.size + 2, 0, none⟩ = some (.slice none 0 0) ∧ (wc w).frozen? ⟨w.heap.size + 2, 0, none⟩ = false ∧ (wc w).heap.size = w.heap.size + 3 := by
  have a1 := cell_new_l w (.string ⟨#[]⟩) 9
  have a2 := cell_new_l (w.alloc (.cells #[.string ⟨#[]⟩] 9)) (.bool false) 4
  have a3 := cell_new_l ((w.alloc (.cells #[.string ⟨#[]⟩] 9)).alloc (.cells #[.bool false] 4)) (.slice none 0 0) 29
  have z1 : (w.alloc (.cells #[.string ⟨#[]⟩] 9)).heap.size = w.heap.size + 1 := by simp
  have z2 : ((w.alloc (.cells #[.string ⟨#[]⟩] 9)).alloc (.cells #[.bool false] 4)).heap.size = w.heap.size + 2 := by simp
  rw [z1] at a2
  rw [z2] at a3
  exact ⟨⟨cell_alloc_l _ (cell_alloc_l _ a1.1), frozen_alloc_l _ (cell_alloc_l _ a1.1) (frozen_alloc_l _ a1.1 a1.2), cell_alloc_l _ a2.1, frozen_alloc_l _ a2.1 a2.2, (((Below.refl _ w).alloc (Nat.le_refl _) _).alloc (by simp) _).alloc (by simp; omega) _⟩, a3.1, a3.2, by simp⟩

/-- The list in its box. -/
def Boxed4 (w W : World) (n₀ : Nat) (out : List (List UInt8)) : Prop :=
  ∃ A c, W.cell? ⟨w.heap.size + 2, 0, none⟩ = some (.slice A out.length c) ∧ W.frozen? ⟨w.heap.size + 2, 0, none⟩ = false ∧ W.ownsRow n₀ 9 1 (.slice A out.length c) out.length (strVs out)

theorem Boxed4.step {w W W' : World} {n₀ : Nat} {out : List (List UInt8)} {row : Option Nat} (h : Boxed4 w W n₀ out) (hg : W.grownBy W' row) (hr : ∀ r, row = some r → w.heap.size + 3 ≤ r ∧ (r < n₀ ∨ ∃ o : Obj, W.heap[r]? = some o ∧ o.isCells = false)) : Boxed4 w W' n₀ out := by
  obtain ⟨A, c, h1, h2, h3⟩ := h
  have l1 : w.heap.size + 2 < W.heap.size := by have := World.block_lt_of_cell? W _ h1; simpa using this
  have b1 : W'.heap[w.heap.size + 2]? = W.heap[w.heap.size + 2]? := hg.block _ l1 (fun e => by have := hr _ e.symm; omega)
  refine ⟨A, c, (World.cell?_of_block (a := ⟨w.heap.size + 2, 0, none⟩) b1).trans h1, by rw [← h2]; simp only [World.frozen?]; rw [b1], h3.kept hg ?_⟩
  cases hb : (Value.slice A out.length c).ownBlock with
  | none => exact .inl rfl
  | some g =>
    refine .inr (fun e => ?_)
    obtain ⟨hr1, hr2⟩ := hr g e.symm
    have hl := h3.lt g hb
    rcases hr2 with hr2 | ⟨o, ho, hc⟩
    · omega
    · rcases h3.2 with ⟨h0, _⟩ | ⟨g', cap', cur, hv, _, hgg, _⟩
      · rw [h0] at hb; cases hb
      · rw [hv] at hb
        simp [Value.ownBlock] at hb
        subst hb
        rw [hgg] at ho
        cases ho
        cases hc

set_option maxHeartbeats 4000000 in
set_option maxRecDepth 100000 in
theorem clean_calls (s : ByteArray) (w : World) (hs : s.size ≤ 100000) (hT : Tabs w) :
    Calls Tryd.prog 15 #[.string s] w fun e w' => e = .returned (.tuple #[.string (resS (cleanB s)), .bool (cleanB s).isSome]) ∧ Below w.heap.size w w' := by
  obtain ⟨i0, hi, hz0, hz1, hz2⟩ := info_parts Tryd.infoStr
  obtain ⟨r1, r2, HR⟩ : ∃ r1 r2, r1 = resS (cleanB s) ∧ r2 = (cleanB s).isSome := ⟨_, _, rfl, rfl⟩
  rw [← HR.1, ← HR.2]
  have HRes := Lib.hid HR
  have HTa : Hid (∀ wx, Below w.heap.size w wx → Tabs wx) := Lib.hid (fun wx h => hT.below h)
  clear HR hT
  refine (callsIn_wide (n := 3)).1 ?_
  refine callsIn_of_wp_marks Tryd.func15 rfl trivial ?_ rfl
  simp only [Tryd.ntmps15, List.size_toArray, List.length_cons, List.length_nil, Nat.reduceAdd, Nat.reduceSub, Array.replicate_succ, Array.replicate_zero, List.push_toArray, List.append_toArray, List.nil_append, List.cons_append]
  gi_wp2_with (refine ⟨trivial, ?_⟩; gi_at_call 23; refine (callsIn_wide.2 (splitseq_calls _ _)).mono ?_; rintro e w3 ⟨rfl, hw3⟩)
  obtain ⟨s0, b0, bf0, z0⟩ := wc_facts w
  obtain ⟨c0, f0, c1, c2, z3, b3⟩ := split_facts (wc w) s
  have hw3' : wSplit (wc w) s = w3 := hw3
  rw [hw3'] at c0 f0 c1 c2 z3 b3
  rw [z0] at c0 f0 c1 c2 z3 b3
  clear hw3 hw3'
  have g3 : (wc w).grownBy w3 none := ⟨b3.os, b3.tape, b3.output, b3.size, fun k hk _ => b3.block k (by rw [z0] at hk; exact hk)⟩
  have S3 : Still w w3 := s0.step g3 (fun r e => by cases e)
  have X3 : Boxed4 w w3 w3.heap.size [] := by
    have hb : w3.heap[w.heap.size + 2]? = (wc w).heap[w.heap.size + 2]? := b3.block _ (by omega)
    exact ⟨none, 0, (World.cell?_of_block (a := ⟨w.heap.size + 2, 0, none⟩) hb).trans b0, by rw [← bf0]; simp only [World.frozen?]; rw [hb], World.ownsRow_nil _ _ _ _⟩
  clear s0 b0 bf0 z0 b3 g3
  have htot : Hid (tot (parts s.toList) = s.size + 1) := Lib.hid (by unfold parts; rw [tot_split, size_toList]; simp)
  refine range_box (F := Fence.wide) (n := 3) rfl (by omega) (gf := 45) (lb := #[.pointer (some ⟨w.heap.size + 3 + 1, 0, none⟩), .pointer (some ⟨w.heap.size + 3, 0, none⟩), .pointer (some ⟨w.heap.size + 3 + 2, 0, none⟩)]) rfl trivial
    (enters_of Tryd.func45 (by kernel_rfl) rfl) (split_box _ (w.heap.size + 3) s w3 (by omega) c0 f0 c1 c2) (SameBoxes.refl _ _ _) (by omega) rfl
    (fun pre W => ∃ out, cleanGo pre [] = some out ∧ tot out ≤ 100001 ∧ Boxed4 w W w3.heap.size out ∧ Still w W)
    (fun c _ W => Still w W ∧ c = .ret ∧ r1 = ⟨#[]⟩ ∧ r2 = false)
    ?hI ?hIx ⟨[], rfl, by simp [tot], X3, S3⟩
    (fun x => { tmps := #[.string s, undef, .pointer (some ⟨w.heap.size, 0, none⟩), .pointer (some ⟨w.heap.size + 1, 0, none⟩), .pointer (some ⟨w.heap.size + 1 + 1, 0, none⟩), strV x, undef, .string s,
      .func (.func 45) #[] #[.pointer (some ⟨w.heap.size + 3 + 1, 0, none⟩), .pointer (some ⟨w.heap.size + 3, 0, none⟩), .pointer (some ⟨w.heap.size + 3 + 2, 0, none⟩)], strV x,
      undef, undef, undef, undef, undef, undef, undef, undef, undef, undef, undef, undef, undef, undef, undef, undef, undef, undef, undef, undef, undef, undef, undef, undef], defers := [] }) ?assign ?body ?done ?stop
  case hI =>
    rintro pre W W' row ⟨out, h1, h2, h3, h4⟩ hg' hr
    refine ⟨out, h1, h2, h3.step hg' (fun r e => ?_), h4.step hg' (fun r e => by rcases hr r e with h | h <;> omega)⟩
    rcases hr r e with h | h
    · exact ⟨by omega, .inl (by omega)⟩
    · exact ⟨by omega, .inr h.2⟩
  case hIx =>
    rintro c pre W W' row ⟨h1, h2⟩ hg' hr
    exact ⟨h1.step hg' (fun r e => by rcases hr r e with h | h <;> omega), h2⟩
  case assign =>
    intro l x W K hK
    gi_wp2
    exact hK
  case body =>
    have hz3 : w.heap.size + 6 ≤ w3.heap.size := by omega
    clear z3
    rintro l pre x W hsz ⟨out, h1, h2, ⟨A, c, k1, k2, k3⟩, h4⟩ hpre
    have HP := Lib.hid hpre
    have HO := Lib.hid h1
    have H4 := Lib.hid h4
    have hol := len_tot out
    have HT2 : Hid (∀ o, cleanStep out x = some o → cleanGo (pre ++ [x]) [] = some o ∧ tot o ≤ 100001) := Lib.hid (fun o ho => by
      have e : cleanGo (pre ++ [x]) [] = some o := by rw [cleanGo_snoc, h1]; exact ho
      refine ⟨e, ?_⟩
      have e2 := tot_go _ _ _ e
      have e3 := tot_prefix hpre
      rw [htot.out] at e3
      simp only [tot] at e2
      omega)
    clear hpre h1 h4
    unfold strV
    by_cases e1 : x = []
    · have hst := HT2.out out (by unfold cleanStep; rw [if_neg (by rw [e1]; simp), if_pos (.inl e1)])
      have HS := Lib.hid hst
      have HK := Lib.hid k3
      clear hst k3
      gi_wp2
      exact ⟨KeepsFrom.refl _ _, SameBoxes.refl _ _ _, out, HS.out.1, HS.out.2, ⟨A, c, k1, k2, HK.out⟩, H4.out⟩
    · have g0 : x.isEmpty = false := by simpa using e1
      by_cases e2 : x = [46]
      · have g1 : (x == [46]) = true := by rw [e2]; rfl
        have hst := HT2.out out (by unfold cleanStep; rw [if_neg (by rw [e2]; simp), if_pos (.inr e2)])
        have HS := Lib.hid hst
        have HK := Lib.hid k3
        clear hst k3 e2
        gi_wp2
        exact ⟨KeepsFrom.refl _ _, SameBoxes.refl _ _ _, out, HS.out.1, HS.out.2, ⟨A, c, k1, k2, HK.out⟩, H4.out⟩
      · have g1 : (x == [46]) = false := by simpa using e2
        by_cases e3 : x = [46, 46]
        · have g2 : (x == [46, 46]) = true := by rw [e3]; rfl
          by_cases e0 : out = []
          · have t3 : ((out.length : Int) == 0) = true := by rw [e0]; rfl
            have hnone : Hid (r1 = ⟨#[]⟩ ∧ r2 = false) := Lib.hid (by
              have h1 : cleanGo (pre ++ [x]) [] = none := by rw [cleanGo_snoc, HO.out]; show cleanStep out x = none; unfold cleanStep; rw [if_pos e3, if_pos e0]
              obtain ⟨r, hr⟩ := HP.out
              have h2 : cleanGo (parts s.toList) [] = none := by rw [← hr]; exact cleanGo_stop _ _ _ h1
              rw [HRes.out.1, HRes.out.2]
              unfold cleanB
              rw [h2]
              exact ⟨rfl, rfl⟩)
            have d1 := H4.out.1
            have d2 := H4.out.2.1
            have d3 := H4.out.2.2.1
            have d4 := H4.out.2.2.2.1
            clear e0 e1 e2 e3 k3
            gi_wp2
            exact ⟨((KeepsOthers.setCell _ _ _).trans (KeepsOthers.setCell _ _ _)).from _, H4.out.zero, rfl, hnone.out⟩
          · have hpo : 0 < out.length := List.length_pos_iff.2 e0
            have t3 : ((out.length : Int) == 0) = false := by rw [beq_eq_false_iff_ne]; omega
            obtain ⟨g', rfl, hlc, hown2⟩ := pop_own k3 e0
            have hst := HT2.out out.dropLast (by unfold cleanStep; rw [if_pos e3, if_neg e0])
            have HS := Lib.hid hst
            have HO2 := Lib.hid hown2
            have hdn : out.dropLast.length = out.length - 1 := List.length_dropLast
            have HDN := Lib.hid hdn
            obtain ⟨n, hn⟩ : ∃ n, out.length = n + 1 := ⟨out.length - 1, by omega⟩
            have HNn := Lib.hid hn
            clear e0 e1 e2 e3 k3 hown2 hdn hst
            gi_wp2
            refine ⟨(KeepsOthers.setCell _ _ _).from _, SameBoxes.of_grownBy (setCell_grown _ _ _) (by omega) (fun r e => by cases e; omega), out.dropLast, HS.out.1, HS.out.2, ⟨some ⟨g', 0, none⟩, c, ?_, by rw [World.frozen?_setCell]; exact k2, ?_⟩, H4.out.step (setCell_grown _ _ _) (fun r e => by cases e; omega)⟩
            · have e : out.length - 1 = n := by have := HNn.out; omega
              rw [HDN.out, e]
              exact World.cell?_setCell_same' _ _ _ (by rw [k1]; rfl)
            · rw [HDN.out]
              have hl := HO2.out.lt g' rfl
              exact HO2.out.kept (setCell_grown _ _ _) (.inr (fun e => by simp [Value.ownBlock] at e; omega))
        · have g2 : (x == [46, 46]) = false := by simpa using e3
          have hst := HT2.out (out ++ [x]) (by unfold cleanStep; rw [if_neg e3, if_neg (by simp [e1, e2])])
          have HS := Lib.hid hst
          have hW0 := H4.out.2.2.2.2.size
          clear e2 e3 hst
          gi_wp2_with (gi_at_builtin; refine wpListIn_append_own _ rfl _ _ 29 rfl w3.heap.size 9 i0 (.string ⟨#[]⟩) 1 16 Tryd.underlying29 hi hz0 hz1 hz2 rfl (by decide) _ _ _ rfl (k3.alloc _) ⟨W.heap.size, 0, none⟩ 1 1 [.string ⟨x.toArray⟩] rfl rfl ?c1 ?c2 ?c3 ?c4 ?c5 ?_)
          case c1 => exact cell_one_new _ _ _
          case c2 => simp [Value.oneCell']
          case c3 => unfold maxLen; omega
          case c4 => omega
          case c5 => simp; omega
          intro v' w4 hown1 hg1 _
          have hk4 := k3.alloc (.cells #[.string ⟨x.toArray⟩] 9)
          have hrow : ∀ r, (Value.slice A out.length c).ownBlock = some r → w3.heap.size ≤ r := fun r e => (hk4.lt r e).1
          have hboxw : w.heap.size + 2 < W.heap.size := by have := World.block_lt_of_cell? W _ k1; simpa using this
          have hbox : w4.heap[w.heap.size + 2]? = W.heap[w.heap.size + 2]? := (hg1.block _ (by simp; omega) (fun e => by have := hrow _ e.symm; omega)).trans (Below.heap_alloc _ _ _ hboxw)
          have kb : w4.cell? ⟨w.heap.size + 2, 0, none⟩ = some (.slice A out.length c) := (World.cell?_of_block (a := ⟨w.heap.size + 2, 0, none⟩) hbox).trans k1
          have kf : w4.frozen? ⟨w.heap.size + 2, 0, none⟩ = false := by rw [← k2]; simp only [World.frozen?]; rw [hbox]
          obtain ⟨A', c', rfl⟩ := own_slice hown1
          have HO1 : Hid (w4.ownsRow w3.heap.size 9 1 (.slice A' (out ++ [x]).length c') (out ++ [x]).length (strVs (out ++ [x]))) := Lib.hid (by rw [strVs_snoc, List.length_append]; exact hown1)
          have HS4 : Hid (Still w w4) := Lib.hid ((H4.out.step (World.grownBy_alloc W _ none) (fun r e => by cases e)).step hg1 (fun r e => by have := hrow r e; omega))
          have HK4 : Hid (KeepsFrom w3.heap.size W w4) := Lib.hid (((KeepsOthers.alloc W _).trans (KeepsOthers.of_grownBy hg1 (fun j o e ho => by
            rcases hk4.2 with ⟨h0, _⟩ | ⟨g', cap', cur, hv, _, hgg, _⟩
            · rw [h0] at e; cases e
            · rw [hv] at e
              simp [Value.ownBlock] at e
              subst e
              rw [hgg] at ho
              cases ho
              rfl))).from _)
          have HB4 : Hid (SameBoxes (w.heap.size + 3) 3 W w4) := Lib.hid ((SameBoxes.of_grownBy (World.grownBy_alloc W _ none) (by omega) (fun r e => by cases e)).trans (SameBoxes.of_grownBy hg1 (by simp; omega) (fun r e => by have := hrow r e; omega)))
          have hz4 : w3.heap.size ≤ w4.heap.size := by have := hg1.size; simp at this; omega
          have hlen1 : (out ++ [x]).length = out.length + 1 := by simp
          have HL1 := Lib.hid hlen1
          clear k1 k2 k3 hk4 hown1 hg1 hrow hbox hboxw hlen1
          gi_wp2
          refine ⟨HK4.out.trans ((KeepsOthers.setCell _ _ _).from _), HB4.out.trans (SameBoxes.of_grownBy (setCell_grown _ _ _) (by omega) (fun r e => by cases e; omega)), out ++ [x], HS.out.1, HS.out.2, ⟨A', c', ?_, by rw [World.frozen?_setCell]; exact kf, ?_⟩, HS4.out.step (setCell_grown _ _ _) (fun r e => by cases e; omega)⟩
          · rw [HL1.out]
            exact World.cell?_setCell_same' _ _ _ (by rw [kb]; rfl)
          · exact HO1.out.kept (setCell_grown _ _ _) (by
              cases hb : (Value.slice A' (out ++ [x]).length c').ownBlock with
              | none => exact .inl rfl
              | some g =>
                have := (HO1.out.lt g hb).1
                exact .inr (fun e => by cases e; omega))
  case done =>
    rintro D W hD ⟨out, h1, h2, ⟨A, c, k1, k2, k3⟩, h4⟩ hK
    have HO := Lib.hid h1
    have H4 := Lib.hid h4
    have HKD := Lib.hid hK
    have d1 := h4.1
    have d2 := h4.2.1
    have d3 := h4.2.2.1
    have d4 := h4.2.2.2.1
    have hWz := h4.2.2.2.2.size
    have hz3 : w.heap.size + 6 ≤ w3.heap.size := by omega
    have hbW : w.heap.size + 2 < W.heap.size := by have := World.block_lt_of_cell? W _ k1; simpa using this
    have hDl : D < W.heap.size := (Array.getElem?_eq_some_iff.1 hK).1
    have hjb := joined_tot out
    have hjs : (mkS (joined out)).size ≤ 140737488351232 := by rw [mkS_size]; omega
    obtain ⟨T, hTd⟩ : ∃ T, T = mkS (joined out) := ⟨_, rfl⟩
    have HJ : Hid (∀ X : World, X = W → Calls Tryd.prog 28 #[.slice A out.length c, .string ⟨#[47]⟩] X fun e w' => e = .returned (.string T) ∧ Below X.heap.size X w') := Lib.hid (fun X e => by rw [e, hTd]; exact join_calls A c out W _ k3 (by omega))
    rw [← hTd] at hjs
    have HR2 : Hid (r1 = resS (if checkB T then some T else none) ∧ r2 = (if checkB T then some T else none).isSome) := Lib.hid (by
      rw [HRes.out.1, HRes.out.2]
      unfold cleanB
      rw [HO.out, hTd]
      exact ⟨rfl, rfl⟩)
    clear h1 h4 hK z3 k3 hTd
    have v0 : errN true = 0 := rfl
    have v1 : errN false = 9 := rfl
    cases hc : checkB T with
    | true =>
      gi_wp2_with (first | (refine ⟨trivial, ?_⟩; gi_at_call 28; refine (callsIn_wide.2 (HJ.out _ rfl)).mono ?_; rintro e w5 ⟨rfl, hb5⟩; have hT5 : Tabs w5 := HTa.out w5 (H4.out.2.2.2.2.trans (hb5.mono hWz)); have H5 := Lib.hid (H4.out.below hb5); have D5 := Lib.hid ((hb5.block D hDl).trans HKD.out); have hz5 : W.heap.size ≤ w5.heap.size := hb5.size) | (refine ⟨trivial, ?_⟩; gi_at_call 9; refine (callsIn_wide.2 (check_calls _ _ hjs hT5)).mono ?_; rintro e w6 ⟨rfl, hb6⟩; rw [hc]; have H6 := Lib.hid (H5.out.below hb6); have D6 := Lib.hid ((hb6.block D (by omega)).trans D5.out); have kd1 := H6.out.1; have kd2 := H6.out.2.1; have kd3 := H6.out.2.2.1; have kd4 := H6.out.2.2.2.1))
      refine ⟨by simp, .inl ⟨_, _, rfl, run_takeDeferred (((KeepsOthers.setCell _ _ _).trans (KeepsOthers.setCell _ _ _)).same D _ D6.out rfl), ?_⟩⟩
      obtain ⟨f1, f2, f3⟩ := H6.out.ends (D := D) (by omega) T true
      refine ⟨.tuple #[.string (T), .bool true], by simp [results, Tryd.results15, go_sem, f1, f2], ?_, f3⟩
      rw [HR2.out.1, HR2.out.2, hc]
      rfl
    | false =>
      gi_wp2_with (first | (refine ⟨trivial, ?_⟩; gi_at_call 28; refine (callsIn_wide.2 (HJ.out _ rfl)).mono ?_; rintro e w5 ⟨rfl, hb5⟩; have hT5 : Tabs w5 := HTa.out w5 (H4.out.2.2.2.2.trans (hb5.mono hWz)); have H5 := Lib.hid (H4.out.below hb5); have D5 := Lib.hid ((hb5.block D hDl).trans HKD.out); have hz5 : W.heap.size ≤ w5.heap.size := hb5.size) | (refine ⟨trivial, ?_⟩; gi_at_call 9; refine (callsIn_wide.2 (check_calls _ _ hjs hT5)).mono ?_; rintro e w6 ⟨rfl, hb6⟩; rw [hc]; have H6 := Lib.hid (H5.out.below hb6); have D6 := Lib.hid ((hb6.block D (by omega)).trans D5.out); have kd1 := H6.out.1; have kd2 := H6.out.2.1; have kd3 := H6.out.2.2.1; have kd4 := H6.out.2.2.2.1))
      refine ⟨by simp, .inl ⟨_, _, rfl, run_takeDeferred (((KeepsOthers.setCell _ _ _).trans (KeepsOthers.setCell _ _ _)).same D _ D6.out rfl), ?_⟩⟩
      obtain ⟨f1, f2, f3⟩ := H6.out.ends (D := D) (by omega) ⟨#[]⟩ false
      refine ⟨.tuple #[.string (⟨#[]⟩), .bool false], by simp [results, Tryd.results15, go_sem, f1, f2], ?_, f3⟩
      rw [HR2.out.1, HR2.out.2, hc]
      rfl
  case stop =>
    rintro D cc pre x W hD ⟨h4, rfl, rfl, rfl⟩ hK
    gi_wp2
    have hz := h4.2.2.2.2.size
    have hSz := S3.2.2.2.2.size
    have hS3 : w.heap.size + 3 ≤ w3.heap.size := by omega
    refine ⟨by simp, .inl ⟨_, _, rfl, run_takeDeferred hK, ?_⟩⟩
    have hst := h4.step (grownBy_putObj' W D (.deferred none)) (fun r e => by cases e; omega)
    refine ⟨.tuple #[.string ⟨#[]⟩, .bool false], by simp [results, Tryd.results15, go_sem, hst.1, hst.2.2.1], rfl, hst.2.2.2.2⟩

end Go.Proofs.YtndfffningdcgaaDoor.Nm
