/-
  canon: assign writes into its own rows alone.
-/
import Derived.Test.YtnoplhjbachjiaaMgCanon2
namespace Go.Proofs.Ytnoplhjbachjiaa.Mg
open Go.ChangeShapes Go.WideShapes Go.ChangeAt Go.RowKit Go.Shelf Go.Proofs
set_option linter.unusedVariables false
set_option linter.unusedSimpArgs false

theorem grown_then {a b c : World} {row : Option Nat} {r : Nat} (h : a.grownBy b row) (k : b.grownBy c (some r)) (hr : a.heap.size ≤ r ∨ row = some r) : a.grownBy c row := by
  refine ⟨k.os.trans h.os, k.tape.trans h.tape, k.output.trans h.output, Nat.le_trans h.size k.size, fun i hi hne => ?_⟩
  refine (k.block i (Nat.lt_of_lt_of_le hi h.size) (fun e => ?_)).trans (h.block i hi hne)
  have e2 : i = r := Option.some.inj e
  subst e2
  rcases hr with hr | hr
  · omega
  · exact hne hr.symm
theorem info_word : (Try.prog.info? 59).map (fun i => (i.zero, i.size, i.bytes)) = some (some (.agg #[.int .u64 0, .int .i64 0]), 2, 16) := by kernel_rfl

theorem cell_set2 (w : World) (g B i j k : Nat) (x y : Value) (h : g ≠ B) : ((w.setCell ⟨B, i, none⟩ x).setCell ⟨B, j, none⟩ y).cell? ⟨g, k, none⟩ = w.cell? ⟨g, k, none⟩ := by
  apply World.cell?_of_block
  show ((w.setCell ⟨B, i, none⟩ x).setCell ⟨B, j, none⟩ y).heap[g]? = w.heap[g]?
  rw [heap_setCell_other _ _ _ _ h, heap_setCell_other _ _ _ _ h]

/-- What 'assign' keeps. -/
structure AsgAt (w0 w : World) (g Wb n N ms : Nat) (A : Option Addr) (c : Nat) (f : Nat → Int) (sv : Value) : Prop where
  code : CodeAt w g (.slice A n c) (.slice (some ⟨Wb, 0, none⟩) n n) sv f
  words : ∃ cs : Array Value, w.heap[Wb]? = some (.cells cs 59 (0, 0)) ∧ cs.size = 2 * n
  syms : ∃ xs, w.ownsRow (Wb + 1) 3 1 sv ms xs
  small : ms ≤ N
  grown : w0.grownBy w (some g)

theorem AsgAt.wcell {w0 w : World} {g Wb n N ms : Nat} {A : Option Addr} {c : Nat} {f : Nat → Int} {sv : Value} (h : AsgAt w0 w g Wb n N ms A c f sv) (s : Nat) (hs : s < n) :
    (∃ x, w.cell? ⟨Wb, s * 2, none⟩ = some x) ∧ (∃ x, w.cell? ⟨Wb, s * 2 + 1, none⟩ = some x) ∧ (∀ k, w.frozen? ⟨Wb, k, none⟩ = false) ∧ Wb < w.heap.size := by
  obtain ⟨cs, h1, h2⟩ := h.words
  have hc : ∀ k, w.cell? ⟨Wb, k, none⟩ = cs[k]? := fun k => by
    simp only [World.cell?]
    rw [h1]
    simp
  refine ⟨⟨cs[s * 2]'(by omega), by rw [hc]; exact Array.getElem?_eq_getElem _⟩, ⟨cs[s * 2 + 1]'(by omega), by rw [hc]; exact Array.getElem?_eq_getElem _⟩, fun k => ?_, (Array.getElem?_eq_some_iff.1 h1).1⟩
  simp only [World.frozen?]
  rw [h1]
  simp

theorem AsgAt.put {w0 w : World} {g Wb n N ms : Nat} {A : Option Addr} {c : Nat} {f : Nat → Int} {sv : Value} (h : AsgAt w0 w g Wb n N ms A c f sv) (hg : g < Wb) (h0 : w0.heap.size ≤ Wb) (i j : Nat) (x y : Value) :
    AsgAt w0 ((w.setCell ⟨Wb, i, none⟩ x).setCell ⟨Wb, j, none⟩ y) g Wb n N ms A c f sv := by
  have hgr : w.grownBy ((w.setCell ⟨Wb, i, none⟩ x).setCell ⟨Wb, j, none⟩ y) (some Wb) := (grown_set w Wb i x).trans (grown_set _ Wb j y)
  obtain ⟨cs, h1, h2⟩ := h.words
  obtain ⟨xs, hx⟩ := h.syms
  refine ⟨h.code.grown hgr (fun e => by have := Option.some.inj e; omega), ⟨_, heap_setCell_same _ Wb j _ _ _ (heap_setCell_same w Wb i _ _ _ h1), by simpa using h2⟩, ⟨xs, hx.kept hgr ?_⟩, h.small, grown_then h.grown hgr (.inl h0)⟩
  rcases ho : sv.ownBlock with _ | r
  · exact .inl rfl
  · right
    intro e
    have h3 := (hx.lt r ho).1
    have h4 : r = Wb := Option.some.inj e
    omega

theorem AsgAt.appCode {w0 w w3 : World} {g Wb n N ms : Nat} {A : Option Addr} {c : Nat} {f : Nat → Int} {sv : Value} (h : AsgAt w0 w g Wb n N ms A c f sv) (hg : g < Wb) (X : Obj) (hgr : (w.alloc X).grownBy w3 sv.ownBlock) :
    CodeAt w3 g (.slice A n c) (.slice (some ⟨Wb, 0, none⟩) n n) sv f := by
  obtain ⟨xs, hx⟩ := h.syms
  refine (h.code.below ((Below.refl _ _).alloc (Nat.le_refl _) X)).grown hgr (fun e => ?_)
  have := (hx.lt g e.symm).1
  omega
theorem AsgAt.app {w0 w w3 : World} {g Wb n N ms : Nat} {A : Option Addr} {c : Nat} {f : Nat → Int} {sv v' : Value} {xs' : List Value} (h : AsgAt w0 w g Wb n N ms A c f sv) (hg : g < Wb) (h0 : w0.heap.size ≤ Wb) (X : Obj) (hgr : (w.alloc X).grownBy w3 sv.ownBlock)
    (ho : w3.ownsRow (Wb + 1) 3 1 v' (ms + 1) xs') : AsgAt w0 (w3.setCell ⟨g, 18, none⟩ v') g Wb n (N + 1) (ms + 1) A c f v' := by
  obtain ⟨xs, hx⟩ := h.syms
  obtain ⟨cs, h1, h2⟩ := h.words
  have hb : Below w.heap.size w (w.alloc X) := (Below.refl _ _).alloc (Nat.le_refl _) X
  have hwl := (Array.getElem?_eq_some_iff.1 h1).1
  have hgs : w3.grownBy (w3.setCell ⟨g, 18, none⟩ v') (some g) := grown_set w3 g 18 v'
  have hws : w.heap.size ≤ w3.heap.size := Nat.le_trans hb.size hgr.size
  refine ⟨(h.appCode hg X hgr).syms v', ⟨cs, ?_, h2⟩, ⟨xs', ho.kept hgs ?_⟩, by have := h.small; omega, ?_⟩
  · rw [heap_setCell_other _ _ _ _ (by simp; omega), hgr.block Wb (Nat.lt_of_lt_of_le hwl hb.size) (fun e => by have := (hx.lt Wb e.symm).1; omega), hb.block Wb hwl]
    exact h1
  · rcases hv : v'.ownBlock with _ | r
    · exact .inl rfl
    · right
      intro e
      have h3 := (ho.lt r hv).1
      have h4 : r = g := Option.some.inj e
      omega
  · refine grown_then ?_ hgs (.inr rfl)
    rcases hv : sv.ownBlock with _ | r
    · rw [hv] at hgr
      refine ⟨hgr.os.trans h.grown.os, hgr.tape.trans h.grown.tape, hgr.output.trans h.grown.output, Nat.le_trans h.grown.size hws, fun i hi hne => ?_⟩
      have hi2 := Nat.lt_of_lt_of_le hi h.grown.size
      rw [hgr.block i (Nat.lt_of_lt_of_le hi2 hb.size) (by simp), hb.block i hi2]
      exact h.grown.block i hi hne
    · rw [hv] at hgr
      refine grown_then (h.grown.trans (World.grownBy_alloc _ _ _)) hgr (.inl ?_)
      have := (hx.lt r hv).1
      omega

set_option maxHeartbeats 8000000 in
set_option maxRecDepth 100000 in
theorem assign_calls (g : Nat) (A : Option Addr) (c : Nat) (ls : List Int) (wv : Value) (f : Nat → Int) (w : World) (hC : CodeAt w g (.slice A ls.length c) wv (.slice none 0 0) f) (hR : ReadsOff w g A ls) (hl : ls.length ≤ 288) :
    Calls Try.prog 21 #[.pointer (some ⟨g, 0, none⟩)] w fun e w' => (∃ v, e = .returned v) ∧ w.grownBy w' (some g) := by
  have HC := Lib.hid hC
  have HR := Lib.hid hR
  obtain ⟨n, hn⟩ : ∃ n, ls.length = n := ⟨_, rfl⟩
  rw [hn] at HC hl
  have HN := Lib.hid hn
  obtain ⟨c0, c1, c18, _, cfr, cg⟩ := HC.out.cell
  have fr1 := cfr 1
  obtain ⟨i0, hi, hz0, hz1, hz2⟩ := info_parts info_word
  have hmk : ∀ W : World, (Instr.makeSlice 43 (.int .i64 n) (.int .i64 n)).run Try.prog W = .ok (.slice (some ⟨W.heap.size, 0, none⟩) n n) (W.alloc (.cells (madeCells #[.int .u64 0, .int .i64 0] (n * 2)) 59)) := fun W => by
    have := run_make (P := Try.prog) W 43 59 i0 (.agg #[.int .u64 0, .int .i64 0]) Try.underlying43 hi hz0 .i64 .i64 n n (by omega) (by omega) (by rw [hz2]; omega) (by omega)
    simpa [hz1, Value.cells] using this
  clear hC hR hn cfr hi hz0 hz1 hz2
  have hii : Try.prog.info? 3 = some ti := by kernel_rfl
  have hiz0 : ti.zero = some (.int .i64 0) := by kernel_rfl
  have hiz1 : ti.size = 1 := by kernel_rfl
  have hiz2 : ti.bytes = 8 := by kernel_rfl
  go_enter Try.func21, Try.ntmps21
  have hwl : (w.setCell ⟨g, 1, none⟩ (.slice (some ⟨w.heap.size, 0, none⟩) n n)).heap.size = w.heap.size := by simp [World.setCell]
  have H0 : Hid (AsgAt w ((w.setCell ⟨g, 1, none⟩ (.slice (some ⟨w.heap.size, 0, none⟩) n n)).alloc (.cells (madeCells #[.int .u64 0, .int .i64 0] (n * 2)) 59)) g w.heap.size n 0 0 A c f (.slice none 0 0)) := Lib.hid {
    code := (HC.out.words _).below ((Below.refl _ _).alloc (Nat.le_refl _) _)
    words := ⟨_, by have h := heap_new (w.setCell ⟨g, 1, none⟩ (.slice (some ⟨w.heap.size, 0, none⟩) n n)) (.cells (madeCells #[.int .u64 0, .int .i64 0] (n * 2)) 59); rw [hwl] at h; exact h, by rw [size_madeCells]; omega⟩
    syms := ⟨[], World.ownsRow_nil _ _ _ _⟩
    small := Nat.le_refl _
    grown := (grown_set w g 1 _).trans (World.grownBy_alloc _ _ _) }
  clear hwl
  go_wp2
  go_loopw [2, 3] (fun nx i wr => ∃ (x : Int) (m ms : Nat) (sv : Value), nx = .int .u64 x ∧ 1 ≤ m ∧ m ≤ 16 ∧ i = .int .i64 m ∧ AsgAt w wr g w.heap.size n ((m - 1) * 288) ms A c f sv) (fun _ i _ => 17 - (intOf i).toNat)
  case atStart => exact ⟨0, 1, 0, _, rfl, Nat.le_refl _, by omega, rfl, H0.out⟩
  case round =>
    obtain ⟨x, m, ms, sv, rfl, hm1, hm2, rfl, hA⟩ := hrel
    have HA := Lib.hid hA
    clear hA
    by_cases hlt : m < 16
    · have q1 : decide ((m : Int) ≤ 15) = true := decide_eq_true (by omega)
      have d0 := HA.out.code.cell.1
      go_wp2
      go_loopw [2, 26] (fun nx i wr => ∃ (x : Int) (k ms : Nat) (sv : Value), nx = .int .u64 x ∧ k ≤ n ∧ i = .int .i64 k ∧ AsgAt w wr g w.heap.size n ((m - 1) * 288 + k) ms A c f sv) (fun _ i _ => n - (intOf i).toNat)
      case atStart => exact ⟨_, 0, ms, sv, rfl, Nat.zero_le _, rfl, HA.out⟩
      case round =>
        obtain ⟨x, k, ms, sv, rfl, hk, rfl, hA⟩ := hrel
        have HA2 := Lib.hid hA
        clear hA d0
        by_cases hkl : k < n
        · have q2 : decide ((k : Int) < (n : Int)) = true := decide_eq_true (by omega)
          have k1 : k < ls.length := by rw [HN.out]; exact hkl
          obtain ⟨gl, ol, rfl, hne, hlw, hcell⟩ := HR.out.grown HA2.out.grown k k1
          obtain ⟨y, hy⟩ : ∃ y, ls[k] = y := ⟨_, rfl⟩
          rw [hy] at hcell
          clear hy
          obtain ⟨d0, d1, d18, _, dfr, dg⟩ := HA2.out.code.cell
          cases h0 : (y == (m : Int)) with
          | false =>
            go_wp2
            go_roundw
            case rel => exact ⟨x, k + 1, ms, sv, rfl, by omega, by go_num, { HA2.out with small := Nat.le_trans HA2.out.small (by omega) }⟩
            case measure => simp [intOf]; omega
          | true =>
            obtain ⟨⟨x1, hx1⟩, ⟨x2, hx2⟩, hxf, hxl⟩ := HA2.out.wcell k hkl
            have xf1 := hxf (k * 2)
            have xf2 := hxf (k * 2 + 1)
            have f0 : (0 : Int) ≤ (k : Int) := by omega
            have f1 : (k : Int) < (n : Int) := by omega
            have hm64 : m ≤ 64 := by omega
            have hgne : g ≠ w.heap.size := Nat.ne_of_lt cg
            clear hxf dfr
            go_wp2_with fail
            go_region_held3 (fun wx => wx.cell? ⟨g, 1, none⟩ = some (.slice (some ⟨w.heap.size, 0, none⟩) n n)) (first | exact d1 | exact (cell_set2 wr g w.heap.size (k * 2) (k * 2 + 1) 1 _ _ hgne).trans d1) (first | (go_at_call 31; refine (turned_calls _ _ _ hm64).mono ?_; rintro e w' ⟨x3, rfl, rfl⟩))
            generalize hwd : World.setCell _ _ _ = wd
            have HA3 : Hid (AsgAt w wd g w.heap.size n ((m - 1) * 288 + k) ms (some ⟨gl, ol, none⟩) c f sv) := Lib.hid (by
              rw [← hwd]
              exact HA2.out.put cg (Nat.le_refl _) _ _ _ _)
            clear hwd d0 d1 d18 hx1 hx2 xf1 xf2 hcell
            obtain ⟨d0, d1, d18, _, dfr, dg⟩ := HA3.out.code.cell
            obtain ⟨xs, hown⟩ := HA3.out.syms
            have hsm := HA3.out.small
            have hws : w.heap.size < wd.heap.size := (HA3.out.wcell k hkl).2.2.2
            clear dfr
            go_wp2_with (at_builtin; refine wpList_append_own _ rfl _ _ 22 rfl (w.heap.size + 1) 3 ti (.int .i64 0) 1 8 Try.underlying22 hii hiz0 hiz1 hiz2 rfl (by decide) _ _ _ rfl (hown.alloc _) ⟨wd.heap.size, 0, none⟩ 1 1 [.int .i64 k] rfl rfl ?c1 ?c2 ?c3 ?c4 ?c5 ?_)
            case c1 => exact cell_one_new _ _ _
            case c2 => simp [Value.oneCell']
            case c3 => unfold maxLen; omega
            case c4 => omega
            case c5 => simp; omega
            intro v' w3 hown1 hg1 _
            obtain ⟨gv, cv, rfl, _, _⟩ := hown1.form (by omega)
            have hg2 : (wd.alloc (.cells #[.int .i64 k] 3)).grownBy w3 sv.ownBlock := ⟨hg1.os, hg1.tape, hg1.output, hg1.size, hg1.block⟩
            have HC3 := HA3.out.appCode cg _ hg2
            obtain ⟨_, _, e18, _, efr, eg⟩ := HC3.cell
            have efr18 := efr 18
            have HA4 := Lib.hid (HA3.out.app cg (Nat.le_refl _) _ hg2 hown1)
            clear d0 d1 d18 hown hown1 hg1 hg2 HC3 efr
            go_wp2
            go_roundw
            case rel => exact ⟨_, k + 1, ms + 1, _, rfl, by omega, by go_num, HA4.out⟩
            case measure => simp [intOf]; omega
        · have hkn : k = n := by omega
          have q2 : decide ((k : Int) < (n : Int)) = false := decide_eq_false (by omega)
          have HA3 : Hid (AsgAt w wr g w.heap.size n ((m + 1 - 1) * 288) ms A c f sv) := Lib.hid { HA2.out with small := Nat.le_trans HA2.out.small (by omega) }
          clear hkn
          go_wp2
          go_roundw
          case rel => exact ⟨x, m + 1, ms, sv, rfl, by omega, by omega, by go_num, HA3.out⟩
          case measure => simp [intOf]; omega
    · obtain rfl : m = 16 := by omega
      go_wp2
      exact bodyPost_end (v := .tuple #[]) (results_none (by kernel_rfl) _ _ _) rfl ⟨⟨_, rfl⟩, HA.out.grown⟩

end Go.Proofs.Ytnoplhjbachjiaa.Mg
