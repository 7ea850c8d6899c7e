/-
  block.dynamicCoder: the codes of the kind Dynamic.
-/
import Derived.Test.YtmpokiflhijnoaaGreatDoorBkDynP
namespace Go.Proofs.YtmpokiflhijnoaaGreatDoor.Bk
open Go.RowKit Go.Shelf Go.Proofs.YtmpokiflhijnoaaGreatDoor.Mg Go.Proofs.YtmpokiflhijnoaaGreatDoor.Bw Go.Proofs.YtmpokiflhijnoaaGreatDoor.Ri
set_option linter.unusedVariables false
set_option linter.unusedSimpArgs false

/-- The table of the tellers' order. -/
def OrdT (w : World) : Prop := ∃ cs t fr, w.heap[1]? = some (.cells cs t fr) ∧ ∀ i, i < 19 → cs[i]? = some (.int .i64 (ordT.getD i 0 : Nat))
theorem OrdT.cell {w : World} (h : OrdT w) (i : Nat) (hi : i < 19) : w.cell? ⟨1, i, none⟩ = some (.int .i64 (ordT.getD i 0 : Nat)) := by
  obtain ⟨cs, t, fr, h1, h2⟩ := h
  unfold World.cell?
  simp only
  rw [h1]
  exact h2 i hi
theorem OrdT.lt {w : World} (h : OrdT w) : 1 < w.heap.size := by
  obtain ⟨cs, t, fr, h1, h2⟩ := h
  exact (Array.getElem?_eq_some_iff.1 h1).1
theorem OrdT.below {w w' : World} {b : Nat} (h : OrdT w) (hb : Below b w w') (hl : w.heap.size ≤ b) : OrdT w' := by
  obtain ⟨cs, t, fr, h1, h2⟩ := h
  exact ⟨cs, t, fr, (hb.block _ (Nat.lt_of_lt_of_le (Array.getElem?_eq_some_iff.1 h1).1 hl)).trans h1, h2⟩
theorem OrdT.grown {w w' : World} {G : Nat} (h : OrdT w) (hg : w.grownBy w' (some G)) (hG : 1 ≠ G) : OrdT w' := by
  obtain ⟨cs, t, fr, h1, h2⟩ := h
  exact ⟨cs, t, fr, (hg.block _ (Array.getElem?_eq_some_iff.1 h1).1 (fun e => hG (by cases e; rfl))).trans h1, h2⟩
/-- How far the tellers' loop is. -/
def cellN (w : World) (a : Addr) : Nat := match w.cell? a with
  | some v => (intOf v).toNat
  | none => 0
theorem cellN_of {w : World} {a : Addr} {k : Nat} (h : w.cell? a = some (.int .i64 k)) : cellN w a = k := by
  unfold cellN
  rw [h]
  simp [intOf]
theorem ordT_lt : ∀ i, i < 19 → ordT.getD i 0 < 19 := by decide

theorem grown_below' {w w' : World} {G : Nat} (h : Below w.heap.size w w') : w.grownBy w' (some G) := grown_below _ h
theorem canon_grown {w w' : World} {b g G : Nat} {ls : List Int} {cs : Array Value} {fr : Nat × Nat} (h : CanonAt w b g ls) (hG : w.heap[G]? = some (.cells cs 111 fr)) (hg : w.grownBy w' (some G)) : CanonAt w' b g ls := h.heap (fun k _ hk ⟨cs2, T, fr2, hc, hT⟩ => by
  refine hg.block k hk (fun e => ?_)
  cases e
  rw [hG] at hc
  cases hc
  rcases hT with h | h | h <;> exact absurd h (by decide))
theorem row_grown {w w' : World} {B G : Nat} {o : List Int} (h : RowI w B o) (hg : w.grownBy w' (some G)) (hne : B ≠ G) : RowI w' B o := h.grown hg (fun e => hne (by cases e; rfl))

theorem rdi_take {w : World} {B a : Nat} {o : List Int} (h : RowI w B o) : RdI w B 0 (o.take a) := fun j hj => by
  rw [List.length_take] at hj
  rw [Nat.zero_add, (h.cell j (by omega)).1, List.getElem_take]
theorem rd_row {w : World} {B a c : Nat} {o : List Int} (h : RowI w B o) (ha : a ≤ o.length) (hc : a ≤ c) : Rd w 3 1 (.slice (some ⟨B, 0, none⟩) a c) a (intsV (o.take a)) := by
  refine ⟨by unfold intsV; rw [List.length_map, List.length_take]; omega, B, 0, c, _, _, rfl, hc, h, fun j hj => ?_⟩
  unfold intsV at hj ⊢
  rw [List.length_map, List.length_take] at hj
  rw [Nat.zero_add, List.getElem_map, List.getElem_take]
  unfold cellsI
  simp only [List.getElem?_toArray, List.getElem?_map]
  rw [List.getElem?_eq_getElem (by omega)]
  rfl
theorem exs_len : ∀ l : List Ex, (exsC l).length = l.length * 3
  | [] => rfl
  | x :: l => by
    have : exsC (x :: l) = exC x ++ exsC l := by simp [exsC]
    rw [this, List.length_append, exs_len l, List.length_cons]
    simp only [exC, List.length_cons, List.length_nil]
    omega
theorem exs_get : ∀ (l : List Ex) (k : Nat) (h : k < l.length), (exsC l)[k * 3]? = some (.int .i64 l[k].sym) ∧ (exsC l)[k * 3 + 1]? = some (.int .i64 (l[k].bits : Int)) ∧ (exsC l)[k * 3 + 2]? = some (.int .u64 (l[k].val : Int))
  | [], _, h => by simp at h
  | x :: l, 0, _ => by
    have : exsC (x :: l) = exC x ++ exsC l := by simp [exsC]
    rw [this]
    exact ⟨rfl, rfl, rfl⟩
  | x :: l, k + 1, h => by
    have : exsC (x :: l) = exC x ++ exsC l := by simp [exsC]
    have ih := exs_get l k (by simpa using h)
    have key : ∀ j, (exsC (x :: l))[j + 3]? = (exsC l)[j]? := fun j => by
      rw [this, List.getElem?_append_right (by simp [exC])]
      simp [exC]
    rw [show (k + 1) * 3 = k * 3 + 3 by omega, show k * 3 + 3 + 1 = k * 3 + 1 + 3 by omega, show k * 3 + 3 + 2 = k * 3 + 2 + 3 by omega, key, key, key]
    exact ih
theorem exs_cells {w : World} {g n c : Nat} {l : List Ex} (h : Rd w 116 3 (.slice (some ⟨g, 0, none⟩) n c) n (exsC l)) (k : Nat) (hk : k < l.length) :
    w.cell? ⟨g, k * 3, none⟩ = some (.int .i64 l[k].sym) ∧ w.cell? ⟨g, k * 3 + 1, none⟩ = some (.int .i64 (l[k].bits : Int)) ∧ w.cell? ⟨g, k * 3 + 2, none⟩ = some (.int .u64 (l[k].val : Int)) := by
  obtain ⟨g', o', c', e, -, hc⟩ := h.cell
  cases e
  have h1 := exs_get l k hk
  have hl := exs_len l
  have key : ∀ (j : Nat) (v : Value), (exsC l)[j]? = some v → w.cell? ⟨g, j, none⟩ = some v := fun j v hv => by
    obtain ⟨hj, e⟩ := List.getElem?_eq_some_iff.1 hv
    have := hc j hj
    rw [Nat.zero_add, e] at this
    exact this
  exact ⟨key _ _ h1.1, key _ _ h1.2.1, key _ _ h1.2.2⟩
theorem grown_setG (w : World) (G i : Nat) (v : Value) : w.grownBy (w.setCell ⟨G, i, none⟩ v) (some G) := Mg.grown_set w G i v

/-- The coder of the kind Dynamic. -/
structure DynAt (w : World) (b g : Nat) (ts : List Tok) : Prop where
  ex : ∃ gs gd gt gT cT : Nat, w.heap[g]? = some (.cells #[.pointer (some ⟨gs, 0, none⟩), .pointer (some ⟨gd, 0, none⟩), .pointer (some ⟨gt, 0, none⟩), .slice (some ⟨gT, 0, none⟩) (toldD ts).length cT, .int .i64 (lsD ts).length, .int .i64 (dsD ts).length, .int .i64 (tellC (tellD ts))] 111 (0, 0)) ∧
    CanonAt w b gs (lsD ts) ∧ CanonAt w b gd (dsD ts) ∧ CanonAt w b gt (tellD ts) ∧ Rd w 116 3 (.slice (some ⟨gT, 0, none⟩) (toldD ts).length cT) (toldD ts).length (exsC (toldD ts)) ∧ b ≤ g ∧ b ≤ gT
theorem DynAt.coder {w : World} {b g : Nat} {ts : List Tok} (h : DynAt w b g ts) : CoderAt w b g (lsD ts) (dsD ts) := by
  obtain ⟨gs, gd, gt, gT, cT, h1, h2, h3, h4, h5, h6, h7⟩ := h.ex
  exact ⟨_, gs, gd, h1, rfl, rfl, h6, h2, h3⟩

set_option maxHeartbeats 8000000 in
set_option maxRecDepth 100000 in
theorem dyn_calls (A : Option Addr) (c : Nat) (ts : List Tok) (w : World) (hA : TokAt w A ts) (hts : ∀ t ∈ ts, tokIn t) (hn : ts.length ≤ 1000000) (hO : OrdT w) :
    Calls Tryz.prog 38 #[.slice A ts.length c] w fun e w' => ∃ g, e = .returned (.pointer (some ⟨g, 0, none⟩)) ∧ DynAt w' w.heap.size g ts ∧ Below w.heap.size w w' := by
  have HC := Lib.hid (counts_calls A c ts w hA hts hn)
  have HO := Lib.hid hO
  have HXL := Lib.hid (lsX_len ts)
  have HYL := Lib.hid (dsX_len ts)
  have hl1 := lsD_len ts
  have hl2 := dsD_len ts
  have HLI := Lib.hid (lsD_in ts hn)
  have HDI := Lib.hid (dsD_in ts hn)
  have HLO := Lib.hid (lsD_ok ts hn)
  have HDO := Lib.hid (dsD_ok ts hn)
  have HSB := Lib.hid (cntS_bad ts hn)
  have HDB := Lib.hid (cntD_bad ts hn)
  obtain ⟨a, ha⟩ : ∃ a, uptoP (lsX ts) 257 = a := ⟨_, rfl⟩
  obtain ⟨d, hd⟩ : ∃ d, uptoP (dsX ts) 1 = d := ⟨_, rfl⟩
  have HA' := Lib.hid ha
  have HD' := Lib.hid hd
  have HLS : Hid (lsD ts = (lsX ts).take a) := Lib.hid (by unfold lsD; rw [ha])
  have HDS : Hid (dsD ts = (dsX ts).take d) := Lib.hid (by unfold dsD; rw [hd])
  rw [ha] at hl1
  rw [hd] at hl2
  obtain ⟨hla, a257, a286⟩ := hl1
  obtain ⟨hld, d1, d30⟩ := hl2
  have HLA := Lib.hid hla
  have HLD := Lib.hid hld
  have q1 : (0 : Int) ≤ (a : Int) := by omega
  have q2 : (a : Int) ≤ 286 := by omega
  have q3 : (0 : Int) ≤ (d : Int) := by omega
  have q4 : (d : Int) ≤ 30 := by omega
  obtain ⟨n, hn1⟩ : ∃ n, ts.length = n := ⟨_, rfl⟩
  have HN := Lib.hid hn1
  rw [hn1] at HC ⊢
  clear hA hts hO ha hd hla hld hn1
  go_enter Tryz.func38, Tryz.ntmps38
  go_upto_region 2 with (go_at_call 61; refine HC.out.mono ?_; rintro e w1 ⟨B1, B2, rfl, hr1, hr2, hne, hb1, hb2, hbl⟩)
  have HB1 := Lib.hid hbl
  have H2 := Lib.hid hr2
  have HST := Lib.hid (strict_calls (some ⟨B1, 0, none⟩) 286 (cntS ts) 15 w1 hr1.reads HSB.out.1 HSB.out.2 (by rw [cntS_len]; decide))
  rw [cntS_len] at HST
  clear hbl hr2 hr1 HC
  go_upto_region 3 with (go_at_call 62; refine HST.out.mono ?_; rintro e w2 ⟨Bx, rfl, hrx, hbx, hbl⟩)
  have HB2 := Lib.hid (HB1.out.trans (hbl.mono HB1.out.size))
  have HX2 : Hid (RowI w2 Bx (lsX ts)) := Lib.hid hrx
  have HLN := Lib.hid (lens_ok (some ⟨B2, 0, none⟩) 30 (cntD ts) 15 w2 (H2.out.below hbl).reads HDB.out.1 HDB.out.2)
  rw [cntD_len] at HLN
  have hbx0 : w.heap.size ≤ Bx := Nat.le_trans HB1.out.size hbx
  clear hbl hrx H2 HST HB1 hbx
  go_upto_region 4 with (go_at_call 63; refine HLN.out.mono ?_; rintro e w3 ⟨By, rfl, hbl, hry, hby⟩)
  have HB3 := Lib.hid (HB2.out.trans (hbl.mono HB2.out.size))
  have HY3 : Hid (RowI w3 By (dsX ts)) := Lib.hid hry
  have HX3 := Lib.hid (HX2.out.below hbl)
  have hby0 : w.heap.size ≤ By := Nat.le_trans HB2.out.size hby
  have HUX := Lib.hid (fun W (h : RowI W Bx (lsX ts)) => upto_calls (some ⟨Bx, 0, none⟩) 286 (lsX ts) 257 W h.reads (by rw [HXL.out]; decide))
  have HUY := Lib.hid (fun W (h : RowI W By (dsX ts)) => upto_calls (some ⟨By, 0, none⟩) 30 (dsX ts) 1 W h.reads (by rw [HYL.out]; decide))
  rw [HXL.out, HA'.out] at HUX
  rw [HYL.out, HD'.out] at HUY
  clear hbl hry HX2 HB2 HLN hby
  go_wp2_with fail
  refine (HUX.out _ HX3.out).mono ?_
  rintro e w4 ⟨rfl, rfl⟩
  go_wp2_with fail
  refine (HUY.out _ HY3.out).mono ?_
  rintro e w5 ⟨rfl, rfl⟩
  go_upto_region 5 with fail
  have HGS := Lib.hid HB3.out.size
  obtain ⟨G, hG⟩ : ∃ G, w5.heap.size = G := ⟨_, rfl⟩
  obtain ⟨W5, hW5⟩ : ∃ W5, w5.alloc (.cells #[.pointer none, .pointer none, .pointer none, .slice none 0 0, .int .i64 a, .int .i64 d, .int .i64 0] 111) = W5 := ⟨_, rfl⟩
  have hbl : Below w5.heap.size w5 W5 := by rw [← hW5]; exact (Below.refl _ _).alloc (Nat.le_refl _) _
  have hGc : W5.heap[G]? = some (.cells #[.pointer none, .pointer none, .pointer none, .slice none 0 0, .int .i64 a, .int .i64 d, .int .i64 0] 111 (0, 0)) := by rw [← hW5, ← hG]; exact World.alloc_heap_new _ _
  have hxG : Bx ≠ G := by rw [← hG]; exact Nat.ne_of_lt (Array.getElem?_eq_some_iff.1 HX3.out).1
  have hyG : By ≠ G := by rw [← hG]; exact Nat.ne_of_lt (Array.getElem?_eq_some_iff.1 HY3.out).1
  have hwG : w.heap.size ≤ G := by rw [← hG]; exact HGS.out
  have HB5 := Lib.hid (HB3.out.trans (hbl.mono HB3.out.size))
  have HX5 := Lib.hid (HX3.out.below hbl)
  have HY5 := Lib.hid (HY3.out.below hbl)
  rw [hW5, hG]
  obtain ⟨c4, f4⟩ := cell_at hGc 4 _ rfl
  obtain ⟨c5, f5⟩ := cell_at hGc 5 _ rfl
  have HGc := Lib.hid hGc
  clear hW5 hG hbl hGc HX3 HY3 HB3 f4 f5 HUX HUY HGS
  go_quiet (fail)
  generalize hW : World.drewN _ _ = W6
  have HB6 : Hid (Below w.heap.size w W6) := Lib.hid (by rw [← hW]; exact below_drewN HB5.out _)
  have HX6 : Hid (RowI W6 Bx (lsX ts)) := Lib.hid (by rw [← hW]; exact RowI.below HX5.out (below_drewN (Below.refl _ _) _))
  have HY6 : Hid (RowI W6 By (dsX ts)) := Lib.hid (by rw [← hW]; exact RowI.below HY5.out (below_drewN (Below.refl _ _) _))
  have hGc : W6.heap[G]? = some (.cells #[.pointer none, .pointer none, .pointer none, .slice none 0 0, .int .i64 a, .int .i64 d, .int .i64 0] 111 (0, 0)) := by rw [← hW, heap_drewN]; exact HGc.out
  have HG6 := Lib.hid hGc
  clear hW c4 c5 HB5 HX5 HY5 HGc hGc
  go_upto_region 6 with fail
  have HN6 := Lib.hid (newx_calls Bx 0 a 286 (lsD ts) false W6 HLA.out (by omega) (by rw [HLS.out]; exact rdi_take HX6.out) HLI.out HLO.out.1 HLO.out.2)
  go_wp2_with fail
  refine HN6.out.mono ?_
  rintro e w7 ⟨gs, rfl, hcs, hbb⟩
  have hz := (hbb.block G (Array.getElem?_eq_some_iff.1 HG6.out).1).trans HG6.out
  obtain ⟨c0, f0⟩ := cell_at hz 0 _ rfl
  have HZ := Lib.hid hz
  have HCS := Lib.hid (canon_mono hcs HB6.out.size)
  have HB7 := Lib.hid (HB6.out.trans (hbb.mono HB6.out.size))
  have HX7 := Lib.hid (HX6.out.below hbb)
  have HY7 := Lib.hid (HY6.out.below hbb)
  clear hcs hbb hz HB6 HX6 HY6 HG6 HN6
  go_upto_region 7 with fail
  have hg := grown_setG w7 G 0 (.pointer (some ⟨gs, 0, none⟩))
  have HG8 := Lib.hid (heap_setCell_same w7 G 0 _ _ (.pointer (some ⟨gs, 0, none⟩)) HZ.out)
  have HCS8 := Lib.hid (canon_grown HCS.out HZ.out hg)
  have HX8 := Lib.hid (row_grown HX7.out hg hxG)
  have HY8 := Lib.hid (row_grown HY7.out hg hyG)
  have HB8 := Lib.hid (HB7.out.setCell (p := ⟨G, 0, none⟩) hwG (.pointer (some ⟨gs, 0, none⟩)))
  obtain ⟨W8, hW8⟩ : ∃ W8, w7.setCell ⟨G, 0, none⟩ (.pointer (some ⟨gs, 0, none⟩)) = W8 := ⟨_, rfl⟩
  rw [hW8] at HG8 HCS8 HX8 HY8 HB8 ⊢
  clear hg hW8 HZ HCS HB7 HX7 HY7 c0 f0
  have HN8 := Lib.hid (newx_calls By 0 d 30 (dsD ts) true W8 HLD.out (by omega) (by rw [HDS.out]; exact rdi_take HY8.out) HDI.out HDO.out.1 HDO.out.2)
  go_wp2_with fail
  refine HN8.out.mono ?_
  rintro e w9 ⟨gd, rfl, hcs, hbb⟩
  have hz := (hbb.block G (Array.getElem?_eq_some_iff.1 HG8.out).1).trans HG8.out
  obtain ⟨c0, f0⟩ := cell_at hz 1 _ rfl
  have HZ := Lib.hid hz
  have HCD := Lib.hid (canon_mono hcs HB8.out.size)
  have HCS := Lib.hid (HCS8.out.below hbb)
  have HB9 := Lib.hid (HB8.out.trans (hbb.mono HB8.out.size))
  have HX9 := Lib.hid (HX8.out.below hbb)
  have HY9 := Lib.hid (HY8.out.below hbb)
  clear hcs hbb hz HB8 HX8 HY8 HG8 HN8 HCS8
  go_upto_region 8 with fail
  have hg := grown_setG w9 G 1 (.pointer (some ⟨gd, 0, none⟩))
  have HG10 := Lib.hid (heap_setCell_same w9 G 1 _ _ (.pointer (some ⟨gd, 0, none⟩)) HZ.out)
  have HCS10 := Lib.hid (canon_grown HCS.out HZ.out hg)
  have HCD10 := Lib.hid (canon_grown HCD.out HZ.out hg)
  have HX10 := Lib.hid (row_grown HX9.out hg hxG)
  have HY10 := Lib.hid (row_grown HY9.out hg hyG)
  have HB10 := Lib.hid (HB9.out.setCell (p := ⟨G, 1, none⟩) hwG (.pointer (some ⟨gd, 0, none⟩)))
  obtain ⟨W10, hW10⟩ : ∃ W10, w9.setCell ⟨G, 1, none⟩ (.pointer (some ⟨gd, 0, none⟩)) = W10 := ⟨_, rfl⟩
  rw [hW10] at HG10 HCS10 HCD10 HX10 HY10 HB10 ⊢
  clear hg hW10 HZ HCS HCD HB9 HX9 HY9 c0 f0
  go_wp2_with fail
  obtain ⟨k0, hk0⟩ : ∃ k0, W10.heap.size = k0 := ⟨_, rfl⟩
  obtain ⟨W11, hW11⟩ : ∃ W11, W10.alloc (.cells #[.slice (some ⟨Bx, 0, none⟩) a 286, .slice (some ⟨By, 0, none⟩) d 30] 64) = W11 := ⟨_, rfl⟩
  have hbl : Below W10.heap.size W10 W11 := by rw [← hW11]; exact (Below.refl _ _).alloc (Nat.le_refl _) _
  have hkc : W11.heap[k0]? = some (.cells #[.slice (some ⟨Bx, 0, none⟩) a 286, .slice (some ⟨By, 0, none⟩) d 30] 64 (0, 0)) := by rw [← hW11, ← hk0]; exact World.alloc_heap_new _ _
  rw [hW11, hk0]
  have hX11 := rd_row (HX10.out.below hbl) (a := a) (c := 286) (by rw [HXL.out]; exact a286) a286
  have hY11 := rd_row (HY10.out.below hbl) (a := d) (c := 30) (by rw [HYL.out]; exact d30) d30
  rw [← HLS.out] at hX11
  rw [← HDS.out] at hY11
  have HCT := Lib.hid (ci_calls k0 2 [(.slice (some ⟨Bx, 0, none⟩) a 286, a, intsV (lsD ts)), (.slice (some ⟨By, 0, none⟩) d 30, d, intsV (dsD ts))] W11 (fun j hj => by
    have hj2 : j < 2 := by simpa using hj
    rcases j with _ | _ | j
    · exact (cell_at hkc 0 _ rfl).1
    · exact (cell_at hkc 1 _ rfl).1
    · omega) (fun j hj => by
    have hj2 : j < 2 := by simpa using hj
    rcases j with _ | _ | j
    · exact hX11
    · exact hY11
    · omega) (fun j hj u hu => by
    have hj2 : j < 2 := by simpa using hj
    rcases j with _ | _ | j
    · obtain ⟨x, -, rfl⟩ := List.mem_map.1 hu
      rfl
    · obtain ⟨x, -, rfl⟩ := List.mem_map.1 hu
      rfl
    · omega) (by show 0 < (List.map _ [_, _]).sum; simp; omega) (by show (List.map _ [_, _]).sum ≤ _; simp; omega) (by simp))
  have hsum : ci_sum [((.slice (some ⟨Bx, 0, none⟩) a 286 : Value), a, intsV (lsD ts)), (.slice (some ⟨By, 0, none⟩) d 30, d, intsV (dsD ts))] 2 = a + d := by simp [ci_sum]
  have hcat : ci_cat [((.slice (some ⟨Bx, 0, none⟩) a 286 : Value), a, intsV (lsD ts)), (.slice (some ⟨By, 0, none⟩) d 30, d, intsV (dsD ts))] 2 = intsV (lsD ts ++ dsD ts) := by simp [ci_cat, intsV]
  simp only [List.length_cons, List.length_nil, Nat.zero_add, Nat.reduceAdd] at HCT
  rw [hsum, hcat] at HCT
  have HB11 := Lib.hid (HB10.out.trans (hbl.mono HB10.out.size))
  have HG11 := Lib.hid ((hbl.block G (Array.getElem?_eq_some_iff.1 HG10.out).1).trans HG10.out)
  have HCS11 := Lib.hid (HCS10.out.below hbl)
  have HCD11 := Lib.hid (HCD10.out.below hbl)
  clear hk0 hW11 hbl hkc hX11 hY11 hsum hcat HX10 HY10 HB10 HG10 HCS10 HCD10
  refine HCT.out.mono ?_
  rintro e w12 ⟨vc, rfl, hoc, hbl⟩
  obtain ⟨gc, cc, rfl, _, _⟩ := hoc.form (by omega)
  have HB12 := Lib.hid (HB11.out.trans (hbl.mono HB11.out.size))
  have HG12 := Lib.hid ((hbl.block G (Array.getElem?_eq_some_iff.1 HG11.out).1).trans HG11.out)
  have HCS12 := Lib.hid (HCS11.out.below hbl)
  have HCD12 := Lib.hid (HCD11.out.below hbl)
  have hll : (lsD ts ++ dsD ts).length = a + d := by rw [List.length_append, HLA.out, HLD.out]
  have hrc := rdi_own (n := a + d) hoc
  have HPK := Lib.hid (pack_calls (some ⟨gc, 0, none⟩) cc (lsD ts ++ dsD ts) w12 (fun j hj => ⟨gc, 0, rfl, hrc j hj⟩) (by rw [hll]; omega))
  rw [hll, told_packR ts hn] at HPK
  clear hoc hbl hll hrc HCT HB11 HG11 HCS11 HCD11
  go_wp2_with fail
  refine HPK.out.mono ?_
  rintro e w13 ⟨⟨vt, rfl, hot⟩, hbl⟩
  have htl := told_ok ts hn
  obtain ⟨gT, cT, rfl, _, _⟩ := hot.form (by omega)
  have hgT := hot.lt gT rfl
  have HT13 := Lib.hid (Rd.own hot (by intro e; cases e))
  have hgT0 : w.heap.size ≤ gT := Nat.le_trans HB12.out.size hgT.1
  have hgTG : gT ≠ G := by have := (Array.getElem?_eq_some_iff.1 HG12.out).1; have := hgT.1; omega
  have HB13 := Lib.hid (HB12.out.trans (hbl.mono HB12.out.size))
  have hz := (hbl.block G (Array.getElem?_eq_some_iff.1 HG12.out).1).trans HG12.out
  obtain ⟨c0, f0⟩ := cell_at hz 3 _ rfl
  have HZ := Lib.hid hz
  have HCS13 := Lib.hid (HCS12.out.below hbl)
  have HCD13 := Lib.hid (HCD12.out.below hbl)
  obtain ⟨nT, hnT⟩ : ∃ nT, (toldD ts).length = nT := ⟨_, rfl⟩
  have HNT := Lib.hid hnT
  have HTO := Lib.hid htl.1
  have hnT1 : nT ≤ 316 := by have := htl.2.1; omega
  have hnT2 : 1 ≤ nT := by have := htl.2.2; omega
  rw [hnT] at HT13 ⊢
  clear hot hbl hz HPK HB12 HG12 HCS12 HCD12 hnT htl hgT
  go_upto_region 9 with fail
  have hg := grown_setG w13 G 3 (.slice (some ⟨gT, 0, none⟩) nT cT)
  have HG14 := Lib.hid (heap_setCell_same w13 G 3 _ _ (.slice (some ⟨gT, 0, none⟩) nT cT) HZ.out)
  have HCS14 := Lib.hid (canon_grown HCS13.out HZ.out hg)
  have HCD14 := Lib.hid (canon_grown HCD13.out HZ.out hg)
  have HT14 := Lib.hid (Rd.far HT13.out hg hgTG)
  have HB14 := Lib.hid (HB13.out.setCell (p := ⟨G, 3, none⟩) hwG (.slice (some ⟨gT, 0, none⟩) nT cT))
  obtain ⟨W14, hW14⟩ : ∃ W14, w13.setCell ⟨G, 3, none⟩ (.slice (some ⟨gT, 0, none⟩) nT cT) = W14 := ⟨_, rfl⟩
  rw [hW14] at HG14 HCS14 HCD14 HT14 HB14 ⊢
  clear hg hW14 HZ HCS13 HCD13 HT13 HB13 c0 f0
  obtain ⟨i0, hi, hz0, hz1, hz2⟩ := info_parts info_int
  obtain ⟨Z19, hZ19⟩ : ∃ Z, cellsI (List.replicate 19 0) = Z := ⟨_, rfl⟩
  have hmk : (Instr.makeSlice 64 (.int .i64 19) (.int .i64 19)).run Tryz.prog W14 = .ok (.slice (some ⟨W14.heap.size, 0, none⟩) 19 19) (W14.alloc (.cells Z19 3)) := by
    have := run_make (P := Tryz.prog) W14 64 3 i0 (.int .i64 0) Tryz.underlying64 hi hz0 .i64 .i64 (19 : Nat) (19 : Nat) (by omega) (by omega) (by rw [hz2]; omega) (by omega)
    rw [← hZ19, ← made_cells]
    simpa [hz1, Value.cells] using this
  have HZ19 := Lib.hid hZ19
  clear hi hz0 hz1 hz2 hZ19
  go_upto_region 10 with fail
  obtain ⟨Bo, hBo⟩ : ∃ Bo, W14.heap.size = Bo := ⟨_, rfl⟩
  obtain ⟨W15, hW15⟩ : ∃ W15, W14.alloc (.cells Z19 3) = W15 := ⟨_, rfl⟩
  have hbl : Below W14.heap.size W14 W15 := by rw [← hW15]; exact (Below.refl _ _).alloc (Nat.le_refl _) _
  have HR15 : Hid (RowI W15 Bo (oftenP [])) := Lib.hid (by rw [← hW15, ← hBo, ← HZ19.out]; exact heap_new W14 _)
  have HW15 := Lib.hid hbl
  have HBo := Lib.hid hBo
  rw [hW15, hBo]
  have hGc := (hbl.block G (Array.getElem?_eq_some_iff.1 HG14.out).1).trans HG14.out
  obtain ⟨c3, f3⟩ := cell_at hGc 3 _ rfl
  clear hW15 hbl hBo hGc hmk f3
  go_wp2_with fail
  have hfp : ∀ j, j < nT → ∃ x : Ex, (toldD ts)[j]? = some x := fun j hj => ⟨(toldD ts)[j]'(by rw [HNT.out]; exact hj), List.getElem?_eq_getElem _⟩
  have HFP := Lib.hid hfp
  clear hfp c3
  go_loopw [73] (fun vi wr => ∃ k : Nat, k ≤ nT ∧ vi = .int .i64 k ∧ RowI wr Bo (oftenP ((toldD ts).take k)) ∧ Below W14.heap.size W14 wr) (fun vi _ => nT - (intOf vi).toNat)
  case atStart => exact ⟨0, Nat.zero_le _, rfl, HR15.out, HW15.out⟩
  case round =>
    obtain ⟨k, hk, rfl, hr, hbl⟩ := hrel
    have HR := Lib.hid hr
    have HB := Lib.hid hbl
    clear hr hbl
    by_cases hlt : k < nT
    · have p1 : decide ((k : Int) < (nT : Int)) = true := decide_eq_true (by omega)
      have p1' : decide (k < nT) = true := decide_eq_true (by omega)
      have k1 : k < (toldD ts).length := by rw [HNT.out]; exact hlt
      have HOT := Lib.hid (often_take (toldD ts) k k1)
      have hok := HTO.out (toldD ts)[k] (List.getElem_mem k1)
      obtain ⟨h1, h2, h3⟩ := exs_cells (HT14.out.below HB.out) k k1
      obtain ⟨x, hx⟩ : ∃ x, (toldD ts)[k] = x := ⟨_, rfl⟩
      rw [hx] at h1 h2 h3 HOT hok
      obtain ⟨xs, xb, xv⟩ := x
      obtain ⟨ho0, ho18, hob, hov⟩ := hok
      simp only at h1 h2 h3 ho0 ho18 hob hov
      obtain ⟨s, rfl⟩ : ∃ s : Nat, xs = (s : Int) := ⟨xs.toNat, by omega⟩
      simp only [Int.toNat_natCast] at HOT
      have hin := inB_up (often_in ((toldD ts).take k)) (N := 1000) (by rw [List.length_take]; omega)
      have hol : (oftenP ((toldD ts).take k)).length = 19 := often_len _
      obtain ⟨o, hoo⟩ : ∃ o, oftenP ((toldD ts).take k) = o := ⟨_, rfl⟩
      rw [hoo] at HR HOT hin hol
      have hbl : Below wr.heap.size wr (wr.alloc (.cells #[.int .i64 s, .int .i64 (xb : Int), .int .u64 (xv : Int)] 116)) := (Below.refl _ _).alloc (Nat.le_refl _) _
      have h8 := HR.out.below hbl
      have HB2 := Lib.hid (HB.out.trans (hbl.mono HB.out.size))
      obtain ⟨y, hy, hy0, hyM, cy, fy⟩ := row_cell h8 s (by omega) hin
      have HR8 := Lib.hid (bump_row h8 s y hy)
      have s0 : (0 : Int) ≤ (s : Int) := by omega
      have s1 : (s : Int) < 19 := by omega
      clear hx hoo hbl h8 hy
      go_wp2
      go_roundw
      case rel => exact ⟨k + 1, by omega, by go_num, by rw [HOT.out]; exact HR8.out, HB2.out.setCell (p := ⟨Bo, s, none⟩) (by rw [HBo.out]; exact Nat.le_refl _) _⟩
      case measure => simp [intOf]; omega
    · obtain rfl : k = nT := by omega
      have p1 : decide ((k : Int) < (k : Int)) = false := decide_eq_false (by omega)
      have hfin : (toldD ts).take k = toldD ts := List.take_of_length_le (by rw [HNT.out]; exact Nat.le_refl _)
      rw [hfin] at HR
      clear hfin HR15 HW15
      have HG16 := Lib.hid ((HB.out.block G (Array.getElem?_eq_some_iff.1 HG14.out).1).trans HG14.out)
      have HCS16 := Lib.hid (HCS14.out.below HB.out)
      have HCD16 := Lib.hid (HCD14.out.below HB.out)
      have HT16 := Lib.hid (HT14.out.below HB.out)
      have HB16 := Lib.hid (HB14.out.trans (HB.out.mono HB14.out.size))
      have HOB := often_bad ts hn
      have HST := Lib.hid (strict_calls (some ⟨Bo, 0, none⟩) 19 (oftenP (toldD ts)) 7 wr HR.out.reads HOB.1 HOB.2 (by rw [often_len]; decide))
      rw [often_len] at HST
      clear HOB HG14 HCS14 HCD14 HT14 HB14 HR HB HFP
      go_wp2_with fail
      refine HST.out.mono ?_
      rintro e w17 ⟨Bz, rfl, hrz, hbz, hbl⟩
      have HZ17 : Hid (RowI w17 Bz (tellD ts)) := Lib.hid hrz
      have HG17 := Lib.hid ((hbl.block G (Array.getElem?_eq_some_iff.1 HG16.out).1).trans HG16.out)
      have HCS17 := Lib.hid (HCS16.out.below hbl)
      have HCD17 := Lib.hid (HCD16.out.below hbl)
      have HT17 := Lib.hid (HT16.out.below hbl)
      have HB17 := Lib.hid (HB16.out.trans (hbl.mono HB16.out.size))
      have hzG : Bz ≠ G := by have := (Array.getElem?_eq_some_iff.1 HG16.out).1; omega
      have HZL := Lib.hid (tellD_len ts)
      have HZI := Lib.hid (tellD_in ts hn)
      have HZO := Lib.hid (tellD_ok ts hn)
      have HNZ := Lib.hid (newx_calls Bz 0 19 19 (tellD ts) false w17 HZL.out (by omega) (fun j hj => by rw [Nat.zero_add]; exact (HZ17.out.cell j hj).1) (fun x hx => ⟨(HZI.out x hx).1, by have := (HZI.out x hx).2; omega⟩) HZO.out.1 HZO.out.2)
      clear hrz hbz hbl HST HG16 HCS16 HCD16 HT16 HB16
      go_wp2_with fail
      refine HNZ.out.mono ?_
      rintro e w18 ⟨gt, rfl, hct, hbl⟩
      have hz := (hbl.block G (Array.getElem?_eq_some_iff.1 HG17.out).1).trans HG17.out
      obtain ⟨c2, f2⟩ := cell_at hz 2 _ rfl
      have HZ := Lib.hid hz
      have HCT18 := Lib.hid (canon_mono hct HB17.out.size)
      have HCS18 := Lib.hid (HCS17.out.below hbl)
      have HCD18 := Lib.hid (HCD17.out.below hbl)
      have HT18 := Lib.hid (HT17.out.below hbl)
      have HZ18 := Lib.hid (HZ17.out.below hbl)
      have HB18 := Lib.hid (HB17.out.trans (hbl.mono HB17.out.size))
      clear hct hbl hz HNZ HG17 HCS17 HCD17 HT17 HZ17 HB17
      go_upto_region 17 with fail
      have hg := grown_setG w18 G 2 (.pointer (some ⟨gt, 0, none⟩))
      have HG19 := Lib.hid (heap_setCell_same w18 G 2 _ _ (.pointer (some ⟨gt, 0, none⟩)) HZ.out)
      have HCT19 := Lib.hid (canon_grown HCT18.out HZ.out hg)
      have HCS19 := Lib.hid (canon_grown HCS18.out HZ.out hg)
      have HCD19 := Lib.hid (canon_grown HCD18.out HZ.out hg)
      have HT19 := Lib.hid (Rd.far HT18.out hg hgTG)
      have HZ19' := Lib.hid (row_grown HZ18.out hg hzG)
      have HB19 := Lib.hid (HB18.out.setCell (p := ⟨G, 2, none⟩) hwG (.pointer (some ⟨gt, 0, none⟩)))
      obtain ⟨W19, hW19⟩ : ∃ W19, w18.setCell ⟨G, 2, none⟩ (.pointer (some ⟨gt, 0, none⟩)) = W19 := ⟨_, rfl⟩
      rw [hW19] at HG19 HCT19 HCS19 HCD19 HT19 HZ19' HB19 ⊢
      clear hg hW19 HZ HCT18 HCS18 HCD18 HT18 HZ18 HB18 c2 f2
      obtain ⟨c6, f6⟩ := cell_at HG19.out 6 _ rfl
      have HGr : Hid (∀ j : Nat, W19.grownBy (W19.setCell ⟨G, 6, none⟩ (.int .i64 j)) (some G)) := Lib.hid (fun j => grown_setG W19 G 6 _)
      have HGc : Hid (∀ j : Nat, (W19.setCell ⟨G, 6, none⟩ (.int .i64 j)).heap[G]? = some (.cells #[.pointer (some ⟨gs, 0, none⟩), .pointer (some ⟨gd, 0, none⟩), .pointer (some ⟨gt, 0, none⟩), .slice (some ⟨gT, 0, none⟩) k cT, .int .i64 a, .int .i64 d, .int .i64 j] 111 (0, 0))) := Lib.hid (fun j => heap_setCell_same W19 G 6 _ _ (.int .i64 j) HG19.out)
      have H19 : Hid ((W19.setCell ⟨G, 6, none⟩ (.int .i64 (19 : Nat))).heap[G]? = some (.cells #[.pointer (some ⟨gs, 0, none⟩), .pointer (some ⟨gd, 0, none⟩), .pointer (some ⟨gt, 0, none⟩), .slice (some ⟨gT, 0, none⟩) k cT, .int .i64 a, .int .i64 d, .int .i64 (19 : Nat)] 111 (0, 0))) := Lib.hid (HGc.out 19)
      have HO19 := Lib.hid (HO.out.below HB19.out (Nat.le_refl _))
      have hoG : 1 ≠ G := by have := HO.out.lt; omega
      have HG0 := Lib.hid (HGr.out 19)
      go_wp2_with fail
      have HTC : Hid (tellGo (tellD ts) 19 = tellC (tellD ts)) := Lib.hid rfl
      go_loopw [] (fun wq => ∃ k2 : Nat, 4 ≤ k2 ∧ k2 ≤ 19 ∧ tellGo (tellD ts) k2 = tellC (tellD ts) ∧ wq.heap[G]? = some (.cells #[.pointer (some ⟨gs, 0, none⟩), .pointer (some ⟨gd, 0, none⟩), .pointer (some ⟨gt, 0, none⟩), .slice (some ⟨gT, 0, none⟩) k cT, .int .i64 a, .int .i64 d, .int .i64 k2] 111 (0, 0)) ∧ W19.grownBy wq (some G)) (fun wq => cellN wq ⟨G, 6, none⟩)
      case atStart => exact ⟨19, by omega, by omega, HTC.out, H19.out, HG0.out⟩
      case round =>
        obtain ⟨k2, hk4, hk19, htg, hgc, hgr⟩ := hrel
        have HTG := Lib.hid htg
        have HGQ := Lib.hid hgc
        have HGB := Lib.hid hgr
        obtain ⟨c6, f6⟩ := cell_at hgc 6 _ rfl
        have HCN := Lib.hid (cellN_of c6)
        have hor := HO19.out.grown hgr hoG
        have hzr := row_grown HZ19'.out hgr hzG
        clear htg hgc hgr
        by_cases h4 : 4 < k2
        · have r1 : decide ((4 : Int) < (k2 : Int)) = true := decide_eq_true (by omega)
          have r1' : decide (4 < k2) = true := decide_eq_true h4
          obtain ⟨m, rfl⟩ : ∃ m, k2 = m + 1 := ⟨k2 - 1, by omega⟩
          have hoc := hor.cell m (by omega)
          have hos := ordT_lt m (by omega)
          obtain ⟨os, hos2⟩ : ∃ os, ordT.getD m 0 = os := ⟨_, rfl⟩
          rw [hos2] at hoc hos
          have hzl : os < (tellD ts).length := by rw [HZL.out]; exact hos
          obtain ⟨hzc, hzf⟩ := hzr.cell os hzl
          have hzd : (tellD ts).getD os 0 = (tellD ts)[os] := getD_of hzl
          obtain ⟨y, hy⟩ : ∃ y, (tellD ts)[os] = y := ⟨_, rfl⟩
          rw [hy] at hzc hzd
          have e2 : (m : Int) + 1 - 1 = (m : Int) := by omega
          have e3 : wrap64 ((m : Int) + 1 - 1) = (m : Int) := by unfold wrap64; omega
          have m0 : (0 : Int) ≤ (m : Int) := by omega
          have m1 : (m : Int) < 19 := by omega
          have o0 : (0 : Int) ≤ (os : Int) := by omega
          have o1 : (os : Int) < 19 := by omega
          have r2 : decide ((4 : Int) < (m : Int) + 1) = true := decide_eq_true (by omega)
          have HOS := Lib.hid hos2
          clear hy hor hzr hzf hos2
          by_cases h0 : y = 0
          · have r3 : (y == 0) = true := beq_iff_eq.2 h0
            have HNx : Hid (tellGo (tellD ts) m = tellC (tellD ts)) := Lib.hid (by
              have h := HTG.out
              rw [tellGo, if_pos ⟨h4, by rw [HOS.out, hzd]; exact h0⟩] at h
              exact h)
            have HGs := Lib.hid (heap_setCell_same wr G 6 _ _ (.int .i64 (m : Int)) HGQ.out)
            have HGg := Lib.hid (HGB.out.trans (grown_setG wr G 6 (.int .i64 (m : Int))))
            clear hzd
            go_wp2
            go_roundw
            case rel => exact ⟨m, by omega, by omega, HNx.out, HGs.out, HGg.out⟩
            case measure =>
              rw [HCN.out, cellN_of (cell_at HGs.out 6 _ rfl).1]
              omega
          · have r3 : (y == 0) = false := beq_eq_false_iff_ne.2 h0
            have HNx : Hid (m + 1 = tellC (tellD ts)) := Lib.hid (by
              have h := HTG.out
              rw [tellGo, if_neg (fun hh => h0 (by rw [← hzd, ← HOS.out]; exact hh.2))] at h
              exact h)
            clear hzd
            go_wp2
            go_ret
            refine ⟨G, rfl, ⟨⟨gs, gd, gt, gT, cT, ?_, canon_grown HCS19.out HG19.out HGB.out, canon_grown HCD19.out HG19.out HGB.out, canon_grown HCT19.out HG19.out HGB.out, ?_, hwG, hgT0⟩⟩, HB19.out.grown HGB.out HB19.out.size (fun r e => by cases e; exact hwG)⟩
            · rw [HNT.out, HLA.out, HLD.out, ← HNx.out]
              exact HGQ.out
            · rw [HNT.out]
              exact Rd.far HT19.out HGB.out hgTG
        · obtain rfl : k2 = 4 := by omega
          have r1 : decide ((4 : Int) < ((4 : Nat) : Int)) = false := by decide
          have HNx : Hid (4 = tellC (tellD ts)) := Lib.hid (by
            have h := HTG.out
            rw [tellGo, if_neg (fun hh => by omega)] at h
            exact h)
          clear hor hzr
          go_wp2
          go_ret
          refine ⟨G, rfl, ⟨⟨gs, gd, gt, gT, cT, ?_, canon_grown HCS19.out HG19.out HGB.out, canon_grown HCD19.out HG19.out HGB.out, canon_grown HCT19.out HG19.out HGB.out, ?_, hwG, hgT0⟩⟩, HB19.out.grown HGB.out HB19.out.size (fun r e => by cases e; exact hwG)⟩
          · rw [HNT.out, HLA.out, HLD.out, ← HNx.out]
            exact HGQ.out
          · rw [HNT.out]
            exact Rd.far HT19.out HGB.out hgTG
end Go.Proofs.YtmpokiflhijnoaaGreatDoor.Bk
