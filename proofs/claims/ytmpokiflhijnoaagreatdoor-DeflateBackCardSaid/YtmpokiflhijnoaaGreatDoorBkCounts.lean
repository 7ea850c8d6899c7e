/-
  block.counts: how often each symbol comes.
-/
import Derived.Test.YtmpokiflhijnoaaGreatDoorBkTok
namespace Go.Proofs.YtmpokiflhijnoaaGreatDoor.Bk
open Go.RowKit Go.Shelf Go.Proofs.YtmpokiflhijnoaaGreatDoor.Mg Go.Proofs.YtmpokiflhijnoaaGreatDoor.Bw Go.Proofs.YtmpokiflhijnoaaGreatDoor.Ri
set_option linter.unusedVariables false
set_option linter.unusedSimpArgs false

def bumpI (o : List Int) (i : Nat) : List Int := o.set i (o.getD i 0 + 1)
theorem bumpI_len (o : List Int) (i : Nat) : (bumpI o i).length = o.length := by simp [bumpI]
def stepS (o : List Int) (t : Tok) : List Int := if t.len = 0 then bumpI o t.b.toNat else bumpI o (257 + lenD t.len.toNat)
def stepD (o : List Int) (t : Tok) : List Int := if t.len = 0 then o else bumpI o (dstD t.dist.toNat)
def cntS (ts : List Tok) : List Int := ts.foldl stepS ((List.replicate 286 0).set 256 1)
def cntD (ts : List Tok) : List Int := ts.foldl stepD (List.replicate 30 0)
theorem stepS_len (o : List Int) (t : Tok) : (stepS o t).length = o.length := by
  unfold stepS
  split <;> exact bumpI_len _ _
theorem stepD_len (o : List Int) (t : Tok) : (stepD o t).length = o.length := by
  unfold stepD
  split
  · rfl
  · exact bumpI_len _ _
theorem foldS_len : ∀ (ts : List Tok) (o : List Int), (ts.foldl stepS o).length = o.length
  | [], _ => rfl
  | t :: ts, o => (foldS_len ts _).trans (stepS_len o t)
theorem foldD_len : ∀ (ts : List Tok) (o : List Int), (ts.foldl stepD o).length = o.length
  | [], _ => rfl
  | t :: ts, o => (foldD_len ts _).trans (stepD_len o t)
theorem cntS_len (ts : List Tok) : (cntS ts).length = 286 := (foldS_len ts _).trans (by rw [List.length_set, List.length_replicate])
theorem cntD_len (ts : List Tok) : (cntD ts).length = 30 := (foldD_len ts _).trans (by simp)
theorem cntS_take (ts : List Tok) (k : Nat) (h : k < ts.length) : cntS (ts.take (k + 1)) = stepS (cntS (ts.take k)) ts[k] := by
  rw [List.take_succ_eq_append_getElem h]
  unfold cntS
  rw [List.foldl_append]
  rfl
theorem cntD_take (ts : List Tok) (k : Nat) (h : k < ts.length) : cntD (ts.take (k + 1)) = stepD (cntD (ts.take k)) ts[k] := by
  rw [List.take_succ_eq_append_getElem h]
  unfold cntD
  rw [List.foldl_append]
  rfl
def InB (M : Int) (o : List Int) : Prop := ∀ x ∈ o, 0 ≤ x ∧ x ≤ M
theorem bumpI_in {M : Int} {o : List Int} (h : InB M o) (hM : 0 ≤ M) (i : Nat) : InB (M + 1) (bumpI o i) := by
  intro x hx
  have hg : 0 ≤ o.getD i 0 ∧ o.getD i 0 ≤ M := by
    rcases Nat.lt_or_ge i o.length with h1 | h1
    · rw [show o.getD i 0 = o[i] by simp [List.getD, List.getElem?_eq_getElem h1]]
      exact h _ (List.getElem_mem h1)
    · rw [show o.getD i 0 = 0 by simp [List.getD, List.getElem?_eq_none h1]]
      omega
  rcases List.mem_or_eq_of_mem_set hx with h1 | h1
  · have := h x h1
    omega
  · omega
theorem inB_up {M N : Int} {o : List Int} (h : InB M o) (hMN : M ≤ N) : InB N o := fun x hx => ⟨(h x hx).1, by have := (h x hx).2; omega⟩
theorem stepS_in {M : Int} {o : List Int} (h : InB M o) (hM : 0 ≤ M) (t : Tok) : InB (M + 1) (stepS o t) := by
  unfold stepS
  split <;> exact bumpI_in h hM _
theorem stepD_in {M : Int} {o : List Int} (h : InB M o) (hM : 0 ≤ M) (t : Tok) : InB (M + 1) (stepD o t) := by
  unfold stepD
  split
  · exact inB_up h (by omega)
  · exact bumpI_in h hM _
theorem foldS_in : ∀ (ts : List Tok) (o : List Int) (M : Int), 0 ≤ M → InB M o → InB (M + ts.length) (ts.foldl stepS o)
  | [], o, M, hM, h => by simpa using h
  | t :: ts, o, M, hM, h => by
    have := foldS_in ts (stepS o t) (M + 1) (by omega) (stepS_in h hM t)
    rw [List.foldl_cons, List.length_cons]
    exact inB_up this (by omega)
theorem foldD_in : ∀ (ts : List Tok) (o : List Int) (M : Int), 0 ≤ M → InB M o → InB (M + ts.length) (ts.foldl stepD o)
  | [], o, M, hM, h => by simpa using h
  | t :: ts, o, M, hM, h => by
    have := foldD_in ts (stepD o t) (M + 1) (by omega) (stepD_in h hM t)
    rw [List.foldl_cons, List.length_cons]
    exact inB_up this (by omega)
theorem cntS_in (ts : List Tok) : InB (1 + ts.length) (cntS ts) := foldS_in ts _ 1 (by omega) (by
  intro x hx
  rcases List.mem_or_eq_of_mem_set hx with h | h
  · have := List.eq_of_mem_replicate h; omega
  · omega)
theorem cntD_in (ts : List Tok) : InB (1 + ts.length) (cntD ts) := foldD_in ts _ 1 (by omega) (by
  intro x hx
  have := List.eq_of_mem_replicate hx
  omega)
theorem bump_row {w : World} {B : Nat} {o : List Int} (h : RowI w B o) (i : Nat) (x : Int) (hx : o.getD i 0 = x) : RowI (w.setCell ⟨B, i, none⟩ (.int .i64 (x + 1))) B (bumpI o i) := by
  unfold bumpI
  rw [hx]
  exact h.set i _
theorem row_cell {w : World} {B : Nat} {o : List Int} (h : RowI w B o) (i : Nat) (hi : i < o.length) {M : Int} (hM : InB M o) : ∃ x, o.getD i 0 = x ∧ 0 ≤ x ∧ x ≤ M ∧ w.cell? ⟨B, i, none⟩ = some (.int .i64 x) ∧ w.frozen? ⟨B, i, none⟩ = false := by
  have e : o.getD i 0 = o[i] := by simp [List.getD, List.getElem?_eq_getElem hi]
  obtain ⟨h1, h2⟩ := h.cell i hi
  exact ⟨o[i], e, (hM _ (List.getElem_mem hi)).1, (hM _ (List.getElem_mem hi)).2, h1, h2⟩
theorem row_other {w : World} {B B2 i : Nat} {o : List Int} {v : Value} (h : RowI w B o) (hne : B ≠ B2) : RowI (w.setCell ⟨B2, i, none⟩ v) B o := by
  unfold RowI at *
  rw [heap_setCell_other w ⟨B2, i, none⟩ B v hne]
  exact h
theorem keepR {W W' : World} {b k : Nat} {o : List Int} (hb : Below W.heap.size W W') (h : b ≤ k ∧ k < W.heap.size ∧ RowI W k o) : b ≤ k ∧ k < W'.heap.size ∧ RowI W' k o := ⟨h.1, Nat.lt_of_lt_of_le h.2.1 hb.size, h.2.2.below hb⟩
/-- May a token be counted? -/
def tokIn (t : Tok) : Prop := (t.len = 0 ∧ 0 ≤ t.b ∧ t.b < 256) ∨ (3 ≤ t.len ∧ t.len ≤ 258 ∧ 1 ≤ t.dist ∧ t.dist ≤ 32768)

set_option maxHeartbeats 8000000 in
set_option maxRecDepth 100000 in
theorem counts_calls (A : Option Addr) (c : Nat) (ts : List Tok) (w : World) (hA : TokAt w A ts) (hts : ∀ t ∈ ts, tokIn t) (hn : ts.length ≤ 1000000) :
    Calls Tryz.prog 61 #[.slice A ts.length c] w fun e w' => ∃ B1 B2, e = .returned (.tuple #[.slice (some ⟨B1, 0, none⟩) 286 286, .slice (some ⟨B2, 0, none⟩) 30 30]) ∧ RowI w' B1 (cntS ts) ∧ RowI w' B2 (cntD ts) ∧ B1 ≠ B2 ∧ w.heap.size ≤ B1 ∧ w.heap.size ≤ B2 ∧ Below w.heap.size w w' := by
  obtain ⟨i0, hi, hz0, hz1, hz2⟩ := info_parts info_int
  have hmk : ∀ (n : Nat) (W : World), n ≤ 1000 → (Instr.makeSlice 64 (.int .i64 n) (.int .i64 n)).run Tryz.prog W = .ok (.slice (some ⟨W.heap.size, 0, none⟩) n n) (W.alloc (.cells (cellsI (List.replicate n 0)) 3)) := fun n W hn => by
    have := run_make (P := Tryz.prog) W 64 3 i0 (.int .i64 0) Tryz.underlying64 hi hz0 .i64 .i64 n n (by omega) (by omega) (by rw [hz2]; omega) (by omega)
    rw [← made_cells]
    simpa [hz1, Value.cells] using this
  have HM1 : Hid (∀ W : World, (Instr.makeSlice 64 (.int .i64 286) (.int .i64 286)).run Tryz.prog W = .ok (.slice (some ⟨W.heap.size, 0, none⟩) 286 286) (W.alloc (.cells (cellsI (List.replicate 286 0)) 3))) := Lib.hid (fun W => hmk 286 W (by omega))
  have HM2 : Hid (∀ W : World, (Instr.makeSlice 64 (.int .i64 30) (.int .i64 30)).run Tryz.prog W = .ok (.slice (some ⟨W.heap.size, 0, none⟩) 30 30) (W.alloc (.cells (cellsI (List.replicate 30 0)) 3))) := Lib.hid (fun W => hmk 30 W (by omega))
  have HT : Hid (∀ W, Below w.heap.size w W → TokAt W A ts) := Lib.hid (fun W h => hA.below h)
  have HTS := Lib.hid hts
  have hfd : ∀ (a b c : Value) (W : World), (Instr.field 116 (.agg #[a, b, c]) 0).run Tryz.prog W = .ok a W := fun a b c W => by kernel_rfl
  obtain ⟨n, hn1⟩ : ∃ n, ts.length = n := ⟨_, rfl⟩
  have HN := Lib.hid hn1
  have HSI := Lib.hid (fun k => cntS_in (ts.take k))
  have HDI := Lib.hid (fun k => cntD_in (ts.take k))
  rw [hn1] at hn ⊢
  clear hA hts hmk hi hz0 hz1 hz2 hn1
  go_enter Tryz.func61, Tryz.ntmps61
  go_upto_region 1 with fail
  refine wp_region_at [] 49 (fun a0 L a' wx => ∃ (x8 x9 x4 x5 : Value) (k8 : Nat) (k9 : Nat), a' = putL a0 [(8, x8), (9, x9), (4, x4), (5, x5)] ∧ Hid (L 0 = true → x8 = .slice (some ⟨k8, 0, none⟩) 286 286) ∧ Hid (L 1 = true → x9 = .slice (some ⟨k9, 0, none⟩) 30 30) ∧ Hid (L 2 = true → x4 = .slice (some ⟨k8, 0, none⟩) 286 286) ∧ Hid (L 3 = true → x5 = .slice (some ⟨k9, 0, none⟩) 30 30) ∧ Hid (L 2 = true → L 0 = true) ∧ Hid (L 3 = true → L 1 = true) ∧ Hid (Below w.heap.size w wx) ∧ Hid (L 0 = true → w.heap.size ≤ k8 ∧ k8 < wx.heap.size ∧ RowI wx k8 (List.replicate 286 0)) ∧ Hid (L 1 = true → w.heap.size ≤ k9 ∧ k9 < wx.heap.size ∧ RowI wx k9 (List.replicate 30 0)) ∧ Hid (L 0 = true → L 1 = true → k8 ≠ k9)) (by kernel_rfl) (by kernel_rfl) (by simp) (by simp [Olds, Act.eval]) (fun a0 hn0 => ?_) (fun a0 QQ hn0 ho0 => ?_) (fun L a' wx hall hI => ?_)
  · refine ⟨_, _, _, _, 0, 0, putL_self a0 [8, 9, 4, 5], ?_⟩
    exact ⟨Lib.hid (fun h => by cases h), Lib.hid (fun h => by cases h), Lib.hid (fun h => by cases h), Lib.hid (fun h => by cases h), Lib.hid (fun h => by cases h), Lib.hid (fun h => by cases h), Lib.hid (below_drewN (Below.refl _ _) 1), Lib.hid (fun h => by cases h), Lib.hid (fun h => by cases h), Lib.hid (fun h => by cases h)⟩
  · skip
    refine steps_cons (fun L a' wx KK hK hL hP hI => ?_) ?_
    · obtain ⟨x8, x9, x4, x5, k8, k9, ha, h0, h1, h2, h3, d2, d3, wb, w8, w9, wn⟩ := hI
      have HA := Lib.hid ha
      clear ha
      unfold Oper.wp
      simp only [execOp]
      have hm := HM1.out wx
      go_simp
      exact hK _ _ ⟨.slice (some ⟨wx.heap.size, 0, none⟩) 286 286, x9, x4, x5, wx.heap.size, k9, (by rw [HA.out]; exact putL_setB 8 _ _ rfl rfl a0), Lib.hid (fun _ => rfl), Lib.hid (fun h => h1.out ((upd_other L 0 1 (by decide)).symm.trans h)), Lib.hid (fun h => by have h2 := d2.out ((upd_other L 0 2 (by decide)).symm.trans h); rw [hL] at h2; cases h2), Lib.hid (fun h => h3.out ((upd_other L 0 3 (by decide)).symm.trans h)), Lib.hid (fun _ => upd_same L 0), Lib.hid (fun h => (upd_other L 0 1 (by decide)).trans (d3.out ((upd_other L 0 3 (by decide)).symm.trans h))), Lib.hid (bAlloc wb.out _), Lib.hid (fun _ => ⟨wb.out.size, by simp, heap_new wx _⟩), Lib.hid (fun h => keepR ((Below.refl _ _).alloc (Nat.le_refl _) _) (w9.out ((upd_other L 0 1 (by decide)).symm.trans h))), Lib.hid (fun _ h => Ne.symm (Nat.ne_of_lt (w9.out ((upd_other L 0 1 (by decide)).symm.trans h)).2.1))⟩
    refine steps_cons (fun L a' wx KK hK hL hP hI => ?_) ?_
    · obtain ⟨x8, x9, x4, x5, k8, k9, ha, h0, h1, h2, h3, d2, d3, wb, w8, w9, wn⟩ := hI
      have HA := Lib.hid ha
      clear ha
      unfold Oper.wp
      simp only [execOp]
      have hm := HM2.out wx
      go_simp
      exact hK _ _ ⟨x8, .slice (some ⟨wx.heap.size, 0, none⟩) 30 30, x4, x5, k8, wx.heap.size, (by rw [HA.out]; exact putL_setB 9 _ _ rfl rfl a0), Lib.hid (fun h => h0.out ((upd_other L 1 0 (by decide)).symm.trans h)), Lib.hid (fun _ => rfl), Lib.hid (fun h => h2.out ((upd_other L 1 2 (by decide)).symm.trans h)), Lib.hid (fun h => by have h2 := d3.out ((upd_other L 1 3 (by decide)).symm.trans h); rw [hL] at h2; cases h2), Lib.hid (fun h => (upd_other L 1 0 (by decide)).trans (d2.out ((upd_other L 1 2 (by decide)).symm.trans h))), Lib.hid (fun _ => upd_same L 1), Lib.hid (bAlloc wb.out _), Lib.hid (fun h => keepR ((Below.refl _ _).alloc (Nat.le_refl _) _) (w8.out ((upd_other L 1 0 (by decide)).symm.trans h))), Lib.hid (fun _ => ⟨wb.out.size, by simp, heap_new wx _⟩), Lib.hid (fun h _ => Nat.ne_of_lt (w8.out ((upd_other L 1 0 (by decide)).symm.trans h)).2.1)⟩
    refine steps_cons (fun L a' wx KK hK hL hP hI => ?_) ?_
    · obtain ⟨x8, x9, x4, x5, k8, k9, ha, h0, h1, h2, h3, d2, d3, wb, w8, w9, wn⟩ := hI
      have p0 : L 0 = true := pre_mem hP 0 (by decide)
      obtain rfl := h0.out p0
      have v8 : a'.eval (.tmp 8) = .slice (some ⟨k8, 0, none⟩) 286 286 := by rw [ha]; exact eval_new a0 8 _ (by rw [hn0]; decide) _ (rfl : slotB 8 [(8, .slice (some ⟨k8, 0, none⟩) 286 286), (9, x9), (4, x4), (5, x5)] = _)
      have s8 : a'.tmps[8]?.getD undef = .slice (some ⟨k8, 0, none⟩) 286 286 := by simpa [Act.eval] using v8
      have HA := Lib.hid ha
      clear ha
      unfold Oper.wp
      simp only [execOp, v8]
      go_simp
      exact hK _ _ ⟨.slice (some ⟨k8, 0, none⟩) 286 286, x9, .slice (some ⟨k8, 0, none⟩) 286 286, x5, k8, k9, (by rw [HA.out]; exact putL_setB 4 _ _ rfl rfl a0), Lib.hid (fun h => h0.out ((upd_other L 2 0 (by decide)).symm.trans h)), Lib.hid (fun h => h1.out ((upd_other L 2 1 (by decide)).symm.trans h)), Lib.hid (fun _ => rfl), Lib.hid (fun h => h3.out ((upd_other L 2 3 (by decide)).symm.trans h)), Lib.hid (fun _ => (upd_other L 2 0 (by decide)).trans p0), Lib.hid (fun h => (upd_other L 2 1 (by decide)).trans (d3.out ((upd_other L 2 3 (by decide)).symm.trans h))), wb, Lib.hid (fun h => w8.out ((upd_other L 2 0 (by decide)).symm.trans h)), Lib.hid (fun h => w9.out ((upd_other L 2 1 (by decide)).symm.trans h)), Lib.hid (fun h h2 => wn.out ((upd_other L 2 0 (by decide)).symm.trans h) ((upd_other L 2 1 (by decide)).symm.trans h2))⟩
    refine steps_cons (fun L a' wx KK hK hL hP hI => ?_) ?_
    · obtain ⟨x8, x9, x4, x5, k8, k9, ha, h0, h1, h2, h3, d2, d3, wb, w8, w9, wn⟩ := hI
      have p1 : L 1 = true := pre_mem hP 1 (by decide)
      obtain rfl := h1.out p1
      have v9 : a'.eval (.tmp 9) = .slice (some ⟨k9, 0, none⟩) 30 30 := by rw [ha]; exact eval_new a0 9 _ (by rw [hn0]; decide) _ (rfl : slotB 9 [(8, x8), (9, .slice (some ⟨k9, 0, none⟩) 30 30), (4, x4), (5, x5)] = _)
      have s9 : a'.tmps[9]?.getD undef = .slice (some ⟨k9, 0, none⟩) 30 30 := by simpa [Act.eval] using v9
      have HA := Lib.hid ha
      clear ha
      unfold Oper.wp
      simp only [execOp, v9]
      go_simp
      exact hK _ _ ⟨x8, .slice (some ⟨k9, 0, none⟩) 30 30, x4, .slice (some ⟨k9, 0, none⟩) 30 30, k8, k9, (by rw [HA.out]; exact putL_setB 5 _ _ rfl rfl a0), Lib.hid (fun h => h0.out ((upd_other L 3 0 (by decide)).symm.trans h)), Lib.hid (fun h => h1.out ((upd_other L 3 1 (by decide)).symm.trans h)), Lib.hid (fun h => h2.out ((upd_other L 3 2 (by decide)).symm.trans h)), Lib.hid (fun _ => rfl), Lib.hid (fun h => (upd_other L 3 0 (by decide)).trans (d2.out ((upd_other L 3 2 (by decide)).symm.trans h))), Lib.hid (fun _ => (upd_other L 3 1 (by decide)).trans p1), wb, Lib.hid (fun h => w8.out ((upd_other L 3 0 (by decide)).symm.trans h)), Lib.hid (fun h => w9.out ((upd_other L 3 1 (by decide)).symm.trans h)), Lib.hid (fun h h2 => wn.out ((upd_other L 3 0 (by decide)).symm.trans h) ((upd_other L 3 1 (by decide)).symm.trans h2))⟩
    exact steps_nil
  · obtain ⟨x8, x9, x4, x5, k8, k9, ha, h0, h1, h2, h3, d2, d3, wb, w8, w9, wn⟩ := hI
    rw [ha]
    obtain rfl := h0.out (hall 0 (by decide))
    obtain rfl := h1.out (hall 1 (by decide))
    obtain rfl := h2.out (hall 2 (by decide))
    obtain rfl := h3.out (hall 3 (by decide))
    simp only [putL, List.foldl_cons, List.foldl_nil]
    have R8 := Lib.hid (w8.out (hall 0 (by decide)))
    have R9 := Lib.hid (w9.out (hall 1 (by decide)))
    have RN := Lib.hid (wn.out (hall 0 (by decide)) (hall 1 (by decide)))
    clear w8 w9 wn h0 h1 h2 h3 ha hall
    obtain ⟨c1, f1⟩ := R8.out.2.2.cell 256 (by simp)
    go_simp
    go_wp2_with fail
    have R8' : Hid (RowI (wx.setCell ⟨k8, 256, none⟩ (.int .i64 1)) k8 (cntS [])) := Lib.hid (R8.out.2.2.set 256 1)
    have R9' : Hid (RowI (wx.setCell ⟨k8, 256, none⟩ (.int .i64 1)) k9 (cntD [])) := Lib.hid (row_other R9.out.2.2 RN.out.symm)
    have HB' : Hid (Below w.heap.size w (wx.setCell ⟨k8, 256, none⟩ (.int .i64 1))) := Lib.hid (wb.out.setCell (p := ⟨k8, 256, none⟩) R8.out.1 _)
    obtain ⟨w1, hw1⟩ : ∃ w1, wx.setCell ⟨k8, 256, none⟩ (.int .i64 1) = w1 := ⟨_, rfl⟩
    rw [hw1] at R8' R9' HB' ⊢
    have HK8 := Lib.hid R8.out.1
    have HK9 := Lib.hid R9.out.1
    clear hw1 c1 f1 R8 R9 wb
    go_loopw [14] (fun i wr => ∃ k : Nat, k ≤ n ∧ i = .int .i64 k ∧ RowI wr k8 (cntS (ts.take k)) ∧ RowI wr k9 (cntD (ts.take k)) ∧ Below w.heap.size w wr) (fun i _ => n - (intOf i).toNat)
    case atStart => exact ⟨0, Nat.zero_le _, rfl, R8'.out, R9'.out, HB'.out⟩
    case round =>
      obtain ⟨k, hk, rfl, hr8, hr9, hbl⟩ := hrel
      have H8 := Lib.hid hr8
      have H9 := Lib.hid hr9
      have HB := Lib.hid hbl
      clear hr8 hr9 hbl
      by_cases hlt : k < n
      · have q1 : decide ((k : Int) < (n : Int)) = true := decide_eq_true (by omega)
        have q1' : decide (k < n) = true := decide_eq_true (by omega)
        have k1 : k < ts.length := by rw [HN.out]; exact hlt
        obtain ⟨ga, oa, rfl, h1, h2, h3⟩ := HT.out wr HB.out k k1
        have hok := HTS.out ts[k] (List.getElem_mem _)
        have HSK := Lib.hid (cntS_take ts k k1)
        have HDK := Lib.hid (cntD_take ts k k1)
        have his := HSI.out k
        have hid_ := HDI.out k
        obtain ⟨t, ht⟩ : ∃ t, ts[k] = t := ⟨_, rfl⟩
        rw [ht] at h1 h2 h3 hok HSK HDK
        obtain ⟨tb, tl, td⟩ := t
        simp only at h1 h2 h3
        clear ht
        have hsl : (cntS (ts.take k)).length = 286 := cntS_len _
        have hdl : (cntD (ts.take k)).length = 30 := cntD_len _
        obtain ⟨oS, hoS⟩ : ∃ x, cntS (ts.take k) = x := ⟨_, rfl⟩
        obtain ⟨oD, hoD⟩ : ∃ x, cntD (ts.take k) = x := ⟨_, rfl⟩
        rw [hoS] at H8 HSK his hsl
        rw [hoD] at H9 HDK hid_ hdl
        have hM : (1 : Int) + ((ts.take k).length : Int) ≤ 1000001 := by
          have : (ts.take k).length ≤ k := by rw [List.length_take]; omega
          omega
        have his2 : InB 1000001 oS := inB_up his hM
        have hid2 : InB 1000001 oD := inB_up hid_ hM
        clear hoS hoD his hid_ hM
        rcases hok with ⟨he, hb0, hb1⟩ | ⟨hl3, hl258, hd1, hd32⟩
        · simp only at he hb0 hb1
          subst he
          obtain ⟨s, rfl⟩ : ∃ s : Nat, tb = (s : Int) := ⟨tb.toNat, by omega⟩
          have hs256 : s < 256 := by omega
          have hst : Hid (cntS (ts.take (k + 1)) = bumpI oS s ∧ cntD (ts.take (k + 1)) = oD) := Lib.hid ⟨by rw [HSK.out]; simp [stepS], by rw [HDK.out]; simp [stepD]⟩
          have hbl : Below wr.heap.size wr (wr.alloc (.cells #[.int .u8 s, .int .i64 0, .int .i64 td] 99)) := (Below.refl _ _).alloc (Nat.le_refl _) _
          have h8 := H8.out.below hbl
          have h9 := H9.out.below hbl
          have HB2 := Lib.hid (HB.out.trans (hbl.mono HB.out.size))
          obtain ⟨x, hx, hx0, hxM, cx, fx⟩ := row_cell h8 s (by omega) his2
          have HR8 := Lib.hid (bump_row h8 s x hx)
          have HR9 : Hid (RowI ((wr.alloc (.cells #[.int .u8 s, .int .i64 0, .int .i64 td] 99)).setCell ⟨k8, s, none⟩ (.int .i64 (x + 1))) k9 oD) := Lib.hid (row_other h9 RN.out.symm)
          clear hbl h8 h9 hx
          have hs0 : (0 : Int) ≤ (s : Int) := by omega
          have hs1 : (s : Int) < 286 := by omega
          go_wp2
          go_roundw
          case rel => exact ⟨k + 1, by omega, by go_num, by rw [hst.out.1]; exact HR8.out, by rw [hst.out.2]; exact HR9.out, HB2.out.setCell (p := ⟨k8, s, none⟩) HK8.out _⟩
          case measure => simp [intOf]; omega
        · simp only at hl3 hl258 hd1 hd32
          obtain ⟨nl, rfl⟩ : ∃ nl : Nat, tl = (nl : Int) := ⟨tl.toNat, by omega⟩
          obtain ⟨nd, rfl⟩ : ∃ nd : Nat, td = (nd : Int) := ⟨td.toNat, by omega⟩
          have qz : ((nl : Int) == 0) = false := beq_eq_false_iff_ne.2 (by omega)
          have qz' : (nl == 0) = false := beq_eq_false_iff_ne.2 (by omega)
          obtain ⟨sx, hsx⟩ : ∃ s, 257 + lenD nl = s := ⟨_, rfl⟩
          obtain ⟨sy, hsy⟩ : ∃ s, dstD nd = s := ⟨_, rfl⟩
          have hsx2 : sx < 286 := by have := lenD_lt nl; omega
          have hsy2 : sy < 30 := by have := dstD_lt nd; omega
          have hst : Hid (cntS (ts.take (k + 1)) = bumpI oS sx ∧ cntD (ts.take (k + 1)) = bumpI oD sy) := Lib.hid (by
            refine ⟨?_, ?_⟩
            · rw [HSK.out]
              unfold stepS
              rw [if_neg (show ¬ ((nl : Int) = 0) by omega)]
              simp only [Int.toNat_natCast]
              rw [hsx]
            · rw [HDK.out]
              unfold stepD
              rw [if_neg (show ¬ ((nl : Int) = 0) by omega)]
              simp only [Int.toNat_natCast]
              rw [hsy])
          have HLC : Hid (∀ W, Calls Tryz.prog 59 #[.int .i64 nl] W fun e w' => e = .returned (.agg #[.int .i64 (sx : Int), .int .i64 ((exLen nl).bits : Int), .int .u64 ((exLen nl).val : Int)]) ∧ Below W.heap.size W w') := Lib.hid (fun W => by
            have h := length_calls nl W (by omega) (by omega)
            rw [show (exLen nl).sym = (sx : Int) by rw [← hsx]; rfl] at h
            exact h)
          have HDC : Hid (∀ W, Calls Tryz.prog 60 #[.int .i64 nd] W fun e w' => e = .returned (.agg #[.int .i64 (sy : Int), .int .i64 ((exDst nd).bits : Int), .int .u64 ((exDst nd).val : Int)]) ∧ Below W.heap.size W w') := Lib.hid (fun W => by
            have h := dist_calls nd W (by omega) (by omega)
            rw [show (exDst nd).sym = (sy : Int) by rw [← hsy, ← Nat.zero_add (dstD nd)]; rfl] at h
            exact h)
          generalize (exLen nl).bits = u1 at HLC
          generalize (exLen nl).val = u2 at HLC
          generalize (exDst nd).bits = u3 at HDC
          generalize (exDst nd).val = u4 at HDC
          have hbl : Below wr.heap.size wr (wr.alloc (.cells #[.int .u8 tb, .int .i64 nl, .int .i64 nd] 99)) := (Below.refl _ _).alloc (Nat.le_refl _) _
          have HB2 := Lib.hid (HB.out.trans (hbl.mono HB.out.size))
          have H82 := Lib.hid (H8.out.below hbl)
          have H92 := Lib.hid (H9.out.below hbl)
          have hs0 : (0 : Int) ≤ (sx : Int) := by omega
          have hs1 : (sx : Int) < 286 := by omega
          have ht0 : (0 : Int) ≤ (sy : Int) := by omega
          have ht1 : (sy : Int) < 30 := by omega
          go_upto_region 8 with fail
          obtain ⟨K, hK⟩ : ∃ K, wr.heap.size = K := ⟨_, rfl⟩
          obtain ⟨W1, hW1⟩ : ∃ W1, wr.alloc (.cells #[.int .u8 tb, .int .i64 nl, .int .i64 nd] 99) = W1 := ⟨_, rfl⟩
          have hKc : W1.heap[K]? = some (.cells #[.int .u8 tb, .int .i64 nl, .int .i64 nd] 99 (0, 0)) := by rw [← hW1, ← hK]; exact World.alloc_heap_new _ _
          have hKS : K < W1.heap.size := (Array.getElem?_eq_some_iff.1 hKc).1
          have hk8K : k8 < K ∧ k9 < K := by rw [← hK]; exact ⟨(Array.getElem?_eq_some_iff.1 H8.out).1, (Array.getElem?_eq_some_iff.1 H9.out).1⟩
          rw [hW1] at HB2 H82 H92 ⊢
          rw [hK]
          obtain ⟨ck1, fk1⟩ := cell_at hKc 1 _ rfl
          have HKc := Lib.hid hKc
          clear hW1 hKc hK hbl h1 h2 h3
          go_wp2_with fail
          refine (HLC.out _).mono ?_
          rintro e W2 ⟨rfl, hb2⟩
          have h82 := H82.out.below hb2
          obtain ⟨x, hx, hx0, hxM, cx, fx⟩ := row_cell h82 sx (by omega) his2
          have HR8 := Lib.hid (bump_row h82 sx x hx)
          have HR9 : Hid (RowI (W2.setCell ⟨k8, sx, none⟩ (.int .i64 (x + 1))) k9 oD) := Lib.hid (row_other (H92.out.below hb2) RN.out.symm)
          have HB3 := Lib.hid ((HB2.out.trans (hb2.mono HB2.out.size)).setCell (p := ⟨k8, sx, none⟩) HK8.out (.int .i64 (x + 1)))
          have hKc2 : (W2.setCell ⟨k8, sx, none⟩ (.int .i64 (x + 1))).heap[K]? = some (.cells #[.int .u8 tb, .int .i64 nl, .int .i64 nd] 99 (0, 0)) := by
            rw [heap_setCell_other W2 ⟨k8, sx, none⟩ K _ (by show K ≠ k8; omega)]
            exact (hb2.block K hKS).trans HKc.out
          clear h82 hx hb2 ck1 fk1
          go_upto_region 9 with fail
          obtain ⟨W3, hW3⟩ : ∃ W3, W2.setCell ⟨k8, sx, none⟩ (.int .i64 (x + 1)) = W3 := ⟨_, rfl⟩
          rw [hW3] at HR8 HR9 HB3 hKc2 ⊢
          obtain ⟨ck2, fk2⟩ := cell_at hKc2 2 _ rfl
          clear hW3 cx fx hKc2
          go_wp2_with fail
          refine (HDC.out _).mono ?_
          rintro e W4 ⟨rfl, hb4⟩
          have h92 := HR9.out.below hb4
          obtain ⟨y, hy, hy0, hyM, cy, fy⟩ := row_cell h92 sy (by omega) hid2
          have HS9 := Lib.hid (bump_row h92 sy y hy)
          have HS8 : Hid (RowI (W4.setCell ⟨k9, sy, none⟩ (.int .i64 (y + 1))) k8 (bumpI oS sx)) := Lib.hid (row_other (HR8.out.below hb4) RN.out)
          have HB4 := Lib.hid ((HB3.out.trans (hb4.mono HB3.out.size)).setCell (p := ⟨k9, sy, none⟩) HK9.out (.int .i64 (y + 1)))
          clear h92 hy hb4 ck2 fk2
          go_wp2
          go_roundw
          case rel => exact ⟨k + 1, by omega, by go_num, by rw [hst.out.1]; exact HS8.out, by rw [hst.out.2]; exact HS9.out, HB4.out⟩
          case measure => simp [intOf]; omega
      · obtain rfl : k = n := by omega
        have q1 : decide ((k : Int) < (k : Int)) = false := decide_eq_false (by omega)
        have hfin : ts.take k = ts := List.take_of_length_le (by rw [HN.out]; exact Nat.le_refl _)
        rw [hfin] at H8 H9
        clear hfin
        go_wp2
        go_ret2
        exact ⟨k8, k9, rfl, H8.out, H9.out, RN.out, HK8.out, HK9.out, HB.out⟩
end Go.Proofs.YtmpokiflhijnoaaGreatDoor.Bk
