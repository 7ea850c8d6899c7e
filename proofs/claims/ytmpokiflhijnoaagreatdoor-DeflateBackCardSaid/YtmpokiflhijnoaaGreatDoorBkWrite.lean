/-
  block.Write, of the kinds Fixed and Dynamic; and where a block may not be.
-/
import Derived.Test.YtmpokiflhijnoaaGreatDoorBkHead
namespace Go.Proofs.YtmpokiflhijnoaaGreatDoor.Bk
open Go.RowKit Go.Shelf Go.Proofs.YtmpokiflhijnoaaGreatDoor.Mg Go.Proofs.YtmpokiflhijnoaaGreatDoor.Bw Go.Proofs.YtmpokiflhijnoaaGreatDoor.Ri
set_option linter.unusedVariables false
set_option linter.unusedSimpArgs false

theorem tok_in {t : Tok} (h : goodT t = true) (hb : 0 ≤ t.b ∧ t.b < 256) : tokIn t := by
  unfold goodT at h
  split at h
  · rename_i h0
    exact .inl ⟨h0, hb.1, hb.2⟩
  · simp only [Bool.and_eq_true, decide_eq_true_eq] at h
    exact .inr ⟨h.1.1.1.2, h.1.1.2, h.1.2, h.2⟩
theorem tok_fix {t : Tok} (h : tokIn t) : tokOk fixL fixD t := by
  rcases h with h | h
  · exact .inl h
  · refine .inr ⟨h.1, h.2.1, h.2.2.1, h.2.2.2, ?_, ?_⟩
    · have := lenD_lt t.len.toNat
      rw [fixL_len]
      omega
    · have := dstD_lt t.dist.toNat
      show _ < (List.replicate 32 (5 : Int)).length
      rw [List.length_replicate]
      omega
theorem cntS_pos (ts : List Tok) (t : Tok) (ht : t ∈ ts) : (t.len = 0 → 0 ≤ t.b → t.b < 256 → 0 < (cntS ts).getD t.b.toNat 0) ∧ (t.len ≠ 0 → 0 < (cntS ts).getD (257 + lenD t.len.toNat) 0) := by
  obtain ⟨a, b, rfl⟩ := List.append_of_mem ht
  unfold cntS
  rw [List.foldl_append, List.foldl_cons]
  have hl : (a.foldl stepS ((List.replicate 286 0).set 256 1)).length = 286 := (foldS_len a _).trans (by rw [List.length_set, List.length_replicate])
  have hin := foldS_in a ((List.replicate 286 0).set 256 1) 1 (by omega) (by
    intro y hy
    rcases List.mem_or_eq_of_mem_set hy with h | h
    · have := List.eq_of_mem_replicate h; omega
    · omega)
  generalize a.foldl stepS ((List.replicate 286 0).set 256 1) = o at *
  have key : ∀ s, s < 286 → 0 < (bumpI o s).getD s 0 := fun s hs => by
    unfold bumpI
    have h1 : s < o.length := by omega
    have h2 : s < (o.set s (o.getD s 0 + 1)).length := by rw [List.length_set]; exact h1
    rw [getD_of h2, List.getElem_set, if_pos rfl, getD_of h1]
    have := (hin _ (List.getElem_mem h1)).1
    omega
  have hm := foldS_mono
  refine ⟨fun h0 h1 h2 => ?_, fun h0 => ?_⟩
  · refine Int.lt_of_lt_of_le ?_ (foldS_mono _ b _ _ (by omega) (stepS_in hin (by omega) t))
    unfold stepS
    rw [if_pos h0]
    exact key _ (by omega)
  · refine Int.lt_of_lt_of_le ?_ (foldS_mono _ b _ _ (by omega) (stepS_in hin (by omega) t))
    unfold stepS
    rw [if_neg h0]
    exact key _ (by have := lenD_lt t.len.toNat; omega)
theorem foldD_mono (s : Nat) : ∀ (ts : List Tok) (o : List Int) (M : Int), 0 ≤ M → InB M o → o.getD s 0 ≤ (ts.foldl stepD o).getD s 0
  | [], _, _, _, _ => Int.le_refl _
  | t :: ts, o, M, hM, h => by
    refine Int.le_trans ?_ (foldD_mono s ts _ (M + 1) (by omega) (stepD_in h hM t))
    unfold stepD
    split
    · exact Int.le_refl _
    · exact bumpI_get o _ s (inB_pos h)
theorem cntD_pos (ts : List Tok) (t : Tok) (ht : t ∈ ts) (h0 : t.len ≠ 0) : 0 < (cntD ts).getD (dstD t.dist.toNat) 0 := by
  obtain ⟨a, b, rfl⟩ := List.append_of_mem ht
  unfold cntD
  rw [List.foldl_append, List.foldl_cons]
  have hl : (a.foldl stepD (List.replicate 30 0)).length = 30 := (foldD_len a _).trans (by rw [List.length_replicate])
  have hin := foldD_in a (List.replicate 30 0) 0 (by omega) (by
    intro y hy
    have := List.eq_of_mem_replicate hy
    omega)
  generalize a.foldl stepD (List.replicate 30 0) = o at *
  refine Int.lt_of_lt_of_le ?_ (foldD_mono _ b _ _ (by omega) (stepD_in hin (by omega) t))
  unfold stepD
  rw [if_neg h0]
  have h1 : dstD t.dist.toNat < o.length := by have := dstD_lt t.dist.toNat; omega
  unfold bumpI
  have h2 : dstD t.dist.toNat < (o.set (dstD t.dist.toNat) (o.getD (dstD t.dist.toNat) 0 + 1)).length := by rw [List.length_set]; exact h1
  rw [getD_of h2, List.getElem_set, if_pos rfl, getD_of h1]
  have := (hin _ (List.getElem_mem h1)).1
  omega
theorem take_get {l : List Int} {k s : Nat} (h : s < k) : (l.take k).getD s 0 = l.getD s 0 := by
  simp only [List.getD, List.getElem?_take, if_pos h]
/-- A symbol that comes has a word in the Dynamic code. -/
theorem lsD_pos (ts : List Tok) (hn : ts.length ≤ 1000000) (s : Nat) (hs : s < 286) (hp : 0 < (cntS ts).getD s 0) : s < (lsD ts).length ∧ 0 < (lsD ts).getD s 0 := by
  have h1 := strict_pos _ _ (cntS_bad ts hn).1 (cntS_bad ts hn).2 s (by rw [cntS_len]; exact hs) hp
  have h2 := upto_gt (lsX ts) 257 s (by rw [lsX_len]; exact hs) h1
  refine ⟨by rw [(lsD_len ts).1]; exact h2, ?_⟩
  unfold lsD
  rw [take_get h2]
  exact h1
theorem dsD_pos (ts : List Tok) (hn : ts.length ≤ 1000000) (s : Nat) (hs : s < 30) (hp : 0 < (cntD ts).getD s 0) : s < (dsD ts).length ∧ 0 < (dsD ts).getD s 0 := by
  have h1 := (lens_range _ _ (cntD_bad ts hn).1 (cntD_bad ts hn).2 s (by rw [cntD_len]; exact hs)).2.2.2 hp
  have h2 := upto_gt (dsX ts) 1 s (by rw [dsX_len]; exact hs) h1
  refine ⟨by rw [(dsD_len ts).1]; exact h2, ?_⟩
  unfold dsD
  rw [take_get h2]
  exact h1
theorem tok_dyn {ts : List Tok} (hn : ts.length ≤ 1000000) {t : Tok} (ht : t ∈ ts) (h : tokIn t) : tokOk (lsD ts) (dsD ts) t := by
  rcases h with h | h
  · exact .inl h
  · refine .inr ⟨h.1, h.2.1, h.2.2.1, h.2.2.2, ?_, ?_⟩
    · exact (lsD_pos ts hn _ (by have := lenD_lt t.len.toNat; omega) ((cntS_pos ts t ht).2 (by omega))).1
    · exact (dsD_pos ts hn _ (by have := dstD_lt t.dist.toNat; omega) (cntD_pos ts t ht (by omega))).1

/-- The tokens' row: of its own kind, and not the Writer's block. -/
def TokB (w : World) (B : Nat) (A : Option Addr) : Prop := ∀ g o, A = some ⟨g, o, none⟩ → g ≠ B ∧ ∃ cs fr, w.heap[g]? = some (.cells cs 99 fr)
theorem tok_cells {w W : World} {A : Option Addr} {ts : List Tok} (h : TokAt w A ts) (he : ∀ g o, A = some ⟨g, o, none⟩ → W.heap[g]? = w.heap[g]?) : TokAt W A ts := fun j hj => by
  obtain ⟨g, o, e, h1, h2, h3⟩ := h j hj
  have hb := he g o e
  exact ⟨g, o, e, (World.cell?_of_block (a := ⟨g, o + j * 3, none⟩) hb).trans h1, (World.cell?_of_block (a := ⟨g, o + j * 3 + 1, none⟩) hb).trans h2, (World.cell?_of_block (a := ⟨g, o + j * 3 + 2, none⟩) hb).trans h3⟩
theorem tok_wrote {B o base : Nat} {v v' : Value} {w W : World} {bs : List Bool} {A : Option Addr} {ts : List Tok} (hA : TokAt w A ts) (hAB : TokB w B A) (hw : WAt w base B o v bs) (h : Wrote B o v w v' W) : TokAt W A ts ∧ TokB W B A := by
  have key : ∀ g o, A = some ⟨g, o, none⟩ → g ≠ B ∧ ∃ cs fr, w.heap[g]? = some (.cells cs 99 fr) ∧ W.heap[g]? = some (.cells cs 99 fr) := fun g o e => by
    obtain ⟨h1, cs, fr, h2⟩ := hAB g o e
    exact ⟨h1, cs, fr, h2, wrote_block h hw h2 h1 (by decide)⟩
  refine ⟨tok_cells hA (fun g o e => ?_), fun g o e => ?_⟩
  · obtain ⟨_, cs, fr, h1, h2⟩ := key g o e
    exact h2.trans h1.symm
  · obtain ⟨h0, cs, fr, h1, h2⟩ := key g o e
    exact ⟨h0, cs, fr, h2⟩
theorem tokB_below {B : Nat} {w W : World} {A : Option Addr} (h : TokB w B A) (hb : Below w.heap.size w W) : TokB W B A := fun g o e => by
  obtain ⟨h1, cs, fr, h2⟩ := h g o e
  exact ⟨h1, cs, fr, (hb.block g (Array.getElem?_eq_some_iff.1 h2).1).trans h2⟩

/-- The bits of a block of the kinds Fixed and Dynamic. -/
def bodyB (kind : Nat) (ts : List Tok) : List Bool := if kind = 1 then toksB fixL fixD ts ++ wordB fixL 256 else headB ts ++ (toksB (lsD ts) (dsD ts) ts ++ wordB (lsD ts) 256)
def kindB (kind : Nat) (last : Bool) : List Bool := bitsN 3 (2 * kind + if last then 1 else 0)
def blockB (kind : Nat) (last : Bool) (ts : List Tok) : List Bool := kindB kind last ++ bodyB kind ts

set_option maxHeartbeats 2000000 in
set_option maxRecDepth 100000 in
theorem write_bad (kind : Int) (last : Bool) (s : ByteArray) (A : Option Addr) (c : Nat) (ts : List Tok) (p : Option Addr) (w : World) (hA : TokAt w A ts) (hl : ts.length ≤ 140737488351232) (hm : mayB kind s.size ts = false) :
    Calls Tryz.prog 19 #[.pointer p, .int .i64 kind, .bool last, .string s, .slice A ts.length c] w fun e w' => e = .returned (.int .i64 1) ∧ Below w.heap.size w w' := by
  have HM := Lib.hid (may_calls kind s A c ts w hA hl)
  rw [hm] at HM
  have B0 := Lib.hid (Below.refl w.heap.size w)
  clear hA hm
  generalize ts.length = n at *
  cases p with
  | none =>
    go_enter Tryz.func19, Tryz.ntmps19
    go_wp2
    go_ret
    exact ⟨rfl, B0.out⟩
  | some a =>
    go_enter Tryz.func19, Tryz.ntmps19
    go_wp2_with fail
    refine HM.out.mono ?_
    rintro e w1 ⟨rfl, hb⟩
    have HB := Lib.hid hb
    clear hb
    go_wp2
    go_ret
    exact ⟨rfl, HB.out⟩
set_option maxRecDepth 100000 in
theorem write_nil (kind : Int) (last : Bool) (s : ByteArray) (sl : Value) (w : World) :
    Calls Tryz.prog 19 #[.pointer none, .int .i64 kind, .bool last, .string s, sl] w fun e w' => e = .returned (.int .i64 1) ∧ w' = w := by
  go_enter Tryz.func19, Tryz.ntmps19
  go_wp2
  go_ret
  exact ⟨rfl, rfl⟩

theorem headB_le (ts : List Tok) (hn : ts.length ≤ 1000000) : (headB ts).length ≤ 8000 := by
  have h1 := exsB_len (tellD ts) (toldD ts) (told_ok ts hn).1
  have h2 := (told_ok ts hn).2.1
  have h3 := tellGo_le (tellD ts) 19
  unfold headB
  rw [List.length_append, List.length_append, bitsN_len, tellsB_len]
  unfold tellC
  omega

set_option maxHeartbeats 4000000 in
set_option maxRecDepth 100000 in
theorem write1_calls (last : Bool) (s : ByteArray) (A : Option Addr) (c : Nat) (ts : List Tok) (base B o : Nat) (v : Value) (bs : List Bool) (w : World) (hA : TokAt w A ts) (hAB : TokB w B A) (hbyte : ∀ t ∈ ts, 0 ≤ t.b ∧ t.b < 256) (hm : mayB 1 s.size ts = true) (hw : WAt w base B o v bs) (hbs : bs.length ≤ 10000000000) :
    Calls Tryz.prog 19 #[.pointer (some ⟨B, o, none⟩), .int .i64 1, .bool last, .string s, .slice A ts.length c] w fun e w' => e = .returned (.int .i64 0) ∧ ∃ v', WAt w' base B o v' (bs ++ blockB 1 last ts) ∧ Wrote B o v w v' w' := by
  have hm2 := hm
  unfold mayB at hm2
  simp only [Bool.and_eq_true, decide_eq_true_eq, List.all_eq_true] at hm2
  have hn : ts.length ≤ 65535 := hm2.1.2
  have HIN : Hid (∀ t ∈ ts, tokIn t) := Lib.hid (fun t ht => tok_in (hm2.2 t ht) (hbyte t ht))
  have HM := Lib.hid (may_calls 1 s A c ts w hA (by omega))
  rw [hm] at HM
  have HW0 := Lib.hid hw
  have HAT := Lib.hid hA
  have HAB := Lib.hid hAB
  have hkv : kindB 1 last = bitsN 3 (if last then 3 else 2) := by unfold kindB; cases last <;> rfl
  have HKV := Lib.hid hkv
  have hor : Go.bits .or .u64 2 1 = 3 := by decide +kernel
  obtain ⟨n, hn1⟩ : ∃ n, ts.length = n := ⟨_, rfl⟩
  have HN := Lib.hid hn1
  rw [hn1] at HM hn ⊢
  clear hm hm2 hw hA hAB hbyte hkv hn1
  cases last with
  | false =>
    go_enter Tryz.func19, Tryz.ntmps19
    go_wp2_with fail
    refine HM.out.mono ?_
    rintro e w1 ⟨rfl, hb⟩
    have HW1 := Lib.hid (wat_below HW0.out hb)
    have HR1 := Lib.hid (wrote_grow (Wrote.refl B o v w) HW0.out.Bt hb)
    have HA1 := Lib.hid (HAT.out.below hb)
    have HB1 := Lib.hid (tokB_below HAB.out hb)
    have HCW := Lib.hid (write_any base B o v bs 2 3 w1 HW1.out (by omega) (by omega) (by omega))
    clear hb
    go_wp2_with fail
    refine HCW.out.mono ?_
    rintro e w2 ⟨rfl, v2, r1, r2⟩
    have HT2 := Lib.hid (tok_wrote HA1.out HB1.out HW1.out r2)
    have HW2 : Hid (WAt w2 base B o v2 (bs ++ kindB 1 false)) := Lib.hid (by rw [HKV.out]; exact r1)
    have HR2 := Lib.hid (HR1.out.trans r2)
    have HKL : (bs ++ kindB 1 false).length ≤ 10000000003 := by rw [List.length_append]; unfold kindB; rw [bitsN_len]; omega
    clear r1 r2 HCW HW1 HR1 HA1 HB1
    have HFX := Lib.hid (fixed_calls w2)
    go_wp2_with fail
    refine HFX.out.mono ?_
    rintro e w3 ⟨g, rfl, hc, hbl⟩
    have hB3 := HW2.out.Bt
    have HW3 := Lib.hid (wat_below HW2.out hbl)
    have HR3 := Lib.hid (wrote_grow HR2.out HW2.out.Bt hbl)
    have HTK := Lib.hid (tokens_calls w2.heap.size g base B o v2 (bs ++ kindB 1 false) fixL fixD A c ts w3 hc HW3.out hB3 (fun v' W h => (tok_wrote (HT2.out.1.below hbl) (tokB_below HT2.out.2 hbl) HW3.out h).1) (fun t ht => tok_fix (HIN.out t ht)) (by rw [fixL_len]; decide) (by rw [fixL_len]; decide) (by show (List.replicate 32 (5 : Int)).length ≤ _; rw [List.length_replicate]; decide) (by rw [HN.out]; omega) (by omega))
    rw [HN.out] at HTK
    clear hc hbl HFX
    go_wp2_with fail
    refine HTK.out.mono ?_
    rintro e w4 ⟨rfl, v4, r1, r2⟩
    have HF1 : Hid (WAt w4 base B o v4 (bs ++ blockB 1 false ts)) := Lib.hid (by
      have e : bs ++ blockB 1 false ts = bs ++ kindB 1 false ++ toksB fixL fixD ts ++ wordB fixL 256 := by unfold blockB bodyB; rw [if_pos rfl]; simp only [List.append_assoc]
      rw [e]
      exact r1)
    have HF2 := Lib.hid (HR3.out.trans r2)
    clear r1 r2
    go_wp2
    go_ret
    exact ⟨rfl, v4, HF1.out, HF2.out⟩
  | true =>
    go_enter Tryz.func19, Tryz.ntmps19
    go_wp2_with fail
    refine HM.out.mono ?_
    rintro e w1 ⟨rfl, hb⟩
    have HW1 := Lib.hid (wat_below HW0.out hb)
    have HR1 := Lib.hid (wrote_grow (Wrote.refl B o v w) HW0.out.Bt hb)
    have HA1 := Lib.hid (HAT.out.below hb)
    have HB1 := Lib.hid (tokB_below HAB.out hb)
    have HCW := Lib.hid (write_any base B o v bs 3 3 w1 HW1.out (by omega) (by omega) (by omega))
    clear hb
    go_wp2_with fail
    refine HCW.out.mono ?_
    rintro e w2 ⟨rfl, v2, r1, r2⟩
    have HT2 := Lib.hid (tok_wrote HA1.out HB1.out HW1.out r2)
    have HW2 : Hid (WAt w2 base B o v2 (bs ++ kindB 1 true)) := Lib.hid (by rw [HKV.out]; exact r1)
    have HR2 := Lib.hid (HR1.out.trans r2)
    have HKL : (bs ++ kindB 1 true).length ≤ 10000000003 := by rw [List.length_append]; unfold kindB; rw [bitsN_len]; omega
    clear r1 r2 HCW HW1 HR1 HA1 HB1
    have HFX := Lib.hid (fixed_calls w2)
    go_wp2_with fail
    refine HFX.out.mono ?_
    rintro e w3 ⟨g, rfl, hc, hbl⟩
    have hB3 := HW2.out.Bt
    have HW3 := Lib.hid (wat_below HW2.out hbl)
    have HR3 := Lib.hid (wrote_grow HR2.out HW2.out.Bt hbl)
    have HTK := Lib.hid (tokens_calls w2.heap.size g base B o v2 (bs ++ kindB 1 true) fixL fixD A c ts w3 hc HW3.out hB3 (fun v' W h => (tok_wrote (HT2.out.1.below hbl) (tokB_below HT2.out.2 hbl) HW3.out h).1) (fun t ht => tok_fix (HIN.out t ht)) (by rw [fixL_len]; decide) (by rw [fixL_len]; decide) (by show (List.replicate 32 (5 : Int)).length ≤ _; rw [List.length_replicate]; decide) (by rw [HN.out]; omega) (by omega))
    rw [HN.out] at HTK
    clear hc hbl HFX
    go_wp2_with fail
    refine HTK.out.mono ?_
    rintro e w4 ⟨rfl, v4, r1, r2⟩
    have HF1 : Hid (WAt w4 base B o v4 (bs ++ blockB 1 true ts)) := Lib.hid (by
      have e : bs ++ blockB 1 true ts = bs ++ kindB 1 true ++ toksB fixL fixD ts ++ wordB fixL 256 := by unfold blockB bodyB; rw [if_pos rfl]; simp only [List.append_assoc]
      rw [e]
      exact r1)
    have HF2 := Lib.hid (HR3.out.trans r2)
    clear r1 r2
    go_wp2
    go_ret
    exact ⟨rfl, v4, HF1.out, HF2.out⟩

set_option maxHeartbeats 4000000 in
set_option maxRecDepth 100000 in
theorem write2_calls (last : Bool) (s : ByteArray) (A : Option Addr) (c : Nat) (ts : List Tok) (base B o : Nat) (v : Value) (bs : List Bool) (w : World) (hA : TokAt w A ts) (hAB : TokB w B A) (hbyte : ∀ t ∈ ts, 0 ≤ t.b ∧ t.b < 256) (hm : mayB 2 s.size ts = true) (hw : WAt w base B o v bs) (hO : OrdT w) (hO1 : 1 < base) (hO2 : 1 ≠ B) (hbs : bs.length ≤ 10000000000) :
    Calls Tryz.prog 19 #[.pointer (some ⟨B, o, none⟩), .int .i64 2, .bool last, .string s, .slice A ts.length c] w fun e w' => e = .returned (.int .i64 0) ∧ ∃ v', WAt w' base B o v' (bs ++ blockB 2 last ts) ∧ Wrote B o v w v' w' := by
  have hm2 := hm
  unfold mayB at hm2
  simp only [Bool.and_eq_true, decide_eq_true_eq, List.all_eq_true] at hm2
  have hn : ts.length ≤ 65535 := hm2.1.2
  have HIN : Hid (∀ t ∈ ts, tokIn t) := Lib.hid (fun t ht => tok_in (hm2.2 t ht) (hbyte t ht))
  have HM := Lib.hid (may_calls 2 s A c ts w hA (by omega))
  rw [hm] at HM
  have HW0 := Lib.hid hw
  have HAT := Lib.hid hA
  have HAB := Lib.hid hAB
  have hkv : kindB 2 last = bitsN 3 (if last then 5 else 4) := by unfold kindB; cases last <;> rfl
  have HKV := Lib.hid hkv
  have hor : Go.bits .or .u64 4 1 = 5 := by decide +kernel
  have HO := Lib.hid hO
  obtain ⟨n, hn1⟩ : ∃ n, ts.length = n := ⟨_, rfl⟩
  have HN := Lib.hid hn1
  rw [hn1] at HM hn ⊢
  clear hm hm2 hw hA hAB hbyte hkv hn1 hO
  cases last with
  | false =>
    go_enter Tryz.func19, Tryz.ntmps19
    go_wp2_with fail
    refine HM.out.mono ?_
    rintro e w1 ⟨rfl, hb⟩
    have HW1 := Lib.hid (wat_below HW0.out hb)
    have HR1 := Lib.hid (wrote_grow (Wrote.refl B o v w) HW0.out.Bt hb)
    have HA1 := Lib.hid (HAT.out.below hb)
    have HB1 := Lib.hid (tokB_below HAB.out hb)
    have HO1 := Lib.hid (HO.out.below hb (Nat.le_refl _))
    have HCW := Lib.hid (write_any base B o v bs 4 3 w1 HW1.out (by omega) (by omega) (by omega))
    clear hb
    go_wp2_with fail
    refine HCW.out.mono ?_
    rintro e w2 ⟨rfl, v2, r1, r2⟩
    have HT2 := Lib.hid (tok_wrote HA1.out HB1.out HW1.out r2)
    have HO2 := Lib.hid (ord_wrote r2 HW1.out HO1.out hO1 hO2)
    have HW2 : Hid (WAt w2 base B o v2 (bs ++ kindB 2 false)) := Lib.hid (by rw [HKV.out]; exact r1)
    have HR2 := Lib.hid (HR1.out.trans r2)
    have HKL : (bs ++ kindB 2 false).length ≤ 10000000003 := by rw [List.length_append]; unfold kindB; rw [bitsN_len]; omega
    clear r1 r2 HCW HW1 HR1 HA1 HB1
    have HFX := Lib.hid (dyn_calls A c ts w2 HT2.out.1 HIN.out (by rw [HN.out]; omega) HO2.out)
    rw [HN.out] at HFX
    go_wp2_with fail
    refine HFX.out.mono ?_
    rintro e w3 ⟨g, rfl, hc, hbl⟩
    have hB3 := HW2.out.Bt
    have HW3 := Lib.hid (wat_below HW2.out hbl)
    have HR3 := Lib.hid (wrote_grow HR2.out HW2.out.Bt hbl)
    have HT3 := Lib.hid (⟨HT2.out.1.below hbl, tokB_below HT2.out.2 hbl⟩ : TokAt w3 A ts ∧ TokB w3 B A)
    have HC3 := Lib.hid hc
    have HHD := Lib.hid (head_calls w2.heap.size g base B o v2 (bs ++ kindB 2 false) ts w3 hc HW3.out hB3 (by rw [HN.out]; omega) (HO2.out.below hbl (Nat.le_refl _)) hO1 hO2 (by omega))
    clear hc hbl HFX
    go_wp2_with fail
    refine HHD.out.mono ?_
    rintro e w4 ⟨rfl, v4, r1, r2⟩
    have HC4 := Lib.hid (dyn_wrote r2 HW3.out hB3 HC3.out)
    have HT4 := Lib.hid (tok_wrote HT3.out.1 HT3.out.2 HW3.out r2)
    have HW4 := Lib.hid r1
    have HR4 := Lib.hid (HR3.out.trans r2)
    have hl1 := lsD_len ts
    have hl2 := dsD_len ts
    have hhl := headB_le ts (by rw [HN.out]; omega)
    have HTK := Lib.hid (tokens_calls w2.heap.size g base B o v4 (bs ++ kindB 2 false ++ headB ts) (lsD ts) (dsD ts) A c ts w4 HC4.out.coder HW4.out hB3 (fun v' W h => (tok_wrote HT4.out.1 HT4.out.2 HW4.out h).1) (fun t ht => tok_dyn (by rw [HN.out]; omega) ht (HIN.out t ht)) (by omega) (by omega) (by omega) (by rw [HN.out]; omega) (by rw [List.length_append]; omega))
    rw [HN.out] at HTK
    clear r1 r2 HHD hl1 hl2
    go_wp2_with fail
    refine HTK.out.mono ?_
    rintro e w5 ⟨rfl, v5, r1, r2⟩
    have HF1 : Hid (WAt w5 base B o v5 (bs ++ blockB 2 false ts)) := Lib.hid (by
      have e : bs ++ blockB 2 false ts = bs ++ kindB 2 false ++ headB ts ++ toksB (lsD ts) (dsD ts) ts ++ wordB (lsD ts) 256 := by unfold blockB bodyB; rw [if_neg (by decide)]; simp only [List.append_assoc]
      rw [e]
      exact r1)
    have HF2 := Lib.hid (HR4.out.trans r2)
    clear r1 r2
    go_wp2
    go_ret
    exact ⟨rfl, v5, HF1.out, HF2.out⟩
  | true =>
    go_enter Tryz.func19, Tryz.ntmps19
    go_wp2_with fail
    refine HM.out.mono ?_
    rintro e w1 ⟨rfl, hb⟩
    have HW1 := Lib.hid (wat_below HW0.out hb)
    have HR1 := Lib.hid (wrote_grow (Wrote.refl B o v w) HW0.out.Bt hb)
    have HA1 := Lib.hid (HAT.out.below hb)
    have HB1 := Lib.hid (tokB_below HAB.out hb)
    have HO1 := Lib.hid (HO.out.below hb (Nat.le_refl _))
    have HCW := Lib.hid (write_any base B o v bs 5 3 w1 HW1.out (by omega) (by omega) (by omega))
    clear hb
    go_wp2_with fail
    refine HCW.out.mono ?_
    rintro e w2 ⟨rfl, v2, r1, r2⟩
    have HT2 := Lib.hid (tok_wrote HA1.out HB1.out HW1.out r2)
    have HO2 := Lib.hid (ord_wrote r2 HW1.out HO1.out hO1 hO2)
    have HW2 : Hid (WAt w2 base B o v2 (bs ++ kindB 2 true)) := Lib.hid (by rw [HKV.out]; exact r1)
    have HR2 := Lib.hid (HR1.out.trans r2)
    have HKL : (bs ++ kindB 2 true).length ≤ 10000000003 := by rw [List.length_append]; unfold kindB; rw [bitsN_len]; omega
    clear r1 r2 HCW HW1 HR1 HA1 HB1
    have HFX := Lib.hid (dyn_calls A c ts w2 HT2.out.1 HIN.out (by rw [HN.out]; omega) HO2.out)
    rw [HN.out] at HFX
    go_wp2_with fail
    refine HFX.out.mono ?_
    rintro e w3 ⟨g, rfl, hc, hbl⟩
    have hB3 := HW2.out.Bt
    have HW3 := Lib.hid (wat_below HW2.out hbl)
    have HR3 := Lib.hid (wrote_grow HR2.out HW2.out.Bt hbl)
    have HT3 := Lib.hid (⟨HT2.out.1.below hbl, tokB_below HT2.out.2 hbl⟩ : TokAt w3 A ts ∧ TokB w3 B A)
    have HC3 := Lib.hid hc
    have HHD := Lib.hid (head_calls w2.heap.size g base B o v2 (bs ++ kindB 2 true) ts w3 hc HW3.out hB3 (by rw [HN.out]; omega) (HO2.out.below hbl (Nat.le_refl _)) hO1 hO2 (by omega))
    clear hc hbl HFX
    go_wp2_with fail
    refine HHD.out.mono ?_
    rintro e w4 ⟨rfl, v4, r1, r2⟩
    have HC4 := Lib.hid (dyn_wrote r2 HW3.out hB3 HC3.out)
    have HT4 := Lib.hid (tok_wrote HT3.out.1 HT3.out.2 HW3.out r2)
    have HW4 := Lib.hid r1
    have HR4 := Lib.hid (HR3.out.trans r2)
    have hl1 := lsD_len ts
    have hl2 := dsD_len ts
    have hhl := headB_le ts (by rw [HN.out]; omega)
    have HTK := Lib.hid (tokens_calls w2.heap.size g base B o v4 (bs ++ kindB 2 true ++ headB ts) (lsD ts) (dsD ts) A c ts w4 HC4.out.coder HW4.out hB3 (fun v' W h => (tok_wrote HT4.out.1 HT4.out.2 HW4.out h).1) (fun t ht => tok_dyn (by rw [HN.out]; omega) ht (HIN.out t ht)) (by omega) (by omega) (by omega) (by rw [HN.out]; omega) (by rw [List.length_append]; omega))
    rw [HN.out] at HTK
    clear r1 r2 HHD hl1 hl2
    go_wp2_with fail
    refine HTK.out.mono ?_
    rintro e w5 ⟨rfl, v5, r1, r2⟩
    have HF1 : Hid (WAt w5 base B o v5 (bs ++ blockB 2 true ts)) := Lib.hid (by
      have e : bs ++ blockB 2 true ts = bs ++ kindB 2 true ++ headB ts ++ toksB (lsD ts) (dsD ts) ts ++ wordB (lsD ts) 256 := by unfold blockB bodyB; rw [if_neg (by decide)]; simp only [List.append_assoc]
      rw [e]
      exact r1)
    have HF2 := Lib.hid (HR4.out.trans r2)
    clear r1 r2
    go_wp2
    go_ret
    exact ⟨rfl, v5, HF1.out, HF2.out⟩
end Go.Proofs.YtmpokiflhijnoaaGreatDoor.Bk
