/-
  match.Tokens: the tokens of a text, at a level.
-/
import Derived.Test.YtmpokiflhijnoaaGreatDoorMtTok
import Derived.Test.YtmpokiflhijnoaaGreatDoorTkA
namespace Go.Proofs.YtmpokiflhijnoaaGreatDoor.Mt
open Go.RowKit Go.Shelf Go.Proofs.YtmpokiflhijnoaaGreatDoor.Mg Go.Proofs.YtmpokiflhijnoaaGreatDoor.Bw Go.Proofs.YtmpokiflhijnoaaGreatDoor.Bk Go.Proofs.YtmpokiflhijnoaaGreatDoor.Cn Go.Proofs.YtmpokiflhijnoaaGreatDoor.Zp Go.Proofs.YtmpokiflhijnoaaGreatDoor.Rf
set_option linter.unusedVariables false
set_option linter.unusedSimpArgs false

def depT : List Nat := [0, 4, 8, 16, 16, 32, 64, 128, 512, 1073741824]
theorem depT_le : ∀ i, i < 10 → depT.getD i 0 ≤ 1073741824 := by decide
def DepT (w : World) : Prop := ∃ cs t fr, w.heap[0]? = some (.cells cs t fr) ∧ ∀ i, i < 10 → cs[i]? = some (.int .i64 (depT.getD i 0 : Nat))
theorem DepT.cell {w : World} (h : DepT w) (i : Nat) (hi : i < 10) : w.cell? ⟨0, i, none⟩ = some (.int .i64 (depT.getD i 0 : Nat)) := by
  obtain ⟨cs, t, fr, hg, hc⟩ := h
  unfold World.cell?
  rw [hg]
  exact hc i hi
theorem DepT.lt {w : World} (h : DepT w) : 0 < w.heap.size := by
  obtain ⟨cs, t, fr, hg, hc⟩ := h
  exact (Array.getElem?_eq_some_iff.1 hg).1
theorem DepT.below {w w' : World} {b : Nat} (h : DepT w) (hb : Below b w w') (hl : 0 < b) : DepT w' := by
  obtain ⟨cs, t, fr, hg, hc⟩ := h
  exact ⟨cs, t, fr, (hb.block _ hl).trans hg, hc⟩
theorem newE_ahead (t : ByteArray) (n : Nat) : Ahead (newE t n).1 (newE t n).2 n := by
  have h := ahead_entn (t := strN t) (hs := hashV (strN t)) (ahead_zero t.size) n
  rw [Nat.zero_add] at h
  exact h
/-- The tokens of s behind a, at a level. -/
def tokP (a s : ByteArray) (level : Nat) : List Tok :=
  if level = 0 then byT (strN s)
  else tokGo (strN (a ++ s)) (hashV (strN (a ++ s))) (depT.getD level 0) (decide (4 ≤ level)) ((strN (a ++ s)).length - a.size) a.size (newE (a ++ s) a.size).1 (newE (a ++ s) a.size).2
theorem intsN_strN (s : ByteArray) : intsN (strN s) = strI s := rfl
/-- What they tell: the text; each may be; at most one a byte. -/
theorem tokP_ok (a s : ByteArray) (level : Nat) :
    expTs (strI a) (tokP a s level) = strI a ++ strI s ∧ fitTs (strI a) (tokP a s level) ∧ (∀ x ∈ tokP a s level, tokIn x ∧ goodT x = true ∧ 0 ≤ x.b ∧ x.b < 256) ∧ (tokP a s level).length ≤ s.size := by
  unfold tokP
  split
  · refine ⟨exp_by _ _, fit_by _ _, in_by _ (strN_lt s), ?_⟩
    rw [byT_len, strN_len]
    exact Nat.le_refl _
  · have hl : (strN (a ++ s)).length = a.size + s.size := by rw [strN_len, ByteArray.size_append]
    obtain ⟨h1, h2, h3, h4⟩ := tokGo_ok (strN (a ++ s)) (hashV (strN (a ++ s))) (depT.getD level 0) (decide (4 ≤ level)) (strN_lt _) ((strN (a ++ s)).length - a.size) a.size _ _ (newE_ahead (a ++ s) a.size) (by omega) (by omega)
    have e : intsN ((strN (a ++ s)).take a.size) = strI a := by
      rw [strN_append, List.take_append_of_le_length (by rw [strN_len]; omega), List.take_of_length_le (by rw [strN_len]; omega)]
      rfl
    rw [e] at h1 h2
    refine ⟨?_, h2, h3, by omega⟩
    rw [h1, strN_append]
    unfold intsN strI
    rw [List.map_append]

/-- A row of tokens, of which the first k are bytes. -/
def zeroT (l : List Nat) (k : Nat) : List Tok := byT (l.take k) ++ List.replicate (l.length - k) ⟨0, 0, 0⟩
theorem zeroT_len (l : List Nat) (k : Nat) (h : k ≤ l.length) : (zeroT l k).length = l.length := by
  unfold zeroT
  rw [List.length_append, byT_len, List.length_take, List.length_replicate]
  omega
theorem zeroT_end (l : List Nat) : zeroT l l.length = byT l := by
  unfold zeroT
  rw [List.take_length, Nat.sub_self, List.replicate_zero, List.append_nil]
theorem toksC_app (a b : List Tok) : toksC (a ++ b) = toksC a ++ toksC b := List.flatMap_append
theorem set_third {a b : List Value} {k : Nat} {x y z : Value} (h : a.length = k * 3) (v : Value) : (a ++ ([x, y, z] ++ b)).toArray.setIfInBounds (k * 3) v = (a ++ ([v, y, z] ++ b)).toArray := by
  apply Array.ext'
  rw [Array.toList_setIfInBounds]
  show (a ++ ([x, y, z] ++ b)).set (k * 3) v = _
  rw [← h, List.set_append_right _ _ (Nat.le_refl _), Nat.sub_self]
  rfl
theorem zeroT_next (l : List Nat) (k : Nat) (h : k < l.length) : (toksC (zeroT l k)).toArray.setIfInBounds (k * 3) (.int .u8 ((l.getD k 0 : Nat) : Int)) = (toksC (zeroT l (k + 1))).toArray := by
  unfold zeroT
  rw [show l.length - k = (l.length - (k + 1)) + 1 by omega, List.replicate_succ, List.take_succ_eq_append_getElem h]
  have e : byT (l.take k ++ [l[k]]) = byT (l.take k) ++ [⟨(l[k] : Nat), 0, 0⟩] := byT_snoc _ _
  rw [e, toksC_app, toksC_app, toksC_app]
  have e2 : toksC ((⟨0, 0, 0⟩ : Tok) :: List.replicate (l.length - (k + 1)) ⟨0, 0, 0⟩) = [.int .u8 0, .int .i64 0, .int .i64 0] ++ toksC (List.replicate (l.length - (k + 1)) ⟨0, 0, 0⟩) := rfl
  rw [e2, set_third (by rw [toksC_len, byT_len, List.length_take]; omega)]
  rw [List.getD_eq_getElem?_getD, List.getElem?_eq_getElem h, List.append_assoc]
  rfl
theorem made_toks (n : Nat) : madeCells #[.int .u8 0, .int .i64 0, .int .i64 0] (n * 3) = (toksC (List.replicate n ⟨0, 0, 0⟩)).toArray := by
  apply Array.ext_getElem?
  intro i
  by_cases hi : i < n * 3
  · have h1 : (toksC (List.replicate n ⟨0, 0, 0⟩))[i / 3 * 3 + i % 3]? = (tokC ⟨0, 0, 0⟩)[i % 3]? := by
      have := toksC_get (List.replicate n ⟨0, 0, 0⟩) (i / 3) (by rw [List.length_replicate]; omega) (i % 3) (by omega)
      rw [this, List.getElem_replicate]
    rw [show i / 3 * 3 + i % 3 = i by omega] at h1
    have e2 : (toksC (List.replicate n ⟨0, 0, 0⟩)).toArray[i]? = (toksC (List.replicate n ⟨0, 0, 0⟩))[i]? := by simp
    rw [e2, h1]
    unfold madeCells
    simp only [Array.getElem?_map, Array.getElem?_range, hi, if_true, Option.map_some]
    rcases (by omega : i % 3 = 0 ∨ i % 3 = 1 ∨ i % 3 = 2) with h | h | h <;> simp [h, tokC]
  · rw [Array.getElem?_eq_none (by rw [size_madeCells]; omega), Array.getElem?_eq_none (by rw [List.size_toArray, toksC_len, List.length_replicate]; omega)]

def ToksAt (a s : ByteArray) (level : Nat) (w : World) (e : Ending) (w' : World) : Prop :=
  ∃ v, e = .returned (.tuple #[v, .int .i64 0]) ∧ w'.ownsRow w.heap.size 99 3 v (tokP a s level).length (toksC (tokP a s level)) ∧ Below w.heap.size w w'

set_option maxHeartbeats 2000000 in
set_option maxRecDepth 100000 in
theorem tokens_any (a s : ByteArray) (level : Nat) (w : World) (h0 : level ≠ 0) (h9 : level ≤ 9) (ha : a.size ≤ 32768) (hs : s.size ≤ 60000) (hD : DepT w) :
    Calls Tryz.prog 30 #[.string a, .string s, .int .i64 level] w fun e w' => ToksAt a s level w e w' := by
  have hdc := hD.cell level (by omega)
  have hdl := depT_le level (by omega)
  obtain ⟨d, hd⟩ : ∃ d, depT.getD level 0 = d := ⟨_, rfl⟩
  have HTP : Hid (tokP a s level = tokGo (strN (a ++ s)) (hashV (strN (a ++ s))) d (decide (4 ≤ level)) ((strN (a ++ s)).length - a.size) a.size (newE (a ++ s) a.size).1 (newE (a ++ s) a.size).2) := Lib.hid (by
    unfold tokP
    rw [if_neg h0, hd])
  rw [hd] at hdc hdl
  have HNC := Lib.hid (new_calls a s d w ha (by omega))
  have q1 : decide ((level : Int) < 0) = false := decide_eq_false (by omega)
  have q2 : decide (9 < (level : Int)) = false := decide_eq_false (by omega)
  have q3 : ((level : Int) == 0) = false := beq_eq_false_iff_ne.2 (by omega)
  have q3' : (level == 0) = false := beq_eq_false_iff_ne.2 h0
  obtain ⟨lz, hlz⟩ : ∃ lz, decide (4 ≤ level) = lz := ⟨_, rfl⟩
  rw [hlz] at HTP
  have q4 : decide (4 ≤ (level : Int)) = lz := by rw [← hlz]; exact decide_eq_decide.2 (by omega)
  have i0 : (0 : Int) ≤ (level : Int) := by omega
  have i1 : (level : Int) < 10 := by omega
  clear hD hd hlz
  go_enter Tryz.func30, Tryz.ntmps30
  go_wp2_with fail
  refine HNC.out.mono ?_
  rintro e w2 ⟨f, b, g, rfl, hf2, hb2, h1, h2, h3⟩
  have HF2 := Lib.hid hf2
  have HB2 := Lib.hid hb2
  have HGE : Hid (w.heap.size ≤ b ∧ w.heap.size ≤ g) := Lib.hid ⟨h2, h3⟩
  clear hf2 hb2 hdc h1 h2 h3
  go_wp2_with fail
  refine (tokens_calls f b g a.size d (a ++ s) lz _ _ w2 HF2.out (newE_ahead _ _) (by rw [ByteArray.size_append]; omega) (by rw [ByteArray.size_append]; omega) hdl).mono ?_
  rintro e w3 ⟨v, rfl, ho3, ht3⟩
  have HO3 : Hid (w3.ownsRow w.heap.size 99 3 v (tokP a s level).length (toksC (tokP a s level))) := Lib.hid (by
    rw [HTP.out]
    exact own_base ho3 HB2.out.size)
  have HB3 : Hid (Below w.heap.size w w3) := Lib.hid (HB2.out.trans (ht3.below (fun k hk => by rcases hk with rfl | rfl; exact HGE.out.1; exact HGE.out.2) HB2.out.size))
  clear ho3 ht3
  go_wp2
  go_ret2
  exact ⟨v, rfl, HO3.out, HB3.out⟩

set_option maxHeartbeats 2000000 in
set_option maxRecDepth 100000 in
theorem tokens_zero (a s : ByteArray) (w : World) (hs : s.size ≤ 60000) :
    Calls Tryz.prog 30 #[.string a, .string s, .int .i64 0] w fun e w' => ToksAt a s 0 w e w' := by
  have hii : Tryz.prog.info? 99 = some ttk := by kernel_rfl
  have hiz0 : ttk.zero = some (.agg #[.int .u8 0, .int .i64 0, .int .i64 0]) := by kernel_rfl
  have hiz1 : ttk.size = 3 := by kernel_rfl
  have hiz2 : ttk.bytes = 24 := by kernel_rfl
  obtain ⟨n, hn⟩ : ∃ n, s.size = n := ⟨_, rfl⟩
  have HN := Lib.hid hn
  have hmk : (Instr.makeSlice 72 (.int .i64 n) (.int .i64 n)).run Tryz.prog w = .ok (.slice (some ⟨w.heap.size, 0, none⟩) n n) (w.alloc (.cells (toksC (zeroT (strN s) 0)).toArray 99)) := by
    have := run_make (P := Tryz.prog) w 72 99 ttk (.agg #[.int .u8 0, .int .i64 0, .int .i64 0]) Tryz.underlying72 hii hiz0 .i64 .i64 n n (by omega) (by omega) (by rw [hiz2]; omega) (by omega)
    have e : zeroT (strN s) 0 = List.replicate n ⟨0, 0, 0⟩ := by
      unfold zeroT
      rw [strN_len, hn]
      rfl
    rw [e, ← made_toks]
    simpa [hiz1, Value.cells] using this
  have hn0 : (s.size : Int) = (n : Int) := by rw [hn]
  have HTP : Hid (tokP a s 0 = byT (strN s)) := Lib.hid rfl
  have hn6 : n ≤ 60000 := by omega
  obtain ⟨B, hB⟩ : ∃ B, w.heap.size = B := ⟨_, rfl⟩
  have HB := Lib.hid hB
  obtain ⟨w1, hw1⟩ : ∃ w1, w.alloc (.cells (toksC (zeroT (strN s) 0)).toArray 99) = w1 := ⟨_, rfl⟩
  have HG1 : Hid (w1.heap[B]? = some (.cells (toksC (zeroT (strN s) 0)).toArray 99 (0, 0))) := Lib.hid (by rw [← hw1, ← hB]; exact World.alloc_heap_new _ _)
  have HB1 : Hid (Below w.heap.size w w1) := Lib.hid (by rw [← hw1]; exact (Below.refl _ _).alloc (Nat.le_refl _) _)
  rw [hB, hw1] at hmk
  clear hw1 hB hn hii hiz0 hiz1 hiz2
  go_enter Tryz.func30, Tryz.ntmps30
  go_wp2_with fail
  clear hmk
  go_loopw [25] (fun vi wr => ∃ i : Nat, vi = .int .i64 i ∧ i ≤ n ∧ wr.heap[B]? = some (.cells (toksC (zeroT (strN s) i)).toArray 99 (0, 0)) ∧ Below w.heap.size w wr) (fun vi _ => n - (intOf vi).toNat)
  case atStart => exact ⟨0, rfl, Nat.zero_le _, HG1.out, HB1.out⟩
  case round =>
    obtain ⟨i, rfl, hi, hg, hb⟩ := hrel
    have HG := Lib.hid hg
    have HBL := Lib.hid hb
    clear hg hb HG1 HB1
    by_cases hlt : i < n
    · have q1 : decide ((i : Int) < (n : Int)) = true := decide_eq_true (by omega)
      have q1' : decide (i < n) = true := decide_eq_true hlt
      have his : i < s.size := by rw [HN.out]; exact hlt
      have hlen : (toksC (zeroT (strN s) i)).length = n * 3 := by rw [toksC_len, zeroT_len _ _ (by rw [strN_len]; omega), strN_len, HN.out]
      obtain ⟨y, c0, f0⟩ : ∃ y, wr.cell? ⟨B, i * 3, none⟩ = some y ∧ wr.frozen? ⟨B, i * 3, none⟩ = false := by
        have hh : (toksC (zeroT (strN s) i)).toArray[i * 3]? = some ((toksC (zeroT (strN s) i))[i * 3]'(by rw [hlen]; omega)) := by
          rw [List.getElem?_toArray, List.getElem?_eq_getElem (by rw [hlen]; omega)]
        exact ⟨_, cell_at HG.out (i * 3) _ hh⟩
      have HNX : Hid ((wr.setCell ⟨B, i * 3, none⟩ (.int .u8 (((strN s).getD i 0 : Nat) : Int))).heap[B]? = some (.cells (toksC (zeroT (strN s) (i + 1))).toArray 99 (0, 0))) := Lib.hid (by
        rw [heap_setCell_same wr B (i * 3) _ _ _ HG.out, zeroT_next _ _ (by rw [strN_len]; exact his)])
      have HBX : Hid (Below w.heap.size w (wr.setCell ⟨B, i * 3, none⟩ (.int .u8 (((strN s).getD i 0 : Nat) : Int)))) := Lib.hid (HBL.out.setCell (p := ⟨B, i * 3, none⟩) (by simp only; rw [HB.out]; exact Nat.le_refl _) _)
      have hgd := strN_getD s i his
      rw [hgd] at HNX HBX
      have i0 : (0 : Int) ≤ (i : Int) := by omega
      have i1 : (i : Int) < (n : Int) := by omega
      have i2 : (i : Int) < (s.size : Int) := by omega
      clear hlen hgd hn0
      go_wp2
      go_roundw
      case rel => exact ⟨i + 1, by go_num, by omega, HNX.out, HBX.out⟩
      case measure => simp [intOf]; omega
    · have q1 : decide ((i : Int) < (n : Int)) = false := decide_eq_false (by omega)
      have q1' : decide (i < n) = false := decide_eq_false hlt
      have hin : i = (strN s).length := by rw [strN_len, HN.out]; omega
      have HGE : Hid (wr.heap[B]? = some (.cells (toksC (byT (strN s))).toArray 99 (0, 0))) := Lib.hid (by
        have h := HG.out
        rw [hin, zeroT_end] at h
        exact h)
      clear hin hn0
      go_wp2
      go_ret2
      have hbl : (byT (strN s)).length = n := by rw [byT_len, strN_len, HN.out]
      refine ⟨_, rfl, ?_, HBL.out⟩
      rw [HTP.out, hbl]
      refine ⟨by rw [toksC_len, hbl], .inr ⟨B, n, _, rfl, by rw [HB.out]; exact Nat.le_refl _, HGE.out, Nat.le_refl _, by unfold maxLen; omega, by rw [List.size_toArray, toksC_len, hbl], ?_⟩⟩
      exact List.take_of_length_le (by rw [toksC_len, hbl]; exact Nat.le_refl _)
theorem tokensx_calls (a s : ByteArray) (level : Nat) (w : World) (h9 : level ≤ 9) (ha : a.size ≤ 32768) (hs : s.size ≤ 60000) (hD : DepT w) :
    Calls Tryz.prog 30 #[.string a, .string s, .int .i64 level] w fun e w' => ToksAt a s level w e w' := by
  by_cases h0 : level = 0
  · subst h0
    exact tokens_zero a s w hs
  · exact tokens_any a s level w h0 h9 ha hs hD
end Go.Proofs.YtmpokiflhijnoaaGreatDoor.Mt
