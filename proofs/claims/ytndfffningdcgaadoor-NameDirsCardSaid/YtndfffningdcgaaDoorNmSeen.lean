/-
  Names: the names that were seen, in maps of the call's own: clash and add.
-/
import Derived.Test.YtndfffningdcgaaDoorNmCheck
import Derived.Maps.Views
import Derived.Maps.OwnOps
import Derived.StringKeys
import Derived.BigQuiet
import Derived.Deep.QuietTactic
import Derived.StillTailTactics
namespace Go.Proofs.YtndfffningdcgaaDoor.Nm
open Go.RowKit Go.Shelf
open Go.Maps (IsMap Keyed)
open Go.WideMaps (keyOf_string_mk)
set_option linter.unusedVariables false
set_option linter.unusedSimpArgs false

/-- Block b is a map of at most n names, each true: just these. -/
def OwnSet (w : World) (b n : Nat) (S : List (List UInt8)) : Prop :=
  ∃ D : DataW Unit, w.ownsMap Tryd.prog 9 (plainElem Tryd.prog 4) b n D ∧ IsMap D ∧ ∀ k : List UInt8, D.atKey (.string k) (.lit (.bool false)) = .lit (.bool (decide (k ∈ S))) ∧ Go.Maps.has D (.string k) = decide (k ∈ S)

theorem keyedStr : Keyed Tryd.prog 9 := Go.Maps.string_keyed Tryd.underlying9
theorem zeroBool (w : World) : (zeroValue 4).run Tryd.prog w = .ok (.bool false) w := by kernel_rfl

theorem plainElem_bool_inv {v : Value} {z : DataW Unit × List MemPlace} (h : plainElem Tryd.prog 4 v = some z) : ∃ x, v = .bool x ∧ z = (.lit (.bool x), []) := by
  unfold plainElem at h
  rw [Tryd.underlying4] at h
  cases v <;> simp at h
  exact ⟨_, rfl, h.symm⟩

theorem OwnSet.kept {w w' : World} {row : Option Nat} {b n : Nat} {S : List (List UInt8)} (h : OwnSet w b n S) (hg : w.grownBy w' row) (hne : some b ≠ row) : OwnSet w' b n S := by
  obtain ⟨D, h1, h2, h3⟩ := h
  exact ⟨D, h1.kept hg hne, h2, h3⟩

theorem OwnSet.heap {w w' : World} {b n : Nat} {S : List (List UInt8)} (h : OwnSet w b n S) (hb : w'.heap[b]? = w.heap[b]?) : OwnSet w' b n S := by
  obtain ⟨D, ⟨es, clock, hm, F, hs, hD⟩, h2, h3⟩ := h
  exact ⟨D, ⟨es, clock, hb.trans hm, F, hs, hD⟩, h2, h3⟩

theorem OwnSet.made (w : World) : OwnSet (w.alloc (.map #[] 0)) w.heap.size 0 [] :=
  ⟨.map [], World.ownsMap_made _ _ _ _, ⟨[], rfl⟩, fun k => ⟨by simp [DataW.atKey], by simp [Go.Maps.has]⟩⟩

theorem OwnSet.look {w : World} {b n : Nat} {S : List (List UInt8)} (h : OwnSet w b n S) (s : ByteArray) (hs : s.size ≤ maxLen) :
    (Instr.lookup 45 (.map (some b)) (.string s) false).run Tryd.prog w = .ok (.bool (decide (s.toList ∈ S))) w := by
  obtain ⟨D, h1, h2, h3⟩ := h
  obtain ⟨v, ps, hrun, hv⟩ := h1.lookup keyedStr Tryd.underlying45 (zeroBool w) (plainElem_bool Tryd.underlying4 false) (keyOf_string_mk Tryd.underlying9 hs)
  obtain ⟨x, rfl, hx⟩ := plainElem_bool_inv hv
  rw [(h3 _).1, ← Lib.toList_data] at hx
  simp only [Prod.mk.injEq, DataW.lit.injEq, Lit.bool.injEq] at hx
  rw [hrun, ← hx.1]

theorem OwnSet.store {w : World} {b n : Nat} {S : List (List UInt8)} (h : OwnSet w b n S) (s : ByteArray) (hs : s.size ≤ maxLen) (hn : n < maxLen) :
    ∃ w', (Instr.mapUpdate 45 (.map (some b)) (.string s) (.bool true)).run Tryd.prog w = .ok () w' ∧ OwnSet w' b (n + 1) (S ++ [s.toList]) ∧ w.grownBy w' (some b) := by
  obtain ⟨D, h1, h2, h3⟩ := h
  obtain ⟨w', hrun, ho, hg⟩ := h1.update keyedStr Tryd.underlying45 hn (keyOf_string_mk Tryd.underlying9 hs) (plainElem_bool Tryd.underlying4 true)
  refine ⟨w', hrun, ⟨_, ho, h2.put _ _, fun k => ?_⟩, hg⟩
  by_cases hk : k = s.data.toList
  · subst hk
    rw [Go.Maps.atKey_put_same h2 (by simp [Go.WideAt.IsKeyLit]), Go.Maps.has_put_same h2 (by simp [Go.WideAt.IsKeyLit]), Lib.toList_data]
    have : decide (s.data.toList ∈ S ++ [s.data.toList]) = true := decide_eq_true (List.mem_append_right _ (List.mem_singleton.2 rfl))
    rw [this]
    exact ⟨rfl, rfl⟩
  · rw [Go.Maps.atKey_put_other (by simpa using hk), Go.Maps.has_put_other (by simpa using hk), (h3 _).1, (h3 _).2, Lib.toList_data]
    have : (k ∈ S) = (k ∈ S ++ [s.data.toList]) := by
      apply propext
      rw [List.mem_append, List.mem_singleton]
      exact ⟨fun h => .inl h, fun h => h.elim id (fun h => absurd h hk)⟩
    simp only [this]
    exact ⟨trivial, trivial⟩

/-- x stands at block bx: its names in block bn, its directories in block bd. -/
structure SeenAt (w : World) (bx bn bd n m : Nat) (S T : List (List UInt8)) : Prop where
  c0 : w.cell? ⟨bx, 0, none⟩ = some (.map (some bn))
  c1 : w.cell? ⟨bx, 1, none⟩ = some (.map (some bd))
  names : OwnSet w bn n S
  dirs : OwnSet w bd m T
  ne : bn ≠ bd
  nx : bx ≠ bn
  dx : bx ≠ bd

theorem SeenAt.heap {w w' : World} {bx bn bd n m : Nat} {S T : List (List UInt8)} (h : SeenAt w bx bn bd n m S T) (hb : ∀ k, k = bx ∨ k = bn ∨ k = bd → w'.heap[k]? = w.heap[k]?) : SeenAt w' bx bn bd n m S T :=
  ⟨(World.cell?_of_block (a := ⟨bx, 0, none⟩) (hb bx (.inl rfl))).trans h.c0, (World.cell?_of_block (a := ⟨bx, 1, none⟩) (hb bx (.inl rfl))).trans h.c1, h.names.heap (hb bn (.inr (.inl rfl))), h.dirs.heap (hb bd (.inr (.inr rfl))), h.ne, h.nx, h.dx⟩

/-- The places of slashes: what stands ahead of each. -/
def dirsUpto (l : List UInt8) (k : Nat) : List (List UInt8) := ((List.range k).filter fun i => l[i]? == some 47).map fun i => l.take i
def dirsOf (l : List UInt8) : List (List UInt8) := dirsUpto l l.length

theorem dirs_zero (l : List UInt8) : dirsUpto l 0 = [] := rfl
theorem dirs_yes (l : List UInt8) (k : Nat) (h : l[k]? = some 47) : dirsUpto l (k + 1) = dirsUpto l k ++ [l.take k] := by
  simp [dirsUpto, List.range_succ, List.filter_append, List.filter_cons, h]
theorem dirs_no (l : List UInt8) (k : Nat) (h : l[k]? ≠ some 47) : dirsUpto l (k + 1) = dirsUpto l k := by
  simp [dirsUpto, List.range_succ, List.filter_append, List.filter_cons, h]

theorem extract_take0 (s : ByteArray) (n : Nat) : (s.extract 0 n).toList = s.data.toList.take n := by
  rw [Lib.toList_data, ByteArray.data_extract, Array.toList_extract, List.extract_eq_take_drop]
  simp

def clashB (S T : List (List UInt8)) (l : List UInt8) : Bool := decide (l ∈ S) || decide (l ∈ T) || (dirsOf l).any fun d => decide (d ∈ S)

theorem drewN_heap (w : World) (q : Nat) : (w.drewN q).heap = w.heap := by
  induction q generalizing w with
  | zero => rfl
  | succ q ih => rw [← World.drew_drewN]; exact ih w

theorem clash_stop (S : List (List UInt8)) (l : List UInt8) (k : Nat) (h : l[k]? = some 47) (hd : l.take k ∈ S) : ((dirsOf l).any fun d => decide (d ∈ S)) = true := by
  rw [List.any_eq_true]
  refine ⟨l.take k, ?_, decide_eq_true hd⟩
  unfold dirsOf dirsUpto
  rw [List.mem_map]
  refine ⟨k, ?_, rfl⟩
  rw [List.mem_filter]
  refine ⟨?_, by simp [h]⟩
  rw [List.mem_range]
  rcases Nat.lt_or_ge k l.length with h1 | h1
  · exact h1
  · rw [List.getElem?_eq_none h1] at h; cases h

set_option maxHeartbeats 2000000 in
set_option maxRecDepth 100000 in
theorem clash_calls (bx bn bd n m : Nat) (S T : List (List UInt8)) (s : ByteArray) (w : World) (hs : s.size ≤ 140737488351232) (hx : SeenAt w bx bn bd n m S T) :
    Calls Tryd.prog 26 #[.pointer (some ⟨bx, 0, none⟩), .string s] w fun e w' => e = .returned (.bool (clashB S T s.toList)) ∧ ∃ q, w' = w.drewN q := by
  have hc0 := hx.c0
  have hc1 := hx.c1
  have HN := Lib.hid hx.names
  have HD := Lib.hid hx.dirs
  have l1 := hx.names.look s (by unfold maxLen; omega)
  have l2 := hx.dirs.look s (by unfold maxLen; omega)
  clear hx
  by_cases h1 : s.toList ∈ S
  · have e : Hid (clashB S T s.toList = true) := Lib.hid (by simp [clashB, h1])
    rw [decide_eq_true h1] at l1
    clear h1 l2
    go_enter Tryd.func26, Tryd.ntmps26
    go_wp2
    go_ret
    exact ⟨by rw [e.out] <;> rfl, 0, rfl⟩
  · by_cases h2 : s.toList ∈ T
    · have e : Hid (clashB S T s.toList = true) := Lib.hid (by simp [clashB, h2])
      rw [decide_eq_false h1] at l1
      rw [decide_eq_true h2] at l2
      clear h1 h2
      go_enter Tryd.func26, Tryd.ntmps26
      go_wp2
      go_ret
      exact ⟨by rw [e.out] <;> rfl, 0, rfl⟩
    · have e : Hid (clashB S T s.toList = (dirsOf s.toList).any fun d => decide (d ∈ S)) := Lib.hid (by simp [clashB, h1, h2])
      rw [decide_eq_false h1] at l1
      rw [decide_eq_false h2] at l2
      clear h1 h2
      obtain ⟨ANS, HA⟩ : ∃ b, b = clashB S T s.toList := ⟨_, rfl⟩
      rw [← HA]
      have HB : Hid (ANS = (dirsOf s.toList).any fun d => decide (d ∈ S)) := Lib.hid (HA.trans e.out)
      clear e HA
      go_enter Tryd.func26, Tryd.ntmps26
      go_wp2
      clear l1 l2
      go_loopw [22] (fun i wr => ∃ k : Nat, k ≤ s.size ∧ i = .int .i64 k ∧ (∃ q, wr = w.drewN q) ∧ ((dirsUpto s.toList k).any fun d => decide (d ∈ S)) = false) (fun i _ => s.size - (intOf i).toNat)
      case atStart => exact ⟨0, Nat.zero_le _, rfl, ⟨0, rfl⟩, rfl⟩
      case round =>
        obtain ⟨k, hk, rfl, ⟨q, hq⟩, hn⟩ := hrel
        have HNo := Lib.hid hn
        clear hn
        have HW := Lib.hid hq
        have d0 : wr.cell? ⟨bx, 0, none⟩ = some (.map (some bn)) := (World.cell?_of_block (a := ⟨bx, 0, none⟩) (by rw [hq, drewN_heap])).trans hc0
        have HNr : Hid (OwnSet wr bn n S) := Lib.hid (HN.out.heap (by rw [hq, drewN_heap]))
        clear hq
        by_cases hlt : k < s.size
        · have q1 : decide ((k : Int) < (s.size : Int)) = true := decide_eq_true (by omega)
          have hget : s.toList[k]? = some s[k] := by rw [Lib.toList_data, List.getElem?_eq_getElem (by simpa using hlt)]; rfl
          by_cases h47 : s[k] = 47
          · have q2 : ((s[k].toNat : Int) == 47) = true := by rw [h47]; rfl
            rw [h47] at hget
            have q3 : ((s[k].toNat : Int) == (((⟨#[47]⟩ : ByteArray)[0]'(by decide)).toNat : Int)) = true := by rw [h47]; rfl
            have hext : (s.extract 0 k).toList = s.toList.take k := by rw [extract_take0, Lib.toList_data]
            have hexs : (s.extract 0 k).size ≤ 140737488351232 := by rw [ByteArray.size_extract]; omega
            have hlk : ∀ q', (Instr.lookup 45 (.map (some bn)) (.string (s.extract 0 k)) false).run Tryd.prog (wr.drewN q') = .ok (.bool (decide (s.toList.take k ∈ S))) (wr.drewN q') := fun q' => by
              rw [← hext]
              exact (HNr.out.heap (by rw [drewN_heap])).look _ (by unfold maxLen; omega)
            have hlk0 := hlk 0
            by_cases hin : s.toList.take k ∈ S
            · have HA : Hid (ANS = true) := Lib.hid (by rw [HB.out]; exact clash_stop S _ k hget hin)
              have hin' : decide (s.toList.take k ∈ S) = true := decide_eq_true hin
              clear hget hext hin h47
              go_wp2
              go_quiet (fail)
              go_wp2
              go_ret
              exact ⟨by rw [HA.out] <;> rfl, by rw [HW.out]; exact ⟨_, World.drewN_drewN ..⟩⟩
            · have HD : Hid ((dirsUpto s.toList (k + 1)).any (fun d => decide (d ∈ S)) = false) := Lib.hid (by
                rw [dirs_yes _ _ hget, List.any_append, HNo.out]
                simp [hin])
              have hin' : decide (s.toList.take k ∈ S) = false := decide_eq_false hin
              clear hget hext hin h47
              go_wp2
              go_quiet (fail)
              go_wp2
              go_roundw
              case rel => exact ⟨k + 1, by omega, by go_num, by rw [HW.out]; exact ⟨_, World.drewN_drewN ..⟩, HD.out⟩
              case measure => simp [intOf]; omega
          · have q2 : ((s[k].toNat : Int) == 47) = false := by
              rw [beq_eq_false_iff_ne]
              intro h
              exact h47 (UInt8.toNat_inj.1 (show s[k].toNat = 47 by omega))
            have HD : Hid (dirsUpto s.toList (k + 1) = dirsUpto s.toList k) := Lib.hid (dirs_no _ _ (by rw [hget]; intro h; exact h47 (Option.some.inj h)))
            clear hget h47
            have q3 : ((s[k].toNat : Int) == (((⟨#[47]⟩ : ByteArray)[0]'(by decide)).toNat : Int)) = false := q2
            go_wp2
            go_quiet (fail)
            go_wp2
            go_roundw
            case rel => exact ⟨k + 1, by omega, by go_num, by rw [HW.out]; exact ⟨_, World.drewN_drewN ..⟩, by rw [HD.out]; exact HNo.out⟩
            case measure => simp [intOf]; omega
        · have HA : Hid (ANS = false) := Lib.hid (by
            rw [HB.out]
            have e1 : dirsOf s.toList = dirsUpto s.toList k := by unfold dirsOf; rw [size_toList]; congr 1; omega
            rw [e1]
            exact HNo.out)
          go_wp2
          go_ret
          exact ⟨by rw [HA.out] <;> rfl, q, HW.out⟩

/-- Only some blocks have been written; new ones may be there. -/
structure Touch (p : Nat → Prop) (w w' : World) : Prop where
  os : w'.os = w.os
  tape : w'.tape = w.tape
  output : w'.output = w.output
  size : w.heap.size ≤ w'.heap.size
  block : ∀ k, k < w.heap.size → ¬ p k → w'.heap[k]? = w.heap[k]?

theorem Touch.refl (p : Nat → Prop) (w : World) : Touch p w w := ⟨rfl, rfl, rfl, Nat.le_refl _, fun _ _ _ => rfl⟩
theorem Touch.trans {p : Nat → Prop} {a b c : World} (h : Touch p a b) (k : Touch p b c) : Touch p a c :=
  ⟨k.os.trans h.os, k.tape.trans h.tape, k.output.trans h.output, Nat.le_trans h.size k.size, fun i hi hp => (k.block i (Nat.lt_of_lt_of_le hi h.size) hp).trans (h.block i hi hp)⟩
theorem Touch.of_grownBy {p : Nat → Prop} {a b : World} {row : Option Nat} (h : a.grownBy b row) (hr : ∀ r, row = some r → p r) : Touch p a b :=
  ⟨h.os, h.tape, h.output, h.size, fun i hi hp => h.block i hi (fun e => hp (hr i e.symm))⟩
theorem Touch.below {p : Nat → Prop} {a b : World} (h : Touch p a b) {B : Nat} (hB : B ≤ a.heap.size) (hp : ∀ k, k < B → ¬ p k) : Below B a b :=
  ⟨h.os, h.tape, h.output, h.size, fun i hi => h.block i (by omega) (hp i hi)⟩
theorem Touch.drewN {p : Nat → Prop} {a b : World} (h : Touch p a b) (q : Nat) : Touch p a (b.drewN q) := by
  induction q generalizing b with
  | zero => exact h
  | succ q ih => rw [← World.drew_drewN]; have h2 := ih h; exact ⟨h2.os, h2.tape, h2.output, h2.size, h2.block⟩

set_option maxHeartbeats 2000000 in
set_option maxRecDepth 100000 in
theorem add_calls (bx bn bd n m : Nat) (S T : List (List UInt8)) (s : ByteArray) (w : World) (hs : s.size ≤ 140737488351232) (hx : SeenAt w bx bn bd n m S T) (hn : n < maxLen) (hm : m + s.size < maxLen) :
    Calls Tryd.prog 27 #[.pointer (some ⟨bx, 0, none⟩), .string s] w fun e w' => e = .returned (.tuple #[]) ∧ SeenAt w' bx bn bd (n + 1) (m + s.size) (S ++ [s.toList]) (T ++ dirsOf s.toList) ∧ Touch (fun k => k = bn ∨ k = bd) w w' := by
  obtain ⟨w1, hrun, ho, hg⟩ := hx.names.store s (by unfold maxLen; omega) hn
  have hc0 := hx.c0
  have H1 : Hid (SeenAt w1 bx bn bd (n + 1) m (S ++ [s.toList]) T) := Lib.hid (by
    have hb : ∀ k, k = bx ∨ k = bd → w1.heap[k]? = w.heap[k]? := fun k hk => hg.block k (by
      rcases hk with rfl | rfl
      · have := World.block_lt_of_cell? w _ hx.c0; exact this
      · obtain ⟨D, ⟨es, cl, hm, _⟩, _⟩ := hx.dirs; exact (Array.getElem?_eq_some_iff.1 hm).1) (fun e => by
      have h1 := hx.ne
      have h2 := hx.nx
      cases e
      rcases hk with h | h
      · exact h2 h.symm
      · exact h1 h)
    exact ⟨(World.cell?_of_block (a := ⟨bx, 0, none⟩) (hb bx (.inl rfl))).trans hx.c0, (World.cell?_of_block (a := ⟨bx, 1, none⟩) (hb bx (.inl rfl))).trans hx.c1, ho, hx.dirs.heap (hb bd (.inr rfl)), hx.ne, hx.nx, hx.dx⟩)
  have HT : Hid (Touch (fun k => k = bn ∨ k = bd) w w1) := Lib.hid (Touch.of_grownBy hg (fun r e => by cases e; exact .inl rfl))
  clear ho hg hx
  go_enter Tryd.func27, Tryd.ntmps27
  go_wp2
  clear hrun hc0
  go_loopw [12] (fun i wr => ∃ k : Nat, k ≤ s.size ∧ i = .int .i64 k ∧ SeenAt wr bx bn bd (n + 1) (m + k) (S ++ [s.toList]) (T ++ dirsUpto s.toList k) ∧ Touch (fun k => k = bn ∨ k = bd) w wr) (fun i _ => s.size - (intOf i).toNat)
  case atStart => exact ⟨0, Nat.zero_le _, rfl, by rw [dirs_zero, List.append_nil]; exact H1.out, HT.out⟩
  case round =>
    obtain ⟨k, hk, rfl, hsn, ht⟩ := hrel
    have HS := Lib.hid hsn
    have HTr := Lib.hid ht
    clear hsn ht H1 HT
    by_cases hlt : k < s.size
    · have q1 : decide ((k : Int) < (s.size : Int)) = true := decide_eq_true (by omega)
      have hget : s.toList[k]? = some s[k] := by rw [Lib.toList_data, List.getElem?_eq_getElem (by simpa using hlt)]; rfl
      by_cases h47 : s[k] = 47
      · have q2 : ((s[k].toNat : Int) == 47) = true := by rw [h47]; rfl
        have q3 : ((s[k].toNat : Int) == (((⟨#[47]⟩ : ByteArray)[0]'(by decide)).toNat : Int)) = true := q2
        rw [h47] at hget
        have HD := Lib.hid (dirs_yes _ _ hget)
        have hext := Lib.hid (extract_take0 s k)
        have hexs : (s.extract 0 k).size ≤ 140737488351232 := by rw [ByteArray.size_extract]; omega
        clear hget h47
        go_wp2
        go_quiet (fail)
        generalize hW : World.drewN _ _ = w2
        have HS2 : SeenAt w2 bx bn bd (n + 1) (m + k) (S ++ [s.toList]) (T ++ dirsUpto s.toList k) := by rw [← hW]; exact HS.out.heap (fun j _ => by rw [drewN_heap])
        have HT2 : Hid (Touch (fun k => k = bn ∨ k = bd) w w2) := Lib.hid (by rw [← hW]; exact HTr.out.drewN _)
        clear hW
        have hc1 := HS2.c1
        have HS3 := Lib.hid HS2
        clear HS2
        go_wp2
        go_still_tail 7, (by kernel_rfl)
        change wpList _ _ _ _ _ w2.drew
        have HS4 : SeenAt w2.drew bx bn bd (n + 1) (m + k) (S ++ [s.toList]) (T ++ dirsUpto s.toList k) := HS3.out.heap (fun _ _ => rfl)
        have HT4 : Hid (Touch (fun k => k = bn ∨ k = bd) w w2.drew) := Lib.hid (HT2.out.drewN 1)
        generalize w2.drew = w3 at *
        clear hc1 HS3 HT2
        obtain ⟨w4, hrun, ho, hg⟩ := HS4.dirs.store (s.extract 0 k) (by unfold maxLen; omega) (by omega)
        rw [hext.out] at ho
        have H5 : Hid (SeenAt w4 bx bn bd (n + 1) (m + k + 1) (S ++ [s.toList]) (T ++ dirsUpto s.toList k ++ [List.take k s.toList])) := Lib.hid (by
          have hb : ∀ j, j = bx ∨ j = bn → w4.heap[j]? = w3.heap[j]? := fun j hj => hg.block j (by
            rcases hj with rfl | rfl
            · have := World.block_lt_of_cell? w3 _ HS4.c0; exact this
            · obtain ⟨D, ⟨es, cl, hm, _⟩, _⟩ := HS4.names; exact (Array.getElem?_eq_some_iff.1 hm).1) (fun e => by
            have h1 := HS4.ne
            have h2 := HS4.dx
            cases e
            rcases hj with h | h
            · exact h2 h.symm
            · exact h1 h.symm)
          exact ⟨(World.cell?_of_block (a := ⟨bx, 0, none⟩) (hb bx (.inl rfl))).trans HS4.c0, (World.cell?_of_block (a := ⟨bx, 1, none⟩) (hb bx (.inl rfl))).trans HS4.c1, HS4.names.heap (hb bn (.inr rfl)), by rw [← Lib.toList_data] at ho; exact ho, HS4.ne, HS4.nx, HS4.dx⟩)
        have HT5 : Hid (Touch (fun k => k = bn ∨ k = bd) w w4) := Lib.hid (HT4.out.trans (Touch.of_grownBy hg (fun r e => by cases e; exact .inr rfl)))
        clear ho hg HS4 HT4
        go_wp2
        go_roundw
        case rel => exact ⟨k + 1, by omega, by go_num, by rw [HD.out, ← List.append_assoc]; exact H5.out, HT5.out⟩
        case measure => simp [intOf]; omega
      · have q2 : ((s[k].toNat : Int) == 47) = false := by
          rw [beq_eq_false_iff_ne]
          intro h
          exact h47 (UInt8.toNat_inj.1 (show s[k].toNat = 47 by omega))
        have q3 : ((s[k].toNat : Int) == (((⟨#[47]⟩ : ByteArray)[0]'(by decide)).toNat : Int)) = false := q2
        have HD : Hid (dirsUpto s.toList (k + 1) = dirsUpto s.toList k) := Lib.hid (dirs_no _ _ (by rw [hget]; intro h; exact h47 (Option.some.inj h)))
        clear hget h47
        go_wp2
        go_quiet (fail)
        generalize hW : World.drewN _ _ = w2
        have h : SeenAt w2 bx bn bd (n + 1) (m + k) (S ++ [s.toList]) (T ++ dirsUpto s.toList k) := by rw [← hW]; exact HS.out.heap (fun j _ => by rw [drewN_heap])
        have HS2 : Hid (SeenAt w2 bx bn bd (n + 1) (m + (k + 1)) (S ++ [s.toList]) (T ++ dirsUpto s.toList k)) := Lib.hid ⟨h.c0, h.c1, h.names, by obtain ⟨D, h1, h2, h3⟩ := h.dirs; exact ⟨D, h1.mono (by omega), h2, h3⟩, h.ne, h.nx, h.dx⟩
        have HT2 : Hid (Touch (fun k => k = bn ∨ k = bd) w w2) := Lib.hid (by rw [← hW]; exact HTr.out.drewN _)
        clear hW h
        go_wp2
        go_roundw
        case rel => exact ⟨k + 1, by omega, by go_num, by rw [HD.out]; exact HS2.out, HT2.out⟩
        case measure => simp [intOf]; omega
    · have hks : k = s.size := by omega
      have HK := Lib.hid hks
      clear hks
      go_wp2
      go_end0
      exact ⟨rfl, by have h := HS.out; rw [HK.out] at h; unfold dirsOf; rw [size_toList]; exact h, HTr.out⟩

end Go.Proofs.YtndfffningdcgaaDoor.Nm
