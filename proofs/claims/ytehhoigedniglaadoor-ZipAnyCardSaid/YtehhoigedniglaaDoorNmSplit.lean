/-
  Names: strings.SplitSeq at a slash: its iterator tells a text's parts, one by one.
-/
import Derived.Test.YtehhoigedniglaaDoorProg
import Derived.Test.YtehhoigedniglaaDoorShelf
import Derived.Test.YtehhoigedniglaaDoorRangeBox
import Derived.Test.YtehhoigedniglaaDoorNmParts
import Derived.Sort.LoopGhostIn
import Derived.Lib.IndexLaws
import Derived.Lib.Hide
import Derived.WalkSpells
import Derived.WalkLawsBesides
namespace Go.Proofs.YtehhoigedniglaaDoor.Nm
open Go.RowKit Go.Shelf Go.Proofs.YtehhoigedniglaaDoor.Rb
attribute [local go_sem] Oper.semAt_some
set_option linter.unusedVariables false
set_option linter.unusedSimpArgs false

def strV (l : List UInt8) : Value := .string ⟨l.toArray⟩

theorem of_toList (s : ByteArray) : (⟨s.toList.toArray⟩ : ByteArray) = s := by
  rw [Lib.toList_data]

theorem strV_toList (s : ByteArray) : strV s.toList = .string s := by
  unfold strV
  rw [of_toList]

theorem splitGo_head (l : List UInt8) : ∀ (cur : List UInt8) (i : Nat), i < l.length → l[i]? = some 47 → (∀ k, k < i → l[k]? ≠ some 47) → splitGo cur l = (cur ++ l.take i) :: splitGo [] (l.drop (i + 1)) := by
  induction l with
  | nil => intro cur i h; simp at h
  | cons c t ih =>
    intro cur i hi hc hn
    cases i with
    | zero =>
      simp at hc
      subst hc
      simp [splitGo]
    | succ i =>
      have h0 : c ≠ 47 := by
        have := hn 0 (by omega)
        simpa using this
      have hi' : i < t.length := by simpa using hi
      have hc' : t[i]? = some 47 := by simpa using hc
      have hn' : ∀ k, k < i → t[k]? ≠ some 47 := fun k hk => by
        have := hn (k + 1) (by omega)
        simpa using this
      simp only [splitGo, h0, if_false]
      rw [ih (cur ++ [c]) i hi' hc' hn']
      simp

theorem splitGo_none (l : List UInt8) : ∀ (cur : List UInt8), (∀ (k : Nat), l[k]? ≠ some 47) → splitGo cur l = [cur ++ l] := by
  induction l with
  | nil => intro cur _; simp [splitGo]
  | cons c t ih =>
    intro cur hn
    have h0 : c ≠ 47 := by
      have := hn 0
      simpa using this
    simp only [splitGo, h0, if_false]
    rw [ih (cur ++ [c]) (fun k => by have := hn (k + 1); simpa using this)]
    simp

/-- Where a slash is: the first part, and the rest. -/
theorem parts_cut (s : ByteArray) (i : Nat) (h : Lib.indexByte s.data.toList 47 = i) : i < s.size ∧ parts s.toList = (s.extract 0 i).toList :: parts (s.extract (i + 1) s.size).toList := by
  obtain ⟨h1, h2⟩ := Lib.indexByte_some h
  have hi : i < s.data.toList.length := by
    rcases Nat.lt_or_ge i s.data.toList.length with h | h
    · exact h
    · rw [List.getElem?_eq_none h] at h1; cases h1
  refine ⟨by simpa using hi, ?_⟩
  unfold parts
  rw [Lib.toList_data, splitGo_head _ [] i hi h1 h2]
  simp only [Lib.toList_data, ByteArray.data_extract, Array.toList_extract, List.extract_eq_take_drop, List.nil_append, List.drop_zero, Nat.sub_zero]
  congr 2
  rw [List.take_of_length_le]
  rw [List.length_drop]
  exact Nat.le_refl _

theorem parts_last (s : ByteArray) (h : Lib.indexByte s.data.toList 47 = -1) : parts s.toList = [s.toList] := by
  unfold parts
  rw [splitGo_none _ [] (by rw [Lib.toList_data]; exact Lib.indexByte_none h)]
  rfl

theorem cut_size (s : ByteArray) (i : Nat) (h : i < s.size) : (s.extract (i + 1) s.size).size < s.size := by
  rw [ByteArray.size_extract]
  omega

theorem setCell_grown (W : World) (b : Nat) (v : Value) : W.grownBy (W.setCell ⟨b, 0, none⟩ v) (some b) := grownBy_setCell' W b v

set_option maxHeartbeats 2000000 in
set_option maxRecDepth 100000 in
/-- The iterator's contract: s in the box B, the slash in B + 1, nought in B + 2. -/
theorem split_box (n : Nat) (B : Nat) (s : ByteArray) (w : World) (hs : s.size ≤ 140737488351232)
    (c0 : w.cell? ⟨B, 0, none⟩ = some (.string s)) (f0 : w.frozen? ⟨B, 0, none⟩ = false) (c1 : w.cell? ⟨B + 1, 0, none⟩ = some (.string ⟨#[47]⟩)) (c2 : w.cell? ⟨B + 2, 0, none⟩ = some (.int .i64 0)) :
    SeqBox Fence.wide n Tryd.prog 71 #[.pointer (some ⟨B + 1, 0, none⟩), .pointer (some ⟨B, 0, none⟩), .pointer (some ⟨B + 2, 0, none⟩)] strV B 3 (parts s.toList) w := by
  intro l J Jx W hW hBW hJ hY hJB h0
  refine callsIn_of_wp Tryd.func71 rfl trivial ?_ rfl
  simp only [Tryd.ntmps71, List.size_toArray, List.length_cons, List.length_nil, Nat.reduceAdd, Nat.reduceSub, Array.replicate_succ, Array.replicate_zero, List.push_toArray, List.append_toArray, List.nil_append, List.cons_append]
  have d0 : W.cell? ⟨B, 0, none⟩ = some (.string s) := (hW.cell (by omega) (by omega)).trans c0
  have d1 : W.cell? ⟨B + 1, 0, none⟩ = some (.string ⟨#[47]⟩) := (hW.cell (by omega) (by omega)).trans c1
  have d2 : W.cell? ⟨B + 2, 0, none⟩ = some (.int .i64 0) := (hW.cell (by omega) (by omega)).trans c2
  have df : W.frozen? ⟨B, 0, none⟩ = false := by
    rw [← f0]
    simp only [World.frozen?]
    rw [hW B (by omega) (by omega)]
  obtain ⟨XS, hXS⟩ : ∃ XS, XS = parts s.toList := ⟨_, rfl⟩
  rw [← hXS] at hY ⊢
  have HXS := Lib.hid hXS
  have HY := Lib.hid hY
  have HJ := Lib.hid hJ
  have HJB := Lib.hid hJB
  have HW := Lib.hid hW
  clear hXS hY hJ hJB hW c0 c1 c2 f0
  gi_wp2_with fail
  gi_loopg [7] (s.size + 1) (fun gk i wr => ∃ (pre : List (List UInt8)) (cur : ByteArray), XS = pre ++ parts cur.toList ∧ J pre wr ∧ cur.size < gk ∧ cur.size ≤ s.size ∧
    wr.cell? ⟨B, 0, none⟩ = some (.string cur) ∧ wr.frozen? ⟨B, 0, none⟩ = false ∧ wr.cell? ⟨B + 1, 0, none⟩ = some (.string ⟨#[47]⟩) ∧ wr.cell? ⟨B + 2, 0, none⟩ = some (.int .i64 0))
  case atStart =>
    exact ⟨[], s, by rw [HXS.out]; rfl, h0, by omega, by omega, d0, df, d1, d2⟩
  case round =>
    obtain ⟨pre, cur, hx, hJs, hgk, hcs, e0, ef, e1, e2⟩ := hrel
    have HX := Lib.hid hx
    clear hx d0 df d1 d2
    have hge := Lib.indexByte_ge cur.data.toList 47
    by_cases hi : Lib.indexByte cur.data.toList 47 = -1
    · have HP := Lib.hid (parts_last cur hi)
      have hn : decide (Lib.indexByte cur.data.toList 47 < 0) = true := decide_eq_true (by omega)
      have HI := Lib.hid hi
      clear hi hge
      obtain ⟨fn, tmps, assign, body, hy, hR⟩ := HY.out pre cur.toList wr hJs (by rw [HX.out, HP.out]; exact List.prefix_refl _)
      rw [strV_toList] at hy
      gi_wp2_with (refine ⟨trivial, (fun h => (nomatch h)), ?_⟩; refine (callsIn_wide.2 (Tryd.strings_Index_one cur 47 _)).mono ?_; rintro e w' ⟨rfl, rfl⟩)
      refine ⟨(fun h => (nomatch h)), hR.mono ?_⟩
      rintro e W' (⟨rfl, hJ', hk⟩ | ⟨rfl, hJx'⟩)
      · gi_wp2
        go_end0
        exact ⟨⟨_, rfl⟩, .inl (by rw [HX.out, HP.out]; exact hJ')⟩
      · gi_wp2
        go_end0
        exact ⟨⟨_, rfl⟩, .inr ⟨pre, ⟨cur.toList, by rw [HX.out, HP.out]; exact List.prefix_refl _⟩, cur.toList, hJx'⟩⟩
    · obtain ⟨k, hk⟩ : ∃ k : Nat, Lib.indexByte cur.data.toList 47 = k := ⟨(Lib.indexByte cur.data.toList 47).toNat, by omega⟩
      obtain ⟨hkl, hpc⟩ := parts_cut cur k hk
      have hsz := cut_size cur k hkl
      have HP := Lib.hid hpc
      clear hpc hi hge
      have hpre : pre ++ [(cur.extract 0 k).toList] <+: XS := by
        rw [HX.out, HP.out]
        exact ⟨parts (cur.extract (k + 1) cur.size).toList, by simp⟩
      obtain ⟨fn, tmps, assign, body, hy, hR⟩ := HY.out pre (cur.extract 0 k).toList wr hJs hpre
      rw [strV_toList] at hy
      have HPRE := Lib.hid hpre
      clear hpre
      gi_wp2_with (refine ⟨trivial, (fun h => (nomatch h)), ?_⟩; refine (callsIn_wide.2 (Tryd.strings_Index_one cur 47 _)).mono ?_; rintro e w' ⟨rfl, rfl⟩; rw [hk])
      refine ⟨(fun h => (nomatch h)), hR.mono ?_⟩
      rintro e W' (⟨rfl, hJ', hkp⟩ | ⟨rfl, hJx'⟩)
      · have q0 : W'.cell? ⟨B, 0, none⟩ = some (.string cur) := (hkp.cell (by omega) (by omega)).trans e0
        have q1 : W'.cell? ⟨B + 1, 0, none⟩ = some (.string ⟨#[47]⟩) := (hkp.cell (by omega) (by omega)).trans e1
        have q2 : W'.cell? ⟨B + 2, 0, none⟩ = some (.int .i64 0) := (hkp.cell (by omega) (by omega)).trans e2
        have qf : W'.frozen? ⟨B, 0, none⟩ = false := by
          rw [← ef]
          simp only [World.frozen?]
          rw [hkp B (by omega) (by omega)]
        have HN : Hid (J (pre ++ [(cur.extract 0 k).toList]) (W'.setCell ⟨B, 0, none⟩ (.string (cur.extract (k + 1) cur.size)))) := Lib.hid (HJ.out _ _ _ _ hJ' (setCell_grown _ _ _) (fun r e => by cases e; omega))
        obtain ⟨gk', rfl⟩ : ∃ g, gk = g + 1 := ⟨gk - 1, by omega⟩
        clear e0 e1 e2 ef
        gi_wp2
        gi_roundg gk'
        case measure => omega
        case rel =>
          exact ⟨pre ++ [(cur.extract 0 k).toList], cur.extract (k + 1) cur.size, by rw [HX.out, HP.out]; simp, HN.out, by omega, by omega, by simp [World.cell?_setCell_same' _ _ _ (by rw [q0]; rfl)], by rw [World.frozen?_setCell]; exact qf, by simp [World.cell?_setCell_other, q1], by simp [World.cell?_setCell_other, q2]⟩
      · gi_wp2
        refine bodyPost_ret (results_none rfl _ _ _) rfl ?_
        exact ⟨⟨_, rfl⟩, .inr ⟨pre, ⟨_, HPRE.out⟩, _, hJx'⟩⟩

end Go.Proofs.YtehhoigedniglaaDoor.Nm
