/-
  A head's headers are read again: plain.
-/
import Derived.Test.YtehhoigedniglaaDoorZpAnyLaw
namespace Go.Proofs.YtehhoigedniglaaDoor.Zp
open Go.RowKit Go.Shelf Go.Proofs.YtehhoigedniglaaDoor.Nm
set_option linter.unusedVariables false
set_option linter.unusedSimpArgs false

def joinB : List ByteArray → ByteArray
  | [] => ⟨#[]⟩
  | a :: l => a ++ joinB l
def sumS : List ByteArray → Nat
  | [] => 0
  | a :: l => a.size + sumS l
theorem joinB_size : ∀ l, (joinB l).size = sumS l
  | [] => rfl
  | a :: l => by rw [joinB, sumS, ByteArray.size_append, joinB_size l]
theorem joinB_split : ∀ (l : List ByteArray) (j : Nat) (p : ByteArray), l[j]? = some p → joinB l = joinB (l.take j) ++ p ++ joinB (l.drop (j + 1))
  | [], j, p, h => by simp at h
  | a :: l, 0, p, h => by
    simp at h
    subst h
    simp [joinB, empL]
  | a :: l, j + 1, p, h => by
    have := joinB_split l j p (by simpa using h)
    simp only [joinB, List.take_succ_cons, List.drop_succ_cons]
    rw [this]
    simp only [ByteArray.append_assoc]
theorem part_join {l : List ByteArray} {s p : ByteArray} (hs : s = joinB l) (j i n : Nat) (hj : l[j]? = some p) (hi : sumS (l.take j) = i) (hn : p.size = n) : partS s i n = p := by
  have e := joinB_split l j p hj
  rw [← hs] at e
  have ha : (joinB (l.take j)).size = i := by rw [joinB_size, hi]
  have hsz : i + n ≤ s.size := by rw [e, ByteArray.size_append, ByteArray.size_append, ha, hn]; omega
  rw [part_ext _ _ _ hsz, e]
  exact ext_mid _ p _ i _ ha (by rw [hn])
theorem byL_put (n k : Nat) : byL (putS n k) = putB n k := by
  unfold byL putS
  rw [strOfNums_data, putL, List.map_map, List.map_map]
  conv => rhs; rw [← List.map_id (putB n k)]
  apply List.map_congr_left
  intro x hx
  have := putB_lt k n x hx
  simp
  omega
theorem getS_pu (v : Int) (k : Nat) (h0 : 0 ≤ v) (h : v < ((256 ^ k : Nat) : Int)) (hk : k ≤ 8) : (getS (puI v k) : Int) = v := by
  unfold getS
  rw [if_pos (by rw [puI_size]; simpa using hk)]
  rw [show puI v (k : Int) = putS v.toNat k from rfl, byL_put, getB_put_of (by omega)]
  omega
theorem num_join {l : List ByteArray} {s : ByteArray} (hs : s = joinB l) (j i n : Nat) (v : Int) (hj : l[j]? = some (puI v n)) (hi : sumS (l.take j) = i) (h0 : 0 ≤ v) (h : v < ((256 ^ n : Nat) : Int)) (hn : n ≤ 8) : (numS s i n : Int) = v := by
  unfold numS
  rw [part_join hs j i n hj hi (by rw [puI_size]; simp), getS_pu v n h0 h hn]
theorem num_join_of {l : List ByteArray} {s p : ByteArray} (hs : s = joinB l) (j i n N : Nat) (hj : l[j]? = some p) (hi : sumS (l.take j) = i) (hn : p.size = n) (hp : getS p = N) : numS s i n = N := by
  unfold numS
  rw [part_join hs j i n hj hi hn, hp]

theorem unpack_pack {t : Tm} (h : Within t) : unpackT (dateN t) (timeN t) = t := by
  obtain ⟨y, mo, d, hh, mi, s⟩ := t
  obtain ⟨⟨a1, a2⟩, ⟨b1, b2⟩, ⟨c1, c2⟩, ⟨d1, d2⟩, ⟨e1, e2⟩, ⟨f1, f2⟩, g⟩ := h
  simp only at a1 a2 b1 b2 c1 c2 d1 d2 e1 e2 f1 f2 g
  rw [Int.tmod_eq_emod_of_nonneg (by omega)] at g
  unfold unpackT dateN timeN
  simp only [Tm.mk.injEq]
  omega

/-- What both forms tell of a text whose fields lie as they should. -/
theorem tell_of {s : ByteArray} {k : Nat} {t : Tm} {kept : Bool} (ht : tgood t = true) (hm : (numS s (k + 2) 2 : Int) = methI kept) (h4 : (numS s (k + 4) 2 : Int) = timeN t) (h6 : (numS s (k + 6) 2 : Int) = dateN t) :
    rawT s k = t ∧ tellT s k = t ∧ tellK s k = kept := by
  have e : rawT s k = t := by unfold rawT; rw [h6, h4, unpack_pack (tgood_within ht)]
  refine ⟨e, by unfold tellT; rw [e, if_pos ht], ?_⟩
  unfold tellK
  rw [hm]
  cases kept <;> rfl

theorem sgn_join {l : List ByteArray} {s sign : ByteArray} (hs : s = joinB (sign :: l)) (h4 : sign.size = 4) : sgnB s sign = true := by
  have hz : 4 ≤ s.size := by rw [hs, joinB_size, sumS, h4]; omega
  rw [sgn_test s sign h4, Nat.min_eq_right hz]
  have e : s.extract 0 4 = sign.extract 0 4 := by
    have e1 : s.extract 0 4 = sign := by
      have := part_join (p := sign) hs 0 0 4 rfl rfl h4
      rw [part_ext _ _ _ (by omega)] at this
      exact this
    have e2 : sign.extract 0 4 = sign := by
      have := ext_mid ⟨#[]⟩ sign ⟨#[]⟩ 0 4 rfl (by omega)
      rw [empL, empR] at this
      exact this
    rw [e1, e2]
  rw [e, beq_iff_eq]

/-- The reader's answer, by the fields. -/
theorem read_of {F : Form} {s more : ByteArray} {g : Hd} (hs : sgnB (s ++ more) F.sign = true) (hz : s.size = F.size + nameN F (s ++ more) + extraN F (s ++ more)) (h0 : 0 < F.size)
    (ht : tgood (rawT (s ++ more) F.flags) = true) (hg : toldH F (s ++ more) = g) (hw : F.str g = s) : readG F (s ++ more) = (g, (s.size : Int)) := by
  have e : wantS F (s ++ more) = s := by unfold wantS; rw [hg, hw]
  rw [readG_yes hs (by rw [ByteArray.size_append]; omega) ht, e, hg]
  rw [e]
  simp only [not_or, Bool.not_eq_false]
  refine ⟨by omega, by omega, ?_⟩
  unfold Lib.hasPrefix
  rw [List.isPrefixOf_iff_prefix, ByteArray.data_append, Array.toList_append]
  exact List.prefix_append _ _

theorem ext_ext (s : ByteArray) (k i j : Nat) (hj : j ≤ k) : (s.extract 0 k).extract i j = s.extract i j := by
  apply ByteArray.ext
  apply Array.toList_inj.1
  rw [ByteArray.data_extract, ByteArray.data_extract, ByteArray.data_extract, Array.toList_extract, Array.toList_extract, Array.toList_extract, List.extract_eq_take_drop, List.extract_eq_take_drop, List.extract_eq_take_drop, List.drop_zero, Nat.sub_zero, List.drop_take, List.take_take]
  congr 1
  omega
theorem num_cut (s : ByteArray) (k i n : Nat) (h : i + n ≤ k) (hk : k ≤ s.size) : numS (s.extract 0 k) i n = numS s i n := by
  unfold numS
  rw [part_ext _ _ _ (by rw [ByteArray.size_extract]; omega), part_ext _ _ _ (by omega), ext_ext _ _ _ _ h]
/-- What is cut tells that more is needed. -/
theorem read_cut {F : Form} {s : ByteArray} (h4 : F.sign.size = 4) (hl : F.lengths + 4 ≤ F.size) (hs : sgnB s F.sign = true) (hz : s.size = F.size + nameN F s + extraN F s) (k : Nat) (hk : k < s.size) : readG F (s.extract 0 k) = (zeroH, 0) := by
  have hsz : (s.extract 0 k).size = k := by rw [ByteArray.size_extract]; omega
  apply readG_short
  · rw [sgn_test _ _ h4, beq_iff_eq] at hs
    rw [sgn_test _ _ h4, beq_iff_eq, hsz]
    rcases Nat.lt_or_ge s.size 4 with h | h
    · exfalso
      omega
    rw [Nat.min_eq_right h] at hs
    have hs2 : s.extract 0 4 = F.sign.extract 0 4 := by
      apply ByteArray.ext
      apply Array.toList_inj.1
      rw [Lib.toList_data, Lib.toList_data] at hs
      exact hs
    rw [ext_ext _ _ _ _ (by omega), ← ext_ext s 4 0 (min k 4) (by omega), hs2, ext_ext _ _ _ _ (by omega)]
  · rw [hsz]
    by_cases h : k < F.size
    · exact .inl h
    · right
      unfold nameN extraN at hz ⊢
      rw [num_cut _ _ _ _ (by omega) (by omega), num_cut _ _ _ _ (by omega) (by omega)]
      omega
end Go.Proofs.YtehhoigedniglaaDoor.Zp
