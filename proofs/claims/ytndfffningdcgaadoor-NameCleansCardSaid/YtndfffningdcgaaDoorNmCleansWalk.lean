/-
  NameCleans' walk: Clean and Split answer as the reference, for every text.
-/
import Derived.Test.YtndfffningdcgaaDoorNmClean
import Derived.Test.YtndfffningdcgaaDoorNmSpeaks
import Derived.Test.YtndfffningdcgaaDoorNmChecksWalk
import Derived.Lib.LastIndexByte
namespace Go.Proofs.YtndfffningdcgaaDoor.Nm
open Go.RowKit Go.Shelf
set_option linter.unusedVariables false
set_option linter.unusedSimpArgs false

theorem splitGo_mid (a b : List UInt8) : ∀ cur, splitGo cur (a ++ 47 :: b) = splitGo cur a ++ splitGo [] b := by
  induction a with
  | nil => intro cur; simp [splitGo]
  | cons c t ih =>
    intro cur
    by_cases h : c = 47
    · subst h
      simp [splitGo, ih]
    · simp [splitGo, h, ih]

theorem parts_at (s : ByteArray) (i : Nat) (hi : i < s.size) (h : s[i] = 47) (hn : ∀ j (hj : j < s.size), i < j → s[j] ≠ 47) :
    parts s.toList = parts (s.toList.take i) ++ [(s.extract (i + 1) s.size).toList] := by
  have e1 : s.toList = s.toList.take i ++ 47 :: s.toList.drop (i + 1) := by
    have := drop_at s i hi
    rw [h] at this
    rw [← this, List.take_append_drop]
  have e2 : (s.extract (i + 1) s.size).toList = s.toList.drop (i + 1) := by
    rw [Lib.toList_data, Lib.toList_data, ByteArray.data_extract, Array.toList_extract, List.extract_eq_take_drop, List.take_of_length_le]
    rw [List.length_drop]
    exact Nat.le_refl _
  have e3 : splitGo [] (s.toList.drop (i + 1)) = [s.toList.drop (i + 1)] := by
    rw [splitGo_none]
    · rfl
    · intro k hk
      rw [List.getElem?_drop] at hk
      obtain ⟨hk1, hk2⟩ := List.getElem?_eq_some_iff.1 hk
      rw [size_toList] at hk1
      refine hn (i + 1 + k) hk1 (by omega) ?_
      rw [← hk2]
      simp only [Lib.toList_data]
      rfl
  unfold parts
  conv => lhs; rw [e1]
  rw [splitGo_mid, e3, e2]

theorem glue_at (s : ByteArray) (i : Nat) (hi : i < s.size) (h : s[i] = 47) : s.extract 0 i ++ ⟨#[47]⟩ ++ s.extract (i + 1) s.size = s := by
  have e1 : s.toList = s.toList.take i ++ 47 :: s.toList.drop (i + 1) := by
    have := drop_at s i hi
    rw [h] at this
    rw [← this, List.take_append_drop]
  apply ByteArray.ext
  apply Array.toList_inj.1
  rw [Lib.toList_data] at e1
  rw [ByteArray.data_append, ByteArray.data_append, Array.toList_append, Array.toList_append, ByteArray.data_extract, ByteArray.data_extract, Array.toList_extract, Array.toList_extract, List.extract_eq_take_drop, List.extract_eq_take_drop]
  rw [List.take_of_length_le (l := List.drop (i + 1) s.data.toList) (by rw [List.length_drop]; exact Nat.le_refl _)]
  conv => rhs; rw [e1]
  simp

/-- What Split tells. -/
def SplitOf (s d b : ByteArray) : Prop :=
  ∃ init, parts s.toList = init ++ [b.toList] ∧ (init = [] ∧ d = ⟨#[]⟩ ∨ init ≠ [] ∧ d ++ ⟨#[47]⟩ ++ b = s)

theorem bang (s : ByteArray) (i : Nat) (h : i < s.size) : s.data[i]! = s[i] := by
  rw [getElem!_pos s.data i h]
  rfl

set_option maxHeartbeats 1000000 in
theorem split_calls (s : ByteArray) (w : World) (hs : s.size ≤ 140737488351232) :
    Calls Tryd.prog 17 #[.string s] w fun e w' => ∃ d b, e = .returned (.tuple #[.string d, .string b]) ∧ SplitOf s d b ∧ ∃ q, w' = w.drewN q := by
  have hsp := Lib.lastIdx_spec s 47 s.size
  have HL : ∀ W : World, Calls Tryd.prog 29 #[.string s, .string ⟨#[47]⟩] W fun e w' => e = .returned (.int .i64 (Lib.lastIdx s 47 s.size)) ∧ W = w' := fun W =>
    (Tryd.strings_LastIndex_one s ⟨#[47]⟩ rfl (by omega) W).mono fun _ _ ⟨h1, h2⟩ => ⟨h1, h2.symm⟩
  rcases hsp with ⟨h1, h2⟩ | ⟨i, h0, h1, h2, h3⟩
  · rw [h1] at HL
    have hp : parts s.toList = [s.toList] := by
      unfold parts
      rw [splitGo_none]
      · rfl
      · intro k hk
        obtain ⟨hk1, hk2⟩ := List.getElem?_eq_some_iff.1 hk
        rw [size_toList] at hk1
        refine h2 k hk1 ?_
        rw [bang s k hk1]
        have e : s[k] = 47 := by rw [← hk2]; simp only [Lib.toList_data]; rfl
        rw [e]
        rfl
    have e1 : s.extract 0 0 = ⟨#[]⟩ := by apply ByteArray.ext; rw [ByteArray.data_extract]; simp
    have e2 : s.extract 0 s.size = s := by apply ByteArray.ext; rw [ByteArray.data_extract]; exact Array.extract_size
    have fin : SplitOf s ⟨#[]⟩ s := ⟨[], by rw [hp]; rfl, .inl ⟨rfl, rfl⟩⟩
    have HF := Lib.hid fin
    have HLh := Lib.hid HL
    clear h1 h2 hp fin HL
    go_enter Tryd.func17, Tryd.ntmps17
    go_wp2_with (go_at_call 29; refine (HLh.out _).mono ?_; rintro e w' ⟨rfl, rfl⟩)
    go_quiet (fail)
    go_wp2
    go_ret2
    exact ⟨_, _, rfl, by
      have e3 : (max (-1 : Int) 0).toNat = 0 := rfl
      rw [e3, e1]
      exact HF.out, _, rfl⟩
  · rw [h1] at HL
    have hb : s[i] = 47 := by
      rw [bang s i h0] at h2
      exact UInt8.toNat_inj.1 (show s[i].toNat = 47 by omega)
    have fin : SplitOf s (s.extract 0 i) (s.extract (i + 1) s.size) := by
      refine ⟨parts (s.toList.take i), parts_at s i h0 hb (fun j hj hij e => ?_), .inr ⟨splitGo_ne _ _, glue_at s i h0 hb⟩⟩
      have := h3 j hij hj
      rw [bang s j hj, e] at this
      exact this rfl
    have HF := Lib.hid fin
    have HLh := Lib.hid HL
    have hmax : max (i : Int) 0 = i := by omega
    have hw1 : wrap64 ((i : Int) + 1) = ((i + 1 : Nat) : Int) := by unfold wrap64; omega
    have hle : i + 1 ≤ s.size := h0
    have hlez : (i : Int) + 1 ≤ (s.size : Int) := by omega
    clear h1 h2 h3 fin hb HL
    go_enter Tryd.func17, Tryd.ntmps17
    go_wp2_with (go_at_call 29; refine (HLh.out _).mono ?_; rintro e w' ⟨rfl, rfl⟩)
    go_quiet (fail)
    go_wp2
    go_ret2
    exact ⟨_, _, rfl, HF.out, _, rfl⟩

theorem resS_none : resS none = ⟨#[]⟩ := rfl
theorem resS_some (t : ByteArray) : resS (some t) = t := rfl

set_option maxHeartbeats 2000000 in
set_option maxRecDepth 100000 in
theorem cleans_walk (s : ByteArray) (w : World) (hs : s.size ≤ 140737488351232) (hT : Tabs w) :
    Calls Tryd.prog 6 #[.string s] w fun e w' => e = .returned (.bool true) ∧ Below w.heap.size w w' := by
  have h1 : (s.extract 0 (min (s.size : Int) 500).toNat).size ≤ 100000 := by rw [ByteArray.size_extract]; omega
  have h2 : (s.extract 0 (min (s.size : Int) 500).toNat).size ≤ 140737488351232 := by omega
  have h3 : (s.extract 0 (min (s.size : Int) 500).toNat).size ≤ 1000000 := by omega
  obtain ⟨s2, hs2⟩ : ∃ s2, s.extract 0 (min (s.size : Int) 500).toNat = s2 := ⟨_, rfl⟩
  rw [hs2] at h1 h2 h3
  have hb1 : (0 : Int) ≤ min (s.size : Int) 500 := by omega
  have hb2 : min (s.size : Int) 500 ≤ (s.size : Int) := by omega
  have B0 := Lib.hid (Below.refl w.heap.size w)
  cases hcl : cleanB s2 with
  | none =>
    have r0 := resS_none
    have i0 : (none : Option ByteArray).isSome = false := rfl
    go_enter Tryd.func6, Tryd.ntmps6
    go_wp2_with (first | (go_at_call 8; refine (speaks_calls _ hT).mono ?_; rintro e w1 ⟨rfl, hb⟩; have hT1 := Tabs.below hT hb; replace B0 := Lib.hid (B0.out.trans (hb.mono B0.out.size)); clear hb))
    refine (clean_calls s2 _ h1 hT1).mono ?_
    rintro e w2 ⟨rfl, hb⟩
    have hT2 := hT1.below hb
    replace B0 := Lib.hid (B0.out.trans (hb.mono B0.out.size))
    clear hb
    rw [hcl]
    go_wp2_with fail
    refine (refclean_calls s2 _ h1).mono ?_
    rintro e w3 ⟨rfl, hb⟩
    have hT3 := hT2.below hb
    replace B0 := Lib.hid (B0.out.trans (hb.mono B0.out.size))
    clear hb
    rw [hcl]
    clear hcl
    go_wp2_with fail
    refine (clean_calls ⟨#[]⟩ _ (by decide) hT3).mono ?_
    rintro e w5 ⟨rfl, hb⟩
    have hT5 := hT3.below hb
    replace B0 := Lib.hid (B0.out.trans (hb.mono B0.out.size))
    clear hb
    obtain ⟨ra, rb, hrr⟩ : ∃ ra rb, ra = resS (cleanB ⟨#[]⟩) ∧ rb = (cleanB ⟨#[]⟩).isSome := ⟨_, _, rfl, rfl⟩
    rw [← hrr.1, ← hrr.2]
    clear hrr
    go_wp2_with fail
    refine (split_calls s2 _ h2).mono ?_
    rintro e w6 ⟨d, b, rfl, ⟨init, hp, hd⟩, q, hq⟩
    have B6 := Lib.hid (B0.out.trans ((below_drewN w5 q).mono B0.out.size))
    rw [← hq] at B6
    clear hq B0
    go_wp2_with fail
    refine (refparts_calls s2 _ h3).mono ?_
    rintro e w7 ⟨v, rfl, hown, hb⟩
    have B7 := Lib.hid (B6.out.trans (hb.mono B6.out.size))
    rw [hp] at hown
    obtain ⟨g, cap, rfl, _, _⟩ := hown.form (by simp)
    have hcell := own_cell hown init.length (strV b.toList) (by simp [strVs])
    rw [strV_toList] at hcell
    have hlen : (init ++ [b.toList]).length = init.length + 1 := by simp
    have hsmall : init.length ≤ 1000000 := by
      have h4 := len_tot (parts s2.toList)
      rw [hp] at h4
      have h5 := tot_split s2.toList []
      have h6 : splitGo [] s2.toList = init ++ [b.toList] := hp
      rw [h6, size_toList] at h5
      simp only [List.length_nil] at h5
      omega
    have hsub : wrap64 ((init.length : Int) + 1 - 1) = init.length := by unfold wrap64; omega
    rw [hlen]
    clear hown hb hp hlen
    rcases hd with ⟨hd1, hd2⟩ | ⟨hd1, hd2⟩
    · have l0 : init.length = 0 := by rw [hd1]; rfl
      subst hd2
      have L0 := Lib.hid l0
      have hcell0 := hcell
      rw [l0] at hcell0
      have t1 : ((init.length : Int) + 1 == 1) = true := by rw [beq_iff_eq]; omega
      have t2 : decide ((1 : Int) < (init.length : Int) + 1) = false := decide_eq_false (by omega)
      have t3 : ¬ 0 < init.length := by omega
      have t4 : init.length = 0 := l0
      clear hd1 l0
      go_wp2
      go_ret
      exact ⟨by simp, B7.out⟩
    · have l0 : 0 < init.length := List.length_pos_iff.2 hd1
      have t1 : ((init.length : Int) + 1 == 1) = false := by rw [beq_eq_false_iff_ne]; omega
      have t2 : decide ((1 : Int) < (init.length : Int) + 1) = true := decide_eq_true (by omega)
      have t4 : ¬ init.length = 0 := by omega
      have hcz : d.size + 1 ≤ 140737488351232 := by
        have := congrArg ByteArray.size hd2
        rw [ByteArray.size_append, ByteArray.size_append] at this
        have e : (⟨#[47]⟩ : ByteArray).size = 1 := rfl
        omega
      have hcz2 : (d ++ ⟨#[47]⟩ : ByteArray).size + b.size ≤ 140737488351232 := by
        have := congrArg ByteArray.size hd2
        rw [ByteArray.size_append] at this
        omega
      clear hd1
      go_wp2
      go_ret
      exact ⟨by simp, B7.out⟩
  | some t =>
    have r0 := resS_some t
    have i0 : (some t).isSome = true := rfl
    have hck : checkB t = true := by
      unfold cleanB at hcl
      cases hg : cleanGo (parts s2.toList) [] with
      | none => rw [hg] at hcl; cases hcl
      | some out =>
        rw [hg, Option.bind_some] at hcl
        split at hcl
        · rename_i h; cases hcl; exact h
        · cases hcl
    have hag := clean_again t hck
    have hts : t.size ≤ 65535 := by
      have h := hck
      unfold checkB at h
      simp only [Bool.and_eq_true, decide_eq_true_eq] at h
      exact h.1.1.2
    have hts1 : t.size ≤ 100000 := by omega
    have hts2 : t.size ≤ 140737488351232 := by omega
    have v0 : errN true = 0 := rfl
    go_enter Tryd.func6, Tryd.ntmps6
    go_wp2_with (first | (go_at_call 8; refine (speaks_calls _ hT).mono ?_; rintro e w1 ⟨rfl, hb⟩; have hT1 := Tabs.below hT hb; replace B0 := Lib.hid (B0.out.trans (hb.mono B0.out.size)); clear hb))
    refine (clean_calls s2 _ h1 hT1).mono ?_
    rintro e w2 ⟨rfl, hb⟩
    have hT2 := hT1.below hb
    replace B0 := Lib.hid (B0.out.trans (hb.mono B0.out.size))
    clear hb
    rw [hcl]
    go_wp2_with fail
    refine (refclean_calls s2 _ h1).mono ?_
    rintro e w3 ⟨rfl, hb⟩
    have hT3 := hT2.below hb
    replace B0 := Lib.hid (B0.out.trans (hb.mono B0.out.size))
    clear hb
    rw [hcl]
    clear hcl
    go_wp2_with fail
    refine (check_calls t _ hts2 hT3).mono ?_
    rintro e w4 ⟨rfl, hb⟩
    replace hT3 := hT3.below hb
    replace B0 := Lib.hid (B0.out.trans (hb.mono B0.out.size))
    clear hb
    rw [hck]
    go_wp2_with fail
    refine (clean_calls t _ hts1 hT3).mono ?_
    rintro e w5 ⟨rfl, hb⟩
    have hT5 := hT3.below hb
    replace B0 := Lib.hid (B0.out.trans (hb.mono B0.out.size))
    clear hb
    rw [hag]
    clear hag hck
    go_wp2_with fail
    refine (split_calls s2 _ h2).mono ?_
    rintro e w6 ⟨d, b, rfl, ⟨init, hp, hd⟩, q, hq⟩
    have B6 := Lib.hid (B0.out.trans ((below_drewN w5 q).mono B0.out.size))
    rw [← hq] at B6
    clear hq B0
    go_wp2_with fail
    refine (refparts_calls s2 _ h3).mono ?_
    rintro e w7 ⟨v, rfl, hown, hb⟩
    have B7 := Lib.hid (B6.out.trans (hb.mono B6.out.size))
    rw [hp] at hown
    obtain ⟨g, cap, rfl, _, _⟩ := hown.form (by simp)
    have hcell := own_cell hown init.length (strV b.toList) (by simp [strVs])
    rw [strV_toList] at hcell
    have hlen : (init ++ [b.toList]).length = init.length + 1 := by simp
    have hsmall : init.length ≤ 1000000 := by
      have h4 := len_tot (parts s2.toList)
      rw [hp] at h4
      have h5 := tot_split s2.toList []
      have h6 : splitGo [] s2.toList = init ++ [b.toList] := hp
      rw [h6, size_toList] at h5
      simp only [List.length_nil] at h5
      omega
    have hsub : wrap64 ((init.length : Int) + 1 - 1) = init.length := by unfold wrap64; omega
    rw [hlen]
    clear hown hb hp hlen
    rcases hd with ⟨hd1, hd2⟩ | ⟨hd1, hd2⟩
    · have l0 : init.length = 0 := by rw [hd1]; rfl
      subst hd2
      have L0 := Lib.hid l0
      have hcell0 := hcell
      rw [l0] at hcell0
      have t1 : ((init.length : Int) + 1 == 1) = true := by rw [beq_iff_eq]; omega
      have t2 : decide ((1 : Int) < (init.length : Int) + 1) = false := decide_eq_false (by omega)
      have t3 : ¬ 0 < init.length := by omega
      have t4 : init.length = 0 := l0
      clear hd1 l0
      go_wp2
      go_ret
      exact ⟨by simp, B7.out⟩
    · have l0 : 0 < init.length := List.length_pos_iff.2 hd1
      have t1 : ((init.length : Int) + 1 == 1) = false := by rw [beq_eq_false_iff_ne]; omega
      have t2 : decide ((1 : Int) < (init.length : Int) + 1) = true := decide_eq_true (by omega)
      have t4 : ¬ init.length = 0 := by omega
      have hcz : d.size + 1 ≤ 140737488351232 := by
        have := congrArg ByteArray.size hd2
        rw [ByteArray.size_append, ByteArray.size_append] at this
        have e : (⟨#[47]⟩ : ByteArray).size = 1 := rfl
        omega
      have hcz2 : (d ++ ⟨#[47]⟩ : ByteArray).size + b.size ≤ 140737488351232 := by
        have := congrArg ByteArray.size hd2
        rw [ByteArray.size_append] at this
        omega
      clear hd1
      go_wp2
      go_ret
      exact ⟨by simp, B7.out⟩

end Go.Proofs.YtndfffningdcgaaDoor.Nm
