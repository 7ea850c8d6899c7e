/-
  Names: Split's directory is nothing, or what stands ahead of a slash; a directory's directory is a directory.
-/
import Derived.Test.YtndfffningdcgaaDoorNmListsWalk
import Derived.Lib.LastIndexByte
namespace Go.Proofs.YtndfffningdcgaaDoor.Nm
open Go.RowKit Go.Shelf
set_option linter.unusedVariables false
set_option linter.unusedSimpArgs false

/-- d is empty, or stands ahead of a slash of s. -/
def DirOf (s d : ByteArray) : Prop := d.size = 0 ∨ (d.size < s.size ∧ s.toList.take d.size = d.toList ∧ s.toList[d.size]? = some 47)
theorem DirOf.mem {s d : ByteArray} (h : DirOf s d) (h0 : d.size ≠ 0) : d.toList ∈ dirsOf s.toList ∧ d.size < s.size := by
  rcases h with h | ⟨h1, h2, h3⟩
  · exact absurd h h0
  · rw [mem_dirsOf, size_toList]
    exact ⟨⟨h2, h3⟩, h1⟩
theorem dirs_dirs {s d e : List UInt8} (h : d ∈ dirsOf s) (h2 : e ∈ dirsOf d) : e ∈ dirsOf s := by
  rw [mem_dirsOf] at h h2 ⊢
  obtain ⟨a, b⟩ := h
  obtain ⟨a2, b2⟩ := h2
  have hl : e.length < d.length := by
    rcases Nat.lt_or_ge e.length d.length with h | h
    · exact h
    · rw [List.getElem?_eq_none h] at b2; cases b2
  rw [← a, List.take_take, Nat.min_eq_left (by omega)] at a2
  rw [← a, List.getElem?_take_of_lt hl] at b2
  exact ⟨a2, b2⟩

theorem bang (s : ByteArray) (i : Nat) (h : i < s.size) : s.data[i]! = s[i] := by
  rw [getElem!_pos s.data i h]
  rfl

set_option maxHeartbeats 1000000 in
theorem splitdir_calls (s : ByteArray) (w : World) (hs : s.size ≤ 140737488351232) :
    Calls Tryd.prog 17 #[.string s] w fun e w' => ∃ d b, e = .returned (.tuple #[.string d, .string b]) ∧ DirOf s d ∧ ∃ q, w' = w.drewN q := by
  have hsp := Lib.lastIdx_spec s 47 s.size
  have HL : ∀ W : World, Calls Tryd.prog 29 #[.string s, .string ⟨#[47]⟩] W fun e w' => e = .returned (.int .i64 (Lib.lastIdx s 47 s.size)) ∧ W = w' := fun W =>
    (Tryd.strings_LastIndex_one s ⟨#[47]⟩ rfl (by omega) W).mono fun _ _ ⟨h1, h2⟩ => ⟨h1, h2.symm⟩
  rcases hsp with ⟨h1, h2⟩ | ⟨i, h0, h1, h2, h3⟩
  · rw [h1] at HL
    have e1 : s.extract 0 0 = ⟨#[]⟩ := by apply ByteArray.ext; rw [ByteArray.data_extract]; simp
    have e2 : s.extract 0 s.size = s := by apply ByteArray.ext; rw [ByteArray.data_extract]; exact Array.extract_size
    have fin : DirOf s ⟨#[]⟩ := .inl rfl
    have HF := Lib.hid fin
    have HLh := Lib.hid HL
    clear h1 h2 fin HL
    go_enter Tryd.func17, Tryd.ntmps17
    go_wp2_with (go_at_call 29; refine (HLh.out _).mono ?_; rintro e w' ⟨rfl, rfl⟩)
    go_quiet (fail)
    go_wp2
    go_ret2
    exact ⟨_, _, rfl, by
      have e3 : (max (-1 : Int) 0).toNat = 0 := rfl
      rw [e3, e1]
      exact HF.out, _, rfl⟩
  · rw [h1] at HL
    have hb : s[i] = 47 := by
      rw [bang s i h0] at h2
      exact UInt8.toNat_inj.1 (show s[i].toNat = 47 by omega)
    have fin : DirOf s (s.extract 0 i) := by
      have es : (s.extract 0 i).size = i := by rw [ByteArray.size_extract]; omega
      refine .inr ⟨by rw [es]; exact h0, by rw [es, extract_take0, Lib.toList_data], ?_⟩
      rw [es, ← hb, Lib.toList_data, List.getElem?_eq_getElem (by simpa using h0)]
      rfl
    have HF := Lib.hid fin
    have HLh := Lib.hid HL
    have hmax : max (i : Int) 0 = i := by omega
    have hw1 : wrap64 ((i : Int) + 1) = ((i + 1 : Nat) : Int) := by unfold wrap64; omega
    have hle : i + 1 ≤ s.size := h0
    have hlez : (i : Int) + 1 ≤ (s.size : Int) := by omega
    clear h1 h2 h3 fin hb HL
    go_enter Tryd.func17, Tryd.ntmps17
    go_wp2_with (go_at_call 29; refine (HLh.out _).mono ?_; rintro e w' ⟨rfl, rfl⟩)
    go_quiet (fail)
    go_wp2
    go_ret2
    exact ⟨_, _, rfl, HF.out, _, rfl⟩

end Go.Proofs.YtndfffningdcgaaDoor.Nm
