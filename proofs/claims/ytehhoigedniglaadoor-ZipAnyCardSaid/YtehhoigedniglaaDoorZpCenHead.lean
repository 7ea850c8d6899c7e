/-
  A central header is read: what it tells beyond its name. (Printed by mkzpcenhead.py.)
-/
import Derived.Test.YtehhoigedniglaaDoorZpTell
import Derived.Test.YtehhoigedniglaaDoorZpCentral
namespace Go.Proofs.YtehhoigedniglaaDoor.Zp
open Go.RowKit Go.Shelf Go.Proofs.YtehhoigedniglaaDoor.Nm
set_option linter.unusedVariables false
set_option linter.unusedSimpArgs false

def cenBig (s : ByteArray) : Bool := (numS s 20 4 : Int) == 4294967295
def cenFar (s : ByteArray) : Bool := (numS s 42 4 : Int) == 4294967295
def cenAt (s name : ByteArray) : Nat := 46 + name.size + 4
def cenRaw (s name : ByteArray) (t : Tm) (kept : Bool) : Hd :=
  ⟨name, t, if cenBig s then numS s (cenAt s name + 8) 8 else numS s 20 4, if cenBig s then numS s (cenAt s name) 8 else numS s 24 4, numS s 16 4,
    if cenFar s then (if cenBig s then numS s (cenAt s name + 16) 8 else numS s (cenAt s name) 8) else numS s 42 4, kept⟩


set_option maxHeartbeats 1000000 in
set_option maxRecDepth 100000 in
theorem cen_sn (B : Nat) (s name : ByteArray) (y mo d hh mi sc : Int) (kept : Bool) (w0 w : World) (n16 n20 n24 n42 : Nat) (C : ByteArray) (hn : name.size ≤ 1000000) (hB : w0.heap.size ≤ B) (H0 : Hid (Below w0.heap.size w0 w))
    (b0 : Hid (Blk B #[.string name, .int .i64 y, .int .i64 mo, .int .i64 d, .int .i64 hh, .int .i64 mi, .int .i64 sc, .int .u64 0, .int .u64 0, .int .u32 0, .int .u64 0, .bool kept] 32 w)) (b16 : n16 < 4294967296)
    (HN16 : Hid (∀ W, Calls Tryd.prog 49 #[.string s, .int .i64 16, .int .i64 4] W fun e w' => e = .returned (.int .u64 (n16 : Nat)) ∧ W = w'))
    (HN20 : Hid (∀ W, Calls Tryd.prog 49 #[.string s, .int .i64 20, .int .i64 4] W fun e w' => e = .returned (.int .u64 (n20 : Nat)) ∧ W = w'))
    (HN24 : Hid (∀ W, Calls Tryd.prog 49 #[.string s, .int .i64 24, .int .i64 4] W fun e w' => e = .returned (.int .u64 (n24 : Nat)) ∧ W = w'))
    (HN42 : Hid (∀ W, Calls Tryd.prog 49 #[.string s, .int .i64 42, .int .i64 4] W fun e w' => e = .returned (.int .u64 (n42 : Nat)) ∧ W = w'))
    (q1 : ((n20 : Int) == 4294967295) = false) (q2 : ((n42 : Int) == 4294967295) = false)
    (HL : Hid (∀ W, Below w0.heap.size w0 W → Calls Tryd.prog 14 #[.agg #[.string name, .int .i64 y, .int .i64 mo, .int .i64 d, .int .i64 hh, .int .i64 mi, .int .i64 sc, .int .u64 (n20 : Nat), .int .u64 (n24 : Nat), .int .u32 (n16 : Nat), .int .u64 (n42 : Nat), .bool kept]] W fun e w' => e = .returned (.string C) ∧ Below W.heap.size W w')) :
    Calls Tryd.prog 34 #[.string s, .pointer (some ⟨B, 0, none⟩)] w fun e w' => e = .returned (.string C) ∧ Blk B #[.string name, .int .i64 y, .int .i64 mo, .int .i64 d, .int .i64 hh, .int .i64 mi, .int .i64 sc, .int .u64 (n20 : Nat), .int .u64 (n24 : Nat), .int .u32 (n16 : Nat), .int .u64 (n42 : Nat), .bool kept] 32 w' ∧ Below B w w' := by
  have hlt := b0.out.lt
  have hw : IntKind.u32.wrap (n16 : Int) = (n16 : Int) := by rw [IntKind.wrap_u32]; omega
  have c0 := b0.out.cell 0
  have c1 := b0.out.cell 1
  have c2 := b0.out.cell 2
  have c3 := b0.out.cell 3
  have c4 := b0.out.cell 4
  have c5 := b0.out.cell 5
  have c6 := b0.out.cell 6
  have c7 := b0.out.cell 7
  have c8 := b0.out.cell 8
  have c9 := b0.out.cell 9
  have c10 := b0.out.cell 10
  have c11 := b0.out.cell 11
  have f0 := b0.out.frozen
  simp at c0 c1 c2 c3 c4 c5 c6 c7 c8 c9 c10 c11
  go_enter Tryd.func34, Tryd.ntmps34
  go_wp2_with fail
  refine (HN16.out _).mono ?_
  rintro e w' ⟨rfl, rfl⟩
  go_wp2_with fail
  refine (HN20.out _).mono ?_
  rintro e w' ⟨rfl, rfl⟩
  go_wp2_with fail
  refine (HN24.out _).mono ?_
  rintro e w' ⟨rfl, rfl⟩
  go_wp2_with fail
  refine (HN42.out _).mono ?_
  rintro e w' ⟨rfl, rfl⟩
  go_wp2_with fail
  have k0 := b0.out
  have m0 := Below.refl B w
  have k1 := k0.setTo (cs' := #[.string name, .int .i64 y, .int .i64 mo, .int .i64 d, .int .i64 hh, .int .i64 mi, .int .i64 sc, .int .u64 0, .int .u64 0, .int .u32 (n16 : Nat), .int .u64 0, .bool kept]) 9 (.int .u32 (n16 : Nat)) rfl
  have m1 := m0.setCell (p := ⟨B, 9, none⟩) (Nat.le_refl _) (.int .u32 (n16 : Nat))
  have k2 := k1.setTo (cs' := #[.string name, .int .i64 y, .int .i64 mo, .int .i64 d, .int .i64 hh, .int .i64 mi, .int .i64 sc, .int .u64 (n20 : Nat), .int .u64 0, .int .u32 (n16 : Nat), .int .u64 0, .bool kept]) 7 (.int .u64 (n20 : Nat)) rfl
  have m2 := m1.setCell (p := ⟨B, 7, none⟩) (Nat.le_refl _) (.int .u64 (n20 : Nat))
  have k3 := k2.setTo (cs' := #[.string name, .int .i64 y, .int .i64 mo, .int .i64 d, .int .i64 hh, .int .i64 mi, .int .i64 sc, .int .u64 (n20 : Nat), .int .u64 (n24 : Nat), .int .u32 (n16 : Nat), .int .u64 0, .bool kept]) 8 (.int .u64 (n24 : Nat)) rfl
  have m3 := m2.setCell (p := ⟨B, 8, none⟩) (Nat.le_refl _) (.int .u64 (n24 : Nat))
  have k4 := k3.setTo (cs' := #[.string name, .int .i64 y, .int .i64 mo, .int .i64 d, .int .i64 hh, .int .i64 mi, .int .i64 sc, .int .u64 (n20 : Nat), .int .u64 (n24 : Nat), .int .u32 (n16 : Nat), .int .u64 (n42 : Nat), .bool kept]) 10 (.int .u64 (n42 : Nat)) rfl
  have m4 := m3.setCell (p := ⟨B, 10, none⟩) (Nat.le_refl _) (.int .u64 (n42 : Nat))
  have hl4 := k4.lt
  refine (HL.out _ (H0.out.trans (m4.mono hB))).mono ?_
  rintro e w1 ⟨rfl, hb1⟩
  have K1 := Lib.hid (k4.below hb1)
  have M1 := Lib.hid (m4.trans (hb1.mono (Nat.le_of_lt hl4)))
  clear k0 k1 k2 k3 k4 m0 m1 m2 m3 m4 hb1
  go_wp2
  go_ret
  exact ⟨rfl, K1.out, M1.out⟩


set_option maxHeartbeats 1000000 in
set_option maxRecDepth 100000 in
theorem cen_sf (B : Nat) (s name : ByteArray) (y mo d hh mi sc : Int) (kept : Bool) (w0 w : World) (n16 n20 n24 n42 A : Nat) (C : ByteArray) (hn : name.size ≤ 1000000) (hB : w0.heap.size ≤ B) (H0 : Hid (Below w0.heap.size w0 w))
    (b0 : Hid (Blk B #[.string name, .int .i64 y, .int .i64 mo, .int .i64 d, .int .i64 hh, .int .i64 mi, .int .i64 sc, .int .u64 0, .int .u64 0, .int .u32 0, .int .u64 0, .bool kept] 32 w)) (b16 : n16 < 4294967296)
    (HN16 : Hid (∀ W, Calls Tryd.prog 49 #[.string s, .int .i64 16, .int .i64 4] W fun e w' => e = .returned (.int .u64 (n16 : Nat)) ∧ W = w'))
    (HN20 : Hid (∀ W, Calls Tryd.prog 49 #[.string s, .int .i64 20, .int .i64 4] W fun e w' => e = .returned (.int .u64 (n20 : Nat)) ∧ W = w'))
    (HN24 : Hid (∀ W, Calls Tryd.prog 49 #[.string s, .int .i64 24, .int .i64 4] W fun e w' => e = .returned (.int .u64 (n24 : Nat)) ∧ W = w'))
    (HN42 : Hid (∀ W, Calls Tryd.prog 49 #[.string s, .int .i64 42, .int .i64 4] W fun e w' => e = .returned (.int .u64 (n42 : Nat)) ∧ W = w'))
    (HA : Hid (∀ W, Calls Tryd.prog 49 #[.string s, .int .i64 (46 + (name.size : Int) + 4), .int .i64 8] W fun e w' => e = .returned (.int .u64 (A : Nat)) ∧ W = w'))
    (q1 : ((n20 : Int) == 4294967295) = false) (q2 : ((n42 : Int) == 4294967295) = true)
    (HL : Hid (∀ W, Below w0.heap.size w0 W → Calls Tryd.prog 14 #[.agg #[.string name, .int .i64 y, .int .i64 mo, .int .i64 d, .int .i64 hh, .int .i64 mi, .int .i64 sc, .int .u64 (n20 : Nat), .int .u64 (n24 : Nat), .int .u32 (n16 : Nat), .int .u64 (A : Nat), .bool kept]] W fun e w' => e = .returned (.string C) ∧ Below W.heap.size W w')) :
    Calls Tryd.prog 34 #[.string s, .pointer (some ⟨B, 0, none⟩)] w fun e w' => e = .returned (.string C) ∧ Blk B #[.string name, .int .i64 y, .int .i64 mo, .int .i64 d, .int .i64 hh, .int .i64 mi, .int .i64 sc, .int .u64 (n20 : Nat), .int .u64 (n24 : Nat), .int .u32 (n16 : Nat), .int .u64 (A : Nat), .bool kept] 32 w' ∧ Below B w w' := by
  have hlt := b0.out.lt
  have hw : IntKind.u32.wrap (n16 : Int) = (n16 : Int) := by rw [IntKind.wrap_u32]; omega
  have c0 := b0.out.cell 0
  have c1 := b0.out.cell 1
  have c2 := b0.out.cell 2
  have c3 := b0.out.cell 3
  have c4 := b0.out.cell 4
  have c5 := b0.out.cell 5
  have c6 := b0.out.cell 6
  have c7 := b0.out.cell 7
  have c8 := b0.out.cell 8
  have c9 := b0.out.cell 9
  have c10 := b0.out.cell 10
  have c11 := b0.out.cell 11
  have f0 := b0.out.frozen
  simp at c0 c1 c2 c3 c4 c5 c6 c7 c8 c9 c10 c11
  go_enter Tryd.func34, Tryd.ntmps34
  go_wp2_with fail
  refine (HN16.out _).mono ?_
  rintro e w' ⟨rfl, rfl⟩
  go_wp2_with fail
  refine (HN20.out _).mono ?_
  rintro e w' ⟨rfl, rfl⟩
  go_wp2_with fail
  refine (HN24.out _).mono ?_
  rintro e w' ⟨rfl, rfl⟩
  go_wp2_with fail
  refine (HN42.out _).mono ?_
  rintro e w' ⟨rfl, rfl⟩
  go_wp2_with fail
  have k0 := b0.out
  have m0 := Below.refl B w
  have k1 := k0.setTo (cs' := #[.string name, .int .i64 y, .int .i64 mo, .int .i64 d, .int .i64 hh, .int .i64 mi, .int .i64 sc, .int .u64 0, .int .u64 0, .int .u32 (n16 : Nat), .int .u64 0, .bool kept]) 9 (.int .u32 (n16 : Nat)) rfl
  have m1 := m0.setCell (p := ⟨B, 9, none⟩) (Nat.le_refl _) (.int .u32 (n16 : Nat))
  have k2 := k1.setTo (cs' := #[.string name, .int .i64 y, .int .i64 mo, .int .i64 d, .int .i64 hh, .int .i64 mi, .int .i64 sc, .int .u64 (n20 : Nat), .int .u64 0, .int .u32 (n16 : Nat), .int .u64 0, .bool kept]) 7 (.int .u64 (n20 : Nat)) rfl
  have m2 := m1.setCell (p := ⟨B, 7, none⟩) (Nat.le_refl _) (.int .u64 (n20 : Nat))
  have k3 := k2.setTo (cs' := #[.string name, .int .i64 y, .int .i64 mo, .int .i64 d, .int .i64 hh, .int .i64 mi, .int .i64 sc, .int .u64 (n20 : Nat), .int .u64 (n24 : Nat), .int .u32 (n16 : Nat), .int .u64 0, .bool kept]) 8 (.int .u64 (n24 : Nat)) rfl
  have m3 := m2.setCell (p := ⟨B, 8, none⟩) (Nat.le_refl _) (.int .u64 (n24 : Nat))
  have k4 := k3.setTo (cs' := #[.string name, .int .i64 y, .int .i64 mo, .int .i64 d, .int .i64 hh, .int .i64 mi, .int .i64 sc, .int .u64 (n20 : Nat), .int .u64 (n24 : Nat), .int .u32 (n16 : Nat), .int .u64 (n42 : Nat), .bool kept]) 10 (.int .u64 (n42 : Nat)) rfl
  have m4 := m3.setCell (p := ⟨B, 10, none⟩) (Nat.le_refl _) (.int .u64 (n42 : Nat))
  obtain ⟨W4, hW4⟩ : ∃ W, W = ((((w.setCell ⟨B, 9, none⟩ (.int .u32 (n16 : Nat))).setCell ⟨B, 7, none⟩ (.int .u64 (n20 : Nat))).setCell ⟨B, 8, none⟩ (.int .u64 (n24 : Nat))).setCell ⟨B, 10, none⟩ (.int .u64 (n42 : Nat))) := ⟨_, rfl⟩
  rw [← hW4] at k4 m4 ⊢
  clear hW4 c0 c1 c2 c3 c4 c5 c6 c7 c8 c9 c10 c11 f0 k0 k1 k2 k3 m0 m1 m2 m3
  have c0 := k4.cell 0
  have c1 := k4.cell 1
  have c2 := k4.cell 2
  have c3 := k4.cell 3
  have c4 := k4.cell 4
  have c5 := k4.cell 5
  have c6 := k4.cell 6
  have c7 := k4.cell 7
  have c8 := k4.cell 8
  have c9 := k4.cell 9
  have c10 := k4.cell 10
  have c11 := k4.cell 11
  have f0 := k4.frozen
  simp at c0 c1 c2 c3 c4 c5 c6 c7 c8 c9 c10 c11
  have hk4 := Lib.hid k4
  have hm4 := Lib.hid m4
  clear k4 m4
  refine (HA.out _).mono ?_
  rintro e w' ⟨rfl, rfl⟩
  go_wp2_with fail
  have k4 := hk4.out
  have m4 := hm4.out
  have k5 := k4.setTo (cs' := #[.string name, .int .i64 y, .int .i64 mo, .int .i64 d, .int .i64 hh, .int .i64 mi, .int .i64 sc, .int .u64 (n20 : Nat), .int .u64 (n24 : Nat), .int .u32 (n16 : Nat), .int .u64 (A : Nat), .bool kept]) 10 (.int .u64 (A : Nat)) rfl
  have m5 := m4.setCell (p := ⟨B, 10, none⟩) (Nat.le_refl _) (.int .u64 (A : Nat))
  have hl5 := k5.lt
  refine (HL.out _ (H0.out.trans (m5.mono hB))).mono ?_
  rintro e w1 ⟨rfl, hb1⟩
  have K1 := Lib.hid (k5.below hb1)
  have M1 := Lib.hid (m5.trans (hb1.mono (Nat.le_of_lt hl5)))
  clear k4 k5 m4 m5 hb1
  go_wp2
  go_ret
  exact ⟨rfl, K1.out, M1.out⟩


set_option maxHeartbeats 1000000 in
set_option maxRecDepth 100000 in
theorem cen_bn (B : Nat) (s name : ByteArray) (y mo d hh mi sc : Int) (kept : Bool) (w0 w : World) (n16 n20 n24 n42 Z P : Nat) (C : ByteArray) (hn : name.size ≤ 1000000) (hB : w0.heap.size ≤ B) (H0 : Hid (Below w0.heap.size w0 w))
    (b0 : Hid (Blk B #[.string name, .int .i64 y, .int .i64 mo, .int .i64 d, .int .i64 hh, .int .i64 mi, .int .i64 sc, .int .u64 0, .int .u64 0, .int .u32 0, .int .u64 0, .bool kept] 32 w)) (b16 : n16 < 4294967296)
    (HN16 : Hid (∀ W, Calls Tryd.prog 49 #[.string s, .int .i64 16, .int .i64 4] W fun e w' => e = .returned (.int .u64 (n16 : Nat)) ∧ W = w'))
    (HN20 : Hid (∀ W, Calls Tryd.prog 49 #[.string s, .int .i64 20, .int .i64 4] W fun e w' => e = .returned (.int .u64 (n20 : Nat)) ∧ W = w'))
    (HN24 : Hid (∀ W, Calls Tryd.prog 49 #[.string s, .int .i64 24, .int .i64 4] W fun e w' => e = .returned (.int .u64 (n24 : Nat)) ∧ W = w'))
    (HN42 : Hid (∀ W, Calls Tryd.prog 49 #[.string s, .int .i64 42, .int .i64 4] W fun e w' => e = .returned (.int .u64 (n42 : Nat)) ∧ W = w'))
    (HZ : Hid (∀ W, Calls Tryd.prog 49 #[.string s, .int .i64 (46 + (name.size : Int) + 4), .int .i64 8] W fun e w' => e = .returned (.int .u64 (Z : Nat)) ∧ W = w'))
    (HP : Hid (∀ W, Calls Tryd.prog 49 #[.string s, .int .i64 (46 + (name.size : Int) + 4 + 8), .int .i64 8] W fun e w' => e = .returned (.int .u64 (P : Nat)) ∧ W = w'))
    (q1 : ((n20 : Int) == 4294967295) = true) (q2 : ((n42 : Int) == 4294967295) = false)
    (HL : Hid (∀ W, Below w0.heap.size w0 W → Calls Tryd.prog 14 #[.agg #[.string name, .int .i64 y, .int .i64 mo, .int .i64 d, .int .i64 hh, .int .i64 mi, .int .i64 sc, .int .u64 (P : Nat), .int .u64 (Z : Nat), .int .u32 (n16 : Nat), .int .u64 (n42 : Nat), .bool kept]] W fun e w' => e = .returned (.string C) ∧ Below W.heap.size W w')) :
    Calls Tryd.prog 34 #[.string s, .pointer (some ⟨B, 0, none⟩)] w fun e w' => e = .returned (.string C) ∧ Blk B #[.string name, .int .i64 y, .int .i64 mo, .int .i64 d, .int .i64 hh, .int .i64 mi, .int .i64 sc, .int .u64 (P : Nat), .int .u64 (Z : Nat), .int .u32 (n16 : Nat), .int .u64 (n42 : Nat), .bool kept] 32 w' ∧ Below B w w' := by
  have hlt := b0.out.lt
  have hw : IntKind.u32.wrap (n16 : Int) = (n16 : Int) := by rw [IntKind.wrap_u32]; omega
  have c0 := b0.out.cell 0
  have c1 := b0.out.cell 1
  have c2 := b0.out.cell 2
  have c3 := b0.out.cell 3
  have c4 := b0.out.cell 4
  have c5 := b0.out.cell 5
  have c6 := b0.out.cell 6
  have c7 := b0.out.cell 7
  have c8 := b0.out.cell 8
  have c9 := b0.out.cell 9
  have c10 := b0.out.cell 10
  have c11 := b0.out.cell 11
  have f0 := b0.out.frozen
  simp at c0 c1 c2 c3 c4 c5 c6 c7 c8 c9 c10 c11
  go_enter Tryd.func34, Tryd.ntmps34
  go_wp2_with fail
  refine (HN16.out _).mono ?_
  rintro e w' ⟨rfl, rfl⟩
  go_wp2_with fail
  refine (HN20.out _).mono ?_
  rintro e w' ⟨rfl, rfl⟩
  go_wp2_with fail
  refine (HN24.out _).mono ?_
  rintro e w' ⟨rfl, rfl⟩
  go_wp2_with fail
  refine (HN42.out _).mono ?_
  rintro e w' ⟨rfl, rfl⟩
  go_wp2_with fail
  have k0 := b0.out
  have m0 := Below.refl B w
  have k1 := k0.setTo (cs' := #[.string name, .int .i64 y, .int .i64 mo, .int .i64 d, .int .i64 hh, .int .i64 mi, .int .i64 sc, .int .u64 0, .int .u64 0, .int .u32 (n16 : Nat), .int .u64 0, .bool kept]) 9 (.int .u32 (n16 : Nat)) rfl
  have m1 := m0.setCell (p := ⟨B, 9, none⟩) (Nat.le_refl _) (.int .u32 (n16 : Nat))
  have k2 := k1.setTo (cs' := #[.string name, .int .i64 y, .int .i64 mo, .int .i64 d, .int .i64 hh, .int .i64 mi, .int .i64 sc, .int .u64 (n20 : Nat), .int .u64 0, .int .u32 (n16 : Nat), .int .u64 0, .bool kept]) 7 (.int .u64 (n20 : Nat)) rfl
  have m2 := m1.setCell (p := ⟨B, 7, none⟩) (Nat.le_refl _) (.int .u64 (n20 : Nat))
  have k3 := k2.setTo (cs' := #[.string name, .int .i64 y, .int .i64 mo, .int .i64 d, .int .i64 hh, .int .i64 mi, .int .i64 sc, .int .u64 (n20 : Nat), .int .u64 (n24 : Nat), .int .u32 (n16 : Nat), .int .u64 0, .bool kept]) 8 (.int .u64 (n24 : Nat)) rfl
  have m3 := m2.setCell (p := ⟨B, 8, none⟩) (Nat.le_refl _) (.int .u64 (n24 : Nat))
  have k4 := k3.setTo (cs' := #[.string name, .int .i64 y, .int .i64 mo, .int .i64 d, .int .i64 hh, .int .i64 mi, .int .i64 sc, .int .u64 (n20 : Nat), .int .u64 (n24 : Nat), .int .u32 (n16 : Nat), .int .u64 (n42 : Nat), .bool kept]) 10 (.int .u64 (n42 : Nat)) rfl
  have m4 := m3.setCell (p := ⟨B, 10, none⟩) (Nat.le_refl _) (.int .u64 (n42 : Nat))
  obtain ⟨W4, hW4⟩ : ∃ W, W = ((((w.setCell ⟨B, 9, none⟩ (.int .u32 (n16 : Nat))).setCell ⟨B, 7, none⟩ (.int .u64 (n20 : Nat))).setCell ⟨B, 8, none⟩ (.int .u64 (n24 : Nat))).setCell ⟨B, 10, none⟩ (.int .u64 (n42 : Nat))) := ⟨_, rfl⟩
  rw [← hW4] at k4 m4 ⊢
  clear hW4 c0 c1 c2 c3 c4 c5 c6 c7 c8 c9 c10 c11 f0 k0 k1 k2 k3 m0 m1 m2 m3
  have c0 := k4.cell 0
  have c1 := k4.cell 1
  have c2 := k4.cell 2
  have c3 := k4.cell 3
  have c4 := k4.cell 4
  have c5 := k4.cell 5
  have c6 := k4.cell 6
  have c7 := k4.cell 7
  have c8 := k4.cell 8
  have c9 := k4.cell 9
  have c10 := k4.cell 10
  have c11 := k4.cell 11
  have f0 := k4.frozen
  simp at c0 c1 c2 c3 c4 c5 c6 c7 c8 c9 c10 c11
  have hk4 := Lib.hid k4
  have hm4 := Lib.hid m4
  clear k4 m4
  refine (HZ.out _).mono ?_
  rintro e w' ⟨rfl, rfl⟩
  go_wp2_with fail
  refine (HP.out _).mono ?_
  rintro e w' ⟨rfl, rfl⟩
  go_wp2_with fail
  have k4 := hk4.out
  have m4 := hm4.out
  have k5 := k4.setTo (cs' := #[.string name, .int .i64 y, .int .i64 mo, .int .i64 d, .int .i64 hh, .int .i64 mi, .int .i64 sc, .int .u64 (n20 : Nat), .int .u64 (Z : Nat), .int .u32 (n16 : Nat), .int .u64 (n42 : Nat), .bool kept]) 8 (.int .u64 (Z : Nat)) rfl
  have m5 := m4.setCell (p := ⟨B, 8, none⟩) (Nat.le_refl _) (.int .u64 (Z : Nat))
  have k6 := k5.setTo (cs' := #[.string name, .int .i64 y, .int .i64 mo, .int .i64 d, .int .i64 hh, .int .i64 mi, .int .i64 sc, .int .u64 (P : Nat), .int .u64 (Z : Nat), .int .u32 (n16 : Nat), .int .u64 (n42 : Nat), .bool kept]) 7 (.int .u64 (P : Nat)) rfl
  have m6 := m5.setCell (p := ⟨B, 7, none⟩) (Nat.le_refl _) (.int .u64 (P : Nat))
  have hl6 := k6.lt
  refine (HL.out _ (H0.out.trans (m6.mono hB))).mono ?_
  rintro e w1 ⟨rfl, hb1⟩
  have K1 := Lib.hid (k6.below hb1)
  have M1 := Lib.hid (m6.trans (hb1.mono (Nat.le_of_lt hl6)))
  clear k4 k5 k6 m4 m5 m6 hb1
  go_wp2
  go_ret
  exact ⟨rfl, K1.out, M1.out⟩


set_option maxHeartbeats 1000000 in
set_option maxRecDepth 100000 in
theorem cen_bf (B : Nat) (s name : ByteArray) (y mo d hh mi sc : Int) (kept : Bool) (w0 w : World) (n16 n20 n24 n42 Z P A : Nat) (C : ByteArray) (hn : name.size ≤ 1000000) (hB : w0.heap.size ≤ B) (H0 : Hid (Below w0.heap.size w0 w))
    (b0 : Hid (Blk B #[.string name, .int .i64 y, .int .i64 mo, .int .i64 d, .int .i64 hh, .int .i64 mi, .int .i64 sc, .int .u64 0, .int .u64 0, .int .u32 0, .int .u64 0, .bool kept] 32 w)) (b16 : n16 < 4294967296)
    (HN16 : Hid (∀ W, Calls Tryd.prog 49 #[.string s, .int .i64 16, .int .i64 4] W fun e w' => e = .returned (.int .u64 (n16 : Nat)) ∧ W = w'))
    (HN20 : Hid (∀ W, Calls Tryd.prog 49 #[.string s, .int .i64 20, .int .i64 4] W fun e w' => e = .returned (.int .u64 (n20 : Nat)) ∧ W = w'))
    (HN24 : Hid (∀ W, Calls Tryd.prog 49 #[.string s, .int .i64 24, .int .i64 4] W fun e w' => e = .returned (.int .u64 (n24 : Nat)) ∧ W = w'))
    (HN42 : Hid (∀ W, Calls Tryd.prog 49 #[.string s, .int .i64 42, .int .i64 4] W fun e w' => e = .returned (.int .u64 (n42 : Nat)) ∧ W = w'))
    (HZ : Hid (∀ W, Calls Tryd.prog 49 #[.string s, .int .i64 (46 + (name.size : Int) + 4), .int .i64 8] W fun e w' => e = .returned (.int .u64 (Z : Nat)) ∧ W = w'))
    (HP : Hid (∀ W, Calls Tryd.prog 49 #[.string s, .int .i64 (46 + (name.size : Int) + 4 + 8), .int .i64 8] W fun e w' => e = .returned (.int .u64 (P : Nat)) ∧ W = w'))
    (HA : Hid (∀ W, Calls Tryd.prog 49 #[.string s, .int .i64 (46 + (name.size : Int) + 4 + 16), .int .i64 8] W fun e w' => e = .returned (.int .u64 (A : Nat)) ∧ W = w'))
    (q1 : ((n20 : Int) == 4294967295) = true) (q2 : ((n42 : Int) == 4294967295) = true)
    (HL : Hid (∀ W, Below w0.heap.size w0 W → Calls Tryd.prog 14 #[.agg #[.string name, .int .i64 y, .int .i64 mo, .int .i64 d, .int .i64 hh, .int .i64 mi, .int .i64 sc, .int .u64 (P : Nat), .int .u64 (Z : Nat), .int .u32 (n16 : Nat), .int .u64 (A : Nat), .bool kept]] W fun e w' => e = .returned (.string C) ∧ Below W.heap.size W w')) :
    Calls Tryd.prog 34 #[.string s, .pointer (some ⟨B, 0, none⟩)] w fun e w' => e = .returned (.string C) ∧ Blk B #[.string name, .int .i64 y, .int .i64 mo, .int .i64 d, .int .i64 hh, .int .i64 mi, .int .i64 sc, .int .u64 (P : Nat), .int .u64 (Z : Nat), .int .u32 (n16 : Nat), .int .u64 (A : Nat), .bool kept] 32 w' ∧ Below B w w' := by
  have hlt := b0.out.lt
  have hw : IntKind.u32.wrap (n16 : Int) = (n16 : Int) := by rw [IntKind.wrap_u32]; omega
  have c0 := b0.out.cell 0
  have c1 := b0.out.cell 1
  have c2 := b0.out.cell 2
  have c3 := b0.out.cell 3
  have c4 := b0.out.cell 4
  have c5 := b0.out.cell 5
  have c6 := b0.out.cell 6
  have c7 := b0.out.cell 7
  have c8 := b0.out.cell 8
  have c9 := b0.out.cell 9
  have c10 := b0.out.cell 10
  have c11 := b0.out.cell 11
  have f0 := b0.out.frozen
  simp at c0 c1 c2 c3 c4 c5 c6 c7 c8 c9 c10 c11
  go_enter Tryd.func34, Tryd.ntmps34
  go_wp2_with fail
  refine (HN16.out _).mono ?_
  rintro e w' ⟨rfl, rfl⟩
  go_wp2_with fail
  refine (HN20.out _).mono ?_
  rintro e w' ⟨rfl, rfl⟩
  go_wp2_with fail
  refine (HN24.out _).mono ?_
  rintro e w' ⟨rfl, rfl⟩
  go_wp2_with fail
  refine (HN42.out _).mono ?_
  rintro e w' ⟨rfl, rfl⟩
  go_wp2_with fail
  have k0 := b0.out
  have m0 := Below.refl B w
  have k1 := k0.setTo (cs' := #[.string name, .int .i64 y, .int .i64 mo, .int .i64 d, .int .i64 hh, .int .i64 mi, .int .i64 sc, .int .u64 0, .int .u64 0, .int .u32 (n16 : Nat), .int .u64 0, .bool kept]) 9 (.int .u32 (n16 : Nat)) rfl
  have m1 := m0.setCell (p := ⟨B, 9, none⟩) (Nat.le_refl _) (.int .u32 (n16 : Nat))
  have k2 := k1.setTo (cs' := #[.string name, .int .i64 y, .int .i64 mo, .int .i64 d, .int .i64 hh, .int .i64 mi, .int .i64 sc, .int .u64 (n20 : Nat), .int .u64 0, .int .u32 (n16 : Nat), .int .u64 0, .bool kept]) 7 (.int .u64 (n20 : Nat)) rfl
  have m2 := m1.setCell (p := ⟨B, 7, none⟩) (Nat.le_refl _) (.int .u64 (n20 : Nat))
  have k3 := k2.setTo (cs' := #[.string name, .int .i64 y, .int .i64 mo, .int .i64 d, .int .i64 hh, .int .i64 mi, .int .i64 sc, .int .u64 (n20 : Nat), .int .u64 (n24 : Nat), .int .u32 (n16 : Nat), .int .u64 0, .bool kept]) 8 (.int .u64 (n24 : Nat)) rfl
  have m3 := m2.setCell (p := ⟨B, 8, none⟩) (Nat.le_refl _) (.int .u64 (n24 : Nat))
  have k4 := k3.setTo (cs' := #[.string name, .int .i64 y, .int .i64 mo, .int .i64 d, .int .i64 hh, .int .i64 mi, .int .i64 sc, .int .u64 (n20 : Nat), .int .u64 (n24 : Nat), .int .u32 (n16 : Nat), .int .u64 (n42 : Nat), .bool kept]) 10 (.int .u64 (n42 : Nat)) rfl
  have m4 := m3.setCell (p := ⟨B, 10, none⟩) (Nat.le_refl _) (.int .u64 (n42 : Nat))
  obtain ⟨W4, hW4⟩ : ∃ W, W = ((((w.setCell ⟨B, 9, none⟩ (.int .u32 (n16 : Nat))).setCell ⟨B, 7, none⟩ (.int .u64 (n20 : Nat))).setCell ⟨B, 8, none⟩ (.int .u64 (n24 : Nat))).setCell ⟨B, 10, none⟩ (.int .u64 (n42 : Nat))) := ⟨_, rfl⟩
  rw [← hW4] at k4 m4 ⊢
  clear hW4 c0 c1 c2 c3 c4 c5 c6 c7 c8 c9 c10 c11 f0 k0 k1 k2 k3 m0 m1 m2 m3
  have c0 := k4.cell 0
  have c1 := k4.cell 1
  have c2 := k4.cell 2
  have c3 := k4.cell 3
  have c4 := k4.cell 4
  have c5 := k4.cell 5
  have c6 := k4.cell 6
  have c7 := k4.cell 7
  have c8 := k4.cell 8
  have c9 := k4.cell 9
  have c10 := k4.cell 10
  have c11 := k4.cell 11
  have f0 := k4.frozen
  simp at c0 c1 c2 c3 c4 c5 c6 c7 c8 c9 c10 c11
  have hk4 := Lib.hid k4
  have hm4 := Lib.hid m4
  clear k4 m4
  refine (HZ.out _).mono ?_
  rintro e w' ⟨rfl, rfl⟩
  go_wp2_with fail
  refine (HP.out _).mono ?_
  rintro e w' ⟨rfl, rfl⟩
  go_wp2_with fail
  have k4 := hk4.out
  have m4 := hm4.out
  have k5 := k4.setTo (cs' := #[.string name, .int .i64 y, .int .i64 mo, .int .i64 d, .int .i64 hh, .int .i64 mi, .int .i64 sc, .int .u64 (n20 : Nat), .int .u64 (Z : Nat), .int .u32 (n16 : Nat), .int .u64 (n42 : Nat), .bool kept]) 8 (.int .u64 (Z : Nat)) rfl
  have m5 := m4.setCell (p := ⟨B, 8, none⟩) (Nat.le_refl _) (.int .u64 (Z : Nat))
  have k6 := k5.setTo (cs' := #[.string name, .int .i64 y, .int .i64 mo, .int .i64 d, .int .i64 hh, .int .i64 mi, .int .i64 sc, .int .u64 (P : Nat), .int .u64 (Z : Nat), .int .u32 (n16 : Nat), .int .u64 (n42 : Nat), .bool kept]) 7 (.int .u64 (P : Nat)) rfl
  have m6 := m5.setCell (p := ⟨B, 7, none⟩) (Nat.le_refl _) (.int .u64 (P : Nat))
  obtain ⟨W6, hW6⟩ : ∃ W, W = ((W4.setCell ⟨B, 8, none⟩ (.int .u64 (Z : Nat))).setCell ⟨B, 7, none⟩ (.int .u64 (P : Nat))) := ⟨_, rfl⟩
  rw [← hW6] at k6 m6 ⊢
  clear hW6 c0 c1 c2 c3 c4 c5 c6 c7 c8 c9 c10 c11 f0 k4 k5 m4 m5
  have c0 := k6.cell 0
  have c1 := k6.cell 1
  have c2 := k6.cell 2
  have c3 := k6.cell 3
  have c4 := k6.cell 4
  have c5 := k6.cell 5
  have c6 := k6.cell 6
  have c7 := k6.cell 7
  have c8 := k6.cell 8
  have c9 := k6.cell 9
  have c10 := k6.cell 10
  have c11 := k6.cell 11
  have f0 := k6.frozen
  simp at c0 c1 c2 c3 c4 c5 c6 c7 c8 c9 c10 c11
  have hk6 := Lib.hid k6
  have hm6 := Lib.hid m6
  clear k6 m6
  refine (HA.out _).mono ?_
  rintro e w' ⟨rfl, rfl⟩
  go_wp2_with fail
  have k6 := hk6.out
  have m6 := hm6.out
  have k7 := k6.setTo (cs' := #[.string name, .int .i64 y, .int .i64 mo, .int .i64 d, .int .i64 hh, .int .i64 mi, .int .i64 sc, .int .u64 (P : Nat), .int .u64 (Z : Nat), .int .u32 (n16 : Nat), .int .u64 (A : Nat), .bool kept]) 10 (.int .u64 (A : Nat)) rfl
  have m7 := m6.setCell (p := ⟨B, 10, none⟩) (Nat.le_refl _) (.int .u64 (A : Nat))
  have hl7 := k7.lt
  refine (HL.out _ (H0.out.trans (m7.mono hB))).mono ?_
  rintro e w1 ⟨rfl, hb1⟩
  have K1 := Lib.hid (k7.below hb1)
  have M1 := Lib.hid (m7.trans (hb1.mono (Nat.le_of_lt hl7)))
  clear k6 k7 m6 m7 hb1
  go_wp2
  go_ret
  exact ⟨rfl, K1.out, M1.out⟩


theorem centralHead_calls (B : Nat) (s name : ByteArray) (t : Tm) (kept : Bool) (w0 w : World) (hs : s.size ≤ 140737488351232) (hn : name.size ≤ 1000000) (hT : Tabs w0) (h0 : Below w0.heap.size w0 w) (hB : w0.heap.size ≤ B)
    (hb : Blk B (hdC ⟨name, t, 0, 0, 0, 0, kept⟩) 32 w) :
    Calls Tryd.prog 34 #[.string s, .pointer (some ⟨B, 0, none⟩)] w fun e w' => e = .returned (.string (cenS (cenRaw s name t kept))) ∧ Blk B (hdC (cenRaw s name t kept)) 32 w' ∧ Below B w w' := by
  have HN16 := Lib.hid (fun W => number_calls s 16 4 W hs (by omega) (by omega))
  have HN20 := Lib.hid (fun W => number_calls s 20 4 W hs (by omega) (by omega))
  have HN24 := Lib.hid (fun W => number_calls s 24 4 W hs (by omega) (by omega))
  have HN42 := Lib.hid (fun W => number_calls s 42 4 W hs (by omega) (by omega))
  have n8 := fun k => numS_lt s k 8
  have l16 := numS_4 s 16
  have l20 := numS_4 s 20
  have l24 := numS_4 s 24
  have l42 := numS_4 s 42
  have HA : ∀ (m : Nat) (W : World), m ≤ 100 → Calls Tryd.prog 49 #[.string s, .int .i64 ((cenAt s name + m : Nat) : Int), .int .i64 8] W fun e w' => e = .returned (.int .u64 (numS s (cenAt s name + m) 8)) ∧ W = w' := fun m W hm => number_calls s (cenAt s name + m) 8 W hs (by unfold cenAt; omega) (by omega)
  have e0 : ((cenAt s name + 0 : Nat) : Int) = 46 + (name.size : Int) + 4 := by unfold cenAt; omega
  have e8 : ((cenAt s name + 8 : Nat) : Int) = 46 + (name.size : Int) + 4 + 8 := by unfold cenAt; omega
  have e16 : ((cenAt s name + 16 : Nat) : Int) = 46 + (name.size : Int) + 4 + 16 := by unfold cenAt; omega
  have HA0 := fun W => HA 0 W (by omega)
  have HA8 := fun W => HA 8 W (by omega)
  have HA16 := fun W => HA 16 W (by omega)
  rw [e0] at HA0
  rw [e8] at HA8
  rw [e16] at HA16
  have HL := fun (h : Hd) (ho : h.ok) (W : World) (hW : Below w0.heap.size w0 W) => central_calls h W ho (hT.below hW)
  obtain ⟨y, mo, d, hh, mi, sc⟩ := t
  cases q1 : cenBig s <;> cases q2 : cenFar s

  · have e : cenRaw s name ⟨y, mo, d, hh, mi, sc⟩ kept = ⟨name, ⟨y, mo, d, hh, mi, sc⟩, ((numS s 20 4) : Nat), ((numS s 24 4) : Nat), (numS s 16 4 : Nat), ((numS s 42 4) : Nat), kept⟩ := by simp only [cenRaw, q1, q2, if_true, Bool.false_eq_true, if_false]
    rw [e]
    have ho : Hd.ok ⟨name, ⟨y, mo, d, hh, mi, sc⟩, ((numS s 20 4) : Nat), ((numS s 24 4) : Nat), (numS s 16 4 : Nat), ((numS s 42 4) : Nat), kept⟩ := ⟨by simp only; omega, by have := l20; simp only; omega, by have := l24; simp only; omega, by simp only; omega, by have := l42; simp only; omega⟩
    exact cen_sn B s name y mo d hh mi sc kept w0 w _ _ _ _ _ hn hB (Lib.hid h0) (Lib.hid hb) l16 HN16 HN20 HN24 HN42 q1 q2 (Lib.hid (HL _ ho))
  · have e : cenRaw s name ⟨y, mo, d, hh, mi, sc⟩ kept = ⟨name, ⟨y, mo, d, hh, mi, sc⟩, ((numS s 20 4) : Nat), ((numS s 24 4) : Nat), (numS s 16 4 : Nat), ((numS s (cenAt s name) 8) : Nat), kept⟩ := by simp only [cenRaw, q1, q2, if_true, Bool.false_eq_true, if_false]
    rw [e]
    have ho : Hd.ok ⟨name, ⟨y, mo, d, hh, mi, sc⟩, ((numS s 20 4) : Nat), ((numS s 24 4) : Nat), (numS s 16 4 : Nat), ((numS s (cenAt s name) 8) : Nat), kept⟩ := ⟨by simp only; omega, by have := l20; simp only; omega, by have := l24; simp only; omega, by simp only; omega, by have := n8 (cenAt s name); simp only; omega⟩
    exact cen_sf B s name y mo d hh mi sc kept w0 w _ _ _ _ _ _ hn hB (Lib.hid h0) (Lib.hid hb) l16 HN16 HN20 HN24 HN42 (Lib.hid HA0) q1 q2 (Lib.hid (HL _ ho))
  · have e : cenRaw s name ⟨y, mo, d, hh, mi, sc⟩ kept = ⟨name, ⟨y, mo, d, hh, mi, sc⟩, ((numS s (cenAt s name + 8) 8) : Nat), ((numS s (cenAt s name) 8) : Nat), (numS s 16 4 : Nat), ((numS s 42 4) : Nat), kept⟩ := by simp only [cenRaw, q1, q2, if_true, Bool.false_eq_true, if_false]
    rw [e]
    have ho : Hd.ok ⟨name, ⟨y, mo, d, hh, mi, sc⟩, ((numS s (cenAt s name + 8) 8) : Nat), ((numS s (cenAt s name) 8) : Nat), (numS s 16 4 : Nat), ((numS s 42 4) : Nat), kept⟩ := ⟨by simp only; omega, by have := n8 (cenAt s name + 8); simp only; omega, by have := n8 (cenAt s name); simp only; omega, by simp only; omega, by have := l42; simp only; omega⟩
    exact cen_bn B s name y mo d hh mi sc kept w0 w _ _ _ _ _ _ _ hn hB (Lib.hid h0) (Lib.hid hb) l16 HN16 HN20 HN24 HN42 (Lib.hid HA0) (Lib.hid HA8) q1 q2 (Lib.hid (HL _ ho))
  · have e : cenRaw s name ⟨y, mo, d, hh, mi, sc⟩ kept = ⟨name, ⟨y, mo, d, hh, mi, sc⟩, ((numS s (cenAt s name + 8) 8) : Nat), ((numS s (cenAt s name) 8) : Nat), (numS s 16 4 : Nat), ((numS s (cenAt s name + 16) 8) : Nat), kept⟩ := by simp only [cenRaw, q1, q2, if_true, Bool.false_eq_true, if_false]
    rw [e]
    have ho : Hd.ok ⟨name, ⟨y, mo, d, hh, mi, sc⟩, ((numS s (cenAt s name + 8) 8) : Nat), ((numS s (cenAt s name) 8) : Nat), (numS s 16 4 : Nat), ((numS s (cenAt s name + 16) 8) : Nat), kept⟩ := ⟨by simp only; omega, by have := n8 (cenAt s name + 8); simp only; omega, by have := n8 (cenAt s name); simp only; omega, by simp only; omega, by have := n8 (cenAt s name + 16); simp only; omega⟩
    exact cen_bf B s name y mo d hh mi sc kept w0 w _ _ _ _ _ _ _ _ hn hB (Lib.hid h0) (Lib.hid hb) l16 HN16 HN20 HN24 HN42 (Lib.hid HA0) (Lib.hid HA8) (Lib.hid HA16) q1 q2 (Lib.hid (HL _ ho))

end Go.Proofs.YtehhoigedniglaaDoor.Zp
