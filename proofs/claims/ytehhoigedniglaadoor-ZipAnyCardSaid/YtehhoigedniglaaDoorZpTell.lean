/-
  A header is read: what both kinds tell.
-/
import Derived.Test.YtehhoigedniglaaDoorZpPart
import Derived.Test.YtehhoigedniglaaDoorZpPack
import Derived.Test.YtehhoigedniglaaDoorZpCommon
namespace Go.Proofs.YtehhoigedniglaaDoor.Zp
open Go.RowKit Go.Shelf
set_option linter.unusedVariables false
set_option linter.unusedSimpArgs false

/-- A head's cells. -/
def hdC (h : Hd) : Array Value := #[.string h.name, .int .i64 h.t.y, .int .i64 h.t.mo, .int .i64 h.t.d, .int .i64 h.t.h, .int .i64 h.t.mi, .int .i64 h.t.s, .int .u64 h.packed, .int .u64 h.size, .int .u32 h.sum, .int .u64 h.pos, .bool h.kept]
theorem hdC_val (h : Hd) : h.val = .agg (hdC h) := rfl
def rawT (s : ByteArray) (k : Nat) : Tm := unpackT (numS s (k + 6) 2) (numS s (k + 4) 2)
def tellT (s : ByteArray) (k : Nat) : Tm := if tgood (rawT s k) then rawT s k else zeroT
def tellK (s : ByteArray) (k : Nat) : Bool := (numS s (k + 2) 2 : Int) == 0
def freshH (name : ByteArray) : Hd := ⟨name, zeroT, 0, 0, 0, 0, false⟩

set_option maxHeartbeats 400000 in
set_option maxRecDepth 100000 in
theorem tell_calls (B : Nat) (s name : ByteArray) (k : Nat) (w : World) (hs : s.size ≤ 140737488351232) (hk : k ≤ 1000) (hb : Blk B (hdC (freshH name)) 32 w) :
    Calls Tryd.prog 52 #[.pointer (some ⟨B, 0, none⟩), .string s, .int .i64 k] w fun e w' => e = .returned (.bool (tgood (rawT s k))) ∧ Blk B (hdC ⟨name, tellT s k, 0, 0, 0, 0, tellK s k⟩) 32 w' ∧ Below B w w' := by
  have n1 := numS_2 s (k + 6)
  have n2 := numS_2 s (k + 4)
  have HN : ∀ (m : Nat) (W : World), m ≤ 10 → Calls Tryd.prog 49 #[.string s, .int .i64 ((k : Int) + (m : Int)), .int .i64 2] W fun e w' => e = .returned (.int .u64 (numS s (k + m) 2)) ∧ W = w' := fun m W hm => number_calls s (k + m) 2 W hs (by omega) (by omega)
  have HN2 := Lib.hid (fun W => HN 2 W (by omega))
  have HN4 := Lib.hid (fun W => HN 4 W (by omega))
  have HN6 := Lib.hid (fun W => HN 6 W (by omega))
  clear HN
  have HUN := Lib.hid (fun W => unpack_calls (numS s (k + 6) 2) (numS s (k + 4) 2) W (by omega) (by omega) (by omega) (by omega))
  have HT := Lib.hid (show tellT s k = if tgood (unpackT (numS s (k + 6) 2) (numS s (k + 4) 2)) then unpackT (numS s (k + 6) 2) (numS s (k + 4) 2) else zeroT from rfl)
  have HG := Lib.hid (show tgood (rawT s k) = tgood (unpackT (numS s (k + 6) 2) (numS s (k + 4) 2)) from rfl)
  have HK := Lib.hid (show tellK s k = ((numS s (k + 2) 2 : Int) == 0) from rfl)
  rw [← HT.out, ← HG.out] at HUN
  rw [HK.out]
  generalize tellT s k = T at *
  generalize tgood (rawT s k) = G at *
  generalize (numS s (k + 6) 2) = N6 at *
  generalize (numS s (k + 4) 2) = N4 at *
  generalize (numS s (k + 2) 2) = N2 at *
  obtain ⟨y, mo, d, hh, mi, sc⟩ := T
  simp only [hdC, freshH, zeroT] at hb ⊢
  simp only [Tm.val] at HUN
  clear HT HG HK
  have b0 := Lib.hid hb
  have z0 := hb.cell 11
  have f0 := hb.frozen
  simp only [List.getElem?_toArray, List.getElem?_cons_zero, List.getElem?_cons_succ] at z0
  obtain ⟨K, hK⟩ : ∃ K : Bool, ((N2 : Int) == 0) = K := ⟨_, rfl⟩
  rw [hK]
  have b1 := b0.out.set 11 (.bool K)
  go_enter Tryd.func52, Tryd.ntmps52
  go_wp2_with fail
  refine (HN2.out _).mono ?_
  rintro e w' ⟨rfl, rfl⟩
  go_wp2_with fail
  refine (HN6.out _).mono ?_
  rintro e w' ⟨rfl, rfl⟩
  go_wp2_with fail
  refine (HN4.out _).mono ?_
  rintro e w' ⟨rfl, rfl⟩
  go_wp2_with fail
  refine (HUN.out _).mono ?_
  rintro e w2 ⟨rfl, hb2⟩
  have b2 := b1.below hb2
  have hlt := b2.lt
  have hne : ¬ B = w2.heap.size := by omega
  have f2 := b2.frozen
  have c1 := b2.cell 1
  have c2 := b2.cell 2
  have c3 := b2.cell 3
  have c4 := b2.cell 4
  have c5 := b2.cell 5
  have c6 := b2.cell 6
  simp at c1 c2 c3 c4 c5 c6
  have HB1 := Lib.hid (((Below.refl B w).setCell (p := ⟨B, 11, none⟩) (Nat.le_refl _) (.bool K)).trans (hb2.mono (by have := b1.lt; omega)))
  have b3 := Lib.hid b2
  clear b2 b1 hb2
  go_wp2
  go_ret
  have k0 := b3.out
  have m0 := HB1.out
  have k1 := k0.setTo (cs' := #[.string name, .int .i64 y, .int .i64 0, .int .i64 0, .int .i64 0, .int .i64 0, .int .i64 0, .int .u64 0, .int .u64 0, .int .u32 0, .int .u64 0, .bool K]) 1 (.int .i64 y) rfl
  have m1 := m0.setCell (p := ⟨B, 1, none⟩) (Nat.le_refl _) (.int .i64 y)
  have k2 := k1.setTo (cs' := #[.string name, .int .i64 y, .int .i64 mo, .int .i64 0, .int .i64 0, .int .i64 0, .int .i64 0, .int .u64 0, .int .u64 0, .int .u32 0, .int .u64 0, .bool K]) 2 (.int .i64 mo) rfl
  have m2 := m1.setCell (p := ⟨B, 2, none⟩) (Nat.le_refl _) (.int .i64 mo)
  have k3 := k2.setTo (cs' := #[.string name, .int .i64 y, .int .i64 mo, .int .i64 d, .int .i64 0, .int .i64 0, .int .i64 0, .int .u64 0, .int .u64 0, .int .u32 0, .int .u64 0, .bool K]) 3 (.int .i64 d) rfl
  have m3 := m2.setCell (p := ⟨B, 3, none⟩) (Nat.le_refl _) (.int .i64 d)
  have k4 := k3.setTo (cs' := #[.string name, .int .i64 y, .int .i64 mo, .int .i64 d, .int .i64 hh, .int .i64 0, .int .i64 0, .int .u64 0, .int .u64 0, .int .u32 0, .int .u64 0, .bool K]) 4 (.int .i64 hh) rfl
  have m4 := m3.setCell (p := ⟨B, 4, none⟩) (Nat.le_refl _) (.int .i64 hh)
  have k5 := k4.setTo (cs' := #[.string name, .int .i64 y, .int .i64 mo, .int .i64 d, .int .i64 hh, .int .i64 mi, .int .i64 0, .int .u64 0, .int .u64 0, .int .u32 0, .int .u64 0, .bool K]) 5 (.int .i64 mi) rfl
  have m5 := m4.setCell (p := ⟨B, 5, none⟩) (Nat.le_refl _) (.int .i64 mi)
  have k6 := k5.setTo (cs' := #[.string name, .int .i64 y, .int .i64 mo, .int .i64 d, .int .i64 hh, .int .i64 mi, .int .i64 sc, .int .u64 0, .int .u64 0, .int .u32 0, .int .u64 0, .bool K]) 6 (.int .i64 sc) rfl
  have m6 := m5.setCell (p := ⟨B, 6, none⟩) (Nat.le_refl _) (.int .i64 sc)
  exact ⟨rfl, k6.alloc _, m6.alloc (by simp; omega) _⟩
end Go.Proofs.YtehhoigedniglaaDoor.Zp
