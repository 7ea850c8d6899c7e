/-
  A local header is read: what it tells beyond its name.
-/
import Derived.Test.YtehhoigedniglaaDoorZpTell
import Derived.Test.YtehhoigedniglaaDoorZpLocal
namespace Go.Proofs.YtehhoigedniglaaDoor.Zp
open Go.RowKit Go.Shelf Go.Proofs.YtehhoigedniglaaDoor.Nm
set_option linter.unusedVariables false
set_option linter.unusedSimpArgs false

def locRaw (s name : ByteArray) (t : Tm) (kept : Bool) : Hd := ⟨name, t, 0, if ((numS s 18 4 : Int) == 4294967295) then 4294967295 else 0, 0, 0, kept⟩

set_option maxHeartbeats 400000 in
set_option maxRecDepth 100000 in
theorem localHead_calls (B : Nat) (s name : ByteArray) (t : Tm) (kept : Bool) (w0 w : World) (hs : s.size ≤ 140737488351232) (hn : name.size ≤ 140737488351232) (hT : Tabs w0) (h0 : Below w0.heap.size w0 w) (hB : w0.heap.size ≤ B)
    (hb : Blk B (hdC ⟨name, t, 0, 0, 0, 0, kept⟩) 32 w) :
    Calls Tryd.prog 32 #[.string s, .pointer (some ⟨B, 0, none⟩)] w fun e w' => e = .returned (.string (locS (locRaw s name t kept))) ∧ Blk B (hdC (locRaw s name t kept)) 32 w' ∧ Below B w w' := by
  have HN := Lib.hid (fun W => number_calls s 18 4 W hs (by omega) (by omega))
  have HR := Lib.hid (show locRaw s name t kept = ⟨name, t, 0, if ((numS s 18 4 : Int) == 4294967295) then 4294967295 else 0, 0, 0, kept⟩ from rfl)
  generalize locRaw s name t kept = R at *
  generalize numS s 18 4 = N at *
  have HL := Lib.hid (fun (z : Int) (W : World) (hz : 0 ≤ z ∧ z < 18446744073709551616) (hW : Below w0.heap.size w0 W) => local_calls ⟨name, t, 0, z, 0, 0, kept⟩ W ⟨hn, by simp only; omega, hz, by simp only; omega, by simp only; omega⟩ (hT.below hW))
  obtain ⟨y, mo, d, hh, mi, sc⟩ := t
  simp only [hdC] at hb
  simp only [Hd.val] at HL
  have b0 := Lib.hid hb
  have hlt := hb.lt
  have f0 := hb.frozen
  have c0 := hb.cell 0
  have c1 := hb.cell 1
  have c2 := hb.cell 2
  have c3 := hb.cell 3
  have c4 := hb.cell 4
  have c5 := hb.cell 5
  have c6 := hb.cell 6
  have c7 := hb.cell 7
  have c8 := hb.cell 8
  have c9 := hb.cell 9
  have c10 := hb.cell 10
  have c11 := hb.cell 11
  simp at c0 c1 c2 c3 c4 c5 c6 c7 c8 c9 c10 c11
  have H0 := Lib.hid h0
  clear hb h0 hT
  cases hq : ((N : Int) == 4294967295) with
  | true =>
    have HR2 : Hid (R = ⟨name, ⟨y, mo, d, hh, mi, sc⟩, 0, 4294967295, 0, 0, kept⟩) := Lib.hid (by rw [HR.out, hq]; rfl)
    go_enter Tryd.func32, Tryd.ntmps32
    go_wp2_with fail
    refine (HN.out _).mono ?_
    rintro e w' ⟨rfl, rfl⟩
    go_wp2_with fail
    have b1 := b0.out.setTo (cs' := #[.string name, .int .i64 y, .int .i64 mo, .int .i64 d, .int .i64 hh, .int .i64 mi, .int .i64 sc, .int .u64 0, .int .u64 4294967295, .int .u32 0, .int .u64 0, .bool kept]) 8 (.int .u64 4294967295) rfl
    have m1 := (Below.refl B w).setCell (p := ⟨B, 8, none⟩) (Nat.le_refl _) (.int .u64 4294967295)
    refine (HL.out 4294967295 _ (by omega) (H0.out.trans (m1.mono hB))).mono ?_
    rintro e w1 ⟨rfl, hb1⟩
    have hlt1 := b1.lt
    go_wp2
    go_ret
    exact ⟨by rw [HR2.out]; rfl, by rw [HR2.out]; exact b1.below hb1, m1.trans (hb1.mono (Nat.le_of_lt hlt1))⟩
  | false =>
    have HR2 : Hid (R = ⟨name, ⟨y, mo, d, hh, mi, sc⟩, 0, 0, 0, 0, kept⟩) := Lib.hid (by rw [HR.out, hq]; rfl)
    go_enter Tryd.func32, Tryd.ntmps32
    go_wp2_with fail
    refine (HN.out _).mono ?_
    rintro e w' ⟨rfl, rfl⟩
    go_wp2_with fail
    refine (HL.out 0 _ (by omega) H0.out).mono ?_
    rintro e w1 ⟨rfl, hb1⟩
    go_wp2
    go_ret
    exact ⟨by rw [HR2.out]; rfl, by rw [HR2.out]; exact b0.out.below hb1, hb1.mono (Nat.le_of_lt hlt)⟩
end Go.Proofs.YtehhoigedniglaaDoor.Zp
