/-
  Heads: the common part of both headers.
-/
import Derived.Test.YtehhoigedniglaaDoorZpHead2
import Derived.Test.YtehhoigedniglaaDoorZpEnd
import Derived.Test.YtehhoigedniglaaDoorZpClass
namespace Go.Proofs.YtehhoigedniglaaDoor.Zp
open Go.RowKit Go.Shelf Go.Proofs.YtehhoigedniglaaDoor.Nm
set_option linter.unusedVariables false
set_option linter.unusedSimpArgs false

def flagI (kept pl : Bool) : Int := (if kept then 0 else 8) + (if pl then 0 else 2048)
def methI (kept : Bool) : Int := if kept then 0 else 8
def comS (h : Hd) : ByteArray := puI (flagI h.kept (plainB h.name)) 2 ++ puI (methI h.kept) 2 ++ puI (timeN h.t) 2 ++ puI (dateN h.t) 2
theorem comS_size (h : Hd) : (comS h).size = 8 := by
  unfold comS
  rw [ByteArray.size_append, ByteArray.size_append, ByteArray.size_append, puI_2, puI_2, puI_2, puI_2]
theorem dateN_lt {t : Tm} (h : Within t) : 0 ≤ dateN t ∧ dateN t < 65536 := by
  obtain ⟨b1, b2, b3, b4, b5, b6, b7⟩ := h
  unfold dateN
  omega
theorem timeN_lt {t : Tm} (h : Within t) : 0 ≤ timeN t ∧ timeN t < 65536 := by
  obtain ⟨b1, b2, b3, b4, b5, b6, b7⟩ := h
  unfold timeN
  omega

set_option maxHeartbeats 2000000 in
set_option maxRecDepth 100000 in
theorem common_calls (h : Hd) (w : World) (hn : h.name.size ≤ 140737488351232) (hg : tgood h.t = true) : Calls Tryd.prog 30 #[h.val] w fun e w' => e = .returned (.string (comS h)) ∧ Below w.heap.size w w' := by
  have hd := dateN_lt (tgood_within hg)
  have ht := timeN_lt (tgood_within hg)
  obtain ⟨R, HR⟩ : ∃ R, R = comS h := ⟨_, rfl⟩
  rw [← HR]
  unfold comS at HR
  obtain ⟨name, ⟨y, mo, d, hh, mi, s⟩, packed, size, sum, pos, kept⟩ := h
  simp only at hn hg hd ht HR
  simp only [Hd.val]
  have hP : Hid (∀ W, Calls Tryd.prog 42 #[.agg #[.int .i64 y, .int .i64 mo, .int .i64 d, .int .i64 hh, .int .i64 mi, .int .i64 s]] W fun e w' => e = .returned (.tuple #[.int .u64 (dateN ⟨y, mo, d, hh, mi, s⟩), .int .u64 (timeN ⟨y, mo, d, hh, mi, s⟩), .bool true]) ∧ Below W.heap.size W w') := Lib.hid (fun W => pack_calls ⟨y, mo, d, hh, mi, s⟩ W hg)
  clear hg
  generalize dateN ⟨y, mo, d, hh, mi, s⟩ = D at *
  generalize timeN ⟨y, mo, d, hh, mi, s⟩ = T at *
  have B0 := Lib.hid ((Below.refl w.heap.size w).alloc (Nat.le_refl _) (.cells #[.string name, .int .i64 y, .int .i64 mo, .int .i64 d, .int .i64 hh, .int .i64 mi, .int .i64 s, .int .u64 packed, .int .u64 size, .int .u32 sum, .int .u64 pos, .bool kept] 32))
  have o1 : Go.bits .or .u64 8 2048 = 2056 := by decide
  have o2 : Go.bits .or .u64 0 2048 = 2048 := by decide
  have e2 := puI_2
  cases kept <;> cases hp : plainB name
  all_goals
    rw [hp] at HR
    have H3 := Lib.hid HR
    clear HR
    go_enter Tryd.func30, Tryd.ntmps30
    go_wp2_with (first | (go_at_call 41; refine (plain_calls _ _ (by unfold maxLen; omega)).mono ?_; rintro e w' ⟨rfl, rfl⟩) | (go_at_call 42; refine (hP.out _).mono ?_; rintro e w1 ⟨rfl, hb⟩; replace B0 := Lib.hid (B0.out.trans (hb.mono B0.out.size)); clear hb) | (go_at_call 21; refine (put_any _ _ _ (by omega) (by omega) (by omega) (by omega)).mono ?_; rintro e w1 ⟨rfl, hb⟩; replace B0 := Lib.hid (B0.out.trans (hb.mono B0.out.size)); clear hb))
    go_ret
    exact ⟨by rw [H3.out]; rfl, B0.out⟩
end Go.Proofs.YtehhoigedniglaaDoor.Zp
