/-
  Headers are read: what both kinds answer, for any text.
-/
import Derived.Test.YtehhoigedniglaaDoorZpLocHead
import Derived.Test.YtehhoigedniglaaDoorZpCenHead
import Derived.Test.YtehhoigedniglaaDoorZpClass
namespace Go.Proofs.YtehhoigedniglaaDoor.Zp
open Go.RowKit Go.Shelf Go.Proofs.YtehhoigedniglaaDoor.Nm
set_option linter.unusedVariables false
set_option linter.unusedSimpArgs false

def zeroH : Hd := freshH ⟨#[]⟩
structure Form where
  sign : ByteArray
  (size lengths flags : Nat)
  raw : ByteArray → ByteArray → Tm → Bool → Hd
  str : Hd → ByteArray
def locF : Form := ⟨⟨#[80, 75, 3, 4]⟩, 30, 26, 6, locRaw, locS⟩
def cenF : Form := ⟨⟨#[80, 75, 1, 2]⟩, 46, 28, 8, cenRaw, cenS⟩
def nameN (F : Form) (s : ByteArray) : Nat := numS s F.lengths 2
def extraN (F : Form) (s : ByteArray) : Nat := numS s (F.lengths + 2) 2
def toldH (F : Form) (s : ByteArray) : Hd := F.raw s (partS s F.size (nameN F s)) (tellT s F.flags) (tellK s F.flags)
def wantS (F : Form) (s : ByteArray) : ByteArray := F.str (toldH F s)
/-- What is told, how many bytes. -/
def readG (F : Form) (s : ByteArray) : Hd × Int :=
  if sgnB s F.sign = false then (zeroH, -1)
  else if s.size < F.size ∨ s.size < F.size + nameN F s + extraN F s then (zeroH, 0)
  else if tgood (rawT s F.flags) = false then (zeroH, -1)
  else if (wantS F s).size = 0 ∨ (wantS F s).size ≠ F.size + nameN F s + extraN F s ∨ Lib.hasPrefix s.data.toList (wantS F s).data.toList = false then (zeroH, -1)
  else (toldH F s, (wantS F s).size)


theorem readG_sign {F : Form} {s : ByteArray} (h : sgnB s F.sign = false) : readG F s = (zeroH, -1) := by unfold readG; rw [if_pos h]
theorem readG_short {F : Form} {s : ByteArray} (h : sgnB s F.sign = true) (h2 : s.size < F.size ∨ s.size < F.size + nameN F s + extraN F s) : readG F s = (zeroH, 0) := by
  unfold readG; rw [if_neg (by rw [h]; exact Bool.noConfusion), if_pos h2]
theorem readG_tell {F : Form} {s : ByteArray} (h : sgnB s F.sign = true) (h2 : ¬ (s.size < F.size ∨ s.size < F.size + nameN F s + extraN F s)) (h3 : tgood (rawT s F.flags) = false) : readG F s = (zeroH, -1) := by
  unfold readG; rw [if_neg (by rw [h]; exact Bool.noConfusion), if_neg h2, if_pos h3]
theorem readG_not {F : Form} {s : ByteArray} (h : sgnB s F.sign = true) (h2 : ¬ (s.size < F.size ∨ s.size < F.size + nameN F s + extraN F s)) (h3 : tgood (rawT s F.flags) = true)
    (h4 : (wantS F s).size = 0 ∨ (wantS F s).size ≠ F.size + nameN F s + extraN F s ∨ Lib.hasPrefix s.data.toList (wantS F s).data.toList = false) : readG F s = (zeroH, -1) := by
  unfold readG; rw [if_neg (by rw [h]; exact Bool.noConfusion), if_neg h2, if_neg (by rw [h3]; exact Bool.noConfusion), if_pos h4]
theorem readG_yes {F : Form} {s : ByteArray} (h : sgnB s F.sign = true) (h2 : ¬ (s.size < F.size ∨ s.size < F.size + nameN F s + extraN F s)) (h3 : tgood (rawT s F.flags) = true)
    (h4 : ¬ ((wantS F s).size = 0 ∨ (wantS F s).size ≠ F.size + nameN F s + extraN F s ∨ Lib.hasPrefix s.data.toList (wantS F s).data.toList = false)) : readG F s = (toldH F s, ((wantS F s).size : Int)) := by
  unfold readG; rw [if_neg (by rw [h]; exact Bool.noConfusion), if_neg h2, if_neg (by rw [h3]; exact Bool.noConfusion), if_neg h4]

theorem isE0 (b : ByteArray) (h : b.size = 0) : b.toList.isEmpty = true := by
  rw [Lib.toList_data]
  have : b.data.toList.length = 0 := h
  rw [List.length_eq_zero_iff] at this
  rw [this]
  rfl

theorem number_at (s : ByteArray) (k n : Int) (K N V : Nat) (w : World) (hs : s.size ≤ 140737488351232) (hk : k = (K : Int)) (hn : n = (N : Int)) (hV : numS s K N = V) (hK : K ≤ 1000000000000000) (hN : N ≤ 1000000000000000) :
    Calls Tryd.prog 49 #[.string s, .int .i64 k, .int .i64 n] w fun e w' => e = .returned (.int .u64 V) ∧ w = w' := by
  subst hk hn hV
  exact number_calls s K N w hs hK hN

structure Form.ok (F : Form) : Prop where
  g : F.sign.size ≤ 100
  s : F.size ≤ 100
  l : F.lengths ≤ 100
  f : F.flags ≤ 100

/-- What the whole header's function does. -/
def Wholes (F : Form) (fid : Nat) : Prop := ∀ (B : Nat) (s name : ByteArray) (t : Tm) (kept : Bool) (w0 w : World), s.size ≤ 140737488351232 → name.size ≤ 1000000 → Tabs w0 → Below w0.heap.size w0 w → w0.heap.size ≤ B →
    Blk B (hdC ⟨name, t, 0, 0, 0, 0, kept⟩) 32 w →
    Calls Tryd.prog fid #[.string s, .pointer (some ⟨B, 0, none⟩)] w fun e w' => e = .returned (.string (F.str (F.raw s name t kept))) ∧ Blk B (hdC (F.raw s name t kept)) 32 w' ∧ Below B w w'

def formC (F : Form) (fid : Nat) : Array Value := #[.string F.sign, .int .i64 F.size, .int .i64 F.lengths, .int .i64 F.flags, .func (Fn.func fid) #[] #[]]

set_option maxHeartbeats 2000000 in
set_option maxRecDepth 100000 in
theorem form_calls (F : Form) (fid : Nat) (s : ByteArray) (w : World) (hs : s.size ≤ 140737488351232) (hT : Tabs w) (hF : F.ok) (hfid : fid = 32 ∨ fid = 34) (HW : Wholes F fid) :
    Calls Tryd.prog 33 #[.agg (formC F fid), .string s] w fun e w' => e = .returned (.tuple #[(readG F s).1.val, .int .i64 (readG F s).2]) ∧ Below w.heap.size w w' := by
  obtain ⟨hg, hz, hl, hfl⟩ := hF
  have HS := Lib.hid (fun W => signed_calls s F.sign W hs hg)
  have N1 : nameN F s < 65536 := numS_2 s F.lengths
  have N2 : extraN F s < 65536 := numS_2 s (F.lengths + 2)
  have E1 := Lib.hid (show numS s F.lengths 2 = nameN F s from rfl)
  have E2 := Lib.hid (show numS s (F.lengths + 2) 2 = extraN F s from rfl)
  have HP := Lib.hid (fun W => part_calls s F.size (nameN F s) W hs (by omega) (by omega))
  have hps := partS_le s F.size (nameN F s)
  have B0 := Lib.hid (((Below.refl w.heap.size w).alloc (Nat.le_refl _) (.cells (formC F fid) 60)))
  have K0 := Blk.new w (formC F fid) 60
  have K1 := Blk.new1 w (.cells (formC F fid) 60) (hdC (freshH ⟨#[]⟩)) 32
  have K2 := K0.alloc (.cells (hdC (freshH ⟨#[]⟩)) 32)
  have B1 := Lib.hid (B0.out.alloc B0.out.size (.cells (hdC (freshH ⟨#[]⟩)) 32))
  simp only [formC, hdC, freshH, zeroT] at B0 K0 K1 K2 B1 ⊢
  clear K0 B0
  go_enter Tryd.func33, Tryd.ntmps33
  go_wp2_with fail
  obtain ⟨W, hW⟩ : ∃ W, W = ((w.alloc (.cells #[.string F.sign, .int .i64 F.size, .int .i64 F.lengths, .int .i64 F.flags, .func (Fn.func fid) #[] #[]] 60)).alloc (.cells #[.string ⟨#[]⟩, .int .i64 0, .int .i64 0, .int .i64 0, .int .i64 0, .int .i64 0, .int .i64 0, .int .u64 0, .int .u64 0, .int .u32 0, .int .u64 0, .bool false] 32)) := ⟨_, rfl⟩
  rw [← hW] at K1 K2 B1 ⊢
  clear hW
  obtain ⟨U, f, HA⟩ := above W.heap.size W
  have c0 := HA.cell K2 K2.lt 0 (.string F.sign) rfl
  have c1 := HA.cell K2 K2.lt 1 (.int .i64 F.size) rfl
  have c2 := HA.cell K2 K2.lt 2 (.int .i64 F.lengths) rfl
  have c3 := HA.cell K2 K2.lt 3 (.int .i64 F.flags) rfl
  have c4 := HA.cell K2 K2.lt 4 (.func (Fn.func fid) #[] #[]) rfl
  have z0 := HA.cell K1 K1.lt 0 (.string ⟨#[]⟩) rfl
  have z1 := HA.cell K1 K1.lt 1 (.int .i64 0) rfl
  have z2 := HA.cell K1 K1.lt 2 (.int .i64 0) rfl
  have z3 := HA.cell K1 K1.lt 3 (.int .i64 0) rfl
  have z4 := HA.cell K1 K1.lt 4 (.int .i64 0) rfl
  have z5 := HA.cell K1 K1.lt 5 (.int .i64 0) rfl
  have z6 := HA.cell K1 K1.lt 6 (.int .i64 0) rfl
  have z7 := HA.cell K1 K1.lt 7 (.int .u64 0) rfl
  have z8 := HA.cell K1 K1.lt 8 (.int .u64 0) rfl
  have z9 := HA.cell K1 K1.lt 9 (.int .u32 0) rfl
  have z10 := HA.cell K1 K1.lt 10 (.int .u64 0) rfl
  have z11 := HA.cell K1 K1.lt 11 (.bool false) rfl
  have f0 : ∀ (u : U) (k : Nat), (f u).frozen? ⟨w.heap.size + 1, k, none⟩ = false := fun u => (K1.under K1.lt (HA.below u)).frozen
  have KC := Lib.hid (fun u => K2.under K2.lt (HA.below u))
  have KZ := Lib.hid (fun u => K1.under K1.lt (HA.below u))
  have HU := Lib.hid HA
  obtain ⟨u0, hu0⟩ := HA.start
  have hne : Nonempty U := ⟨u0⟩
  have HE : Hid (∀ u, Below w.heap.size w (f u)) := Lib.hid (fun u => B1.out.trans ((HA.below u).mono B1.out.size))
  have hWs := B1.out.size
  clear HA K1 K2 B1
  rw [hu0]
  have hWu : Hid (∀ u, W.heap.size ≤ (f u).heap.size) := Lib.hid (fun u => (HU.out.below u).size)
  refine (HS.out _).mono ?_
  rintro e w' ⟨rfl, rfl⟩
  cases h1 : sgnB s F.sign with
  | false =>
    have HR := Lib.hid (readG_sign h1)
    go_wp2_with fail
    have k0 := KZ.out u0
    have m0 := HE.out u0
    have k1 := k0.setTo (cs' := #[.string ⟨#[]⟩, .int .i64 0, .int .i64 0, .int .i64 0, .int .i64 0, .int .i64 0, .int .i64 0, .int .u64 0, .int .u64 0, .int .u32 0, .int .u64 0, .bool false]) 0 (.string ⟨#[]⟩) rfl
    have m1 := m0.setCell (p := ⟨w.heap.size + 1, 0, none⟩) (by simp) (.string ⟨#[]⟩)
    have k2 := k1.setTo (cs' := #[.string ⟨#[]⟩, .int .i64 0, .int .i64 0, .int .i64 0, .int .i64 0, .int .i64 0, .int .i64 0, .int .u64 0, .int .u64 0, .int .u32 0, .int .u64 0, .bool false]) 1 (.int .i64 0) rfl
    have m2 := m1.setCell (p := ⟨w.heap.size + 1, 1, none⟩) (by simp) (.int .i64 0)
    have k3 := k2.setTo (cs' := #[.string ⟨#[]⟩, .int .i64 0, .int .i64 0, .int .i64 0, .int .i64 0, .int .i64 0, .int .i64 0, .int .u64 0, .int .u64 0, .int .u32 0, .int .u64 0, .bool false]) 2 (.int .i64 0) rfl
    have m3 := m2.setCell (p := ⟨w.heap.size + 1, 2, none⟩) (by simp) (.int .i64 0)
    have k4 := k3.setTo (cs' := #[.string ⟨#[]⟩, .int .i64 0, .int .i64 0, .int .i64 0, .int .i64 0, .int .i64 0, .int .i64 0, .int .u64 0, .int .u64 0, .int .u32 0, .int .u64 0, .bool false]) 3 (.int .i64 0) rfl
    have m4 := m3.setCell (p := ⟨w.heap.size + 1, 3, none⟩) (by simp) (.int .i64 0)
    have k5 := k4.setTo (cs' := #[.string ⟨#[]⟩, .int .i64 0, .int .i64 0, .int .i64 0, .int .i64 0, .int .i64 0, .int .i64 0, .int .u64 0, .int .u64 0, .int .u32 0, .int .u64 0, .bool false]) 4 (.int .i64 0) rfl
    have m5 := m4.setCell (p := ⟨w.heap.size + 1, 4, none⟩) (by simp) (.int .i64 0)
    have k6 := k5.setTo (cs' := #[.string ⟨#[]⟩, .int .i64 0, .int .i64 0, .int .i64 0, .int .i64 0, .int .i64 0, .int .i64 0, .int .u64 0, .int .u64 0, .int .u32 0, .int .u64 0, .bool false]) 5 (.int .i64 0) rfl
    have m6 := m5.setCell (p := ⟨w.heap.size + 1, 5, none⟩) (by simp) (.int .i64 0)
    have k7 := k6.setTo (cs' := #[.string ⟨#[]⟩, .int .i64 0, .int .i64 0, .int .i64 0, .int .i64 0, .int .i64 0, .int .i64 0, .int .u64 0, .int .u64 0, .int .u32 0, .int .u64 0, .bool false]) 6 (.int .i64 0) rfl
    have m7 := m6.setCell (p := ⟨w.heap.size + 1, 6, none⟩) (by simp) (.int .i64 0)
    have k8 := k7.setTo (cs' := #[.string ⟨#[]⟩, .int .i64 0, .int .i64 0, .int .i64 0, .int .i64 0, .int .i64 0, .int .i64 0, .int .u64 0, .int .u64 0, .int .u32 0, .int .u64 0, .bool false]) 7 (.int .u64 0) rfl
    have m8 := m7.setCell (p := ⟨w.heap.size + 1, 7, none⟩) (by simp) (.int .u64 0)
    have k9 := k8.setTo (cs' := #[.string ⟨#[]⟩, .int .i64 0, .int .i64 0, .int .i64 0, .int .i64 0, .int .i64 0, .int .i64 0, .int .u64 0, .int .u64 0, .int .u32 0, .int .u64 0, .bool false]) 8 (.int .u64 0) rfl
    have m9 := m8.setCell (p := ⟨w.heap.size + 1, 8, none⟩) (by simp) (.int .u64 0)
    have k10 := k9.setTo (cs' := #[.string ⟨#[]⟩, .int .i64 0, .int .i64 0, .int .i64 0, .int .i64 0, .int .i64 0, .int .i64 0, .int .u64 0, .int .u64 0, .int .u32 0, .int .u64 0, .bool false]) 9 (.int .u32 0) rfl
    have m10 := m9.setCell (p := ⟨w.heap.size + 1, 9, none⟩) (by simp) (.int .u32 0)
    have k11 := k10.setTo (cs' := #[.string ⟨#[]⟩, .int .i64 0, .int .i64 0, .int .i64 0, .int .i64 0, .int .i64 0, .int .i64 0, .int .u64 0, .int .u64 0, .int .u32 0, .int .u64 0, .bool false]) 10 (.int .u64 0) rfl
    have m11 := m10.setCell (p := ⟨w.heap.size + 1, 10, none⟩) (by simp) (.int .u64 0)
    have k12 := k11.setTo (cs' := #[.string ⟨#[]⟩, .int .i64 0, .int .i64 0, .int .i64 0, .int .i64 0, .int .i64 0, .int .i64 0, .int .u64 0, .int .u64 0, .int .u32 0, .int .u64 0, .bool false]) 11 (.bool false) rfl
    have m12 := m11.setCell (p := ⟨w.heap.size + 1, 11, none⟩) (by simp) (.bool false)
    obtain ⟨Wf, hWf⟩ : ∃ Wf, Wf = (((((((((((((f u0).setCell ⟨w.heap.size + 1, 0, none⟩ (.string ⟨#[]⟩)).setCell ⟨w.heap.size + 1, 1, none⟩ (.int .i64 0)).setCell ⟨w.heap.size + 1, 2, none⟩ (.int .i64 0)).setCell ⟨w.heap.size + 1, 3, none⟩ (.int .i64 0)).setCell ⟨w.heap.size + 1, 4, none⟩ (.int .i64 0)).setCell ⟨w.heap.size + 1, 5, none⟩ (.int .i64 0)).setCell ⟨w.heap.size + 1, 6, none⟩ (.int .i64 0)).setCell ⟨w.heap.size + 1, 7, none⟩ (.int .u64 0)).setCell ⟨w.heap.size + 1, 8, none⟩ (.int .u64 0)).setCell ⟨w.heap.size + 1, 9, none⟩ (.int .u32 0)).setCell ⟨w.heap.size + 1, 10, none⟩ (.int .u64 0)).setCell ⟨w.heap.size + 1, 11, none⟩ (.bool false)) := ⟨_, rfl⟩
    rw [← hWf] at k12 m12 ⊢
    exact bodyPost_ret (v := .tuple #[zeroH.val, .int .i64 (-1)]) (results_cell_tmp Tryd.results33 _ _ (w.heap.size + 1) 32 _ _ _ rfl rfl k12 Tryd.underlying32 rfl (by kernel_rfl)) rfl ⟨by rw [HR.out], m12⟩
  | true =>
    have R0 := h1
    have HR0 := Lib.hid R0
    clear R0
    go_wp2_with fail
    refine wp_region_class (C := fun w' => ∃ u, w' = f u) (by kernel_rfl) (by kernel_rfl) (HU.out.drew _) ?_
    repeat (go_big_quiet_step (first | (go_at_call 49; refine (number_at s _ _ F.lengths 2 _ _ hs (by omega) (by omega) E1.out (by omega) (by omega)).mono ?_; rintro e w' ⟨rfl, rfl⟩; exact ⟨rfl, _, rfl⟩) | (go_at_call 49; refine (number_at s _ _ (F.lengths + 2) 2 _ _ hs (by omega) (by omega) E2.out (by omega) (by omega)).mono ?_; rintro e w' ⟨rfl, rfl⟩; exact ⟨rfl, _, rfl⟩)))
    refine wpQuiet_nil ?_
    rintro wx ⟨u2, rfl⟩
    by_cases h2 : s.size < F.size
    · have r1 : decide ((s.size : Int) < (F.size : Int)) = true := decide_eq_true (by omega)
      have HR := Lib.hid (readG_short HR0.out (.inl h2))
      go_wp2_with fail
      have k0 := KZ.out u2
      have m0 := HE.out u2
      have k1 := k0.setTo (cs' := #[.string ⟨#[]⟩, .int .i64 0, .int .i64 0, .int .i64 0, .int .i64 0, .int .i64 0, .int .i64 0, .int .u64 0, .int .u64 0, .int .u32 0, .int .u64 0, .bool false]) 0 (.string ⟨#[]⟩) rfl
      have m1 := m0.setCell (p := ⟨w.heap.size + 1, 0, none⟩) (by simp) (.string ⟨#[]⟩)
      have k2 := k1.setTo (cs' := #[.string ⟨#[]⟩, .int .i64 0, .int .i64 0, .int .i64 0, .int .i64 0, .int .i64 0, .int .i64 0, .int .u64 0, .int .u64 0, .int .u32 0, .int .u64 0, .bool false]) 1 (.int .i64 0) rfl
      have m2 := m1.setCell (p := ⟨w.heap.size + 1, 1, none⟩) (by simp) (.int .i64 0)
      have k3 := k2.setTo (cs' := #[.string ⟨#[]⟩, .int .i64 0, .int .i64 0, .int .i64 0, .int .i64 0, .int .i64 0, .int .i64 0, .int .u64 0, .int .u64 0, .int .u32 0, .int .u64 0, .bool false]) 2 (.int .i64 0) rfl
      have m3 := m2.setCell (p := ⟨w.heap.size + 1, 2, none⟩) (by simp) (.int .i64 0)
      have k4 := k3.setTo (cs' := #[.string ⟨#[]⟩, .int .i64 0, .int .i64 0, .int .i64 0, .int .i64 0, .int .i64 0, .int .i64 0, .int .u64 0, .int .u64 0, .int .u32 0, .int .u64 0, .bool false]) 3 (.int .i64 0) rfl
      have m4 := m3.setCell (p := ⟨w.heap.size + 1, 3, none⟩) (by simp) (.int .i64 0)
      have k5 := k4.setTo (cs' := #[.string ⟨#[]⟩, .int .i64 0, .int .i64 0, .int .i64 0, .int .i64 0, .int .i64 0, .int .i64 0, .int .u64 0, .int .u64 0, .int .u32 0, .int .u64 0, .bool false]) 4 (.int .i64 0) rfl
      have m5 := m4.setCell (p := ⟨w.heap.size + 1, 4, none⟩) (by simp) (.int .i64 0)
      have k6 := k5.setTo (cs' := #[.string ⟨#[]⟩, .int .i64 0, .int .i64 0, .int .i64 0, .int .i64 0, .int .i64 0, .int .i64 0, .int .u64 0, .int .u64 0, .int .u32 0, .int .u64 0, .bool false]) 5 (.int .i64 0) rfl
      have m6 := m5.setCell (p := ⟨w.heap.size + 1, 5, none⟩) (by simp) (.int .i64 0)
      have k7 := k6.setTo (cs' := #[.string ⟨#[]⟩, .int .i64 0, .int .i64 0, .int .i64 0, .int .i64 0, .int .i64 0, .int .i64 0, .int .u64 0, .int .u64 0, .int .u32 0, .int .u64 0, .bool false]) 6 (.int .i64 0) rfl
      have m7 := m6.setCell (p := ⟨w.heap.size + 1, 6, none⟩) (by simp) (.int .i64 0)
      have k8 := k7.setTo (cs' := #[.string ⟨#[]⟩, .int .i64 0, .int .i64 0, .int .i64 0, .int .i64 0, .int .i64 0, .int .i64 0, .int .u64 0, .int .u64 0, .int .u32 0, .int .u64 0, .bool false]) 7 (.int .u64 0) rfl
      have m8 := m7.setCell (p := ⟨w.heap.size + 1, 7, none⟩) (by simp) (.int .u64 0)
      have k9 := k8.setTo (cs' := #[.string ⟨#[]⟩, .int .i64 0, .int .i64 0, .int .i64 0, .int .i64 0, .int .i64 0, .int .i64 0, .int .u64 0, .int .u64 0, .int .u32 0, .int .u64 0, .bool false]) 8 (.int .u64 0) rfl
      have m9 := m8.setCell (p := ⟨w.heap.size + 1, 8, none⟩) (by simp) (.int .u64 0)
      have k10 := k9.setTo (cs' := #[.string ⟨#[]⟩, .int .i64 0, .int .i64 0, .int .i64 0, .int .i64 0, .int .i64 0, .int .i64 0, .int .u64 0, .int .u64 0, .int .u32 0, .int .u64 0, .bool false]) 9 (.int .u32 0) rfl
      have m10 := m9.setCell (p := ⟨w.heap.size + 1, 9, none⟩) (by simp) (.int .u32 0)
      have k11 := k10.setTo (cs' := #[.string ⟨#[]⟩, .int .i64 0, .int .i64 0, .int .i64 0, .int .i64 0, .int .i64 0, .int .i64 0, .int .u64 0, .int .u64 0, .int .u32 0, .int .u64 0, .bool false]) 10 (.int .u64 0) rfl
      have m11 := m10.setCell (p := ⟨w.heap.size + 1, 10, none⟩) (by simp) (.int .u64 0)
      have k12 := k11.setTo (cs' := #[.string ⟨#[]⟩, .int .i64 0, .int .i64 0, .int .i64 0, .int .i64 0, .int .i64 0, .int .i64 0, .int .u64 0, .int .u64 0, .int .u32 0, .int .u64 0, .bool false]) 11 (.bool false) rfl
      have m12 := m11.setCell (p := ⟨w.heap.size + 1, 11, none⟩) (by simp) (.bool false)
      obtain ⟨Wf, hWf⟩ : ∃ Wf, Wf = (((((((((((((f u2).setCell ⟨w.heap.size + 1, 0, none⟩ (.string ⟨#[]⟩)).setCell ⟨w.heap.size + 1, 1, none⟩ (.int .i64 0)).setCell ⟨w.heap.size + 1, 2, none⟩ (.int .i64 0)).setCell ⟨w.heap.size + 1, 3, none⟩ (.int .i64 0)).setCell ⟨w.heap.size + 1, 4, none⟩ (.int .i64 0)).setCell ⟨w.heap.size + 1, 5, none⟩ (.int .i64 0)).setCell ⟨w.heap.size + 1, 6, none⟩ (.int .i64 0)).setCell ⟨w.heap.size + 1, 7, none⟩ (.int .u64 0)).setCell ⟨w.heap.size + 1, 8, none⟩ (.int .u64 0)).setCell ⟨w.heap.size + 1, 9, none⟩ (.int .u32 0)).setCell ⟨w.heap.size + 1, 10, none⟩ (.int .u64 0)).setCell ⟨w.heap.size + 1, 11, none⟩ (.bool false)) := ⟨_, rfl⟩
      rw [← hWf] at k12 m12 ⊢
      exact bodyPost_ret (v := .tuple #[zeroH.val, .int .i64 (0)]) (results_cell_tmp Tryd.results33 _ _ (w.heap.size + 1) 32 _ _ _ rfl rfl k12 Tryd.underlying32 rfl (by kernel_rfl)) rfl ⟨by rw [HR.out], m12⟩
    · have r1 : decide ((s.size : Int) < (F.size : Int)) = false := decide_eq_false (by omega)
      by_cases h3 : s.size < F.size + nameN F s + extraN F s
      · have r2 : decide ((s.size : Int) < (F.size : Int) + (nameN F s : Int) + (extraN F s : Int)) = true := decide_eq_true (by omega)
        have HR := Lib.hid (readG_short HR0.out (.inr h3))
        go_wp2_with fail
        have k0 := KZ.out u2
        have m0 := HE.out u2
        have k1 := k0.setTo (cs' := #[.string ⟨#[]⟩, .int .i64 0, .int .i64 0, .int .i64 0, .int .i64 0, .int .i64 0, .int .i64 0, .int .u64 0, .int .u64 0, .int .u32 0, .int .u64 0, .bool false]) 0 (.string ⟨#[]⟩) rfl
        have m1 := m0.setCell (p := ⟨w.heap.size + 1, 0, none⟩) (by simp) (.string ⟨#[]⟩)
        have k2 := k1.setTo (cs' := #[.string ⟨#[]⟩, .int .i64 0, .int .i64 0, .int .i64 0, .int .i64 0, .int .i64 0, .int .i64 0, .int .u64 0, .int .u64 0, .int .u32 0, .int .u64 0, .bool false]) 1 (.int .i64 0) rfl
        have m2 := m1.setCell (p := ⟨w.heap.size + 1, 1, none⟩) (by simp) (.int .i64 0)
        have k3 := k2.setTo (cs' := #[.string ⟨#[]⟩, .int .i64 0, .int .i64 0, .int .i64 0, .int .i64 0, .int .i64 0, .int .i64 0, .int .u64 0, .int .u64 0, .int .u32 0, .int .u64 0, .bool false]) 2 (.int .i64 0) rfl
        have m3 := m2.setCell (p := ⟨w.heap.size + 1, 2, none⟩) (by simp) (.int .i64 0)
        have k4 := k3.setTo (cs' := #[.string ⟨#[]⟩, .int .i64 0, .int .i64 0, .int .i64 0, .int .i64 0, .int .i64 0, .int .i64 0, .int .u64 0, .int .u64 0, .int .u32 0, .int .u64 0, .bool false]) 3 (.int .i64 0) rfl
        have m4 := m3.setCell (p := ⟨w.heap.size + 1, 3, none⟩) (by simp) (.int .i64 0)
        have k5 := k4.setTo (cs' := #[.string ⟨#[]⟩, .int .i64 0, .int .i64 0, .int .i64 0, .int .i64 0, .int .i64 0, .int .i64 0, .int .u64 0, .int .u64 0, .int .u32 0, .int .u64 0, .bool false]) 4 (.int .i64 0) rfl
        have m5 := m4.setCell (p := ⟨w.heap.size + 1, 4, none⟩) (by simp) (.int .i64 0)
        have k6 := k5.setTo (cs' := #[.string ⟨#[]⟩, .int .i64 0, .int .i64 0, .int .i64 0, .int .i64 0, .int .i64 0, .int .i64 0, .int .u64 0, .int .u64 0, .int .u32 0, .int .u64 0, .bool false]) 5 (.int .i64 0) rfl
        have m6 := m5.setCell (p := ⟨w.heap.size + 1, 5, none⟩) (by simp) (.int .i64 0)
        have k7 := k6.setTo (cs' := #[.string ⟨#[]⟩, .int .i64 0, .int .i64 0, .int .i64 0, .int .i64 0, .int .i64 0, .int .i64 0, .int .u64 0, .int .u64 0, .int .u32 0, .int .u64 0, .bool false]) 6 (.int .i64 0) rfl
        have m7 := m6.setCell (p := ⟨w.heap.size + 1, 6, none⟩) (by simp) (.int .i64 0)
        have k8 := k7.setTo (cs' := #[.string ⟨#[]⟩, .int .i64 0, .int .i64 0, .int .i64 0, .int .i64 0, .int .i64 0, .int .i64 0, .int .u64 0, .int .u64 0, .int .u32 0, .int .u64 0, .bool false]) 7 (.int .u64 0) rfl
        have m8 := m7.setCell (p := ⟨w.heap.size + 1, 7, none⟩) (by simp) (.int .u64 0)
        have k9 := k8.setTo (cs' := #[.string ⟨#[]⟩, .int .i64 0, .int .i64 0, .int .i64 0, .int .i64 0, .int .i64 0, .int .i64 0, .int .u64 0, .int .u64 0, .int .u32 0, .int .u64 0, .bool false]) 8 (.int .u64 0) rfl
        have m9 := m8.setCell (p := ⟨w.heap.size + 1, 8, none⟩) (by simp) (.int .u64 0)
        have k10 := k9.setTo (cs' := #[.string ⟨#[]⟩, .int .i64 0, .int .i64 0, .int .i64 0, .int .i64 0, .int .i64 0, .int .i64 0, .int .u64 0, .int .u64 0, .int .u32 0, .int .u64 0, .bool false]) 9 (.int .u32 0) rfl
        have m10 := m9.setCell (p := ⟨w.heap.size + 1, 9, none⟩) (by simp) (.int .u32 0)
        have k11 := k10.setTo (cs' := #[.string ⟨#[]⟩, .int .i64 0, .int .i64 0, .int .i64 0, .int .i64 0, .int .i64 0, .int .i64 0, .int .u64 0, .int .u64 0, .int .u32 0, .int .u64 0, .bool false]) 10 (.int .u64 0) rfl
        have m11 := m10.setCell (p := ⟨w.heap.size + 1, 10, none⟩) (by simp) (.int .u64 0)
        have k12 := k11.setTo (cs' := #[.string ⟨#[]⟩, .int .i64 0, .int .i64 0, .int .i64 0, .int .i64 0, .int .i64 0, .int .i64 0, .int .u64 0, .int .u64 0, .int .u32 0, .int .u64 0, .bool false]) 11 (.bool false) rfl
        have m12 := m11.setCell (p := ⟨w.heap.size + 1, 11, none⟩) (by simp) (.bool false)
        obtain ⟨Wf, hWf⟩ : ∃ Wf, Wf = (((((((((((((f u2).setCell ⟨w.heap.size + 1, 0, none⟩ (.string ⟨#[]⟩)).setCell ⟨w.heap.size + 1, 1, none⟩ (.int .i64 0)).setCell ⟨w.heap.size + 1, 2, none⟩ (.int .i64 0)).setCell ⟨w.heap.size + 1, 3, none⟩ (.int .i64 0)).setCell ⟨w.heap.size + 1, 4, none⟩ (.int .i64 0)).setCell ⟨w.heap.size + 1, 5, none⟩ (.int .i64 0)).setCell ⟨w.heap.size + 1, 6, none⟩ (.int .i64 0)).setCell ⟨w.heap.size + 1, 7, none⟩ (.int .u64 0)).setCell ⟨w.heap.size + 1, 8, none⟩ (.int .u64 0)).setCell ⟨w.heap.size + 1, 9, none⟩ (.int .u32 0)).setCell ⟨w.heap.size + 1, 10, none⟩ (.int .u64 0)).setCell ⟨w.heap.size + 1, 11, none⟩ (.bool false)) := ⟨_, rfl⟩
        rw [← hWf] at k12 m12 ⊢
        exact bodyPost_ret (v := .tuple #[zeroH.val, .int .i64 (0)]) (results_cell_tmp Tryd.results33 _ _ (w.heap.size + 1) 32 _ _ _ rfl rfl k12 Tryd.underlying32 rfl (by kernel_rfl)) rfl ⟨by rw [HR.out], m12⟩
      · have r2 : decide ((s.size : Int) < (F.size : Int) + (nameN F s : Int) + (extraN F s : Int)) = false := decide_eq_false (by omega)
        have h23 : ¬ (s.size < F.size ∨ s.size < F.size + nameN F s + extraN F s) := by omega
        have H23 := Lib.hid h23
        clear h23
        go_wp2_with fail
        refine (HP.out _).mono ?_
        rintro e w' ⟨rfl, rfl⟩
        obtain ⟨nm, hnm⟩ : ∃ nm, nm = partS s F.size (nameN F s) := ⟨_, rfl⟩
        rw [← hnm] at hps ⊢
        have HNM := Lib.hid hnm
        have q3 := c3 u2
        have r0 := (KC.out u2).frozen
        clear hnm z0 z1 z2 z3 z4 z5 z6 z7 z8 z9 z10 z11 c0 c1 c2 c3 c4 f0 r0 hne h1
        have hsz := (KC.out u2).lt
        go_wp2_with fail
        have KB : Blk (f u2).heap.size (hdC (freshH nm)) 32 ((f u2).alloc (.cells (hdC (freshH nm)) 32)) := Blk.new _ _ _
        refine (tell_calls (f u2).heap.size s nm F.flags _ hs (by omega) KB).mono ?_
        rintro e w4 ⟨rfl, hb4, hbl4⟩
        obtain ⟨u4, rfl⟩ := HU.out.all w4 (((HU.out.below u2).alloc (hWu.out u2) _).trans (hbl4.mono (hWu.out u2)))
        have hBw : w.heap.size ≤ (f u2).heap.size := by omega
        have hBw2 : W.heap.size ≤ (f u2).heap.size := hWu.out u2
        clear KB hbl4 q3
        generalize (f u2).heap.size = Bh at *
        cases h5 : tgood (rawT s F.flags) with
        | false =>
          have HR := Lib.hid (readG_tell HR0.out H23.out h5)
          clear h5
          have z0 := (KZ.out u4).cell 0
          have z1 := (KZ.out u4).cell 1
          have z2 := (KZ.out u4).cell 2
          have z3 := (KZ.out u4).cell 3
          have z4 := (KZ.out u4).cell 4
          have z5 := (KZ.out u4).cell 5
          have z6 := (KZ.out u4).cell 6
          have z7 := (KZ.out u4).cell 7
          have z8 := (KZ.out u4).cell 8
          have z9 := (KZ.out u4).cell 9
          have z10 := (KZ.out u4).cell 10
          have z11 := (KZ.out u4).cell 11
          have f0 := (KZ.out u4).frozen
          simp at z0 z1 z2 z3 z4 z5 z6 z7 z8 z9 z10 z11
          go_wp2_with fail
          have k0 := KZ.out u4
          have m0 := HE.out u4
          have k1 := k0.setTo (cs' := #[.string ⟨#[]⟩, .int .i64 0, .int .i64 0, .int .i64 0, .int .i64 0, .int .i64 0, .int .i64 0, .int .u64 0, .int .u64 0, .int .u32 0, .int .u64 0, .bool false]) 0 (.string ⟨#[]⟩) rfl
          have m1 := m0.setCell (p := ⟨w.heap.size + 1, 0, none⟩) (by simp) (.string ⟨#[]⟩)
          have k2 := k1.setTo (cs' := #[.string ⟨#[]⟩, .int .i64 0, .int .i64 0, .int .i64 0, .int .i64 0, .int .i64 0, .int .i64 0, .int .u64 0, .int .u64 0, .int .u32 0, .int .u64 0, .bool false]) 1 (.int .i64 0) rfl
          have m2 := m1.setCell (p := ⟨w.heap.size + 1, 1, none⟩) (by simp) (.int .i64 0)
          have k3 := k2.setTo (cs' := #[.string ⟨#[]⟩, .int .i64 0, .int .i64 0, .int .i64 0, .int .i64 0, .int .i64 0, .int .i64 0, .int .u64 0, .int .u64 0, .int .u32 0, .int .u64 0, .bool false]) 2 (.int .i64 0) rfl
          have m3 := m2.setCell (p := ⟨w.heap.size + 1, 2, none⟩) (by simp) (.int .i64 0)
          have k4 := k3.setTo (cs' := #[.string ⟨#[]⟩, .int .i64 0, .int .i64 0, .int .i64 0, .int .i64 0, .int .i64 0, .int .i64 0, .int .u64 0, .int .u64 0, .int .u32 0, .int .u64 0, .bool false]) 3 (.int .i64 0) rfl
          have m4 := m3.setCell (p := ⟨w.heap.size + 1, 3, none⟩) (by simp) (.int .i64 0)
          have k5 := k4.setTo (cs' := #[.string ⟨#[]⟩, .int .i64 0, .int .i64 0, .int .i64 0, .int .i64 0, .int .i64 0, .int .i64 0, .int .u64 0, .int .u64 0, .int .u32 0, .int .u64 0, .bool false]) 4 (.int .i64 0) rfl
          have m5 := m4.setCell (p := ⟨w.heap.size + 1, 4, none⟩) (by simp) (.int .i64 0)
          have k6 := k5.setTo (cs' := #[.string ⟨#[]⟩, .int .i64 0, .int .i64 0, .int .i64 0, .int .i64 0, .int .i64 0, .int .i64 0, .int .u64 0, .int .u64 0, .int .u32 0, .int .u64 0, .bool false]) 5 (.int .i64 0) rfl
          have m6 := m5.setCell (p := ⟨w.heap.size + 1, 5, none⟩) (by simp) (.int .i64 0)
          have k7 := k6.setTo (cs' := #[.string ⟨#[]⟩, .int .i64 0, .int .i64 0, .int .i64 0, .int .i64 0, .int .i64 0, .int .i64 0, .int .u64 0, .int .u64 0, .int .u32 0, .int .u64 0, .bool false]) 6 (.int .i64 0) rfl
          have m7 := m6.setCell (p := ⟨w.heap.size + 1, 6, none⟩) (by simp) (.int .i64 0)
          have k8 := k7.setTo (cs' := #[.string ⟨#[]⟩, .int .i64 0, .int .i64 0, .int .i64 0, .int .i64 0, .int .i64 0, .int .i64 0, .int .u64 0, .int .u64 0, .int .u32 0, .int .u64 0, .bool false]) 7 (.int .u64 0) rfl
          have m8 := m7.setCell (p := ⟨w.heap.size + 1, 7, none⟩) (by simp) (.int .u64 0)
          have k9 := k8.setTo (cs' := #[.string ⟨#[]⟩, .int .i64 0, .int .i64 0, .int .i64 0, .int .i64 0, .int .i64 0, .int .i64 0, .int .u64 0, .int .u64 0, .int .u32 0, .int .u64 0, .bool false]) 8 (.int .u64 0) rfl
          have m9 := m8.setCell (p := ⟨w.heap.size + 1, 8, none⟩) (by simp) (.int .u64 0)
          have k10 := k9.setTo (cs' := #[.string ⟨#[]⟩, .int .i64 0, .int .i64 0, .int .i64 0, .int .i64 0, .int .i64 0, .int .i64 0, .int .u64 0, .int .u64 0, .int .u32 0, .int .u64 0, .bool false]) 9 (.int .u32 0) rfl
          have m10 := m9.setCell (p := ⟨w.heap.size + 1, 9, none⟩) (by simp) (.int .u32 0)
          have k11 := k10.setTo (cs' := #[.string ⟨#[]⟩, .int .i64 0, .int .i64 0, .int .i64 0, .int .i64 0, .int .i64 0, .int .i64 0, .int .u64 0, .int .u64 0, .int .u32 0, .int .u64 0, .bool false]) 10 (.int .u64 0) rfl
          have m11 := m10.setCell (p := ⟨w.heap.size + 1, 10, none⟩) (by simp) (.int .u64 0)
          have k12 := k11.setTo (cs' := #[.string ⟨#[]⟩, .int .i64 0, .int .i64 0, .int .i64 0, .int .i64 0, .int .i64 0, .int .i64 0, .int .u64 0, .int .u64 0, .int .u32 0, .int .u64 0, .bool false]) 11 (.bool false) rfl
          have m12 := m11.setCell (p := ⟨w.heap.size + 1, 11, none⟩) (by simp) (.bool false)
          obtain ⟨Wf, hWf⟩ : ∃ Wf, Wf = (((((((((((((f u4).setCell ⟨w.heap.size + 1, 0, none⟩ (.string ⟨#[]⟩)).setCell ⟨w.heap.size + 1, 1, none⟩ (.int .i64 0)).setCell ⟨w.heap.size + 1, 2, none⟩ (.int .i64 0)).setCell ⟨w.heap.size + 1, 3, none⟩ (.int .i64 0)).setCell ⟨w.heap.size + 1, 4, none⟩ (.int .i64 0)).setCell ⟨w.heap.size + 1, 5, none⟩ (.int .i64 0)).setCell ⟨w.heap.size + 1, 6, none⟩ (.int .i64 0)).setCell ⟨w.heap.size + 1, 7, none⟩ (.int .u64 0)).setCell ⟨w.heap.size + 1, 8, none⟩ (.int .u64 0)).setCell ⟨w.heap.size + 1, 9, none⟩ (.int .u32 0)).setCell ⟨w.heap.size + 1, 10, none⟩ (.int .u64 0)).setCell ⟨w.heap.size + 1, 11, none⟩ (.bool false)) := ⟨_, rfl⟩
          rw [← hWf] at k12 m12 ⊢
          exact bodyPost_ret (v := .tuple #[zeroH.val, .int .i64 (-1)]) (results_cell_tmp Tryd.results33 _ _ (w.heap.size + 1) 32 _ _ _ rfl rfl k12 Tryd.underlying32 rfl (by kernel_rfl)) rfl ⟨by rw [HR.out], m12⟩
        | true =>
          have H5 := Lib.hid h5
          have q4 := (KC.out u4).cell 4
          simp at q4
          clear h5
          rcases hfid with rfl | rfl
          all_goals
            go_wp2_with fail
            refine (HW Bh s nm _ _ w (f u4) hs (by omega) hT (HE.out u4) hBw hb4).mono ?_
            rintro e w5 ⟨rfl, hb5, hbl5⟩
            obtain ⟨u5, rfl⟩ := HU.out.all w5 ((HU.out.below u4).trans (hbl5.mono hBw2))
            have HTD : Hid (toldH F s = F.raw s nm (tellT s F.flags) (tellK s F.flags)) := Lib.hid (by rw [HNM.out]; rfl)
            have HWT : Hid (wantS F s = F.str (F.raw s nm (tellT s F.flags) (tellK s F.flags))) := Lib.hid (by rw [HNM.out]; rfl)
            generalize F.raw s nm (tellT s F.flags) (tellK s F.flags) = TH at *
            generalize F.str TH = wt at *
            have q1 := (KC.out u5).cell 1
            simp at q1
            clear hbl5 hb4 q4
            by_cases e0 : wt.size = 0
            · have HR := Lib.hid (readG_not HR0.out H23.out H5.out (.inl (by rw [HWT.out]; exact e0)))
              have te : wt.toList.isEmpty = true := isE0 wt e0
              clear e0
              have z0 := (KZ.out u5).cell 0
              have z1 := (KZ.out u5).cell 1
              have z2 := (KZ.out u5).cell 2
              have z3 := (KZ.out u5).cell 3
              have z4 := (KZ.out u5).cell 4
              have z5 := (KZ.out u5).cell 5
              have z6 := (KZ.out u5).cell 6
              have z7 := (KZ.out u5).cell 7
              have z8 := (KZ.out u5).cell 8
              have z9 := (KZ.out u5).cell 9
              have z10 := (KZ.out u5).cell 10
              have z11 := (KZ.out u5).cell 11
              have f0 := (KZ.out u5).frozen
              simp at z0 z1 z2 z3 z4 z5 z6 z7 z8 z9 z10 z11
              go_wp2_with fail
              have k0 := KZ.out u5
              have m0 := HE.out u5
              have k1 := k0.setTo (cs' := #[.string ⟨#[]⟩, .int .i64 0, .int .i64 0, .int .i64 0, .int .i64 0, .int .i64 0, .int .i64 0, .int .u64 0, .int .u64 0, .int .u32 0, .int .u64 0, .bool false]) 0 (.string ⟨#[]⟩) rfl
              have m1 := m0.setCell (p := ⟨w.heap.size + 1, 0, none⟩) (by simp) (.string ⟨#[]⟩)
              have k2 := k1.setTo (cs' := #[.string ⟨#[]⟩, .int .i64 0, .int .i64 0, .int .i64 0, .int .i64 0, .int .i64 0, .int .i64 0, .int .u64 0, .int .u64 0, .int .u32 0, .int .u64 0, .bool false]) 1 (.int .i64 0) rfl
              have m2 := m1.setCell (p := ⟨w.heap.size + 1, 1, none⟩) (by simp) (.int .i64 0)
              have k3 := k2.setTo (cs' := #[.string ⟨#[]⟩, .int .i64 0, .int .i64 0, .int .i64 0, .int .i64 0, .int .i64 0, .int .i64 0, .int .u64 0, .int .u64 0, .int .u32 0, .int .u64 0, .bool false]) 2 (.int .i64 0) rfl
              have m3 := m2.setCell (p := ⟨w.heap.size + 1, 2, none⟩) (by simp) (.int .i64 0)
              have k4 := k3.setTo (cs' := #[.string ⟨#[]⟩, .int .i64 0, .int .i64 0, .int .i64 0, .int .i64 0, .int .i64 0, .int .i64 0, .int .u64 0, .int .u64 0, .int .u32 0, .int .u64 0, .bool false]) 3 (.int .i64 0) rfl
              have m4 := m3.setCell (p := ⟨w.heap.size + 1, 3, none⟩) (by simp) (.int .i64 0)
              have k5 := k4.setTo (cs' := #[.string ⟨#[]⟩, .int .i64 0, .int .i64 0, .int .i64 0, .int .i64 0, .int .i64 0, .int .i64 0, .int .u64 0, .int .u64 0, .int .u32 0, .int .u64 0, .bool false]) 4 (.int .i64 0) rfl
              have m5 := m4.setCell (p := ⟨w.heap.size + 1, 4, none⟩) (by simp) (.int .i64 0)
              have k6 := k5.setTo (cs' := #[.string ⟨#[]⟩, .int .i64 0, .int .i64 0, .int .i64 0, .int .i64 0, .int .i64 0, .int .i64 0, .int .u64 0, .int .u64 0, .int .u32 0, .int .u64 0, .bool false]) 5 (.int .i64 0) rfl
              have m6 := m5.setCell (p := ⟨w.heap.size + 1, 5, none⟩) (by simp) (.int .i64 0)
              have k7 := k6.setTo (cs' := #[.string ⟨#[]⟩, .int .i64 0, .int .i64 0, .int .i64 0, .int .i64 0, .int .i64 0, .int .i64 0, .int .u64 0, .int .u64 0, .int .u32 0, .int .u64 0, .bool false]) 6 (.int .i64 0) rfl
              have m7 := m6.setCell (p := ⟨w.heap.size + 1, 6, none⟩) (by simp) (.int .i64 0)
              have k8 := k7.setTo (cs' := #[.string ⟨#[]⟩, .int .i64 0, .int .i64 0, .int .i64 0, .int .i64 0, .int .i64 0, .int .i64 0, .int .u64 0, .int .u64 0, .int .u32 0, .int .u64 0, .bool false]) 7 (.int .u64 0) rfl
              have m8 := m7.setCell (p := ⟨w.heap.size + 1, 7, none⟩) (by simp) (.int .u64 0)
              have k9 := k8.setTo (cs' := #[.string ⟨#[]⟩, .int .i64 0, .int .i64 0, .int .i64 0, .int .i64 0, .int .i64 0, .int .i64 0, .int .u64 0, .int .u64 0, .int .u32 0, .int .u64 0, .bool false]) 8 (.int .u64 0) rfl
              have m9 := m8.setCell (p := ⟨w.heap.size + 1, 8, none⟩) (by simp) (.int .u64 0)
              have k10 := k9.setTo (cs' := #[.string ⟨#[]⟩, .int .i64 0, .int .i64 0, .int .i64 0, .int .i64 0, .int .i64 0, .int .i64 0, .int .u64 0, .int .u64 0, .int .u32 0, .int .u64 0, .bool false]) 9 (.int .u32 0) rfl
              have m10 := m9.setCell (p := ⟨w.heap.size + 1, 9, none⟩) (by simp) (.int .u32 0)
              have k11 := k10.setTo (cs' := #[.string ⟨#[]⟩, .int .i64 0, .int .i64 0, .int .i64 0, .int .i64 0, .int .i64 0, .int .i64 0, .int .u64 0, .int .u64 0, .int .u32 0, .int .u64 0, .bool false]) 10 (.int .u64 0) rfl
              have m11 := m10.setCell (p := ⟨w.heap.size + 1, 10, none⟩) (by simp) (.int .u64 0)
              have k12 := k11.setTo (cs' := #[.string ⟨#[]⟩, .int .i64 0, .int .i64 0, .int .i64 0, .int .i64 0, .int .i64 0, .int .i64 0, .int .u64 0, .int .u64 0, .int .u32 0, .int .u64 0, .bool false]) 11 (.bool false) rfl
              have m12 := m11.setCell (p := ⟨w.heap.size + 1, 11, none⟩) (by simp) (.bool false)
              obtain ⟨Wf, hWf⟩ : ∃ Wf, Wf = (((((((((((((f u5).setCell ⟨w.heap.size + 1, 0, none⟩ (.string ⟨#[]⟩)).setCell ⟨w.heap.size + 1, 1, none⟩ (.int .i64 0)).setCell ⟨w.heap.size + 1, 2, none⟩ (.int .i64 0)).setCell ⟨w.heap.size + 1, 3, none⟩ (.int .i64 0)).setCell ⟨w.heap.size + 1, 4, none⟩ (.int .i64 0)).setCell ⟨w.heap.size + 1, 5, none⟩ (.int .i64 0)).setCell ⟨w.heap.size + 1, 6, none⟩ (.int .i64 0)).setCell ⟨w.heap.size + 1, 7, none⟩ (.int .u64 0)).setCell ⟨w.heap.size + 1, 8, none⟩ (.int .u64 0)).setCell ⟨w.heap.size + 1, 9, none⟩ (.int .u32 0)).setCell ⟨w.heap.size + 1, 10, none⟩ (.int .u64 0)).setCell ⟨w.heap.size + 1, 11, none⟩ (.bool false)) := ⟨_, rfl⟩
              rw [← hWf] at k12 m12 ⊢
              exact bodyPost_ret (v := .tuple #[zeroH.val, .int .i64 (-1)]) (results_cell_tmp Tryd.results33 _ _ (w.heap.size + 1) 32 _ _ _ rfl rfl k12 Tryd.underlying32 rfl (by kernel_rfl)) rfl ⟨by rw [HR.out], m12⟩
            · have te : wt.toList.isEmpty = false := isE wt (by omega)
              by_cases e1 : wt.size = F.size + nameN F s + extraN F s
              · have tl : ((wt.size : Int) != (F.size : Int) + (nameN F s : Int) + (extraN F s : Int)) = false := by rw [bne_eq_false_iff_eq]; omega
                cases e2 : Lib.hasPrefix s.data.toList wt.data.toList with
                | false =>
                  have HR := Lib.hid (readG_not HR0.out H23.out H5.out (.inr (.inr (by rw [HWT.out]; exact e2))))
                  clear e0 e1
                  have z0 := (KZ.out u5).cell 0
                  have z1 := (KZ.out u5).cell 1
                  have z2 := (KZ.out u5).cell 2
                  have z3 := (KZ.out u5).cell 3
                  have z4 := (KZ.out u5).cell 4
                  have z5 := (KZ.out u5).cell 5
                  have z6 := (KZ.out u5).cell 6
                  have z7 := (KZ.out u5).cell 7
                  have z8 := (KZ.out u5).cell 8
                  have z9 := (KZ.out u5).cell 9
                  have z10 := (KZ.out u5).cell 10
                  have z11 := (KZ.out u5).cell 11
                  have f0 := (KZ.out u5).frozen
                  simp at z0 z1 z2 z3 z4 z5 z6 z7 z8 z9 z10 z11
                  go_wp2_with (first | (go_at_call 44; refine (Tryd.strings_HasPrefix _ _ _).mono ?_; rintro e w' ⟨rfl, hw⟩; obtain rfl := hw))
                  have k0 := KZ.out u5
                  have m0 := HE.out u5
                  have k1 := k0.setTo (cs' := #[.string ⟨#[]⟩, .int .i64 0, .int .i64 0, .int .i64 0, .int .i64 0, .int .i64 0, .int .i64 0, .int .u64 0, .int .u64 0, .int .u32 0, .int .u64 0, .bool false]) 0 (.string ⟨#[]⟩) rfl
                  have m1 := m0.setCell (p := ⟨w.heap.size + 1, 0, none⟩) (by simp) (.string ⟨#[]⟩)
                  have k2 := k1.setTo (cs' := #[.string ⟨#[]⟩, .int .i64 0, .int .i64 0, .int .i64 0, .int .i64 0, .int .i64 0, .int .i64 0, .int .u64 0, .int .u64 0, .int .u32 0, .int .u64 0, .bool false]) 1 (.int .i64 0) rfl
                  have m2 := m1.setCell (p := ⟨w.heap.size + 1, 1, none⟩) (by simp) (.int .i64 0)
                  have k3 := k2.setTo (cs' := #[.string ⟨#[]⟩, .int .i64 0, .int .i64 0, .int .i64 0, .int .i64 0, .int .i64 0, .int .i64 0, .int .u64 0, .int .u64 0, .int .u32 0, .int .u64 0, .bool false]) 2 (.int .i64 0) rfl
                  have m3 := m2.setCell (p := ⟨w.heap.size + 1, 2, none⟩) (by simp) (.int .i64 0)
                  have k4 := k3.setTo (cs' := #[.string ⟨#[]⟩, .int .i64 0, .int .i64 0, .int .i64 0, .int .i64 0, .int .i64 0, .int .i64 0, .int .u64 0, .int .u64 0, .int .u32 0, .int .u64 0, .bool false]) 3 (.int .i64 0) rfl
                  have m4 := m3.setCell (p := ⟨w.heap.size + 1, 3, none⟩) (by simp) (.int .i64 0)
                  have k5 := k4.setTo (cs' := #[.string ⟨#[]⟩, .int .i64 0, .int .i64 0, .int .i64 0, .int .i64 0, .int .i64 0, .int .i64 0, .int .u64 0, .int .u64 0, .int .u32 0, .int .u64 0, .bool false]) 4 (.int .i64 0) rfl
                  have m5 := m4.setCell (p := ⟨w.heap.size + 1, 4, none⟩) (by simp) (.int .i64 0)
                  have k6 := k5.setTo (cs' := #[.string ⟨#[]⟩, .int .i64 0, .int .i64 0, .int .i64 0, .int .i64 0, .int .i64 0, .int .i64 0, .int .u64 0, .int .u64 0, .int .u32 0, .int .u64 0, .bool false]) 5 (.int .i64 0) rfl
                  have m6 := m5.setCell (p := ⟨w.heap.size + 1, 5, none⟩) (by simp) (.int .i64 0)
                  have k7 := k6.setTo (cs' := #[.string ⟨#[]⟩, .int .i64 0, .int .i64 0, .int .i64 0, .int .i64 0, .int .i64 0, .int .i64 0, .int .u64 0, .int .u64 0, .int .u32 0, .int .u64 0, .bool false]) 6 (.int .i64 0) rfl
                  have m7 := m6.setCell (p := ⟨w.heap.size + 1, 6, none⟩) (by simp) (.int .i64 0)
                  have k8 := k7.setTo (cs' := #[.string ⟨#[]⟩, .int .i64 0, .int .i64 0, .int .i64 0, .int .i64 0, .int .i64 0, .int .i64 0, .int .u64 0, .int .u64 0, .int .u32 0, .int .u64 0, .bool false]) 7 (.int .u64 0) rfl
                  have m8 := m7.setCell (p := ⟨w.heap.size + 1, 7, none⟩) (by simp) (.int .u64 0)
                  have k9 := k8.setTo (cs' := #[.string ⟨#[]⟩, .int .i64 0, .int .i64 0, .int .i64 0, .int .i64 0, .int .i64 0, .int .i64 0, .int .u64 0, .int .u64 0, .int .u32 0, .int .u64 0, .bool false]) 8 (.int .u64 0) rfl
                  have m9 := m8.setCell (p := ⟨w.heap.size + 1, 8, none⟩) (by simp) (.int .u64 0)
                  have k10 := k9.setTo (cs' := #[.string ⟨#[]⟩, .int .i64 0, .int .i64 0, .int .i64 0, .int .i64 0, .int .i64 0, .int .i64 0, .int .u64 0, .int .u64 0, .int .u32 0, .int .u64 0, .bool false]) 9 (.int .u32 0) rfl
                  have m10 := m9.setCell (p := ⟨w.heap.size + 1, 9, none⟩) (by simp) (.int .u32 0)
                  have k11 := k10.setTo (cs' := #[.string ⟨#[]⟩, .int .i64 0, .int .i64 0, .int .i64 0, .int .i64 0, .int .i64 0, .int .i64 0, .int .u64 0, .int .u64 0, .int .u32 0, .int .u64 0, .bool false]) 10 (.int .u64 0) rfl
                  have m11 := m10.setCell (p := ⟨w.heap.size + 1, 10, none⟩) (by simp) (.int .u64 0)
                  have k12 := k11.setTo (cs' := #[.string ⟨#[]⟩, .int .i64 0, .int .i64 0, .int .i64 0, .int .i64 0, .int .i64 0, .int .i64 0, .int .u64 0, .int .u64 0, .int .u32 0, .int .u64 0, .bool false]) 11 (.bool false) rfl
                  have m12 := m11.setCell (p := ⟨w.heap.size + 1, 11, none⟩) (by simp) (.bool false)
                  obtain ⟨Wf, hWf⟩ : ∃ Wf, Wf = (((((((((((((f u5).setCell ⟨w.heap.size + 1, 0, none⟩ (.string ⟨#[]⟩)).setCell ⟨w.heap.size + 1, 1, none⟩ (.int .i64 0)).setCell ⟨w.heap.size + 1, 2, none⟩ (.int .i64 0)).setCell ⟨w.heap.size + 1, 3, none⟩ (.int .i64 0)).setCell ⟨w.heap.size + 1, 4, none⟩ (.int .i64 0)).setCell ⟨w.heap.size + 1, 5, none⟩ (.int .i64 0)).setCell ⟨w.heap.size + 1, 6, none⟩ (.int .i64 0)).setCell ⟨w.heap.size + 1, 7, none⟩ (.int .u64 0)).setCell ⟨w.heap.size + 1, 8, none⟩ (.int .u64 0)).setCell ⟨w.heap.size + 1, 9, none⟩ (.int .u32 0)).setCell ⟨w.heap.size + 1, 10, none⟩ (.int .u64 0)).setCell ⟨w.heap.size + 1, 11, none⟩ (.bool false)) := ⟨_, rfl⟩
                  rw [← hWf] at k12 m12 ⊢
                  exact bodyPost_ret (v := .tuple #[zeroH.val, .int .i64 (-1)]) (results_cell_tmp Tryd.results33 _ _ (w.heap.size + 1) 32 _ _ _ rfl rfl k12 Tryd.underlying32 rfl (by kernel_rfl)) rfl ⟨by rw [HR.out], m12⟩
                | true =>
                  have HR := Lib.hid (readG_yes HR0.out H23.out H5.out (by rw [HWT.out]; rintro (h | h | h); exact e0 h; exact h e1; rw [e2] at h; cases h))
                  rw [HTD.out, HWT.out] at HR
                  clear e0 e1
                  obtain ⟨tn, ⟨ty, tmo, td, thh, tmi, tsc⟩, tp, tz, tu, ta, tk⟩ := TH
                  simp only [hdC] at hb5
                  have y0 := hb5.cell 0
                  have y1 := hb5.cell 1
                  have y2 := hb5.cell 2
                  have y3 := hb5.cell 3
                  have y4 := hb5.cell 4
                  have y5 := hb5.cell 5
                  have y6 := hb5.cell 6
                  have y7 := hb5.cell 7
                  have y8 := hb5.cell 8
                  have y9 := hb5.cell 9
                  have y10 := hb5.cell 10
                  have y11 := hb5.cell 11
                  simp at y0 y1 y2 y3 y4 y5 y6 y7 y8 y9 y10 y11
                  have z0 := (KZ.out u5).cell 0
                  have z1 := (KZ.out u5).cell 1
                  have z2 := (KZ.out u5).cell 2
                  have z3 := (KZ.out u5).cell 3
                  have z4 := (KZ.out u5).cell 4
                  have z5 := (KZ.out u5).cell 5
                  have z6 := (KZ.out u5).cell 6
                  have z7 := (KZ.out u5).cell 7
                  have z8 := (KZ.out u5).cell 8
                  have z9 := (KZ.out u5).cell 9
                  have z10 := (KZ.out u5).cell 10
                  have z11 := (KZ.out u5).cell 11
                  have f0 := (KZ.out u5).frozen
                  simp at z0 z1 z2 z3 z4 z5 z6 z7 z8 z9 z10 z11
                  have hnB : ¬ Bh = w.heap.size + 1 := by have h := (KZ.out u0).lt; rw [← hu0] at h; omega
                  go_wp2_with (first | (go_at_call 44; refine (Tryd.strings_HasPrefix _ _ _).mono ?_; rintro e w' ⟨rfl, hw⟩; obtain rfl := hw))
                  have k0 := KZ.out u5
                  have m0 := HE.out u5
                  have k1 := k0.setTo (cs' := #[.string tn, .int .i64 0, .int .i64 0, .int .i64 0, .int .i64 0, .int .i64 0, .int .i64 0, .int .u64 0, .int .u64 0, .int .u32 0, .int .u64 0, .bool false]) 0 (.string tn) rfl
                  have m1 := m0.setCell (p := ⟨w.heap.size + 1, 0, none⟩) (by simp) (.string tn)
                  have k2 := k1.setTo (cs' := #[.string tn, .int .i64 ty, .int .i64 0, .int .i64 0, .int .i64 0, .int .i64 0, .int .i64 0, .int .u64 0, .int .u64 0, .int .u32 0, .int .u64 0, .bool false]) 1 (.int .i64 ty) rfl
                  have m2 := m1.setCell (p := ⟨w.heap.size + 1, 1, none⟩) (by simp) (.int .i64 ty)
                  have k3 := k2.setTo (cs' := #[.string tn, .int .i64 ty, .int .i64 tmo, .int .i64 0, .int .i64 0, .int .i64 0, .int .i64 0, .int .u64 0, .int .u64 0, .int .u32 0, .int .u64 0, .bool false]) 2 (.int .i64 tmo) rfl
                  have m3 := m2.setCell (p := ⟨w.heap.size + 1, 2, none⟩) (by simp) (.int .i64 tmo)
                  have k4 := k3.setTo (cs' := #[.string tn, .int .i64 ty, .int .i64 tmo, .int .i64 td, .int .i64 0, .int .i64 0, .int .i64 0, .int .u64 0, .int .u64 0, .int .u32 0, .int .u64 0, .bool false]) 3 (.int .i64 td) rfl
                  have m4 := m3.setCell (p := ⟨w.heap.size + 1, 3, none⟩) (by simp) (.int .i64 td)
                  have k5 := k4.setTo (cs' := #[.string tn, .int .i64 ty, .int .i64 tmo, .int .i64 td, .int .i64 thh, .int .i64 0, .int .i64 0, .int .u64 0, .int .u64 0, .int .u32 0, .int .u64 0, .bool false]) 4 (.int .i64 thh) rfl
                  have m5 := m4.setCell (p := ⟨w.heap.size + 1, 4, none⟩) (by simp) (.int .i64 thh)
                  have k6 := k5.setTo (cs' := #[.string tn, .int .i64 ty, .int .i64 tmo, .int .i64 td, .int .i64 thh, .int .i64 tmi, .int .i64 0, .int .u64 0, .int .u64 0, .int .u32 0, .int .u64 0, .bool false]) 5 (.int .i64 tmi) rfl
                  have m6 := m5.setCell (p := ⟨w.heap.size + 1, 5, none⟩) (by simp) (.int .i64 tmi)
                  have k7 := k6.setTo (cs' := #[.string tn, .int .i64 ty, .int .i64 tmo, .int .i64 td, .int .i64 thh, .int .i64 tmi, .int .i64 tsc, .int .u64 0, .int .u64 0, .int .u32 0, .int .u64 0, .bool false]) 6 (.int .i64 tsc) rfl
                  have m7 := m6.setCell (p := ⟨w.heap.size + 1, 6, none⟩) (by simp) (.int .i64 tsc)
                  have k8 := k7.setTo (cs' := #[.string tn, .int .i64 ty, .int .i64 tmo, .int .i64 td, .int .i64 thh, .int .i64 tmi, .int .i64 tsc, .int .u64 tp, .int .u64 0, .int .u32 0, .int .u64 0, .bool false]) 7 (.int .u64 tp) rfl
                  have m8 := m7.setCell (p := ⟨w.heap.size + 1, 7, none⟩) (by simp) (.int .u64 tp)
                  have k9 := k8.setTo (cs' := #[.string tn, .int .i64 ty, .int .i64 tmo, .int .i64 td, .int .i64 thh, .int .i64 tmi, .int .i64 tsc, .int .u64 tp, .int .u64 tz, .int .u32 0, .int .u64 0, .bool false]) 8 (.int .u64 tz) rfl
                  have m9 := m8.setCell (p := ⟨w.heap.size + 1, 8, none⟩) (by simp) (.int .u64 tz)
                  have k10 := k9.setTo (cs' := #[.string tn, .int .i64 ty, .int .i64 tmo, .int .i64 td, .int .i64 thh, .int .i64 tmi, .int .i64 tsc, .int .u64 tp, .int .u64 tz, .int .u32 tu, .int .u64 0, .bool false]) 9 (.int .u32 tu) rfl
                  have m10 := m9.setCell (p := ⟨w.heap.size + 1, 9, none⟩) (by simp) (.int .u32 tu)
                  have k11 := k10.setTo (cs' := #[.string tn, .int .i64 ty, .int .i64 tmo, .int .i64 td, .int .i64 thh, .int .i64 tmi, .int .i64 tsc, .int .u64 tp, .int .u64 tz, .int .u32 tu, .int .u64 ta, .bool false]) 10 (.int .u64 ta) rfl
                  have m11 := m10.setCell (p := ⟨w.heap.size + 1, 10, none⟩) (by simp) (.int .u64 ta)
                  have k12 := k11.setTo (cs' := #[.string tn, .int .i64 ty, .int .i64 tmo, .int .i64 td, .int .i64 thh, .int .i64 tmi, .int .i64 tsc, .int .u64 tp, .int .u64 tz, .int .u32 tu, .int .u64 ta, .bool tk]) 11 (.bool tk) rfl
                  have m12 := m11.setCell (p := ⟨w.heap.size + 1, 11, none⟩) (by simp) (.bool tk)
                  obtain ⟨Wf, hWf⟩ : ∃ Wf, Wf = (((((((((((((f u5).setCell ⟨w.heap.size + 1, 0, none⟩ (.string tn)).setCell ⟨w.heap.size + 1, 1, none⟩ (.int .i64 ty)).setCell ⟨w.heap.size + 1, 2, none⟩ (.int .i64 tmo)).setCell ⟨w.heap.size + 1, 3, none⟩ (.int .i64 td)).setCell ⟨w.heap.size + 1, 4, none⟩ (.int .i64 thh)).setCell ⟨w.heap.size + 1, 5, none⟩ (.int .i64 tmi)).setCell ⟨w.heap.size + 1, 6, none⟩ (.int .i64 tsc)).setCell ⟨w.heap.size + 1, 7, none⟩ (.int .u64 tp)).setCell ⟨w.heap.size + 1, 8, none⟩ (.int .u64 tz)).setCell ⟨w.heap.size + 1, 9, none⟩ (.int .u32 tu)).setCell ⟨w.heap.size + 1, 10, none⟩ (.int .u64 ta)).setCell ⟨w.heap.size + 1, 11, none⟩ (.bool tk)) := ⟨_, rfl⟩
                  rw [← hWf] at k12 m12 ⊢
                  exact bodyPost_ret (v := .tuple #[(Hd.val ⟨tn, ⟨ty, tmo, td, thh, tmi, tsc⟩, tp, tz, tu, ta, tk⟩), .int .i64 (wt.size)]) (results_cell_tmp Tryd.results33 _ _ (w.heap.size + 1) 32 _ _ _ rfl rfl k12 Tryd.underlying32 rfl (by kernel_rfl)) rfl ⟨by rw [HR.out], m12⟩
              · have tl : ((wt.size : Int) != (F.size : Int) + (nameN F s : Int) + (extraN F s : Int)) = true := by rw [bne_iff_ne]; omega
                have HR := Lib.hid (readG_not HR0.out H23.out H5.out (.inr (.inl (by rw [HWT.out]; exact e1))))
                clear e0 e1
                have z0 := (KZ.out u5).cell 0
                have z1 := (KZ.out u5).cell 1
                have z2 := (KZ.out u5).cell 2
                have z3 := (KZ.out u5).cell 3
                have z4 := (KZ.out u5).cell 4
                have z5 := (KZ.out u5).cell 5
                have z6 := (KZ.out u5).cell 6
                have z7 := (KZ.out u5).cell 7
                have z8 := (KZ.out u5).cell 8
                have z9 := (KZ.out u5).cell 9
                have z10 := (KZ.out u5).cell 10
                have z11 := (KZ.out u5).cell 11
                have f0 := (KZ.out u5).frozen
                simp at z0 z1 z2 z3 z4 z5 z6 z7 z8 z9 z10 z11
                go_wp2_with fail
                have k0 := KZ.out u5
                have m0 := HE.out u5
                have k1 := k0.setTo (cs' := #[.string ⟨#[]⟩, .int .i64 0, .int .i64 0, .int .i64 0, .int .i64 0, .int .i64 0, .int .i64 0, .int .u64 0, .int .u64 0, .int .u32 0, .int .u64 0, .bool false]) 0 (.string ⟨#[]⟩) rfl
                have m1 := m0.setCell (p := ⟨w.heap.size + 1, 0, none⟩) (by simp) (.string ⟨#[]⟩)
                have k2 := k1.setTo (cs' := #[.string ⟨#[]⟩, .int .i64 0, .int .i64 0, .int .i64 0, .int .i64 0, .int .i64 0, .int .i64 0, .int .u64 0, .int .u64 0, .int .u32 0, .int .u64 0, .bool false]) 1 (.int .i64 0) rfl
                have m2 := m1.setCell (p := ⟨w.heap.size + 1, 1, none⟩) (by simp) (.int .i64 0)
                have k3 := k2.setTo (cs' := #[.string ⟨#[]⟩, .int .i64 0, .int .i64 0, .int .i64 0, .int .i64 0, .int .i64 0, .int .i64 0, .int .u64 0, .int .u64 0, .int .u32 0, .int .u64 0, .bool false]) 2 (.int .i64 0) rfl
                have m3 := m2.setCell (p := ⟨w.heap.size + 1, 2, none⟩) (by simp) (.int .i64 0)
                have k4 := k3.setTo (cs' := #[.string ⟨#[]⟩, .int .i64 0, .int .i64 0, .int .i64 0, .int .i64 0, .int .i64 0, .int .i64 0, .int .u64 0, .int .u64 0, .int .u32 0, .int .u64 0, .bool false]) 3 (.int .i64 0) rfl
                have m4 := m3.setCell (p := ⟨w.heap.size + 1, 3, none⟩) (by simp) (.int .i64 0)
                have k5 := k4.setTo (cs' := #[.string ⟨#[]⟩, .int .i64 0, .int .i64 0, .int .i64 0, .int .i64 0, .int .i64 0, .int .i64 0, .int .u64 0, .int .u64 0, .int .u32 0, .int .u64 0, .bool false]) 4 (.int .i64 0) rfl
                have m5 := m4.setCell (p := ⟨w.heap.size + 1, 4, none⟩) (by simp) (.int .i64 0)
                have k6 := k5.setTo (cs' := #[.string ⟨#[]⟩, .int .i64 0, .int .i64 0, .int .i64 0, .int .i64 0, .int .i64 0, .int .i64 0, .int .u64 0, .int .u64 0, .int .u32 0, .int .u64 0, .bool false]) 5 (.int .i64 0) rfl
                have m6 := m5.setCell (p := ⟨w.heap.size + 1, 5, none⟩) (by simp) (.int .i64 0)
                have k7 := k6.setTo (cs' := #[.string ⟨#[]⟩, .int .i64 0, .int .i64 0, .int .i64 0, .int .i64 0, .int .i64 0, .int .i64 0, .int .u64 0, .int .u64 0, .int .u32 0, .int .u64 0, .bool false]) 6 (.int .i64 0) rfl
                have m7 := m6.setCell (p := ⟨w.heap.size + 1, 6, none⟩) (by simp) (.int .i64 0)
                have k8 := k7.setTo (cs' := #[.string ⟨#[]⟩, .int .i64 0, .int .i64 0, .int .i64 0, .int .i64 0, .int .i64 0, .int .i64 0, .int .u64 0, .int .u64 0, .int .u32 0, .int .u64 0, .bool false]) 7 (.int .u64 0) rfl
                have m8 := m7.setCell (p := ⟨w.heap.size + 1, 7, none⟩) (by simp) (.int .u64 0)
                have k9 := k8.setTo (cs' := #[.string ⟨#[]⟩, .int .i64 0, .int .i64 0, .int .i64 0, .int .i64 0, .int .i64 0, .int .i64 0, .int .u64 0, .int .u64 0, .int .u32 0, .int .u64 0, .bool false]) 8 (.int .u64 0) rfl
                have m9 := m8.setCell (p := ⟨w.heap.size + 1, 8, none⟩) (by simp) (.int .u64 0)
                have k10 := k9.setTo (cs' := #[.string ⟨#[]⟩, .int .i64 0, .int .i64 0, .int .i64 0, .int .i64 0, .int .i64 0, .int .i64 0, .int .u64 0, .int .u64 0, .int .u32 0, .int .u64 0, .bool false]) 9 (.int .u32 0) rfl
                have m10 := m9.setCell (p := ⟨w.heap.size + 1, 9, none⟩) (by simp) (.int .u32 0)
                have k11 := k10.setTo (cs' := #[.string ⟨#[]⟩, .int .i64 0, .int .i64 0, .int .i64 0, .int .i64 0, .int .i64 0, .int .i64 0, .int .u64 0, .int .u64 0, .int .u32 0, .int .u64 0, .bool false]) 10 (.int .u64 0) rfl
                have m11 := m10.setCell (p := ⟨w.heap.size + 1, 10, none⟩) (by simp) (.int .u64 0)
                have k12 := k11.setTo (cs' := #[.string ⟨#[]⟩, .int .i64 0, .int .i64 0, .int .i64 0, .int .i64 0, .int .i64 0, .int .i64 0, .int .u64 0, .int .u64 0, .int .u32 0, .int .u64 0, .bool false]) 11 (.bool false) rfl
                have m12 := m11.setCell (p := ⟨w.heap.size + 1, 11, none⟩) (by simp) (.bool false)
                obtain ⟨Wf, hWf⟩ : ∃ Wf, Wf = (((((((((((((f u5).setCell ⟨w.heap.size + 1, 0, none⟩ (.string ⟨#[]⟩)).setCell ⟨w.heap.size + 1, 1, none⟩ (.int .i64 0)).setCell ⟨w.heap.size + 1, 2, none⟩ (.int .i64 0)).setCell ⟨w.heap.size + 1, 3, none⟩ (.int .i64 0)).setCell ⟨w.heap.size + 1, 4, none⟩ (.int .i64 0)).setCell ⟨w.heap.size + 1, 5, none⟩ (.int .i64 0)).setCell ⟨w.heap.size + 1, 6, none⟩ (.int .i64 0)).setCell ⟨w.heap.size + 1, 7, none⟩ (.int .u64 0)).setCell ⟨w.heap.size + 1, 8, none⟩ (.int .u64 0)).setCell ⟨w.heap.size + 1, 9, none⟩ (.int .u32 0)).setCell ⟨w.heap.size + 1, 10, none⟩ (.int .u64 0)).setCell ⟨w.heap.size + 1, 11, none⟩ (.bool false)) := ⟨_, rfl⟩
                rw [← hWf] at k12 m12 ⊢
                exact bodyPost_ret (v := .tuple #[zeroH.val, .int .i64 (-1)]) (results_cell_tmp Tryd.results33 _ _ (w.heap.size + 1) 32 _ _ _ rfl rfl k12 Tryd.underlying32 rfl (by kernel_rfl)) rfl ⟨by rw [HR.out], m12⟩
end Go.Proofs.YtehhoigedniglaaDoor.Zp
