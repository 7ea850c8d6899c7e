/-
  A header's size by its lengths: the reference's Size.
-/
import Derived.Test.YtehhoigedniglaaDoorZpRead
namespace Go.Proofs.YtehhoigedniglaaDoor.Zp
open Go.RowKit Go.Shelf Go.Proofs.YtehhoigedniglaaDoor.Nm
set_option linter.unusedVariables false
set_option linter.unusedSimpArgs false

def sizeG (F : Form) (s : ByteArray) : Int :=
  if sgnB s F.sign = false then -1
  else if s.size < F.size ∨ s.size < F.size + nameN F s + extraN F s then 0
  else ((F.size + nameN F s + extraN F s : Nat) : Int)

theorem extract_take0 (s : ByteArray) (n : Nat) : (s.extract 0 n).data.toList = s.data.toList.take n := by
  rw [ByteArray.data_extract, Array.toList_extract, List.extract_eq_take_drop]
  simp
theorem sgn_test (s sign : ByteArray) (h4 : sign.size = 4) : sgnB s sign = ((s.extract 0 (min s.size 4)).toList == (sign.extract 0 (min s.size 4)).toList) := by
  have hl : s.data.toList.length = s.size := rfl
  have hg : sign.data.toList.length = 4 := h4
  have e : partS sign 0 s.size = sign.extract 0 (min s.size 4) := by
    unfold partS
    rw [h4]
    congr 1 <;> omega
  unfold sgnB Lib.hasPrefix
  rw [e, Lib.toList_data, Lib.toList_data, extract_take0, extract_take0, Bool.eq_iff_iff, List.isPrefixOf_iff_prefix, List.prefix_iff_eq_take, List.length_take, hg, beq_iff_eq]
  have e2 : min (min s.size 4) 4 = min s.size 4 := by omega
  rw [e2]
  exact eq_comm
theorem part_ext (s : ByteArray) (l n : Nat) (h : l + n ≤ s.size) : partS s l n = s.extract l (l + n) := by
  unfold partS
  congr 1 <;> omega

set_option maxHeartbeats 1000000 in
set_option maxRecDepth 100000 in
theorem size_calls (F : Form) (s : ByteArray) (w : World) (hs : s.size ≤ 140737488351232) (hF : F.ok) (h4 : F.sign.size = 4) (hl : F.lengths + 4 ≤ F.size) :
    Calls Tryd.prog 18 #[.string s, .string F.sign, .int .i64 F.size, .int .i64 F.lengths] w fun e w' => e = .returned (.int .i64 (sizeG F s)) ∧ Below w.heap.size w w' := by
  obtain ⟨hg, hz, hl1, hfl⟩ := hF
  have HT := Lib.hid (sgn_test s F.sign h4)
  have N1 : nameN F s < 65536 := numS_2 s F.lengths
  have N2 : extraN F s < 65536 := numS_2 s (F.lengths + 2)
  obtain ⟨R, HR⟩ : ∃ R, R = sizeG F s := ⟨_, rfl⟩
  rw [← HR]
  unfold sizeG at HR
  have E1 := fun (h : F.size ≤ s.size) => show nameN F s = getS (s.extract F.lengths (F.lengths + 2)) by unfold nameN numS; rw [part_ext _ _ _ (by omega)]
  have E2 := fun (h : F.size ≤ s.size) => show extraN F s = getS (s.extract (F.lengths + 2) (F.lengths + 4)) by unfold extraN numS; rw [part_ext _ _ _ (by omega)]
  obtain ⟨⟨sz, ln, fl⟩, hsz⟩ : ∃ p : Nat × Nat × Nat, p = (F.size, F.lengths, F.flags) := ⟨_, rfl⟩
  simp only [Prod.mk.injEq] at hsz
  obtain ⟨a1, a2, a3⟩ := hsz
  rw [← a1] at hz hl HR E1 E2 ⊢
  rw [← a2] at hl hl1 E1 E2 ⊢
  clear a1 a2 a3 hfl
  generalize F.sign = sign at *
  generalize nameN F s = N at *
  generalize extraN F s = X at *
  obtain ⟨k, hk⟩ : ∃ k, k = min s.size 4 := ⟨_, rfl⟩
  have ek : min (s.size : Int) 4 = (k : Int) := by omega
  have k1 : k ≤ s.size := by omega
  have k2 : k ≤ sign.size := by omega
  rw [← hk] at HT
  clear hk
  cases h1 : sgnB s sign with
  | false =>
    rw [if_pos h1] at HR
    have H3 := Lib.hid HR
    have ht : ((s.extract 0 k).toList == (sign.extract 0 k).toList) = false := by rw [← HT.out, h1]
    clear HR h1 E1 E2
    go_enter Tryd.func18, Tryd.ntmps18
    go_wp2_with fail
    go_quiet (fail)
    go_wp2
    go_ret
    exact ⟨by rw [H3.out]; rfl, below_drewN' _ _⟩
  | true =>
    rw [if_neg (by rw [h1]; exact Bool.noConfusion)] at HR
    have ht : ((s.extract 0 k).toList == (sign.extract 0 k).toList) = true := by rw [← HT.out, h1]
    clear h1
    by_cases h2 : s.size < sz
    · rw [if_pos (.inl h2)] at HR
      have H3 := Lib.hid HR
      have q2 : decide ((s.size : Int) < (sz : Int)) = true := decide_eq_true (by omega)
      clear HR E1 E2
      go_enter Tryd.func18, Tryd.ntmps18
      go_wp2_with fail
      go_quiet (fail)
      go_wp2
      go_ret
      exact ⟨by rw [H3.out]; rfl, below_drewN' _ _⟩
    · have q2 : decide ((s.size : Int) < (sz : Int)) = false := decide_eq_false (by omega)
      have F1 := Lib.hid (E1 (by omega))
      have F2 := Lib.hid (E2 (by omega))
      clear E1 E2
      have l1 : ln + 4 ≤ s.size := by omega
      have i1 : (ln : Int) + 2 ≤ (s.size : Int) := by omega
      have i2 : (ln : Int) + 4 ≤ (s.size : Int) := by omega
      have t1 : ((ln : Int) + 2).toNat = ln + 2 := by omega
      have t2 : ((ln : Int) + 4).toNat = ln + 4 := by omega
      obtain ⟨XA, hXA⟩ : ∃ a, s.extract ln (ln + 2) = a := ⟨_, rfl⟩
      obtain ⟨XB, hXB⟩ : ∃ a, s.extract (ln + 2) (ln + 4) = a := ⟨_, rfl⟩
      have sA : XA.size ≤ s.size := by rw [← hXA, ByteArray.size_extract]; omega
      have sB : XB.size ≤ s.size := by rw [← hXB, ByteArray.size_extract]; omega
      rw [hXA] at F1
      rw [hXB] at F2
      have g1 : getS XA = N := F1.out.symm
      have g2 : getS XB = X := F2.out.symm
      by_cases h3 : s.size < sz + N + X
      · rw [if_pos (.inr h3)] at HR
        have H3 := Lib.hid HR
        have q3 : decide ((s.size : Int) < (sz : Int) + (N : Int) + (X : Int)) = true := decide_eq_true (by omega)
        clear HR
        go_enter Tryd.func18, Tryd.ntmps18
        go_wp2_with fail
        go_quiet (fail)
        have hbq : Hid (Below w.heap.size w (w.drewN nq)) := Lib.hid (below_drewN' _ _)
        generalize w.drewN nq = w2 at *
        go_wp2_with fail
        go_quiet (first | (go_at_call 35; refine (refget_calls _ _ (by omega)).mono ?_; rintro e w' ⟨rfl, rfl⟩; exact ⟨rfl, _, rfl⟩))
        go_wp2_with fail
        go_ret
        exact ⟨by rw [H3.out]; rfl, hbq.out.trans ((below_drewN' _ _).mono hbq.out.size)⟩
      · rw [if_neg (by omega)] at HR
        have H3 := Lib.hid HR
        have q3 : decide ((s.size : Int) < (sz : Int) + (N : Int) + (X : Int)) = false := decide_eq_false (by omega)
        clear HR
        go_enter Tryd.func18, Tryd.ntmps18
        go_wp2_with fail
        go_quiet (fail)
        have hbq : Hid (Below w.heap.size w (w.drewN nq)) := Lib.hid (below_drewN' _ _)
        generalize w.drewN nq = w2 at *
        go_wp2_with fail
        go_quiet (first | (go_at_call 35; refine (refget_calls _ _ (by omega)).mono ?_; rintro e w' ⟨rfl, rfl⟩; exact ⟨rfl, _, rfl⟩))
        go_wp2_with fail
        go_ret
        exact ⟨by rw [H3.out]; rfl, hbq.out.trans ((below_drewN' _ _).mono hbq.out.size)⟩
end Go.Proofs.YtehhoigedniglaaDoor.Zp
