/-
  A head's headers are read again, field by field: plain.
-/
import Derived.Test.YtehhoigedniglaaDoorZpBackLaw
namespace Go.Proofs.YtehhoigedniglaaDoor.Zp
open Go.RowKit Go.Shelf Go.Proofs.YtehhoigedniglaaDoor.Nm
set_option linter.unusedVariables false
set_option linter.unusedSimpArgs false

theorem check_size {s : ByteArray} (h : checkB s = true) : 1 ≤ s.size ∧ s.size ≤ 65535 := by
  unfold checkB at h
  simp only [Bool.and_eq_true, decide_eq_true_eq] at h
  exact ⟨h.1.1.1, h.1.1.2⟩
theorem flagI_lt (k p : Bool) : 0 ≤ flagI k p ∧ flagI k p < ((256 ^ 2 : Nat) : Int) := by cases k <;> cases p <;> decide
theorem methI_lt (k : Bool) : 0 ≤ methI k ∧ methI k < ((256 ^ 2 : Nat) : Int) := by cases k <;> decide
theorem zer12 : zer 12 = zer 4 ++ (zer 4 ++ zer 4) := by
  apply ByteArray.ext
  rfl
theorem full_get : getS ⟨#[255, 255, 255, 255]⟩ = 4294967295 := by decide +kernel
theorem zer_get : getS (zer 4) = 0 := by decide +kernel
theorem p2 : ((256 ^ 2 : Nat) : Int) = 65536 := by decide
theorem p4 : ((256 ^ 4 : Nat) : Int) = 4294967296 := by decide
theorem p8 : ((256 ^ 8 : Nat) : Int) = 18446744073709551616 := by decide
theorem zer_4 : (zer 4).size = 4 := rfl
theorem full_4 : (⟨#[255, 255, 255, 255]⟩ : ByteArray).size = 4 := rfl

theorem loc_told {h : Hd} (hg : goodH h = true) (more : ByteArray) :
    sgnB (locS h ++ more) locF.sign = true ∧ (locS h).size = locF.size + nameN locF (locS h ++ more) + extraN locF (locS h ++ more) ∧ tgood (rawT (locS h ++ more) locF.flags) = true ∧
    toldH locF (locS h ++ more) = ⟨h.name, h.t, 0, if bigH h then 4294967295 else 0, 0, 0, h.kept⟩ := by
  obtain ⟨gc, gt, -, -, -, -⟩ := goodH_parts hg
  have gn := check_size gc
  have fl := flagI_lt h.kept (plainB h.name)
  have ml := methI_lt h.kept
  have dl := dateN_lt (tgood_within gt)
  have tl := timeN_lt (tgood_within gt)
  obtain ⟨q0, q1, q2, x, tail, z0, z1, z2, zt, hx, hq, hjoin⟩ : ∃ (q0 q1 q2 : ByteArray) (x : Int) (tail : ByteArray), q0.size = 4 ∧ q1.size = 4 ∧ q2.size = 4 ∧ (tail.size : Int) = x ∧ (0 ≤ x ∧ x < 65536) ∧ getS q1 = (if bigH h then 4294967295 else 0) ∧
      locS h ++ more = joinB [⟨#[80, 75, 3, 4]⟩, verS (bigH h), puI (flagI h.kept (plainB h.name)) 2, puI (methI h.kept) 2, puI (timeN h.t) 2, puI (dateN h.t) 2, q0, q1, q2, puI h.name.size 2, puI x 2, h.name, tail, more] := by
    cases hb : bigH h with
    | true =>
      refine ⟨puI 0 4, ⟨#[255, 255, 255, 255]⟩, ⟨#[255, 255, 255, 255]⟩, 20, puI 1 2 ++ puI 16 2 ++ zer 16, puI_4 _, rfl, rfl, ?_, by decide, by rw [if_pos rfl]; exact full_get, ?_⟩
      · simp only [ByteArray.size_append, puI_2, zer_16]
        rfl
      · unfold locS comS
        rw [hg, hb, if_pos rfl, if_pos rfl]
        simp only [joinB, empR, ByteArray.append_assoc]
    | false =>
      refine ⟨zer 4, zer 4, zer 4, 0, ⟨#[]⟩, rfl, rfl, rfl, rfl, by decide, by rw [if_neg (by decide)]; exact zer_get, ?_⟩
      unfold locS comS
      rw [hg, hb, if_pos rfl, if_neg (by decide), zer12]
      simp only [joinB, empR, empL, ByteArray.append_assoc]
  have S := hjoin
  have sz : ∀ (b : Bool), (verS b).size = 2 := verS_size
  have m2 := num_join S 3 8 2 (methI h.kept) rfl (by simp only [List.take, sumS, sz, puI_2]; rfl) ml.1 ml.2 (by omega)
  have m4 := num_join S 4 10 2 (timeN h.t) rfl (by simp only [List.take, sumS, sz, puI_2]; rfl) tl.1 (by rw [p2]; exact tl.2) (by omega)
  have m6 := num_join S 5 12 2 (dateN h.t) rfl (by simp only [List.take, sumS, sz, puI_2]; rfl) dl.1 (by rw [p2]; exact dl.2) (by omega)
  have mq := num_join_of S 7 18 4 _ rfl (by simp only [List.take, sumS, sz, puI_2, z0]; rfl) z1 hq
  have mn := num_join S 9 26 2 (h.name.size : Int) rfl (by simp only [List.take, sumS, sz, puI_2, z0, z1, z2]; rfl) (by omega) (by rw [p2]; omega) (by omega)
  have mx := num_join S 10 28 2 x rfl (by simp only [List.take, sumS, sz, puI_2, z0, z1, z2]; rfl) hx.1 (by rw [p2]; exact hx.2) (by omega)
  have mp := part_join S 11 30 h.name.size rfl (by simp only [List.take, sumS, sz, puI_2, z0, z1, z2]; rfl) rfl
  have hs := sgn_join (sign := ⟨#[80, 75, 3, 4]⟩) S rfl
  have hz : (locS h).size = 30 + h.name.size + tail.size := by
    have e := joinB_size [⟨#[80, 75, 3, 4]⟩, verS (bigH h), puI (flagI h.kept (plainB h.name)) 2, puI (methI h.kept) 2, puI (timeN h.t) 2, puI (dateN h.t) 2, q0, q1, q2, puI h.name.size 2, puI x 2, h.name, tail, more]
    rw [← hjoin, ByteArray.size_append] at e
    have e4 : (⟨#[80, 75, 3, 4]⟩ : ByteArray).size = 4 := rfl
    simp only [sumS, sz, puI_2, z0, z1, z2, e4] at e
    omega
  generalize locS h ++ more = T at *
  obtain ⟨r1, r2, r3⟩ := tell_of (k := 6) gt m2 m4 m6
  refine ⟨hs, ?_, ?_, ?_⟩
  · show (locS h).size = 30 + numS T 26 2 + numS T 28 2
    omega
  · show tgood (rawT T 6) = true
    rw [r1]
    exact gt
  · show locRaw T (partS T 30 (numS T 26 2)) (tellT T 6) (tellK T 6) = _
    have en : numS T 26 2 = h.name.size := by omega
    unfold locRaw
    rw [r2, r3, en, mp, mq]
    cases bigH h <;> rfl

theorem loc_same {h : Hd} (hg : goodH h = true) : locS ⟨h.name, h.t, 0, if bigH h then 4294967295 else 0, 0, 0, h.kept⟩ = locS h := by
  obtain ⟨gc, gt, gp, gs, ga, gk⟩ := goodH_parts hg
  have hb : bigH ⟨h.name, h.t, 0, if bigH h then 4294967295 else 0, 0, 0, h.kept⟩ = bigH h := by
    cases hb : bigH h <;> rfl
  have hk : h.kept = true → bigH h = false := fun hk => by
    obtain ⟨e1, e2⟩ := gk hk
    unfold bigH
    rw [e1, e2]
    rfl
  have hgg : goodH ⟨h.name, h.t, 0, if bigH h then 4294967295 else 0, 0, 0, h.kept⟩ = true := by
    unfold goodH
    simp only [gc, gt, Bool.true_and, Bool.and_eq_true, decide_eq_true_eq, Bool.or_eq_true, Bool.not_eq_true']
    cases hq : h.kept with
    | false => cases bigH h <;> simp
    | true => rw [hk hq]; simp
  unfold locS comS
  rw [hb, hgg, hg]

/-- Read of a local header, whatever stands behind it. -/
theorem back_local {h : Hd} (hg : goodH h = true) (more : ByteArray) : readG locF (locS h ++ more) = (⟨h.name, h.t, 0, if bigH h then 4294967295 else 0, 0, 0, h.kept⟩, ((locS h).size : Int)) := by
  obtain ⟨a, b, c, d⟩ := loc_told hg more
  exact read_of a b (by decide) c d (loc_same hg)
/-- Read of a local header that is cut. -/
theorem cut_local {h : Hd} (hg : goodH h = true) (k : Nat) (hk : k < (locS h).size) : readG locF ((locS h).extract 0 k) = (zeroH, 0) := by
  obtain ⟨a, b, c, d⟩ := loc_told hg ⟨#[]⟩
  rw [empR] at a b
  exact read_cut rfl (by decide) a b k hk
end Go.Proofs.YtehhoigedniglaaDoor.Zp
