/-
  A head's central header is read again, field by field: plain.
-/
import Derived.Test.YtehhoigedniglaaDoorZpBackLaw2
namespace Go.Proofs.YtehhoigedniglaaDoor.Zp
open Go.RowKit Go.Shelf Go.Proofs.YtehhoigedniglaaDoor.Nm
set_option linter.unusedVariables false
set_option linter.unusedSimpArgs false

theorem nar_get (v : Int) (b : Bool) (h0 : 0 ≤ v) (h1 : b = false → v < 4294967295) : (getS (narS v b) : Int) = if b then 4294967295 else v := by
  unfold narS
  cases b with
  | true => rw [if_pos rfl, full_get]; rfl
  | false =>
    rw [if_neg (by decide), if_neg (by decide)]
    have := h1 rfl
    exact getS_pu v 4 h0 (by rw [p4]; omega) (by omega)

set_option maxHeartbeats 2000000 in
theorem cen_told {h : Hd} (ho : h.ok) (hg : goodH h = true) (more : ByteArray) :
    sgnB (cenS h ++ more) cenF.sign = true ∧ (cenS h).size = cenF.size + nameN cenF (cenS h ++ more) + extraN cenF (cenS h ++ more) ∧ tgood (rawT (cenS h ++ more) cenF.flags) = true ∧
    toldH cenF (cenS h ++ more) = h := by
  obtain ⟨gc, gt, gp, gs, ga, gk⟩ := goodH_parts hg
  obtain ⟨-, op, os, ou, oa⟩ := ho
  have gn := check_size gc
  have fl := flagI_lt h.kept (plainB h.name)
  have ml := methI_lt h.kept
  have dl := dateN_lt (tgood_within gt)
  have tl := timeN_lt (tgood_within gt)
  obtain ⟨ext, hext⟩ : ∃ e, e = ext0 h.size h.packed h.pos (bigH h) (farH h) := ⟨_, rfl⟩
  obtain ⟨x, xs, hxs, hx⟩ : ∃ (x : Int) (xs : ByteArray), xs = extS h.size h.packed h.pos (bigH h) (farH h) ∧ x = (xs.size : Int) := ⟨_, _, rfl, rfl⟩
  have hx2 : 0 ≤ x ∧ x < 65536 := by
    rw [hx, hxs, extS_size]
    cases bigH h <;> cases farH h <;> decide
  have S : cenS h ++ more = joinB [⟨#[80, 75, 1, 2]⟩, verS (bigH h || farH h), verS (bigH h || farH h), puI (flagI h.kept (plainB h.name)) 2, puI (methI h.kept) 2, puI (timeN h.t) 2, puI (dateN h.t) 2, puI h.sum 4, narS h.packed (bigH h), narS h.size (bigH h), puI h.name.size 2, puI x 2, zer 10, narS h.pos (farH h), h.name, xs, more] := by
    unfold cenS comS
    rw [hg, if_pos rfl, hx, ← hxs]
    simp only [joinB, empR, ByteArray.append_assoc]
  have sz : ∀ (b : Bool), (verS b).size = 2 := verS_size
  have m2 := num_join S 4 10 2 (methI h.kept) rfl (by simp only [List.take, sumS, sz, puI_2]; rfl) ml.1 ml.2 (by omega)
  have m4 := num_join S 5 12 2 (timeN h.t) rfl (by simp only [List.take, sumS, sz, puI_2]; rfl) tl.1 (by rw [p2]; exact tl.2) (by omega)
  have m6 := num_join S 6 14 2 (dateN h.t) rfl (by simp only [List.take, sumS, sz, puI_2]; rfl) dl.1 (by rw [p2]; exact dl.2) (by omega)
  have mu := num_join S 7 16 4 h.sum rfl (by simp only [List.take, sumS, sz, puI_2]; rfl) ou.1 (by rw [p4]; exact ou.2) (by omega)
  have mk := num_join_of S 8 20 4 _ rfl (by simp only [List.take, sumS, sz, puI_2, puI_4]; rfl) (narS_size _ _) rfl
  have mz := num_join_of S 9 24 4 _ rfl (by simp only [List.take, sumS, sz, puI_2, puI_4, narS_size]; rfl) (narS_size _ _) rfl
  have mn := num_join S 10 28 2 (h.name.size : Int) rfl (by simp only [List.take, sumS, sz, puI_2, puI_4, narS_size]; rfl) (by omega) (by rw [p2]; omega) (by omega)
  have mx := num_join S 11 30 2 x rfl (by simp only [List.take, sumS, sz, puI_2, puI_4, narS_size]; rfl) hx2.1 (by rw [p2]; exact hx2.2) (by omega)
  have ma := num_join_of S 13 42 4 _ rfl (by simp only [List.take, sumS, sz, puI_2, puI_4, narS_size, zer_10]; rfl) (narS_size _ _) rfl
  have mp := part_join S 14 46 h.name.size rfl (by simp only [List.take, sumS, sz, puI_2, puI_4, narS_size, zer_10]; rfl) rfl
  have hs := sgn_join (sign := ⟨#[80, 75, 1, 2]⟩) S rfl
  have hz : (cenS h).size = 46 + h.name.size + xs.size := by
    have e := congrArg ByteArray.size S
    rw [joinB_size, ByteArray.size_append] at e
    have e4 : (⟨#[80, 75, 1, 2]⟩ : ByteArray).size = 4 := rfl
    simp only [sumS, sz, puI_2, puI_4, narS_size, zer_10, e4] at e
    omega
  have hbig : bigH h = false → h.packed ≤ 4294705145 ∧ h.size ≤ 4294705145 := fun hb => by
    unfold bigH at hb
    simp only [Bool.or_eq_false_iff, decide_eq_false_iff_not] at hb
    omega
  have hfar : farH h = false → h.pos ≤ 4294967294 := fun hf => by
    unfold farH at hf
    simp only [decide_eq_false_iff_not] at hf
    omega
  have mk2 : (numS (cenS h ++ more) 20 4 : Int) = if bigH h then 4294967295 else h.packed := by
    rw [mk]
    exact nar_get _ _ op.1 (fun hb => by have := hbig hb; omega)
  have mz2 : (numS (cenS h ++ more) 24 4 : Int) = if bigH h then 4294967295 else h.size := by
    rw [mz]
    exact nar_get _ _ os.1 (fun hb => by have := hbig hb; omega)
  have ma2 : (numS (cenS h ++ more) 42 4 : Int) = if farH h then 4294967295 else h.pos := by
    rw [ma]
    exact nar_get _ _ oa.1 (fun hf => by have := hfar hf; omega)
  have hq1 : cenBig (cenS h ++ more) = bigH h := by
    unfold cenBig
    rw [mk2]
    cases hb : bigH h with
    | true => rfl
    | false => have := hbig hb; simp only [Bool.false_eq_true, if_false, beq_eq_false_iff_ne]; omega
  have hq2 : cenFar (cenS h ++ more) = farH h := by
    unfold cenFar
    rw [ma2]
    cases hf : farH h with
    | true => rfl
    | false => have := hfar hf; simp only [Bool.false_eq_true, if_false, beq_eq_false_iff_ne]; omega
  have hall : sumS ([⟨#[80, 75, 1, 2]⟩, verS (bigH h || farH h), verS (bigH h || farH h), puI (flagI h.kept (plainB h.name)) 2, puI (methI h.kept) 2, puI (timeN h.t) 2, puI (dateN h.t) 2, puI h.sum 4, narS h.packed (bigH h), narS h.size (bigH h), puI h.name.size 2, puI x 2, zer 10, narS h.pos (farH h), h.name] : List ByteArray) = 46 + h.name.size := by
    have e4 : (⟨#[80, 75, 1, 2]⟩ : ByteArray).size = 4 := rfl
    simp only [sumS, sz, puI_2, puI_4, narS_size, zer_10, e4]
    omega
  have hhead : ∀ l : List ByteArray, joinB ([⟨#[80, 75, 1, 2]⟩, verS (bigH h || farH h), verS (bigH h || farH h), puI (flagI h.kept (plainB h.name)) 2, puI (methI h.kept) 2, puI (timeN h.t) 2, puI (dateN h.t) 2, puI h.sum 4, narS h.packed (bigH h), narS h.size (bigH h), puI h.name.size 2, puI x 2, zer 10, narS h.pos (farH h), h.name, xs, more] : List ByteArray) = joinB [joinB [⟨#[80, 75, 1, 2]⟩, verS (bigH h || farH h), verS (bigH h || farH h), puI (flagI h.kept (plainB h.name)) 2, puI (methI h.kept) 2, puI (timeN h.t) 2, puI (dateN h.t) 2, puI h.sum 4, narS h.packed (bigH h), narS h.size (bigH h), puI h.name.size 2, puI x 2, zer 10, narS h.pos (farH h), h.name], xs, more] := fun l => by
    simp only [joinB, empR, ByteArray.append_assoc]
  obtain ⟨A, hA⟩ : ∃ A, A = joinB [⟨#[80, 75, 1, 2]⟩, verS (bigH h || farH h), verS (bigH h || farH h), puI (flagI h.kept (plainB h.name)) 2, puI (methI h.kept) 2, puI (timeN h.t) 2, puI (dateN h.t) 2, puI h.sum 4, narS h.packed (bigH h), narS h.size (bigH h), puI h.name.size 2, puI x 2, zer 10, narS h.pos (farH h), h.name] := ⟨_, rfl⟩
  have S2 : cenS h ++ more = joinB [A, xs, more] := by rw [S, hhead [], ← hA]
  have hAs : A.size = 46 + h.name.size := by rw [hA, joinB_size, hall]
  clear hhead hall hA S mk mz ma
  have hext3 : h.pos < 4611686018427387904 ∧ 0 ≤ h.pos := ⟨ga, oa.1⟩
  have B : (bigH h = true → (numS (cenS h ++ more) (46 + h.name.size + 4) 8 : Int) = h.size ∧ (numS (cenS h ++ more) (46 + h.name.size + 4 + 8) 8 : Int) = h.packed) ∧
      (farH h = true → (numS (cenS h ++ more) (46 + h.name.size + 4 + if bigH h then 16 else 0) 8 : Int) = h.pos) := by
    unfold extS ext0 at hxs
    cases hb : bigH h <;> cases hf : farH h
    · exact ⟨fun h => Bool.noConfusion h, fun h => Bool.noConfusion h⟩
    · rw [hb, hf] at hxs
      simp only [Bool.or_true, Bool.false_or, if_true, Bool.false_eq_true, if_false, empL, puI_8] at hxs
      have S3 : cenS h ++ more = joinB [A, puI 1 2, puI ((8 : Nat) : Int) 2, puI h.pos 8, more] := by
        rw [S2, hxs]
        simp only [joinB, empR, ByteArray.append_assoc]
      exact ⟨fun h => Bool.noConfusion h, fun _ => num_join S3 3 _ 8 h.pos rfl (by simp only [List.take, sumS, puI_2, hAs]; rfl) oa.1 (by rw [p8]; omega) (by omega)⟩
    · rw [hb, hf] at hxs
      simp only [Bool.or_false, Bool.true_or, if_true, Bool.false_eq_true, if_false, empR] at hxs
      have S3 : cenS h ++ more = joinB [A, puI 1 2, puI ((puI h.size 8 ++ puI h.packed 8).size : Int) 2, puI h.size 8, puI h.packed 8, more] := by
        rw [S2, hxs]
        simp only [joinB, empR, ByteArray.append_assoc]
      exact ⟨fun _ => ⟨num_join S3 3 _ 8 h.size rfl (by simp only [List.take, sumS, puI_2, hAs]) os.1 (by rw [p8]; omega) (by omega),
        num_join S3 4 _ 8 h.packed rfl (by simp only [List.take, sumS, puI_2, puI_8, hAs]) op.1 (by rw [p8]; omega) (by omega)⟩, fun h => Bool.noConfusion h⟩
    · rw [hb, hf] at hxs
      simp only [Bool.or_true, Bool.true_or, if_true] at hxs
      have S3 : cenS h ++ more = joinB [A, puI 1 2, puI ((puI h.size 8 ++ puI h.packed 8 ++ puI h.pos 8).size : Int) 2, puI h.size 8, puI h.packed 8, puI h.pos 8, more] := by
        rw [S2, hxs]
        simp only [joinB, empR, ByteArray.append_assoc]
      exact ⟨fun _ => ⟨num_join S3 3 _ 8 h.size rfl (by simp only [List.take, sumS, puI_2, hAs]) os.1 (by rw [p8]; omega) (by omega),
        num_join S3 4 _ 8 h.packed rfl (by simp only [List.take, sumS, puI_2, puI_8, hAs]) op.1 (by rw [p8]; omega) (by omega)⟩,
        fun _ => num_join S3 5 _ 8 h.pos rfl (by simp only [List.take, sumS, puI_2, puI_8, hAs]; rfl) oa.1 (by rw [p8]; omega) (by omega)⟩
  generalize cenS h ++ more = T at *
  obtain ⟨r1, r2, r3⟩ := tell_of (k := 8) gt m2 m4 m6
  refine ⟨hs, ?_, ?_, ?_⟩
  · show (cenS h).size = 46 + numS T 28 2 + numS T 30 2
    omega
  · show tgood (rawT T 8) = true
    rw [r1]
    exact gt
  · show cenRaw T (partS T 46 (numS T 28 2)) (tellT T 8) (tellK T 8) = _
    have en : numS T 28 2 = h.name.size := by omega
    obtain ⟨B1, B2⟩ := B
    unfold cenRaw cenAt
    rw [r2, r3, en, mp, mu, hq1, hq2]
    obtain ⟨nm, t, pk, zz, su, po, ke⟩ := h
    simp only at *
    cases hb : bigH ⟨nm, t, pk, zz, su, po, ke⟩ <;> cases hf : farH ⟨nm, t, pk, zz, su, po, ke⟩
    · rw [hb] at mk2 mz2
      rw [hf] at ma2
      simp only [Bool.false_eq_true, if_false] at mk2 mz2 ma2 ⊢
      rw [mk2, mz2, ma2]
    · rw [hb] at mk2 mz2 B2
      simp only [Bool.false_eq_true, if_false, if_true, Nat.add_zero] at mk2 mz2 B2 ⊢
      rw [mk2, mz2, B2 hf]
    · rw [hf] at ma2
      obtain ⟨b1, b2⟩ := B1 hb
      simp only [Bool.false_eq_true, if_false, if_true] at ma2 ⊢
      rw [b1, b2, ma2]
    · rw [hb] at B2
      obtain ⟨b1, b2⟩ := B1 hb
      simp only [if_true] at B2 ⊢
      rw [b1, b2, B2 hf]

/-- ReadCentral of a central header, whatever stands behind it. -/
theorem back_central {h : Hd} (ho : h.ok) (hg : goodH h = true) (more : ByteArray) : readG cenF (cenS h ++ more) = (h, ((cenS h).size : Int)) := by
  obtain ⟨a, b, c, d⟩ := cen_told ho hg more
  exact read_of (g := h) a b (by decide) c d rfl
theorem cut_central {h : Hd} (ho : h.ok) (hg : goodH h = true) (k : Nat) (hk : k < (cenS h).size) : readG cenF ((cenS h).extract 0 k) = (zeroH, 0) := by
  obtain ⟨a, b, c, d⟩ := cen_told ho hg ⟨#[]⟩
  rw [empR] at a b
  exact read_cut rfl (by decide) a b k hk
end Go.Proofs.YtehhoigedniglaaDoor.Zp
