/-
  lighterlaw09.BlockRefuses: the walk.
-/
import Derived.Test.YtimomekkopadhaaDoorBkWrite0
import Derived.Test.YtimomekkopadhaaDoorBkSpeak
import Derived.ProofKit
import Derived.OpenShut
import Derived.SizedLaws
import Derived.ChangeArms
import Derived.WideShapes
namespace Go.Proofs.YtimomekkopadhaaDoor.Bk
open Go.RowKit Go.Shelf Go.Proofs.YtimomekkopadhaaDoor.Mg Go.Proofs.YtimomekkopadhaaDoor.Bw Go.Proofs.YtimomekkopadhaaDoor.Ri
set_option linter.unusedVariables false
set_option linter.unusedSimpArgs false

set_option maxHeartbeats 1000000 in
set_option maxRecDepth 100000 in
theorem refgood_calls (t : Tok) (w : World) : Calls Tryd.prog 10 #[t.val] w fun e w' => e = .returned (.bool (goodT t)) ∧ Below w.heap.size w w' := by
  obtain ⟨b, len, dist⟩ := t
  obtain ⟨R, hR⟩ : ∃ R, R = goodT ⟨b, len, dist⟩ := ⟨_, rfl⟩
  rw [← hR]
  unfold goodT at hR
  simp only at hR
  have hal := Lib.hid ((Below.refl w.heap.size w).alloc (Nat.le_refl _) (.cells #[.int .u8 b, .int .i64 len, .int .i64 dist] 38))
  by_cases h0 : len = 0
  · rw [if_pos h0] at hR
    have HR := Lib.hid hR
    have t0 : (len == 0) = true := beq_iff_eq.2 h0
    clear hR h0
    unfold Tok.val
    go_enter Tryd.func10, Tryd.ntmps10
    go_wp2
    go_ret
    exact ⟨by rw [HR.out]; rfl, hal.out⟩
  · rw [if_neg h0] at hR
    have HR := Lib.hid hR
    have t0 : (len == 0) = false := beq_eq_false_iff_ne.2 h0
    clear hR h0
    unfold Tok.val
    cases q1 : (b == 0) with
    | false =>
      go_enter Tryd.func10, Tryd.ntmps10
      go_wp2
      go_ret
      exact ⟨by rw [HR.out, q1]; rfl, hal.out⟩
    | true =>
      cases q2 : decide (3 ≤ len) with
      | false =>
        go_enter Tryd.func10, Tryd.ntmps10
        go_wp2
        go_ret
        exact ⟨by rw [HR.out, q1, q2]; rfl, hal.out⟩
      | true =>
        cases q3 : decide (len ≤ 258) with
        | false =>
          go_enter Tryd.func10, Tryd.ntmps10
          go_wp2
          go_ret
          exact ⟨by rw [HR.out, q1, q2, q3]; rfl, hal.out⟩
        | true =>
          cases q4 : decide (1 ≤ dist) with
          | false =>
            go_enter Tryd.func10, Tryd.ntmps10
            go_wp2
            go_ret
            exact ⟨by rw [HR.out, q1, q2, q3, q4]; rfl, hal.out⟩
          | true =>
            go_enter Tryd.func10, Tryd.ntmps10
            go_wp2
            go_ret
            exact ⟨by rw [HR.out, q1, q2, q3, q4]; rfl, hal.out⟩

def tokT (b len dist : Int) : List Tok := [⟨97, 0, 0⟩, ⟨b, len, dist⟩]
def strAA : ByteArray := { data := #[97, 97] }
theorem may_tok (kind b len dist : Int) : mayB kind strAA.size (tokT b len dist) = (decide (0 ≤ kind) && decide (kind < 3) && goodT ⟨b, len, dist⟩) := by
  unfold mayB tokT
  rw [show strAA.size = 2 from rfl]
  simp [goodT]
/-- Of any kind that is one. -/
theorem write_ok (kind : Int) (s : ByteArray) (A : Option Addr) (c : Nat) (ts : List Tok) (base B o : Nat) (v : Value) (bs : List Bool) (w : World) (hA : TokAt w A ts) (hAB : TokB w B A) (hbyte : ∀ t ∈ ts, 0 ≤ t.b ∧ t.b < 256) (hm : mayB kind s.size ts = true) (hw : WAt w base B o v bs) (hO : OrdT w) (hO1 : 0 < base) (hO2 : 0 ≠ B) (hbs : bs.length ≤ 10000000000) :
    Calls Tryd.prog 11 #[.pointer (some ⟨B, o, none⟩), .int .i64 kind, .bool false, .string s, .slice A ts.length c] w fun e w' => e = .returned (.int .i64 0) ∧ ∃ v', Wrote B o v w v' w' := by
  have hk : kind = 0 ∨ kind = 1 ∨ kind = 2 := by
    have h := hm
    unfold mayB at h
    simp only [Bool.and_eq_true, decide_eq_true_eq] at h
    omega
  rcases hk with rfl | rfl | rfl
  · exact (write0_calls false s A c ts base B o v bs w hA hm hw hbs).mono fun e w' h => ⟨h.1, h.2.choose, h.2.choose_spec.2⟩
  · exact (write1_calls false s A c ts base B o v bs w hA hAB hbyte hm hw hbs).mono fun e w' h => ⟨h.1, h.2.choose, h.2.choose_spec.2⟩
  · exact (write2_calls false s A c ts base B o v bs w hA hAB hbyte hm hw hO hO1 hO2 hbs).mono fun e w' h => ⟨h.1, h.2.choose, h.2.choose_spec.2⟩
theorem size_ok (kind : Int) (s : ByteArray) (A : Option Addr) (c : Nat) (ts : List Tok) (w : World) (hA : TokAt w A ts) (hR : TokR w A) (hbyte : ∀ t ∈ ts, 0 ≤ t.b ∧ t.b < 256) (hm : mayB kind s.size ts = true) (hO : OrdT w) :
    Calls Tryd.prog 12 #[.int .i64 kind, .string s, .slice A ts.length c] w fun e w' => (∃ n : Nat, e = .returned (.tuple #[.int .i64 n, .bool true]) ∧ 0 < n) ∧ Below w.heap.size w w' := by
  have hk : kind = 0 ∨ kind = 1 ∨ kind = 2 := by
    have h := hm
    unfold mayB at h
    simp only [Bool.and_eq_true, decide_eq_true_eq] at h
    omega
  have hpos : ∀ k : Nat, k = 1 ∨ k = 2 → 0 < sizeN k s.size ts := fun k hk => by
    unfold sizeN
    rw [if_neg (by omega)]
    unfold blockB
    rw [List.length_append, kindB_len]
    omega
  rcases hk with rfl | rfl | rfl
  · exact (size0_calls s A c ts w hA hm).mono fun e w' h => ⟨⟨_, h.1, by unfold sizeN; rw [if_pos rfl]; omega⟩, h.2⟩
  · exact (size1_calls s A c ts w hA hR hbyte hm).mono fun e w' h => ⟨⟨_, h.1, hpos 1 (.inl rfl)⟩, h.2⟩
  · exact (size2_calls s A c ts w hA hR hbyte hm hO).mono fun e w' h => ⟨⟨_, h.1, hpos 2 (.inr rfl)⟩, h.2⟩

set_option maxHeartbeats 4000000 in
set_option maxRecDepth 100000 in
theorem refuses_walk (kind b len dist : Int) (w : World) (hb : 0 ≤ b ∧ b < 256) (hO : OrdT w) :
    Calls Tryd.prog 4 #[.int .i64 kind, .agg #[.int .u8 b, .int .i64 len, .int .i64 dist]] w fun e w' => e = .returned (.bool true) ∧ Below w.heap.size w w' := by
  obtain ⟨w0, hw0⟩ : ∃ w0, w0 = w.alloc (.cells #[.int .u8 b, .int .i64 len, .int .i64 dist] 36) := ⟨_, rfl⟩
  have B0 := Lib.hid (show Below w.heap.size w w0 by rw [hw0]; exact (Below.refl _ _).alloc (Nat.le_refl _) _)
  have hz0 : w0.heap[w.heap.size]? = some (.cells #[.int .u8 b, .int .i64 len, .int .i64 dist] 36 (0, 0)) := by rw [hw0]; exact World.alloc_heap_new _ _
  have HZ0 := Lib.hid hz0
  have HO0 := Lib.hid (hO.below B0.out (Nat.le_refl _))
  have HSP := Lib.hid (speaks_calls w0 HO0.out)
  have HGD := Lib.hid (refgood_calls ⟨b, len, dist⟩)
  have HMT := Lib.hid (fun k => may_tok k b len dist)
  have HBY : Hid (∀ t ∈ tokT b len dist, 0 ≤ t.b ∧ t.b < 256) := Lib.hid (fun t ht => by
    unfold tokT at ht
    simp only [List.mem_cons, List.not_mem_nil, or_false] at ht
    rcases ht with rfl | rfl
    · decide
    · exact hb)
  obtain ⟨gd, hgd⟩ : ∃ gd, goodT ⟨b, len, dist⟩ = gd := ⟨_, rfl⟩
  rw [hgd] at HGD HMT
  have HW0 := Lib.hid hw0
  clear hO hz0 hb hgd hw0
  go_enter Tryd.func4, Tryd.ntmps4
  go_upto_region 1 with fail
  rw [← HW0.out]
  go_wp2_with fail
  refine HSP.out.mono ?_
  rintro e w1 ⟨rfl, hb⟩
  have HB1 := Lib.hid (B0.out.trans (hb.mono B0.out.size))
  have HO1 := Lib.hid (HO0.out.below hb (Nat.le_refl _))
  have hz1 := (hb.block w.heap.size (Array.getElem?_eq_some_iff.1 HZ0.out).1).trans HZ0.out
  have HZ1 := Lib.hid hz1
  obtain ⟨c0, f0⟩ := cell_at hz1 0 _ rfl
  obtain ⟨c1, f1⟩ := cell_at hz1 1 _ rfl
  obtain ⟨c2, f2⟩ := cell_at hz1 2 _ rfl
  clear hb hz1 HSP
  unfold Tok.val at HGD
  go_wp2_with fail
  refine (HGD.out w1).mono ?_
  rintro e w2 ⟨rfl, hb⟩
  have HB2 := Lib.hid (HB1.out.trans (hb.mono HB1.out.size))
  have HO2 := Lib.hid (HO1.out.below hb (Nat.le_refl _))
  have hz2 := (hb.block w.heap.size (Array.getElem?_eq_some_iff.1 HZ1.out).1).trans HZ1.out
  obtain ⟨c0, f0⟩ := cell_at hz2 0 _ rfl
  obtain ⟨c1, f1⟩ := cell_at hz2 1 _ rfl
  obtain ⟨c2, f2⟩ := cell_at hz2 2 _ rfl
  clear hb hz2 HGD
  go_upto_region 6 with fail
  obtain ⟨K, hK⟩ : ∃ K, w2.heap.size = K := ⟨_, rfl⟩
  obtain ⟨W3, hW3⟩ : ∃ W3, w2.alloc (.cells #[.int .u8 97, .int .i64 0, .int .i64 0, .int .u8 b, .int .i64 len, .int .i64 dist] 39) = W3 := ⟨_, rfl⟩
  have hb3 : Below w2.heap.size w2 W3 := by rw [← hW3]; exact (Below.refl _ _).alloc (Nat.le_refl _) _
  have hz3 : W3.heap[K]? = some (.cells #[.int .u8 97, .int .i64 0, .int .i64 0, .int .u8 b, .int .i64 len, .int .i64 dist] 39 (0, 0)) := by rw [← hW3, ← hK]; exact World.alloc_heap_new _ _
  have hs3 : W3.heap.size = K + 1 := by rw [← hW3, ← hK]; simp
  have HT3 : Hid (TokAt W3 (some ⟨K, 0, none⟩) (tokT b len dist)) := Lib.hid (fun j hj => by
    have hj2 : j < 2 := hj
    rcases j with _ | _ | j
    · exact ⟨K, 0, rfl, (cell_at hz3 0 _ rfl).1, (cell_at hz3 1 _ rfl).1, (cell_at hz3 2 _ rfl).1⟩
    · exact ⟨K, 0, rfl, (cell_at hz3 3 _ rfl).1, (cell_at hz3 4 _ rfl).1, (cell_at hz3 5 _ rfl).1⟩
    · omega)
  have HTR3 : Hid (TokR W3 (some ⟨K, 0, none⟩)) := Lib.hid (fun g o e => by cases e; exact ⟨_, _, hz3⟩)
  have HO3 := Lib.hid (HO2.out.below hb3 (Nat.le_refl _))
  have HB3 := Lib.hid (HB2.out.trans (hb3.mono HB2.out.size))
  obtain ⟨B, hB⟩ : ∃ B, K + 1 = B := ⟨_, rfl⟩
  rw [hB] at hs3
  rw [hW3, hK, hB]
  have hwn := writer_new W3
  have hb4 : Below W3.heap.size W3 (W3.alloc (.cells #[.slice none 0 0, .int .u64 0, .int .i64 0] 43)) := (Below.refl _ _).alloc (Nat.le_refl _) _
  have htb := tokB_new HTR3.out (.cells #[.slice none 0 0, .int .u64 0, .int .i64 0] 43)
  obtain ⟨W4, hW4⟩ : ∃ W4, W3.alloc (.cells #[.slice none 0 0, .int .u64 0, .int .i64 0] 43) = W4 := ⟨_, rfl⟩
  rw [hW4] at hwn hb4 htb ⊢
  rw [hs3] at hwn htb
  have HW4 := Lib.hid hwn
  have HT4 := Lib.hid (HT3.out.below hb4)
  have HTB4 := Lib.hid htb
  have HO4 := Lib.hid (HO3.out.below hb4 (Nat.le_refl _))
  have HB4 := Lib.hid (HB3.out.trans (hb4.mono HB3.out.size))
  have HTR4 := Lib.hid (HTR3.out.below hb4)
  have hob : 0 < B := by rw [← hs3]; exact HO3.out.lt
  have HOB := Lib.hid hob
  have HWB := Lib.hid (show w.heap.size ≤ B by rw [← hs3]; exact HB3.out.size)
  clear hK hW3 hb3 hz3 hs3 hB hwn hb4 htb hW4 hob HT3 HTR3 HO3 HB3 HO2 HB2 HZ1 HZ0 HW0 HO0 HO1 HB1 B0 c0 c1 c2 f0 f1 f2
  cases hmk : (decide (0 ≤ kind) && decide (kind < 3) && gd) with
  | false =>
    have hm : mayB kind strAA.size (tokT b len dist) = false := (HMT.out kind).trans hmk
    have HWR := Lib.hid (write_bad kind false strAA (some ⟨K, 0, none⟩) 2 (tokT b len dist) (some ⟨B, 0, none⟩) W4 HT4.out (by show 2 ≤ _; omega) hm)
    have HSZ := Lib.hid (fun (W : World) (h : TokAt W (some ⟨K, 0, none⟩) (tokT b len dist)) => size_bad kind strAA (some ⟨K, 0, none⟩) 2 (tokT b len dist) W h (by show 2 ≤ _; omega) hm)
    have HCX : Hid (gd = false → ∀ W, TokAt W (some ⟨K, 0, none⟩) (tokT b len dist) → TokR W (some ⟨K, 0, none⟩) → OrdT W → Calls Tryd.prog 14 #[.string strAA, .slice (some ⟨K, 0, none⟩) 2 2] W fun e w' => e = .returned (.int .i64 0) ∧ Below W.heap.size W w') := Lib.hid (fun hg W h1 h2 h3 => by
      have h := choose_calls strAA (some ⟨K, 0, none⟩) 2 (tokT b len dist) W h1 (by show 2 ≤ _; omega) h2 HBY.out h3
      have hc : chooseP strAA.size (tokT b len dist) = 0 := by
        unfold chooseP
        rw [if_neg]
        rw [HMT.out 0, hg]
        simp
      rw [hc] at h
      exact h)
    have e2 : (tokT b len dist).length = 2 := rfl
    rw [e2] at HWR HSZ
    unfold strAA at HWR HSZ HCX
    clear hm e2 HMT HBY
    go_wp2_with fail
    refine HWR.out.mono ?_
    rintro e w5 ⟨rfl, hb⟩
    have HW5 := Lib.hid (wat_below HW4.out hb)
    have HT5 := Lib.hid (HT4.out.below hb)
    have HTR5 := Lib.hid (HTR4.out.below hb)
    have HO5 := Lib.hid (HO4.out.below hb (Nat.le_refl _))
    have HB5 := Lib.hid (HB4.out.trans (hb.mono HB4.out.size))
    clear hb HWR HW4 HT4 HTB4 HO4 HB4 HTR4
    go_wp2_with fail
    refine (HSZ.out _ HT5.out).mono ?_
    rintro e w6 ⟨rfl, hb⟩
    have HW6 := Lib.hid (wat_below HW5.out hb)
    have HT6 := Lib.hid (HT5.out.below hb)
    have HTR6 := Lib.hid (HTR5.out.below hb)
    have HO6 := Lib.hid (HO5.out.below hb (Nat.le_refl _))
    have HB6 := Lib.hid (HB5.out.trans (hb.mono HB5.out.size))
    have HLN := Lib.hid (len_calls _ _ 0 _ [] w6 HW6.out (by decide))
    clear hb HSZ HW5 HT5 HTR5 HO5 HB5
    cases q1 : decide (kind < 0) with
    | true =>
      have q1' : decide (0 ≤ kind) = false := decide_eq_false (by have := of_decide_eq_true q1; omega)
      cases gd with
      | true =>
        go_wp2_with fail
        refine (HLN.out).mono ?_
        rintro e w7 ⟨rfl, q, rfl⟩
        have HB7 := Lib.hid (below_drewN HB6.out q)
        generalize w6.drewN q = w8 at *
        go_wp2
        go_ret
        exact ⟨rfl, HB7.out⟩
      | false =>
        replace HCX := Lib.hid (HCX.out rfl)
        go_wp2_with fail
        refine (HLN.out).mono ?_
        rintro e w7 ⟨rfl, q, rfl⟩
        have HB7 := Lib.hid (below_drewN HB6.out q)
        have HCH := Lib.hid ((HCX.out _ (HT6.out.below (below_drewN (Below.refl _ _) q)) (HTR6.out.below (below_drewN (Below.refl _ _) q)) (HO6.out.below (below_drewN (Below.refl _ _) q) (Nat.le_refl _))))
        generalize w6.drewN q = w8 at *
        go_wp2_with fail
        refine HCH.out.mono ?_
        rintro e w9 ⟨rfl, hb⟩
        have HB9 := Lib.hid (HB7.out.trans (hb.mono HB7.out.size))
        clear hb
        go_wp2
        go_ret
        exact ⟨rfl, HB9.out⟩
    | false =>
      have q1n := of_decide_eq_false q1
      cases q2 : decide (2 < kind) with
      | true =>
        cases gd with
        | true =>
          go_wp2_with fail
          refine (HLN.out).mono ?_
          rintro e w7 ⟨rfl, q, rfl⟩
          have HB7 := Lib.hid (below_drewN HB6.out q)
          generalize w6.drewN q = w8 at *
          go_wp2
          go_ret
          exact ⟨rfl, HB7.out⟩
        | false =>
          replace HCX := Lib.hid (HCX.out rfl)
          go_wp2_with fail
          refine (HLN.out).mono ?_
          rintro e w7 ⟨rfl, q, rfl⟩
          have HB7 := Lib.hid (below_drewN HB6.out q)
          have HCH := Lib.hid ((HCX.out _ (HT6.out.below (below_drewN (Below.refl _ _) q)) (HTR6.out.below (below_drewN (Below.refl _ _) q)) (HO6.out.below (below_drewN (Below.refl _ _) q) (Nat.le_refl _))))
          generalize w6.drewN q = w8 at *
          go_wp2_with fail
          refine HCH.out.mono ?_
          rintro e w9 ⟨rfl, hb⟩
          have HB9 := Lib.hid (HB7.out.trans (hb.mono HB7.out.size))
          clear hb
          go_wp2
          go_ret
          exact ⟨rfl, HB9.out⟩
      | false =>
        have q2n := of_decide_eq_false q2
        have hgd : gd = false := by
          rw [decide_eq_true (show 0 ≤ kind by omega), decide_eq_true (show kind < 3 by omega)] at hmk
          simpa using hmk
        subst hgd
        replace HCX := Lib.hid (HCX.out rfl)
        clear hmk
        go_wp2_with fail
        refine (HLN.out).mono ?_
        rintro e w7 ⟨rfl, q, rfl⟩
        have HB7 := Lib.hid (below_drewN HB6.out q)
        have HCH := Lib.hid ((HCX.out _ (HT6.out.below (below_drewN (Below.refl _ _) q)) (HTR6.out.below (below_drewN (Below.refl _ _) q)) (HO6.out.below (below_drewN (Below.refl _ _) q) (Nat.le_refl _))))
        generalize w6.drewN q = w8 at *
        go_wp2_with fail
        refine HCH.out.mono ?_
        rintro e w9 ⟨rfl, hb⟩
        have HB9 := Lib.hid (HB7.out.trans (hb.mono HB7.out.size))
        clear hb
        go_wp2
        go_ret
        exact ⟨rfl, HB9.out⟩
  | true =>
    have hm : mayB kind strAA.size (tokT b len dist) = true := (HMT.out kind).trans hmk
    simp only [Bool.and_eq_true, decide_eq_true_eq] at hmk
    obtain ⟨⟨k0, k3⟩, rfl⟩ := hmk
    have HWR := Lib.hid (write_ok kind strAA (some ⟨K, 0, none⟩) 2 (tokT b len dist) B B 0 (.slice none 0 0) [] W4 HT4.out HTB4.out HBY.out hm HW4.out HO4.out HOB.out (Nat.ne_of_lt HOB.out) (by decide))
    have HSZ := Lib.hid (fun (W : World) (h1 : TokAt W (some ⟨K, 0, none⟩) (tokT b len dist)) (h2 : TokR W (some ⟨K, 0, none⟩)) (h3 : OrdT W) => size_ok kind strAA (some ⟨K, 0, none⟩) 2 (tokT b len dist) W h1 h2 HBY.out hm h3)
    have e2 : (tokT b len dist).length = 2 := rfl
    rw [e2] at HWR HSZ
    unfold strAA at HWR HSZ
    have q1 : decide (kind < 0) = false := decide_eq_false (by omega)
    have q2 : decide (2 < kind) = false := decide_eq_false (by omega)
    clear hm e2 HMT HBY k0 k3
    go_wp2_with fail
    refine HWR.out.mono ?_
    rintro e w5 ⟨rfl, v5, hr⟩
    have htw := tok_wrote HT4.out HTB4.out HW4.out hr
    have HT5 := Lib.hid htw.1
    have HTR5 : Hid (TokR w5 (some ⟨K, 0, none⟩)) := Lib.hid (fun g o e => (htw.2 g o e).2)
    have HO5 := Lib.hid (ord_wrote hr HW4.out HO4.out HOB.out (Nat.ne_of_lt HOB.out))
    have HB5 : Hid (Below w.heap.size w w5) := Lib.hid (HB4.out.trans (hr.below HWB.out (fun k e => by cases e) HB4.out.size))
    clear hr htw HWR HW4 HT4 HTB4 HO4 HB4 HTR4
    go_wp2_with fail
    refine (HSZ.out _ HT5.out HTR5.out HO5.out).mono ?_
    rintro e w6 ⟨⟨n, rfl, hn⟩, hb⟩
    have HB6 := Lib.hid (HB5.out.trans (hb.mono HB5.out.size))
    have n1 : decide ((0 : Int) < (n : Int)) = true := decide_eq_true (by omega)
    have n2 : decide (0 < n) = true := decide_eq_true hn
    have HNL := Lib.hid (fun W => write_nil kind false strAA (.slice (some ⟨K, 0, none⟩) 2 2) W)
    unfold strAA at HNL
    clear hb hn HSZ
    go_wp2_with fail
    refine (HNL.out _).mono ?_
    rintro e w7 ⟨rfl, rfl⟩
    go_wp2
    go_ret
    exact ⟨rfl, HB6.out⟩
theorem refuses_any (kind b len dist : Int) (w : World) (wk : (Lit.int .i64 kind).wf = true) (wb : (Lit.int .u8 b).wf = true) (wl : (Lit.int .i64 len).wf = true) (wd : (Lit.int .i64 dist).wf = true) (hO : OrdT w) :
    Calls Tryd.prog 4 #[.int .i64 kind, .agg #[.int .u8 b, .int .i64 len, .int .i64 dist]] w fun e w' => e = .returned (.bool true) ∧ Below w.heap.size w w' :=
  refuses_walk kind b len dist w (by
    have h : IntKind.u8.min ≤ b ∧ b ≤ IntKind.u8.max := by simpa [Lit.wf] using wb
    have e1 : IntKind.u8.min = 0 := by decide
    have e2 : IntKind.u8.max = 255 := by decide
    omega) hO
end Go.Proofs.YtimomekkopadhaaDoor.Bk
