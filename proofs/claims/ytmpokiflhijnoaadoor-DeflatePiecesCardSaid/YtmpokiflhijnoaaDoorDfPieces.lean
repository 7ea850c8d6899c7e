/-
  lighterlaw10.DeflatePieces: however a text is cut into pieces, its stream is the same.
-/
import Derived.Test.YtmpokiflhijnoaaDoorDfSpeak
import Derived.Test.YtmpokiflhijnoaaDoorFrameArgs
namespace Go.Proofs.YtmpokiflhijnoaaDoor.Df
open Go.RowKit Go.Shelf Go.Proofs.YtmpokiflhijnoaaDoor.Mg Go.Proofs.YtmpokiflhijnoaaDoor.Bw Go.Proofs.YtmpokiflhijnoaaDoor.Bk Go.Proofs.YtmpokiflhijnoaaDoor.Cn Go.Proofs.YtmpokiflhijnoaaDoor.Zp Go.Proofs.YtmpokiflhijnoaaDoor.Rf Go.Proofs.YtmpokiflhijnoaaDoor.Mt
set_option linter.unusedVariables false
set_option linter.unusedSimpArgs false

theorem ext_split (s : ByteArray) (k : Nat) (h : k ≤ s.size) : s.extract 0 k ++ s.extract k s.size = s := by
  apply strN_inj
  rw [strN_append, strN_extract, strN_extract, List.drop_zero, Nat.sub_zero, List.take_of_length_le (l := (strN s).drop k) (by rw [List.length_drop, strN_len]; omega), List.take_append_drop]
theorem ext_size0 (s : ByteArray) (k : Nat) (h : k ≤ s.size) : (s.extract 0 k).size = k := by rw [ByteArray.size_extract]; omega

theorem cut_k (x : Int) (r : Nat) (hr : r ≤ 1500) : ∃ k : Nat, ((wrap64 (wrap64 (x.tmod ((r : Int) + 1) + (r : Int)) + 1)).tmod ((r : Int) + 1)) = (k : Int) ∧ k ≤ r := by
  have h1 : -((r : Int) + 1) < x.tmod ((r : Int) + 1) ∧ x.tmod ((r : Int) + 1) < (r : Int) + 1 := by
    have ha := Int.tmod_lt_of_pos x (show (0 : Int) < (r : Int) + 1 by omega)
    have hb := Int.lt_tmod_of_pos x (show (0 : Int) < (r : Int) + 1 by omega)
    omega
  generalize x.tmod ((r : Int) + 1) = z at *
  rw [IntWalk.wrap64_in (z + r) (by omega), IntWalk.wrap64_in _ (by omega), Int.tmod_eq_emod_of_nonneg (by omega)]
  have h2 := Int.emod_nonneg (z + r + 1) (show (r : Int) + 1 ≠ 0 by omega)
  have h3 := Int.emod_lt_of_pos (z + r + 1) (show (0 : Int) < (r : Int) + 1 by omega)
  exact ⟨((z + r + 1) % ((r : Int) + 1)).toNat, by omega, by omega⟩

set_option maxHeartbeats 8000000 in
set_option maxRecDepth 100000 in
theorem pieces_walk (s : ByteArray) (A : Option Addr) (c : Nat) (xs : List Int) (level : Int) (w : World) (hA : Reads w A xs) (hs : s.size ≤ 140737488351232) (hl : xs.length ≤ 140737488351232) (hO : OrdT w) (hD : DepT w) :
    Calls Tryd.prog 4 #[.string s, .slice A xs.length c, .int .i64 level] w fun e w' => e = .returned (.bool true) ∧ Below w.heap.size w w' := by
  have HSP := Lib.hid (speaks10_calls w ⟨hO, hD⟩)
  have HA := Lib.hid hA
  have HG := Lib.hid (And.intro hO hD)
  obtain ⟨n0, hn0⟩ : ∃ n, xs.length = n := ⟨_, rfl⟩
  have HN0 := Lib.hid hn0
  obtain ⟨k0, hk0⟩ : ∃ k, min s.size 1500 = k := ⟨_, rfl⟩
  have e1 : min (s.size : Int) 1500 = (k0 : Int) := by omega
  have hks : k0 ≤ s.size ∧ k0 ≤ 1500 := by omega
  obtain ⟨t, ht⟩ : ∃ t, s.extract 0 k0 = t := ⟨_, rfl⟩
  have hts : t.size ≤ 1500 := by rw [← ht, ext_size0 s k0 hks.1]; exact hks.2
  have i0 : (0 : Int) ≤ (k0 : Int) := by omega
  have i1 : (k0 : Int) ≤ (s.size : Int) := by omega
  have i2 : decide ((k0 : Int) ≤ (s.size : Int)) = true := decide_eq_true i1
  have i3 : decide (k0 ≤ s.size) = true := decide_eq_true hks.1
  have hlr : 0 ≤ andB 15 level ∧ andB 15 level ≤ 15 := andB_range 15 (by omega) level
  obtain ⟨y, hy⟩ : ∃ y : Int, Go.bits .and .i64 level 15 = y := ⟨_, rfl⟩
  have hyr : 0 ≤ y ∧ y ≤ 15 := by rw [← hy]; exact hlr
  obtain ⟨L, hL⟩ : ∃ L : Nat, (y + 10) % 10 = (L : Int) := ⟨((y + 10) % 10).toNat, by omega⟩
  have hL9 : L ≤ 9 := by omega
  rw [hn0] at hl ⊢
  clear hA hO hD hn0 hk0 hlr
  go_enter Tryd.func4, Tryd.ntmps4
  go_wp2_with fail
  refine HSP.out.mono ?_
  rintro e w1 ⟨rfl, hb1⟩
  have HA1 := Lib.hid (HA.out.below hb1)
  have HG1 : Hid (OrdT w1 ∧ DepT w1) := Lib.hid ⟨HG.out.1.below hb1 (Nat.le_refl _), HG.out.2.below hb1 HG.out.2.lt⟩
  have HB1 := Lib.hid hb1
  clear hb1 HSP HA HG
  go_wp2_with fail
  rw [hL]
  refine (all_calls L t w1 hL9 (by omega) HG1.out).mono ?_
  rintro e w2 ⟨S, rfl, hS, hb2⟩
  have HS := Lib.hid hS
  have HA2 := Lib.hid (HA1.out.below hb2)
  have HG2 : Hid (OrdT w2 ∧ DepT w2) := Lib.hid ⟨HG1.out.1.below hb2 (Nat.le_refl _), HG1.out.2.below hb2 HG1.out.2.lt⟩
  have HB2 := Lib.hid (HB1.out.trans (hb2.mono HB1.out.size))
  clear hS hb2 ht hy hL e1 i2 i3
  go_wp2_with fail
  refine (encnew_calls L w2 hL9).mono ?_
  rintro e w3 ⟨rfl, he3, hb3⟩
  have HE3 := Lib.hid he3
  have HA3 := Lib.hid (HA2.out.below hb3)
  have HB3 := Lib.hid hb3
  have HGL : Hid (GlobT w2 w2.heap.size) := Lib.hid ⟨HG2.out.1, HG2.out.2, HG2.out.1.lt, HG2.out.2.lt⟩
  obtain ⟨X, hX⟩ : ∃ X, w2.heap.size = X := ⟨_, rfl⟩
  have HX := Lib.hid hX
  rw [hX] at HE3 HB3 HGL ⊢
  clear he3 hb3 hX
  go_wp2_with fail
  go_loopw [11, 12, 13] (fun vg vr vi wr => ∃ (i : Nat) (pre rst : ByteArray) (v : Value), vi = .int .i64 i ∧ i ≤ 20 ∧ vg = .string ⟨#[]⟩ ∧ vr = .string rst ∧ pre ++ rst = t ∧ EncAt wr X X L ⟨#[]⟩ pre v [] false ∧ Below X w2 wr) (fun _ _ vi _ => 20 - (intOf vi).toNat)
  case atStart => exact ⟨0, ⟨#[]⟩, t, _, rfl, by omega, rfl, rfl, empty_app t, HE3.out, HB3.out⟩
  case round =>
    obtain ⟨i, pre, rst, v, rfl, hi, rfl, rfl, hpr, hev, hbl⟩ := hrel
    have HPR := Lib.hid hpr
    have HEV := Lib.hid hev
    have HBL := Lib.hid hbl
    have hsz : pre.size + rst.size = t.size := by rw [← hpr, ByteArray.size_append]
    clear hpr hev hbl HE3 HB3
    by_cases hgo : i < n0 ∧ i < 20
    · obtain ⟨hg1, hg2⟩ := hgo
      have q1 : decide ((i : Int) < (n0 : Int)) = true := decide_eq_true (by omega)
      have q1' : decide (i < n0) = true := decide_eq_true hg1
      have q2 : decide ((i : Int) < 20) = true := decide_eq_true (by omega)
      obtain ⟨gx, ox, hax, hcx⟩ := (HA2.out.below (HX.out ▸ HBL.out)) i (by rw [HN0.out]; exact hg1)
      subst hax
      obtain ⟨x, hx⟩ : ∃ x, xs[i]'(by rw [HN0.out]; exact hg1) = x := ⟨_, rfl⟩
      rw [hx] at hcx
      have j0 : (0 : Int) ≤ (i : Int) := by omega
      have j1 : (i : Int) < (n0 : Int) := by omega
      have hrs : rst.size ≤ 1500 := by omega
      clear hx
      obtain ⟨k, hk, hk2⟩ := cut_k x rst.size hrs
      go_upto_region 15 with fail
      clear hk
      have k0 : (0 : Int) ≤ (k : Int) := by omega
      have k1 : (k : Int) ≤ (rst.size : Int) := by omega
      have k2 : decide ((k : Int) ≤ (rst.size : Int)) = true := decide_eq_true k1
      have k3 : decide (k ≤ rst.size) = true := decide_eq_true hk2
      obtain ⟨r1, hr1⟩ : ∃ r1, rst.extract 0 k = r1 := ⟨_, rfl⟩
      obtain ⟨r2, hr2⟩ : ∃ r2, rst.extract k rst.size = r2 := ⟨_, rfl⟩
      have hr1s : r1.size = k := by rw [← hr1]; exact ext_size0 rst k hk2
      have hspl : r1 ++ r2 = rst := by rw [← hr1, ← hr2]; exact ext_split rst k hk2
      have HPR2 : Hid ((pre ++ r1) ++ r2 = t) := Lib.hid (by rw [ByteArray.append_assoc, hspl]; exact HPR.out)
      have HWC := Lib.hid (encw_calls r1 X X L ⟨#[]⟩ pre v [] wr HEV.out (by omega) (by simp))
      clear hr1s hspl
      go_wp2_with fail
      refine HWC.out.mono ?_
      rintro e w5 ⟨S2, v2, bs2, rfl, h1, h2, he2, hb2⟩
      obtain ⟨rfl, rfl⟩ := no_bits h1
      have HE5 := Lib.hid he2
      have HB5 := Lib.hid (HBL.out.trans hb2)
      have hee : (⟨#[]⟩ : ByteArray) ++ (⟨#[]⟩ : ByteArray) = ⟨#[]⟩ := rfl
      clear h1 h2 he2 hb2
      go_wp2
      go_roundw
      case rel => exact ⟨i + 1, pre ++ r1, r2, v2, by go_num, by omega, rfl, rfl, HPR2.out, HE5.out, HB5.out⟩
      case measure => simp [intOf]; omega
    · rcases (by omega : n0 ≤ i ∨ (i < n0 ∧ 20 ≤ i)) with hg | ⟨hg1, hg2⟩
      have q1 : decide ((i : Int) < (n0 : Int)) = false := decide_eq_false (by omega)
      have q1' : decide (i < n0) = false := decide_eq_false (by omega)
      rotate_left
      have q1 : decide ((i : Int) < (n0 : Int)) = true := decide_eq_true (by omega)
      have q1' : decide (i < n0) = true := decide_eq_true (by omega)
      have q2 : decide ((i : Int) < 20) = false := decide_eq_false (by omega)
      rotate_left
      all_goals
        have HWC := Lib.hid (encw_calls rst X X L ⟨#[]⟩ pre v [] wr HEV.out (by omega) (by simp))
        rw [HPR.out] at HWC
        go_wp2_with fail
        refine HWC.out.mono ?_
        rintro e w5 ⟨S2, v2, bs2, rfl, h1, h2, he2, hb2⟩
        obtain ⟨rfl, rfl⟩ := no_bits h1
        have HE5 := Lib.hid he2
        have HB5 := Lib.hid (HBL.out.trans hb2)
        clear h1 h2 he2 hb2
        go_wp2_with fail
        refine (encc_calls X X L ⟨#[]⟩ t v2 [] w5 HE5.out (HGL.out.below HB5.out) hL9 (by omega) (by rw [show (⟨#[]⟩ : ByteArray).size = 0 from rfl]; omega) (by simp)).mono ?_
        rintro e w6 ⟨S3, v3, rfl, h1, he3, hb3⟩
        obtain rfl := stream_one HS.out (show IsStream L t S3 from h1)
        have HE6 := Lib.hid he3
        have HB6 := Lib.hid (HB5.out.trans hb3)
        have hS6 := is_size HS.out (by omega)
        clear h1 he3 hb3
        go_wp2_with fail
        refine (encw_closed _ X X L _ _ v3 [] w6 HE6.out).mono ?_
        rintro e w7 ⟨rfl, rfl⟩
        go_wp2_with fail
        refine (encc_closed X X L _ _ v3 [] _ HE6.out).mono ?_
        rintro e w7 ⟨rfl, rfl⟩
        have hee : (⟨#[]⟩ : ByteArray) ++ (⟨#[]⟩ : ByteArray) = ⟨#[]⟩ := rfl
        have heS : (⟨#[]⟩ : ByteArray) ++ S = S := empty_app S
        have hSS : (S.toList == S.toList) = true := beq_self_eq_true _
        have HFIN := Lib.hid (HB2.out.trans ((HX.out ▸ HB6.out : Below w2.heap.size w2 _).mono HB2.out.size))
        go_wp2
        go_ret
        exact ⟨rfl, HFIN.out⟩
theorem pieces_any (s : ByteArray) (v : Value) (xs : List Int) (level : Int) (w : World) (hs : s.size ≤ 140737488351232) (h : Fa.IntsOf w .i64 v xs) (hx : ∀ x ∈ xs, (Lit.int .i64 x).wf = true) {n : Nat} (hy : n ≤ 140737488351232) (hl : (Lit.int .i64 level).wf = true) (hO : OrdT w) (hD : DepT w) :
    Calls Tryd.prog 4 #[.string s, v, .int .i64 level] w fun e w' => e = .returned (.bool true) ∧ Below w.heap.size w w' := by
  rcases h with ⟨a, c, rfl, rfl, h1, h2⟩ | ⟨b, o, c, rfl, h0, h1, h2, h3, h4⟩
  · exact pieces_walk s a c [] level w (fun j hj => (by cases hj)) hs (by simp) hO hD
  · exact pieces_walk s _ c xs level w (fun j hj => ⟨b, o, rfl, h4 j hj⟩) hs (by omega) hO hD
end Go.Proofs.YtmpokiflhijnoaaDoor.Df
