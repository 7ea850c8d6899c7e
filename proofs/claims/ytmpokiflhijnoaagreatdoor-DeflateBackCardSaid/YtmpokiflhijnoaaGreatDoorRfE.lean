/-
  The reference of layer 7: the lengths of a Dynamic block are told again.
-/
import Derived.Test.YtmpokiflhijnoaaGreatDoorRfD
import Derived.BigQuiet
import Derived.Test.YtmpokiflhijnoaaGreatDoorRfC
import Derived.Test.YtmpokiflhijnoaaGreatDoorBkWrite0
namespace Go.Proofs.YtmpokiflhijnoaaGreatDoor.Rf
open Go.RowKit Go.Shelf Go.Proofs.YtmpokiflhijnoaaGreatDoor.Mg Go.Proofs.YtmpokiflhijnoaaGreatDoor.Bw Go.Proofs.YtmpokiflhijnoaaGreatDoor.Bk Go.Proofs.YtmpokiflhijnoaaGreatDoor.Cn Go.Proofs.YtmpokiflhijnoaaGreatDoor.Zp
set_option linter.unusedVariables false
set_option linter.unusedSimpArgs false

def ordI' : List Int := [16, 17, 18, 0, 8, 7, 9, 6, 10, 5, 11, 4, 12, 3, 13, 2, 14, 1, 15]
theorem ordI_len : ordI'.length = 19 := rfl
theorem ordI_get : ∀ i, i < 19 → ordI'[i]? = some ((ordT.getD i 0 : Nat) : Int) := by decide +kernel
theorem own_form {w : World} {base T size n : Nat} {v : Value} {xs : List Value} (h : w.ownsRow base T size v n xs) : ∃ g c, v = .slice g n c := by
  rcases h.2 with ⟨rfl, rfl⟩ | ⟨g, cap, cur, rfl, -⟩
  · exact ⟨_, _, rfl⟩
  · exact ⟨_, _, rfl⟩
theorem getLast_get {l : List Int} {v : Int} (h : l.getLast? = some v) : 0 < l.length ∧ l[l.length - 1]? = some v := by
  rcases l with _ | ⟨a, t⟩
  · simp at h
  · refine ⟨by simp, ?_⟩
    rw [List.getLast?_eq_getElem?] at h
    exact h
theorem one64 (x : Int) : ∀ u ∈ [Value.int .i64 x], u.oneCell' = true := by
  intro u hu
  rw [List.mem_singleton.1 hu]
  rfl
theorem results_tmp4 {fn : Func} {t u v x : Tmp} (h : fn.results = #[.tmp t, .tmp u, .tmp v, .tmp x]) (tmps : Array Value) (P : Program) (w : World) :
    (results fn tmps).run P w = .ok (.tuple #[tmps.getD t undef, tmps.getD u undef, tmps.getD v undef, tmps.getD x undef]) w := by
  simp [results, h]
theorem rowI_new {W : World} {o : List Int} : RowI (W.alloc (.cells (cellsI o) 3)) W.heap.size o := World.alloc_heap_new _ _
theorem intsV_len (l : List Int) : (intsV l).length = l.length := List.length_map _
theorem reads_own {w : World} {base g c : Nat} {ls : List Int} {n : Nat} (h : w.ownsRow base 3 1 (.slice (some ⟨g, 0, none⟩) n c) n (intsV ls)) (i : Nat) (sub : List Int) (hsub : ∀ j (hj : j < sub.length), ls[i + j]? = some sub[j]) : Reads w (some ⟨g, i, none⟩) sub := fun j hj => by
  refine ⟨g, i, rfl, ?_⟩
  refine own_cell1 h _ _ ?_
  unfold intsV
  rw [List.getElem?_map, hsub j hj]
  rfl

set_option maxHeartbeats 16000000 in
set_option maxRecDepth 100000 in
theorem heads_calls (gA oA c : Nat) (bs rest : List Bool) (at' : Nat) (ls ds z : List Int) (l : List Ex) (w : World)
    (hA : BitsAt w (some ⟨gA, oA, none⟩) bs) (hc : bs.length ≤ c) (hcl : bs.length ≤ 1000000000) (ha : at' ≤ bs.length)
    (hla : 257 ≤ ls.length ∧ ls.length ≤ 286) (hld : 1 ≤ ds.length ∧ ds.length ≤ 30) (hz : z.length = 19) (hzi : ∀ x ∈ z, 0 ≤ x ∧ x ≤ 7) (hzt : tot 15 z = 2 ^ 15) (hzw : whyOk z false)
    (hu : unP [] l = some (ls ++ ds)) (hlo : ∀ x ∈ l, 0 < z.getD x.sym.toNat 0) (hli : ∀ x ∈ ls, 0 ≤ x ∧ x ≤ 15) (hdi : ∀ x ∈ ds, 0 ≤ x ∧ x ≤ 15) (h256 : 0 < ls.getD 256 0) (hlw : whyOk ls false) (hdw : whyOk ds true)
    (hbits : bs.drop at' = bitsN 14 (headN ls.length ds.length (tellC z)) ++ (tellsB z (tellC z) ++ (exsB z l ++ rest))) :
    Calls Tryz.prog 29 #[.slice (some ⟨gA, oA, none⟩) bs.length c, .int .i64 at'] w fun e w' =>
      ∃ g c1 c2 : Nat, e = .returned (.tuple #[.slice (some ⟨g, 0, none⟩) ls.length c1, .slice (some ⟨g, ls.length, none⟩) ds.length c2, .int .i64 ((bs.length - rest.length : Nat) : Int), .int .i64 0]) ∧ Reads w' (some ⟨g, 0, none⟩) ls ∧ Reads w' (some ⟨g, ls.length, none⟩) ds ∧ Below w.heap.size w w' := by
  obtain ⟨i0, hi, hz0, hz1, hz2⟩ := info_parts info_int
  have hii : Tryz.prog.info? 3 = some ti := by kernel_rfl
  have hiz0 : ti.zero = some (.int .i64 0) := by kernel_rfl
  have hiz1 : ti.size = 1 := by kernel_rfl
  have hiz2 : ti.bytes = 8 := by kernel_rfl
  have hmk : ∀ W : World, (Instr.makeSlice 64 (.int .i64 19) (.int .i64 19)).run Tryz.prog W = .ok (.slice (some ⟨W.heap.size, 0, none⟩) 19 19) (W.alloc (.cells (cellsI (List.replicate 19 0)) 3)) := fun W => by
    have := run_make (P := Tryz.prog) W 64 3 i0 (.int .i64 0) Tryz.underlying64 hi hz0 .i64 .i64 (19 : Nat) (19 : Nat) (by omega) (by omega) (by rw [hz2]; omega) (by omega)
    rw [← made_cells]
    simpa [hz1, Value.cells] using this
  have HNU := Lib.hid (fun (W : World) (a k x : Nat) (r : List Bool) (hA : BitsAt W (some ⟨gA, oA, none⟩) bs) (ha : a ≤ bs.length) (hk : k ≤ 32) (hx : x < 2 ^ k) (hd : bs.drop a = bitsN k x ++ r) => (by
    have hlen := congrArg List.length hd
    rw [List.length_drop, List.length_append, bitsN_len] at hlen
    have h := num_calls gA oA c bs a k W hA hc (by omega) hk (by omega)
    rw [hd, List.take_left' (bitsN_len k x), numB_bits, Nat.mod_eq_of_lt hx] at h
    exact h : Calls Tryz.prog 48 #[.slice (some ⟨gA, oA, none⟩) bs.length c, .int .i64 a, .int .i64 k] W fun e w' => e = .returned (.tuple #[.int .i64 (x : Int), .bool true]) ∧ w' = W))
  have hz15 : ∀ x ∈ z, 0 ≤ x ∧ x ≤ 15 := fun x hx => by have := hzi x hx; omega
  have HNZ := Lib.hid (fun (W : World) (B a s : Nat) (r : List Bool) (hA : BitsAt W (some ⟨gA, oA, none⟩) bs) (hB : RowS W B 19 (fun t => txt (wordB z t))) (ha : a ≤ bs.length) (hs : s < 19) (hp : 0 < z.getD s 0) (hd : bs.drop a = wordB z s ++ r) => next_calls (some ⟨gA, oA, none⟩) c B 19 z bs r a s W hA hB hz (by decide) (by omega) (by omega) hz15 (by omega) hs hp hd)
  have HWZ := Lib.hid (fun (W : World) (g : Nat) (h : Reads W (some ⟨g, 0, none⟩) z) => why_calls (some ⟨g, 0, none⟩) 19 z false W h (by omega) hz15 hzw)
  have HWO := Lib.hid (fun (W : World) (g : Nat) (h : Reads W (some ⟨g, 0, none⟩) z) => words_calls (some ⟨g, 0, none⟩) 19 z W h (by omega) hz15)
  have HWL := Lib.hid (fun (W : World) (g c2 : Nat) (h : Reads W (some ⟨g, 0, none⟩) ls) => why_calls (some ⟨g, 0, none⟩) c2 ls false W h (by omega) hli hlw)
  have HWD := Lib.hid (fun (W : World) (g o c2 : Nat) (h : Reads W (some ⟨g, o, none⟩) ds) => why_calls (some ⟨g, o, none⟩) c2 ds true W h (by omega) hdi hdw)
  rw [hz] at HWZ HWO
  have HZI := Lib.hid hzi
  have HZL := Lib.hid hz
  have HLO := Lib.hid hlo
  have HU := Lib.hid hu
  have HA := Lib.hid hA
  have HCR := tellC_range z
  have HPE := Lib.hid (partZ_end z hz)
  obtain ⟨la, hla2⟩ : ∃ k, ls.length = k := ⟨_, rfl⟩
  obtain ⟨ld, hld2⟩ : ∃ k, ds.length = k := ⟨_, rfl⟩
  obtain ⟨tc, htc⟩ : ∃ k, tellC z = k := ⟨_, rfl⟩
  obtain ⟨V, hV⟩ : ∃ k, headN ls.length ds.length (tellC z) = k := ⟨_, rfl⟩
  have hVp := headN_parts ls.length ds.length (tellC z) hla hld HCR
  obtain ⟨nb, hnb⟩ : ∃ k, bs.length = k := ⟨_, rfl⟩
  rw [hV] at hVp hbits
  rw [htc] at hVp hbits HCR HPE
  rw [hla2] at hVp hla HWL
  rw [hld2] at hVp hld HWD
  have HLE := Lib.hid (fun (a : Nat) (x y : List Bool) (ha : a ≤ bs.length) (h : bs.drop a = x ++ y) => (by have := drop_more h; rw [hnb] at *; exact ⟨this.1, by have := this.2; omega⟩ : bs.drop (a + x.length) = y ∧ a + x.length ≤ nb))
  have HU1 := Lib.hid (HNU.out w at' 14 V _ hA ha (by decide) hVp.1 hbits)
  obtain ⟨h1, h2⟩ := HLE.out at' _ _ ha hbits
  rw [bitsN_len] at h1 h2
  have H1 := Lib.hid h1
  rw [hla2, hld2, hnb]
  rw [hnb] at HNU HNZ HLE HU1 hc ha hcl
  have HNB := Lib.hid hnb
  have HLA := Lib.hid hla2
  have HLD := Lib.hid hld2
  have e1 : (V : Int) % 32 + 257 = (la : Int) := by omega
  have e2 : (V : Int) / 32 % 32 + 1 = (ld : Int) := by omega
  have e3 : (V : Int) / 1024 + 4 = (tc : Int) := by omega
  have b0 : V < 16384 := hVp.1
  have q1 : decide (286 < (la : Int)) = false := decide_eq_false (by omega)
  have q2 : decide (30 < (ld : Int)) = false := decide_eq_false (by omega)
  obtain ⟨a1, ha1⟩ : ∃ k, at' + 14 = k := ⟨_, rfl⟩
  have e4 : (at' : Int) + 14 = (a1 : Int) := by omega
  rw [ha1] at h2 H1
  have H256 := Lib.hid h256
  clear hA hz hzi hzt hzw hu hlo hli hdi h256 hlw hdw hbits hi hz0 hz1 hz2 hz15 h1 hla2 hld2 htc hV hVp hnb ha1
  have hmw := hmk (w.alloc (.cells (cellsI ordI') 3))
  have HOE : Hid ((#[Value.int .i64 16, .int .i64 17, .int .i64 18, .int .i64 0, .int .i64 8, .int .i64 7, .int .i64 9, .int .i64 6, .int .i64 10, .int .i64 5, .int .i64 11, .int .i64 4, .int .i64 12, .int .i64 3, .int .i64 13, .int .i64 2, .int .i64 14, .int .i64 1, .int .i64 15] : Array Value) = cellsI ordI') := Lib.hid rfl
  obtain ⟨Z0, hZ0⟩ : ∃ Z0, cellsI (List.replicate 19 0) = Z0 := ⟨_, rfl⟩
  have HZ0 := Lib.hid hZ0
  rw [hZ0] at hmw
  clear hmk hZ0
  go_enter Tryz.func29, Tryz.ntmps29
  go_wp2_with fail
  refine HU1.out.mono ?_
  rintro e w1 ⟨rfl, rfl⟩
  go_upto_region 9 with fail
  rw [HOE.out]
  have HB0 : Hid (Below w1.heap.size w1 ((w1.alloc (.cells (cellsI ordI') 3)).alloc (.cells Z0 3))) := Lib.hid (((Below.refl _ _).alloc (Nat.le_refl _) _).alloc (by simp) _)
  obtain ⟨go, hgo⟩ : ∃ k, w1.heap.size = k := ⟨_, rfl⟩
  obtain ⟨gl, hgl⟩ : ∃ k, (w1.alloc (.cells (cellsI ordI') 3)).heap.size = k := ⟨_, rfl⟩
  have hgg : gl = go + 1 := by rw [← hgl, ← hgo]; simp
  have HRO : Hid (RowI ((w1.alloc (.cells (cellsI ordI') 3)).alloc (.cells Z0 3)) go ordI') := Lib.hid (by
    rw [← hgo]
    exact rowI_new.below ((Below.refl _ _).alloc (Nat.le_refl _) _))
  have HRL : Hid (RowI ((w1.alloc (.cells (cellsI ordI') 3)).alloc (.cells Z0 3)) gl (partZ z 0)) := Lib.hid (by
    rw [← hgl, partZ_zero, ← HZ0.out]
    exact rowI_new)
  go_wp2_with fail
  have HGG := Lib.hid hgg
  rw [hgo, ← HGG.out]
  obtain ⟨w2, hw2⟩ : ∃ w2, (w1.alloc (.cells (cellsI ordI') 3)).alloc (.cells Z0 3) = w2 := ⟨_, rfl⟩
  rw [hw2] at HB0 HRO HRL ⊢
  have hgn : go ≠ gl := by omega
  have HGO := Lib.hid hgo
  clear hmw hgg hgo hgl hw2 HU1 e1 e2 e3 e4 q1 q2
  go_loopw [1, 15] (fun va vi wr => ∃ i a : Nat, i ≤ tc ∧ vi = .int .i64 i ∧ va = .int .i64 a ∧ a = a1 + 3 * i ∧ RowI wr go ordI' ∧ RowI wr gl (partZ z i) ∧ Below w1.heap.size w1 wr) (fun _ vi _ => tc - (intOf vi).toNat)
  case atStart => exact ⟨0, a1, Nat.zero_le _, rfl, rfl, rfl, HRO.out, HRL.out, HB0.out⟩
  case round =>
    obtain ⟨i, a, hi, rfl, rfl, hai, hro, hrl, hbl⟩ := hrel
    have HRO1 := Lib.hid hro
    have HRL1 := Lib.hid hrl
    have HB1 := Lib.hid hbl
    clear hro hrl hbl HB0 HRO HRL
    by_cases hit : i < tc
    · have q3 : decide ((i : Int) < (tc : Int)) = true := decide_eq_true (by omega)
      have q3' : decide (i < tc) = true := decide_eq_true hit
      obtain ⟨r, hr⟩ := tellsB_split z i tc hit
      have hb1 := H1.out
      rw [hr] at hb1
      simp only [List.append_assoc] at hb1
      obtain ⟨h3, h4⟩ := HLE.out a1 _ _ h2 hb1
      rw [tellsB_len, ← hai] at h3 h4
      have ho := ordI_ord i (by omega)
      obtain ⟨hoL, hog⟩ := List.getElem?_eq_some_iff.1 (ordI_get i (by omega))
      have hpn := partZ_next z i (by omega)
      unfold tellB at h3
      have hoc := HRO1.out.cell i (by rw [ordI_len]; omega)
      rw [hog] at hoc
      obtain ⟨oc1, oc2⟩ := hoc
      obtain ⟨o, ho2⟩ : ∃ o, ordT.getD i 0 = o := ⟨_, rfl⟩
      rw [ho2] at h3 oc1 hpn ho
      have hzo : 0 ≤ z.getD o 0 ∧ z.getD o 0 ≤ 7 := by
        have h := HZI.out (z.getD o 0)
        rw [getD_of (by rw [HZL.out]; exact ho.2)] at h ⊢
        exact h (List.getElem_mem _)
      obtain ⟨x, hx⟩ : ∃ x : Nat, z.getD o 0 = x := ⟨(z.getD o 0).toNat, by omega⟩
      rw [hx] at h3 hpn hzo
      have hxn : ((x : Int)).toNat = x := by omega
      rw [hxn] at h3
      have HU2 := Lib.hid (HNU.out wr a 3 x _ (HA.out.below HB1.out) h4 (by decide) (by omega) h3)
      obtain ⟨h5, h6⟩ := HLE.out a _ _ h4 h3
      rw [bitsN_len] at h6
      obtain ⟨y0, lc1, lc2⟩ : ∃ y, wr.cell? ⟨gl, o, none⟩ = some y ∧ wr.frozen? ⟨gl, o, none⟩ = false := ⟨_, HRL1.out.cell o (by rw [partZ_len]; exact ho.2)⟩
      have HRL2 : Hid (RowI (wr.setCell ⟨gl, o, none⟩ (.int .i64 (x : Int))) gl (partZ z (i + 1))) := Lib.hid (by
        rw [hpn]
        exact HRL1.out.set o x)
      have HRO2 : Hid (RowI (wr.setCell ⟨gl, o, none⟩ (.int .i64 (x : Int))) go ordI') := Lib.hid (HRO1.out.grown (Mg.grown_set wr gl o (.int .i64 (x : Int))) (fun e => hgn (Option.some.inj e)))
      have HB2 : Hid (Below w1.heap.size w1 (wr.setCell ⟨gl, o, none⟩ (.int .i64 (x : Int)))) := Lib.hid (HB1.out.setCell (p := ⟨gl, o, none⟩) (by simp only; rw [HGO.out]; have := HGG.out; omega) _)
      have ho19 : o < 19 := ho.2
      have b2 : a ≤ nb := h4
      have b3 : nb ≤ 1000000000 := by omega
      have HAI := Lib.hid hai
      clear hr hb1 h3 h5 hx hxn hpn hog ho ho2 hai
      go_wp2_with fail
      refine HU2.out.mono ?_
      rintro e w3 ⟨rfl, rfl⟩
      go_wp2
      go_roundw
      case rel => exact ⟨i + 1, a + 3, by omega, by go_num, by go_num, by have := HAI.out; omega, HRO2.out, HRL2.out, HB2.out⟩
      case measure => simp [intOf]; omega
    · have hit2 : i = tc := by omega
      have q3 : decide ((i : Int) < (tc : Int)) = false := decide_eq_false (by omega)
      have q3' : decide (i < tc) = false := decide_eq_false hit
      have HRZ : Hid (RowI wr gl z) := Lib.hid (by
        have h := HRL1.out
        rw [hit2, HPE.out] at h
        exact h)
      obtain ⟨h3, h4⟩ := HLE.out a1 _ _ h2 H1.out
      rw [tellsB_len, ← hit2, ← hai] at h3 h4
      have H3 := Lib.hid h3
      obtain ⟨N, hN⟩ : ∃ N, la + ld = N := ⟨_, rfl⟩
      have HN := Lib.hid hN
      have eN : (la : Int) + (ld : Int) = (N : Int) := by omega
      have bN : N ≤ 316 := by omega
      have hw1 : w1.heap.size ≤ wr.heap.size := HB1.out.size
      clear h3 HRL1 hit2 hai hi hit
      go_wp2_with fail
      refine (HWZ.out _ gl HRZ.out.reads).mono ?_
      rintro e w3 ⟨rfl, rfl⟩
      go_wp2_with fail
      refine (HWO.out _ gl HRZ.out.reads).mono ?_
      rintro e w4 ⟨B, rfl, hrs, hB, hb4⟩
      have HRS := Lib.hid hrs
      have HB4 := Lib.hid (HB1.out.trans (hb4.mono hw1))
      have N0 := Lib.hid (World.ownsRow_nil w4 w4.heap.size 3 1)
      clear hrs hb4 q3 q3' HRZ HRO1 HB1
      go_wp2_with fail
      go_loopw [1, 20] (fun va vo wr => ∃ (a : Nat) (ol : List Int) (l' : List Ex), va = .int .i64 a ∧ a ≤ nb ∧ bs.drop a = exsB z l' ++ rest ∧ unP ol l' = some (ls ++ ds) ∧ (∀ x ∈ l', 0 < z.getD x.sym.toNat 0) ∧ wr.ownsRow w4.heap.size 3 1 vo ol.length (intsV ol) ∧ Grew (.slice none 0 0) w4 vo wr) (fun va _ _ => nb - (intOf va).toNat)
      case atStart => exact ⟨a, [], l, rfl, h4, H3.out, HU.out, HLO.out, N0.out, Grew.refl _ _⟩
      case round =>
        obtain ⟨a, ol, l', rfl, hab, hbs, hun, hlo, hoq, hgq⟩ := hrel
        have HOQ := Lib.hid hoq
        have HGQ := Lib.hid hgq
        have HLO' := Lib.hid hlo
        have HBR : Hid (Below w1.heap.size w1 wr) := Lib.hid (HB4.out.trans (Below.mono (HGQ.out.below (base := w4.heap.size) (fun k e => by cases e) (Nat.le_refl _)) HB4.out.size))
        have HRS' : Hid (RowS wr B 19 (fun s => txt (wordB z s))) := Lib.hid (HGQ.out.rowS HRS.out (by intro e; cases e))
        have HA' := Lib.hid (HA.out.below HBR.out)
        have hwb : w4.heap.size ≤ wr.heap.size := HGQ.out.grown.size
        clear hoq hgq hlo
        rcases l' with _ | ⟨x, l'⟩
        · have hol : ol = ls ++ ds := by
            rw [unP] at hun
            exact Option.some.inj hun
          have hLN : ol.length = N := by rw [hol, List.length_append, HLA.out, HLD.out, HN.out]
          have hend : a = nb - rest.length := by
            have h := congrArg List.length hbs
            rw [List.length_drop, HNB.out] at h
            have h2 : (exsB z [] ++ rest).length = rest.length := rfl
            omega
          rw [hLN] at HOQ
          obtain ⟨gq, cq, rfl, hgq0, _⟩ := HOQ.out.form (by omega)
          have hcq : N ≤ cq := by
            rcases HOQ.out.2 with ⟨h, _⟩ | ⟨g, cap, cur, h, _, _, hnc, _⟩
            · cases h
            · cases h
              exact hnc
          have hr1 : Reads wr (some ⟨gq, 0, none⟩) ls := reads_own HOQ.out 0 ls (fun j hj => by rw [hol, Nat.zero_add, List.getElem?_append_left hj, List.getElem?_eq_getElem hj])
          have hr2 : Reads wr (some ⟨gq, la, none⟩) ds := reads_own HOQ.out la ds (fun j hj => by
            rw [hol, List.getElem?_append_right (by rw [HLA.out]; omega), HLA.out, Nat.add_sub_cancel_left, List.getElem?_eq_getElem hj])
          have HR1 := Lib.hid hr1
          have HR2 := Lib.hid hr2
          have hcell : wr.cell? ⟨gq, 256, none⟩ = some (.int .i64 (ls.getD 256 0)) := by
            refine own_cell1 HOQ.out 256 _ ?_
            unfold intsV
            rw [List.getElem?_map, hol, List.getElem?_append_left (by rw [HLA.out]; omega), List.getElem?_eq_getElem (by rw [HLA.out]; omega), getD_of (by rw [HLA.out]; omega)]
            rfl
          obtain ⟨y, hy⟩ : ∃ y, ls.getD 256 0 = y := ⟨_, rfl⟩
          have hyp : 0 < y := by rw [← hy]; exact H256.out
          rw [hy] at hcell
          have q4 : decide ((N : Int) < (N : Int)) = false := decide_eq_false (by omega)
          have q4' : decide (N < N) = false := decide_eq_false (by omega)
          have q5 : (y == 0) = false := beq_eq_false_iff_ne.2 (by omega)
          have b4 : (la : Int) ≤ (N : Int) ∧ (la : Int) ≤ (cq : Int) ∧ (N : Int) ≤ (cq : Int) := by omega
          have b5 : (N : Int) - (la : Int) = (ld : Int) := by omega
          have b6 : ¬ cq = la := by omega
          have b7 : ¬ la = cq := by omega
          have HEND := Lib.hid hend
          have HLN : Hid (N - la = ld) := Lib.hid (by omega)
          clear hbs hun hol hLN hr1 hr2 hend hy
          go_wp2_with fail
          refine (HWL.out wr gq cq HR1.out).mono ?_
          rintro e w5 ⟨rfl, rfl⟩
          go_wp2_with fail
          rw [HLN.out]
          refine (HWD.out w5 gq la (cq - la) HR2.out).mono ?_
          rintro e w6 ⟨rfl, rfl⟩
          go_wp2_with fail
          go_quiet (fail)
          generalize hW : World.drewN _ _ = w7
          have HB7 : Hid (Below w6.heap.size w6 w7) := Lib.hid (by rw [← hW]; exact below_drewN (Below.refl _ _) _)
          clear hW
          go_wp2_with fail
          (try simp only [Exit.inBlock, Exit.then])
          refine bodyPost_ret (results_tmp4 rfl _ _ _) rfl ?_
          refine ⟨gq, cq, cq - la, ?_, HR1.out.below HB7.out, HR2.out.below HB7.out, ?_⟩
          · rw [← HEND.out, ← HLN.out]
            rfl
          · exact HBR.out.trans (Below.mono HB7.out HBR.out.size)
        · have hle : ol.length + 1 ≤ N := by
            have hLN : (ls ++ ds).length = N := by rw [List.length_append, HLA.out, HLD.out, HN.out]
            rcases un_step hun with ⟨_, _, _, _, h⟩ | ⟨v, least, bits, m, hk, _, _, h⟩
            · have := un_len _ _ _ h
              rw [hLN, List.length_append] at this
              exact this
            · have := un_len _ _ _ h
              rw [hLN, List.length_append, List.length_replicate] at this
              rcases hk with hk | hk | hk <;> omega
          have hbs2 : bs.drop a = wordB z x.sym.toNat ++ (bitsN x.bits x.val ++ (exsB z l' ++ rest)) := by
            rw [hbs, exsB_cons]
            unfold exB
            simp only [List.append_assoc]
          have hlx := HLO'.out x List.mem_cons_self
          have HLO2 := Lib.hid (fun y hy => HLO'.out y (List.mem_cons_of_mem _ hy))
          clear hbs
          rcases un_step hun with ⟨hx0, hx1, hx2, hx3, hun2⟩ | ⟨v, least, bits, mm, hk, hxb, hxv, hun2⟩
          · obtain ⟨s, hs⟩ : ∃ s : Nat, x.sym = s := ⟨x.sym.toNat, by omega⟩
            have hsn : x.sym.toNat = s := by omega
            rw [hsn] at hlx hbs2
            rw [hx2, bitsN_zero, List.nil_append] at hbs2
            rw [hs] at hun2
            have hs16 : s < 16 := by omega
            have HNX := Lib.hid (HNZ.out wr B a s _ HA'.out HRS'.out hab (by omega) hlx hbs2)
            obtain ⟨h5, h6⟩ := HLE.out a _ _ hab hbs2
            have hwp : 0 < (wordB z s).length := List.length_pos_iff.2 (word_ne (fun x hx => by have := HZI.out x hx; omega) hlx)
            obtain ⟨a2, ha2⟩ : ∃ k, a + (wordB z s).length = k := ⟨_, rfl⟩
            rw [ha2] at HNX h5 h6
            have H5 := Lib.hid h5
            have HUN2 := Lib.hid hun2
            obtain ⟨m, hm⟩ : ∃ m, ol.length = m := ⟨_, rfl⟩
            have HM := Lib.hid hm
            rw [hm] at HOQ hle
            obtain ⟨Ao, co, rfl⟩ := own_form HOQ.out
            have haa : a < a2 := by omega
            have q4 : decide ((m : Int) < (N : Int)) = true := decide_eq_true (by omega)
            have q4' : decide (m < N) = true := decide_eq_true (by omega)
            have q5 : decide ((s : Int) < 16) = true := decide_eq_true (by omega)
            clear h5 hwp ha2 hbs2 hun hun2 hm hx0 hx1 hx2 hx3 hs hsn hlx
            go_wp2_with fail
            refine HNX.out.mono ?_
            rintro e w5 ⟨rfl, hb5⟩
            have HO5 := Lib.hid (own_below HOQ.out hb5)
            have HG5 := Lib.hid (HGQ.out.more hb5)
            have hbz : w4.heap.size ≤ w5.heap.size := by have h3 := hb5.size; omega
            clear hb5
            go_wp2_with (at_builtin; refine wpList_append_at _ rfl _ _ 64 rfl w4.heap.size 3 ti (.int .i64 0) 1 8 Tryz.underlying64 hii hiz0 hiz1 hiz2 rfl (by decide) _ _ _ rfl (HO5.out.alloc _) ⟨w5.heap.size, 0, none⟩ 1 1 [.int .i64 (s : Int)] rfl rfl ?c1 ?c2 ?c3 ?c4 ?c5 ?_)
            case c1 => exact new_cells w5 [.int .i64 (s : Int)] _
            case c2 => exact one64 _
            case c3 => unfold maxLen; omega
            case c4 => omega
            case c5 => simp; omega
            intro v7 w7 hown1 hg1 hfr
            have HG7 : Hid (Grew (.slice none 0 0) w4 v7 w7) := Lib.hid ((HG5.out.more ((Below.refl _ _).alloc (Nat.le_refl _) _)).trans ⟨hg1, fun k e => by have := hfr k e; simpa using this⟩)
            have HO7 : Hid (w7.ownsRow w4.heap.size 3 1 v7 (ol ++ [(s : Int)]).length (intsV (ol ++ [(s : Int)]))) := Lib.hid (by
              rw [intsV_snoc, List.length_append, HM.out]
              exact hown1)
            clear hown1 hg1 hfr hbz
            go_wp2
            go_roundw
            case rel => exact ⟨a2, ol ++ [(s : Int)], l', rfl, h6, H5.out, HUN2.out, HLO2.out, HO7.out, HG7.out⟩
            case measure => simp [intOf]; omega
          · rcases hk with ⟨hsy, hlv, rfl, rfl, rfl⟩ | ⟨hsy, rfl, rfl, rfl, rfl⟩ | ⟨hsy, rfl, rfl, rfl, rfl⟩
            · have hxn : x.sym.toNat = 16 := by omega
              rw [hxn] at hlx hbs2
              rw [hxb] at hbs2
              have HNX := Lib.hid (HNZ.out wr B a 16 _ HA'.out HRS'.out hab (by decide) hlx hbs2)
              obtain ⟨h5, h6⟩ := HLE.out a _ _ hab hbs2
              have hwp : 0 < (wordB z 16).length := List.length_pos_iff.2 (word_ne (fun x hx => by have := HZI.out x hx; omega) hlx)
              obtain ⟨a2, ha2⟩ : ∃ k, a + (wordB z 16).length = k := ⟨_, rfl⟩
              rw [ha2] at HNX h5 h6
              obtain ⟨xv, hxv2⟩ : ∃ k, x.val = k := ⟨_, rfl⟩
              rw [hxv2] at h5 hxv hun2
              have HNM := Lib.hid (fun W hA => HNU.out W a2 2 xv _ hA h6 (by decide) (by omega) h5)
              obtain ⟨h7, h8⟩ := HLE.out a2 _ _ h6 h5
              rw [bitsN_len] at h7 h8
              obtain ⟨a3, ha3⟩ : ∃ k, a2 + 2 = k := ⟨_, rfl⟩
              rw [ha3] at h7 h8
              have H7 := Lib.hid h7
              have HUN2 := Lib.hid hun2
              obtain ⟨m, hm⟩ : ∃ m, ol.length = m := ⟨_, rfl⟩
              have hmN : m + (3 + xv) ≤ N := by
                have := un_len _ _ _ hun2
                have hLN : (ls ++ ds).length = N := by rw [List.length_append, HLA.out, HLD.out, HN.out]
                rw [hLN, List.length_append, List.length_replicate, hm] at this
                exact this
              obtain ⟨hop, hlast⟩ := getLast_get hlv
              have hlast2 : (intsV ol)[ol.length - 1]? = some (.int .i64 v) := by
                unfold intsV
                rw [List.getElem?_map, hlast]
                rfl
              obtain ⟨j, hj⟩ : ∃ j, ol.length - 1 = j := ⟨_, rfl⟩
              rw [hj] at hlast2
              have hmj : (m : Int) - 1 = (j : Int) := by omega
              have hj2 : j < m := by omega
              have HM := Lib.hid hm
              rw [hm] at HOQ hle
              obtain ⟨gq, co, rfl, _, _⟩ := HOQ.out.form (by omega)
              have q7 : ((m : Int) == 0) = false := beq_eq_false_iff_ne.2 (by omega)
              have q7' : (m == 0) = false := beq_eq_false_iff_ne.2 (by omega)
              clear hlv hop hlast hj
              have haa : a < a2 ∧ a2 ≤ a3 := by omega
              have e3 : (a2 : Int) + 2 = (a3 : Int) := by omega
              have q4 : decide ((m : Int) < (N : Int)) = true := decide_eq_true (by omega)
              have q4' : decide (m < N) = true := decide_eq_true (by omega)
              have q6 : decide ((N : Int) < (m : Int) + 3 + (xv : Int)) = false := decide_eq_false (by omega)
              have b8 : (m : Int) + 3 + (xv : Int) ≤ 316 := by omega
              clear h5 h7 hwp ha2 ha3 hbs2 hun hun2 hm hxv2 hxn hlx hxb
              go_wp2_with fail
              refine HNX.out.mono ?_
              rintro e w5 ⟨rfl, hb5⟩
              have HO5 := Lib.hid (own_below HOQ.out hb5)
              have HG5 := Lib.hid (HGQ.out.more hb5)
              have HA5 := Lib.hid (HA'.out.below hb5)
              clear hb5
              have hcell := own_cell1 HO5.out j _ hlast2
              clear hlast2
              go_wp2_with fail
              refine (HNM.out w5 HA5.out).mono ?_
              rintro e w6 ⟨rfl, rfl⟩
              go_wp2
              clear q4 q4' q6 e3
              go_loopw [20, 29] (fun vo vi wr => ∃ i : Nat, i ≤ 3 + xv ∧ vi = .int .i64 i ∧ wr.ownsRow w4.heap.size 3 1 vo (m + i) (intsV (ol ++ List.replicate i v)) ∧ Grew (.slice none 0 0) w4 vo wr) (fun _ vi _ => 3 + xv - (intOf vi).toNat)
              case atStart => exact ⟨0, Nat.zero_le _, rfl, by rw [List.replicate_zero, List.append_nil]; exact HO5.out, HG5.out⟩
              case round =>
                obtain ⟨i, hi, rfl, hoq, hgq⟩ := hrel
                have HOR := Lib.hid hoq
                have HGR := Lib.hid hgq
                have hbz : w4.heap.size ≤ wr.heap.size := hgq.grown.size
                clear hoq hgq HO5 HG5
                by_cases hin : i < 3 + xv
                · have q6 : decide ((i : Int) < 3 + (xv : Int)) = true := decide_eq_true (by omega)
                  obtain ⟨mi, hmi⟩ : ∃ k, m + i = k := ⟨_, rfl⟩
                  have HMI : Hid (m + (i + 1) = mi + 1) := Lib.hid (by omega)
                  have hmb : mi ≤ 316 := by omega
                  rw [hmi] at HOR
                  clear hmi
                  go_wp2_with (at_builtin; refine wpList_append_at _ rfl _ _ 64 rfl w4.heap.size 3 ti (.int .i64 0) 1 8 Tryz.underlying64 hii hiz0 hiz1 hiz2 rfl (by decide) _ _ _ rfl (HOR.out.alloc _) ⟨wr.heap.size, 0, none⟩ 1 1 [.int .i64 v] rfl rfl ?c1 ?c2 ?c3 ?c4 ?c5 ?_)
                  case c1 => exact new_cells wr [.int .i64 v] _
                  case c2 => exact one64 _
                  case c3 => unfold maxLen; omega
                  case c4 => omega
                  case c5 => simp; omega
                  intro v7 w7 hown1 hg1 hfr
                  have HG7 : Hid (Grew (.slice none 0 0) w4 v7 w7) := Lib.hid ((HGR.out.more ((Below.refl _ _).alloc (Nat.le_refl _) _)).trans ⟨hg1, fun k e => by have := hfr k e; simpa using this⟩)
                  have HO7 : Hid (w7.ownsRow w4.heap.size 3 1 v7 (m + (i + 1)) (intsV (ol ++ List.replicate (i + 1) v))) := Lib.hid (by
                    rw [List.replicate_succ', ← List.append_assoc, intsV_snoc, HMI.out]
                    exact hown1)
                  clear hown1 hg1 hfr hbz
                  go_wp2
                  go_roundw
                  case rel => exact ⟨i + 1, by omega, by go_num, HO7.out, HG7.out⟩
                  case measure => simp [intOf]; omega
                · have q6 : decide ((i : Int) < 3 + (xv : Int)) = false := decide_eq_false (by omega)
                  have hii2 : i = 3 + xv := by omega
                  have HOE : Hid (wr.ownsRow w4.heap.size 3 1 u20 (ol ++ List.replicate (3 + xv) v).length (intsV (ol ++ List.replicate (3 + xv) v))) := Lib.hid (by
                    rw [List.length_append, List.length_replicate, HM.out, ← hii2]
                    exact HOR.out)
                  clear hii2
                  go_wp2
                  go_roundw
                  case rel => exact ⟨a3, ol ++ List.replicate (3 + xv) v, l', rfl, h8, H7.out, HUN2.out, HLO2.out, HOE.out, HGR.out⟩
                  case measure => simp [intOf]; omega
            · have hxn : x.sym.toNat = 17 := by omega
              rw [hxn] at hlx hbs2
              rw [hxb] at hbs2
              have HNX := Lib.hid (HNZ.out wr B a 17 _ HA'.out HRS'.out hab (by decide) hlx hbs2)
              obtain ⟨h5, h6⟩ := HLE.out a _ _ hab hbs2
              have hwp : 0 < (wordB z 17).length := List.length_pos_iff.2 (word_ne (fun x hx => by have := HZI.out x hx; omega) hlx)
              obtain ⟨a2, ha2⟩ : ∃ k, a + (wordB z 17).length = k := ⟨_, rfl⟩
              rw [ha2] at HNX h5 h6
              obtain ⟨xv, hxv2⟩ : ∃ k, x.val = k := ⟨_, rfl⟩
              rw [hxv2] at h5 hxv hun2
              have HNM := Lib.hid (fun W hA => HNU.out W a2 3 xv _ hA h6 (by decide) (by omega) h5)
              obtain ⟨h7, h8⟩ := HLE.out a2 _ _ h6 h5
              rw [bitsN_len] at h7 h8
              obtain ⟨a3, ha3⟩ : ∃ k, a2 + 3 = k := ⟨_, rfl⟩
              rw [ha3] at h7 h8
              have H7 := Lib.hid h7
              have HUN2 := Lib.hid hun2
              obtain ⟨m, hm⟩ : ∃ m, ol.length = m := ⟨_, rfl⟩
              have hmN : m + (3 + xv) ≤ N := by
                have := un_len _ _ _ hun2
                have hLN : (ls ++ ds).length = N := by rw [List.length_append, HLA.out, HLD.out, HN.out]
                rw [hLN, List.length_append, List.length_replicate, hm] at this
                exact this
              have HM := Lib.hid hm
              rw [hm] at HOQ hle
              obtain ⟨Ao, co, rfl⟩ := own_form HOQ.out
              have haa : a < a2 ∧ a2 ≤ a3 := by omega
              have e3 : (a2 : Int) + 3 = (a3 : Int) := by omega
              have q4 : decide ((m : Int) < (N : Int)) = true := decide_eq_true (by omega)
              have q4' : decide (m < N) = true := decide_eq_true (by omega)
              have q6 : decide ((N : Int) < (m : Int) + 3 + (xv : Int)) = false := decide_eq_false (by omega)
              have b8 : (m : Int) + 3 + (xv : Int) ≤ 316 := by omega
              clear h5 h7 hwp ha2 ha3 hbs2 hun hun2 hm hxv2 hxn hlx hxb
              go_wp2_with fail
              refine HNX.out.mono ?_
              rintro e w5 ⟨rfl, hb5⟩
              have HO5 := Lib.hid (own_below HOQ.out hb5)
              have HG5 := Lib.hid (HGQ.out.more hb5)
              have HA5 := Lib.hid (HA'.out.below hb5)
              clear hb5
              go_wp2_with fail
              refine (HNM.out w5 HA5.out).mono ?_
              rintro e w6 ⟨rfl, rfl⟩
              go_wp2
              clear q4 q4' q6 e3
              go_loopw [20, 29] (fun vo vi wr => ∃ i : Nat, i ≤ 3 + xv ∧ vi = .int .i64 i ∧ wr.ownsRow w4.heap.size 3 1 vo (m + i) (intsV (ol ++ List.replicate i 0)) ∧ Grew (.slice none 0 0) w4 vo wr) (fun _ vi _ => 3 + xv - (intOf vi).toNat)
              case atStart => exact ⟨0, Nat.zero_le _, rfl, by rw [List.replicate_zero, List.append_nil]; exact HO5.out, HG5.out⟩
              case round =>
                obtain ⟨i, hi, rfl, hoq, hgq⟩ := hrel
                have HOR := Lib.hid hoq
                have HGR := Lib.hid hgq
                have hbz : w4.heap.size ≤ wr.heap.size := hgq.grown.size
                clear hoq hgq HO5 HG5
                by_cases hin : i < 3 + xv
                · have q6 : decide ((i : Int) < 3 + (xv : Int)) = true := decide_eq_true (by omega)
                  obtain ⟨mi, hmi⟩ : ∃ k, m + i = k := ⟨_, rfl⟩
                  have HMI : Hid (m + (i + 1) = mi + 1) := Lib.hid (by omega)
                  have hmb : mi ≤ 316 := by omega
                  rw [hmi] at HOR
                  clear hmi
                  go_wp2_with (at_builtin; refine wpList_append_at _ rfl _ _ 64 rfl w4.heap.size 3 ti (.int .i64 0) 1 8 Tryz.underlying64 hii hiz0 hiz1 hiz2 rfl (by decide) _ _ _ rfl (HOR.out.alloc _) ⟨wr.heap.size, 0, none⟩ 1 1 [.int .i64 0] rfl rfl ?c1 ?c2 ?c3 ?c4 ?c5 ?_)
                  case c1 => exact new_cells wr [.int .i64 0] _
                  case c2 => exact one64 _
                  case c3 => unfold maxLen; omega
                  case c4 => omega
                  case c5 => simp; omega
                  intro v7 w7 hown1 hg1 hfr
                  have HG7 : Hid (Grew (.slice none 0 0) w4 v7 w7) := Lib.hid ((HGR.out.more ((Below.refl _ _).alloc (Nat.le_refl _) _)).trans ⟨hg1, fun k e => by have := hfr k e; simpa using this⟩)
                  have HO7 : Hid (w7.ownsRow w4.heap.size 3 1 v7 (m + (i + 1)) (intsV (ol ++ List.replicate (i + 1) 0))) := Lib.hid (by
                    rw [List.replicate_succ', ← List.append_assoc, intsV_snoc, HMI.out]
                    exact hown1)
                  clear hown1 hg1 hfr hbz
                  go_wp2
                  go_roundw
                  case rel => exact ⟨i + 1, by omega, by go_num, HO7.out, HG7.out⟩
                  case measure => simp [intOf]; omega
                · have q6 : decide ((i : Int) < 3 + (xv : Int)) = false := decide_eq_false (by omega)
                  have hii2 : i = 3 + xv := by omega
                  have HOE : Hid (wr.ownsRow w4.heap.size 3 1 u20 (ol ++ List.replicate (3 + xv) 0).length (intsV (ol ++ List.replicate (3 + xv) 0))) := Lib.hid (by
                    rw [List.length_append, List.length_replicate, HM.out, ← hii2]
                    exact HOR.out)
                  clear hii2
                  go_wp2
                  go_roundw
                  case rel => exact ⟨a3, ol ++ List.replicate (3 + xv) 0, l', rfl, h8, H7.out, HUN2.out, HLO2.out, HOE.out, HGR.out⟩
                  case measure => simp [intOf]; omega
            · have hxn : x.sym.toNat = 18 := by omega
              rw [hxn] at hlx hbs2
              rw [hxb] at hbs2
              have HNX := Lib.hid (HNZ.out wr B a 18 _ HA'.out HRS'.out hab (by decide) hlx hbs2)
              obtain ⟨h5, h6⟩ := HLE.out a _ _ hab hbs2
              have hwp : 0 < (wordB z 18).length := List.length_pos_iff.2 (word_ne (fun x hx => by have := HZI.out x hx; omega) hlx)
              obtain ⟨a2, ha2⟩ : ∃ k, a + (wordB z 18).length = k := ⟨_, rfl⟩
              rw [ha2] at HNX h5 h6
              obtain ⟨xv, hxv2⟩ : ∃ k, x.val = k := ⟨_, rfl⟩
              rw [hxv2] at h5 hxv hun2
              have HNM := Lib.hid (fun W hA => HNU.out W a2 7 xv _ hA h6 (by decide) (by omega) h5)
              obtain ⟨h7, h8⟩ := HLE.out a2 _ _ h6 h5
              rw [bitsN_len] at h7 h8
              obtain ⟨a3, ha3⟩ : ∃ k, a2 + 7 = k := ⟨_, rfl⟩
              rw [ha3] at h7 h8
              have H7 := Lib.hid h7
              have HUN2 := Lib.hid hun2
              obtain ⟨m, hm⟩ : ∃ m, ol.length = m := ⟨_, rfl⟩
              have hmN : m + (11 + xv) ≤ N := by
                have := un_len _ _ _ hun2
                have hLN : (ls ++ ds).length = N := by rw [List.length_append, HLA.out, HLD.out, HN.out]
                rw [hLN, List.length_append, List.length_replicate, hm] at this
                exact this
              have HM := Lib.hid hm
              rw [hm] at HOQ hle
              obtain ⟨Ao, co, rfl⟩ := own_form HOQ.out
              have haa : a < a2 ∧ a2 ≤ a3 := by omega
              have e3 : (a2 : Int) + 7 = (a3 : Int) := by omega
              have q4 : decide ((m : Int) < (N : Int)) = true := decide_eq_true (by omega)
              have q4' : decide (m < N) = true := decide_eq_true (by omega)
              have q6 : decide ((N : Int) < (m : Int) + 11 + (xv : Int)) = false := decide_eq_false (by omega)
              have b8 : (m : Int) + 11 + (xv : Int) ≤ 316 := by omega
              clear h5 h7 hwp ha2 ha3 hbs2 hun hun2 hm hxv2 hxn hlx hxb
              go_wp2_with fail
              refine HNX.out.mono ?_
              rintro e w5 ⟨rfl, hb5⟩
              have HO5 := Lib.hid (own_below HOQ.out hb5)
              have HG5 := Lib.hid (HGQ.out.more hb5)
              have HA5 := Lib.hid (HA'.out.below hb5)
              clear hb5
              go_wp2_with fail
              refine (HNM.out w5 HA5.out).mono ?_
              rintro e w6 ⟨rfl, rfl⟩
              go_wp2
              clear q4 q4' q6 e3
              go_loopw [20, 29] (fun vo vi wr => ∃ i : Nat, i ≤ 11 + xv ∧ vi = .int .i64 i ∧ wr.ownsRow w4.heap.size 3 1 vo (m + i) (intsV (ol ++ List.replicate i 0)) ∧ Grew (.slice none 0 0) w4 vo wr) (fun _ vi _ => 11 + xv - (intOf vi).toNat)
              case atStart => exact ⟨0, Nat.zero_le _, rfl, by rw [List.replicate_zero, List.append_nil]; exact HO5.out, HG5.out⟩
              case round =>
                obtain ⟨i, hi, rfl, hoq, hgq⟩ := hrel
                have HOR := Lib.hid hoq
                have HGR := Lib.hid hgq
                have hbz : w4.heap.size ≤ wr.heap.size := hgq.grown.size
                clear hoq hgq HO5 HG5
                by_cases hin : i < 11 + xv
                · have q6 : decide ((i : Int) < 11 + (xv : Int)) = true := decide_eq_true (by omega)
                  obtain ⟨mi, hmi⟩ : ∃ k, m + i = k := ⟨_, rfl⟩
                  have HMI : Hid (m + (i + 1) = mi + 1) := Lib.hid (by omega)
                  have hmb : mi ≤ 316 := by omega
                  rw [hmi] at HOR
                  clear hmi
                  go_wp2_with (at_builtin; refine wpList_append_at _ rfl _ _ 64 rfl w4.heap.size 3 ti (.int .i64 0) 1 8 Tryz.underlying64 hii hiz0 hiz1 hiz2 rfl (by decide) _ _ _ rfl (HOR.out.alloc _) ⟨wr.heap.size, 0, none⟩ 1 1 [.int .i64 0] rfl rfl ?c1 ?c2 ?c3 ?c4 ?c5 ?_)
                  case c1 => exact new_cells wr [.int .i64 0] _
                  case c2 => exact one64 _
                  case c3 => unfold maxLen; omega
                  case c4 => omega
                  case c5 => simp; omega
                  intro v7 w7 hown1 hg1 hfr
                  have HG7 : Hid (Grew (.slice none 0 0) w4 v7 w7) := Lib.hid ((HGR.out.more ((Below.refl _ _).alloc (Nat.le_refl _) _)).trans ⟨hg1, fun k e => by have := hfr k e; simpa using this⟩)
                  have HO7 : Hid (w7.ownsRow w4.heap.size 3 1 v7 (m + (i + 1)) (intsV (ol ++ List.replicate (i + 1) 0))) := Lib.hid (by
                    rw [List.replicate_succ', ← List.append_assoc, intsV_snoc, HMI.out]
                    exact hown1)
                  clear hown1 hg1 hfr hbz
                  go_wp2
                  go_roundw
                  case rel => exact ⟨i + 1, by omega, by go_num, HO7.out, HG7.out⟩
                  case measure => simp [intOf]; omega
                · have q6 : decide ((i : Int) < 11 + (xv : Int)) = false := decide_eq_false (by omega)
                  have hii2 : i = 11 + xv := by omega
                  have HOE : Hid (wr.ownsRow w4.heap.size 3 1 u20 (ol ++ List.replicate (11 + xv) 0).length (intsV (ol ++ List.replicate (11 + xv) 0))) := Lib.hid (by
                    rw [List.length_append, List.length_replicate, HM.out, ← hii2]
                    exact HOR.out)
                  clear hii2
                  go_wp2
                  go_roundw
                  case rel => exact ⟨a3, ol ++ List.replicate (11 + xv) 0, l', rfl, h8, H7.out, HUN2.out, HLO2.out, HOE.out, HGR.out⟩
                  case measure => simp [intOf]; omega
end Go.Proofs.YtmpokiflhijnoaaGreatDoor.Rf

/-
  Plain law: a stream of blocks, block by block.
-/
namespace Go.Proofs.YtmpokiflhijnoaaGreatDoor.Rf
open Go.RowKit Go.Shelf Go.Proofs.YtmpokiflhijnoaaGreatDoor.Mg Go.Proofs.YtmpokiflhijnoaaGreatDoor.Bw Go.Proofs.YtmpokiflhijnoaaGreatDoor.Bk Go.Proofs.YtmpokiflhijnoaaGreatDoor.Cn Go.Proofs.YtmpokiflhijnoaaGreatDoor.Zp
set_option linter.unusedVariables false
set_option linter.unusedSimpArgs false

/-- A block: its kind, is it the last one, its tokens, its bytes. -/
structure Blk where
  (kind : Nat) (last : Bool) (ts : List Tok) (s : ByteArray)
/-- The bits behind P, with the block's. -/
def wrB (P : List Bool) (b : Blk) : List Bool := if b.kind = 0 then storedB P b.last b.s else P ++ blockB b.kind b.last b.ts
def wrBs (P : List Bool) (l : List Blk) : List Bool := l.foldl wrB P
def strI (s : ByteArray) : List Int := (strN s).map fun x : Nat => (x : Int)
def outB (out : List Int) (b : Blk) : List Int := if b.kind = 0 then out ++ strI b.s else expTs out b.ts
def outBs (out : List Int) (l : List Blk) : List Int := l.foldl outB out
def okB (out : List Int) (b : Blk) : Prop := b.kind ≤ 2 ∧ b.s.size ≤ 65535 ∧ (b.kind ≠ 0 → b.ts.length ≤ 65535 ∧ (∀ t ∈ b.ts, tokIn t) ∧ fitTs out b.ts)
/-- The blocks may be, and just the last one is told as such. -/
def okBs : List Int → List Blk → Prop
  | _, [] => True
  | out, b :: l => okB out b ∧ b.last = l.isEmpty ∧ okBs (outB out b) l

theorem wrB_ext (P : List Bool) (b : Blk) : ∃ m, wrB P b = P ++ (kindB b.kind b.last ++ m) := by
  unfold wrB
  split
  · rename_i h
    unfold storedB padB
    rw [h]
    exact ⟨_, by simp only [List.append_assoc]; rfl⟩
  · unfold blockB
    exact ⟨_, rfl⟩
theorem wrBs_ext : ∀ (l : List Blk) (P : List Bool), ∃ m, wrBs P l = P ++ m
  | [], P => ⟨[], by rw [List.append_nil]; rfl⟩
  | b :: l, P => by
    obtain ⟨m, hm⟩ := wrB_ext P b
    obtain ⟨m2, hm2⟩ := wrBs_ext l (wrB P b)
    refine ⟨kindB b.kind b.last ++ m ++ m2, ?_⟩
    show wrBs (wrB P b) l = _
    rw [hm2, hm]
    simp only [List.append_assoc]
theorem strI_len (s : ByteArray) : (strI s).length = s.size := by rw [strI, List.length_map, strN_len]
theorem u8V_strI (s : ByteArray) : u8V (strI s) = Lib.strCells s := by
  rw [← byV_str]
  unfold u8V strI byV
  rw [List.map_map]
  rfl
theorem outB_len (out : List Int) (b : Blk) : out.length ≤ (outB out b).length := by
  unfold outB
  split
  · rw [List.length_append]; omega
  · exact expTs_ge _ _
theorem outBs_len : ∀ (l : List Blk) (out : List Int), out.length ≤ (outBs out l).length
  | [], _ => Nat.le_refl _
  | b :: l, out => Nat.le_trans (outB_len out b) (outBs_len l _)

theorem flat8_drop : ∀ (l : List Nat) (k : Nat), (l.flatMap (bitsN 8)).drop (8 * k) = (l.drop k).flatMap (bitsN 8)
  | l, 0 => by simp
  | [], k + 1 => by simp
  | x :: l, k + 1 => by
    rw [List.flatMap_cons, List.drop_succ_cons, ← flat8_drop l k, show 8 * (k + 1) = (bitsN 8 x).length + 8 * k by rw [bitsN_len]; omega, ← List.drop_drop, List.drop_left]
theorem flat8_take : ∀ (l : List Nat) (k : Nat), (l.flatMap (bitsN 8)).take (8 * k) = (l.take k).flatMap (bitsN 8)
  | l, 0 => by simp
  | [], k + 1 => by simp
  | x :: l, k + 1 => by
    rw [List.flatMap_cons, List.take_succ_cons, List.flatMap_cons, ← flat8_take l k, show 8 * (k + 1) = (bitsN 8 x).length + 8 * k by rw [bitsN_len]; omega, List.take_length_add_append]
theorem flat8_inj : ∀ (a b : List Nat), (∀ x ∈ a, x < 256) → (∀ x ∈ b, x < 256) → a.flatMap (bitsN 8) = b.flatMap (bitsN 8) → a = b
  | [], [], _, _, _ => rfl
  | [], y :: b, _, _, h => by
    have := congrArg List.length h
    rw [List.flatMap_cons, List.length_append, bitsN_len, List.flatMap_nil, List.length_nil] at this
    omega
  | x :: a, [], _, _, h => by
    have := congrArg List.length h
    rw [List.flatMap_cons, List.length_append, bitsN_len, List.flatMap_nil, List.length_nil] at this
    omega
  | x :: a, y :: b, ha, hb, h => by
    rw [List.flatMap_cons, List.flatMap_cons] at h
    obtain ⟨h1, h2⟩ := List.append_inj h (by rw [bitsN_len, bitsN_len])
    have h3 := congrArg numB h1
    rw [numB_bits, numB_bits, Nat.mod_eq_of_lt (ha x List.mem_cons_self), Nat.mod_eq_of_lt (hb y List.mem_cons_self)] at h3
    rw [h3, flat8_inj a b (fun z hz => ha z (List.mem_cons_of_mem _ hz)) (fun z hz => hb z (List.mem_cons_of_mem _ hz)) h2]
theorem strN_lt (s : ByteArray) : ∀ x ∈ strN s, x < 256 := by
  intro x hx
  obtain ⟨u, _, rfl⟩ := List.mem_map.1 hx
  exact u.toNat_lt
theorem strN_inj {a b : ByteArray} (h : strN a = strN b) : a = b := by
  apply ByteArray.ext
  apply Array.ext'
  unfold strN at h
  exact (List.map_inj_right (fun x y e => UInt8.toNat_inj.1 e)).1 h
theorem strN_extract (s : ByteArray) (a b : Nat) : strN (s.extract a b) = ((strN s).drop a).take (b - a) := by
  unfold strN
  rw [ByteArray.data_extract, Array.toList_extract, List.extract_eq_take_drop, List.map_take, List.map_drop]
theorem strN_append (a b : ByteArray) : strN (a ++ b) = strN a ++ strN b := by
  unfold strN
  rw [ByteArray.data_append, Array.toList_append, List.map_append]
/-- Bytes that stand among the bits of a text at a byte's beginning. -/
theorem bytes_at {s x : ByteArray} {P more : List Bool} {k : Nat} (hP : P.length = 8 * k) (h : strB s = P ++ (strB x ++ more)) : s.extract k (k + x.size) = x ∧ k + x.size ≤ s.size := by
  have hl := congrArg List.length h
  rw [List.length_append, List.length_append, strB_len, strB_len, hP] at hl
  refine ⟨strN_inj (flat8_inj _ _ (strN_lt _) (strN_lt _) ?_), by omega⟩
  rw [strN_extract, ← flat8_take, ← flat8_drop]
  have h1 : ((strN s).flatMap (bitsN 8)).drop (8 * k) = strB x ++ more := by
    show (strB s).drop (8 * k) = _
    rw [h, ← hP, List.drop_left]
  rw [h1, Nat.add_sub_cancel_left, ← strB_len x, List.take_left]
  rfl
theorem byL_strN (s : ByteArray) : byL s = strN s := rfl
theorem strN_nums (l : List Nat) (h : ∀ x ∈ l, x < 256) : strN (strOfNums (l.map fun x : Nat => (x : Int))) = l := by
  unfold strN
  rw [strOfNums_data, List.map_map, List.map_map]
  refine (List.map_congr_left fun x hx => ?_).trans (List.map_id l)
  have := h x hx
  simp only [Function.comp_apply, id]
  simp
  omega
theorem getS_putS (n k : Nat) (h : n < 256 ^ k) (hk : k ≤ 8) : getS (putS n k) = n := by
  unfold getS
  rw [putS_size, if_pos hk, byL_strN]
  unfold putS putL
  have e := strN_nums _ (putB_lt k n)
  have e2 : (putB n k).map Int.ofNat = (putB n k).map fun x : Nat => (x : Int) := rfl
  rw [e2, e, getB_put_of h]
theorem ext_app {a b : ByteArray} {k m : Nat} (ha : a.size = k) (hb : k + m ≤ a.size + b.size) : (a ++ b).extract k (k + m) = b.extract 0 m := by
  apply strN_inj
  rw [strN_extract, strN_extract, strN_append, Nat.add_sub_cancel_left, List.drop_append_of_le_length (by rw [strN_len]; omega), List.drop_eq_nil_of_le (by rw [strN_len]; omega), List.nil_append, Nat.sub_zero, List.drop_zero]
theorem ext_left {a b : ByteArray} {k : Nat} (ha : a.size = k) : (a ++ b).extract 0 k = a := by
  apply strN_inj
  rw [strN_extract, strN_append, List.drop_zero, Nat.sub_zero, List.take_append_of_le_length (by rw [strN_len]; omega), List.take_of_length_le (by rw [strN_len]; omega)]
theorem ext_ext {s : ByteArray} {k a b n : Nat} (hab : a ≤ b) (hb : b ≤ n) : (s.extract k (k + n)).extract a b = s.extract (k + a) (k + b) := by
  apply strN_inj
  rw [strN_extract, strN_extract, strN_extract, List.drop_take, List.take_take, List.drop_drop]
  congr 1
  omega
theorem ext_all (s : ByteArray) : s.extract 0 s.size = s := by
  apply strN_inj
  rw [strN_extract, List.drop_zero, Nat.sub_zero, List.take_of_length_le (by rw [strN_len]; omega)]
theorem lt256 {n : Nat} (h : n < 65536) : n < 256 ^ 2 := by
  have : (256 : Nat) ^ 2 = 65536 := by decide
  omega
/-- What the reference's plain reads of a stored block. -/
theorem stored_at {s x : ByteArray} {P more : List Bool} {k : Nat} (hP : P.length = 8 * k) (hx : x.size ≤ 65535) (h : strB s = P ++ (strB (storedS x) ++ more)) :
    k + 4 + x.size ≤ s.size ∧ getS (s.extract k (k + 2)) = x.size ∧ getS (s.extract (k + 2) (k + 4)) = 65535 - x.size ∧ s.extract (k + 4) (k + 4 + x.size) = x := by
  obtain ⟨h1, h2⟩ := bytes_at hP h
  rw [storedS_size] at h1 h2
  have z1 := putS_size x.size 2
  have z2 := putS_size (65535 - x.size) 2
  have e0 : storedS x = putS x.size 2 ++ (putS (65535 - x.size) 2 ++ x) := by unfold storedS; rw [ByteArray.append_assoc]
  refine ⟨by omega, ?_, ?_, ?_⟩
  · have e : (s.extract k (k + (x.size + 4))).extract 0 2 = s.extract k (k + 2) := ext_ext (s := s) (k := k) (a := 0) (b := 2) (n := x.size + 4) (by omega) (by omega)
    rw [← e, h1, e0, ext_left z1, getS_putS _ _ (lt256 (by omega)) (by decide)]
  · have e := ext_ext (s := s) (k := k) (a := 2) (b := 4) (n := x.size + 4) (by omega) (by omega)
    rw [← e, h1, e0, show (4 : Nat) = 2 + 2 from rfl, ext_app z1 (by rw [ByteArray.size_append]; omega), ext_left z2, getS_putS _ _ (lt256 (by omega)) (by decide)]
  · have e : (s.extract k (k + (x.size + 4))).extract 4 (4 + x.size) = s.extract (k + 4) (k + 4 + x.size) := by
      have e := ext_ext (s := s) (k := k) (a := 4) (b := 4 + x.size) (n := x.size + 4) (by omega) (by omega)
      rw [← Nat.add_assoc k 4 x.size] at e
      exact e
    rw [← e, h1]
    unfold storedS
    rw [ext_app (by rw [ByteArray.size_append]; omega) (by rw [ByteArray.size_append]; omega), ext_all]
theorem kindB_eq (k : Nat) (last : Bool) : kindB k last = [last, decide (k % 2 = 1), decide (k / 2 % 2 = 1)] := by
  unfold kindB
  have h1 : (2 * k + if last = true then 1 else 0) = k * 2 + (if last = true then 1 else 0) := by omega
  have h2 : k = k / 2 * 2 + k % 2 := by omega
  have h3 : k / 2 = k / 2 / 2 * 2 + k / 2 % 2 := by omega
  rw [h1, bitsN_cons 2 k _ (by split <;> omega)]
  have e2 : bitsN 2 k = [decide (k % 2 = 1), decide (k / 2 % 2 = 1)] := by
    have e3 : bitsN 1 (k / 2) = [decide (k / 2 % 2 = 1)] := by
      have e4 := bitsN_cons 0 (k / 2 / 2) (k / 2 % 2) (by omega)
      rw [← h3] at e4
      exact e4
    have e4 := bitsN_cons 1 (k / 2) (k % 2) (by omega)
    rw [← h2, e3] at e4
    exact e4
  rw [e2]
  cases last <;> rfl
end Go.Proofs.YtmpokiflhijnoaaGreatDoor.Rf

/-
  The reference of layer 7: a stream of blocks is read.
-/
namespace Go.Proofs.YtmpokiflhijnoaaGreatDoor.Rf
open Go.RowKit Go.Shelf Go.Proofs.YtmpokiflhijnoaaGreatDoor.Mg Go.Proofs.YtmpokiflhijnoaaGreatDoor.Bw Go.Proofs.YtmpokiflhijnoaaGreatDoor.Bk Go.Proofs.YtmpokiflhijnoaaGreatDoor.Cn Go.Proofs.YtmpokiflhijnoaaGreatDoor.Zp
set_option linter.unusedVariables false
set_option linter.unusedSimpArgs false

theorem bitI_one (b : Bool) : (bitI b == 1) = b := by cases b <;> rfl
theorem bit_cell {s : ByteArray} {w : World} {base g c : Nat} (h : w.ownsRow base 3 1 (.slice (some ⟨g, 0, none⟩) (8 * s.size) c) (8 * s.size) (intsV (bitsI (strB s)))) (j : Nat) (b : Bool) (hj : (strB s)[j]? = some b) : w.cell? ⟨g, j, none⟩ = some (.int .i64 (bitI b)) := by
  refine own_cell1 h j _ ?_
  unfold intsV bitsI
  rw [List.getElem?_map, List.getElem?_map, hj]
  rfl
theorem bits_own {s : ByteArray} {w : World} {base g c : Nat} (h : w.ownsRow base 3 1 (.slice (some ⟨g, 0, none⟩) (8 * s.size) c) (8 * s.size) (intsV (bitsI (strB s)))) : BitsAt w (some ⟨g, 0, none⟩) (strB s) :=
  reads_own h 0 _ (fun j hj => by rw [Nat.zero_add, List.getElem?_eq_getElem hj])
theorem fixD_len : fixD.length = 32 := by decide
/-- What stands behind a block's kind, and how long the block is. -/
theorem body_at {S P rest : List Bool} {b : Blk} {l : List Blk} (hk : b.kind ≠ 0) (h : S = wrBs P (b :: l) ++ rest) :
    S.drop (P.length + 3) = bodyB b.kind b.ts ++ S.drop (wrB P b).length ∧ (wrB P b).length ≤ S.length ∧ (wrB P b).length = P.length + 3 + (bodyB b.kind b.ts).length := by
  obtain ⟨m, hm⟩ := wrBs_ext l (wrB P b)
  have h2 : S = wrB P b ++ (m ++ rest) := by rw [h, ← List.append_assoc, ← hm]; rfl
  have hw : wrB P b = P ++ (kindB b.kind b.last ++ bodyB b.kind b.ts) := by unfold wrB; rw [if_neg hk]; rfl
  have hl : (wrB P b).length = P.length + 3 + (bodyB b.kind b.ts).length := by rw [hw, List.length_append, List.length_append, kindB_len]; omega
  refine ⟨?_, by rw [h2, List.length_append]; omega, hl⟩
  have e1 : S.drop (wrB P b).length = m ++ rest := by rw [h2, List.drop_left]
  rw [e1, h2, hw]
  have e2 : (P ++ kindB b.kind b.last).length = P.length + 3 := by rw [List.length_append, kindB_len]
  rw [show P ++ (kindB b.kind b.last ++ bodyB b.kind b.ts) ++ (m ++ rest) = (P ++ kindB b.kind b.last) ++ (bodyB b.kind b.ts ++ (m ++ rest)) by simp only [List.append_assoc], ← e2, List.drop_left]
theorem kind_at {S P rest : List Bool} {b : Blk} {l : List Blk} (h : S = wrBs P (b :: l) ++ rest) :
    P.length + 3 ≤ S.length ∧ S[P.length]? = some b.last ∧ S[P.length + 1]? = some (decide (b.kind % 2 = 1)) ∧ S[P.length + 2]? = some (decide (b.kind / 2 % 2 = 1)) := by
  obtain ⟨m, hm⟩ := wrBs_ext l (wrB P b)
  obtain ⟨m2, hm2⟩ := wrB_ext P b
  have h2 : S = P ++ (kindB b.kind b.last ++ (m2 ++ (m ++ rest))) := by
    rw [h]
    show wrBs (wrB P b) l ++ rest = _
    rw [hm, hm2]
    simp only [List.append_assoc]
  rw [kindB_eq] at h2
  refine ⟨by rw [h2]; simp, ?_, ?_, ?_⟩ <;> rw [h2] <;> simp
theorem stored_len {P : List Bool} {b : Blk} (hk : b.kind = 0) : (padB (P ++ kindB 0 b.last)).length = 8 * ((P.length + 3 + 7) / 8) ∧ (wrB P b).length = 8 * ((P.length + 3 + 7) / 8 + 4 + b.s.size) := by
  have h1 := padB_mod (P ++ kindB 0 b.last)
  have h2 : (padB (P ++ kindB 0 b.last)).length = P.length + 3 + (8 - (P.length + 3) % 8) % 8 := by
    unfold padB
    rw [List.length_append, List.length_replicate, List.length_append, kindB_len]
  refine ⟨by omega, ?_⟩
  unfold wrB
  rw [if_pos hk]
  unfold storedB
  rw [List.length_append, strB_len, storedS_size]
  omega

set_option maxHeartbeats 8000000 in
set_option maxRecDepth 100000 in
theorem read_calls (s : ByteArray) (bks : List Blk) (rest : List Bool) (w : World) (hs : s.size ≤ 100000000) (hne : bks ≠ []) (hok : okBs [] bks) (hbits : strB s = wrBs [] bks ++ rest) (hout : (outBs [] bks).length ≤ 1000000000) :
    Calls Tryz.prog 16 #[.string s] w fun e w' => ∃ v, e = .returned (.tuple #[v, .int .i64 ((8 * s.size - rest.length : Nat) : Int), .int .i64 0]) ∧ w'.ownsRow w.heap.size 5 1 v (outBs [] bks).length (u8V (outBs [] bks)) ∧ Below w.heap.size w w' := by
  have HBI := Lib.hid (bits_calls s w hs)
  have HOK := Lib.hid hok
  have HBT := Lib.hid hbits
  have HNE := Lib.hid hne
  have hsl := strB_len s
  have hpos : 3 ≤ 8 * s.size := by
    rcases bks with _ | ⟨b, l⟩
    · exact absurd rfl hne
    · have h := (kind_at hbits).1
      rw [hsl] at h
      simp at h
      omega
  obtain ⟨E, hE⟩ : ∃ E, outBs [] bks = E := ⟨_, rfl⟩
  have HE := Lib.hid hE
  rw [hE] at hout ⊢
  clear hok hbits hne hE
  go_enter Tryz.func16, Tryz.ntmps16
  go_wp2_with fail
  refine HBI.out.mono ?_
  rintro e w2 ⟨⟨v, rfl, hov⟩, hb2⟩
  obtain ⟨gA, c, rfl, hg1, hg2⟩ := hov.form (by omega)
  have hcb : 8 * s.size ≤ c ∧ c ≤ maxLen := by
    rcases hov.2 with ⟨h, _⟩ | ⟨g, cap, cur, h, _, _, hnc, hcm, _⟩
    · cases h
    · cases h
      exact ⟨hnc, hcm⟩
  obtain ⟨hcb, hcm⟩ := hcb
  have HOV := Lib.hid hov
  have HB2 := Lib.hid hb2
  have N0 := Lib.hid (World.ownsRow_nil w2 w2.heap.size 5 1)
  obtain ⟨nb, hnb⟩ : ∃ nb, 8 * s.size = nb := ⟨_, rfl⟩
  have HNB := Lib.hid hnb
  have HSL := Lib.hid hsl
  have hnb2 : nb ≤ 800000000 := by omega
  rw [hnb] at hcb ⊢
  have HCB := Lib.hid hcb
  clear hov hb2 hsl hnb hcm
  go_wp2
  go_loopw [6, 7] (fun vo va wr => ∃ (P : List Bool) (ol : List Int) (l : List Blk), va = .int .i64 P.length ∧ l ≠ [] ∧ okBs ol l ∧ strB s = wrBs P l ++ rest ∧ outBs ol l = E ∧ wr.ownsRow w2.heap.size 5 1 vo ol.length (u8V ol) ∧ Below w2.heap.size w2 wr) (fun _ va _ => nb - (intOf va).toNat)
  case atStart => exact ⟨[], [], bks, rfl, HNE.out, HOK.out, HBT.out, HE.out, N0.out, Below.refl _ _⟩
  case round =>
    obtain ⟨P, ol, l, rfl, hln, hok, hbits, hE, hown, hbl⟩ := hrel
    rcases l with _ | ⟨b, l⟩
    · exact absurd rfl hln
    obtain ⟨hk3, hl1, hl2, hl3⟩ := kind_at hbits
    obtain ⟨⟨hkk, hsz, hts⟩, hlast, hok2⟩ := hok
    rw [HSL.out, HNB.out] at hk3
    have HOV' := Lib.hid (own_below HOV.out hbl)
    rw [HNB.out] at HOV'
    have c0 := bit_cell (own_below HOV.out hbl) _ _ hl1
    have c1 := bit_cell (own_below HOV.out hbl) _ _ hl2
    have c2 := bit_cell (own_below HOV.out hbl) _ _ hl3
    have HA' := Lib.hid (bits_own (own_below HOV.out hbl))
    have HOW := Lib.hid hown
    have HBL := Lib.hid hbl
    have hlen : (outB ol b).length ≤ 1000000000 := by
      have h := outBs_len l (outB ol b)
      have h2 : outBs (outB ol b) l = E := hE
      rw [h2] at h
      omega
    have HE' : Hid (outBs (outB ol b) l = E) := Lib.hid hE
    have HOK2 := Lib.hid hok2
    have HBT2 := Lib.hid hbits
    have HBT3 : Hid (strB s = wrBs (wrB P b) l ++ rest) := Lib.hid hbits
    have HLA := Lib.hid hlast
    have HTS := Lib.hid hts
    have hwz : w2.heap.size ≤ wr.heap.size := hbl.size
    have hgA : gA < w2.heap.size := hg2
    obtain ⟨L, hL⟩ : ∃ L, b.last = L := ⟨_, rfl⟩
    rw [hL] at c0 HLA
    have qL := bitI_one L
    obtain ⟨a, ha⟩ : ∃ a, P.length = a := ⟨_, rfl⟩
    have HAP := Lib.hid ha
    rw [ha] at hk3 c0 c1 c2 ⊢
    obtain ⟨a3, ha3⟩ : ∃ a3, a + 3 = a3 := ⟨_, rfl⟩
    have HA3 := Lib.hid ha3
    have e3 : (a : Int) + 3 = (a3 : Int) := by omega
    have q0 : decide ((nb : Int) < (a3 : Int)) = false := decide_eq_false (by omega)
    have q0' : decide (nb < a3) = false := decide_eq_false (by omega)
    have b1 : a3 ≤ nb ∧ a < a3 := by omega
    have w1' : IntKind.i64.wrap ((a : Int) + 1) = (a : Int) + 1 := IntWalk.i64_in _ (by omega)
    have w2' : IntKind.i64.wrap ((a : Int) + 2) = (a : Int) + 2 := IntWalk.i64_in _ (by omega)
    have w3' : ((a : Int) + 1).toNat = a + 1 := by omega
    have w4' : ((a : Int) + 2).toNat = a + 2 := by omega
    have hol : outB ol b = outB ol b := rfl
    clear hl1 hl2 hl3 hown hbl hE hok2 hbits hlast hts hln ha ha3 hL hol HOV'
    rcases (by omega : b.kind = 0 ∨ b.kind = 1 ∨ b.kind = 2) with hk | hk | hk
    · rw [hk] at c1 c2
      have c1' : wr.cell? ⟨gA, a + 1, none⟩ = some (.int .i64 0) := c1
      have c2' : wr.cell? ⟨gA, a + 2, none⟩ = some (.int .i64 0) := c2
      clear c1 c2
      obtain ⟨hp1, hp2⟩ := stored_len (P := P) hk
      obtain ⟨k, hkd⟩ : ∃ k, (P.length + 3 + 7) / 8 = k := ⟨_, rfl⟩
      rw [hkd] at hp1 hp2
      obtain ⟨more, hmore⟩ : ∃ more, strB s = padB (P ++ kindB 0 b.last) ++ (strB (storedS b.s) ++ more) := by
        obtain ⟨m, hm⟩ := wrBs_ext l (wrB P b)
        refine ⟨m ++ rest, ?_⟩
        rw [HBT3.out, hm]
        unfold wrB
        rw [if_pos hk]
        unfold storedB
        simp only [List.append_assoc]
      obtain ⟨s1, s2, s3, s4⟩ := stored_at hp1 hsz hmore
      have hob : outB ol b = ol ++ strI b.s := by unfold outB; rw [if_pos hk]
      have HPL := Lib.hid (fun (W : World) (v : Value) (hv : W.ownsRow w2.heap.size 5 1 v ol.length (u8V ol)) (hb : w2.heap.size ≤ W.heap.size) => plain_calls s a3 k b.s.size w2.heap.size ol.length v (u8V ol) W (by rw [← HA3.out, ← HAP.out]; exact hkd) (by omega) (by omega) (by have := outB_len ol b; omega) hsz s1 s2 s3 hv hb)
      rw [s4] at HPL
      have HEQ : Hid (8 * (k + 4 + b.s.size) = (wrB P b).length) := Lib.hid hp2.symm
      have HOB := Lib.hid hob
      clear hmore s1 s2 s3 s4 hp1 hp2 hkd hob
      go_wp2_with fail
      go_quiet (fail)
      generalize hW : World.drewN _ _ = w3
      have HB3 : Hid (Below w2.heap.size w2 w3) := Lib.hid (by rw [← hW]; exact below_drewN HBL.out _)
      have HA3' : Hid (BitsAt w3 (some ⟨gA, 0, none⟩) (strB s)) := Lib.hid (by rw [← hW]; exact HA'.out.below (below_drewN (Below.refl _ _) _))
      have HO3 : Hid (w3.ownsRow w2.heap.size 5 1 u6 ol.length (u8V ol)) := Lib.hid (by rw [← hW]; exact own_below HOW.out (below_drewN (Below.refl _ _) _))
      have hw3 : w2.heap.size ≤ w3.heap.size := HB3.out.size
      clear hW c0 c1' c2' w1' w2' w3' w4' qL
      go_wp2_with fail
      refine (HPL.out w3 _ HO3.out hw3).mono ?_
      rintro e w4 ⟨⟨v4, rfl, ho4⟩, hb4⟩
      have HO7 : Hid (w4.ownsRow w2.heap.size 5 1 v4 (outB ol b).length (u8V (outB ol b))) := Lib.hid (by
        rw [HOB.out, u8V_app, u8V_strI, List.length_append, strI_len]
        exact ho4)
      have HB7 := Lib.hid (HB3.out.trans hb4)
      clear ho4 hb4
      obtain ⟨n7, hn7⟩ : ∃ n7, (wrB P b).length = n7 := ⟨_, rfl⟩
      have hlt : a < n7 ∧ n7 ≤ nb := by
        obtain ⟨m, hm⟩ := wrBs_ext l (wrB P b)
        have h1 := congrArg List.length HBT3.out
        rw [hm, List.length_append, List.length_append, HSL.out, HNB.out, hn7] at h1
        obtain ⟨m2, hm2⟩ := wrB_ext P b
        have h2 := congrArg List.length hm2
        rw [List.length_append, List.length_append, kindB_len, hn7, HAP.out] at h2
        omega
      rw [hn7] at HEQ
      obtain ⟨z, hz⟩ : ∃ z, 8 * (k + 4 + b.s.size) = z := ⟨_, rfl⟩
      have hzn : z = n7 := by rw [← hz]; exact HEQ.out
      rw [hz, hzn]
      clear hz hzn HEQ
      rcases l with _ | ⟨b2, l⟩
      · obtain rfl : L = true := HLA.out
        go_wp2
        go_ret3
        have hend : n7 = nb - rest.length := by
          have h := congrArg List.length HBT3.out
          have h3 : wrBs (wrB P b) [] = wrB P b := rfl
          rw [h3, List.length_append, HSL.out, HNB.out, hn7] at h
          omega
        have hEE : outB ol b = E := HE'.out
        refine ⟨_, by rw [HNB.out, ← hend]; rfl, ?_, ?_⟩
        · rw [← hEE]
          exact own_base HO7.out HB2.out.size
        · exact HB2.out.trans (HB7.out.mono HB2.out.size)
      · obtain rfl : L = false := HLA.out
        have HN7 := Lib.hid hn7
        clear hn7
        go_wp2
        go_roundw
        case rel => exact ⟨wrB P b, outB ol b, b2 :: l, by rw [HN7.out], by simp, HOK2.out, HBT3.out, HE'.out, HO7.out, HB7.out⟩
        case measure => simp [intOf]; omega
    · rw [hk] at c1 c2
      have c1' : wr.cell? ⟨gA, a + 1, none⟩ = some (.int .i64 1) := c1
      have c2' : wr.cell? ⟨gA, a + 2, none⟩ = some (.int .i64 0) := c2
      clear c1 c2
      obtain ⟨hq1, hq2, hq3⟩ := body_at (by omega) HBT2.out
      rw [HAP.out, HA3.out] at hq1 hq3
      obtain ⟨ht1, ht2, ht3⟩ := HTS.out (by omega)
      have hob : outB ol b = expTs ol b.ts := by unfold outB; rw [if_neg (by omega)]
      have HOB := Lib.hid hob
      have hexl : (expTs ol b.ts).length ≤ 1000000000 := by rw [← hob]; exact hlen
      have HQ1 := Lib.hid hq1
      have HT1 := Lib.hid ht2
      have HT2 := Lib.hid ht3
      clear hq1 hq3 ht2 ht3 hob
      go_wp2_with fail
      go_quiet (fail)
      generalize hW : World.drewN _ _ = w3
      have HB3 : Hid (Below w2.heap.size w2 w3) := Lib.hid (by rw [← hW]; exact below_drewN HBL.out _)
      have HA3' : Hid (BitsAt w3 (some ⟨gA, 0, none⟩) (strB s)) := Lib.hid (by rw [← hW]; exact HA'.out.below (below_drewN (Below.refl _ _) _))
      have HO3 : Hid (w3.ownsRow w2.heap.size 5 1 u6 ol.length (u8V ol)) := Lib.hid (by rw [← hW]; exact own_below HOW.out (below_drewN (Below.refl _ _) _))
      have hw3 : w2.heap.size ≤ w3.heap.size := HB3.out.size
      clear hW c0 c1' c2' w1' w2' w3' w4' qL
      go_wp2_with fail
      refine (reffixed_calls _).mono ?_
      rintro e w4 ⟨⟨v1, v2, rfl, ho1, ho2⟩, hb4⟩
      obtain ⟨g1, cc1, rfl, _, _⟩ := ho1.form (by decide)
      obtain ⟨g2, cc2, rfl, _, _⟩ := ho2.form (by decide)
      have hr1 : Reads w4 (some ⟨g1, 0, none⟩) fixL := reads_own ho1 0 fixL (fun j hj => by rw [Nat.zero_add, List.getElem?_eq_getElem hj])
      have hr2 : Reads w4 (some ⟨g2, 0, none⟩) fixD := reads_own ho2 0 fixD (fun j hj => by rw [Nat.zero_add, List.getElem?_eq_getElem hj])
      have HR1 := Lib.hid hr1
      have HR2 := Lib.hid hr2
      have HBB := Lib.hid (HB3.out.trans (hb4.mono hw3))
      have HA4 := Lib.hid (HA3'.out.below hb4)
      have HO4 := Lib.hid (own_below HO3.out hb4)
      clear ho1 ho2 hr1 hr2 hb4
      go_wp2_with fail
      have HT := tell_calls gA 0 c cc1 cc2 w2.heap.size (some ⟨g1, 0, none⟩) (some ⟨g2, 0, none⟩) (strB s) ((strB s).drop (wrB P b).length) a3 fixL fixD _ ol b.ts w4 HA4.out (by rw [HSL.out, HNB.out]; exact HCB.out) (by rw [HSL.out, HNB.out]; omega) HR1.out HR2.out (by rw [fixL_len]; decide) (by rw [fixD_len]; decide) fixL_range fixD_range (by rw [fixT.1]; decide) (by rw [fixT.2]; decide) ⟨by rw [fixL_len]; decide, fixL_pos 256 (by decide)⟩ (fun t ht => tokW_fix (HT1.out t ht)) HT2.out (by rw [HSL.out, HNB.out]; omega) (by rw [HQ1.out]; unfold bodyB; rw [if_pos hk, List.append_assoc]) hexl HO4.out (fun e => by have := (HO4.out.lt gA e).1; omega) HBB.out.size
      rw [HSL.out, HNB.out, fixL_len, fixD_len] at HT
      refine HT.mono ?_
      rintro e w6 ⟨v6, rfl, ho6, hg6⟩
      have HO7 : Hid (w6.ownsRow w2.heap.size 5 1 v6 (outB ol b).length (u8V (outB ol b))) := Lib.hid (by
        rw [HOB.out]
        exact ho6)
      have HB7 := Lib.hid (HBB.out.trans (hg6.below (fun q e => (HO4.out.lt q e).1) HBB.out.size))
      have HEQ : Hid (nb - ((strB s).drop (wrB P b).length).length = (wrB P b).length) := Lib.hid (by rw [List.length_drop, HSL.out, HNB.out]; rw [HSL.out, HNB.out] at hq2; omega)
      clear ho6 hg6
      obtain ⟨n7, hn7⟩ : ∃ n7, (wrB P b).length = n7 := ⟨_, rfl⟩
      have hlt : a < n7 ∧ n7 ≤ nb := by
        obtain ⟨m, hm⟩ := wrBs_ext l (wrB P b)
        have h1 := congrArg List.length HBT3.out
        rw [hm, List.length_append, List.length_append, HSL.out, HNB.out, hn7] at h1
        obtain ⟨m2, hm2⟩ := wrB_ext P b
        have h2 := congrArg List.length hm2
        rw [List.length_append, List.length_append, kindB_len, hn7, HAP.out] at h2
        omega
      have HEQ : Hid (nb - ((strB s).drop (wrB P b).length).length = n7) := Lib.hid (HEQ.out.trans hn7)
      obtain ⟨z, hz⟩ : ∃ z, nb - ((strB s).drop (wrB P b).length).length = z := ⟨_, rfl⟩
      have hzn : z = n7 := by rw [← hz]; exact HEQ.out
      rw [hz, hzn]
      clear hz hzn HEQ
      rcases l with _ | ⟨b2, l⟩
      · obtain rfl : L = true := HLA.out
        go_wp2
        go_ret3
        have hend : n7 = nb - rest.length := by
          have h := congrArg List.length HBT3.out
          have h3 : wrBs (wrB P b) [] = wrB P b := rfl
          rw [h3, List.length_append, HSL.out, HNB.out, hn7] at h
          omega
        have hEE : outB ol b = E := HE'.out
        refine ⟨_, by rw [HNB.out, ← hend]; rfl, ?_, ?_⟩
        · rw [← hEE]
          exact own_base HO7.out HB2.out.size
        · exact HB2.out.trans (HB7.out.mono HB2.out.size)
      · obtain rfl : L = false := HLA.out
        have HN7 := Lib.hid hn7
        clear hn7
        go_wp2
        go_roundw
        case rel => exact ⟨wrB P b, outB ol b, b2 :: l, by rw [HN7.out], by simp, HOK2.out, HBT3.out, HE'.out, HO7.out, HB7.out⟩
        case measure => simp [intOf]; omega
    · rw [hk] at c1 c2
      have c1' : wr.cell? ⟨gA, a + 1, none⟩ = some (.int .i64 0) := c1
      have c2' : wr.cell? ⟨gA, a + 2, none⟩ = some (.int .i64 1) := c2
      clear c1 c2
      obtain ⟨hq1, hq2, hq3⟩ := body_at (by omega) HBT2.out
      rw [HAP.out, HA3.out] at hq1 hq3
      obtain ⟨ht1, ht2, ht3⟩ := HTS.out (by omega)
      have hob : outB ol b = expTs ol b.ts := by unfold outB; rw [if_neg (by omega)]
      have HOB := Lib.hid hob
      have hexl : (expTs ol b.ts).length ≤ 1000000000 := by rw [← hob]; exact hlen
      have HQ1 := Lib.hid hq1
      have HT1 := Lib.hid ht2
      have HT2 := Lib.hid ht3
      clear hq1 hq3 ht2 ht3 hob
      have hbd : bodyB b.kind b.ts = headB b.ts ++ (toksB (lsD b.ts) (dsD b.ts) b.ts ++ wordB (lsD b.ts) 256) := by unfold bodyB; rw [if_neg (by omega)]
      rw [hbd] at HQ1
      obtain ⟨R2, hR2⟩ : ∃ R2, toksB (lsD b.ts) (dsD b.ts) b.ts ++ (wordB (lsD b.ts) 256 ++ (strB s).drop (wrB P b).length) = R2 := ⟨_, rfl⟩
      have hn6 : b.ts.length ≤ 1000000 := by omega
      have hq5 : (strB s).drop a3 = bitsN 14 (headN (lsD b.ts).length (dsD b.ts).length (tellC (tellD b.ts))) ++ (tellsB (tellD b.ts) (tellC (tellD b.ts)) ++ (exsB (tellD b.ts) (toldD b.ts) ++ R2)) := by
        rw [HQ1.out, ← hR2]
        unfold headB
        simp only [List.append_assoc]
      have hla := lsD_len b.ts
      have hld := dsD_len b.ts
      have HH := Lib.hid (fun (W : World) (hA : BitsAt W (some ⟨gA, 0, none⟩) (strB s)) => heads_calls gA 0 c (strB s) R2 a3 (lsD b.ts) (dsD b.ts) (tellD b.ts) (toldD b.ts) W hA (by rw [HSL.out, HNB.out]; exact HCB.out) (by rw [HSL.out, HNB.out]; omega) (by rw [HSL.out, HNB.out]; omega) (by omega) (by omega) (tellD_len _) (tellD_in _ hn6) (tellD_tot _ hn6) (tellD_why _ hn6) (told_un _ hn6) (fun x hx => tellD_pos _ hn6 x hx) (lsD_in _ hn6) (dsD_in _ hn6) (lsD_end _ hn6).2 (lsD_why _ hn6) (dsD_why _ hn6) hq5)
      rw [HSL.out, HNB.out] at HH
      obtain ⟨a4, ha4⟩ : ∃ a4, nb - R2.length = a4 := ⟨_, rfl⟩
      rw [ha4] at HH
      have hq6 : (strB s).drop a4 = R2 ∧ a4 ≤ nb := by
        have h := congrArg List.length hq5
        have h0 : (strB s).drop a3 = (bitsN 14 (headN (lsD b.ts).length (dsD b.ts).length (tellC (tellD b.ts))) ++ (tellsB (tellD b.ts) (tellC (tellD b.ts)) ++ exsB (tellD b.ts) (toldD b.ts))) ++ R2 := by rw [hq5]; simp only [List.append_assoc]
        obtain ⟨h1, h2⟩ := drop_more h0
        have h3 := congrArg List.length h1
        rw [List.length_drop, HSL.out, HNB.out] at h3
        rw [HSL.out, HNB.out] at h2
        have h4 : a3 + (bitsN 14 (headN (lsD b.ts).length (dsD b.ts).length (tellC (tellD b.ts))) ++ (tellsB (tellD b.ts) (tellC (tellD b.ts)) ++ exsB (tellD b.ts) (toldD b.ts))).length = a4 := by omega
        rw [h4] at h1
        exact ⟨h1, by omega⟩
      have HQ6 := Lib.hid hq6.1
      have hq7 : a4 ≤ nb := hq6.2
      have HR2 := Lib.hid hR2
      clear hbd hq5 hla hld ha4 hq6 hR2
      go_wp2_with fail
      go_quiet (fail)
      generalize hW : World.drewN _ _ = w3
      have HB3 : Hid (Below w2.heap.size w2 w3) := Lib.hid (by rw [← hW]; exact below_drewN HBL.out _)
      have HA3' : Hid (BitsAt w3 (some ⟨gA, 0, none⟩) (strB s)) := Lib.hid (by rw [← hW]; exact HA'.out.below (below_drewN (Below.refl _ _) _))
      have HO3 : Hid (w3.ownsRow w2.heap.size 5 1 u6 ol.length (u8V ol)) := Lib.hid (by rw [← hW]; exact own_below HOW.out (below_drewN (Below.refl _ _) _))
      have hw3 : w2.heap.size ≤ w3.heap.size := HB3.out.size
      clear hW c0 c1' c2' w1' w2' w3' w4' qL
      go_wp2_with fail
      refine (HH.out w3 HA3'.out).mono ?_
      rintro e w4 ⟨g1, cc1, cc2, rfl, hr1, hr2, hb4⟩
      have HR1 := Lib.hid hr1
      have HRD := Lib.hid hr2
      have HBB := Lib.hid (HB3.out.trans (hb4.mono hw3))
      have HA4 := Lib.hid (HA3'.out.below hb4)
      have HO4 := Lib.hid (own_below HO3.out hb4)
      clear hr1 hr2 hb4
      go_wp2_with fail
      have HT := tell_calls gA 0 c cc1 cc2 w2.heap.size (some ⟨g1, 0, none⟩) (some ⟨g1, (lsD b.ts).length, none⟩) (strB s) ((strB s).drop (wrB P b).length) a4 (lsD b.ts) (dsD b.ts) _ ol b.ts w4 HA4.out (by rw [HSL.out, HNB.out]; exact HCB.out) (by rw [HSL.out, HNB.out]; omega) HR1.out HRD.out (by have := lsD_len b.ts; omega) (by have := dsD_len b.ts; omega) (lsD_in _ hn6) (dsD_in _ hn6) (Nat.le_of_eq (lsD_tot _ hn6)) (dsD_tot _ hn6) (lsD_end _ hn6) (fun t ht => tokW_dyn hn6 ht (HT1.out t ht)) HT2.out (by rw [HSL.out, HNB.out]; exact hq7) (by rw [HQ6.out, ← HR2.out]) hexl HO4.out (fun e => by have := (HO4.out.lt gA e).1; omega) HBB.out.size
      rw [HSL.out, HNB.out] at HT
      refine HT.mono ?_
      rintro e w6 ⟨v6, rfl, ho6, hg6⟩
      have HO7 : Hid (w6.ownsRow w2.heap.size 5 1 v6 (outB ol b).length (u8V (outB ol b))) := Lib.hid (by
        rw [HOB.out]
        exact ho6)
      have HB7 := Lib.hid (HBB.out.trans (hg6.below (fun q e => (HO4.out.lt q e).1) HBB.out.size))
      have HEQ : Hid (nb - ((strB s).drop (wrB P b).length).length = (wrB P b).length) := Lib.hid (by rw [List.length_drop, HSL.out, HNB.out]; rw [HSL.out, HNB.out] at hq2; omega)
      clear ho6 hg6
      obtain ⟨n7, hn7⟩ : ∃ n7, (wrB P b).length = n7 := ⟨_, rfl⟩
      have hlt : a < n7 ∧ n7 ≤ nb := by
        obtain ⟨m, hm⟩ := wrBs_ext l (wrB P b)
        have h1 := congrArg List.length HBT3.out
        rw [hm, List.length_append, List.length_append, HSL.out, HNB.out, hn7] at h1
        obtain ⟨m2, hm2⟩ := wrB_ext P b
        have h2 := congrArg List.length hm2
        rw [List.length_append, List.length_append, kindB_len, hn7, HAP.out] at h2
        omega
      have HEQ : Hid (nb - ((strB s).drop (wrB P b).length).length = n7) := Lib.hid (HEQ.out.trans hn7)
      obtain ⟨z, hz⟩ : ∃ z, nb - ((strB s).drop (wrB P b).length).length = z := ⟨_, rfl⟩
      have hzn : z = n7 := by rw [← hz]; exact HEQ.out
      rw [hz, hzn]
      clear hz hzn HEQ
      rcases l with _ | ⟨b2, l⟩
      · obtain rfl : L = true := HLA.out
        go_wp2
        go_ret3
        have hend : n7 = nb - rest.length := by
          have h := congrArg List.length HBT3.out
          have h3 : wrBs (wrB P b) [] = wrB P b := rfl
          rw [h3, List.length_append, HSL.out, HNB.out, hn7] at h
          omega
        have hEE : outB ol b = E := HE'.out
        refine ⟨_, by rw [HNB.out, ← hend]; rfl, ?_, ?_⟩
        · rw [← hEE]
          exact own_base HO7.out HB2.out.size
        · exact HB2.out.trans (HB7.out.mono HB2.out.size)
      · obtain rfl : L = false := HLA.out
        have HN7 := Lib.hid hn7
        clear hn7
        go_wp2
        go_roundw
        case rel => exact ⟨wrB P b, outB ol b, b2 :: l, by rw [HN7.out], by simp, HOK2.out, HBT3.out, HE'.out, HO7.out, HB7.out⟩
        case measure => simp [intOf]; omega
end Go.Proofs.YtmpokiflhijnoaaGreatDoor.Rf

/-
  The reference of layer 7: Read, of a text that is a stream of blocks.
-/
namespace Go.Proofs.YtmpokiflhijnoaaGreatDoor.Rf
open Go.RowKit Go.Shelf Go.Proofs.YtmpokiflhijnoaaGreatDoor.Mg Go.Proofs.YtmpokiflhijnoaaGreatDoor.Bw Go.Proofs.YtmpokiflhijnoaaGreatDoor.Bk Go.Proofs.YtmpokiflhijnoaaGreatDoor.Cn Go.Proofs.YtmpokiflhijnoaaGreatDoor.Zp
set_option linter.unusedVariables false
set_option linter.unusedSimpArgs false

theorem conv_nil (W : World) : (convert 39 9 (.slice none 0 0)).run Tryz.prog W = .ok (.string ⟨#[]⟩) W := by kernel_rfl
theorem conv_own {W : World} {base : Nat} {v : Value} {l : List Int} (h : W.ownsRow base 5 1 v l.length (u8V l)) : (convert 39 9 v).run Tryz.prog W = .ok (.string (strOfNums l)) W := by
  rcases h.2 with ⟨rfl, h0⟩ | ⟨g, cap, cur, rfl, -⟩
  · obtain rfl : l = [] := List.length_eq_zero_iff.1 h0
    exact conv_nil W
  · refine run_convert_bytes_arg (P := Tryz.prog) (w := W) 39 5 Tryz.underlying39 Tryz.underlying5 g 0 l.length cap l rfl (fun i hi => ?_) 9 Tryz.underlying9
    rw [Nat.zero_add]
    exact own_cell1 h i _ (u8V_get l i hi)

set_option maxHeartbeats 2000000 in
set_option maxRecDepth 100000 in
theorem readx_calls (s : ByteArray) (bks : List Blk) (rest : List Bool) (w : World) (hs : s.size ≤ 100000000) (hne : bks ≠ []) (hok : okBs [] bks) (hbits : strB s = wrBs [] bks ++ rest) (hout : (outBs [] bks).length ≤ 1000000000) :
    Calls Tryz.prog 7 #[.string s] w fun e w' => e = .returned (.tuple #[.string (strOfNums (outBs [] bks)), .int .i64 ((8 * s.size - rest.length : Nat) : Int), .int .i64 0]) ∧ Below w.heap.size w w' := by
  have HR := Lib.hid (read_calls s bks rest w hs hne hok hbits hout)
  obtain ⟨z, hz⟩ : ∃ z, 8 * s.size - rest.length = z := ⟨_, rfl⟩
  rw [hz] at HR
  clear hok hbits hne
  go_enter Tryz.func7, Tryz.ntmps7
  go_wp2_with fail
  refine HR.out.mono ?_
  rintro e w2 ⟨v, rfl, ho, hb⟩
  have hc := conv_own ho
  have HB := Lib.hid hb
  obtain ⟨S, hS⟩ : ∃ S, strOfNums (outBs [] bks) = S := ⟨_, rfl⟩
  rw [hS] at hc
  have HS := Lib.hid hS
  have HZ := Lib.hid hz
  obtain ⟨A, c, rfl⟩ := own_form ho
  clear ho hb hS hz
  go_wp2
  go_ret3
  rw [HS.out, HZ.out]
  exact ⟨rfl, HB.out⟩
end Go.Proofs.YtmpokiflhijnoaaGreatDoor.Rf

