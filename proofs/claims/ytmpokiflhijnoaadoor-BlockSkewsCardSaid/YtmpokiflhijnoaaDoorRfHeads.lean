/-
  The reference of layer 7: the lengths of a Dynamic block are told again.
-/
import Derived.Test.YtmpokiflhijnoaaDoorRfHeadsP
import Derived.Test.YtmpokiflhijnoaaDoorRfTell
import Derived.BigQuiet
namespace Go.Proofs.YtmpokiflhijnoaaDoor.Rf
open Go.RowKit Go.Shelf Go.Proofs.YtmpokiflhijnoaaDoor.Mg Go.Proofs.YtmpokiflhijnoaaDoor.Bw Go.Proofs.YtmpokiflhijnoaaDoor.Bk Go.Proofs.YtmpokiflhijnoaaDoor.Cn Go.Proofs.YtmpokiflhijnoaaDoor.Zp
set_option linter.unusedVariables false
set_option linter.unusedSimpArgs false

def ordI' : List Int := [16, 17, 18, 0, 8, 7, 9, 6, 10, 5, 11, 4, 12, 3, 13, 2, 14, 1, 15]
theorem ordI_len : ordI'.length = 19 := rfl
theorem ordI_get : ∀ i, i < 19 → ordI'[i]? = some ((ordT.getD i 0 : Nat) : Int) := by decide +kernel
theorem own_form {w : World} {base T size n : Nat} {v : Value} {xs : List Value} (h : w.ownsRow base T size v n xs) : ∃ g c, v = .slice g n c := by
  rcases h.2 with ⟨rfl, rfl⟩ | ⟨g, cap, cur, rfl, -⟩
  · exact ⟨_, _, rfl⟩
  · exact ⟨_, _, rfl⟩
theorem getLast_get {l : List Int} {v : Int} (h : l.getLast? = some v) : 0 < l.length ∧ l[l.length - 1]? = some v := by
  rcases l with _ | ⟨a, t⟩
  · simp at h
  · refine ⟨by simp, ?_⟩
    rw [List.getLast?_eq_getElem?] at h
    exact h
theorem one64 (x : Int) : ∀ u ∈ [Value.int .i64 x], u.oneCell' = true := by
  intro u hu
  rw [List.mem_singleton.1 hu]
  rfl
theorem results_tmp4 {fn : Func} {t u v x : Tmp} (h : fn.results = #[.tmp t, .tmp u, .tmp v, .tmp x]) (tmps : Array Value) (P : Program) (w : World) :
    (results fn tmps).run P w = .ok (.tuple #[tmps.getD t undef, tmps.getD u undef, tmps.getD v undef, tmps.getD x undef]) w := by
  simp [results, h]
theorem rowI_new {W : World} {o : List Int} : RowI (W.alloc (.cells (cellsI o) 3)) W.heap.size o := World.alloc_heap_new _ _
theorem intsV_len (l : List Int) : (intsV l).length = l.length := List.length_map _
theorem reads_own {w : World} {base g c : Nat} {ls : List Int} {n : Nat} (h : w.ownsRow base 3 1 (.slice (some ⟨g, 0, none⟩) n c) n (intsV ls)) (i : Nat) (sub : List Int) (hsub : ∀ j (hj : j < sub.length), ls[i + j]? = some sub[j]) : Reads w (some ⟨g, i, none⟩) sub := fun j hj => by
  refine ⟨g, i, rfl, ?_⟩
  refine own_cell1 h _ _ ?_
  unfold intsV
  rw [List.getElem?_map, hsub j hj]
  rfl

set_option maxHeartbeats 16000000 in
set_option maxRecDepth 100000 in
theorem heads_calls (gA oA c : Nat) (bs rest : List Bool) (at' : Nat) (ls ds z : List Int) (l : List Ex) (w : World)
    (hA : BitsAt w (some ⟨gA, oA, none⟩) bs) (hc : bs.length ≤ c) (hcl : bs.length ≤ 1000000000) (ha : at' ≤ bs.length)
    (hla : 257 ≤ ls.length ∧ ls.length ≤ 286) (hld : 1 ≤ ds.length ∧ ds.length ≤ 30) (hz : z.length = 19) (hzi : ∀ x ∈ z, 0 ≤ x ∧ x ≤ 7) (hzt : tot 15 z = 2 ^ 15) (hzw : whyOk z false)
    (hu : unP [] l = some (ls ++ ds)) (hlo : ∀ x ∈ l, 0 < z.getD x.sym.toNat 0) (hli : ∀ x ∈ ls, 0 ≤ x ∧ x ≤ 15) (hdi : ∀ x ∈ ds, 0 ≤ x ∧ x ≤ 15) (h256 : 0 < ls.getD 256 0) (hlw : whyOk ls false) (hdw : whyOk ds true)
    (hbits : bs.drop at' = bitsN 14 (headN ls.length ds.length (tellC z)) ++ (tellsB z (tellC z) ++ (exsB z l ++ rest))) :
    Calls Tryd.prog 54 #[.slice (some ⟨gA, oA, none⟩) bs.length c, .int .i64 at'] w fun e w' =>
      ∃ g c1 c2 : Nat, e = .returned (.tuple #[.slice (some ⟨g, 0, none⟩) ls.length c1, .slice (some ⟨g, ls.length, none⟩) ds.length c2, .int .i64 ((bs.length - rest.length : Nat) : Int), .int .i64 0]) ∧ Reads w' (some ⟨g, 0, none⟩) ls ∧ Reads w' (some ⟨g, ls.length, none⟩) ds ∧ Below w.heap.size w w' := by
  obtain ⟨i0, hi, hz0, hz1, hz2⟩ := info_parts info_int
  have hii : Tryd.prog.info? 3 = some ti := by kernel_rfl
  have hiz0 : ti.zero = some (.int .i64 0) := by kernel_rfl
  have hiz1 : ti.size = 1 := by kernel_rfl
  have hiz2 : ti.bytes = 8 := by kernel_rfl
  have hmk : ∀ W : World, (Instr.makeSlice 22 (.int .i64 19) (.int .i64 19)).run Tryd.prog W = .ok (.slice (some ⟨W.heap.size, 0, none⟩) 19 19) (W.alloc (.cells (cellsI (List.replicate 19 0)) 3)) := fun W => by
    have := run_make (P := Tryd.prog) W 22 3 i0 (.int .i64 0) Tryd.underlying22 hi hz0 .i64 .i64 (19 : Nat) (19 : Nat) (by omega) (by omega) (by rw [hz2]; omega) (by omega)
    rw [← made_cells]
    simpa [hz1, Value.cells] using this
  have HNU := Lib.hid (fun (W : World) (a k x : Nat) (r : List Bool) (hA : BitsAt W (some ⟨gA, oA, none⟩) bs) (ha : a ≤ bs.length) (hk : k ≤ 32) (hx : x < 2 ^ k) (hd : bs.drop a = bitsN k x ++ r) => (by
    have hlen := congrArg List.length hd
    rw [List.length_drop, List.length_append, bitsN_len] at hlen
    have h := num_calls gA oA c bs a k W hA hc (by omega) hk (by omega)
    rw [hd, List.take_left' (bitsN_len k x), numB_bits, Nat.mod_eq_of_lt hx] at h
    exact h : Calls Tryd.prog 77 #[.slice (some ⟨gA, oA, none⟩) bs.length c, .int .i64 a, .int .i64 k] W fun e w' => e = .returned (.tuple #[.int .i64 (x : Int), .bool true]) ∧ w' = W))
  have hz15 : ∀ x ∈ z, 0 ≤ x ∧ x ≤ 15 := fun x hx => by have := hzi x hx; omega
  have HNZ := Lib.hid (fun (W : World) (B a s : Nat) (r : List Bool) (hA : BitsAt W (some ⟨gA, oA, none⟩) bs) (hB : RowS W B 19 (fun t => txt (wordB z t))) (ha : a ≤ bs.length) (hs : s < 19) (hp : 0 < z.getD s 0) (hd : bs.drop a = wordB z s ++ r) => next_calls (some ⟨gA, oA, none⟩) c B 19 z bs r a s W hA hB hz (by decide) (by omega) (by omega) hz15 (by omega) hs hp hd)
  have HWZ := Lib.hid (fun (W : World) (g : Nat) (h : Reads W (some ⟨g, 0, none⟩) z) => why_calls (some ⟨g, 0, none⟩) 19 z false W h (by omega) hz15 hzw)
  have HWO := Lib.hid (fun (W : World) (g : Nat) (h : Reads W (some ⟨g, 0, none⟩) z) => words_calls (some ⟨g, 0, none⟩) 19 z W h (by omega) hz15)
  have HWL := Lib.hid (fun (W : World) (g c2 : Nat) (h : Reads W (some ⟨g, 0, none⟩) ls) => why_calls (some ⟨g, 0, none⟩) c2 ls false W h (by omega) hli hlw)
  have HWD := Lib.hid (fun (W : World) (g o c2 : Nat) (h : Reads W (some ⟨g, o, none⟩) ds) => why_calls (some ⟨g, o, none⟩) c2 ds true W h (by omega) hdi hdw)
  rw [hz] at HWZ HWO
  have HZI := Lib.hid hzi
  have HZL := Lib.hid hz
  have HLO := Lib.hid hlo
  have HU := Lib.hid hu
  have HA := Lib.hid hA
  have HCR := tellC_range z
  have HPE := Lib.hid (partZ_end z hz)
  obtain ⟨la, hla2⟩ : ∃ k, ls.length = k := ⟨_, rfl⟩
  obtain ⟨ld, hld2⟩ : ∃ k, ds.length = k := ⟨_, rfl⟩
  obtain ⟨tc, htc⟩ : ∃ k, tellC z = k := ⟨_, rfl⟩
  obtain ⟨V, hV⟩ : ∃ k, headN ls.length ds.length (tellC z) = k := ⟨_, rfl⟩
  have hVp := headN_parts ls.length ds.length (tellC z) hla hld HCR
  obtain ⟨nb, hnb⟩ : ∃ k, bs.length = k := ⟨_, rfl⟩
  rw [hV] at hVp hbits
  rw [htc] at hVp hbits HCR HPE
  rw [hla2] at hVp hla HWL
  rw [hld2] at hVp hld HWD
  have HLE := Lib.hid (fun (a : Nat) (x y : List Bool) (ha : a ≤ bs.length) (h : bs.drop a = x ++ y) => (by have := drop_more h; rw [hnb] at *; exact ⟨this.1, by have := this.2; omega⟩ : bs.drop (a + x.length) = y ∧ a + x.length ≤ nb))
  have HU1 := Lib.hid (HNU.out w at' 14 V _ hA ha (by decide) hVp.1 hbits)
  obtain ⟨h1, h2⟩ := HLE.out at' _ _ ha hbits
  rw [bitsN_len] at h1 h2
  have H1 := Lib.hid h1
  rw [hla2, hld2, hnb]
  rw [hnb] at HNU HNZ HLE HU1 hc ha hcl
  have HNB := Lib.hid hnb
  have HLA := Lib.hid hla2
  have HLD := Lib.hid hld2
  have e1 : (V : Int) % 32 + 257 = (la : Int) := by omega
  have e2 : (V : Int) / 32 % 32 + 1 = (ld : Int) := by omega
  have e3 : (V : Int) / 1024 + 4 = (tc : Int) := by omega
  have b0 : V < 16384 := hVp.1
  have q1 : decide (286 < (la : Int)) = false := decide_eq_false (by omega)
  have q2 : decide (30 < (ld : Int)) = false := decide_eq_false (by omega)
  obtain ⟨a1, ha1⟩ : ∃ k, at' + 14 = k := ⟨_, rfl⟩
  have e4 : (at' : Int) + 14 = (a1 : Int) := by omega
  rw [ha1] at h2 H1
  have H256 := Lib.hid h256
  clear hA hz hzi hzt hzw hu hlo hli hdi h256 hlw hdw hbits hi hz0 hz1 hz2 hz15 h1 hla2 hld2 htc hV hVp hnb ha1
  have hmw := hmk (w.alloc (.cells (cellsI ordI') 3))
  have HOE : Hid ((#[Value.int .i64 16, .int .i64 17, .int .i64 18, .int .i64 0, .int .i64 8, .int .i64 7, .int .i64 9, .int .i64 6, .int .i64 10, .int .i64 5, .int .i64 11, .int .i64 4, .int .i64 12, .int .i64 3, .int .i64 13, .int .i64 2, .int .i64 14, .int .i64 1, .int .i64 15] : Array Value) = cellsI ordI') := Lib.hid rfl
  obtain ⟨Z0, hZ0⟩ : ∃ Z0, cellsI (List.replicate 19 0) = Z0 := ⟨_, rfl⟩
  have HZ0 := Lib.hid hZ0
  rw [hZ0] at hmw
  clear hmk hZ0
  go_enter Tryd.func54, Tryd.ntmps54
  go_wp2_with fail
  refine HU1.out.mono ?_
  rintro e w1 ⟨rfl, rfl⟩
  go_upto_region 9 with fail
  rw [HOE.out]
  have HB0 : Hid (Below w1.heap.size w1 ((w1.alloc (.cells (cellsI ordI') 3)).alloc (.cells Z0 3))) := Lib.hid (((Below.refl _ _).alloc (Nat.le_refl _) _).alloc (by simp) _)
  obtain ⟨go, hgo⟩ : ∃ k, w1.heap.size = k := ⟨_, rfl⟩
  obtain ⟨gl, hgl⟩ : ∃ k, (w1.alloc (.cells (cellsI ordI') 3)).heap.size = k := ⟨_, rfl⟩
  have hgg : gl = go + 1 := by rw [← hgl, ← hgo]; simp
  have HRO : Hid (RowI ((w1.alloc (.cells (cellsI ordI') 3)).alloc (.cells Z0 3)) go ordI') := Lib.hid (by
    rw [← hgo]
    exact rowI_new.below ((Below.refl _ _).alloc (Nat.le_refl _) _))
  have HRL : Hid (RowI ((w1.alloc (.cells (cellsI ordI') 3)).alloc (.cells Z0 3)) gl (partZ z 0)) := Lib.hid (by
    rw [← hgl, partZ_zero, ← HZ0.out]
    exact rowI_new)
  go_wp2_with fail
  have HGG := Lib.hid hgg
  rw [hgo, ← HGG.out]
  obtain ⟨w2, hw2⟩ : ∃ w2, (w1.alloc (.cells (cellsI ordI') 3)).alloc (.cells Z0 3) = w2 := ⟨_, rfl⟩
  rw [hw2] at HB0 HRO HRL ⊢
  have hgn : go ≠ gl := by omega
  have HGO := Lib.hid hgo
  clear hmw hgg hgo hgl hw2 HU1 e1 e2 e3 e4 q1 q2
  go_loopw [1, 15] (fun va vi wr => ∃ i a : Nat, i ≤ tc ∧ vi = .int .i64 i ∧ va = .int .i64 a ∧ a = a1 + 3 * i ∧ RowI wr go ordI' ∧ RowI wr gl (partZ z i) ∧ Below w1.heap.size w1 wr) (fun _ vi _ => tc - (intOf vi).toNat)
  case atStart => exact ⟨0, a1, Nat.zero_le _, rfl, rfl, rfl, HRO.out, HRL.out, HB0.out⟩
  case round =>
    obtain ⟨i, a, hi, rfl, rfl, hai, hro, hrl, hbl⟩ := hrel
    have HRO1 := Lib.hid hro
    have HRL1 := Lib.hid hrl
    have HB1 := Lib.hid hbl
    clear hro hrl hbl HB0 HRO HRL
    by_cases hit : i < tc
    · have q3 : decide ((i : Int) < (tc : Int)) = true := decide_eq_true (by omega)
      have q3' : decide (i < tc) = true := decide_eq_true hit
      obtain ⟨r, hr⟩ := tellsB_split z i tc hit
      have hb1 := H1.out
      rw [hr] at hb1
      simp only [List.append_assoc] at hb1
      obtain ⟨h3, h4⟩ := HLE.out a1 _ _ h2 hb1
      rw [tellsB_len, ← hai] at h3 h4
      have ho := ordI_ord i (by omega)
      obtain ⟨hoL, hog⟩ := List.getElem?_eq_some_iff.1 (ordI_get i (by omega))
      have hpn := partZ_next z i (by omega)
      unfold tellB at h3
      have hoc := HRO1.out.cell i (by rw [ordI_len]; omega)
      rw [hog] at hoc
      obtain ⟨oc1, oc2⟩ := hoc
      obtain ⟨o, ho2⟩ : ∃ o, ordT.getD i 0 = o := ⟨_, rfl⟩
      rw [ho2] at h3 oc1 hpn ho
      have hzo : 0 ≤ z.getD o 0 ∧ z.getD o 0 ≤ 7 := by
        have h := HZI.out (z.getD o 0)
        rw [getD_of (by rw [HZL.out]; exact ho.2)] at h ⊢
        exact h (List.getElem_mem _)
      obtain ⟨x, hx⟩ : ∃ x : Nat, z.getD o 0 = x := ⟨(z.getD o 0).toNat, by omega⟩
      rw [hx] at h3 hpn hzo
      have hxn : ((x : Int)).toNat = x := by omega
      rw [hxn] at h3
      have HU2 := Lib.hid (HNU.out wr a 3 x _ (HA.out.below HB1.out) h4 (by decide) (by omega) h3)
      obtain ⟨h5, h6⟩ := HLE.out a _ _ h4 h3
      rw [bitsN_len] at h6
      obtain ⟨y0, lc1, lc2⟩ : ∃ y, wr.cell? ⟨gl, o, none⟩ = some y ∧ wr.frozen? ⟨gl, o, none⟩ = false := ⟨_, HRL1.out.cell o (by rw [partZ_len]; exact ho.2)⟩
      have HRL2 : Hid (RowI (wr.setCell ⟨gl, o, none⟩ (.int .i64 (x : Int))) gl (partZ z (i + 1))) := Lib.hid (by
        rw [hpn]
        exact HRL1.out.set o x)
      have HRO2 : Hid (RowI (wr.setCell ⟨gl, o, none⟩ (.int .i64 (x : Int))) go ordI') := Lib.hid (HRO1.out.grown (Mg.grown_set wr gl o (.int .i64 (x : Int))) (fun e => hgn (Option.some.inj e)))
      have HB2 : Hid (Below w1.heap.size w1 (wr.setCell ⟨gl, o, none⟩ (.int .i64 (x : Int)))) := Lib.hid (HB1.out.setCell (p := ⟨gl, o, none⟩) (by simp only; rw [HGO.out]; have := HGG.out; omega) _)
      have ho19 : o < 19 := ho.2
      have b2 : a ≤ nb := h4
      have b3 : nb ≤ 1000000000 := by omega
      have HAI := Lib.hid hai
      clear hr hb1 h3 h5 hx hxn hpn hog ho ho2 hai
      go_wp2_with fail
      refine HU2.out.mono ?_
      rintro e w3 ⟨rfl, rfl⟩
      go_wp2
      go_roundw
      case rel => exact ⟨i + 1, a + 3, by omega, by go_num, by go_num, by have := HAI.out; omega, HRO2.out, HRL2.out, HB2.out⟩
      case measure => simp [intOf]; omega
    · have hit2 : i = tc := by omega
      have q3 : decide ((i : Int) < (tc : Int)) = false := decide_eq_false (by omega)
      have q3' : decide (i < tc) = false := decide_eq_false hit
      have HRZ : Hid (RowI wr gl z) := Lib.hid (by
        have h := HRL1.out
        rw [hit2, HPE.out] at h
        exact h)
      obtain ⟨h3, h4⟩ := HLE.out a1 _ _ h2 H1.out
      rw [tellsB_len, ← hit2, ← hai] at h3 h4
      have H3 := Lib.hid h3
      obtain ⟨N, hN⟩ : ∃ N, la + ld = N := ⟨_, rfl⟩
      have HN := Lib.hid hN
      have eN : (la : Int) + (ld : Int) = (N : Int) := by omega
      have bN : N ≤ 316 := by omega
      have hw1 : w1.heap.size ≤ wr.heap.size := HB1.out.size
      clear h3 HRL1 hit2 hai hi hit
      go_wp2_with fail
      refine (HWZ.out _ gl HRZ.out.reads).mono ?_
      rintro e w3 ⟨rfl, rfl⟩
      go_wp2_with fail
      refine (HWO.out _ gl HRZ.out.reads).mono ?_
      rintro e w4 ⟨B, rfl, hrs, hB, hb4⟩
      have HRS := Lib.hid hrs
      have HB4 := Lib.hid (HB1.out.trans (hb4.mono hw1))
      have N0 := Lib.hid (World.ownsRow_nil w4 w4.heap.size 3 1)
      clear hrs hb4 q3 q3' HRZ HRO1 HB1
      go_wp2_with fail
      go_loopw [1, 20] (fun va vo wr => ∃ (a : Nat) (ol : List Int) (l' : List Ex), va = .int .i64 a ∧ a ≤ nb ∧ bs.drop a = exsB z l' ++ rest ∧ unP ol l' = some (ls ++ ds) ∧ (∀ x ∈ l', 0 < z.getD x.sym.toNat 0) ∧ wr.ownsRow w4.heap.size 3 1 vo ol.length (intsV ol) ∧ Grew (.slice none 0 0) w4 vo wr) (fun va _ _ => nb - (intOf va).toNat)
      case atStart => exact ⟨a, [], l, rfl, h4, H3.out, HU.out, HLO.out, N0.out, Grew.refl _ _⟩
      case round =>
        obtain ⟨a, ol, l', rfl, hab, hbs, hun, hlo, hoq, hgq⟩ := hrel
        have HOQ := Lib.hid hoq
        have HGQ := Lib.hid hgq
        have HLO' := Lib.hid hlo
        have HBR : Hid (Below w1.heap.size w1 wr) := Lib.hid (HB4.out.trans (Below.mono (HGQ.out.below (base := w4.heap.size) (fun k e => by cases e) (Nat.le_refl _)) HB4.out.size))
        have HRS' : Hid (RowS wr B 19 (fun s => txt (wordB z s))) := Lib.hid (HGQ.out.rowS HRS.out (by intro e; cases e))
        have HA' := Lib.hid (HA.out.below HBR.out)
        have hwb : w4.heap.size ≤ wr.heap.size := HGQ.out.grown.size
        clear hoq hgq hlo
        rcases l' with _ | ⟨x, l'⟩
        · have hol : ol = ls ++ ds := by
            rw [unP] at hun
            exact Option.some.inj hun
          have hLN : ol.length = N := by rw [hol, List.length_append, HLA.out, HLD.out, HN.out]
          have hend : a = nb - rest.length := by
            have h := congrArg List.length hbs
            rw [List.length_drop, HNB.out] at h
            have h2 : (exsB z [] ++ rest).length = rest.length := rfl
            omega
          rw [hLN] at HOQ
          obtain ⟨gq, cq, rfl, hgq0, _⟩ := HOQ.out.form (by omega)
          have hcq : N ≤ cq := by
            rcases HOQ.out.2 with ⟨h, _⟩ | ⟨g, cap, cur, h, _, _, hnc, _⟩
            · cases h
            · cases h
              exact hnc
          have hr1 : Reads wr (some ⟨gq, 0, none⟩) ls := reads_own HOQ.out 0 ls (fun j hj => by rw [hol, Nat.zero_add, List.getElem?_append_left hj, List.getElem?_eq_getElem hj])
          have hr2 : Reads wr (some ⟨gq, la, none⟩) ds := reads_own HOQ.out la ds (fun j hj => by
            rw [hol, List.getElem?_append_right (by rw [HLA.out]; omega), HLA.out, Nat.add_sub_cancel_left, List.getElem?_eq_getElem hj])
          have HR1 := Lib.hid hr1
          have HR2 := Lib.hid hr2
          have hcell : wr.cell? ⟨gq, 256, none⟩ = some (.int .i64 (ls.getD 256 0)) := by
            refine own_cell1 HOQ.out 256 _ ?_
            unfold intsV
            rw [List.getElem?_map, hol, List.getElem?_append_left (by rw [HLA.out]; omega), List.getElem?_eq_getElem (by rw [HLA.out]; omega), getD_of (by rw [HLA.out]; omega)]
            rfl
          obtain ⟨y, hy⟩ : ∃ y, ls.getD 256 0 = y := ⟨_, rfl⟩
          have hyp : 0 < y := by rw [← hy]; exact H256.out
          rw [hy] at hcell
          have q4 : decide ((N : Int) < (N : Int)) = false := decide_eq_false (by omega)
          have q4' : decide (N < N) = false := decide_eq_false (by omega)
          have q5 : (y == 0) = false := beq_eq_false_iff_ne.2 (by omega)
          have b4 : (la : Int) ≤ (N : Int) ∧ (la : Int) ≤ (cq : Int) ∧ (N : Int) ≤ (cq : Int) := by omega
          have b5 : (N : Int) - (la : Int) = (ld : Int) := by omega
          have b6 : ¬ cq = la := by omega
          have b7 : ¬ la = cq := by omega
          have HEND := Lib.hid hend
          have HLN : Hid (N - la = ld) := Lib.hid (by omega)
          clear hbs hun hol hLN hr1 hr2 hend hy
          go_wp2_with fail
          refine (HWL.out wr gq cq HR1.out).mono ?_
          rintro e w5 ⟨rfl, rfl⟩
          go_wp2_with fail
          rw [HLN.out]
          refine (HWD.out w5 gq la (cq - la) HR2.out).mono ?_
          rintro e w6 ⟨rfl, rfl⟩
          go_wp2_with fail
          go_quiet (fail)
          generalize hW : World.drewN _ _ = w7
          have HB7 : Hid (Below w6.heap.size w6 w7) := Lib.hid (by rw [← hW]; exact below_drewN (Below.refl _ _) _)
          clear hW
          go_wp2_with fail
          (try simp only [Exit.inBlock, Exit.then])
          refine bodyPost_ret (results_tmp4 rfl _ _ _) rfl ?_
          refine ⟨gq, cq, cq - la, ?_, HR1.out.below HB7.out, HR2.out.below HB7.out, ?_⟩
          · rw [← HEND.out, ← HLN.out]
            rfl
          · exact HBR.out.trans (Below.mono HB7.out HBR.out.size)
        · have hle : ol.length + 1 ≤ N := by
            have hLN : (ls ++ ds).length = N := by rw [List.length_append, HLA.out, HLD.out, HN.out]
            rcases un_step hun with ⟨_, _, _, _, h⟩ | ⟨v, least, bits, m, hk, _, _, h⟩
            · have := un_len _ _ _ h
              rw [hLN, List.length_append] at this
              exact this
            · have := un_len _ _ _ h
              rw [hLN, List.length_append, List.length_replicate] at this
              rcases hk with hk | hk | hk <;> omega
          have hbs2 : bs.drop a = wordB z x.sym.toNat ++ (bitsN x.bits x.val ++ (exsB z l' ++ rest)) := by
            rw [hbs, exsB_cons]
            unfold exB
            simp only [List.append_assoc]
          have hlx := HLO'.out x List.mem_cons_self
          have HLO2 := Lib.hid (fun y hy => HLO'.out y (List.mem_cons_of_mem _ hy))
          clear hbs
          rcases un_step hun with ⟨hx0, hx1, hx2, hx3, hun2⟩ | ⟨v, least, bits, mm, hk, hxb, hxv, hun2⟩
          · obtain ⟨s, hs⟩ : ∃ s : Nat, x.sym = s := ⟨x.sym.toNat, by omega⟩
            have hsn : x.sym.toNat = s := by omega
            rw [hsn] at hlx hbs2
            rw [hx2, bitsN_zero, List.nil_append] at hbs2
            rw [hs] at hun2
            have hs16 : s < 16 := by omega
            have HNX := Lib.hid (HNZ.out wr B a s _ HA'.out HRS'.out hab (by omega) hlx hbs2)
            obtain ⟨h5, h6⟩ := HLE.out a _ _ hab hbs2
            have hwp : 0 < (wordB z s).length := List.length_pos_iff.2 (word_ne (fun x hx => by have := HZI.out x hx; omega) hlx)
            obtain ⟨a2, ha2⟩ : ∃ k, a + (wordB z s).length = k := ⟨_, rfl⟩
            rw [ha2] at HNX h5 h6
            have H5 := Lib.hid h5
            have HUN2 := Lib.hid hun2
            obtain ⟨m, hm⟩ : ∃ m, ol.length = m := ⟨_, rfl⟩
            have HM := Lib.hid hm
            rw [hm] at HOQ hle
            obtain ⟨Ao, co, rfl⟩ := own_form HOQ.out
            have haa : a < a2 := by omega
            have q4 : decide ((m : Int) < (N : Int)) = true := decide_eq_true (by omega)
            have q4' : decide (m < N) = true := decide_eq_true (by omega)
            have q5 : decide ((s : Int) < 16) = true := decide_eq_true (by omega)
            clear h5 hwp ha2 hbs2 hun hun2 hm hx0 hx1 hx2 hx3 hs hsn hlx
            go_wp2_with fail
            refine HNX.out.mono ?_
            rintro e w5 ⟨rfl, hb5⟩
            have HO5 := Lib.hid (own_below HOQ.out hb5)
            have HG5 := Lib.hid (HGQ.out.more hb5)
            have hbz : w4.heap.size ≤ w5.heap.size := by have h3 := hb5.size; omega
            clear hb5
            go_wp2_with (at_builtin; refine wpList_append_at _ rfl _ _ 22 rfl w4.heap.size 3 ti (.int .i64 0) 1 8 Tryd.underlying22 hii hiz0 hiz1 hiz2 rfl (by decide) _ _ _ rfl (HO5.out.alloc _) ⟨w5.heap.size, 0, none⟩ 1 1 [.int .i64 (s : Int)] rfl rfl ?c1 ?c2 ?c3 ?c4 ?c5 ?_)
            case c1 => exact new_cells w5 [.int .i64 (s : Int)] _
            case c2 => exact one64 _
            case c3 => unfold maxLen; omega
            case c4 => omega
            case c5 => simp; omega
            intro v7 w7 hown1 hg1 hfr
            have HG7 : Hid (Grew (.slice none 0 0) w4 v7 w7) := Lib.hid ((HG5.out.more ((Below.refl _ _).alloc (Nat.le_refl _) _)).trans ⟨hg1, fun k e => by have := hfr k e; simpa using this⟩)
            have HO7 : Hid (w7.ownsRow w4.heap.size 3 1 v7 (ol ++ [(s : Int)]).length (intsV (ol ++ [(s : Int)]))) := Lib.hid (by
              rw [intsV_snoc, List.length_append, HM.out]
              exact hown1)
            clear hown1 hg1 hfr hbz
            go_wp2
            go_roundw
            case rel => exact ⟨a2, ol ++ [(s : Int)], l', rfl, h6, H5.out, HUN2.out, HLO2.out, HO7.out, HG7.out⟩
            case measure => simp [intOf]; omega
          · rcases hk with ⟨hsy, hlv, rfl, rfl, rfl⟩ | ⟨hsy, rfl, rfl, rfl, rfl⟩ | ⟨hsy, rfl, rfl, rfl, rfl⟩
            · have hxn : x.sym.toNat = 16 := by omega
              rw [hxn] at hlx hbs2
              rw [hxb] at hbs2
              have HNX := Lib.hid (HNZ.out wr B a 16 _ HA'.out HRS'.out hab (by decide) hlx hbs2)
              obtain ⟨h5, h6⟩ := HLE.out a _ _ hab hbs2
              have hwp : 0 < (wordB z 16).length := List.length_pos_iff.2 (word_ne (fun x hx => by have := HZI.out x hx; omega) hlx)
              obtain ⟨a2, ha2⟩ : ∃ k, a + (wordB z 16).length = k := ⟨_, rfl⟩
              rw [ha2] at HNX h5 h6
              obtain ⟨xv, hxv2⟩ : ∃ k, x.val = k := ⟨_, rfl⟩
              rw [hxv2] at h5 hxv hun2
              have HNM := Lib.hid (fun W hA => HNU.out W a2 2 xv _ hA h6 (by decide) (by omega) h5)
              obtain ⟨h7, h8⟩ := HLE.out a2 _ _ h6 h5
              rw [bitsN_len] at h7 h8
              obtain ⟨a3, ha3⟩ : ∃ k, a2 + 2 = k := ⟨_, rfl⟩
              rw [ha3] at h7 h8
              have H7 := Lib.hid h7
              have HUN2 := Lib.hid hun2
              obtain ⟨m, hm⟩ : ∃ m, ol.length = m := ⟨_, rfl⟩
              have hmN : m + (3 + xv) ≤ N := by
                have := un_len _ _ _ hun2
                have hLN : (ls ++ ds).length = N := by rw [List.length_append, HLA.out, HLD.out, HN.out]
                rw [hLN, List.length_append, List.length_replicate, hm] at this
                exact this
              obtain ⟨hop, hlast⟩ := getLast_get hlv
              have hlast2 : (intsV ol)[ol.length - 1]? = some (.int .i64 v) := by
                unfold intsV
                rw [List.getElem?_map, hlast]
                rfl
              obtain ⟨j, hj⟩ : ∃ j, ol.length - 1 = j := ⟨_, rfl⟩
              rw [hj] at hlast2
              have hmj : (m : Int) - 1 = (j : Int) := by omega
              have hj2 : j < m := by omega
              have HM := Lib.hid hm
              rw [hm] at HOQ hle
              obtain ⟨gq, co, rfl, _, _⟩ := HOQ.out.form (by omega)
              have q7 : ((m : Int) == 0) = false := beq_eq_false_iff_ne.2 (by omega)
              have q7' : (m == 0) = false := beq_eq_false_iff_ne.2 (by omega)
              clear hlv hop hlast hj
              have haa : a < a2 ∧ a2 ≤ a3 := by omega
              have e3 : (a2 : Int) + 2 = (a3 : Int) := by omega
              have q4 : decide ((m : Int) < (N : Int)) = true := decide_eq_true (by omega)
              have q4' : decide (m < N) = true := decide_eq_true (by omega)
              have q6 : decide ((N : Int) < (m : Int) + 3 + (xv : Int)) = false := decide_eq_false (by omega)
              have b8 : (m : Int) + 3 + (xv : Int) ≤ 316 := by omega
              clear h5 h7 hwp ha2 ha3 hbs2 hun hun2 hm hxv2 hxn hlx hxb
              go_wp2_with fail
              refine HNX.out.mono ?_
              rintro e w5 ⟨rfl, hb5⟩
              have HO5 := Lib.hid (own_below HOQ.out hb5)
              have HG5 := Lib.hid (HGQ.out.more hb5)
              have HA5 := Lib.hid (HA'.out.below hb5)
              clear hb5
              have hcell := own_cell1 HO5.out j _ hlast2
              clear hlast2
              go_wp2_with fail
              refine (HNM.out w5 HA5.out).mono ?_
              rintro e w6 ⟨rfl, rfl⟩
              go_wp2
              clear q4 q4' q6 e3
              go_loopw [20, 29] (fun vo vi wr => ∃ i : Nat, i ≤ 3 + xv ∧ vi = .int .i64 i ∧ wr.ownsRow w4.heap.size 3 1 vo (m + i) (intsV (ol ++ List.replicate i v)) ∧ Grew (.slice none 0 0) w4 vo wr) (fun _ vi _ => 3 + xv - (intOf vi).toNat)
              case atStart => exact ⟨0, Nat.zero_le _, rfl, by rw [List.replicate_zero, List.append_nil]; exact HO5.out, HG5.out⟩
              case round =>
                obtain ⟨i, hi, rfl, hoq, hgq⟩ := hrel
                have HOR := Lib.hid hoq
                have HGR := Lib.hid hgq
                have hbz : w4.heap.size ≤ wr.heap.size := hgq.grown.size
                clear hoq hgq HO5 HG5
                by_cases hin : i < 3 + xv
                · have q6 : decide ((i : Int) < 3 + (xv : Int)) = true := decide_eq_true (by omega)
                  obtain ⟨mi, hmi⟩ : ∃ k, m + i = k := ⟨_, rfl⟩
                  have HMI : Hid (m + (i + 1) = mi + 1) := Lib.hid (by omega)
                  have hmb : mi ≤ 316 := by omega
                  rw [hmi] at HOR
                  clear hmi
                  go_wp2_with (at_builtin; refine wpList_append_at _ rfl _ _ 22 rfl w4.heap.size 3 ti (.int .i64 0) 1 8 Tryd.underlying22 hii hiz0 hiz1 hiz2 rfl (by decide) _ _ _ rfl (HOR.out.alloc _) ⟨wr.heap.size, 0, none⟩ 1 1 [.int .i64 v] rfl rfl ?c1 ?c2 ?c3 ?c4 ?c5 ?_)
                  case c1 => exact new_cells wr [.int .i64 v] _
                  case c2 => exact one64 _
                  case c3 => unfold maxLen; omega
                  case c4 => omega
                  case c5 => simp; omega
                  intro v7 w7 hown1 hg1 hfr
                  have HG7 : Hid (Grew (.slice none 0 0) w4 v7 w7) := Lib.hid ((HGR.out.more ((Below.refl _ _).alloc (Nat.le_refl _) _)).trans ⟨hg1, fun k e => by have := hfr k e; simpa using this⟩)
                  have HO7 : Hid (w7.ownsRow w4.heap.size 3 1 v7 (m + (i + 1)) (intsV (ol ++ List.replicate (i + 1) v))) := Lib.hid (by
                    rw [List.replicate_succ', ← List.append_assoc, intsV_snoc, HMI.out]
                    exact hown1)
                  clear hown1 hg1 hfr hbz
                  go_wp2
                  go_roundw
                  case rel => exact ⟨i + 1, by omega, by go_num, HO7.out, HG7.out⟩
                  case measure => simp [intOf]; omega
                · have q6 : decide ((i : Int) < 3 + (xv : Int)) = false := decide_eq_false (by omega)
                  have hii2 : i = 3 + xv := by omega
                  have HOE : Hid (wr.ownsRow w4.heap.size 3 1 u20 (ol ++ List.replicate (3 + xv) v).length (intsV (ol ++ List.replicate (3 + xv) v))) := Lib.hid (by
                    rw [List.length_append, List.length_replicate, HM.out, ← hii2]
                    exact HOR.out)
                  clear hii2
                  go_wp2
                  go_roundw
                  case rel => exact ⟨a3, ol ++ List.replicate (3 + xv) v, l', rfl, h8, H7.out, HUN2.out, HLO2.out, HOE.out, HGR.out⟩
                  case measure => simp [intOf]; omega
            · have hxn : x.sym.toNat = 17 := by omega
              rw [hxn] at hlx hbs2
              rw [hxb] at hbs2
              have HNX := Lib.hid (HNZ.out wr B a 17 _ HA'.out HRS'.out hab (by decide) hlx hbs2)
              obtain ⟨h5, h6⟩ := HLE.out a _ _ hab hbs2
              have hwp : 0 < (wordB z 17).length := List.length_pos_iff.2 (word_ne (fun x hx => by have := HZI.out x hx; omega) hlx)
              obtain ⟨a2, ha2⟩ : ∃ k, a + (wordB z 17).length = k := ⟨_, rfl⟩
              rw [ha2] at HNX h5 h6
              obtain ⟨xv, hxv2⟩ : ∃ k, x.val = k := ⟨_, rfl⟩
              rw [hxv2] at h5 hxv hun2
              have HNM := Lib.hid (fun W hA => HNU.out W a2 3 xv _ hA h6 (by decide) (by omega) h5)
              obtain ⟨h7, h8⟩ := HLE.out a2 _ _ h6 h5
              rw [bitsN_len] at h7 h8
              obtain ⟨a3, ha3⟩ : ∃ k, a2 + 3 = k := ⟨_, rfl⟩
              rw [ha3] at h7 h8
              have H7 := Lib.hid h7
              have HUN2 := Lib.hid hun2
              obtain ⟨m, hm⟩ : ∃ m, ol.length = m := ⟨_, rfl⟩
              have hmN : m + (3 + xv) ≤ N := by
                have := un_len _ _ _ hun2
                have hLN : (ls ++ ds).length = N := by rw [List.length_append, HLA.out, HLD.out, HN.out]
                rw [hLN, List.length_append, List.length_replicate, hm] at this
                exact this
              have HM := Lib.hid hm
              rw [hm] at HOQ hle
              obtain ⟨Ao, co, rfl⟩ := own_form HOQ.out
              have haa : a < a2 ∧ a2 ≤ a3 := by omega
              have e3 : (a2 : Int) + 3 = (a3 : Int) := by omega
              have q4 : decide ((m : Int) < (N : Int)) = true := decide_eq_true (by omega)
              have q4' : decide (m < N) = true := decide_eq_true (by omega)
              have q6 : decide ((N : Int) < (m : Int) + 3 + (xv : Int)) = false := decide_eq_false (by omega)
              have b8 : (m : Int) + 3 + (xv : Int) ≤ 316 := by omega
              clear h5 h7 hwp ha2 ha3 hbs2 hun hun2 hm hxv2 hxn hlx hxb
              go_wp2_with fail
              refine HNX.out.mono ?_
              rintro e w5 ⟨rfl, hb5⟩
              have HO5 := Lib.hid (own_below HOQ.out hb5)
              have HG5 := Lib.hid (HGQ.out.more hb5)
              have HA5 := Lib.hid (HA'.out.below hb5)
              clear hb5
              go_wp2_with fail
              refine (HNM.out w5 HA5.out).mono ?_
              rintro e w6 ⟨rfl, rfl⟩
              go_wp2
              clear q4 q4' q6 e3
              go_loopw [20, 29] (fun vo vi wr => ∃ i : Nat, i ≤ 3 + xv ∧ vi = .int .i64 i ∧ wr.ownsRow w4.heap.size 3 1 vo (m + i) (intsV (ol ++ List.replicate i 0)) ∧ Grew (.slice none 0 0) w4 vo wr) (fun _ vi _ => 3 + xv - (intOf vi).toNat)
              case atStart => exact ⟨0, Nat.zero_le _, rfl, by rw [List.replicate_zero, List.append_nil]; exact HO5.out, HG5.out⟩
              case round =>
                obtain ⟨i, hi, rfl, hoq, hgq⟩ := hrel
                have HOR := Lib.hid hoq
                have HGR := Lib.hid hgq
                have hbz : w4.heap.size ≤ wr.heap.size := hgq.grown.size
                clear hoq hgq HO5 HG5
                by_cases hin : i < 3 + xv
                · have q6 : decide ((i : Int) < 3 + (xv : Int)) = true := decide_eq_true (by omega)
                  obtain ⟨mi, hmi⟩ : ∃ k, m + i = k := ⟨_, rfl⟩
                  have HMI : Hid (m + (i + 1) = mi + 1) := Lib.hid (by omega)
                  have hmb : mi ≤ 316 := by omega
                  rw [hmi] at HOR
                  clear hmi
                  go_wp2_with (at_builtin; refine wpList_append_at _ rfl _ _ 22 rfl w4.heap.size 3 ti (.int .i64 0) 1 8 Tryd.underlying22 hii hiz0 hiz1 hiz2 rfl (by decide) _ _ _ rfl (HOR.out.alloc _) ⟨wr.heap.size, 0, none⟩ 1 1 [.int .i64 0] rfl rfl ?c1 ?c2 ?c3 ?c4 ?c5 ?_)
                  case c1 => exact new_cells wr [.int .i64 0] _
                  case c2 => exact one64 _
                  case c3 => unfold maxLen; omega
                  case c4 => omega
                  case c5 => simp; omega
                  intro v7 w7 hown1 hg1 hfr
                  have HG7 : Hid (Grew (.slice none 0 0) w4 v7 w7) := Lib.hid ((HGR.out.more ((Below.refl _ _).alloc (Nat.le_refl _) _)).trans ⟨hg1, fun k e => by have := hfr k e; simpa using this⟩)
                  have HO7 : Hid (w7.ownsRow w4.heap.size 3 1 v7 (m + (i + 1)) (intsV (ol ++ List.replicate (i + 1) 0))) := Lib.hid (by
                    rw [List.replicate_succ', ← List.append_assoc, intsV_snoc, HMI.out]
                    exact hown1)
                  clear hown1 hg1 hfr hbz
                  go_wp2
                  go_roundw
                  case rel => exact ⟨i + 1, by omega, by go_num, HO7.out, HG7.out⟩
                  case measure => simp [intOf]; omega
                · have q6 : decide ((i : Int) < 3 + (xv : Int)) = false := decide_eq_false (by omega)
                  have hii2 : i = 3 + xv := by omega
                  have HOE : Hid (wr.ownsRow w4.heap.size 3 1 u20 (ol ++ List.replicate (3 + xv) 0).length (intsV (ol ++ List.replicate (3 + xv) 0))) := Lib.hid (by
                    rw [List.length_append, List.length_replicate, HM.out, ← hii2]
                    exact HOR.out)
                  clear hii2
                  go_wp2
                  go_roundw
                  case rel => exact ⟨a3, ol ++ List.replicate (3 + xv) 0, l', rfl, h8, H7.out, HUN2.out, HLO2.out, HOE.out, HGR.out⟩
                  case measure => simp [intOf]; omega
            · have hxn : x.sym.toNat = 18 := by omega
              rw [hxn] at hlx hbs2
              rw [hxb] at hbs2
              have HNX := Lib.hid (HNZ.out wr B a 18 _ HA'.out HRS'.out hab (by decide) hlx hbs2)
              obtain ⟨h5, h6⟩ := HLE.out a _ _ hab hbs2
              have hwp : 0 < (wordB z 18).length := List.length_pos_iff.2 (word_ne (fun x hx => by have := HZI.out x hx; omega) hlx)
              obtain ⟨a2, ha2⟩ : ∃ k, a + (wordB z 18).length = k := ⟨_, rfl⟩
              rw [ha2] at HNX h5 h6
              obtain ⟨xv, hxv2⟩ : ∃ k, x.val = k := ⟨_, rfl⟩
              rw [hxv2] at h5 hxv hun2
              have HNM := Lib.hid (fun W hA => HNU.out W a2 7 xv _ hA h6 (by decide) (by omega) h5)
              obtain ⟨h7, h8⟩ := HLE.out a2 _ _ h6 h5
              rw [bitsN_len] at h7 h8
              obtain ⟨a3, ha3⟩ : ∃ k, a2 + 7 = k := ⟨_, rfl⟩
              rw [ha3] at h7 h8
              have H7 := Lib.hid h7
              have HUN2 := Lib.hid hun2
              obtain ⟨m, hm⟩ : ∃ m, ol.length = m := ⟨_, rfl⟩
              have hmN : m + (11 + xv) ≤ N := by
                have := un_len _ _ _ hun2
                have hLN : (ls ++ ds).length = N := by rw [List.length_append, HLA.out, HLD.out, HN.out]
                rw [hLN, List.length_append, List.length_replicate, hm] at this
                exact this
              have HM := Lib.hid hm
              rw [hm] at HOQ hle
              obtain ⟨Ao, co, rfl⟩ := own_form HOQ.out
              have haa : a < a2 ∧ a2 ≤ a3 := by omega
              have e3 : (a2 : Int) + 7 = (a3 : Int) := by omega
              have q4 : decide ((m : Int) < (N : Int)) = true := decide_eq_true (by omega)
              have q4' : decide (m < N) = true := decide_eq_true (by omega)
              have q6 : decide ((N : Int) < (m : Int) + 11 + (xv : Int)) = false := decide_eq_false (by omega)
              have b8 : (m : Int) + 11 + (xv : Int) ≤ 316 := by omega
              clear h5 h7 hwp ha2 ha3 hbs2 hun hun2 hm hxv2 hxn hlx hxb
              go_wp2_with fail
              refine HNX.out.mono ?_
              rintro e w5 ⟨rfl, hb5⟩
              have HO5 := Lib.hid (own_below HOQ.out hb5)
              have HG5 := Lib.hid (HGQ.out.more hb5)
              have HA5 := Lib.hid (HA'.out.below hb5)
              clear hb5
              go_wp2_with fail
              refine (HNM.out w5 HA5.out).mono ?_
              rintro e w6 ⟨rfl, rfl⟩
              go_wp2
              clear q4 q4' q6 e3
              go_loopw [20, 29] (fun vo vi wr => ∃ i : Nat, i ≤ 11 + xv ∧ vi = .int .i64 i ∧ wr.ownsRow w4.heap.size 3 1 vo (m + i) (intsV (ol ++ List.replicate i 0)) ∧ Grew (.slice none 0 0) w4 vo wr) (fun _ vi _ => 11 + xv - (intOf vi).toNat)
              case atStart => exact ⟨0, Nat.zero_le _, rfl, by rw [List.replicate_zero, List.append_nil]; exact HO5.out, HG5.out⟩
              case round =>
                obtain ⟨i, hi, rfl, hoq, hgq⟩ := hrel
                have HOR := Lib.hid hoq
                have HGR := Lib.hid hgq
                have hbz : w4.heap.size ≤ wr.heap.size := hgq.grown.size
                clear hoq hgq HO5 HG5
                by_cases hin : i < 11 + xv
                · have q6 : decide ((i : Int) < 11 + (xv : Int)) = true := decide_eq_true (by omega)
                  obtain ⟨mi, hmi⟩ : ∃ k, m + i = k := ⟨_, rfl⟩
                  have HMI : Hid (m + (i + 1) = mi + 1) := Lib.hid (by omega)
                  have hmb : mi ≤ 316 := by omega
                  rw [hmi] at HOR
                  clear hmi
                  go_wp2_with (at_builtin; refine wpList_append_at _ rfl _ _ 22 rfl w4.heap.size 3 ti (.int .i64 0) 1 8 Tryd.underlying22 hii hiz0 hiz1 hiz2 rfl (by decide) _ _ _ rfl (HOR.out.alloc _) ⟨wr.heap.size, 0, none⟩ 1 1 [.int .i64 0] rfl rfl ?c1 ?c2 ?c3 ?c4 ?c5 ?_)
                  case c1 => exact new_cells wr [.int .i64 0] _
                  case c2 => exact one64 _
                  case c3 => unfold maxLen; omega
                  case c4 => omega
                  case c5 => simp; omega
                  intro v7 w7 hown1 hg1 hfr
                  have HG7 : Hid (Grew (.slice none 0 0) w4 v7 w7) := Lib.hid ((HGR.out.more ((Below.refl _ _).alloc (Nat.le_refl _) _)).trans ⟨hg1, fun k e => by have := hfr k e; simpa using this⟩)
                  have HO7 : Hid (w7.ownsRow w4.heap.size 3 1 v7 (m + (i + 1)) (intsV (ol ++ List.replicate (i + 1) 0))) := Lib.hid (by
                    rw [List.replicate_succ', ← List.append_assoc, intsV_snoc, HMI.out]
                    exact hown1)
                  clear hown1 hg1 hfr hbz
                  go_wp2
                  go_roundw
                  case rel => exact ⟨i + 1, by omega, by go_num, HO7.out, HG7.out⟩
                  case measure => simp [intOf]; omega
                · have q6 : decide ((i : Int) < 11 + (xv : Int)) = false := decide_eq_false (by omega)
                  have hii2 : i = 11 + xv := by omega
                  have HOE : Hid (wr.ownsRow w4.heap.size 3 1 u20 (ol ++ List.replicate (11 + xv) 0).length (intsV (ol ++ List.replicate (11 + xv) 0))) := Lib.hid (by
                    rw [List.length_append, List.length_replicate, HM.out, ← hii2]
                    exact HOR.out)
                  clear hii2
                  go_wp2
                  go_roundw
                  case rel => exact ⟨a3, ol ++ List.replicate (11 + xv) 0, l', rfl, h8, H7.out, HUN2.out, HLO2.out, HOE.out, HGR.out⟩
                  case measure => simp [intOf]; omega
end Go.Proofs.YtmpokiflhijnoaaDoor.Rf
