/-
  Plain law: the head of a Dynamic block tells its lengths again.
-/
import Derived.Test.YtmpokiflhijnoaaGreatDoorRfC
import Derived.Test.YtmpokiflhijnoaaGreatDoorBkWrite
namespace Go.Proofs.YtmpokiflhijnoaaGreatDoor.Rf
open Go.RowKit Go.Shelf Go.Proofs.YtmpokiflhijnoaaGreatDoor.Mg Go.Proofs.YtmpokiflhijnoaaGreatDoor.Bw Go.Proofs.YtmpokiflhijnoaaGreatDoor.Bk Go.Proofs.YtmpokiflhijnoaaGreatDoor.Cn Go.Proofs.YtmpokiflhijnoaaGreatDoor.Zp
set_option linter.unusedVariables false
set_option linter.unusedSimpArgs false

theorem tellGo_zero (z : List Int) : ∀ n i, tellGo z n ≤ i → i < n → z.getD (ordT.getD i 0) 0 = 0
  | 0, _, _, h => by omega
  | n + 1, i, h1, h2 => by
    rw [tellGo] at h1
    split at h1
    · rename_i h
      by_cases hi : i = n
      · rw [hi]; exact h.2
      · exact tellGo_zero z n i h1 (by omega)
    · omega
theorem tellC_range (z : List Int) : 4 ≤ tellC z ∧ tellC z ≤ 19 := ⟨tellGo_ge z 19 (by decide), tellGo_le z 19⟩
/-- The place of a symbol in the order of the tellers. -/
def ordI (s : Nat) : Nat := ordT.findIdx (· == s)
theorem ord_ordI : ∀ s, s < 19 → ordT.getD (ordI s) 0 = s ∧ ordI s < 19 := by decide +kernel
theorem ordI_ord : ∀ i, i < 19 → ordI (ordT.getD i 0) = i ∧ ordT.getD i 0 < 19 := by decide +kernel
/-- The tellers' lengths, of which the first k stand. -/
def partZ (z : List Int) (k : Nat) : List Int := (List.range 19).map fun s => if ordI s < k then z.getD s 0 else 0
theorem partZ_len (z : List Int) (k : Nat) : (partZ z k).length = 19 := by simp [partZ]
theorem partZ_get (z : List Int) (k s : Nat) (h : s < 19) : (partZ z k).getD s 0 = if ordI s < k then z.getD s 0 else 0 := by
  have h2 : s < (partZ z k).length := by rw [partZ_len]; exact h
  rw [getD_of h2]
  simp [partZ]
theorem list_ext {a b : List Int} (hl : a.length = b.length) (h : ∀ i, i < a.length → a.getD i 0 = b.getD i 0) : a = b := by
  apply List.ext_getElem hl
  intro i h1 h2
  have := h i h1
  rw [getD_of h1, getD_of h2] at this
  exact this
theorem partZ_zero (z : List Int) : partZ z 0 = List.replicate 19 0 := by
  refine list_ext (by rw [partZ_len, List.length_replicate]) (fun i hi => ?_)
  rw [partZ_len] at hi
  rw [partZ_get z 0 i hi, if_neg (by omega), getD_of (by rw [List.length_replicate]; exact hi), List.getElem_replicate]
theorem partZ_next (z : List Int) (k : Nat) (hk : k < 19) : partZ z (k + 1) = (partZ z k).set (ordT.getD k 0) (z.getD (ordT.getD k 0) 0) := by
  refine list_ext (by rw [List.length_set, partZ_len, partZ_len]) (fun i hi => ?_)
  rw [partZ_len] at hi
  have h1 := ordI_ord k hk
  have h2 := ord_ordI i hi
  rw [partZ_get z (k + 1) i hi, getD_of (l := (partZ z k).set (ordT.getD k 0) (z.getD (ordT.getD k 0) 0)) (by rw [List.length_set, partZ_len]; exact hi), List.getElem_set]
  by_cases he : ordT.getD k 0 = i
  · rw [if_pos he]
    have : ordI i = k := by rw [← he]; exact h1.1
    rw [if_pos (by omega), he]
  · rw [if_neg he, ← getD_of (by rw [partZ_len]; exact hi), partZ_get z k i hi]
    have : ordI i ≠ k := fun e => he (by rw [← e]; exact h2.1)
    by_cases hlt : ordI i < k
    · rw [if_pos hlt, if_pos (by omega)]
    · rw [if_neg hlt, if_neg (by omega)]
theorem partZ_end (z : List Int) (hz : z.length = 19) : partZ z (tellC z) = z := by
  refine list_ext (by rw [partZ_len, hz]) (fun i hi => ?_)
  rw [partZ_len] at hi
  have h2 := ord_ordI i hi
  rw [partZ_get z _ i hi]
  split
  · rfl
  · rename_i h
    have := tellGo_zero z 19 (ordI i) (by unfold tellC at h; omega) h2.2
    rw [h2.1] at this
    exact this.symm
theorem tellsB_split (z : List Int) (k c : Nat) (h : k < c) : ∃ r, tellsB z c = tellsB z k ++ (tellB z k ++ r) := by
  obtain ⟨d, rfl⟩ : ∃ d, c = k + 1 + d := ⟨c - (k + 1), by omega⟩
  clear h
  induction d with
  | zero => exact ⟨[], by rw [Nat.add_zero, tellsB_succ, List.append_nil]⟩
  | succ d ih =>
    obtain ⟨r, hr⟩ := ih
    refine ⟨r ++ tellB z (k + 1 + d), ?_⟩
    rw [← Nat.add_assoc, tellsB_succ, hr]
    simp
theorem headN_parts (a d c : Nat) (h1 : 257 ≤ a ∧ a ≤ 286) (h2 : 1 ≤ d ∧ d ≤ 30) (h3 : 4 ≤ c ∧ c ≤ 19) :
    headN a d c < 2 ^ 14 ∧ headN a d c % 32 + 257 = a ∧ headN a d c / 32 % 32 + 1 = d ∧ headN a d c / 1024 + 4 = c := by
  unfold headN
  omega
theorem exsB_cons (z : List Int) (x : Ex) (l : List Ex) : exsB z (x :: l) = exB z x ++ exsB z l := by simp [exsB]

theorem lens_few (cs : List Int) (most : Int) (hu : ¬ 2 ≤ (usedL cs).length) : (tot 15 (lensP cs most) = 16384 ∧ posN (lensP cs most) = 1 ∧ oneN (lensP cs most) = 1) ∨ (tot 15 (lensP cs most) = 0 ∧ posN (lensP cs most) = 0) := by
  have hlen := ordP_len cs
  have hlt := ordP_lt cs
  have hE : lensP cs most = (ordP cs).foldl (fun o s => o.set s 1) (List.replicate cs.length 0) := by unfold lensP; rw [if_pos (by omega)]
  rcases ho : ordP cs with _ | ⟨a, _ | ⟨b, r⟩⟩
  · right
    rw [hE, ho, List.foldl_nil]
    exact ⟨tot_zeros _ _, posN_zeros _⟩
  · left
    have ha : a < cs.length := hlt a (by rw [ho]; simp)
    have h := lens_single cs most (by rw [ho] at hlen; simp at hlen; omega)
    refine ⟨h.1, h.2, ?_⟩
    rw [hE, ho]
    simp only [List.foldl_cons, List.foldl_nil]
    unfold oneN
    rw [List.count_set (by simpa using ha)]
    simp
    rw [List.count_eq_zero]
    intro hm
    have := List.eq_of_mem_replicate hm
    omega
  · rw [ho] at hlen; simp at hlen; omega
theorem posN_append (a b : List Int) : posN (a ++ b) = posN a + posN b := List.countP_append
theorem oneN_append (a b : List Int) : oneN (a ++ b) = oneN a + oneN b := List.count_append
theorem zeros_of : ∀ l : List Int, (∀ x ∈ l, x = 0) → posN l = 0 ∧ oneN l = 0 := fun l h => by
  constructor
  · unfold posN
    rw [List.countP_eq_zero]
    intro x hx
    rw [h x hx]
    decide
  · unfold oneN
    rw [List.count_eq_zero]
    intro hm
    have := h _ hm
    omega
theorem dsD_why (ts : List Tok) (hn : ts.length ≤ 1000000) : whyOk (dsD ts) true := by
  have h1 : tot 15 (dsD ts) = tot 15 (dsX ts) := tot_take 15 _ 1
  have hz := zeros_of _ (upto_zero (dsX ts) 1)
  have h2 : posN (dsD ts) = posN (dsX ts) := by
    have h := posN_append ((dsX ts).take (uptoP (dsX ts) 1)) ((dsX ts).drop (uptoP (dsX ts) 1))
    rw [List.take_append_drop, hz.1] at h
    unfold dsD
    omega
  have h3 : oneN (dsD ts) = oneN (dsX ts) := by
    have h := oneN_append ((dsX ts).take (uptoP (dsX ts) 1)) ((dsX ts).drop (uptoP (dsX ts) 1))
    rw [List.take_append_drop, hz.2] at h
    unfold dsD
    omega
  have p15 : (2 : Nat) ^ 15 = 32768 := by decide
  unfold whyOk
  rw [h1, h2, h3]
  by_cases hN : 2 ≤ (usedL (cntD ts)).length
  · have h := lens_full _ _ (cntD_bad ts hn).1 hN (cntD_bad ts hn).2
    exact .inl (by unfold dsX; omega)
  · rcases lens_few (cntD ts) 15 hN with ⟨a, b, c⟩ | ⟨a, b⟩
    · exact .inr ⟨by unfold dsX; omega, rfl, .inr ⟨b, c⟩⟩
    · exact .inr ⟨by unfold dsX; omega, rfl, .inl b⟩
theorem dsD_tot (ts : List Tok) (hn : ts.length ≤ 1000000) : tot 15 (dsD ts) ≤ 2 ^ 15 := by
  have p15 : (2 : Nat) ^ 15 = 32768 := by decide
  rcases dsD_why ts hn with h | h <;> omega
theorem lsD_why (ts : List Tok) (hn : ts.length ≤ 1000000) : whyOk (lsD ts) false := by
  have p15 : (2 : Nat) ^ 15 = 32768 := by decide
  exact .inl (by have := lsD_tot ts hn; omega)
theorem tellD_tot (ts : List Tok) (hn : ts.length ≤ 1000000) : tot 15 (tellD ts) = 2 ^ 15 := by
  obtain ⟨h1, -, h3⟩ := told_ok ts hn
  have hx : (toldD ts)[0] ∈ toldD ts := List.getElem_mem _
  have h4 := h1 _ hx
  have hp := often_pos (toldD ts) _ hx h4.1 h4.2.1
  have hu := used_pos (oftenP (toldD ts)) (toldD ts)[0].sym.toNat (by rw [often_len]; have := h4.2.1; omega) hp
  exact strict_full _ 7 (often_bad ts hn).1 (often_bad ts hn).2 hu (by rw [often_len]; decide)
theorem tellD_why (ts : List Tok) (hn : ts.length ≤ 1000000) : whyOk (tellD ts) false := by
  have p15 : (2 : Nat) ^ 15 = 32768 := by decide
  exact .inl (by have := tellD_tot ts hn; omega)
theorem told_un (ts : List Tok) (hn : ts.length ≤ 1000000) : unP [] (toldD ts) = some (lsD ts ++ dsD ts) := by
  have := un_pack _ (lsD ts ++ dsD ts) [] (Nat.le_refl _) (told_in ts hn)
  rw [List.nil_append] at this
  exact this
/-- The end of a block has a word. -/
theorem lsD_end (ts : List Tok) (hn : ts.length ≤ 1000000) : 256 < (lsD ts).length ∧ 0 < (lsD ts).getD 256 0 := lsD_pos ts hn 256 (by decide) (cntS_end ts)
/-- The words of the tokens, in a Dynamic block. -/
theorem tokW_dyn {ts : List Tok} (hn : ts.length ≤ 1000000) {t : Tok} (ht : t ∈ ts) (h : tokIn t) : tokW (lsD ts) (dsD ts) t := by
  have hc := cntS_pos ts t ht
  rcases h with ⟨h0, h1, h2⟩ | ⟨h0, h1, h2, h3⟩
  · have h4 := lsD_pos ts hn t.b.toNat (by omega) (hc.1 h0 h1 h2)
    exact .inl ⟨h0, h1, h2, h4.1, h4.2⟩
  · have hl := lenD_lt t.len.toNat
    have hd := dstD_lt t.dist.toNat
    have h4 := lsD_pos ts hn (257 + lenD t.len.toNat) (by omega) (hc.2 (by omega))
    have h5 := dsD_pos ts hn (dstD t.dist.toNat) hd (cntD_pos ts t ht (by omega))
    exact .inr ⟨h0, h1, h2, h3, h4.1, h4.2, h5.1, h5.2⟩
theorem fixL_pos : ∀ s, s < 288 → 0 < fixL.getD s 0 := by decide +kernel
theorem fixD_pos : ∀ s, s < 32 → 0 < fixD.getD s 0 := by decide +kernel
theorem fixT : tot 15 fixL = 2 ^ 15 ∧ tot 15 fixD = 2 ^ 15 := by decide +kernel
theorem tokW_fix {t : Tok} (h : tokIn t) : tokW fixL fixD t := by
  have e1 : fixL.length = 288 := fixL_len
  have e2 : fixD.length = 32 := by decide
  rcases h with ⟨h0, h1, h2⟩ | ⟨h0, h1, h2, h3⟩
  · exact .inl ⟨h0, h1, h2, by omega, fixL_pos _ (by omega)⟩
  · have hl := lenD_lt t.len.toNat
    have hd := dstD_lt t.dist.toNat
    exact .inr ⟨h0, h1, h2, h3, by omega, fixL_pos _ (by omega), by omega, fixD_pos _ (by omega)⟩
end Go.Proofs.YtmpokiflhijnoaaGreatDoor.Rf

/-
  The reference of layer 7: a block's symbols, to its end.
-/
namespace Go.Proofs.YtmpokiflhijnoaaGreatDoor.Rf
open Go.RowKit Go.Shelf Go.Proofs.YtmpokiflhijnoaaGreatDoor.Mg Go.Proofs.YtmpokiflhijnoaaGreatDoor.Bw Go.Proofs.YtmpokiflhijnoaaGreatDoor.Bk Go.Proofs.YtmpokiflhijnoaaGreatDoor.Cn Go.Proofs.YtmpokiflhijnoaaGreatDoor.Zp
set_option linter.unusedVariables false
set_option linter.unusedSimpArgs false

theorem copyT_steps (d : Nat) (o : List Int) (k : Nat) : copyT d o (k + 1) = copyT d o k ++ [(copyT d o k).getD ((copyT d o k).length - d) 0] := rfl
theorem u8V_get (l : List Int) (i : Nat) (h : i < l.length) : (u8V l)[i]? = some (.int .u8 (l.getD i 0)) := by
  unfold u8V
  rw [List.getElem?_map, List.getElem?_eq_getElem h]
  simp [List.getD, List.getElem?_eq_getElem h]

set_option maxHeartbeats 8000000 in
set_option maxRecDepth 100000 in
theorem tell_calls (gA oA c cl cd base : Nat) (Al Ad : Option Addr) (bs rest : List Bool) (at' : Nat) (ls ds : List Int) (v : Value) (dn : List Int) (ts : List Tok) (w : World)
    (hA : BitsAt w (some ⟨gA, oA, none⟩) bs) (hc : bs.length ≤ c) (hcl : bs.length ≤ 1000000000) (hL : Reads w Al ls) (hD : Reads w Ad ds) (hl : ls.length ≤ 288) (hd : ds.length ≤ 288)
    (hli : ∀ x ∈ ls, 0 ≤ x ∧ x ≤ 15) (hdi : ∀ x ∈ ds, 0 ≤ x ∧ x ≤ 15) (hlt : tot 15 ls ≤ 2 ^ 15) (hdt : tot 15 ds ≤ 2 ^ 15) (h256 : 256 < ls.length ∧ 0 < ls.getD 256 0)
    (hts : ∀ t ∈ ts, tokW ls ds t) (hfit : fitTs dn ts) (ha : at' ≤ bs.length) (hbits : bs.drop at' = toksB ls ds ts ++ (wordB ls 256 ++ rest)) (hout : (expTs dn ts).length ≤ 1000000000)
    (hown : w.ownsRow base 5 1 v dn.length (u8V dn)) (hne : v.ownBlock ≠ some gA) (hb : base ≤ w.heap.size) :
    Calls Tryz.prog 28 #[.slice (some ⟨gA, oA, none⟩) bs.length c, .int .i64 at', v, .slice Al ls.length cl, .slice Ad ds.length cd] w fun e w' =>
      ∃ v', e = .returned (.tuple #[v', .int .i64 ((bs.length - rest.length : Nat) : Int), .int .i64 0]) ∧ w'.ownsRow base 5 1 v' (expTs dn ts).length (u8V (expTs dn ts)) ∧ Grew v w v' w' := by
  have hii : Tryz.prog.info? 5 = some tb8 := by kernel_rfl
  have hiz0 : tb8.zero = some (.int .u8 0) := by kernel_rfl
  have hiz1 : tb8.size = 1 := by kernel_rfl
  have hiz2 : tb8.bytes = 1 := by kernel_rfl
  have HL : Hid (∀ W, Reads W Al ls → Calls Tryz.prog 44 #[.slice Al ls.length cl] W fun e w' => ∃ B, e = .returned (.slice (some ⟨B, 0, none⟩) ls.length ls.length) ∧ RowS w' B ls.length (fun s => txt (wordB ls s)) ∧ W.heap.size ≤ B ∧ Below W.heap.size W w') := Lib.hid (fun W h => words_calls Al cl ls W h hl hli)
  have HD : Hid (∀ W, Reads W Ad ds → Calls Tryz.prog 44 #[.slice Ad ds.length cd] W fun e w' => ∃ B, e = .returned (.slice (some ⟨B, 0, none⟩) ds.length ds.length) ∧ RowS w' B ds.length (fun s => txt (wordB ds s)) ∧ W.heap.size ≤ B ∧ Below W.heap.size W w') := Lib.hid (fun W h => words_calls Ad cd ds W h hd hdi)
  have HNL := Lib.hid (fun (W : World) (B a s : Nat) (r : List Bool) (hA : BitsAt W (some ⟨gA, oA, none⟩) bs) (hB : RowS W B ls.length (fun t => txt (wordB ls t))) (ha : a ≤ bs.length) (hs : s < ls.length) (hp : 0 < ls.getD s 0) (hd : bs.drop a = wordB ls s ++ r) => next_calls (some ⟨gA, oA, none⟩) c B ls.length ls bs r a s W hA hB rfl hl (by omega) (by omega) hli hlt hs hp hd)
  have HND := Lib.hid (fun (W : World) (B a s : Nat) (r : List Bool) (hA : BitsAt W (some ⟨gA, oA, none⟩) bs) (hB : RowS W B ds.length (fun t => txt (wordB ds t))) (ha : a ≤ bs.length) (hs : s < ds.length) (hp : 0 < ds.getD s 0) (hq : bs.drop a = wordB ds s ++ r) => next_calls (some ⟨gA, oA, none⟩) c B ds.length ds bs r a s W hA hB rfl hd (by omega) (by omega) hdi hdt hs hp hq)
  have HNU := Lib.hid (fun (W : World) (a k x : Nat) (r : List Bool) (hA : BitsAt W (some ⟨gA, oA, none⟩) bs) (ha : a ≤ bs.length) (hk : k ≤ 32) (hx : x < 2 ^ k) (hd : bs.drop a = bitsN k x ++ r) => (by
    have hlen := congrArg List.length hd
    rw [List.length_drop, List.length_append, bitsN_len] at hlen
    have h := num_calls gA oA c bs a k W hA hc (by omega) hk (by omega)
    rw [hd, List.take_left' (bitsN_len k x), numB_bits, Nat.mod_eq_of_lt hx] at h
    exact h : Calls Tryz.prog 48 #[.slice (some ⟨gA, oA, none⟩) bs.length c, .int .i64 a, .int .i64 k] W fun e w' => e = .returned (.tuple #[.int .i64 (x : Int), .bool true]) ∧ w' = W))
  have HLI := Lib.hid hli
  have HDI := Lib.hid hdi
  have HRL := Lib.hid hL
  have HRD := Lib.hid hD
  have HA := Lib.hid hA
  have HO := Lib.hid hown
  have HT := Lib.hid hts
  have HF := Lib.hid hfit
  have HBT := Lib.hid hbits
  have HNE := Lib.hid hne
  obtain ⟨E, hE⟩ : ∃ k, expTs dn ts = k := ⟨_, rfl⟩
  have HE := Lib.hid hE
  rw [hE] at hout ⊢
  obtain ⟨nl, hnl⟩ : ∃ k, ls.length = k := ⟨_, rfl⟩
  obtain ⟨nd, hnd⟩ : ∃ k, ds.length = k := ⟨_, rfl⟩
  obtain ⟨nb, hnb⟩ : ∃ k, bs.length = k := ⟨_, rfl⟩
  have HLE := Lib.hid (fun (a : Nat) (x y : List Bool) (ha : a ≤ bs.length) (h : bs.drop a = x ++ y) => (by have := drop_more h; rw [hnb] at *; exact ⟨this.1, by have := this.2; omega⟩ : bs.drop (a + x.length) = y ∧ a + x.length ≤ nb))
  have H256 := Lib.hid h256
  rw [hnl] at HL HNL hl H256 ⊢
  rw [hnd] at HD HND hd ⊢
  rw [hnb] at HNL HND HNU HLE ha hc hcl ⊢
  have HNB := Lib.hid hnb
  have HLL := Lib.hid hnl
  have HDL := Lib.hid hnd
  clear hA hL hD hown hli hdi hts hfit hbits hne hE hnb hnl hnd h256 hlt hdt
  go_enter Tryz.func28, Tryz.ntmps28
  go_wp2_with fail
  refine (HL.out _ HRL.out).mono ?_
  rintro e w1 ⟨B1, rfl, hr1, hB1, hb1⟩
  have HR1 := Lib.hid hr1
  have HB1 := Lib.hid hb1
  have HRD1 := Lib.hid (HRD.out.below hb1)
  clear hr1 hb1
  go_wp2_with fail
  refine (HD.out _ HRD1.out).mono ?_
  rintro e w2 ⟨B2, rfl, hr2, hB2, hb2⟩
  have HR2 := Lib.hid hr2
  have HR12 := Lib.hid (HR1.out.below hb2)
  have HB2 := Lib.hid (HB1.out.trans (hb2.mono HB1.out.size))
  clear hr2 hb2
  go_wp2_with fail
  refine (lengths5_calls _).mono ?_
  rintro e w3 ⟨⟨v3, rfl, ho3⟩, hb3⟩
  obtain ⟨g3, c3, rfl, _, _⟩ := ho3.form (by decide)
  have HO3 := Lib.hid ho3
  have HR13 := Lib.hid (HR12.out.below hb3)
  have HR23 := Lib.hid (HR2.out.below hb3)
  have HB3 := Lib.hid (HB2.out.trans (hb3.mono HB2.out.size))
  clear ho3 hb3
  go_wp2_with fail
  refine (dists5_calls _).mono ?_
  rintro e w4 ⟨⟨v4, rfl, ho4⟩, hb4⟩
  obtain ⟨g4, c4, rfl, _, _⟩ := ho4.form (by decide)
  have HO4 := Lib.hid ho4
  have HR14 := Lib.hid (HR13.out.below hb4)
  have HR24 := Lib.hid (HR23.out.below hb4)
  have HO34 := Lib.hid (own_below HO3.out hb4)
  have HB4 := Lib.hid (HB3.out.trans (hb4.mono HB3.out.size))
  clear ho4 hb4
  have HOw : Hid (w4.ownsRow base 5 1 v dn.length (u8V dn)) := Lib.hid (own_below HO.out HB4.out)
  have HKEEP : Hid (∀ W v', Grew v w4 v' W → BitsAt W (some ⟨gA, oA, none⟩) bs ∧ RowS W B1 nl (fun s => txt (wordB ls s)) ∧ RowS W B2 nd (fun s => txt (wordB ds s)) ∧ W.ownsRow w2.heap.size 96 3 (.slice (some ⟨g3, 0, none⟩) 29 c3) 29 (lenRows 29) ∧ W.ownsRow w3.heap.size 96 3 (.slice (some ⟨g4, 0, none⟩) 30 c4) 30 (dstRows 30)) := Lib.hid (fun W v' hg => by
    have hlt : ∀ k, w.heap.size ≤ k → v.ownBlock ≠ some k := fun k hk e => by have := (HO.out.lt k e).2; omega
    have s1 := HB1.out.size
    have s2 := HB2.out.size
    have s3 := HB3.out.size
    refine ⟨hg.reads (HA.out.below HB4.out) (fun g o e => ?_), hg.rowS HR14.out (hlt _ (by omega)), hg.rowS HR24.out (hlt _ (by omega)), HO34.out.kept hg.grown (.inr ?_), HO4.out.kept hg.grown (.inr ?_)⟩
    · cases e; exact HNE.out
    · intro e
      have h1 := (HO3.out.lt g3 rfl).1
      exact hlt g3 (by omega) e.symm
    · intro e
      have h1 := (HO4.out.lt g4 rfl).1
      exact hlt g4 (by omega) e.symm)
  have HG4 := Lib.hid ((Grew.refl v w).more HB4.out)
  have HBW : Hid (base ≤ w4.heap.size ∧ w.heap.size ≤ w4.heap.size) := Lib.hid ⟨by have := HB4.out.size; omega, HB4.out.size⟩
  go_wp2
  go_loopw [1, 2] (fun va vo wr => ∃ (a : Nat) (dn' : List Int) (ts' : List Tok), va = .int .i64 a ∧ a ≤ nb ∧ bs.drop a = toksB ls ds ts' ++ (wordB ls 256 ++ rest) ∧ (∀ t ∈ ts', tokW ls ds t) ∧ fitTs dn' ts' ∧ expTs dn' ts' = E ∧ wr.ownsRow base 5 1 vo dn'.length (u8V dn') ∧ Grew v w4 vo wr) (fun va _ _ => nb - (intOf va).toNat)
  case atStart => exact ⟨at', dn, ts, rfl, ha, HBT.out, HT.out, HF.out, HE.out, HOw.out, Grew.refl _ _⟩
  case round =>
    obtain ⟨a, dn', ts', rfl, hal, hbs, hw', hf', hE', hown', hgr⟩ := hrel
    obtain ⟨hA', hR1', hR2', ho3', ho4'⟩ := HKEEP.out _ _ hgr
    have HA' := Lib.hid hA'
    have HR1' := Lib.hid hR1'
    have HR2' := Lib.hid hR2'
    have HO3' := Lib.hid ho3'
    have HO4' := Lib.hid ho4'
    have HGR := Lib.hid hgr
    have HOW' := Lib.hid hown'
    have HW' := Lib.hid hw'
    have HF' := Lib.hid hf'
    have HE' := Lib.hid hE'
    have hdl : dn'.length ≤ 1000000000 := by
      have := expTs_ge ts' dn'
      rw [hE'] at this
      omega
    clear hA' hR1' hR2' ho3' ho4' hgr hown' hw' hf' hE' HO3 HO34 HO4 HR1 HR2 HR12 HR13 HR14 HR23 HR24 HB1 HB2 HB3 HB4
    rcases ts' with _ | ⟨t, ts'⟩
    · have hbs2 : bs.drop a = wordB ls 256 ++ rest := hbs
      have HN := Lib.hid (HNL.out wr B1 a 256 rest HA'.out HR1'.out hal H256.out.1 H256.out.2 hbs2)
      obtain ⟨h1, h2⟩ := HLE.out a _ _ hal hbs2
      have HEND : Hid (a + (wordB ls 256).length = nb - rest.length) := Lib.hid (by
        have h3 := congrArg List.length h1
        rw [List.length_drop, HNB.out] at h3
        omega)
      rw [HEND.out] at HN
      have HDN : Hid (dn' = E) := Lib.hid HE'.out
      obtain ⟨z, hz⟩ : ∃ z, nb - rest.length = z := ⟨_, rfl⟩
      rw [hz] at HN
      have HZ := Lib.hid hz
      clear hbs hbs2 h1 h2 HEND hz
      go_wp2_with fail
      refine HN.out.mono ?_
      rintro e w5 ⟨rfl, hb5⟩
      have HB5 := Lib.hid hb5
      clear hb5
      go_wp2
      go_ret3
      exact ⟨_, by rw [HZ.out]; rfl, by rw [← HDN.out]; exact own_below HOW'.out HB5.out, HG4.out.trans (HGR.out.more HB5.out)⟩
    · have hwt := HW'.out t List.mem_cons_self
      have hft := HF'.out
      have hbs2 : bs.drop a = tokB ls ds t ++ (toksB ls ds ts' ++ (wordB ls 256 ++ rest)) := by rw [hbs, toksB_cons, List.append_assoc]
      clear hbs
      rcases hwt with ⟨hl0, hb0, hb1, hbl, hbp⟩ | ⟨hl3, hl258, hd1, hd2, hsl, hsp, hkl, hkp⟩
      · obtain ⟨s, hs⟩ : ∃ s : Nat, t.b = s := ⟨t.b.toNat, by omega⟩
        have hsn : t.b.toNat = s := by omega
        have htb : tokB ls ds t = wordB ls s := by unfold tokB; rw [if_pos hl0, hsn]
        have hex : expT dn' t = dn' ++ [(s : Int)] := by unfold expT; rw [if_pos hl0, hs]
        rw [hsn] at hbl hbp
        rw [htb] at hbs2
        have HN := Lib.hid (HNL.out wr B1 a s _ HA'.out HR1'.out hal (by rw [← HLL.out]; exact hbl) hbp hbs2)
        obtain ⟨h1, h2⟩ := HLE.out a _ _ hal hbs2
        have hwp : 0 < (wordB ls s).length := List.length_pos_iff.2 (word_ne HLI.out hbp)
        obtain ⟨a2, ha2⟩ : ∃ k, a + (wordB ls s).length = k := ⟨_, rfl⟩
        rw [ha2] at HN h1 h2
        have haa : a < a2 := by omega
        have H1 := Lib.hid h1
        have HF2 : Hid (fitTs (dn' ++ [(s : Int)]) ts') := Lib.hid (by rw [← hex]; exact hft.2)
        have HE2 : Hid (expTs (dn' ++ [(s : Int)]) ts' = E) := Lib.hid (by rw [← hex]; exact HE'.out)
        have HW2 := Lib.hid (fun t ht => HW'.out t (List.mem_cons_of_mem _ ht))
        have hs256 : s < 256 := by omega
        have q1 : ((s : Int) == 256) = false := beq_eq_false_iff_ne.2 (by omega)
        have q2 : decide ((s : Int) < 256) = true := decide_eq_true (by omega)
        have hs0 : (0 : Int) ≤ (s : Int) := by omega
        have hs1 : (s : Int) < 256 := by omega
        obtain ⟨m, hm⟩ : ∃ m, dn'.length = m := ⟨_, rfl⟩
        have HM := Lib.hid hm
        rw [hm] at HOW' hdl
        clear hft hwp h1 ha2 hbs2 htb hex hsn hbl hbp hs hb0 hb1 hl0 HF' HE' HW' hm
        go_wp2_with fail
        refine HN.out.mono ?_
        rintro e w5 ⟨rfl, hb5⟩
        have HO5 := Lib.hid (own_below HOW'.out hb5)
        have HG5 := Lib.hid (HGR.out.more hb5)
        have hbz : base ≤ w5.heap.size := by have h1 := HBW.out.1; have h2 := HGR.out.grown.size; have h3 := hb5.size; omega
        clear hb5
        go_wp2_with (at_builtin; refine wpList_append_at _ rfl _ _ 39 rfl base 5 tb8 (.int .u8 0) 1 1 Tryz.underlying39 hii hiz0 hiz1 hiz2 rfl (by decide) _ _ _ rfl (HO5.out.alloc _) ⟨w5.heap.size, 0, none⟩ 1 1 [.int .u8 (s : Int)] rfl rfl ?c1 ?c2 ?c3 ?c4 ?c5 ?_)
        case c1 => exact new_cells w5 [.int .u8 (s : Int)] _
        case c2 => exact one8 _
        case c3 => unfold maxLen; omega
        case c4 => omega
        case c5 => simp; omega
        intro v7 w7 hown1 hg1 hfr
        have HG7 : Hid (Grew v w4 v7 w7) := Lib.hid ((HG5.out.more ((Below.refl _ _).alloc (Nat.le_refl _) _)).trans ⟨hg1, fun k e => by have := hfr k e; simpa using this⟩)
        have HO7 : Hid (w7.ownsRow base 5 1 v7 (dn' ++ [(s : Int)]).length (u8V (dn' ++ [(s : Int)]))) := Lib.hid (by
          rw [u8V_app, List.length_append, HM.out]
          exact hown1)
        clear hown1 hg1 hfr hbz
        go_wp2
        go_roundw
        case rel => exact ⟨a2, dn' ++ [(s : Int)], ts', rfl, h2, H1.out, HW2.out, HF2.out, HE2.out, HO7.out, HG7.out⟩
        case measure => simp [intOf]; omega
      · obtain ⟨n, hn⟩ : ∃ n : Nat, t.len = n := ⟨t.len.toNat, by omega⟩
        obtain ⟨D, hD⟩ : ∃ D : Nat, t.dist = D := ⟨t.dist.toNat, by omega⟩
        have hnn : t.len.toNat = n := by omega
        have hDn : t.dist.toNat = D := by omega
        have hlf := lenfit n (by omega) (by omega)
        have hdf := dstfit D (by omega) (by omega)
        have hl29 := lenD_lt n
        have hd30 := dstD_lt D
        have htb : tokB ls ds t = wordB ls (257 + lenD n) ++ bitsN (lenBits (lenD n)) (n - lenLeast (lenD n)) ++ wordB ds (dstD D) ++ bitsN (dstBits (dstD D)) (D - dstLeast (dstD D)) := by unfold tokB; rw [if_neg (by omega), hnn, hDn]
        have hex : expT dn' t = copyT D dn' n := by unfold expT; rw [if_neg (by omega), hnn, hDn]
        have hDl : (D : Int) ≤ (dn'.length : Int) := by
          rcases hft.1 with h | h
          · omega
          · omega
        rw [hnn] at hsl hsp
        rw [hDn] at hkl hkp
        have hn3 : 3 ≤ n ∧ n ≤ 258 ∧ 1 ≤ D ∧ D ≤ 32768 := by omega
        generalize lenD n = d at *
        generalize dstD D = k at *
        have HCL : Hid (∀ W : World, W.ownsRow w2.heap.size 96 3 (.slice (some ⟨g3, 0, none⟩) 29 c3) 29 (lenRows 29) → W.cell? ⟨g3, d * 3 + 1, none⟩ = some (.int .i64 (lenLeast d : Int)) ∧ W.cell? ⟨g3, d * 3 + 2, none⟩ = some (.int .i64 (lenBits d : Int))) := Lib.hid (fun W h => lens_cells h hl29)
        have HCD : Hid (∀ W : World, W.ownsRow w3.heap.size 96 3 (.slice (some ⟨g4, 0, none⟩) 30 c4) 30 (dstRows 30) → W.cell? ⟨g4, k * 3 + 1, none⟩ = some (.int .i64 (dstLeast k : Int)) ∧ W.cell? ⟨g4, k * 3 + 2, none⟩ = some (.int .i64 (dstBits k : Int))) := Lib.hid (fun W h => dists_cells h hd30)
        generalize lenLeast d = ll at *
        generalize lenBits d = lb at *
        generalize dstLeast k = dl at *
        generalize dstBits k = db at *
        rw [htb] at hbs2
        simp only [List.append_assoc] at hbs2
        obtain ⟨x, hx⟩ : ∃ x, n - ll = x := ⟨_, rfl⟩
        obtain ⟨y, hy⟩ : ∃ y, D - dl = y := ⟨_, rfl⟩
        rw [hx, hy] at hbs2
        rw [hx] at hlf
        rw [hy] at hdf
        have HN := Lib.hid (HNL.out wr B1 a (257 + d) _ HA'.out HR1'.out hal (by rw [← HLL.out]; exact hsl) hsp hbs2)
        obtain ⟨h1, h2⟩ := HLE.out a _ _ hal hbs2
        obtain ⟨a1, ha1⟩ : ∃ k, a + (wordB ls (257 + d)).length = k := ⟨_, rfl⟩
        have hwp : 0 < (wordB ls (257 + d)).length := List.length_pos_iff.2 (word_ne HLI.out hsp)
        rw [ha1] at HN h1 h2
        have haa : a < a1 := by omega
        have HU1 := Lib.hid (fun W hA => HNU.out W a1 lb x _ hA h2 (by omega) hlf.2.1 h1)
        obtain ⟨h3, h4⟩ := HLE.out a1 _ _ h2 h1
        rw [bitsN_len] at h3 h4
        obtain ⟨a2, ha2⟩ : ∃ k, a1 + lb = k := ⟨_, rfl⟩
        rw [ha2] at h3 h4
        have HN2 := Lib.hid (fun W hA hB => HND.out W B2 a2 k _ hA hB h4 (by rw [← HDL.out]; exact hkl) hkp h3)
        obtain ⟨h5, h6⟩ := HLE.out a2 _ _ h4 h3
        obtain ⟨a3, ha3⟩ : ∃ j, a2 + (wordB ds k).length = j := ⟨_, rfl⟩
        rw [ha3] at HN2 h5 h6
        have HU2 := Lib.hid (fun W hA => HNU.out W a3 db y _ hA h6 (by omega) hdf.2.1 h5)
        obtain ⟨h7, h8⟩ := HLE.out a3 _ _ h6 h5
        rw [bitsN_len] at h7 h8
        obtain ⟨a4, ha4⟩ : ∃ j, a3 + db = j := ⟨_, rfl⟩
        rw [ha4] at h7 h8
        have hmm : a < a1 ∧ a1 ≤ a2 ∧ a2 ≤ a3 ∧ a3 ≤ a4 := by omega
        have H7 := Lib.hid h7
        have HF2 : Hid (fitTs (copyT D dn' n) ts') := Lib.hid (by rw [← hex]; exact hft.2)
        have HE2 : Hid (expTs (copyT D dn' n) ts' = E) := Lib.hid (by rw [← hex]; exact HE'.out)
        have HW2 := Lib.hid (fun t ht => HW'.out t (List.mem_cons_of_mem _ ht))
        have hcl2 : dn'.length + n ≤ 1000000000 := by
          have e1 := expTs_ge ts' (copyT D dn' n)
          rw [HE2.out, copyT_len] at e1
          omega
        obtain ⟨s, hs⟩ : ∃ s, 257 + d = s := ⟨_, rfl⟩
        rw [hs] at HN
        have e1 : (s : Int) - 257 = (d : Int) := by omega
        have e2 : (ll : Int) + (x : Int) = (n : Int) := by omega
        have e3 : (a1 : Int) + (lb : Int) = (a2 : Int) := by omega
        have e4 : (dl : Int) + (y : Int) = (D : Int) := by omega
        have e5 : (a3 : Int) + (db : Int) = (a4 : Int) := by omega
        have b1 : s ≤ 285 ∧ 257 ≤ s := by omega
        have hnb : nb ≤ 1000000000 := by omega
        clear hft hwp h1 h3 h5 h7 ha1 ha2 ha3 ha4 hbs2 htb hex hsl hsp hkl hkp HF' HE' HW' hs hx hy hn hD hnn hDn hl3 hl258 hd1 hd2 hlf hdf
        have q1 : ((s : Int) == 256) = false := beq_eq_false_iff_ne.2 (by omega)
        have q2 : decide ((s : Int) < 256) = false := decide_eq_false (by omega)
        have q3 : decide (285 < (s : Int)) = false := decide_eq_false (by omega)
        have q4 : decide (29 < (k : Int)) = false := decide_eq_false (by omega)
        obtain ⟨gu, cu, rfl, _, _⟩ := HOW'.out.form (by omega)
        obtain ⟨m, hm⟩ : ∃ m, dn'.length = m := ⟨_, rfl⟩
        have HM := Lib.hid hm
        rw [hm] at HOW' HGR hdl hcl2 hDl ⊢
        have q5 : decide ((m : Int) < (D : Int)) = false := decide_eq_false (by omega)
        have q5' : decide (m < D) = false := decide_eq_false (by omega)
        clear hm
        go_wp2_with fail
        refine HN.out.mono ?_
        rintro e w5 ⟨rfl, hb5⟩
        have HG5 := Lib.hid (HGR.out.more hb5)
        have HO5 := Lib.hid (own_below HOW'.out hb5)
        clear hb5
        obtain ⟨hA5, -, hR25, ho35, -⟩ := HKEEP.out _ _ HG5.out
        have HA5 := Lib.hid hA5
        have HR25 := Lib.hid hR25
        obtain ⟨f1, f2⟩ := HCL.out _ ho35
        clear hA5 hR25 ho35
        go_wp2_with fail
        refine (HU1.out w5 HA5.out).mono ?_
        rintro e w5' ⟨rfl, rfl⟩
        go_wp2_with fail
        refine (HN2.out w5' HA5.out HR25.out).mono ?_
        rintro e w6 ⟨rfl, hb6⟩
        have HG6 := Lib.hid (HG5.out.more hb6)
        have HO6 := Lib.hid (own_below HO5.out hb6)
        have hbz : base ≤ w6.heap.size := by have h1 := HBW.out.1; have h2 := HG6.out.grown.size; omega
        clear hb6 f1 f2
        obtain ⟨hA6, -, -, -, ho46⟩ := HKEEP.out _ _ HG6.out
        have HA6 := Lib.hid hA6
        obtain ⟨f3, f4⟩ := HCD.out _ ho46
        clear hA6 ho46
        go_wp2_with fail
        refine (HU2.out w6 HA6.out).mono ?_
        rintro e w6' ⟨rfl, rfl⟩
        go_wp2
        clear f3 f4 q1 q2 q3 q4 q5 q5' e1 e2 e3 e4 e5
        go_loopw [2, 29] (fun vo vi wq => ∃ i : Nat, i ≤ n ∧ vi = .int .i64 i ∧ wq.ownsRow base 5 1 vo (m + i) (u8V (copyT D dn' i)) ∧ Grew v w4 vo wq) (fun _ vi _ => n - (intOf vi).toNat)
        case atStart => exact ⟨0, Nat.zero_le _, rfl, HO6.out, HG6.out⟩
        case round =>
          obtain ⟨i, hi, rfl, hoq, hgq⟩ := hrel
          obtain ⟨gq, cq, rfl, _, _⟩ := hoq.form (by omega)
          have HOQ := Lib.hid hoq
          have HGQ := Lib.hid hgq
          clear hoq hgq HO6 HG6 HO5 HG5
          by_cases hin : i < n
          · have q6 : decide ((i : Int) < (n : Int)) = true := decide_eq_true (by omega)
            have q6' : decide (i < n) = true := decide_eq_true hin
            obtain ⟨j, hj⟩ : ∃ j, m + i - D = j := ⟨_, rfl⟩
            have hlc : (copyT D dn' i).length = m + i := by rw [copyT_len, HM.out]
            have hcell := own_cell1 HOQ.out j (.int .u8 ((copyT D dn' i).getD j 0)) (u8V_get _ j (by rw [hlc]; omega))
            have hst : copyT D dn' (i + 1) = copyT D dn' i ++ [(copyT D dn' i).getD j 0] := by rw [copyT_steps, hlc, hj]
            generalize (copyT D dn' i).getD j 0 = z at *
            have HST := Lib.hid hst
            obtain ⟨mi, hmi⟩ : ∃ k, m + i = k := ⟨_, rfl⟩
            have HMI : Hid (m + (i + 1) = mi + 1) := Lib.hid (by omega)
            rw [hmi] at HOQ HGQ hj hlc ⊢
            have e6 : (mi : Int) - (D : Int) = (j : Int) := by omega
            have hjm : j < mi := by omega
            have hmb : mi ≤ 1000000000 := by omega
            have hbq : base ≤ wr.heap.size := by have h1 := HBW.out.1; have h2 := HGQ.out.grown.size; omega
            clear hst hlc hmi hj
            go_wp2_with (at_builtin; refine wpList_append_at _ rfl _ _ 39 rfl base 5 tb8 (.int .u8 0) 1 1 Tryz.underlying39 hii hiz0 hiz1 hiz2 rfl (by decide) _ _ _ rfl (HOQ.out.alloc _) ⟨wr.heap.size, 0, none⟩ 1 1 [.int .u8 z] rfl rfl ?c1 ?c2 ?c3 ?c4 ?c5 ?_)
            case c1 => exact new_cells wr [.int .u8 z] _
            case c2 => exact one8 _
            case c3 => unfold maxLen; omega
            case c4 => omega
            case c5 => simp; omega
            intro v7 w7 hown1 hg1 hfr
            have HG7 : Hid (Grew v w4 v7 w7) := Lib.hid ((HGQ.out.more ((Below.refl _ _).alloc (Nat.le_refl _) _)).trans ⟨hg1, fun k e => by have := hfr k e; simpa using this⟩)
            have HO7 : Hid (w7.ownsRow base 5 1 v7 (m + (i + 1)) (u8V (copyT D dn' (i + 1)))) := Lib.hid (by
              rw [HST.out, HMI.out, u8V_app]
              exact hown1)
            clear hown1 hg1 hfr hbq hcell e6
            go_wp2
            go_roundw
            case rel => exact ⟨i + 1, by omega, by go_num, HO7.out, HG7.out⟩
            case measure => simp [intOf]; omega
          · have q6 : decide ((i : Int) < (n : Int)) = false := decide_eq_false (by omega)
            have q6' : decide (i < n) = false := decide_eq_false hin
            have hni : i = n := by omega
            have HO8 : Hid (wr.ownsRow base 5 1 (.slice (some ⟨gq, 0, none⟩) (m + i) cq) (copyT D dn' n).length (u8V (copyT D dn' n))) := Lib.hid (by
              rw [copyT_len, HM.out, ← hni]
              exact HOQ.out)
            clear hni
            go_wp2
            go_roundw
            case rel => exact ⟨a4, copyT D dn' n, ts', rfl, h8, H7.out, HW2.out, HF2.out, HE2.out, HO8.out, HGQ.out⟩
            case measure => simp [intOf]; omega
end Go.Proofs.YtmpokiflhijnoaaGreatDoor.Rf

