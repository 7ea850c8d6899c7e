/-
  Plain law: the head of a Dynamic block tells its lengths again.
-/
import Derived.Test.YtmpokiflhijnoaaDoorRfTellL
import Derived.Test.YtmpokiflhijnoaaDoorBkWrite
namespace Go.Proofs.YtmpokiflhijnoaaDoor.Rf
open Go.RowKit Go.Shelf Go.Proofs.YtmpokiflhijnoaaDoor.Mg Go.Proofs.YtmpokiflhijnoaaDoor.Bw Go.Proofs.YtmpokiflhijnoaaDoor.Bk Go.Proofs.YtmpokiflhijnoaaDoor.Cn Go.Proofs.YtmpokiflhijnoaaDoor.Zp
set_option linter.unusedVariables false
set_option linter.unusedSimpArgs false

theorem tellGo_zero (z : List Int) : ∀ n i, tellGo z n ≤ i → i < n → z.getD (ordT.getD i 0) 0 = 0
  | 0, _, _, h => by omega
  | n + 1, i, h1, h2 => by
    rw [tellGo] at h1
    split at h1
    · rename_i h
      by_cases hi : i = n
      · rw [hi]; exact h.2
      · exact tellGo_zero z n i h1 (by omega)
    · omega
theorem tellC_range (z : List Int) : 4 ≤ tellC z ∧ tellC z ≤ 19 := ⟨tellGo_ge z 19 (by decide), tellGo_le z 19⟩
/-- The place of a symbol in the order of the tellers. -/
def ordI (s : Nat) : Nat := ordT.findIdx (· == s)
theorem ord_ordI : ∀ s, s < 19 → ordT.getD (ordI s) 0 = s ∧ ordI s < 19 := by decide +kernel
theorem ordI_ord : ∀ i, i < 19 → ordI (ordT.getD i 0) = i ∧ ordT.getD i 0 < 19 := by decide +kernel
/-- The tellers' lengths, of which the first k stand. -/
def partZ (z : List Int) (k : Nat) : List Int := (List.range 19).map fun s => if ordI s < k then z.getD s 0 else 0
theorem partZ_len (z : List Int) (k : Nat) : (partZ z k).length = 19 := by simp [partZ]
theorem partZ_get (z : List Int) (k s : Nat) (h : s < 19) : (partZ z k).getD s 0 = if ordI s < k then z.getD s 0 else 0 := by
  have h2 : s < (partZ z k).length := by rw [partZ_len]; exact h
  rw [getD_of h2]
  simp [partZ]
theorem list_ext {a b : List Int} (hl : a.length = b.length) (h : ∀ i, i < a.length → a.getD i 0 = b.getD i 0) : a = b := by
  apply List.ext_getElem hl
  intro i h1 h2
  have := h i h1
  rw [getD_of h1, getD_of h2] at this
  exact this
theorem partZ_zero (z : List Int) : partZ z 0 = List.replicate 19 0 := by
  refine list_ext (by rw [partZ_len, List.length_replicate]) (fun i hi => ?_)
  rw [partZ_len] at hi
  rw [partZ_get z 0 i hi, if_neg (by omega), getD_of (by rw [List.length_replicate]; exact hi), List.getElem_replicate]
theorem partZ_next (z : List Int) (k : Nat) (hk : k < 19) : partZ z (k + 1) = (partZ z k).set (ordT.getD k 0) (z.getD (ordT.getD k 0) 0) := by
  refine list_ext (by rw [List.length_set, partZ_len, partZ_len]) (fun i hi => ?_)
  rw [partZ_len] at hi
  have h1 := ordI_ord k hk
  have h2 := ord_ordI i hi
  rw [partZ_get z (k + 1) i hi, getD_of (l := (partZ z k).set (ordT.getD k 0) (z.getD (ordT.getD k 0) 0)) (by rw [List.length_set, partZ_len]; exact hi), List.getElem_set]
  by_cases he : ordT.getD k 0 = i
  · rw [if_pos he]
    have : ordI i = k := by rw [← he]; exact h1.1
    rw [if_pos (by omega), he]
  · rw [if_neg he, ← getD_of (by rw [partZ_len]; exact hi), partZ_get z k i hi]
    have : ordI i ≠ k := fun e => he (by rw [← e]; exact h2.1)
    by_cases hlt : ordI i < k
    · rw [if_pos hlt, if_pos (by omega)]
    · rw [if_neg hlt, if_neg (by omega)]
theorem partZ_end (z : List Int) (hz : z.length = 19) : partZ z (tellC z) = z := by
  refine list_ext (by rw [partZ_len, hz]) (fun i hi => ?_)
  rw [partZ_len] at hi
  have h2 := ord_ordI i hi
  rw [partZ_get z _ i hi]
  split
  · rfl
  · rename_i h
    have := tellGo_zero z 19 (ordI i) (by unfold tellC at h; omega) h2.2
    rw [h2.1] at this
    exact this.symm
theorem tellsB_split (z : List Int) (k c : Nat) (h : k < c) : ∃ r, tellsB z c = tellsB z k ++ (tellB z k ++ r) := by
  obtain ⟨d, rfl⟩ : ∃ d, c = k + 1 + d := ⟨c - (k + 1), by omega⟩
  clear h
  induction d with
  | zero => exact ⟨[], by rw [Nat.add_zero, tellsB_succ, List.append_nil]⟩
  | succ d ih =>
    obtain ⟨r, hr⟩ := ih
    refine ⟨r ++ tellB z (k + 1 + d), ?_⟩
    rw [← Nat.add_assoc, tellsB_succ, hr]
    simp
theorem headN_parts (a d c : Nat) (h1 : 257 ≤ a ∧ a ≤ 286) (h2 : 1 ≤ d ∧ d ≤ 30) (h3 : 4 ≤ c ∧ c ≤ 19) :
    headN a d c < 2 ^ 14 ∧ headN a d c % 32 + 257 = a ∧ headN a d c / 32 % 32 + 1 = d ∧ headN a d c / 1024 + 4 = c := by
  unfold headN
  omega
theorem exsB_cons (z : List Int) (x : Ex) (l : List Ex) : exsB z (x :: l) = exB z x ++ exsB z l := by simp [exsB]

theorem lens_few (cs : List Int) (most : Int) (hu : ¬ 2 ≤ (usedL cs).length) : (tot 15 (lensP cs most) = 16384 ∧ posN (lensP cs most) = 1 ∧ oneN (lensP cs most) = 1) ∨ (tot 15 (lensP cs most) = 0 ∧ posN (lensP cs most) = 0) := by
  have hlen := ordP_len cs
  have hlt := ordP_lt cs
  have hE : lensP cs most = (ordP cs).foldl (fun o s => o.set s 1) (List.replicate cs.length 0) := by unfold lensP; rw [if_pos (by omega)]
  rcases ho : ordP cs with _ | ⟨a, _ | ⟨b, r⟩⟩
  · right
    rw [hE, ho, List.foldl_nil]
    exact ⟨tot_zeros _ _, posN_zeros _⟩
  · left
    have ha : a < cs.length := hlt a (by rw [ho]; simp)
    have h := lens_single cs most (by rw [ho] at hlen; simp at hlen; omega)
    refine ⟨h.1, h.2, ?_⟩
    rw [hE, ho]
    simp only [List.foldl_cons, List.foldl_nil]
    unfold oneN
    rw [List.count_set (by simpa using ha)]
    simp
    rw [List.count_eq_zero]
    intro hm
    have := List.eq_of_mem_replicate hm
    omega
  · rw [ho] at hlen; simp at hlen; omega
theorem posN_append (a b : List Int) : posN (a ++ b) = posN a + posN b := List.countP_append
theorem oneN_append (a b : List Int) : oneN (a ++ b) = oneN a + oneN b := List.count_append
theorem zeros_of : ∀ l : List Int, (∀ x ∈ l, x = 0) → posN l = 0 ∧ oneN l = 0 := fun l h => by
  constructor
  · unfold posN
    rw [List.countP_eq_zero]
    intro x hx
    rw [h x hx]
    decide
  · unfold oneN
    rw [List.count_eq_zero]
    intro hm
    have := h _ hm
    omega
theorem dsD_why (ts : List Tok) (hn : ts.length ≤ 1000000) : whyOk (dsD ts) true := by
  have h1 : tot 15 (dsD ts) = tot 15 (dsX ts) := tot_take 15 _ 1
  have hz := zeros_of _ (upto_zero (dsX ts) 1)
  have h2 : posN (dsD ts) = posN (dsX ts) := by
    have h := posN_append ((dsX ts).take (uptoP (dsX ts) 1)) ((dsX ts).drop (uptoP (dsX ts) 1))
    rw [List.take_append_drop, hz.1] at h
    unfold dsD
    omega
  have h3 : oneN (dsD ts) = oneN (dsX ts) := by
    have h := oneN_append ((dsX ts).take (uptoP (dsX ts) 1)) ((dsX ts).drop (uptoP (dsX ts) 1))
    rw [List.take_append_drop, hz.2] at h
    unfold dsD
    omega
  have p15 : (2 : Nat) ^ 15 = 32768 := by decide
  unfold whyOk
  rw [h1, h2, h3]
  by_cases hN : 2 ≤ (usedL (cntD ts)).length
  · have h := lens_full _ _ (cntD_bad ts hn).1 hN (cntD_bad ts hn).2
    exact .inl (by unfold dsX; omega)
  · rcases lens_few (cntD ts) 15 hN with ⟨a, b, c⟩ | ⟨a, b⟩
    · exact .inr ⟨by unfold dsX; omega, rfl, .inr ⟨b, c⟩⟩
    · exact .inr ⟨by unfold dsX; omega, rfl, .inl b⟩
theorem dsD_tot (ts : List Tok) (hn : ts.length ≤ 1000000) : tot 15 (dsD ts) ≤ 2 ^ 15 := by
  have p15 : (2 : Nat) ^ 15 = 32768 := by decide
  rcases dsD_why ts hn with h | h <;> omega
theorem lsD_why (ts : List Tok) (hn : ts.length ≤ 1000000) : whyOk (lsD ts) false := by
  have p15 : (2 : Nat) ^ 15 = 32768 := by decide
  exact .inl (by have := lsD_tot ts hn; omega)
theorem tellD_tot (ts : List Tok) (hn : ts.length ≤ 1000000) : tot 15 (tellD ts) = 2 ^ 15 := by
  obtain ⟨h1, -, h3⟩ := told_ok ts hn
  have hx : (toldD ts)[0] ∈ toldD ts := List.getElem_mem _
  have h4 := h1 _ hx
  have hp := often_pos (toldD ts) _ hx h4.1 h4.2.1
  have hu := used_pos (oftenP (toldD ts)) (toldD ts)[0].sym.toNat (by rw [often_len]; have := h4.2.1; omega) hp
  exact strict_full _ 7 (often_bad ts hn).1 (often_bad ts hn).2 hu (by rw [often_len]; decide)
theorem tellD_why (ts : List Tok) (hn : ts.length ≤ 1000000) : whyOk (tellD ts) false := by
  have p15 : (2 : Nat) ^ 15 = 32768 := by decide
  exact .inl (by have := tellD_tot ts hn; omega)
theorem told_un (ts : List Tok) (hn : ts.length ≤ 1000000) : unP [] (toldD ts) = some (lsD ts ++ dsD ts) := by
  have := un_pack _ (lsD ts ++ dsD ts) [] (Nat.le_refl _) (told_in ts hn)
  rw [List.nil_append] at this
  exact this
/-- The end of a block has a word. -/
theorem lsD_end (ts : List Tok) (hn : ts.length ≤ 1000000) : 256 < (lsD ts).length ∧ 0 < (lsD ts).getD 256 0 := lsD_pos ts hn 256 (by decide) (cntS_end ts)
/-- The words of the tokens, in a Dynamic block. -/
theorem tokW_dyn {ts : List Tok} (hn : ts.length ≤ 1000000) {t : Tok} (ht : t ∈ ts) (h : tokIn t) : tokW (lsD ts) (dsD ts) t := by
  have hc := cntS_pos ts t ht
  rcases h with ⟨h0, h1, h2⟩ | ⟨h0, h1, h2, h3⟩
  · have h4 := lsD_pos ts hn t.b.toNat (by omega) (hc.1 h0 h1 h2)
    exact .inl ⟨h0, h1, h2, h4.1, h4.2⟩
  · have hl := lenD_lt t.len.toNat
    have hd := dstD_lt t.dist.toNat
    have h4 := lsD_pos ts hn (257 + lenD t.len.toNat) (by omega) (hc.2 (by omega))
    have h5 := dsD_pos ts hn (dstD t.dist.toNat) hd (cntD_pos ts t ht (by omega))
    exact .inr ⟨h0, h1, h2, h3, h4.1, h4.2, h5.1, h5.2⟩
theorem fixL_pos : ∀ s, s < 288 → 0 < fixL.getD s 0 := by decide +kernel
theorem fixD_pos : ∀ s, s < 32 → 0 < fixD.getD s 0 := by decide +kernel
theorem fixT : tot 15 fixL = 2 ^ 15 ∧ tot 15 fixD = 2 ^ 15 := by decide +kernel
theorem tokW_fix {t : Tok} (h : tokIn t) : tokW fixL fixD t := by
  have e1 : fixL.length = 288 := fixL_len
  have e2 : fixD.length = 32 := by decide
  rcases h with ⟨h0, h1, h2⟩ | ⟨h0, h1, h2, h3⟩
  · exact .inl ⟨h0, h1, h2, by omega, fixL_pos _ (by omega)⟩
  · have hl := lenD_lt t.len.toNat
    have hd := dstD_lt t.dist.toNat
    exact .inr ⟨h0, h1, h2, h3, by omega, fixL_pos _ (by omega), by omega, fixD_pos _ (by omega)⟩
end Go.Proofs.YtmpokiflhijnoaaDoor.Rf
