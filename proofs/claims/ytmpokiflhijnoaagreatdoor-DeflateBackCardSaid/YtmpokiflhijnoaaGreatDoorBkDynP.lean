/-
  The codes of a Dynamic block may be: plain law.
-/
import Derived.Test.YtmpokiflhijnoaaGreatDoorBkStrict
import Derived.Test.YtmpokiflhijnoaaGreatDoorBkA
namespace Go.Proofs.YtmpokiflhijnoaaGreatDoor.Bk
open Go.RowKit Go.Shelf Go.Proofs.YtmpokiflhijnoaaGreatDoor.Mg Go.Proofs.YtmpokiflhijnoaaGreatDoor.Bw Go.Proofs.YtmpokiflhijnoaaGreatDoor.Ri
set_option linter.unusedVariables false
set_option linter.unusedSimpArgs false

theorem tot_cons (n : Nat) (x : Int) (l : List Int) : tot n (x :: l) = gN n x + tot n l := by simp [tot]
theorem tot_append (n : Nat) (a b : List Int) : tot n (a ++ b) = tot n a + tot n b := by simp [tot]
theorem tot_set (n : Nat) (x : Int) : ∀ (l : List Int) (i : Nat) (h : i < l.length), tot n (l.set i x) + gN n l[i] = tot n l + gN n x
  | [], _, h => by simp at h
  | a :: l, 0, _ => by
    rw [List.set_cons_zero, tot_cons, tot_cons, List.getElem_cons_zero]
    omega
  | a :: l, i + 1, h => by
    have := tot_set n x l i (by simpa using h)
    rw [List.set_cons_succ, tot_cons, tot_cons, List.getElem_cons_succ]
    omega
theorem gN_le (x : Int) : gN 15 x ≤ 16384 := by
  unfold gN
  split
  · rename_i h
    have h1 : 2 ^ (15 - x.toNat) ≤ 2 ^ 14 := Nat.pow_le_pow_right (by omega) (by omega)
    have h2 : (2 : Nat) ^ 14 = 16384 := by decide
    omega
  · omega
theorem gN_non (n : Nat) (x : Int) (h : ¬ 0 < x) : gN n x = 0 := by
  unfold gN
  rw [if_neg (fun h2 => h h2.1)]
theorem posN_cons (x : Int) (l : List Int) : posN (x :: l) = posN l + if 0 < x then 1 else 0 := by
  unfold posN
  rw [List.countP_cons]
  simp
theorem tot_pos : ∀ l : List Int, tot 15 l ≤ posN l * 16384
  | [] => by simp [tot]
  | x :: l => by
    have h := tot_pos l
    have h2 := gN_le x
    rw [tot_cons, posN_cons]
    by_cases hx : 0 < x
    · rw [if_pos hx, Nat.add_mul]; omega
    · rw [if_neg hx, gN_non 15 x hx]; omega
theorem posN_zeros (n : Nat) : posN (List.replicate n 0) = 0 := by
  unfold posN
  rw [List.countP_eq_zero]
  intro x hx
  rw [List.eq_of_mem_replicate hx]
  decide
theorem posN_set : ∀ (l : List Int) (i : Nat) (h : i < l.length), ¬ 0 < l[i] → posN (l.set i 1) = posN l + 1
  | [], _, h, _ => by simp at h
  | a :: l, 0, _, hn => by
    rw [List.getElem_cons_zero] at hn
    rw [List.set_cons_zero, posN_cons, posN_cons, if_pos (by omega), if_neg hn]
  | a :: l, i + 1, h, hn => by
    rw [List.getElem_cons_succ] at hn
    rw [List.set_cons_succ, posN_cons, posN_cons, posN_set l i (by simpa using h) hn]
    omega
theorem tot_zeros (m n : Nat) : tot m (List.replicate n 0) = 0 := by
  unfold tot
  rw [List.map_replicate]
  have : gN m 0 = 0 := gN_non m 0 (by omega)
  rw [this]
  simp
theorem gN_one : gN 15 1 = 16384 := by decide +kernel

/-- One symbol alone. -/
theorem lens_single (cs : List Int) (most : Int) (hu : (usedL cs).length = 1) : tot 15 (lensP cs most) = 16384 ∧ posN (lensP cs most) = 1 := by
  have hlen := ordP_len cs
  have hlt := ordP_lt cs
  have hE : lensP cs most = (ordP cs).foldl (fun o s => o.set s 1) (List.replicate cs.length 0) := by unfold lensP; rw [if_pos (by omega)]
  rcases ho : ordP cs with _ | ⟨a, _ | ⟨b, r⟩⟩
  · rw [ho] at hlen; simp at hlen; omega
  · have ha : a < cs.length := hlt a (by rw [ho]; simp)
    rw [hE, ho]
    simp only [List.foldl_cons, List.foldl_nil]
    have h1 := tot_set 15 1 (List.replicate cs.length 0) a (by simpa using ha)
    have h2 := posN_set (List.replicate cs.length 0) a (by simpa using ha) (by rw [List.getElem_replicate]; omega)
    rw [posN_zeros] at h2
    rw [tot_zeros, List.getElem_replicate, gN_non 15 0 (by omega), gN_one] at h1
    exact ⟨by omega, h2⟩
  · rw [ho] at hlen; simp at hlen; omega

theorem strict_full (cs : List Int) (most : Int) (hb : badArg cs most = false) (hm : ((usedL cs).length : Int) ≤ (2 : Int) ^ most.toNat) (hu : 1 ≤ (usedL cs).length) (h2 : 2 ≤ cs.length) : tot 15 (strictP cs most) = 2 ^ 15 := by
  have h15 : (2 : Nat) ^ 15 = 32768 := by decide
  unfold strictP
  by_cases hN : 2 ≤ (usedL cs).length
  · have hf := lens_full cs most hb hN hm
    have hp := tot_pos (lensP cs most)
    rw [if_neg (by omega)]
    exact hf
  · obtain ⟨h3, h4⟩ := lens_single cs most (by omega)
    have hl : (lensP cs most).length = cs.length := Bk.lensP_len cs most
    have hz := zero_lt (lensP cs most) h4 (by omega)
    have hz2 := List.findIdx_getElem (w := hz)
    have hn : ¬ 0 < (lensP cs most)[zeroAt (lensP cs most)] := by
      have h9 : (lensP cs most)[List.findIdx (fun x => !decide (0 < x)) (lensP cs most)]'hz ≤ 0 := by simpa using hz2
      unfold zeroAt
      omega
    have h5 := tot_set 15 1 (lensP cs most) _ hz
    rw [gN_non 15 _ hn, gN_one] at h5
    rw [if_pos h4]
    omega
theorem getD_of {l : List Int} {i : Nat} (h : i < l.length) : l.getD i 0 = l[i] := by simp [List.getD, List.getElem?_eq_getElem h]
theorem lens_in (cs : List Int) (most : Int) (hb : badArg cs most = false) (hm : ((usedL cs).length : Int) ≤ (2 : Int) ^ most.toNat) : ∀ x ∈ lensP cs most, 0 ≤ x ∧ x ≤ most := by
  intro x hx
  obtain ⟨i, hi, rfl⟩ := List.mem_iff_getElem.1 hx
  have h := lens_range cs most hb hm i (by rw [Bk.lensP_len] at hi; exact hi)
  rw [getD_of hi] at h
  exact ⟨h.1, h.2.1⟩
theorem strict_in (cs : List Int) (most : Int) (hb : badArg cs most = false) (hm : ((usedL cs).length : Int) ≤ (2 : Int) ^ most.toNat) : ∀ x ∈ strictP cs most, 0 ≤ x ∧ x ≤ most := by
  have h1 : 1 ≤ most := (badArg_facts hb).2.2.1
  intro x hx
  unfold strictP at hx
  split at hx
  · rcases List.mem_or_eq_of_mem_set hx with h | h
    · exact lens_in cs most hb hm x h
    · omega
  · exact lens_in cs most hb hm x hx
/-- A symbol that comes has a word. -/
theorem strict_pos (cs : List Int) (most : Int) (hb : badArg cs most = false) (hm : ((usedL cs).length : Int) ≤ (2 : Int) ^ most.toNat) (s : Nat) (hs : s < cs.length) (hp : 0 < cs.getD s 0) : 0 < (strictP cs most).getD s 0 := by
  have h := (lens_range cs most hb hm s hs).2.2.2 hp
  unfold strictP
  split
  · have hl : s < (lensP cs most).length := by rw [Bk.lensP_len]; exact hs
    have hl2 : s < ((lensP cs most).set (zeroAt (lensP cs most)) 1).length := by rw [List.length_set]; exact hl
    rw [getD_of hl2, List.getElem_set]
    split
    · omega
    · rw [getD_of hl] at h
      exact h
  · exact h

theorem uptoGo_zero (l : List Int) (least : Nat) : ∀ n j, uptoGo l least n ≤ j → j < n → l.getD j 0 = 0
  | 0, _, _, h => by omega
  | n + 1, j, h1, h2 => by
    rw [uptoGo] at h1
    split at h1
    · rename_i h
      by_cases hj : j = n
      · rw [hj]; exact h.2
      · exact uptoGo_zero l least n j h1 (by omega)
    · omega
theorem upto_zero (l : List Int) (least : Nat) : ∀ x ∈ l.drop (uptoP l least), x = 0 := by
  intro x hx
  obtain ⟨i, hi, rfl⟩ := List.mem_iff_getElem.1 hx
  rw [List.getElem_drop]
  rw [List.length_drop] at hi
  rw [← getD_of (by omega)]
  exact uptoGo_zero l least l.length _ (Nat.le_add_right _ _) (by omega)
theorem tot_zero_of (n : Nat) : ∀ l : List Int, (∀ x ∈ l, x = 0) → tot n l = 0
  | [], _ => by simp [tot]
  | x :: l, h => by
    rw [tot_cons, h x List.mem_cons_self, gN_non n 0 (by omega), tot_zero_of n l (fun y hy => h y (List.mem_cons_of_mem _ hy))]
theorem tot_take (n : Nat) (l : List Int) (least : Nat) : tot n (l.take (uptoP l least)) = tot n l := by
  have h := tot_append n (l.take (uptoP l least)) (l.drop (uptoP l least))
  rw [List.take_append_drop, tot_zero_of n _ (upto_zero l least)] at h
  omega
theorem cntF_take (l : List Int) (least : Nat) : cntF (l.take (uptoP l least)) = cntF l := by
  funext m
  unfold cntF
  split
  · rfl
  · rename_i hm
    have h : l.count (m : Int) = (l.take (uptoP l least) ++ l.drop (uptoP l least)).count (m : Int) := by rw [List.take_append_drop]
    rw [h, List.count_append]
    have h0 : (l.drop (uptoP l least)).count (m : Int) = 0 := by
      rw [List.count_eq_zero]
      intro hmem
      have := upto_zero l least _ hmem
      omega
    rw [h0]
    rfl
/-- What is told, of a symbol that comes. -/
theorem upto_gt (l : List Int) (least s : Nat) (hs : s < l.length) (hp : 0 < l.getD s 0) : s < uptoP l least := by
  rcases Nat.lt_or_ge s (uptoP l least) with h | h
  · exact h
  · have := uptoGo_zero l least l.length s h hs
    omega

def lsX (ts : List Tok) : List Int := strictP (cntS ts) 15
def dsX (ts : List Tok) : List Int := lensP (cntD ts) 15
def lsD (ts : List Tok) : List Int := (lsX ts).take (uptoP (lsX ts) 257)
def dsD (ts : List Tok) : List Int := (dsX ts).take (uptoP (dsX ts) 1)
def toldD (ts : List Tok) : List Ex := packP (lsD ts ++ dsD ts)
theorem bad_of {cs : List Int} {most M : Int} (h1 : cs.length ≤ 288) (h2 : InB M cs) (hM : M ≤ 1099511627776) (h3 : 1 ≤ most ∧ most ≤ 15) : badArg cs most = false := by
  unfold badArg
  rw [Bool.or_eq_false_iff, Bool.or_eq_false_iff, Bool.or_eq_false_iff]
  refine ⟨⟨⟨decide_eq_false (by omega), ?_⟩, decide_eq_false (by omega)⟩, decide_eq_false (by omega)⟩
  rw [List.any_eq_false]
  intro x hx
  have := h2 x hx
  unfold badB
  simp
  omega
theorem used_pos (cs : List Int) (s : Nat) (hs : s < cs.length) (hp : 0 < cs.getD s 0) : 1 ≤ (usedL cs).length := by
  have h := (ordP_mem cs s).2 ⟨hs, hp⟩
  rw [← ordP_len]
  exact List.length_pos_of_mem h
theorem p15 : (2 : Int) ^ (15 : Int).toNat = 32768 := by decide
theorem p7 : (2 : Int) ^ (7 : Int).toNat = 128 := by decide
theorem bumpI_get (o : List Int) (i s : Nat) (h0 : ∀ x ∈ o, 0 ≤ x) : o.getD s 0 ≤ (bumpI o i).getD s 0 := by
  unfold bumpI
  rcases Nat.lt_or_ge s o.length with h | h
  · have h2 : s < (o.set i (o.getD i 0 + 1)).length := by rw [List.length_set]; exact h
    rw [getD_of h2, List.getElem_set, getD_of h]
    split
    · rename_i e; subst e; rw [getD_of h]; omega
    · exact Int.le_refl _
  · have h2 : (o.set i (o.getD i 0 + 1)).length ≤ s := by rw [List.length_set]; exact h
    rw [show o.getD s 0 = 0 by simp [List.getD, List.getElem?_eq_none h], List.getD_eq_getElem?_getD, List.getElem?_eq_none h2]
    exact Int.le_refl _
theorem stepS_mono (o : List Int) (t : Tok) (s : Nat) (h0 : ∀ x ∈ o, 0 ≤ x) : o.getD s 0 ≤ (stepS o t).getD s 0 := by
  unfold stepS
  split <;> exact bumpI_get o _ s h0
theorem inB_pos {o : List Int} {M : Int} (h : InB M o) : ∀ x ∈ o, 0 ≤ x := fun x hx => (h x hx).1
theorem foldS_mono (s : Nat) : ∀ (ts : List Tok) (o : List Int) (M : Int), 0 ≤ M → InB M o → o.getD s 0 ≤ (ts.foldl stepS o).getD s 0
  | [], _, _, _, _ => Int.le_refl _
  | t :: ts, o, M, hM, h => Int.le_trans (stepS_mono o t s (inB_pos h)) (foldS_mono s ts _ (M + 1) (by omega) (stepS_in h hM t))
theorem cntS_end (ts : List Tok) : 0 < (cntS ts).getD 256 0 := by
  have h := foldS_mono 256 ts ((List.replicate 286 0).set 256 1) 1 (by omega) (by
    intro x hx
    rcases List.mem_or_eq_of_mem_set hx with h | h
    · have := List.eq_of_mem_replicate h; omega
    · omega)
  have h2 : ((List.replicate 286 (0 : Int)).set 256 1).getD 256 0 = 1 := by decide +kernel
  rw [h2] at h
  unfold cntS
  omega
theorem cntS_bad (ts : List Tok) (hn : ts.length ≤ 1000000) : badArg (cntS ts) 15 = false ∧ ((usedL (cntS ts)).length : Int) ≤ (2 : Int) ^ (15 : Int).toNat := by
  refine ⟨bad_of (by rw [cntS_len]; decide) (cntS_in ts) (by omega) (by decide), ?_⟩
  have := Nat.le_trans (used_le (cntS ts)) (Nat.le_of_eq (cntS_len ts))
  rw [p15]
  omega
theorem cntD_bad (ts : List Tok) (hn : ts.length ≤ 1000000) : badArg (cntD ts) 15 = false ∧ ((usedL (cntD ts)).length : Int) ≤ (2 : Int) ^ (15 : Int).toNat := by
  refine ⟨bad_of (by rw [cntD_len]; decide) (cntD_in ts) (by omega) (by decide), ?_⟩
  have := Nat.le_trans (used_le (cntD ts)) (Nat.le_of_eq (cntD_len ts))
  rw [p15]
  omega
theorem lsX_len (ts : List Tok) : (lsX ts).length = 286 := (strictP_len _ _).trans (cntS_len ts)
theorem dsX_len (ts : List Tok) : (dsX ts).length = 30 := (Bk.lensP_len _ _).trans (cntD_len ts)
theorem lsD_len (ts : List Tok) : (lsD ts).length = uptoP (lsX ts) 257 ∧ 257 ≤ uptoP (lsX ts) 257 ∧ uptoP (lsX ts) 257 ≤ 286 := by
  have h1 := uptoGo_le (lsX ts) 257 (lsX ts).length
  have h2 := uptoGo_ge (lsX ts) 257 (lsX ts).length (by rw [lsX_len]; decide)
  have h3 := lsX_len ts
  unfold lsD uptoP
  rw [List.length_take]
  omega
theorem dsD_len (ts : List Tok) : (dsD ts).length = uptoP (dsX ts) 1 ∧ 1 ≤ uptoP (dsX ts) 1 ∧ uptoP (dsX ts) 1 ≤ 30 := by
  have h1 := uptoGo_le (dsX ts) 1 (dsX ts).length
  have h2 := uptoGo_ge (dsX ts) 1 (dsX ts).length (by rw [dsX_len]; decide)
  have h3 := dsX_len ts
  unfold dsD uptoP
  rw [List.length_take]
  omega
theorem lsD_in (ts : List Tok) (hn : ts.length ≤ 1000000) : ∀ x ∈ lsD ts, 0 ≤ x ∧ x ≤ 15 := fun x hx => strict_in _ _ (cntS_bad ts hn).1 (cntS_bad ts hn).2 x (List.mem_of_mem_take hx)
theorem dsD_in (ts : List Tok) (hn : ts.length ≤ 1000000) : ∀ x ∈ dsD ts, 0 ≤ x ∧ x ≤ 15 := fun x hx => lens_in _ _ (cntD_bad ts hn).1 (cntD_bad ts hn).2 x (List.mem_of_mem_take hx)
theorem lsD_tot (ts : List Tok) (hn : ts.length ≤ 1000000) : tot 15 (lsD ts) = 2 ^ 15 := by
  unfold lsD
  rw [tot_take]
  exact strict_full _ _ (cntS_bad ts hn).1 (cntS_bad ts hn).2 (used_pos _ 256 (by rw [cntS_len]; decide) (cntS_end ts)) (by rw [cntS_len]; decide)
theorem lsD_ok (ts : List Tok) (hn : ts.length ≤ 1000000) : (∀ n, n ≤ 15 → 0 ≤ leftP (cntF (lsD ts)) n) ∧ codeOk (lsD ts) false := by
  have h := left_full _ (lsD_tot ts hn)
  exact ⟨h.2, .inl h.1⟩
theorem dsD_ok (ts : List Tok) (hn : ts.length ≤ 1000000) : (∀ n, n ≤ 15 → 0 ≤ leftP (cntF (dsD ts)) n) ∧ codeOk (dsD ts) true := by
  unfold codeOk dsD
  rw [cntF_take]
  by_cases hN : 2 ≤ (usedL (cntD ts)).length
  · have h := left_full _ (lens_full _ _ (cntD_bad ts hn).1 hN (cntD_bad ts hn).2)
    exact ⟨h.2, .inl h.1⟩
  · obtain ⟨h1, h2, h3⟩ := lens_one (cntD ts) 15 hN
    exact ⟨h1, .inr ⟨h2, rfl, h3⟩⟩

/-- A symbol that tells lengths. -/
def exOk (x : Ex) : Prop := 0 ≤ x.sym ∧ x.sym ≤ 18 ∧ x.bits ≤ 7 ∧ x.val < 128
theorem stepP_ok (v : Int) (hv : 0 ≤ v ∧ v ≤ 15) (n : Nat) : exOk (stepP v n).1 := by
  unfold stepP againP
  split
  · unfold exOk; simp only [Option.getD_some]; omega
  · split
    · unfold exOk; simp only [Option.getD_some]; omega
    · split
      · unfold exOk; simp only [Option.getD_some]; omega
      · unfold exOk; simp only [Option.getD_none]; omega
theorem rest_ok (v : Int) (hv : 0 ≤ v ∧ v ≤ 15) : ∀ N n, n ≤ N → (∀ x ∈ restP v n, exOk x) ∧ (restP v n).length ≤ n
  | 0, n, h => by
    obtain rfl : n = 0 := by omega
    rw [restP_zero]
    exact ⟨fun x hx => (by cases hx), Nat.le_refl _⟩
  | N + 1, n, h => by
    by_cases h0 : n = 0
    · subst h0
      rw [restP_zero]
      exact ⟨fun x hx => (by cases hx), Nat.le_refl _⟩
    · have hp := stepP_pos v n
      have hl := stepP_le v n (by omega)
      obtain ⟨h1, h2⟩ := rest_ok v hv N (n - (stepP v n).2) (by omega)
      rw [restP_pos v n h0]
      refine ⟨fun x hx => ?_, by rw [List.length_cons]; omega⟩
      rcases List.mem_cons.1 hx with rfl | hx
      · exact stepP_ok v hv n
      · exact h1 x hx
theorem pack_ok : ∀ N (l : List Int), l.length ≤ N → (∀ x ∈ l, 0 ≤ x ∧ x ≤ 15) → (∀ x ∈ packP l, exOk x) ∧ (packP l).length ≤ l.length
  | _, [], _, _ => by
    rw [packP_nil]
    exact ⟨fun x hx => (by cases hx), Nat.le_refl _⟩
  | 0, v :: t, h, _ => by simp at h
  | N + 1, v :: t, h, hx => by
    have hv := hx v List.mem_cons_self
    have hle := leadP_le v t
    rw [List.length_cons] at h
    obtain ⟨h1, h2⟩ := pack_ok N (t.drop (leadP v t)) (by rw [List.length_drop]; omega) (fun x hm => hx x (List.mem_cons_of_mem _ (List.mem_of_mem_drop hm)))
    rw [List.length_drop] at h2
    rw [packP_cons]
    by_cases h0 : v = 0
    · obtain ⟨h3, h4⟩ := rest_ok v hv _ (leadP v t + 1) (Nat.le_refl _)
      rw [if_pos h0]
      refine ⟨fun x hm => ?_, by rw [List.length_append, List.length_cons]; omega⟩
      rcases List.mem_append.1 hm with hm | hm
      · exact h3 x hm
      · exact h1 x hm
    · obtain ⟨h3, h4⟩ := rest_ok v hv _ (leadP v t) (Nat.le_refl _)
      rw [if_neg h0]
      refine ⟨fun x hm => ?_, by rw [List.length_append, List.length_cons, List.length_cons]; omega⟩
      rcases List.mem_append.1 hm with hm | hm
      · rcases List.mem_cons.1 hm with rfl | hm
        · unfold exOk; simp only; omega
        · exact h3 x hm
      · exact h1 x hm
theorem told_in (ts : List Tok) (hn : ts.length ≤ 1000000) : ∀ x ∈ lsD ts ++ dsD ts, 0 ≤ x ∧ x ≤ 15 := fun x hx => by
  rcases List.mem_append.1 hx with h | h
  · exact lsD_in ts hn x h
  · exact dsD_in ts hn x h
theorem told_packR (ts : List Tok) (hn : ts.length ≤ 1000000) : packR (lsD ts ++ dsD ts) = toldD ts := by
  unfold packR toldD
  have : (lsD ts ++ dsD ts).any bad15 = false := by
    rw [List.any_eq_false]
    intro x hx
    have := told_in ts hn x hx
    unfold bad15
    simp
    omega
  rw [this]
  rfl
theorem told_ok (ts : List Tok) (hn : ts.length ≤ 1000000) : (∀ x ∈ toldD ts, exOk x) ∧ (toldD ts).length ≤ 316 ∧ 1 ≤ (toldD ts).length := by
  obtain ⟨h1, h2⟩ := pack_ok _ (lsD ts ++ dsD ts) (Nat.le_refl _) (told_in ts hn)
  have h3 := lsD_len ts
  have h4 := dsD_len ts
  rw [List.length_append, h3.1, h4.1] at h2
  refine ⟨h1, by unfold toldD; omega, ?_⟩
  unfold toldD
  rcases hc : lsD ts ++ dsD ts with _ | ⟨v, t⟩
  · have h5 : (lsD ts).length + (dsD ts).length = 0 := by rw [← List.length_append, hc]; rfl
    omega
  · rw [packP_cons]
    by_cases h0 : v = 0
    · rw [if_pos h0, restP_pos _ _ (by omega), List.cons_append, List.length_cons]
      omega
    · rw [if_neg h0, List.cons_append, List.length_cons]
      omega
/-- How often each symbol tells. -/
def oftenP (l : List Ex) : List Int := l.foldl (fun o x => bumpI o x.sym.toNat) (List.replicate 19 0)
theorem oftenF_len : ∀ (l : List Ex) (o : List Int), (l.foldl (fun o x => bumpI o x.sym.toNat) o).length = o.length
  | [], _ => rfl
  | x :: l, o => (oftenF_len l _).trans (bumpI_len _ _)
theorem often_len (l : List Ex) : (oftenP l).length = 19 := (oftenF_len l _).trans (by rw [List.length_replicate])
theorem often_take (l : List Ex) (k : Nat) (h : k < l.length) : oftenP (l.take (k + 1)) = bumpI (oftenP (l.take k)) l[k].sym.toNat := by
  rw [List.take_succ_eq_append_getElem h]
  unfold oftenP
  rw [List.foldl_append]
  rfl
theorem oftenF_in : ∀ (l : List Ex) (o : List Int) (M : Int), 0 ≤ M → InB M o → InB (M + l.length) (l.foldl (fun o x => bumpI o x.sym.toNat) o)
  | [], o, M, hM, h => by simpa using h
  | x :: l, o, M, hM, h => by
    have := oftenF_in l (bumpI o x.sym.toNat) (M + 1) (by omega) (bumpI_in h hM _)
    rw [List.foldl_cons, List.length_cons]
    exact inB_up this (by omega)
theorem often_in (l : List Ex) : InB (0 + l.length) (oftenP l) := oftenF_in l _ 0 (by omega) (by
  intro x hx
  have := List.eq_of_mem_replicate hx
  omega)
theorem oftenF_mono (s : Nat) : ∀ (l : List Ex) (o : List Int) (M : Int), 0 ≤ M → InB M o → o.getD s 0 ≤ (l.foldl (fun o x => bumpI o x.sym.toNat) o).getD s 0
  | [], _, _, _, _ => Int.le_refl _
  | x :: l, o, M, hM, h => Int.le_trans (bumpI_get o _ s (inB_pos h)) (oftenF_mono s l _ (M + 1) (by omega) (bumpI_in h hM _))
/-- A symbol that tells comes. -/
theorem often_pos (l : List Ex) (x : Ex) (hx : x ∈ l) (h0 : 0 ≤ x.sym) (h : x.sym ≤ 18) : 0 < (oftenP l).getD x.sym.toNat 0 := by
  obtain ⟨a, b, rfl⟩ := List.append_of_mem hx
  unfold oftenP
  rw [List.foldl_append, List.foldl_cons]
  have hl : (a.foldl (fun o x => bumpI o x.sym.toNat) (List.replicate 19 0)).length = 19 := by rw [oftenF_len, List.length_replicate]
  have hin := oftenF_in a (List.replicate 19 0) 0 (by omega) (by
    intro y hy
    have := List.eq_of_mem_replicate hy
    omega)
  generalize a.foldl (fun o x => bumpI o x.sym.toNat) (List.replicate 19 0) = o at *
  refine Int.lt_of_lt_of_le ?_ (oftenF_mono _ b _ (0 + a.length + 1) (by omega) (bumpI_in hin (by omega) _))
  have hs : x.sym.toNat < o.length := by omega
  have hs2 : x.sym.toNat < (o.set x.sym.toNat (o.getD x.sym.toNat 0 + 1)).length := by rw [List.length_set]; exact hs
  unfold bumpI
  rw [getD_of hs2, List.getElem_set, if_pos rfl, getD_of hs]
  have := hin _ (List.getElem_mem hs)
  omega
def tellD (ts : List Tok) : List Int := strictP (oftenP (toldD ts)) 7
theorem often_bad (ts : List Tok) (hn : ts.length ≤ 1000000) : badArg (oftenP (toldD ts)) 7 = false ∧ ((usedL (oftenP (toldD ts))).length : Int) ≤ (2 : Int) ^ (7 : Int).toNat := by
  have h1 := (told_ok ts hn).2.1
  refine ⟨bad_of (by rw [often_len]; decide) (often_in _) (by omega) (by decide), ?_⟩
  have := Nat.le_trans (used_le (oftenP (toldD ts))) (Nat.le_of_eq (often_len (toldD ts)))
  rw [p7]
  omega
theorem tellD_len (ts : List Tok) : (tellD ts).length = 19 := (strictP_len _ _).trans (often_len _)
theorem tellD_in (ts : List Tok) (hn : ts.length ≤ 1000000) : ∀ x ∈ tellD ts, 0 ≤ x ∧ x ≤ 7 := strict_in _ _ (often_bad ts hn).1 (often_bad ts hn).2
theorem tellD_ok (ts : List Tok) (hn : ts.length ≤ 1000000) : (∀ n, n ≤ 15 → 0 ≤ leftP (cntF (tellD ts)) n) ∧ codeOk (tellD ts) false := by
  obtain ⟨h1, -, h3⟩ := told_ok ts hn
  have hx : (toldD ts)[0] ∈ toldD ts := List.getElem_mem _
  have h4 := h1 _ hx
  have hp := often_pos (toldD ts) _ hx h4.1 h4.2.1
  have hu := used_pos (oftenP (toldD ts)) (toldD ts)[0].sym.toNat (by rw [often_len]; have := h4.2.1; omega) hp
  have h := left_full _ (strict_full _ 7 (often_bad ts hn).1 (often_bad ts hn).2 hu (by rw [often_len]; decide))
  exact ⟨h.2, .inl h.1⟩
/-- A symbol that is told has a word. -/
theorem tellD_pos (ts : List Tok) (hn : ts.length ≤ 1000000) (x : Ex) (hx : x ∈ toldD ts) : 0 < (tellD ts).getD x.sym.toNat 0 := by
  have h4 := (told_ok ts hn).1 x hx
  exact strict_pos _ _ (often_bad ts hn).1 (often_bad ts hn).2 _ (by rw [often_len]; have := h4.2.1; have := h4.1; omega) (often_pos _ x hx h4.1 h4.2.1)
/-- The order of the tellers. -/
def ordT : List Nat := [16, 17, 18, 0, 8, 7, 9, 6, 10, 5, 11, 4, 12, 3, 13, 2, 14, 1, 15]
def tellGo (z : List Int) : Nat → Nat
  | 0 => 0
  | n + 1 => if 4 < n + 1 ∧ z.getD (ordT.getD n 0) 0 = 0 then tellGo z n else n + 1
def tellC (z : List Int) : Nat := tellGo z 19
theorem tellGo_le (z : List Int) : ∀ n, tellGo z n ≤ n
  | 0 => Nat.le_refl _
  | n + 1 => by
    rw [tellGo]
    split
    · exact Nat.le_succ_of_le (tellGo_le z n)
    · exact Nat.le_refl _
theorem tellGo_ge (z : List Int) : ∀ n, 4 ≤ n → 4 ≤ tellGo z n
  | 0, h => h
  | n + 1, h => by
    rw [tellGo]
    split
    · rename_i h2
      exact tellGo_ge z n (by omega)
    · exact h
end Go.Proofs.YtmpokiflhijnoaaGreatDoor.Bk
