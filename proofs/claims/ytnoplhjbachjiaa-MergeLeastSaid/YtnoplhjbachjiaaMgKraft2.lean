/-
  Merge, plain law: what the lengths of two symbols and more are: at most so many bits, and a full code.
-/
import Derived.Test.YtnoplhjbachjiaaMgKraft
namespace Go.Proofs.Ytnoplhjbachjiaa.Mg
set_option linter.unusedVariables false
set_option linter.unusedSimpArgs false

def sumTo (f : Nat → Nat) : Nat → Nat
  | 0 => 0
  | n + 1 => sumTo f n + f n
theorem sumTo_congr {f g : Nat → Nat} : ∀ n, (∀ i, i < n → f i = g i) → sumTo f n = sumTo g n
  | 0, _ => rfl
  | n + 1, h => by
    rw [sumTo, sumTo, sumTo_congr n (fun i hi => h i (by omega)), h n (by omega)]
theorem sumTo_tail {f : Nat → Nat} {c a : Nat} : ∀ d, (∀ i, a ≤ i → i < a + d → f i = c) → sumTo f (a + d) = sumTo f a + d * c
  | 0, _ => by simp
  | d + 1, h => by
    rw [show a + (d + 1) = (a + d) + 1 by omega, sumTo, sumTo_tail d (fun i h1 h2 => h i h1 (by omega)), h (a + d) (by omega) (by omega), Nat.succ_mul]
    omega
theorem sumTo_ge {f : Nat → Nat} : ∀ n, (∀ i, i < n → 1 ≤ f i) → n ≤ sumTo f n
  | 0, _ => Nat.le_refl _
  | n + 1, h => by
    have h1 := sumTo_ge n (fun i hi => h i (by omega))
    have h2 := h n (by omega)
    rw [sumTo]
    omega
theorem sumTo_one {f : Nat → Nat} : ∀ n, (∀ i, i < n → 1 ≤ f i) → ∀ i, i < n → f i + (n - 1) ≤ sumTo f n
  | 0, _, i, hi => by omega
  | n + 1, h, i, hi => by
    rw [sumTo]
    by_cases e : i = n
    · subst e
      have h1 := sumTo_ge i (fun j hj => h j (by omega))
      omega
    · have h1 := sumTo_one n (fun j hj => h j (by omega)) i (by omega)
      have h2 := h n (by omega)
      omega

/-- On how many levels a place is. -/
def hits : List Nat → Nat → Nat
  | [], _ => 0
  | a :: r, i => (if i < a then 1 else 0) + hits r i
theorem hits_le : ∀ (lv : List Nat) (i : Nat), hits lv i ≤ lv.length
  | [], _ => Nat.le_refl _
  | a :: r, i => by
    have := hits_le r i
    rw [hits, List.length_cons]
    split <;> omega
theorem hits_zero : ∀ (lv : List Nat) (i a : Nat), (∀ b ∈ lv, b ≤ a) → a ≤ i → hits lv i = 0
  | [], _, _, _, _ => rfl
  | b :: r, i, a, h, hi => by
    have h1 := h b List.mem_cons_self
    rw [hits, hits_zero r i a (fun c hc => h c (List.mem_cons_of_mem _ hc)) hi, if_neg (by omega)]
theorem hits_mono : ∀ (lv : List Nat) (i j : Nat), i ≤ j → hits lv j ≤ hits lv i
  | [], _, _, _ => Nat.le_refl _
  | a :: r, i, j, h => by
    have := hits_mono r i j h
    rw [hits, hits]
    split <;> split <;> omega

theorem kraft : ∀ (lv : List Nat) (n e : Nat), Levels n lv → lv.length ≤ e → sumTo (fun i => 2 ^ (e - hits lv i)) n + wid lv (e - 1) = n * 2 ^ e
  | [], n, e, _, _ => by
    have h := sumTo_tail (f := fun i => 2 ^ (e - hits [] i)) (c := 2 ^ e) (a := 0) n (fun i _ _ => rfl)
    rw [Nat.zero_add] at h
    rw [h]
    simp [sumTo, wid]
  | a :: r, n, 0, _, h => by simp at h
  | a :: r, n, e + 1, hL, h => by
    have han := hL.le a List.mem_cons_self
    have hr := List.pairwise_cons.1 hL.mono
    have ih := kraft r a e ⟨fun b hb => hr.1 b hb, hr.2⟩ (by simpa using h)
    obtain ⟨d, rfl⟩ : ∃ d, n = a + d := ⟨n - a, by omega⟩
    rw [sumTo_tail (c := 2 ^ (e + 1)) d (fun i h1 h2 => by rw [hits_zero (a :: r) i a (fun b hb => by rcases List.mem_cons.1 hb with rfl | hb; exact Nat.le_refl _; exact hr.1 b hb) h1]; rfl)]
    rw [sumTo_congr (g := fun i => 2 ^ (e - hits r i)) a (fun i hi => by
      show 2 ^ (e + 1 - hits (a :: r) i) = _
      rw [hits, if_pos hi]
      congr 1
      omega)]
    rw [wid, Nat.add_sub_cancel, Nat.add_mul]
    have hp : 2 ^ (e + 1) = 2 ^ e + 2 ^ e := by rw [Nat.pow_succ]; omega
    have e1 : a * 2 ^ (e + 1) = a * 2 ^ e + a * 2 ^ e := by rw [hp, Nat.mul_add]
    omega

theorem count_range (i : Nat) : ∀ a, (List.range a).count i = if i < a then 1 else 0
  | 0 => by simp
  | a + 1 => by
    rw [List.range_succ, List.count_append, count_range i a, List.count_singleton]
    by_cases h : a = i
    · subst h; simp
    · have hb : (a == i) = false := by simpa using h
      rw [hb]
      by_cases h2 : i < a
      · simp [h2]; omega
      · simp [h2]; omega
theorem count_levels (i : Nat) : ∀ lv : List Nat, ((lv.map List.range).flatten).count i = hits lv i
  | [] => rfl
  | a :: r => by
    rw [List.map_cons, List.flatten_cons, List.count_append, count_range, count_levels i r, hits]

theorem nodup_inj {l : List Nat} (h : l.Nodup) {i j : Nat} (hi : i < l.length) (hj : j < l.length) (e : l[i] = l[j]) : i = j := by
  rcases Nat.lt_trichotomy i j with h1 | h1 | h1
  · exact absurd e (List.pairwise_iff_getElem.1 h i j hi hj h1)
  · exact h1
  · exact absurd e.symm (List.pairwise_iff_getElem.1 h j i hj hi h1)

theorem snoc_ind {α : Type} {m : List α → Prop} (h0 : m []) (h1 : ∀ l a, m l → m (l ++ [a])) (l : List α) : m l := by
  have h : ∀ r : List α, m r.reverse := by
    intro r
    induction r with
    | nil => exact h0
    | cons a r ih => rw [List.reverse_cons]; exact h1 _ _ ih
  have := h l.reverse
  rwa [List.reverse_reverse] at this

/-- What is counted at a place of the order. -/
theorem outP_at (n : Nat) (ord : List Nat) (hnd : ord.Nodup) (hlt : ∀ s ∈ ord, s < n) (ks : List Nat) (hk : ∀ k ∈ ks, k < ord.length) (i : Nat) (hi : i < ord.length) :
    (outP n ord ks)[ord[i]]'(by rw [outP_len]; exact hlt _ (List.getElem_mem hi)) = (ks.count i : Int) := by
  revert hk
  refine snoc_ind (m := fun ks => (∀ k ∈ ks, k < ord.length) → (outP n ord ks)[ord[i]]'(by rw [outP_len]; exact hlt _ (List.getElem_mem hi)) = (ks.count i : Int)) ?_ ?_ ks
  · intro _
    simp [outP]
  · intro ks k ih hk
    have hs : ord[i] < n := hlt _ (List.getElem_mem hi)
    have hkl : k < ord.length := hk k (by simp)
    have h1 := ih (fun j hj => hk j (by simp [hj]))
    have h2 := bump_get ord (outP n ord ks) k ord[i] (by rw [outP_len]; exact hs)
    rw [← outP_snoc, List.getElem?_eq_getElem (by rw [outP_len]; exact hs), Option.some.injEq, h1] at h2
    rw [h2, List.count_append, List.count_singleton]
    have e : ord.getD k 0 = ord[k] := by rw [List.getD_eq_getElem?_getD, List.getElem?_eq_getElem hkl]; rfl
    rw [e]
    by_cases h : k = i
    · subst h; simp
    · have hne : ord[k] ≠ ord[i] := fun e => h (nodup_inj hnd hkl hi e)
      have hb : (k == i) = false := by simpa using h
      rw [if_neg hne, hb]
      simp
theorem outP_off (n : Nat) (ord : List Nat) (ks : List Nat) (hk : ∀ k ∈ ks, k < ord.length) (s : Nat) (hs : s < n) (hso : s ∉ ord) : (outP n ord ks)[s]'(by rw [outP_len]; exact hs) = 0 := by
  revert hk
  refine snoc_ind (m := fun ks => (∀ k ∈ ks, k < ord.length) → (outP n ord ks)[s]'(by rw [outP_len]; exact hs) = 0) ?_ ?_ ks
  · intro _
    simp [outP]
  · intro ks k ih hk
    have hkl : k < ord.length := hk k (by simp)
    have h1 := ih (fun j hj => hk j (by simp [hj]))
    have h2 := bump_get ord (outP n ord ks) k s (by rw [outP_len]; exact hs)
    rw [← outP_snoc, List.getElem?_eq_getElem (by rw [outP_len]; exact hs), Option.some.injEq, h1] at h2
    have e : ord.getD k 0 = ord[k] := by rw [List.getD_eq_getElem?_getD, List.getElem?_eq_getElem hkl]; rfl
    rw [h2, e, if_neg (fun e => hso (by rw [← e]; exact List.getElem_mem hkl))]

/-- The places below k whose counts are above 0, as plain numbers. -/
def posL (cs : List Int) (k : Nat) : List Nat := (idxTo cs k).map fun s => s.1.toNat
theorem posL_succ (cs : List Int) (k : Nat) (h : k < cs.length) : posL cs (k + 1) = if 0 < cs[k] then posL cs k ++ [k] else posL cs k := by
  unfold posL
  conv => lhs; unfold idxTo
  rw [dif_pos h]
  split
  · rw [List.map_append]; rfl
  · rfl
theorem posL_mem (cs : List Int) : ∀ k, k ≤ cs.length → ∀ s, s ∈ posL cs k ↔ s < k ∧ 0 < cs.getD s 0
  | 0, _, s => by simp [posL, idxTo]
  | k + 1, h, s => by
    have ih := posL_mem cs k (by omega) s
    have e : cs.getD k 0 = cs[k] := by rw [List.getD_eq_getElem?_getD, List.getElem?_eq_getElem (by omega)]; rfl
    rw [posL_succ cs k (by omega)]
    split
    · rename_i hp
      rw [List.mem_append, ih, List.mem_singleton]
      constructor
      · rintro (h1 | rfl)
        · exact ⟨by omega, h1.2⟩
        · exact ⟨by omega, by rw [e]; exact hp⟩
      · intro h1
        by_cases h2 : s = k
        · exact .inr h2
        · exact .inl ⟨by omega, h1.2⟩
    · rename_i hp
      rw [ih]
      constructor
      · intro h1; exact ⟨by omega, h1.2⟩
      · intro h1
        refine ⟨?_, h1.2⟩
        by_cases h2 : s = k
        · subst h2; rw [e] at h1; exact absurd h1.2 hp
        · omega
theorem posL_lt (cs : List Int) : ∀ k, k ≤ cs.length → (posL cs k).Pairwise (· < ·)
  | 0, _ => List.Pairwise.nil
  | k + 1, h => by
    rw [posL_succ cs k (by omega)]
    have ih := posL_lt cs k (by omega)
    split
    · refine List.pairwise_append.2 ⟨ih, List.pairwise_singleton _ _, fun a ha b hb => ?_⟩
      rw [List.mem_singleton.1 hb]
      exact ((posL_mem cs k (by omega) a).1 ha).1
    · exact ih
theorem ordP_perm (cs : List Int) : (ordP cs).Perm (posL cs cs.length) := (usedL_perm cs).map _
theorem ordP_nodup (cs : List Int) : (ordP cs).Nodup := (ordP_perm cs).nodup_iff.2 ((posL_lt cs cs.length (Nat.le_refl _)).imp (fun h => Nat.ne_of_lt h))
theorem ordP_mem (cs : List Int) (s : Nat) : s ∈ ordP cs ↔ s < cs.length ∧ 0 < cs.getD s 0 := (ordP_perm cs).mem_iff.trans (posL_mem cs cs.length (Nat.le_refl _) s)

theorem sum_posL (cs : List Int) (G : Nat → Nat) (hG : ∀ s, s < cs.length → ¬ 0 < cs.getD s 0 → G s = 0) : ∀ k, k ≤ cs.length → sumTo G k = ((posL cs k).map G).sum
  | 0, _ => rfl
  | k + 1, h => by
    have e : cs.getD k 0 = cs[k] := by rw [List.getD_eq_getElem?_getD, List.getElem?_eq_getElem (by omega)]; rfl
    rw [sumTo, sum_posL cs G hG k (by omega), posL_succ cs k (by omega)]
    split
    · rw [List.map_append, List.sum_append]; simp
    · rename_i hp
      rw [hG k (by omega) (by rw [e]; exact hp)]
      omega
theorem sum_list (l : List Nat) (G : Nat → Nat) : (l.map G).sum = sumTo (fun i => G (l.getD i 0)) l.length := by
  refine snoc_ind (m := fun l => (l.map G).sum = sumTo (fun i => G (l.getD i 0)) l.length) rfl ?_ l
  intro l a ih
  rw [List.map_append, List.sum_append, ih, List.length_append]
  simp only [List.length_singleton, List.map_cons, List.map_nil, List.sum_cons, List.sum_nil, Nat.add_zero, sumTo]
  congr 1
  · refine sumTo_congr _ fun i hi => ?_
    rw [List.getD_eq_getElem?_getD, List.getD_eq_getElem?_getD, List.getElem?_append_left hi]
  · simp [List.getD_eq_getElem?_getD]
theorem sum_ord (cs : List Int) (G : Nat → Nat) (hG : ∀ s, s < cs.length → ¬ 0 < cs.getD s 0 → G s = 0) : sumTo G cs.length = sumTo (fun i => G ((ordP cs).getD i 0)) (ordP cs).length := by
  rw [sum_posL cs G hG _ (Nat.le_refl _), ← sum_list]
  exact ((ordP_perm cs).map G).sum_nat.symm

theorem getD_get {α : Type} (l : List α) (i : Nat) (h : i < l.length) (d : α) : l.getD i d = l[i] := by
  rw [List.getD_eq_getElem?_getD, List.getElem?_eq_getElem h]; rfl

/-- What the lengths of two symbols and more are. -/
theorem lens_levels (cs : List Int) (most : Int) (hb : badArg cs most = false) (hN : 2 ≤ (usedL cs).length) (hm : ((usedL cs).length : Int) ≤ (2 : Int) ^ most.toNat) :
    ∃ lv, Levels (usedL cs).length lv ∧ lv.length ≤ most.toNat ∧ (∀ i, i < (usedL cs).length → (lensP cs most).getD ((ordP cs).getD i 0) 0 = hits lv i ∧ 1 ≤ hits lv i) ∧
      (∀ s, s < cs.length → ¬ 0 < cs.getD s 0 → (lensP cs most).getD s 0 = 0) ∧ sumTo (fun i => 2 ^ (most.toNat - hits lv i)) (usedL cs).length = 2 ^ most.toNat := by
  obtain ⟨h1, h2, h3, h4⟩ := badArg_facts hb
  obtain ⟨m, hm1⟩ : ∃ m, most.toNat = m + 1 := ⟨most.toNat - 1, by omega⟩
  have hlow := levelP_low cs m 1 (by rw [← hm1]; exact_mod_cast hm)
  obtain ⟨a, lv, hL, _, hP, hlen, hW⟩ := levels cs h2 m (2 * (usedL cs).length - 2) (by omega)
  have hlens : lensP cs most = outP cs.length (ordP cs) (takenP cs most) := by unfold lensP; rw [if_neg (by omega)]
  have htk : takenP cs most = ((levelP cs m).take (2 * (usedL cs).length - 2)).flatMap (·.2) := by
    unfold takenP
    rw [hm1, Nat.add_sub_cancel]
  have hks : ∀ k ∈ takenP cs most, k < (ordP cs).length := by
    intro k hk
    rw [htk] at hk
    obtain ⟨p, hp, hkp⟩ := List.mem_flatMap.1 hk
    rw [ordP_len]
    exact (levelP_ok cs h2 m p (List.mem_of_mem_take hp)).2.2.2.2 k hkp
  have hcount : ∀ i, (takenP cs most).count i = hits (a :: lv) i := fun i => by rw [htk, hP.count_eq, count_levels]
  have hkr := kraft (a :: lv) (usedL cs).length (m + 1) hL hlen
  rw [Nat.add_sub_cancel, hW m (Nat.le_refl _)] at hkr
  have hsum : sumTo (fun i => 2 ^ (m + 1 - hits (a :: lv) i)) (usedL cs).length = 2 ^ (m + 1) := by
    obtain ⟨n, hn⟩ : ∃ n, (usedL cs).length = n + 2 := ⟨(usedL cs).length - 2, by omega⟩
    rw [hn] at hkr ⊢
    have e1 : (n + 2) * 2 ^ (m + 1) = (2 * (n + 2) - 2) * 2 ^ m + 2 ^ (m + 1) := by
      rw [show 2 * (n + 2) - 2 = (n + 1) * 2 by omega, Nat.mul_assoc, ← Nat.pow_succ', Nat.succ_mul]
    omega
  refine ⟨a :: lv, hL, by rw [hm1]; exact hlen, fun i hi => ?_, fun s hs hns => ?_, by rw [hm1]; exact hsum⟩
  · have hi' : i < (ordP cs).length := by rw [ordP_len]; exact hi
    have h5 := outP_at cs.length (ordP cs) (ordP_nodup cs) (ordP_lt cs) (takenP cs most) hks i hi'
    have hs : (ordP cs)[i] < (outP cs.length (ordP cs) (takenP cs most)).length := by rw [outP_len]; exact ordP_lt cs _ (List.getElem_mem hi')
    refine ⟨by rw [getD_get _ i hi', hlens, getD_get _ _ hs, h5, hcount], ?_⟩
    refine Nat.one_le_iff_ne_zero.2 fun h0 => ?_
    have h6 := sumTo_one (f := fun i => 2 ^ (m + 1 - hits (a :: lv) i)) (usedL cs).length (fun j _ => Nat.one_le_two_pow) i hi
    rw [hsum] at h6
    simp only [h0, Nat.sub_zero] at h6
    omega
  · rw [hlens, getD_get _ s (by rw [outP_len]; exact hs)]
    exact outP_off _ _ _ hks s hs (fun h => hns ((ordP_mem cs s).1 h).2)

end Go.Proofs.Ytnoplhjbachjiaa.Mg
