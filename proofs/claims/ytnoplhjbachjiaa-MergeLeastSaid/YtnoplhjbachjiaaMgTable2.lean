/-
  The table finds the levels that the packages take: its best is what the lengths cost.
-/
import Derived.Test.YtnoplhjbachjiaaMgTable
namespace Go.Proofs.Ytnoplhjbachjiaa.Mg
set_option linter.unusedVariables false
set_option linter.unusedSimpArgs false

theorem wid_app : ∀ (x y : List Nat) (e : Nat), x.length ≤ e + 1 → wid (x ++ y) e = wid x e + wid y (e - x.length)
  | [], y, e, _ => by simp [wid]
  | b :: r, y, 0, h => by
    have : r = [] := List.eq_nil_of_length_eq_zero (by simpa using h)
    subst this
    simp [wid]
  | b :: r, y, e + 1, h => by
    have ih := wid_app r y e (by simpa using h)
    rw [List.cons_append, wid, wid, Nat.add_sub_cancel, ih, List.length_cons, Nat.add_sub_add_right]
    omega
theorem wid_pow (x : List Nat) (e : Nat) (h : x.length ≤ e + 1) : ∀ d, wid x (e + d) = 2 ^ d * wid x e
  | 0 => by simp
  | d + 1 => by
    rw [← Nat.add_assoc, wid_scale x (e + d) (by omega), wid_pow x e h d, Nat.pow_succ, Nat.mul_comm (2 ^ d) 2, Nat.mul_assoc]

/-- The levels' lengths, the upmost first; 0 behind them. -/
def atL (lv : List Nat) (t : Nat) : Nat := lv.getD t 0
/-- The nodes that are open at a level. -/
def opn (N : Nat) (lv : List Nat) (t : Nat) : Int := (widO (lv.take t) : Int) + 2 ^ t + atL lv t - N * 2 ^ t

theorem atL_le {N : Nat} {lv : List Nat} (hL : Levels N lv) (t : Nat) : atL lv t ≤ N := by
  unfold atL
  by_cases h : t < lv.length
  · rw [getD_get _ t h]; exact hL.le _ (List.getElem_mem h)
  · rw [List.getD_eq_getElem?_getD, List.getElem?_eq_none (by omega)]; exact Nat.zero_le _
theorem drop_levels {N : Nat} {lv : List Nat} (hL : Levels N lv) (t : Nat) : Levels (atL lv t) (lv.drop t) := by
  refine ⟨fun a ha => ?_, hL.mono.sublist (List.drop_sublist t lv)⟩
  by_cases h : t < lv.length
  · unfold atL
    rw [getD_get _ t h]
    rw [List.drop_eq_getElem_cons h] at ha
    rcases List.mem_cons.1 ha with rfl | h2
    · exact Nat.le_refl _
    · have hm := hL.mono.sublist (List.drop_sublist t lv)
      rw [List.drop_eq_getElem_cons h] at hm
      exact (List.pairwise_cons.1 hm).1 a h2
  · rw [List.drop_of_length_le (by omega)] at ha
    cases ha

theorem hits_pos {lv : List Nat} {t i : Nat} (hi : i < atL lv t) : 1 ≤ hits (lv.drop t) i := by
  by_cases h : t < lv.length
  · rw [List.drop_eq_getElem_cons h, hits]
    unfold atL at hi
    rw [getD_get _ t h] at hi
    rw [if_pos hi]
    omega
  · unfold atL at hi
    rw [List.getD_eq_getElem?_getD, List.getElem?_eq_none (by omega)] at hi
    exact absurd hi (Nat.not_lt_zero _)

/-- The open nodes are what the words below want. -/
theorem opn_sum {N m : Nat} {lv : List Nat} (hm : 1 ≤ m) (hN : 1 ≤ N) (hL : Levels N lv) (hlen : lv.length ≤ m) (hw : wid lv (m - 1) = (2 * N - 2) * 2 ^ (m - 1)) (t : Nat) (ht : t ≤ lv.length) :
    (2 : Int) ^ (m - t) * opn N lv t = (sumTo (fun i => 2 ^ (m - t - hits (lv.drop t) i)) (atL lv t) : Nat) := by
  have hk := kraft (lv.drop t) (atL lv t) (m - t) (drop_levels hL t) (by rw [List.length_drop]; omega)
  have hsplit : wid lv (m - 1) = 2 ^ (m - t) * widO (lv.take t) + wid (lv.drop t) (m - t - 1) := by
    conv => lhs; rw [← List.take_append_drop t lv]
    have hl : (lv.take t).length = t := by rw [List.length_take]; omega
    rw [wid_app _ _ _ (by rw [hl]; omega), hl]
    congr 1
    · unfold widO
      rw [hl]
      rcases t with _ | t
      · simp [wid]
      · have := wid_pow (lv.take (t + 1)) t (by rw [hl]; omega) (m - (t + 1))
        rw [show t + (m - (t + 1)) = m - 1 by omega] at this
        rw [this, Nat.add_sub_cancel]
    · congr 1
      omega
  rw [hw] at hsplit
  have hpm : 2 ^ (m - 1) * 2 = 2 ^ (m - t) * 2 ^ t := by
    rw [← Nat.pow_succ, ← Nat.pow_add]
    congr 1
    omega
  have e1 : (2 * N - 2) * 2 ^ (m - 1) + 2 ^ (m - t) * 2 ^ t = N * (2 ^ (m - t) * 2 ^ t) := by
    obtain ⟨q, rfl⟩ : ∃ q, N = q + 1 := ⟨N - 1, by omega⟩
    rw [show 2 * (q + 1) - 2 = q * 2 by omega, Nat.mul_assoc, Nat.mul_comm 2 (2 ^ (m - 1)), hpm, Nat.succ_mul]
  generalize hS : sumTo (fun i => 2 ^ (m - t - hits (lv.drop t) i)) (atL lv t) = S at hk ⊢
  generalize hD : wid (lv.drop t) (m - t - 1) = D at hk hsplit
  generalize hW : widO (lv.take t) = W at hsplit
  generalize hX : 2 ^ (m - t) = X at *
  have hXi : (2 : Int) ^ (m - t) = (X : Int) := by rw [← hX]; push_cast; rfl
  unfold opn
  rw [hXi, hW]
  have hYi : (2 : Int) ^ t = ((2 ^ t : Nat) : Int) := by push_cast; rfl
  rw [hYi]
  generalize 2 ^ t = Y at *
  rw [Int.mul_sub, Int.mul_add, Int.mul_add]
  have c1 : (X : Int) * W = ((X * W : Nat) : Int) := by push_cast; rfl
  have c2 : (X : Int) * Y = ((X * Y : Nat) : Int) := by push_cast; rfl
  have c3 : (X : Int) * (atL lv t : Int) = ((atL lv t * X : Nat) : Int) := by push_cast; rw [Int.mul_comm]
  have c4 : (X : Int) * ((N : Int) * Y) = ((N * (X * Y) : Nat) : Int) := by push_cast; rw [← Int.mul_assoc, Int.mul_comm (X : Int) N, Int.mul_assoc]
  rw [c1, c2, c3, c4]
  omega

theorem sumTo_le {f : Nat → Nat} {c : Nat} : ∀ n, (∀ i, i < n → f i ≤ c) → sumTo f n ≤ n * c
  | 0, _ => by simp [sumTo]
  | n + 1, h => by
    have h1 := sumTo_le n (fun i hi => h i (by omega))
    have h2 := h n (by omega)
    rw [sumTo, Nat.succ_mul]
    omega

theorem opn_succ (N : Nat) (lv : List Nat) (t : Nat) (ht : t < lv.length) : opn N lv (t + 1) = 2 * opn N lv t - ((atL lv t : Int) - atL lv (t + 1)) := by
  unfold opn
  have e : widO (lv.take (t + 1)) = 2 * widO (lv.take t) + atL lv t := by
    rw [List.take_succ_eq_append_getElem ht, widO_snoc]
    unfold atL
    rw [getD_get _ t ht]
  rw [e, Int.pow_succ, ← Int.mul_assoc]
  push_cast
  omega

structure OpnOk (N : Nat) (lv : List Nat) (t : Nat) : Prop where
  nonneg : 0 ≤ opn N lv t
  pos : 0 < atL lv t → 1 ≤ opn N lv t
  le : 0 < atL lv t → 2 * opn N lv t ≤ atL lv t
  zero : atL lv t = 0 → opn N lv t = 0
theorem opn_ok {N m : Nat} {lv : List Nat} (hm : 1 ≤ m) (hN : 1 ≤ N) (hL : Levels N lv) (hlen : lv.length ≤ m) (hw : wid lv (m - 1) = (2 * N - 2) * 2 ^ (m - 1)) (t : Nat) (ht : t ≤ lv.length) : OpnOk N lv t := by
  have h := opn_sum hm hN hL hlen hw t ht
  have hX : (0 : Int) < 2 ^ (m - t) := Int.pow_pos (by omega)
  obtain ⟨K, hK⟩ : ∃ K, opn N lv t = K := ⟨_, rfl⟩
  rw [hK] at h
  have nn : 0 ≤ K := by
    rcases Int.lt_or_le K 0 with hk | hk
    · have h1 : (2 : Int) ^ (m - t) * K < 0 := Int.mul_neg_of_pos_of_neg hX hk
      omega
    · exact hk
  suffices hall : (0 < atL lv t → 1 ≤ K) ∧ (0 < atL lv t → 2 * K ≤ atL lv t) ∧ (atL lv t = 0 → K = 0) by
    rw [← hK] at nn hall
    exact ⟨nn, hall.1, hall.2.1, hall.2.2⟩
  refine ⟨fun ha => ?_, fun ha => ?_, fun ha => ?_⟩
  · have h1 := sumTo_ge (f := fun i => 2 ^ (m - t - hits (lv.drop t) i)) (atL lv t) (fun i _ => Nat.one_le_two_pow)
    rcases Int.lt_or_le K 1 with hk | hk
    · obtain rfl : K = 0 := by omega
      rw [Int.mul_zero] at h
      omega
    · exact hk
  · have htm : t < m := by
      rcases Nat.lt_or_ge t lv.length with h2 | h2
      · omega
      · unfold atL at ha
        rw [List.getD_eq_getElem?_getD, List.getElem?_eq_none h2] at ha
        exact absurd ha (Nat.lt_irrefl _)
    have h1 := sumTo_le (f := fun i => 2 ^ (m - t - hits (lv.drop t) i)) (c := 2 ^ (m - t - 1)) (atL lv t) (fun i hi => Nat.pow_le_pow_right (by omega) (by have := hits_pos hi; omega))
    have e : (2 : Int) ^ (m - t) = 2 ^ (m - t - 1) * 2 := by rw [← Int.pow_succ]; congr 1; omega
    have hY : (0 : Int) < 2 ^ (m - t - 1) := Int.pow_pos (by omega)
    have h2 : ((sumTo (fun i => 2 ^ (m - t - hits (lv.drop t) i)) (atL lv t) : Nat) : Int) ≤ ((atL lv t * 2 ^ (m - t - 1) : Nat) : Int) := by exact_mod_cast h1
    rw [← h, e] at h2
    have h3 : (2 : Int) ^ (m - t - 1) * (2 * K) ≤ 2 ^ (m - t - 1) * (atL lv t : Int) := by
      have e2 : ((atL lv t * 2 ^ (m - t - 1) : Nat) : Int) = 2 ^ (m - t - 1) * (atL lv t : Int) := by push_cast; rw [Int.mul_comm]
      rw [e2, Int.mul_assoc] at h2
      exact h2
    exact Int.le_of_mul_le_mul_left h3 hY
  · rw [ha] at h
    simp only [sumTo] at h
    rcases Int.lt_or_le 0 K with hk | hk
    · have h1 : 0 < (2 : Int) ^ (m - t) * K := Int.mul_pos hX hk
      omega
    · omega

theorem costL_take_le (cs : List Int) (hl : ∀ x ∈ leavesP cs, 0 ≤ x.1) : ∀ (lv : List Nat) (t : Nat), costL cs (lv.take t) ≤ costL cs lv
  | [], t => by simp
  | a :: r, 0 => by
    have := costL_nonneg cs hl (a :: r)
    rw [List.take_zero]
    exact this
  | a :: r, t + 1 => by
    rw [List.take_succ_cons, costL, costL]
    have := costL_take_le cs hl r t
    omega

/-- The table follows the levels. -/
theorem table_path (cs : List Int) (N m : Nat) (lv : List Nat) (hl : ∀ x ∈ leavesP cs, 0 ≤ x.1) (rest : Nat → Int) (hr0 : ∀ i, 0 ≤ rest i) (hr : ∀ i, i ≤ N → rest i = pre (leavesP cs) (N - i))
    (hm : 1 ≤ m) (hN : 1 ≤ N) (hL : Levels N lv) (hlen : lv.length ≤ m) (hw : wid lv (m - 1) = (2 * N - 2) * 2 ^ (m - 1)) (h0 : atL lv 0 = N) :
    ∀ t, t ≤ lv.length → 0 < atL lv t → 0 ≤ (lvlT N rest t).next (N - atL lv t) (opn N lv t).toNat ∧ (lvlT N rest t).next (N - atL lv t) (opn N lv t).toNat ≤ costL cs (lv.take t)
  | 0, _, _ => by
    have e : opn N lv 0 = 1 := by unfold opn widO; rw [h0]; simp [wid]
    rw [e, h0, Nat.sub_self]
    show 0 ≤ tab0 0 1 ∧ tab0 0 1 ≤ 0
    decide
  | t + 1, ht, ha => by
    have hmono : atL lv (t + 1) ≤ atL lv t := by
      have := drop_levels hL t
      refine this.le _ ?_
      unfold atL
      rw [getD_get _ (t + 1) (by
        rcases Nat.lt_or_ge (t + 1) lv.length with h | h
        · exact h
        · unfold atL at ha; rw [List.getD_eq_getElem?_getD, List.getElem?_eq_none h] at ha; exact absurd ha (Nat.lt_irrefl _))]
      exact List.mem_drop_iff_getElem.2 ⟨1, by
        rcases Nat.lt_or_ge (t + 1) lv.length with h | h
        · omega
        · unfold atL at ha; rw [List.getD_eq_getElem?_getD, List.getElem?_eq_none h] at ha; exact absurd ha (Nat.lt_irrefl _), rfl⟩
    have ih := table_path cs N m lv hl rest hr0 hr hm hN hL hlen hw h0 t (by omega) (by omega)
    have o1 := opn_ok hm hN hL hlen hw t (by omega)
    have o2 := opn_ok hm hN hL hlen hw (t + 1) ht
    have os := opn_succ N lv t (by omega)
    have p1 := o1.pos (by omega)
    have l1 := o1.le (by omega)
    have p2 := o2.pos ha
    have l2 := o2.le ha
    have aN := atL_le hL t
    obtain ⟨s1, hf⟩ := stepL_hit N rest hr0 (lvlT N rest t) (N - atL lv t) (opn N lv t).toNat (atL lv t - atL lv (t + 1)) (by omega) (by omega) (by omega) (by omega) (by omega) ih.1
    have hmin : min (2 * (opn N lv t).toNat - (atL lv t - atL lv (t + 1))) N = (opn N lv (t + 1)).toNat := by omega
    have hix : N - atL lv t + (atL lv t - atL lv (t + 1)) = N - atL lv (t + 1) := by omega
    have hcost : 0 ≤ (lvlT N rest t).next (N - atL lv t) (opn N lv t).toNat + rest (N - atL lv t) := by have := hr0 (N - atL lv t); omega
    have hhit := stepW_next_hit N _ (N - atL lv t) (2 * (opn N lv t).toNat) (atL lv t - atL lv (t + 1)) s1 hcost (by rw [hmin]; omega) (by rw [hix]; omega) (by rw [hmin]; omega)
    rw [hix, hmin] at hhit
    have hfn := hf.next _ _ hhit.1
    have htk : costL cs (lv.take (t + 1)) = costL cs (lv.take t) + pre (leavesP cs) (atL lv t) := by
      have htl : t < lv.length := by omega
      rw [List.take_succ_eq_append_getElem htl, costL_snoc]
      unfold atL
      rw [getD_get _ t htl]
    have hrr := hr (N - atL lv t) (by omega)
    rw [show N - (N - atL lv t) = atL lv t by omega] at hrr
    refine ⟨hfn.1, Int.le_trans hfn.2 (Int.le_trans hhit.2 ?_)⟩
    rw [htk, hrr]
    omega

/-- The best is no more than the levels cost. -/
theorem table_best (cs : List Int) (N m : Nat) (lv : List Nat) (hl : ∀ x ∈ leavesP cs, 0 ≤ x.1) (rest : Nat → Int) (hr0 : ∀ i, 0 ≤ rest i) (hr : ∀ i, i ≤ N → rest i = pre (leavesP cs) (N - i))
    (hm : 1 ≤ m) (hN : 1 ≤ N) (hL : Levels N lv) (hlen : lv.length ≤ m) (hw : wid lv (m - 1) = (2 * N - 2) * 2 ^ (m - 1)) (h0 : atL lv 0 = N) :
    0 ≤ (lvlT N rest m).best ∧ (lvlT N rest m).best ≤ costL cs lv := by
  have up : ∀ d t, 0 ≤ (lvlT N rest t).best ∧ (lvlT N rest t).best ≤ costL cs lv → 0 ≤ (lvlT N rest (t + d)).best ∧ (lvlT N rest (t + d)).best ≤ costL cs lv := by
    intro d
    induction d with
    | zero => exact fun t h => h
    | succ d ih =>
      intro t h
      have h1 := ih t h
      have h2 := stepL_best N rest hr0 (lvlT N rest (t + d)) h1.1
      exact ⟨h2.1, Int.le_trans h2.2 h1.2⟩
  have go : ∀ d t, t + d = lv.length → 0 < atL lv t → 0 ≤ (lvlT N rest m).best ∧ (lvlT N rest m).best ≤ costL cs lv := by
    intro d
    induction d with
    | zero =>
      intro t ht ha
      unfold atL at ha
      rw [List.getD_eq_getElem?_getD, List.getElem?_eq_none (by omega)] at ha
      exact absurd ha (Nat.lt_irrefl _)
    | succ d ih =>
      intro t ht ha
      by_cases ha2 : 0 < atL lv (t + 1)
      · exact ih (t + 1) (by omega) ha2
      · have htl : t < lv.length := by omega
        have hp := table_path cs N m lv hl rest hr0 hr hm hN hL hlen hw h0 t (by omega) ha
        have o1 := opn_ok hm hN hL hlen hw t (by omega)
        have o2 := opn_ok hm hN hL hlen hw (t + 1) (by omega)
        have os := opn_succ N lv t htl
        have p1 := o1.pos ha
        have l1 := o1.le ha
        have z2 := o2.zero (by omega)
        have aN := atL_le hL t
        obtain ⟨s1, hf⟩ := stepL_hit N rest hr0 (lvlT N rest t) (N - atL lv t) (opn N lv t).toNat (atL lv t) (by omega) (by omega) (by omega) (by omega) (by omega) hp.1
        have hcost : 0 ≤ (lvlT N rest t).next (N - atL lv t) (opn N lv t).toNat + rest (N - atL lv t) := by have := hr0 (N - atL lv t); omega
        have hhit := stepW_best_hit N _ (N - atL lv t) (2 * (opn N lv t).toNat) (atL lv t) s1 hcost (by omega) (by omega)
        have hfb := hf.best hhit.1
        have htk : costL cs (lv.take (t + 1)) = costL cs (lv.take t) + pre (leavesP cs) (atL lv t) := by
          rw [List.take_succ_eq_append_getElem htl, costL_snoc]
          unfold atL
          rw [getD_get _ t htl]
        have hle := costL_take_le cs hl lv (t + 1)
        have hrr := hr (N - atL lv t) (by omega)
        rw [show N - (N - atL lv t) = atL lv t by omega] at hrr
        have h1 : 0 ≤ (lvlT N rest (t + 1)).best ∧ (lvlT N rest (t + 1)).best ≤ costL cs lv := by
          refine ⟨hfb.1, Int.le_trans hfb.2 (Int.le_trans hhit.2 ?_)⟩
          omega
        have h2 := up (m - (t + 1)) (t + 1) h1
        rwa [show t + 1 + (m - (t + 1)) = m by omega] at h2
  exact go lv.length 0 (by omega) (by rw [h0]; omega)

end Go.Proofs.Ytnoplhjbachjiaa.Mg
