/-
  Names: the reference's Clean answers cleanB.
-/
import Derived.Test.YtndfffningdcgaaDoorNmRefParts
import Derived.Test.YtndfffningdcgaaDoorNmCleanPure
import Derived.Test.YtndfffningdcgaaDoorNmRefCheck
import Derived.WalkSmall
import Derived.Deep.AppendLies
namespace Go.Proofs.YtndfffningdcgaaDoor.Nm
open Go.RowKit Go.Shelf
set_option linter.unusedVariables false
set_option linter.unusedSimpArgs false

theorem own_slice {w : World} {base n : Nat} {e : TypeId} {size : Nat} {v : Value} {xs : List Value} (h : w.ownsRow base e size v n xs) : ∃ A c, v = .slice A n c := by
  rcases h.2 with ⟨rfl, rfl⟩ | ⟨g, cap, cur, rfl, _⟩
  · exact ⟨none, 0, rfl⟩
  · exact ⟨_, cap, rfl⟩

theorem own_cell {w : World} {base n g cap : Nat} {e : TypeId} {xs : List Value} (h : w.ownsRow base e 1 (.slice (some ⟨g, 0, none⟩) n cap) n xs) (j : Nat) (v : Value) (hj : xs[j]? = some v) : w.cell? ⟨g, j, none⟩ = some v := by
  have := h.cells (g := g) rfl j v hj
  have hadd : (⟨g, 0, none⟩ : Addr).add j = ⟨g, j, none⟩ := by unfold Addr.add; split <;> simp_all
  rw [hadd] at this
  exact this

/-- What Clean hands back. -/
def resS (r : Option ByteArray) : ByteArray := r.getD ⟨#[]⟩

theorem strVs_get (l : List (List UInt8)) (k : Nat) (h : k < l.length) : (strVs l)[k]? = some (.string (mkS l[k])) := by
  unfold strVs
  rw [List.getElem?_map, List.getElem?_eq_getElem h]
  rfl

theorem cleanGo_drop (ps out : List (List UInt8)) (k : Nat) (h : k < ps.length) : cleanGo (ps.drop k) out = (cleanStep out ps[k]).bind fun o => cleanGo (ps.drop (k + 1)) o := by
  rw [List.drop_eq_getElem_cons h]
  rfl

theorem mkS_append (a b : List UInt8) : mkS a ++ mkS b = mkS (a ++ b) := by
  apply ByteArray.ext
  rw [ByteArray.data_append]
  simp [mkS]

theorem tot_take (l : List (List UInt8)) : ∀ m, tot (l.take m) ≤ tot l := by
  induction l with
  | nil => intro m; simp
  | cons x l ih =>
    intro m
    cases m with
    | zero => simp [tot]
    | succ m => simp only [List.take_succ_cons, tot]; have := ih m; omega

theorem joined_take_zero (l : List (List UInt8)) (h : 0 < l.length) : joined (l.take 1) = l[0] := by
  cases l with
  | nil => cases h
  | cons x l => simp [joined_one]

theorem joined_take_succ (l : List (List UInt8)) (m : Nat) (h : m < l.length) (h0 : 0 < m) : joined (l.take (m + 1)) = joined (l.take m) ++ [47] ++ l[m] := by
  rw [List.take_succ_eq_append_getElem h, joined_snoc _ _ (by intro e; have := congrArg List.length e; rw [List.length_take, List.length_nil] at this; omega)]
  simp

set_option maxHeartbeats 1000000 in
set_option maxRecDepth 100000 in
theorem pop_own {w : World} {base : Nat} {A : Option Addr} {c : Nat} {out : List (List UInt8)} (h : w.ownsRow base 9 1 (.slice A out.length c) out.length (strVs out)) (hne : out ≠ []) :
    ∃ g, A = some ⟨g, 0, none⟩ ∧ out.length ≤ c ∧ w.ownsRow base 9 1 (.slice (some ⟨g, 0, none⟩) (out.length - 1) c) (out.length - 1) (strVs out.dropLast) := by
  obtain ⟨g, cap, hv, _⟩ := h.form (List.length_pos_iff.2 hne)
  injection hv with h1 h2 h3
  subst h1
  subst h3
  have hc : out.length ≤ c := by
    rcases h.2 with ⟨h0, _⟩ | ⟨g', cap', cur, hv, _, _, hle, _⟩
    · cases h0
    · injection hv with _ _ h3; subst h3; exact hle
  rcases List.eq_nil_or_concat out with rfl | ⟨l, x, rfl⟩
  · exact absurd rfl hne
  · refine ⟨g, rfl, hc, ?_⟩
    have hl : (l.concat x).length = l.length + 1 := by simp
    rw [hl] at h ⊢
    rw [List.concat_eq_append] at h ⊢
    rw [strVs_snoc] at h
    rw [List.dropLast_append_of_ne_nil (by simp)]
    simp only [List.dropLast_singleton, List.append_nil, Nat.add_sub_cancel]
    exact ownsRow_pop (by simp [strVs]) h

set_option maxHeartbeats 4000000 in
set_option maxRecDepth 100000 in
theorem refclean_calls (s : ByteArray) (w : World) (hs : s.size ≤ 100000) :
    Calls Tryd.prog 16 #[.string s] w fun e w' => e = .returned (.tuple #[.string (resS (cleanB s)), .bool (cleanB s).isSome]) ∧ Below w.heap.size w w' := by
  obtain ⟨i0, hi, hz0, hz1, hz2⟩ := info_parts Tryd.infoStr
  obtain ⟨r1, r2, HR⟩ : ∃ r1 r2, r1 = resS (cleanB s) ∧ r2 = (cleanB s).isSome := ⟨_, _, rfl, rfl⟩
  rw [← HR.1, ← HR.2]
  have HRes := Lib.hid HR
  clear HR
  obtain ⟨PS, hPS⟩ : ∃ PS, PS = parts s.toList := ⟨_, rfl⟩
  have htot : Hid (tot PS = s.size + 1) := Lib.hid (by rw [hPS]; unfold parts; rw [tot_split, size_toList]; simp)
  have hlen : PS.length ≤ 100001 := by have := len_tot PS; rw [htot.out] at this; omega
  have HPS := Lib.hid hPS
  go_enter Tryd.func16, Tryd.ntmps16
  go_wp2_with (go_at_call 18; refine (refparts_calls _ _ (by omega)).mono ?_; rintro e w1 ⟨v4, rfl, hl, hb⟩)
  rw [← hPS] at hl
  clear hPS
  have hpos : 0 < PS.length := by
    have := splitGo_ne s.toList []
    have e := HPS.out
    unfold parts at e
    rw [← e] at this
    exact List.length_pos_iff.2 this
  obtain ⟨g, cap, rfl, hg1, hg2⟩ := hl.form hpos
  have HL := Lib.hid hl
  have HB0 := Lib.hid hb
  have hbz := hb.size
  clear hl hb
  go_wp2
  go_loopw [5, 6] (fun v i wr => ∃ (k : Nat) (out : List (List UInt8)), k ≤ PS.length ∧ i = .int .i64 k ∧ wr.ownsRow w1.heap.size 9 1 v out.length (strVs out) ∧ tot out + tot (PS.drop k) ≤ s.size + 1 ∧
    cleanGo PS [] = cleanGo (PS.drop k) out ∧ Below w1.heap.size w1 wr) (fun _ i _ => PS.length - (intOf i).toNat)
  case atStart => exact ⟨0, [], Nat.zero_le _, rfl, World.ownsRow_nil _ _ _ _, by rw [List.drop_zero, htot.out]; simp [tot], rfl, Below.refl _ _⟩
  case round =>
    obtain ⟨k, out, hk, rfl, hown, ht, hcg, hb⟩ := hrel
    have HT := Lib.hid ht
    have HG := Lib.hid hcg
    have HB := Lib.hid hb
    have hB1 := hb.size
    have hol : out.length ≤ 100001 := by have := len_tot out; omega
    obtain ⟨A, c, rfl⟩ := own_slice hown
    clear ht hcg hb
    by_cases hlt : k < PS.length
    · have q1 : decide ((k : Int) < (PS.length : Int)) = true := decide_eq_true (by omega)
      have hcell : wr.cell? ⟨g, k, none⟩ = some (.string (mkS PS[k])) := by
        rw [HB.out.cell (p := ⟨g, k, none⟩) hg2]
        exact own_cell HL.out k _ (strVs_get PS k hlt)
      have HS := Lib.hid (cleanGo_drop PS out k hlt)
      have HTd : Hid (tot (PS.drop k) = PS[k].length + 1 + tot (PS.drop (k + 1))) := Lib.hid (by rw [List.drop_eq_getElem_cons hlt]; rfl)
      obtain ⟨p, hp⟩ : ∃ p, p = PS[k] := ⟨_, rfl⟩
      rw [← hp] at hcell HS HTd
      have hmk : (mkS p).toList = p := mkS_toList p
      have hps : (mkS p).size ≤ 100001 := by
        rw [mkS_size]
        have := HT.out
        rw [HTd.out] at this
        omega
      obtain ⟨P, hP⟩ : ∃ P, P = mkS p := ⟨_, rfl⟩
      rw [← hP] at hcell hmk hps
      have HP := Lib.hid hP
      have HM := Lib.hid hmk
      clear hp hP hmk
      by_cases e2 : p = [46, 46]
      · have t2 : (P.toList == [46, 46]) = true := by rw [HM.out, e2]; rfl
        by_cases e0 : out = []
        · have HQ : Hid (cleanGo PS [] = none) := Lib.hid (by rw [HG.out, HS.out]; unfold cleanStep; rw [if_pos e2, if_pos e0]; rfl)
          have HQ2 : Hid (r1 = ⟨#[]⟩ ∧ r2 = false) := Lib.hid (by
            rw [HRes.out.1, HRes.out.2]
            unfold cleanB
            rw [← HPS.out, HQ.out]
            exact ⟨rfl, rfl⟩)
          have t3 : ((out.length : Int) == 0) = true := by rw [e0]; rfl
          obtain ⟨n, hn⟩ : ∃ n, n = out.length := ⟨_, rfl⟩
          have hown2 := Lib.hid hown
          have hAn : ∃ n : Nat, out.length = n := ⟨_, rfl⟩
          clear e2 e0 hn hAn
          have hv : (Value.slice A out.length c = .slice A out.length c) := rfl
          clear hv
          go_wp2
          go_ret2
          exact ⟨by rw [HQ2.out.1, HQ2.out.2] <;> rfl, HB0.out.trans (HB.out.mono hbz)⟩
        · have HQ : Hid (cleanGo PS [] = cleanGo (PS.drop (k + 1)) out.dropLast) := Lib.hid (by rw [HG.out, HS.out]; unfold cleanStep; rw [if_pos e2, if_neg e0]; rfl)
          have hpo : 0 < out.length := List.length_pos_iff.2 e0
          have t3 : ((out.length : Int) == 0) = false := by rw [beq_eq_false_iff_ne]; omega
          obtain ⟨g', rfl, hlc, hown2⟩ := pop_own hown e0
          have HO := Lib.hid hown2
          have hsub : wrap64 ((out.length : Int) - 1) = ((out.length - 1 : Nat) : Int) := by unfold wrap64; omega
          have hdl := tot_dropLast out
          have hdn : out.dropLast.length = out.length - 1 := List.length_dropLast
          have HDN := Lib.hid hdn
          have HDT : Hid (tot out.dropLast + tot (PS.drop (k + 1)) ≤ s.size + 1) := Lib.hid (by have := HT.out; rw [HTd.out] at this; omega)
          obtain ⟨n, hn⟩ : ∃ n, out.length = n + 1 := ⟨out.length - 1, by omega⟩
          have HNn := Lib.hid hn
          clear e2 e0 hown hown2 hdl hdn
          go_wp2
          go_roundw
          case rel => exact ⟨k + 1, out.dropLast, by omega, by go_num, by
            have e : out.length - 1 = n := by have := HNn.out; omega
            have h := HO.out
            rw [HDN.out]
            rw [e] at h ⊢
            exact h, HDT.out, HQ.out, HB.out⟩
          case measure => simp [intOf]; omega
      · have t2 : (P.toList == [46, 46]) = false := by rw [HM.out]; simpa using e2
        by_cases e3 : p = []
        · have t3 : P.toList.isEmpty = true := by rw [HM.out, e3]; rfl
          have t4 : P.toList = [] := by rw [HM.out, e3]
          have HQ : Hid (cleanGo PS [] = cleanGo (PS.drop (k + 1)) out) := Lib.hid (by rw [HG.out, HS.out]; unfold cleanStep; rw [if_neg e2, if_pos (.inl e3)]; rfl)
          have HO := Lib.hid hown
          have HDT : Hid (tot out + tot (PS.drop (k + 1)) ≤ s.size + 1) := Lib.hid (by have := HT.out; rw [HTd.out] at this; omega)
          clear e2 e3 hown
          go_wp2
          go_roundw
          case rel => exact ⟨k + 1, out, by omega, by go_num, HO.out, HDT.out, HQ.out, HB.out⟩
          case measure => simp [intOf]; omega
        · have t3 : P.toList.isEmpty = false := by rw [HM.out]; simpa using e3
          have t4 : ¬ P.toList = [] := by rw [HM.out]; exact e3
          by_cases e4 : p = [46]
          · have t5 : (P.toList == [46]) = true := by rw [HM.out, e4]; rfl
            have t6 : (P.toList != [46]) = false := by rw [HM.out, e4]; rfl
            have HQ : Hid (cleanGo PS [] = cleanGo (PS.drop (k + 1)) out) := Lib.hid (by rw [HG.out, HS.out]; unfold cleanStep; rw [if_neg e2, if_pos (.inr e4)]; rfl)
            have HO := Lib.hid hown
            have HDT : Hid (tot out + tot (PS.drop (k + 1)) ≤ s.size + 1) := Lib.hid (by have := HT.out; rw [HTd.out] at this; omega)
            clear e2 e3 e4 hown
            go_wp2
            go_roundw
            case rel => exact ⟨k + 1, out, by omega, by go_num, HO.out, HDT.out, HQ.out, HB.out⟩
            case measure => simp [intOf]; omega
          · have t5 : (P.toList == [46]) = false := by rw [HM.out]; simpa using e4
            have t6 : (P.toList != [46]) = true := by rw [HM.out]; simpa using e4
            have HQ : Hid (cleanGo PS [] = cleanGo (PS.drop (k + 1)) (out ++ [p])) := Lib.hid (by rw [HG.out, HS.out]; unfold cleanStep; rw [if_neg e2, if_neg (by simp [e3, e4])]; rfl)
            have HDT : Hid (tot (out ++ [p]) + tot (PS.drop (k + 1)) ≤ s.size + 1) := Lib.hid (by have := HT.out; rw [HTd.out] at this; rw [tot_append]; simp only [tot]; omega)
            clear e2 e3 e4
            go_wp2_with (at_builtin; refine wpList_append_own _ rfl _ _ 29 rfl w1.heap.size 9 i0 (.string ⟨#[]⟩) 1 16 Tryd.underlying29 hi hz0 hz1 hz2 rfl (by decide) _ _ _ rfl (hown.alloc _) ⟨wr.heap.size, 0, none⟩ 1 1 [.string P] rfl rfl ?c1 ?c2 ?c3 ?c4 ?c5 ?_)
            case c1 => exact cell_one_new _ _ _
            case c2 => simp [Value.oneCell']
            case c3 => unfold maxLen; omega
            case c4 => omega
            case c5 => simp; omega
            intro v' w2 hown1 hg1 _
            have HO : Hid (w2.ownsRow w1.heap.size 9 1 v' (out ++ [p]).length (strVs (out ++ [p]))) := Lib.hid (by rw [strVs_snoc, List.length_append]; show w2.ownsRow w1.heap.size 9 1 v' (out.length + 1) (strVs out ++ [.string (mkS p)]); rw [← HP.out]; exact hown1)
            have HB2 : Hid (Below w1.heap.size w1 w2) := Lib.hid ((HB.out.alloc hB1 _).grown hg1 (by simp; omega) (fun r e => (hown.lt r e).1))
            clear hown hown1 hg1
            go_wp2
            go_roundw
            case rel => exact ⟨k + 1, out ++ [p], by omega, by go_num, HO.out, HDT.out, HQ.out, HB2.out⟩
            case measure => simp [intOf]; omega
    · have HF : Hid (cleanGo PS [] = some out) := Lib.hid (by rw [HG.out, List.drop_eq_nil_of_le (by omega)]; rfl)
      have hto : tot out ≤ 100001 := by have := HT.out; omega
      have HO := Lib.hid hown
      have q1 : ¬ k < PS.length := hlt
      clear hg1
      go_wp2
      go_loop [7, 8] (fun p i => ∃ m : Nat, m ≤ out.length ∧ i = .int .i64 m ∧ p = .string (mkS (joined (out.take m)))) (fun _ i => out.length - (intOf i).toNat)
      case atStart => exact ⟨0, Nat.zero_le _, rfl, rfl⟩
      case round =>
        obtain ⟨m, hm, rfl, rfl⟩ := hrel
        have hTz : (mkS (joined (out.take m))).size ≤ 100001 := by
          rw [mkS_size]
          have h1 := joined_tot (out.take m)
          have h2 := tot_take out m
          omega
        obtain ⟨T, hT⟩ : ∃ T, T = mkS (joined (out.take m)) := ⟨_, rfl⟩
        rw [← hT] at hTz ⊢
        have HTT := Lib.hid hT
        clear hT
        by_cases hml : m < out.length
        · obtain ⟨g', cap', hv, _, hg'⟩ := HO.out.form (by omega)
          injection hv with e1 e2 e3
          subst e1
          have hcm : wr.cell? ⟨g', m, none⟩ = some (.string (mkS out[m])) := own_cell (by rw [e3] at HO; exact HO.out) m _ (strVs_get out m hml)
          have hXz : (mkS out[m]).size ≤ 100001 := by
            rw [mkS_size]
            have h1 := tot_take out (m + 1)
            rw [List.take_succ_eq_append_getElem hml, tot_append] at h1
            simp only [tot] at h1
            omega
          obtain ⟨X, hX⟩ : ∃ X, X = mkS out[m] := ⟨_, rfl⟩
          rw [← hX] at hcm hXz
          have HXX := Lib.hid hX
          clear hX e2 e3
          by_cases hm0 : 0 < m
          · have q2 : decide ((0 : Int) < (m : Int)) = true := decide_eq_true (by omega)
            have HN : Hid (T ++ ⟨#[47]⟩ ++ X = mkS (joined (out.take (m + 1)))) := Lib.hid (by
              rw [HTT.out, HXX.out, joined_take_succ out m hml hm0]
              show mkS _ ++ mkS [47] ++ mkS _ = _
              rw [mkS_append, mkS_append])
            have hcz : (T ++ ⟨#[47]⟩).size ≤ 100002 := by rw [ByteArray.size_append]; show T.size + 1 ≤ _; omega
            go_wp2
            go_round
            case rel => exact ⟨m + 1, by omega, by go_num, by rw [← HN.out]⟩
            case measure => simp [intOf]; omega
          · have q2 : decide ((0 : Int) < (m : Int)) = false := decide_eq_false (by omega)
            have HN : Hid (T ++ X = mkS (joined (out.take (m + 1)))) := Lib.hid (by
              obtain rfl : m = 0 := by omega
              rw [HTT.out, HXX.out, joined_take_zero out hml]
              show mkS [] ++ mkS _ = _
              rw [mkS_append]
              rfl)
            go_wp2
            go_round
            case rel => exact ⟨m + 1, by omega, by go_num, by rw [← HN.out]⟩
            case measure => simp [intOf]; omega
        · have HJ : Hid (T = mkS (joined out)) := Lib.hid (by rw [HTT.out, List.take_of_length_le (by omega)])
          cases hc : checkB T with
          | true =>
            have HQ2 : Hid (r1 = T ∧ r2 = true) := Lib.hid (by
              rw [HRes.out.1, HRes.out.2]
              unfold cleanB
              rw [← HPS.out, HF.out]
              simp only [Option.bind_some]
              rw [← HJ.out, hc]
              exact ⟨rfl, rfl⟩)
            go_wp2_with (go_at_call 10; refine (refcheck_calls _ _ (by omega)).mono ?_; rintro e w' ⟨rfl, rfl⟩)
            go_ret2
            exact ⟨by rw [HQ2.out.1, HQ2.out.2] <;> rfl, HB0.out.trans (HB.out.mono hbz)⟩
          | false =>
            have HQ2 : Hid (r1 = ⟨#[]⟩ ∧ r2 = false) := Lib.hid (by
              rw [HRes.out.1, HRes.out.2]
              unfold cleanB
              rw [← HPS.out, HF.out]
              simp only [Option.bind_some]
              rw [← HJ.out, hc]
              exact ⟨rfl, rfl⟩)
            go_wp2_with (go_at_call 10; refine (refcheck_calls _ _ (by omega)).mono ?_; rintro e w' ⟨rfl, rfl⟩)
            go_ret2
            exact ⟨by rw [HQ2.out.1, HQ2.out.2] <;> rfl, HB0.out.trans (HB.out.mono hbz)⟩

end Go.Proofs.YtndfffningdcgaaDoor.Nm
