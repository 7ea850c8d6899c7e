/-
  The reference of layer 3: the symbol whose word a text begins with; layer 7: the next symbol.
-/
import Derived.Test.YtmpokiflhijnoaaDoorRfWords
namespace Go.Proofs.YtmpokiflhijnoaaDoor.Rf
open Go.RowKit Go.Shelf Go.Proofs.YtmpokiflhijnoaaDoor.Mg Go.Proofs.YtmpokiflhijnoaaDoor.Bw Go.Proofs.YtmpokiflhijnoaaDoor.Bk Go.Proofs.YtmpokiflhijnoaaDoor.Cn Go.Proofs.YtmpokiflhijnoaaDoor.Zp
set_option linter.unusedVariables false
set_option linter.unusedSimpArgs false

theorem txt_extract (bs : List Bool) (k : Nat) (h : k ≤ bs.length) : (txt bs).extract 0 k = txt (bs.take k) := by
  apply ByteArray.ext
  apply Array.ext'
  unfold txt
  rw [ByteArray.data_extract, Array.toList_extract, strOfNums_data, strOfNums_data, List.map_take, List.map_take]
  simp
theorem str_list (b : ByteArray) : b.toList = b.data.toList := Lib.toList_data b
theorem str_ne {a b : ByteArray} (h : a ≠ b) : (a.toList == b.toList) = false := beq_eq_false_iff_ne.2 (fun e => h (ByteArray.ext (Array.ext' (by rw [str_list, str_list] at e; exact e))))
theorem str_eq {a b : ByteArray} (h : a = b) : (a.toList == b.toList) = true := by rw [h]; exact beq_self_eq_true _
theorem str_some {b : ByteArray} (h : 0 < b.size) : b.toList.isEmpty = false := by
  rw [str_list, List.isEmpty_eq_false_iff]
  intro e
  have h1 : b.data.toList.length = 0 := by rw [e]; rfl
  have h2 : b.size = b.data.toList.length := rfl
  omega
/-- The symbol s is the first one whose word begins the bits bs. -/
def First (ls : List Int) (bs : List Bool) (s : Nat) : Prop := s < ls.length ∧ 0 < ls.getD s 0 ∧ wordB ls s <+: bs ∧ ∀ t, t < s → wordB ls t = [] ∨ ¬ wordB ls t <+: bs

set_option maxHeartbeats 2000000 in
set_option maxRecDepth 100000 in
theorem find_calls (B n : Nat) (ls : List Int) (bs : List Bool) (s : Nat) (w : World) (hB : RowS w B n (fun t => txt (wordB ls t))) (hn : ls.length = n) (hl : n ≤ 288) (hb : bs.length ≤ 1000) (hF : First ls bs s) (hne : wordB ls s ≠ []) :
    Calls Tryd.prog 89 #[.slice (some ⟨B, 0, none⟩) n n, .string (txt bs)] w fun e w' => e = .returned (.int .i64 s) ∧ w' = w := by
  obtain ⟨h1, h2, h3, h4⟩ := hF
  have HR := Lib.hid hB
  have H3 := Lib.hid h3
  have H4 := Lib.hid h4
  have HNE := Lib.hid hne
  have hsn : s < n := by omega
  have hbl := txt_size bs
  obtain ⟨T, hT⟩ : ∃ T, txt bs = T := ⟨_, rfl⟩
  have HT := Lib.hid hT
  have HEX := Lib.hid (fun k h => txt_extract bs k h)
  rw [hT] at hbl HEX ⊢
  clear hB h2 h3 h4 hne hn h1 hT
  go_enter Tryd.func89, Tryd.ntmps89
  go_wp2
  go_loop [5, 6] (fun vm vi => ∃ (k : Nat) (m : Bool), k ≤ s ∧ vi = .int .i64 k ∧ vm = .bool m) (fun _ vi => s + 1 - (intOf vi).toNat)
  case atStart => exact ⟨0, false, Nat.zero_le _, rfl, rfl⟩
  case round =>
    obtain ⟨k, m, hk, rfl, rfl⟩ := hrel
    have q1 : decide ((k : Int) < (n : Int)) = true := decide_eq_true (by omega)
    have q1' : decide (k < n) = true := decide_eq_true (by omega)
    obtain ⟨hc, _⟩ := HR.out.cell k (by omega)
    have i0 : (0 : Int) ≤ (k : Int) := by omega
    have i1 : (k : Int) < (n : Int) := by omega
    have hws := txt_size (wordB ls k)
    have hwl := wordB_le ls k
    obtain ⟨wk, hwk⟩ : ∃ wk, wordB ls k = wk := ⟨_, rfl⟩
    have HWK := Lib.hid hwk
    rw [hwk] at hc hws hwl
    clear hwk
    by_cases hw0 : wk = []
    · subst hw0
      have hks : k < s := by
        rcases Nat.lt_or_ge k s with h | h
        · exact h
        · obtain rfl : k = s := by omega
          exact absurd HWK.out HNE.out
      rw [txt_nil] at hc
      clear hws
      go_wp2
      go_round
      case rel => exact ⟨k + 1, m, by omega, by go_num, rfl⟩
      case measure => simp [intOf]; omega
    · have hp : 0 < wk.length := List.length_pos_iff.2 hw0
      obtain ⟨W, hW⟩ : ∃ W, txt wk = W := ⟨_, rfl⟩
      have HW := Lib.hid hW
      rw [hW] at hc hws
      have hq := str_some (b := W) (by omega)
      have hws2 : (W.size : Int) = (wk.length : Int) := by omega
      have hbl2 : (T.size : Int) = (bs.length : Int) := by omega
      clear hW
      by_cases hle : wk.length ≤ bs.length
      · have q2 : decide ((W.size : Int) ≤ (T.size : Int)) = true := decide_eq_true (by omega)
        have q2' : decide (W.size ≤ T.size) = true := decide_eq_true (by omega)
        have q3 : decide ((T.size : Int) < (W.size : Int)) = false := decide_eq_false (by omega)
        have q3' : decide (T.size < W.size) = false := decide_eq_false (by omega)
        have hx := HEX.out wk.length hle
        have z0 : (0 : Int) ≤ (wk.length : Int) := by omega
        have z1 : (wk.length : Int) ≤ (bs.length : Int) := by omega
        have z2 : decide ((wk.length : Int) ≤ (bs.length : Int)) = true := decide_eq_true z1
        have z3 : decide (wk.length ≤ bs.length) = true := decide_eq_true hle
        have z4 : decide ((bs.length : Int) < (wk.length : Int)) = false := decide_eq_false (by omega)
        have z5 : decide (bs.length < wk.length) = false := decide_eq_false (by omega)
        obtain ⟨X, hX⟩ : ∃ X, T.extract 0 wk.length = X := ⟨_, rfl⟩
        rw [hX] at hx
        rcases Nat.lt_or_ge k s with hks | hks
        · have hne2 := str_ne (a := X) (b := W) (fun e => by
            have h1 : txt (bs.take wk.length) = txt wk := by rw [← hx, e, HW.out]
            have h2 := txt_inj h1
            rcases H4.out k hks with h3 | h3
            · rw [HWK.out] at h3; exact hw0 h3
            · rw [HWK.out] at h3
              exact h3 (by rw [← h2]; exact List.take_prefix _ _))
          clear hx hws2 hbl2
          go_wp2
          go_round
          case rel => exact ⟨k + 1, m, by omega, by go_num, rfl⟩
          case measure => simp [intOf]; omega
        · obtain rfl : k = s := by omega
          have heq := str_eq (a := X) (b := W) (by
            rw [hx, ← HW.out]
            congr 1
            have h3 := H3.out
            rw [HWK.out] at h3
            exact (List.prefix_iff_eq_take.1 h3).symm)
          clear hx hws2 hbl2
          go_wp2
          go_ret
          exact ⟨rfl, rfl⟩
      · have hks : k < s := by
          rcases Nat.lt_or_ge k s with h | h
          · exact h
          · obtain rfl : k = s := by omega
            exfalso
            have h3 := H3.out
            rw [HWK.out] at h3
            exact hle h3.length_le
        have z2 : decide ((wk.length : Int) ≤ (bs.length : Int)) = false := decide_eq_false (by omega)
        have z3 : decide (wk.length ≤ bs.length) = false := decide_eq_false hle
        have z4 : decide ((bs.length : Int) < (wk.length : Int)) = true := decide_eq_true (by omega)
        have z5 : decide (bs.length < wk.length) = true := decide_eq_true (by omega)
        have z0 : (0 : Int) ≤ (bs.length : Int) := by omega
        have z1 : (bs.length : Int) ≤ (wk.length : Int) := by omega
        obtain ⟨X, hX⟩ : ∃ X, W.extract 0 bs.length = X := ⟨_, rfl⟩
        clear hws2 hbl2
        cases hm2 : (X.toList == T.toList) with
        | true =>
          go_wp2
          go_round
          case rel => exact ⟨k + 1, true, by omega, by go_num, rfl⟩
          case measure => simp [intOf]; omega
        | false =>
          go_wp2
          go_round
          case rel => exact ⟨k + 1, m, by omega, by go_num, rfl⟩
          case measure => simp [intOf]; omega

theorem word_ne {ls : List Int} {s : Nat} (hin : ∀ x ∈ ls, 0 ≤ x ∧ x ≤ 15) (hp : 0 < ls.getD s 0) : wordB ls s ≠ [] := fun e => by
  have h := wordB_len ls s hin
  have h2 : (wordB ls s).length = 0 := by rw [e]; rfl
  omega
theorem first_of {ls : List Int} {s : Nat} {rest : List Bool} (hs : s < ls.length) (hin : ∀ x ∈ ls, 0 ≤ x ∧ x ≤ 15) (htot : tot 15 ls ≤ 2 ^ 15) (hp : 0 < ls.getD s 0) : First ls ((wordB ls s ++ rest).take 15) s := by
  have hl := wordB_le ls s
  refine ⟨hs, hp, ?_, fun t ht => ?_⟩
  · rw [List.take_append]
    rw [List.take_of_length_le hl]
    exact List.prefix_append _ _
  · by_cases hz : wordB ls t = []
    · exact .inl hz
    · refine .inr (fun hpre => ?_)
      have hpt : 0 < ls.getD t 0 := by
        rcases Int.lt_or_le 0 (ls.getD t 0) with h | h
        · exact h
        · exfalso
          have h2 := wordB_len ls t hin
          have h3 : 0 < (wordB ls t).length := List.length_pos_iff.2 hz
          omega
      have h1 : wordB ls t <+: wordB ls s ++ rest := hpre.trans (List.take_prefix _ _)
      have htl : t < ls.length := by omega
      rcases Nat.le_total (wordB ls t).length (wordB ls s).length with h2 | h2
      · have := word_prefix ls t s htl hs hin htot hpt hp rest h1 h2
        omega
      · have h3 : wordB ls s <+: wordB ls t := List.prefix_of_prefix_length_le (List.prefix_append _ rest) h1 h2
        have := word_prefix ls s t hs htl hin htot hp hpt [] (by rw [List.append_nil]; exact h3) h2
        omega

set_option maxHeartbeats 2000000 in
set_option maxRecDepth 100000 in
/-- The next symbol, where it is told. -/
theorem next_calls (A : Option Addr) (c B n : Nat) (ls : List Int) (bs rest : List Bool) (at' s : Nat) (w : World) (hA : BitsAt w A bs) (hB : RowS w B n (fun t => txt (wordB ls t))) (hn : ls.length = n) (hl : n ≤ 288) (hb : bs.length ≤ 1000000000) (ha : at' ≤ 1000000000)
    (hin : ∀ x ∈ ls, 0 ≤ x ∧ x ≤ 15) (htot : tot 15 ls ≤ 2 ^ 15) (hs : s < n) (hp : 0 < ls.getD s 0) (hd : bs.drop at' = wordB ls s ++ rest) :
    Calls Tryd.prog 76 #[.slice A bs.length c, .int .i64 at', .slice (some ⟨B, 0, none⟩) n n] w fun e w' => e = .returned (.tuple #[.int .i64 s, .int .i64 ((at' + (wordB ls s).length : Nat) : Int), .int .i64 0]) ∧ Below w.heap.size w w' := by
  have HT := Lib.hid (text_calls A c bs at' 15 w hA (by omega) (by omega) (by omega))
  rw [hd] at HT
  have HF := Lib.hid (fun (W : World) (h : RowS W B n (fun t => txt (wordB ls t))) => find_calls B n ls _ s W h hn hl (by rw [List.length_take]; omega) (first_of (rest := rest) (by omega) hin htot hp) (word_ne hin hp))
  have HR := Lib.hid hB
  have hwl := wordB_le ls s
  have hws := txt_size (wordB ls s)
  obtain ⟨wl, hwl2⟩ : ∃ wl, (wordB ls s).length = wl := ⟨_, rfl⟩
  rw [hwl2] at hwl hws ⊢
  obtain ⟨L, hL⟩ : ∃ L, bs.length = L := ⟨_, rfl⟩
  rw [hL] at HT hb ⊢
  generalize txt ((wordB ls s ++ rest).take 15) = T at *
  have e1 : ((s : Int) == -2) = false := beq_eq_false_iff_ne.2 (by omega)
  have e2 : ((s : Int) == -1) = false := beq_eq_false_iff_ne.2 (by omega)
  clear hA hB hin htot hp hd hwl2 hL
  go_enter Tryd.func76, Tryd.ntmps76
  go_wp2_with fail
  refine HT.out.mono ?_
  rintro e w1 ⟨rfl, hb1⟩
  have HB1 := Lib.hid hb1
  have HR1 := Lib.hid (HR.out.below hb1)
  clear hb1
  go_wp2_with fail
  refine (HF.out w1 HR1.out).mono ?_
  rintro e w2 ⟨rfl, rfl⟩
  obtain ⟨hc, _⟩ := HR1.out.cell s hs
  have i0 : (0 : Int) ≤ (s : Int) := by omega
  have i1 : (s : Int) < (n : Int) := by omega
  go_wp2_with fail
  go_quiet (fail)
  generalize hW : World.drewN _ _ = w3
  have HB3 : Hid (Below w.heap.size w w3) := Lib.hid (by rw [← hW]; exact below_drewN HB1.out _)
  clear hW
  go_wp2
  go_ret3
  exact ⟨by simp, HB3.out⟩
end Go.Proofs.YtmpokiflhijnoaaDoor.Rf
