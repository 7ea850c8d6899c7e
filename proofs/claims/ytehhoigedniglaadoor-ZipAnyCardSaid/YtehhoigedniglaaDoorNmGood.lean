/-
  Names: the reference's Good answers goodB, for every text.
-/
import Derived.Test.YtehhoigedniglaaDoorProg
import Derived.Test.YtehhoigedniglaaDoorNmSign
import Derived.WalkKit
import Derived.WalkLawsBesides
import Derived.WalkSpells
import Derived.Below
import Derived.Lib.Hide
import Derived.Deep.DeepCutAuto
namespace Go.Proofs.YtehhoigedniglaaDoor.Nm
open Go.RowKit
set_option linter.unusedVariables false
set_option linter.unusedSimpArgs false

theorem pv_range (s : ByteArray) (i : Nat) (v : Int) (h0 : 0 ≤ v) (h1 : v < 128) : ∀ k, k ≤ 3 → (∀ j, 1 ≤ j → j ≤ k → 128 ≤ byt s (i + j) ∧ byt s (i + j) < 192) → 0 ≤ pv s i v (k + 1) ∧ pv s i v (k + 1) < 128 * 64 ^ k := by
  intro k hk hc
  have b : ∀ j, 1 ≤ j → j ≤ k → 128 ≤ byt s (i + j) ∧ byt s (i + j) < 192 := hc
  match k with
  | 0 => simp [pv]; omega
  | 1 => have := b 1 (by omega) (by omega); simp only [pv, Nat.zero_add]; omega
  | 2 => have := b 1 (by omega) (by omega); have := b 2 (by omega) (by omega); simp only [pv, Nat.zero_add, Nat.reduceAdd]; omega
  | 3 => have := b 1 (by omega) (by omega); have := b 2 (by omega) (by omega); have := b 3 (by omega) (by omega); simp only [pv, Nat.zero_add, Nat.reduceAdd]; omega
  | k + 4 => omega

theorem pv_succ (s : ByteArray) (i : Nat) (v : Int) (m : Nat) (h : 1 ≤ m) : pv s i v (m + 1) = 64 * pv s i v m + (byt s (i + m) : Int) - 128 := by
  obtain ⟨q, rfl⟩ : ∃ q, m = q + 1 := ⟨m - 1, by omega⟩
  rfl

theorem class_range {c n : Nat} {v least : Int} (h : Class c n v least) : 1 ≤ n ∧ n ≤ 4 ∧ 0 ≤ v ∧ v < 128 ∧ 0 ≤ least ∧ least ≤ 65536 := by
  unfold Class at h
  omega

theorem goodGo_stop (s : ByteArray) (f i : Nat) (h : i < s.size) (hb : okSign s i = false) : goodGo (f + 1) s i = false := by
  unfold goodGo
  rw [if_pos h, hb]
  rfl

theorem goodGo_on (s : ByteArray) (f i n : Nat) (h : i < s.size) (hb : okSign s i = true ∧ (Utf8.decode s i).2 = n) : goodGo (f + 1) s i = goodGo f s (i + n) := by
  conv => lhs; unfold goodGo
  rw [if_pos h, hb.1, hb.2]
  rfl

theorem goodGo_end (s : ByteArray) (f i : Nat) (h : ¬ i < s.size) : goodGo f s i = true := by
  cases f with
  | zero => rfl
  | succ f => unfold goodGo; rw [if_neg h]

theorem goodGo_more (s : ByteArray) : ∀ (f g i : Nat), s.size ≤ i + f → s.size ≤ i + g → goodGo f s i = goodGo g s i
  | 0, g, i, h, h' => by rw [goodGo_end s 0 i (by omega), goodGo_end s g i (by omega)]
  | f + 1, 0, i, h, h' => by rw [goodGo_end s 0 i (by omega), goodGo_end s _ i (by omega)]
  | f + 1, g + 1, i, h, h' => by
    unfold goodGo
    by_cases hi : i < s.size
    · rw [if_pos hi, if_pos hi]
      by_cases hb : okSign s i = true
      · rw [if_pos hb, if_pos hb]
        have hw : 1 ≤ (Utf8.decode s i).2 := by
          unfold Utf8.decode
          dsimp only
          repeat' split
          all_goals simp
        exact goodGo_more s f g _ (by omega) (by omega)
      · rw [if_neg hb, if_neg hb]
    · rw [if_neg hi, if_neg hi]

set_option maxHeartbeats 600000 in
set_option maxRecDepth 100000 in
theorem good_calls (s : ByteArray) (w : World) (hs : s.size ≤ 140737488351232) :
    Calls Tryd.prog 39 #[.string s] w fun e w' => e = .returned (.bool (goodB s)) ∧ w = w' := by
  obtain ⟨ANS, HA⟩ : ∃ b, b = goodB s := ⟨_, rfl⟩
  rw [← HA]
  have HB := Lib.hid HA
  clear HA
  go_enter Tryd.func39, Tryd.ntmps39
  go_wp2
  go_loop [3] (fun i => ∃ k : Nat, k ≤ s.size ∧ i = .int .i64 k ∧ goodGo (s.size - k) s k = ANS) (fun i => s.size - (intOf i).toNat)
  case atStart => exact ⟨0, Nat.zero_le _, rfl, by rw [HB.out]; rfl⟩
  case round =>
    obtain ⟨k, hk, rfl, hg⟩ := hrel
    have HG := Lib.hid hg
    clear hg
    by_cases hlt : k < s.size
    · have hf : s.size - k = (s.size - k - 1) + 1 := by omega
      have HF := Lib.hid hf
      clear hf
      have stop : Hid (okSign s k = false → Hid (ANS = false)) := Lib.hid (fun h => Lib.hid (by rw [← HG.out, HF.out]; exact goodGo_stop s _ k hlt h))
      have hb0 := Lib.hid (byt_at s k hlt)
      have hb1 : (s[k].toNat : Int) < 256 := by have := s[k].toNat_lt; omega
      go_upto_if 19 with (fail)
      go_cut [5, 6, 7] (fun n v l wx => ∃ (n' : Nat) (v' l' : Int), n = .int .i64 n' ∧ v = .int .i64 v' ∧ l = .int .i64 l' ∧ Class (byt s k) n' v' l' ∧ wx = w)
      case first =>
        rcases (by omega : ((s[k].toNat : Int) < 128) ∨ (128 ≤ (s[k].toNat : Int) ∧ (s[k].toNat : Int) < 192) ∨ (192 ≤ (s[k].toNat : Int) ∧ (s[k].toNat : Int) < 224) ∨ (224 ≤ (s[k].toNat : Int) ∧ (s[k].toNat : Int) < 240) ∨ (240 ≤ (s[k].toNat : Int) ∧ (s[k].toNat : Int) < 248) ∨ (248 ≤ (s[k].toNat : Int))) with d0 | d0 | d0 | d0 | d0 | d0
        · have hcl : Hid (Class (byt s k) 1 (s[k].toNat : Int) 0) := Lib.hid (by rw [hb0.out]; unfold Class; omega)
          have t0 : decide ((s[k].toNat : Int) < 128) = true := decide_eq_true (by omega)
          have t1 : decide (192 ≤ (s[k].toNat : Int)) = false := decide_eq_false (by omega)
          have t2 : decide ((s[k].toNat : Int) < 224) = true := decide_eq_true (by omega)
          have t3 : decide (224 ≤ (s[k].toNat : Int)) = false := decide_eq_false (by omega)
          have t4 : decide ((s[k].toNat : Int) < 240) = true := decide_eq_true (by omega)
          have t5 : decide (240 ≤ (s[k].toNat : Int)) = false := decide_eq_false (by omega)
          have t6 : decide ((s[k].toNat : Int) < 248) = true := decide_eq_true (by omega)
          go_wp2
          go_meet
          exact ⟨1, s[k].toNat, 0, rfl, rfl, rfl, hcl.out, rfl⟩
        · have hst := stop.out (no_class s k (by rw [hb0.out]; omega) (by rw [hb0.out]; omega) (by rw [hb0.out]; omega) (by rw [hb0.out]; omega))
          have t0 : decide ((s[k].toNat : Int) < 128) = false := decide_eq_false (by omega)
          have t1 : decide (192 ≤ (s[k].toNat : Int)) = false := decide_eq_false (by omega)
          have t2 : decide ((s[k].toNat : Int) < 224) = true := decide_eq_true (by omega)
          have t3 : decide (224 ≤ (s[k].toNat : Int)) = false := decide_eq_false (by omega)
          have t4 : decide ((s[k].toNat : Int) < 240) = true := decide_eq_true (by omega)
          have t5 : decide (240 ≤ (s[k].toNat : Int)) = false := decide_eq_false (by omega)
          have t6 : decide ((s[k].toNat : Int) < 248) = true := decide_eq_true (by omega)
          go_wp2
          all_goals go_ret
          all_goals exact ⟨by rw [hst.out] <;> rfl, rfl⟩
        · have hcl : Hid (Class (byt s k) 2 (s[k].toNat - 192 : Int) 128) := Lib.hid (by rw [hb0.out]; unfold Class; omega)
          have t0 : decide ((s[k].toNat : Int) < 128) = false := decide_eq_false (by omega)
          have t1 : decide (192 ≤ (s[k].toNat : Int)) = true := decide_eq_true (by omega)
          have t2 : decide ((s[k].toNat : Int) < 224) = true := decide_eq_true (by omega)
          have t3 : decide (224 ≤ (s[k].toNat : Int)) = false := decide_eq_false (by omega)
          have t4 : decide ((s[k].toNat : Int) < 240) = true := decide_eq_true (by omega)
          have t5 : decide (240 ≤ (s[k].toNat : Int)) = false := decide_eq_false (by omega)
          have t6 : decide ((s[k].toNat : Int) < 248) = true := decide_eq_true (by omega)
          go_wp2
          go_meet
          exact ⟨2, s[k].toNat - 192, 128, rfl, rfl, rfl, hcl.out, rfl⟩
        · have hcl : Hid (Class (byt s k) 3 (s[k].toNat - 224 : Int) 2048) := Lib.hid (by rw [hb0.out]; unfold Class; omega)
          have t0 : decide ((s[k].toNat : Int) < 128) = false := decide_eq_false (by omega)
          have t1 : decide (192 ≤ (s[k].toNat : Int)) = true := decide_eq_true (by omega)
          have t2 : decide ((s[k].toNat : Int) < 224) = false := decide_eq_false (by omega)
          have t3 : decide (224 ≤ (s[k].toNat : Int)) = true := decide_eq_true (by omega)
          have t4 : decide ((s[k].toNat : Int) < 240) = true := decide_eq_true (by omega)
          have t5 : decide (240 ≤ (s[k].toNat : Int)) = false := decide_eq_false (by omega)
          have t6 : decide ((s[k].toNat : Int) < 248) = true := decide_eq_true (by omega)
          go_wp2
          go_meet
          exact ⟨3, s[k].toNat - 224, 2048, rfl, rfl, rfl, hcl.out, rfl⟩
        · have hcl : Hid (Class (byt s k) 4 (s[k].toNat - 240 : Int) 65536) := Lib.hid (by rw [hb0.out]; unfold Class; omega)
          have t0 : decide ((s[k].toNat : Int) < 128) = false := decide_eq_false (by omega)
          have t1 : decide (192 ≤ (s[k].toNat : Int)) = true := decide_eq_true (by omega)
          have t2 : decide ((s[k].toNat : Int) < 224) = false := decide_eq_false (by omega)
          have t3 : decide (224 ≤ (s[k].toNat : Int)) = true := decide_eq_true (by omega)
          have t4 : decide ((s[k].toNat : Int) < 240) = false := decide_eq_false (by omega)
          have t5 : decide (240 ≤ (s[k].toNat : Int)) = true := decide_eq_true (by omega)
          have t6 : decide ((s[k].toNat : Int) < 248) = true := decide_eq_true (by omega)
          go_wp2
          go_meet
          exact ⟨4, s[k].toNat - 240, 65536, rfl, rfl, rfl, hcl.out, rfl⟩
        · have hst := stop.out (no_class s k (by rw [hb0.out]; omega) (by rw [hb0.out]; omega) (by rw [hb0.out]; omega) (by rw [hb0.out]; omega))
          have t0 : decide ((s[k].toNat : Int) < 128) = false := decide_eq_false (by omega)
          have t1 : decide (192 ≤ (s[k].toNat : Int)) = true := decide_eq_true (by omega)
          have t2 : decide ((s[k].toNat : Int) < 224) = false := decide_eq_false (by omega)
          have t3 : decide (224 ≤ (s[k].toNat : Int)) = true := decide_eq_true (by omega)
          have t4 : decide ((s[k].toNat : Int) < 240) = false := decide_eq_false (by omega)
          have t5 : decide (240 ≤ (s[k].toNat : Int)) = true := decide_eq_true (by omega)
          have t6 : decide ((s[k].toNat : Int) < 248) = false := decide_eq_false (by omega)
          go_wp2
          all_goals go_ret
          all_goals exact ⟨by rw [hst.out] <;> rfl, rfl⟩
      case rest =>
        obtain ⟨n, v, l, rfl, rfl, rfl, hc, rfl⟩ := hcut
        obtain ⟨hn1, hn4, hv0, hv1, hl0, hl1⟩ := class_range hc
        have HC := Lib.hid hc
        clear hc hb0 hb1
        by_cases hlen : s.size < k + n
        · have hst := stop.out (short_bad s k n v l hlt HC.out hlen)
          have hlen' : decide ((s.size : Int) < (k : Int) + (n : Int)) = true := decide_eq_true (by omega)
          go_wp2
          all_goals go_ret
          all_goals exact ⟨by rw [hst.out] <;> rfl, rfl⟩
        · have hlen' : decide ((s.size : Int) < (k : Int) + (n : Int)) = false := decide_eq_false (by omega)
          go_wp2
          go_loop [8, 6] (fun j p => ∃ m : Nat, 1 ≤ m ∧ m ≤ n ∧ j = .int .i64 m ∧ p = .int .i64 (pv s k v m) ∧ ∀ x, 1 ≤ x → x < m → 128 ≤ byt s (k + x) ∧ byt s (k + x) < 192) (fun j _ => n - (intOf j).toNat)
          case atStart => exact ⟨1, by omega, by omega, rfl, rfl, fun x h1 h2 => by omega⟩
          case round =>
            obtain ⟨m, hm1, hmn, rfl, rfl, hx⟩ := hrel
            obtain ⟨q, hq⟩ : ∃ q, m = q + 1 := ⟨m - 1, by omega⟩
            have hr := pv_range s k v hv0 hv1 q (by omega) (fun j h1 h2 => hx j h1 (by omega))
            have hpow : (128 : Int) * 64 ^ q ≤ 128 * 64 ^ 3 := by
              rcases (by omega : q = 0 ∨ q = 1 ∨ q = 2 ∨ q = 3) with e | e | e | e <;> rw [e] <;> decide
            rw [← hq] at hr
            have hr1 : pv s k v m < 33554433 := by omega
            have hr0 := hr.1
            have HX := Lib.hid hx
            have HQ := Lib.hid hq
            clear hx hq hr hpow
            obtain ⟨P, hP⟩ : ∃ P, P = pv s k v m := ⟨_, rfl⟩
            rw [← hP] at hr0 hr1 ⊢
            have HP := Lib.hid hP
            clear hP
            by_cases hmlt : m < n
            · have hin : k + m < s.size := by omega
              have hb0 := Lib.hid (byt_at s (k + m) hin)
              have hb1 : (s[k + m].toNat : Int) < 256 := by have := s[k + m].toNat_lt; omega
              by_cases d1 : (s[k + m].toNat : Int) < 128
              · have hst := stop.out (cont_bad s k n m v l HC.out hm1 hmlt (.inl (by rw [hb0.out]; omega)))
                go_wp2
                all_goals go_ret
                all_goals exact ⟨by rw [hst.out] <;> rfl, rfl⟩
              · by_cases d2 : 192 ≤ (s[k + m].toNat : Int)
                · have hst := stop.out (cont_bad s k n m v l HC.out hm1 hmlt (.inr (by rw [hb0.out]; omega)))
                  go_wp2
                  all_goals go_ret
                  all_goals exact ⟨by rw [hst.out] <;> rfl, rfl⟩
                · have q1 : decide ((s[k + m].toNat : Int) < 128) = false := decide_eq_false d1
                  have q2 : decide (192 ≤ (s[k + m].toNat : Int)) = false := decide_eq_false d2
                  go_wp2
                  go_round
                  case rel =>
                    refine ⟨m + 1, by omega, by omega, by go_num, ?_, fun x h1 h2 => ?_⟩
                    · congr 1
                      rw [pv_succ s k v m hm1, ← HP.out, hb0.out]
                    · rcases Nat.lt_or_ge x m with h | h
                      · exact HX.out x h1 h
                      · obtain rfl : x = m := by omega
                        rw [hb0.out]
                        omega
                  case measure => simp [intOf]; omega
            · have hmn' : m = n := by omega
              have HM := Lib.hid hmn'
              clear hmn'
              have key := Lib.hid (whole_sign s k n v l (by omega) HC.out (fun x h1 h2 => HX.out x h1 (by rw [HM.out]; exact h2)))
              have bad : Hid (¬ Fine P l → Hid (ANS = false)) := Lib.hid (fun h => stop.out (key.out.2 (by rw [← HM.out, ← HP.out]; exact h)))
              have good : Hid (Fine P l → Hid (goodGo (s.size - (k + n)) s (k + n) = ANS)) := Lib.hid (fun h => Lib.hid (by
                have h2 := key.out.1 (by rw [← HM.out, ← HP.out]; exact h)
                rw [← HG.out, HF.out, goodGo_on s _ k n hlt h2]
                exact goodGo_more s _ _ _ (by omega) (by omega)))
              clear key
              by_cases f0 : P < l
              · have hst := bad.out (fun h => h.1 f0)
                have g0 : decide (P < l) = true := by exact decide_eq_true (by omega)
                clear bad good
                go_wp2
                all_goals go_ret
                all_goals exact ⟨by rw [hst.out] <;> rfl, rfl⟩
              · by_cases f1 : 1114111 < P
                · have hst := bad.out (fun h => h.2.1 f1)
                  have g0 : decide (P < l) = false := by exact decide_eq_false (by omega)
                  have g1 : decide (1114111 < P) = true := by exact decide_eq_true (by omega)
                  clear bad good
                  go_wp2
                  all_goals go_ret
                  all_goals exact ⟨by rw [hst.out] <;> rfl, rfl⟩
                · rcases (by omega : P < 55296 ∨ (55296 ≤ P ∧ P ≤ 57343) ∨ 57343 < P) with f2 | f2 | f2
                  · by_cases f3 : P < 32
                    · have hst := bad.out (fun h => h.2.2.2.1 f3)
                      have g0 : decide (P < l) = false := by exact decide_eq_false (by omega)
                      have g1 : decide (1114111 < P) = false := by exact decide_eq_false (by omega)
                      have g2 : decide (55296 ≤ P) = false := by exact decide_eq_false (by omega)
                      have g4 : decide (P < 32) = true := by exact decide_eq_true (by omega)
                      clear bad good
                      go_wp2
                      all_goals go_ret
                      all_goals exact ⟨by rw [hst.out] <;> rfl, rfl⟩
                    · by_cases f4 : P = 127
                      · have hst := bad.out (fun h => h.2.2.2.2.1 f4)
                        have g0 : decide (P < l) = false := by exact decide_eq_false (by omega)
                        have g1 : decide (1114111 < P) = false := by exact decide_eq_false (by omega)
                        have g2 : decide (55296 ≤ P) = false := by exact decide_eq_false (by omega)
                        have g4 : decide (P < 32) = false := by exact decide_eq_false (by omega)
                        have g5 : (P == 127) = true := by rw [beq_iff_eq]; omega
                        clear bad good
                        go_wp2
                        all_goals go_ret
                        all_goals exact ⟨by rw [hst.out] <;> rfl, rfl⟩
                      · by_cases f5 : P = 92
                        · have hst := bad.out (fun h => h.2.2.2.2.2 f5)
                          have g0 : decide (P < l) = false := by exact decide_eq_false (by omega)
                          have g1 : decide (1114111 < P) = false := by exact decide_eq_false (by omega)
                          have g2 : decide (55296 ≤ P) = false := by exact decide_eq_false (by omega)
                          have g4 : decide (P < 32) = false := by exact decide_eq_false (by omega)
                          have g5 : (P == 127) = false := by rw [beq_eq_false_iff_ne]; omega
                          have g6 : (P == 92) = true := by rw [beq_iff_eq]; omega
                          clear bad good
                          go_wp2
                          all_goals go_ret
                          all_goals exact ⟨by rw [hst.out] <;> rfl, rfl⟩
                        · have hok := good.out ⟨f0, f1, by omega, f3, f4, f5⟩
                          have g0 : decide (P < l) = false := by exact decide_eq_false (by omega)
                          have g1 : decide (1114111 < P) = false := by exact decide_eq_false (by omega)
                          have g2 : decide (55296 ≤ P) = false := by exact decide_eq_false (by omega)
                          have g4 : decide (P < 32) = false := by exact decide_eq_false (by omega)
                          have g5 : (P == 127) = false := by rw [beq_eq_false_iff_ne]; omega
                          have g6 : (P == 92) = false := by rw [beq_eq_false_iff_ne]; omega
                          clear bad good
                          go_wp2
                          go_round
                          case rel => exact ⟨k + n, by omega, by go_num, hok.out⟩
                          case measure => simp [intOf]; omega
                  · have hst := bad.out (fun h => h.2.2.1 f2)
                    have g0 : decide (P < l) = false := by exact decide_eq_false (by omega)
                    have g1 : decide (1114111 < P) = false := by exact decide_eq_false (by omega)
                    have g2 : decide (55296 ≤ P) = true := by exact decide_eq_true (by omega)
                    have g3 : decide (P ≤ 57343) = true := by exact decide_eq_true (by omega)
                    clear bad good
                    go_wp2
                    all_goals go_ret
                    all_goals exact ⟨by rw [hst.out] <;> rfl, rfl⟩
                  · by_cases f3 : P < 32
                    · have hst := bad.out (fun h => h.2.2.2.1 f3)
                      have g0 : decide (P < l) = false := by exact decide_eq_false (by omega)
                      have g1 : decide (1114111 < P) = false := by exact decide_eq_false (by omega)
                      have g2 : decide (55296 ≤ P) = true := by exact decide_eq_true (by omega)
                      have g3 : decide (P ≤ 57343) = false := by exact decide_eq_false (by omega)
                      have g4 : decide (P < 32) = true := by exact decide_eq_true (by omega)
                      clear bad good
                      go_wp2
                      all_goals go_ret
                      all_goals exact ⟨by rw [hst.out] <;> rfl, rfl⟩
                    · by_cases f4 : P = 127
                      · have hst := bad.out (fun h => h.2.2.2.2.1 f4)
                        have g0 : decide (P < l) = false := by exact decide_eq_false (by omega)
                        have g1 : decide (1114111 < P) = false := by exact decide_eq_false (by omega)
                        have g2 : decide (55296 ≤ P) = true := by exact decide_eq_true (by omega)
                        have g3 : decide (P ≤ 57343) = false := by exact decide_eq_false (by omega)
                        have g4 : decide (P < 32) = false := by exact decide_eq_false (by omega)
                        have g5 : (P == 127) = true := by rw [beq_iff_eq]; omega
                        clear bad good
                        go_wp2
                        all_goals go_ret
                        all_goals exact ⟨by rw [hst.out] <;> rfl, rfl⟩
                      · by_cases f5 : P = 92
                        · have hst := bad.out (fun h => h.2.2.2.2.2 f5)
                          have g0 : decide (P < l) = false := by exact decide_eq_false (by omega)
                          have g1 : decide (1114111 < P) = false := by exact decide_eq_false (by omega)
                          have g2 : decide (55296 ≤ P) = true := by exact decide_eq_true (by omega)
                          have g3 : decide (P ≤ 57343) = false := by exact decide_eq_false (by omega)
                          have g4 : decide (P < 32) = false := by exact decide_eq_false (by omega)
                          have g5 : (P == 127) = false := by rw [beq_eq_false_iff_ne]; omega
                          have g6 : (P == 92) = true := by rw [beq_iff_eq]; omega
                          clear bad good
                          go_wp2
                          all_goals go_ret
                          all_goals exact ⟨by rw [hst.out] <;> rfl, rfl⟩
                        · have hok := good.out ⟨f0, f1, by omega, f3, f4, f5⟩
                          have g0 : decide (P < l) = false := by exact decide_eq_false (by omega)
                          have g1 : decide (1114111 < P) = false := by exact decide_eq_false (by omega)
                          have g2 : decide (55296 ≤ P) = true := by exact decide_eq_true (by omega)
                          have g3 : decide (P ≤ 57343) = false := by exact decide_eq_false (by omega)
                          have g4 : decide (P < 32) = false := by exact decide_eq_false (by omega)
                          have g5 : (P == 127) = false := by rw [beq_eq_false_iff_ne]; omega
                          have g6 : (P == 92) = false := by rw [beq_eq_false_iff_ne]; omega
                          clear bad good
                          go_wp2
                          go_round
                          case rel => exact ⟨k + n, by omega, by go_num, hok.out⟩
                          case measure => simp [intOf]; omega
    · have hst := Lib.hid (show ANS = true by rw [← HG.out]; exact goodGo_end s _ k hlt)
      go_wp2
      all_goals go_ret
      all_goals exact ⟨by rw [hst.out] <;> rfl, rfl⟩

end Go.Proofs.YtehhoigedniglaaDoor.Nm
