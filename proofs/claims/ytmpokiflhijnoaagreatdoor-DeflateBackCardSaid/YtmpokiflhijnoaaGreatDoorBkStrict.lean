/-
  block.strict, block.upto.
-/
import Derived.Test.YtmpokiflhijnoaaGreatDoorBkCounts
namespace Go.Proofs.YtmpokiflhijnoaaGreatDoor.Bk
open Go.RowKit Go.Shelf Go.Proofs.YtmpokiflhijnoaaGreatDoor.Mg Go.Proofs.YtmpokiflhijnoaaGreatDoor.Bw Go.Proofs.YtmpokiflhijnoaaGreatDoor.Ri
set_option linter.unusedVariables false
set_option linter.unusedSimpArgs false

theorem lens_ok (A : Option Addr) (c : Nat) (cs : List Int) (most : Int) (w : World) (hA : Reads w A cs) (hb : badArg cs most = false) (hm : ((usedL cs).length : Int) ≤ (2 : Int) ^ most.toNat) :
    Calls Tryz.prog 63 #[.slice A cs.length c, .int .i64 most] w fun e w' => ∃ B, e = .returned (.tuple #[.slice (some ⟨B, 0, none⟩) cs.length cs.length, .int .i64 0]) ∧ Below w.heap.size w w' ∧ RowI w' B (lensP cs most) ∧ w.heap.size ≤ B := by
  by_cases hN : 2 ≤ (usedL cs).length
  · exact lengths_many A c cs most w hA hb hN hm
  · exact lengths_few A c cs most w hA hb (by omega) hm
theorem lensP_len (cs : List Int) (most : Int) : (lensP cs most).length = cs.length := by
  unfold lensP
  split
  · rw [set_len]; simp
  · exact outP_len _ _ _
theorem used_le (cs : List Int) : (usedL cs).length ≤ cs.length := by
  have h := (usedL_perm cs).length_eq
  have h2 := idx_len cs cs.length
  omega

def posN (l : List Int) : Nat := l.countP fun x => decide (0 < x)
def zeroAt (l : List Int) : Nat := l.findIdx fun x => !decide (0 < x)
def strictP (cs : List Int) (most : Int) : List Int := if posN (lensP cs most) = 1 then (lensP cs most).set (zeroAt (lensP cs most)) 1 else lensP cs most
theorem strictP_len (cs : List Int) (most : Int) : (strictP cs most).length = cs.length := by
  unfold strictP
  split
  · rw [List.length_set, lensP_len]
  · exact lensP_len _ _
theorem posN_take (l : List Int) (k : Nat) (h : k < l.length) : posN (l.take (k + 1)) = posN (l.take k) + if 0 < l[k] then 1 else 0 := by
  unfold posN
  rw [List.take_succ_eq_append_getElem h, List.countP_append]
  simp [List.countP_cons, List.countP_nil]
theorem posN_le (l : List Int) : posN l ≤ l.length := List.countP_le_length
theorem zero_lt (l : List Int) (h : posN l = 1) (hl : 2 ≤ l.length) : zeroAt l < l.length := by
  unfold zeroAt
  rw [List.findIdx_lt_length]
  have h2 : posN l ≠ l.length := by omega
  unfold posN at h2
  rw [Ne, List.countP_eq_length] at h2
  simp only [Classical.not_forall] at h2
  obtain ⟨x, hx, hx2⟩ := h2
  exact ⟨x, hx, by simpa using hx2⟩
/-- The first place that holds none, among the first k. -/
def FirstZ (l : List Int) (k : Nat) (x : Int) : Prop := (x = -1 ∧ k ≤ zeroAt l) ∨ (x = (zeroAt l : Int) ∧ zeroAt l < k)
theorem firstZ_next (l : List Int) (k : Nat) (hk : k < l.length) (x : Int) (h : FirstZ l k x) : FirstZ l (k + 1) (if 0 < l[k] then x else if x < 0 then (k : Int) else x) := by
  rcases h with ⟨rfl, h⟩ | ⟨rfl, h⟩
  · split
    · rename_i hp
      refine .inl ⟨rfl, ?_⟩
      rcases Nat.lt_or_ge k (zeroAt l) with h1 | h1
      · exact h1
      · exfalso
        have e : zeroAt l = k := by omega
        have hz : zeroAt l < l.length := by omega
        have h3 := List.findIdx_getElem (w := hz)
        have h4 : l[zeroAt l] = l[k] := by congr 1
        unfold zeroAt at h3 h4
        rw [h4] at h3
        simp [hp] at h3
    · rename_i hp
      rw [if_pos (by omega)]
      refine .inr ⟨?_, ?_⟩
      · have : zeroAt l ≤ k := by
          rcases Nat.lt_or_ge k (zeroAt l) with h1 | h1
          · exfalso
            have h3 := List.not_of_lt_findIdx h1
            simp [hp] at h3
          · exact h1
        omega
      · rcases Nat.lt_or_ge k (zeroAt l) with h1 | h1
        · exfalso
          have h3 := List.not_of_lt_findIdx h1
          simp [hp] at h3
        · omega
  · refine .inr ⟨?_, by omega⟩
    split
    · rfl
    · rw [if_neg (by omega)]

set_option maxHeartbeats 4000000 in
set_option maxRecDepth 100000 in
theorem strict_calls (A : Option Addr) (c : Nat) (cs : List Int) (most : Int) (w : World) (hA : Reads w A cs) (hb : badArg cs most = false) (hm : ((usedL cs).length : Int) ≤ (2 : Int) ^ most.toNat) (h2 : 2 ≤ cs.length) :
    Calls Tryz.prog 62 #[.slice A cs.length c, .int .i64 most] w fun e w' => ∃ B, e = .returned (.slice (some ⟨B, 0, none⟩) cs.length cs.length) ∧ RowI w' B (strictP cs most) ∧ w.heap.size ≤ B ∧ Below w.heap.size w w' := by
  have HL := Lib.hid (lens_ok A c cs most w hA hb hm)
  have hc288 : cs.length ≤ 288 := (badArg_facts hb).1
  obtain ⟨l, hl⟩ : ∃ l, lensP cs most = l := ⟨_, rfl⟩
  have hll : l.length = cs.length := by rw [← hl]; exact lensP_len _ _
  have HS : Hid (strictP cs most = if posN l = 1 then l.set (zeroAt l) 1 else l) := Lib.hid (by unfold strictP; rw [hl])
  rw [hl] at HL
  obtain ⟨n, hn⟩ : ∃ n, cs.length = n := ⟨_, rfl⟩
  rw [hn] at HL hll hc288 h2 ⊢
  have HLL := Lib.hid hll
  clear hl hA hb hm hn
  go_enter Tryz.func62, Tryz.ntmps62
  go_upto_region 2 with (go_at_call 63; refine HL.out.mono ?_; rintro e w1 ⟨B, rfl, hbl, hr, hB⟩)
  have HR := Lib.hid hr
  have HB := Lib.hid hbl
  clear hr hbl
  go_wp2
  go_loop [7, 8, 19] (fun va vf vi => ∃ (k : Nat) (x : Int), k ≤ n ∧ vi = .int .i64 k ∧ va = .int .i64 (posN (l.take k) : Nat) ∧ vf = .int .i64 x ∧ FirstZ l k x) (fun _ _ vi => n - (intOf vi).toNat)
  case atStart => exact ⟨0, -1, Nat.zero_le _, rfl, by simp [posN], rfl, .inl ⟨rfl, Nat.zero_le _⟩⟩
  case round =>
    obtain ⟨k, x, hk, rfl, rfl, rfl, hf⟩ := hrel
    have HF := Lib.hid hf
    clear hf
    by_cases hlt : k < n
    · have q1 : decide ((k : Int) < (n : Int)) = true := decide_eq_true (by omega)
      have q1' : decide (k < n) = true := decide_eq_true (by omega)
      have k1 : k < l.length := by rw [hll]; exact hlt
      obtain ⟨hc1, hf1⟩ := HR.out.cell k k1
      have HPT := Lib.hid (posN_take l k k1)
      have HFN := Lib.hid (firstZ_next l k k1 x HF.out)
      have hple : posN (l.take k) ≤ 288 := by have := posN_le (l.take k); rw [List.length_take] at this; omega
      obtain ⟨p, hp⟩ : ∃ p, posN (l.take k) = p := ⟨_, rfl⟩
      obtain ⟨y, hy⟩ : ∃ y, l[k] = y := ⟨_, rfl⟩
      rw [hp] at HPT hple ⊢
      rw [hy] at hc1 HPT HFN
      clear hp hy hf1
      have hx : -1 ≤ x ∧ x ≤ 1000 := by
        rcases HF.out with ⟨h, _⟩ | ⟨h, h3⟩ <;> omega
      by_cases hpos : 0 < y
      · have q2 : decide (0 < y) = true := decide_eq_true hpos
        rw [if_pos hpos] at HPT HFN
        go_wp2
        go_round
        case rel => exact ⟨k + 1, x, by omega, by go_num, by rw [HPT.out]; go_num, rfl, HFN.out⟩
        case measure => simp [intOf]; omega
      · have q2 : decide (0 < y) = false := decide_eq_false hpos
        rw [if_neg hpos] at HPT HFN
        by_cases hxn : x < 0
        · have q3 : decide (x < 0) = true := decide_eq_true hxn
          rw [if_pos hxn] at HFN
          go_wp2
          go_round
          case rel => exact ⟨k + 1, k, by omega, by go_num, by rw [HPT.out]; rfl, rfl, HFN.out⟩
          case measure => simp [intOf]; omega
        · have q3 : decide (x < 0) = false := decide_eq_false hxn
          rw [if_neg hxn] at HFN
          go_wp2
          go_round
          case rel => exact ⟨k + 1, x, by omega, by go_num, by rw [HPT.out]; rfl, rfl, HFN.out⟩
          case measure => simp [intOf]; omega
    · obtain rfl : k = n := by omega
      have q1 : decide ((k : Int) < (k : Int)) = false := decide_eq_false (by omega)
      have hfin : l.take k = l := List.take_of_length_le (by rw [hll]; exact Nat.le_refl _)
      rw [hfin]
      obtain ⟨p, hp⟩ : ∃ p, posN l = p := ⟨_, rfl⟩
      rw [hp] at HS ⊢
      have HP := Lib.hid hp
      clear hfin hp
      by_cases h1 : p = 1
      · subst h1
        have hz := zero_lt l HP.out (by omega)
        have hx : x = (zeroAt l : Int) := by
          rcases HF.out with ⟨_, h3⟩ | ⟨h, _⟩
          · omega
          · exact h
        subst hx
        obtain ⟨hc1, hf1⟩ := HR.out.cell (zeroAt l) hz
        have HE : Hid (strictP cs most = l.set (zeroAt l) 1) := Lib.hid (by rw [HS.out]; rfl)
        have HR2 : Hid (RowI (w1.setCell ⟨B, zeroAt l, none⟩ (.int .i64 1)) B (l.set (zeroAt l) 1)) := Lib.hid (HR.out.set (zeroAt l) 1)
        generalize zeroAt l = z at *
        have z1 : (0 : Int) ≤ (z : Int) := by omega
        have z2 : (z : Int) < (k : Int) := by omega
        go_wp2
        go_ret
        exact ⟨B, rfl, by rw [HE.out]; exact HR2.out, hB, HB.out.setCell (p := ⟨B, z, none⟩) hB _⟩
      · have q4 : ((p : Int) == 1) = false := beq_eq_false_iff_ne.2 (by omega)
        have q4' : (p == 1) = false := beq_eq_false_iff_ne.2 h1
        have HE : Hid (strictP cs most = l) := Lib.hid (by rw [HS.out, if_neg h1])
        go_wp2
        go_ret
        exact ⟨B, rfl, by rw [HE.out]; exact HR.out, hB, HB.out⟩

/-- How many lengths are told. -/
def uptoGo (l : List Int) (least : Nat) : Nat → Nat
  | 0 => 0
  | n + 1 => if least < n + 1 ∧ l.getD n 0 = 0 then uptoGo l least n else n + 1
def uptoP (l : List Int) (least : Nat) : Nat := uptoGo l least l.length
theorem uptoGo_le (l : List Int) (least : Nat) : ∀ n, uptoGo l least n ≤ n
  | 0 => Nat.le_refl _
  | n + 1 => by
    rw [uptoGo]
    split
    · exact Nat.le_succ_of_le (uptoGo_le l least n)
    · exact Nat.le_refl _
theorem uptoGo_ge (l : List Int) (least : Nat) : ∀ n, least ≤ n → least ≤ uptoGo l least n
  | 0, h => h
  | n + 1, h => by
    rw [uptoGo]
    split
    · rename_i h2
      exact uptoGo_ge l least n (by omega)
    · exact h

set_option maxHeartbeats 1000000 in
set_option maxRecDepth 100000 in
theorem upto_calls (A : Option Addr) (c : Nat) (l : List Int) (least : Nat) (w : World) (hA : Reads w A l) (hl : l.length ≤ 1000000) :
    Calls Tryz.prog 64 #[.slice A l.length c, .int .i64 least] w fun e w' => e = .returned (.int .i64 (uptoP l least : Nat)) ∧ w' = w := by
  have HA := Lib.hid hA
  obtain ⟨n, hn⟩ : ∃ n, l.length = n := ⟨_, rfl⟩
  have HN := Lib.hid hn
  obtain ⟨R, hR⟩ : ∃ R, uptoP l least = R := ⟨_, rfl⟩
  have HR : Hid (uptoGo l least n = R) := Lib.hid (by rw [← hR, ← hn]; rfl)
  rw [hn] at hl ⊢
  rw [hR]
  clear hA hn hR
  go_enter Tryz.func64, Tryz.ntmps64
  go_wp2
  go_loop [5] (fun v => ∃ k : Nat, k ≤ n ∧ v = .int .i64 k ∧ uptoGo l least k = R) (fun v => (intOf v).toNat)
  case atStart => exact ⟨n, Nat.le_refl _, rfl, HR.out⟩
  case round =>
    obtain ⟨k, hk, rfl, hg⟩ := hrel
    have HG := Lib.hid hg
    clear hg
    by_cases hlt : least < k
    · have q1 : decide ((least : Int) < (k : Int)) = true := decide_eq_true (by omega)
      have q1' : decide (least < k) = true := decide_eq_true hlt
      obtain ⟨m, rfl⟩ : ∃ m, k = m + 1 := ⟨k - 1, by omega⟩
      have k1 : m < l.length := by rw [HN.out]; omega
      obtain ⟨g, o, rfl, hcell⟩ := HA.out m k1
      have hgd : l.getD m 0 = l[m] := by simp [List.getD, List.getElem?_eq_getElem k1]
      obtain ⟨y, hy⟩ : ∃ y, l[m] = y := ⟨_, rfl⟩
      rw [hy] at hcell hgd
      have e1 : ((m + 1 : Nat) : Int) - 1 = (m : Int) := by omega
      have e2 : (m : Int) + 1 - 1 = (m : Int) := by omega
      have e3 : wrap64 ((m : Int) + 1 - 1) = (m : Int) := by unfold wrap64; omega
      have m0 : (0 : Int) ≤ (m : Int) := by omega
      have m1 : (m : Int) < (n : Int) := by omega
      have hlt1 : decide ((least : Int) < (m : Int) + 1) = true := decide_eq_true (by omega)
      clear hy
      by_cases h0 : y = 0
      · have q2 : (y == 0) = true := beq_iff_eq.2 h0
        have HG2 : Hid (uptoGo l least m = R) := Lib.hid (by
          have h := HG.out
          rw [uptoGo, if_pos ⟨hlt, by rw [hgd]; exact h0⟩] at h
          exact h)
        clear hgd
        go_wp2
        go_round
        case rel => exact ⟨m, by omega, rfl, HG2.out⟩
        case measure => simp [intOf]
      · have q2 : (y == 0) = false := beq_eq_false_iff_ne.2 h0
        have HG2 : Hid (m + 1 = R) := Lib.hid (by
          have h := HG.out
          rw [uptoGo, if_neg (by rw [hgd]; exact fun h => h0 h.2)] at h
          exact h)
        clear hgd
        go_wp2
        go_ret
        exact ⟨by rw [← HG2.out]; push_cast; rfl, rfl⟩
    · have q1 : decide ((least : Int) < (k : Int)) = false := decide_eq_false (by omega)
      have q1' : decide (least < k) = false := decide_eq_false hlt
      have HG2 : Hid (k = R) := Lib.hid (by
        have h := HG.out
        cases k with
        | zero => exact h
        | succ m => rw [uptoGo, if_neg (fun h => hlt h.1)] at h; exact h)
      go_wp2
      go_ret
      exact ⟨by rw [← HG2.out]; rfl, rfl⟩
end Go.Proofs.YtmpokiflhijnoaaGreatDoor.Bk
