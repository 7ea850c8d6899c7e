/-
  The reference of layer 3: the words of lengths, as texts.
-/
import Derived.Test.YtmpokiflhijnoaaDoorRfText
namespace Go.Proofs.YtmpokiflhijnoaaDoor.Rf
open Go.RowKit Go.Shelf Go.Proofs.YtmpokiflhijnoaaDoor.Mg Go.Proofs.YtmpokiflhijnoaaDoor.Bw Go.Proofs.YtmpokiflhijnoaaDoor.Bk Go.Proofs.YtmpokiflhijnoaaDoor.Cn Go.Proofs.YtmpokiflhijnoaaDoor.Zp
set_option linter.unusedVariables false
set_option linter.unusedSimpArgs false

/-- A made row of texts. -/
def strC (n : Nat) (f : Nat → ByteArray) : Array Value := ((List.range n).map fun i => Value.string (f i)).toArray
def RowS (w : World) (B n : Nat) (f : Nat → ByteArray) : Prop := w.heap[B]? = some (.cells (strC n f) 9 (0, 0))
theorem strC_get (n : Nat) (f : Nat → ByteArray) (i : Nat) (h : i < n) : (strC n f)[i]? = some (.string (f i)) := by
  unfold strC
  simp [h]
theorem RowS.cell {w : World} {B n : Nat} {f : Nat → ByteArray} (h : RowS w B n f) (i : Nat) (hi : i < n) : w.cell? ⟨B, i, none⟩ = some (.string (f i)) ∧ w.frozen? ⟨B, i, none⟩ = false := cell_at h i _ (strC_get n f i hi)
theorem RowS.below {w w' : World} {B n : Nat} {f : Nat → ByteArray} (h : RowS w B n f) (hb : Below w.heap.size w w') : RowS w' B n f := (hb.block B (Array.getElem?_eq_some_iff.1 h).1).trans h
theorem RowS.set {w : World} {B n : Nat} {f : Nat → ByteArray} (h : RowS w B n f) (i : Nat) (s : ByteArray) (g : Nat → ByteArray) (hg : ∀ j, j < n → g j = if j = i then s else f j) : RowS (w.setCell ⟨B, i, none⟩ (.string s)) B n g := by
  have h2 := heap_setCell_same w B i _ _ (.string s) h
  have e : (strC n f).setIfInBounds i (.string s) = strC n g := by
    apply Array.ext_getElem?
    intro j
    rw [Array.getElem?_setIfInBounds]
    have hsz : (strC n f).size = n := by simp [strC]
    by_cases hj : j < n
    · rw [strC_get n g j hj, hg j hj]
      by_cases hij : i = j
      · subst hij
        rw [if_pos rfl, if_pos (by rw [hsz]; exact hj), if_pos rfl]
      · rw [if_neg hij, if_neg (Ne.symm hij), strC_get n f j hj]
    · have h3 : (strC n g)[j]? = none := Array.getElem?_eq_none (by simp [strC]; omega)
      have h4 : (strC n f)[j]? = none := Array.getElem?_eq_none (by simp [strC]; omega)
      rw [h3, h4]
      split
      · split
        · rename_i h5 h6; rw [hsz] at h6; omega
        · rfl
      · rfl
  unfold RowS
  rw [← e]
  exact h2
/-- The words of less than m bits, and those of m bits of the first k symbols. -/
def upW (ls : List Int) (m k s : Nat) : List Bool := if 1 ≤ ls.getD s 0 ∧ (ls.getD s 0 < m ∨ ls.getD s 0 = m ∧ s < k) then wordB ls s else []
theorem upW_start (ls : List Int) (s : Nat) : upW ls 1 0 s = [] := by
  unfold upW
  rw [if_neg]
  omega
theorem upW_next (ls : List Int) (m s : Nat) (hs : s < ls.length) : upW ls m ls.length s = upW ls (m + 1) 0 s := by
  unfold upW
  have e : (1 ≤ ls.getD s 0 ∧ (ls.getD s 0 < (m : Int) ∨ ls.getD s 0 = (m : Int) ∧ s < ls.length)) ↔ (1 ≤ ls.getD s 0 ∧ (ls.getD s 0 < ((m + 1 : Nat) : Int) ∨ ls.getD s 0 = ((m + 1 : Nat) : Int) ∧ s < 0)) := by
    constructor <;> intro h <;> omega
  simp only [e]
theorem upW_end (ls : List Int) (s : Nat) : upW ls 16 0 s = wordB ls s := by
  unfold upW
  split
  · rfl
  · rename_i h
    unfold wordB wordP
    rw [if_neg (by omega)]
    rfl
theorem upW_no (ls : List Int) (m k : Nat) (h : ls.getD k 0 ≠ (m : Int)) (s : Nat) : upW ls m (k + 1) s = upW ls m k s := by
  unfold upW
  have e : (1 ≤ ls.getD s 0 ∧ (ls.getD s 0 < (m : Int) ∨ ls.getD s 0 = (m : Int) ∧ s < k + 1)) ↔ (1 ≤ ls.getD s 0 ∧ (ls.getD s 0 < (m : Int) ∨ ls.getD s 0 = (m : Int) ∧ s < k)) := by
    constructor
    · rintro ⟨h1, h2 | ⟨h2, h3⟩⟩
      · exact ⟨h1, .inl h2⟩
      · refine ⟨h1, .inr ⟨h2, ?_⟩⟩
        rcases Nat.lt_or_ge s k with h4 | h4
        · exact h4
        · obtain rfl : s = k := by omega
          exact absurd h2 h
    · rintro ⟨h1, h2 | ⟨h2, h3⟩⟩
      · exact ⟨h1, .inl h2⟩
      · exact ⟨h1, .inr ⟨h2, by omega⟩⟩
  simp only [e]
theorem upW_yes (ls : List Int) (m k : Nat) (h : ls.getD k 0 = (m : Int)) (hm : 1 ≤ m) (s : Nat) : upW ls m (k + 1) s = if s = k then wordB ls k else upW ls m k s := by
  by_cases hs : s = k
  · subst hs
    rw [if_pos rfl]
    unfold upW
    rw [h, if_pos ⟨by omega, .inr ⟨rfl, by omega⟩⟩]
  · rw [if_neg hs]
    unfold upW
    have e : (1 ≤ ls.getD s 0 ∧ (ls.getD s 0 < (m : Int) ∨ ls.getD s 0 = (m : Int) ∧ s < k + 1)) ↔ (1 ≤ ls.getD s 0 ∧ (ls.getD s 0 < (m : Int) ∨ ls.getD s 0 = (m : Int) ∧ s < k)) := by
      constructor <;> rintro ⟨h1, h2 | ⟨h2, h3⟩⟩
      · exact ⟨h1, .inl h2⟩
      · exact ⟨h1, .inr ⟨h2, by omega⟩⟩
      · exact ⟨h1, .inl h2⟩
      · exact ⟨h1, .inr ⟨h2, by omega⟩⟩
    simp only [e]
theorem msbL_cons (k c : Nat) : msbL (k + 1) c = decide (c / 2 ^ k % 2 = 1) :: msbL k c := by
  rw [Nat.add_comm k 1, msbL_split 1 k c]
  rfl

set_option maxHeartbeats 4000000 in
set_option maxRecDepth 100000 in
theorem words_calls (A : Option Addr) (c : Nat) (ls : List Int) (w : World) (hA : Reads w A ls) (hl : ls.length ≤ 288) (hin : ∀ x ∈ ls, 0 ≤ x ∧ x ≤ 15) :
    Calls Tryd.prog 73 #[.slice A ls.length c] w fun e w' => ∃ B, e = .returned (.slice (some ⟨B, 0, none⟩) ls.length ls.length) ∧ RowS w' B ls.length (fun s => txt (wordB ls s)) ∧ w.heap.size ≤ B ∧ Below w.heap.size w w' := by
  have HA : Hid (∀ W, Below w.heap.size w W → Reads W A ls) := Lib.hid (fun W h => hA.below h)
  have HIN := Lib.hid hin
  obtain ⟨n, hn⟩ : ∃ n, ls.length = n := ⟨_, rfl⟩
  have HN := Lib.hid hn
  obtain ⟨i0, hi, hz0, hz1, hz2⟩ := info_parts (show (Tryd.prog.info? 9).map (fun i => (i.zero, i.size, i.bytes)) = some (some (.string ⟨#[]⟩), 1, 16) by kernel_rfl)
  have hz : madeCells #[.string ⟨#[]⟩] n = strC n (fun s => txt (upW ls 1 0 s)) := by
    apply Array.ext_getElem?
    intro i
    simp only [strC, madeCells, upW_start, txt_nil]
    by_cases h : i < n
    · simp [h, Nat.mod_one]
    · simp [h]
  have hmk : ∀ W : World, (Instr.makeSlice 121 (.int .i64 n) (.int .i64 n)).run Tryd.prog W = .ok (.slice (some ⟨W.heap.size, 0, none⟩) n n) (W.alloc (.cells (strC n (fun s => txt (upW ls 1 0 s))) 9)) := fun W => by
    have := run_make (P := Tryd.prog) W 121 9 i0 (.string ⟨#[]⟩) Tryd.underlying121 hi hz0 .i64 .i64 n n (by omega) (by omega) (by rw [hz2]; omega) (by omega)
    rw [← hz]
    simpa [hz1, Value.cells] using this
  have HMK := Lib.hid (hmk w)
  have hmw := hmk w
  rw [hn] at hl ⊢
  clear hA hin hn hi hz0 hz1 hz2 hz hmk
  go_enter Tryd.func73, Tryd.ntmps73
  go_upto_region 2 with fail
  obtain ⟨B, hB⟩ : ∃ B, w.heap.size = B := ⟨_, rfl⟩
  have HR0 : Hid (RowS (w.alloc (.cells (strC n (fun s => txt (upW ls 1 0 s))) 9)) B n (fun s => txt (upW ls 1 0 s))) := Lib.hid (by rw [← hB]; exact World.alloc_heap_new _ _)
  have HB0 : Hid (Below w.heap.size w (w.alloc (.cells (strC n (fun s => txt (upW ls 1 0 s))) 9))) := Lib.hid ((Below.refl _ _).alloc (Nat.le_refl _) _)
  obtain ⟨w0, hw0⟩ : ∃ w0, w.alloc (.cells (strC n (fun s => txt (upW ls 1 0 s))) 9) = w0 := ⟨_, rfl⟩
  rw [hw0] at HR0 HB0 ⊢
  rw [hB]
  have HBB := Lib.hid hB
  have HSx : Hid (2 * 0 = nxP ls 1) := Lib.hid (by simp [nxP])
  clear hw0 hmw HMK hB
  go_wp2_with fail
  go_loopw [4, 5] (fun vx vm wr => ∃ m x : Nat, 1 ≤ m ∧ m ≤ 16 ∧ vm = .int .i64 m ∧ vx = .int .i64 x ∧ 2 * x = nxP ls m ∧ RowS wr B n (fun s => txt (upW ls m 0 s)) ∧ Below w.heap.size w wr) (fun _ vm _ => 16 - (intOf vm).toNat)
  case atStart => exact ⟨1, 0, Nat.le_refl _, by omega, rfl, rfl, HSx.out, HR0.out, HB0.out⟩
  case round =>
    obtain ⟨m, x, hm1, hm16, rfl, rfl, hx, hr, hb⟩ := hrel
    have HX := Lib.hid hx
    have HR := Lib.hid hr
    have HB := Lib.hid hb
    clear hr hb
    by_cases hlt : m ≤ 15
    · have q1 : decide ((m : Int) ≤ 15) = true := decide_eq_true (by omega)
      have hnb := code_bound ls m 0 hlt (by have := HN.out; omega)
      have hxb : x ≤ 100000000 := by omega
      clear hx hnb
      have HS2 : Hid (2 * x = nxP ls m + cntL (ls.take 0) m) := Lib.hid (by rw [HX.out]; simp [cntL])
      go_wp2_with fail
      go_loopw [4, 6] (fun vx vk wx => ∃ k y : Nat, k ≤ n ∧ vk = .int .i64 k ∧ vx = .int .i64 y ∧ y = nxP ls m + cntL (ls.take k) m ∧ RowS wx B n (fun s => txt (upW ls m k s)) ∧ Below w.heap.size w wx) (fun _ vk _ => n - (intOf vk).toNat)
      case atStart => exact ⟨0, 2 * x, Nat.zero_le _, rfl, by go_num, HS2.out, HR.out, HB.out⟩
      case round =>
        obtain ⟨k, y, hk, rfl, rfl, hy, hr, hb⟩ := hrel
        have HR2 := Lib.hid hr
        have HB2 := Lib.hid hb
        have HY := Lib.hid hy
        have hyb := code_bound ls m k hlt (by have := HN.out; omega)
        rw [← hy] at hyb
        clear hr hb hy
        by_cases hlk : k < n
        · have p1 : decide ((k : Int) < (n : Int)) = true := decide_eq_true (by omega)
          have p1' : decide (k < n) = true := decide_eq_true hlk
          have k1 : k < ls.length := by rw [HN.out]; exact hlk
          obtain ⟨g, o, rfl, hcell⟩ := HA.out _ HB2.out k k1
          have hgd : ls.getD k 0 = ls[k] := getD_of k1
          obtain ⟨z, hz⟩ : ∃ z, ls[k] = z := ⟨_, rfl⟩
          rw [hz] at hcell hgd
          have i0 : (0 : Int) ≤ (k : Int) := by omega
          have i1 : (k : Int) < (n : Int) := by omega
          clear hz
          by_cases hzm : z = (m : Int)
          · subst hzm
            have e1 : ((m : Int) == (m : Int)) = true := beq_self_eq_true _
            have HW := Lib.hid (wordB_msb ls k m hgd hm1 hlt)
            have hcode : codeP ls k = y := by
              unfold codeP
              rw [hgd, Int.toNat_natCast]
              exact HY.out.symm
            rw [hcode] at HW
            have HUP := Lib.hid (upW_yes ls m k hgd hm1)
            have HCT := Lib.hid (cnt_take_yes ls m k k1 hgd)
            have T0 : Hid (Value.string ⟨#[]⟩ = .string (txt (msbL 0 y))) := Lib.hid rfl
            have Y0 : Hid (((y : Nat) : Int) = ((y / 2 ^ 0 : Nat) : Int)) := Lib.hid (by rw [Nat.pow_zero, Nat.div_one])
            clear hgd hcode
            go_wp2_with fail
            go_loopw [7, 8, 9] (fun vs vv vj wz => ∃ j : Nat, j ≤ m ∧ vj = .int .i64 j ∧ vs = .string (txt (msbL j y)) ∧ vv = .int .i64 ((y / 2 ^ j : Nat) : Int) ∧ RowS wz B n (fun s => txt (upW ls m k s)) ∧ Below w.heap.size w wz) (fun _ _ vj _ => m - (intOf vj).toNat)
            case atStart => exact ⟨0, Nat.zero_le _, rfl, T0.out, by rw [← Y0.out], HR2.out, HB2.out⟩
            case round =>
              obtain ⟨j, hj, rfl, rfl, rfl, hr, hb⟩ := hrel
              have HR3 := Lib.hid hr
              have HB3 := Lib.hid hb
              clear hr hb
              by_cases hlj : j < m
              · have p2 : decide ((j : Int) < (m : Int)) = true := decide_eq_true (by omega)
                have p2' : decide (j < m) = true := decide_eq_true hlj
                have hle : y / 2 ^ j ≤ y := Nat.div_le_self _ _
                have hdd : y / 2 ^ j / 2 = y / 2 ^ (j + 1) := by rw [Nat.div_div_eq_div_mul, Nat.pow_succ]
                have HDD := Lib.hid hdd
                have HMC : Hid (txt (msbL (j + 1) y) = strOfNums [48 + ((y / 2 ^ j : Nat) : Int) % 2] ++ txt (msbL j y)) := Lib.hid (by
                  rw [msbL_cons, ← List.singleton_append, txt_app, txt_one]
                  congr 3
                  have h2 : (y / 2 ^ j) % 2 < 2 := Nat.mod_lt _ (by omega)
                  by_cases h1 : (y / 2 ^ j) % 2 = 1
                  · rw [decide_eq_true h1]
                    show 48 + 1 = _
                    omega
                  · rw [decide_eq_false h1]
                    show 48 + 0 = _
                    omega)
                obtain ⟨u, hu⟩ : ∃ u, y / 2 ^ j = u := ⟨_, rfl⟩
                rw [hu] at hle HDD HMC ⊢
                have hc := conv_one (48 + (u : Int) % 2) wr
                have s1 : (txt (msbL j y)).size ≤ 1000 := by rw [txt_size, msbL_len]; omega
                have s2 : (strOfNums [48 + (u : Int) % 2]).size = 1 := by rw [strOfNums_size]; rfl
                have htm : Int.tmod (u : Int) 2 = (u : Int) % 2 := Int.tmod_eq_emod_of_nonneg (by omega)
                have htd : Int.tdiv (u : Int) 2 = ((u / 2 : Nat) : Int) := by rw [Int.tdiv_eq_ediv_of_nonneg (by omega)]; rfl
                have e8 : IntKind.u8.wrap (48 + (u : Int) % 2) = 48 + (u : Int) % 2 := by rw [IntKind.wrap_u8]; omega
                clear hdd hu
                go_wp2
                go_roundw
                case rel => exact ⟨j + 1, by omega, by go_num, by rw [HMC.out], by rw [← HDD.out]; rfl, HR3.out.below ((Below.refl _ _).alloc (Nat.le_refl _) _), HB3.out.alloc HB3.out.size _⟩
                case measure => simp [intOf]; omega
              · obtain rfl : j = m := by omega
                have p2 : decide ((j : Int) < (j : Int)) = false := decide_eq_false (by omega)
                obtain ⟨sc, sf⟩ := HR3.out.cell k (by omega)
                have HSet := Lib.hid (HR3.out.set k (txt (msbL j y)) (fun s => txt (upW ls j (k + 1) s)) (fun s hs => by
                  rw [HUP.out s]
                  split
                  · rw [HW.out]
                  · rfl))
                have hBw : w.heap.size ≤ B := by have := HBB.out; omega
                go_wp2
                go_roundw
                case rel => exact ⟨k + 1, y + 1, by omega, by go_num, by go_num, by rw [HCT.out, HY.out, Nat.add_assoc], HSet.out, HB3.out.setCell (p := ⟨B, k, none⟩) hBw _⟩
                case measure => simp [intOf]; omega
          · have e1 : (z == (m : Int)) = false := beq_eq_false_iff_ne.2 hzm
            have HUP := Lib.hid (fun s => upW_no ls m k (by rw [hgd]; exact hzm) s)
            have HCT := Lib.hid (cnt_take_no ls m k k1 (by rw [hgd]; exact hzm))
            clear hgd
            go_wp2
            go_roundw
            case rel => exact ⟨k + 1, y, by omega, by go_num, rfl, by rw [HCT.out]; exact HY.out, by simp only [HUP.out]; exact HR2.out, HB2.out⟩
            case measure => simp [intOf]; omega
        · obtain rfl : k = n := by omega
          have p1 : decide ((k : Int) < (k : Int)) = false := decide_eq_false (by omega)
          have HNX : Hid (2 * y = nxP ls (m + 1)) := Lib.hid (by
            rw [nxP, if_neg (by omega), HY.out, List.take_of_length_le (by rw [HN.out]; exact Nat.le_refl _)])
          have HRN : Hid (RowS wr B k (fun s => txt (upW ls (m + 1) 0 s))) := Lib.hid (by
            have h := HR2.out
            have e : strC k (fun s => txt (upW ls m k s)) = strC k (fun s => txt (upW ls (m + 1) 0 s)) := by
              unfold strC
              congr 1
              refine List.map_congr_left (fun s hs => ?_)
              have h2 := upW_next ls m s (by rw [HN.out]; exact List.mem_range.1 hs)
              rw [HN.out] at h2
              show Value.string (txt (upW ls m k s)) = Value.string (txt (upW ls (m + 1) 0 s))
              rw [h2]
            unfold RowS at h ⊢
            rw [← e]
            exact h)
          go_wp2
          go_roundw
          case rel => exact ⟨m + 1, y, by omega, by omega, by go_num, rfl, HNX.out, HRN.out, HB2.out⟩
          case measure => simp [intOf]; omega
    · obtain rfl : m = 16 := by omega
      have q1 : decide (((16 : Nat) : Int) ≤ 15) = false := by decide
      have HF : Hid (RowS wr B n (fun s => txt (wordB ls s))) := Lib.hid (by
        have h := HR.out
        simp only [upW_end] at h
        exact h)
      have hBw : w.heap.size ≤ B := by have := HBB.out; omega
      clear hx
      go_wp2
      go_ret
      exact ⟨B, rfl, HF.out, hBw, HB.out⟩
end Go.Proofs.YtmpokiflhijnoaaDoor.Rf
