/-
  canon: how a Code lies, and the counts of its lengths.
-/
import Derived.Test.YtnoplhjbachjiaaMgCost
import Derived.BigRegion
namespace Go.Proofs.Ytnoplhjbachjiaa.Mg
open Go.ChangeShapes Go.WideShapes Go.ChangeAt Go.RowKit Go.Shelf Go.Proofs
set_option linter.unusedVariables false
set_option linter.unusedSimpArgs false

/-- A Code in block g: its lengths, words, counts and symbols. -/
def CodeAt (w : World) (g : Nat) (sl wv sv : Value) (f : Nat → Int) : Prop :=
  ∃ cs : Array Value, w.heap[g]? = some (.cells cs 46 (0, 0)) ∧ cs.size = 19 ∧ cs[0]? = some sl ∧ cs[1]? = some wv ∧ cs[18]? = some sv ∧ ∀ m, m < 16 → cs[2 + m]? = some (.int .i64 (f m))

theorem CodeAt.cell {w : World} {g : Nat} {sl wv sv : Value} {f : Nat → Int} (h : CodeAt w g sl wv sv f) : w.cell? ⟨g, 0, none⟩ = some sl ∧ w.cell? ⟨g, 1, none⟩ = some wv ∧ w.cell? ⟨g, 18, none⟩ = some sv ∧ (∀ m, m < 16 → w.cell? ⟨g, 2 + m, none⟩ = some (.int .i64 (f m))) ∧ (∀ k, w.frozen? ⟨g, k, none⟩ = false) ∧ g < w.heap.size := by
  obtain ⟨cs, h1, h2, h3, h4, h5, h6⟩ := h
  have hc : ∀ k, w.cell? ⟨g, k, none⟩ = cs[k]? := fun k => by
    simp only [World.cell?]
    rw [h1]
    simp
  refine ⟨by rw [hc, h3], by rw [hc, h4], by rw [hc, h5], fun m hm => by rw [hc, h6 m hm], fun k => ?_, (Array.getElem?_eq_some_iff.1 h1).1⟩
  simp only [World.frozen?]
  rw [h1]
  simp
theorem CodeAt.heap {w w' : World} {g : Nat} {sl wv sv : Value} {f : Nat → Int} (h : CodeAt w g sl wv sv f) (e : w'.heap[g]? = w.heap[g]?) : CodeAt w' g sl wv sv f := by
  obtain ⟨cs, h1, h2⟩ := h
  exact ⟨cs, e.trans h1, h2⟩
theorem CodeAt.below {w w' : World} {g : Nat} {sl wv sv : Value} {f : Nat → Int} (h : CodeAt w g sl wv sv f) (hb : Below w.heap.size w w') : CodeAt w' g sl wv sv f :=
  h.heap (hb.block g h.cell.2.2.2.2.2)
theorem CodeAt.grown {w w' : World} {g : Nat} {sl wv sv : Value} {f : Nat → Int} (h : CodeAt w g sl wv sv f) {row : Option Nat} (hg : w.grownBy w' row) (hne : some g ≠ row) : CodeAt w' g sl wv sv f :=
  h.heap (hg.block g h.cell.2.2.2.2.2 hne)
theorem CodeAt.bump {w : World} {g : Nat} {sl wv sv : Value} {f : Nat → Int} (h : CodeAt w g sl wv sv f) (m : Nat) (hm : m < 16) (x : Int) : CodeAt (w.setCell ⟨g, 2 + m, none⟩ (.int .i64 x)) g sl wv sv (fun j => if j = m then x else f j) := by
  obtain ⟨cs, h1, h2, h3, h4, h5, h6⟩ := h
  refine ⟨_, heap_setCell_same w g (2 + m) _ _ _ h1, by simpa using h2, ?_, ?_, ?_, fun j hj => ?_⟩
  · rw [Array.getElem?_setIfInBounds, if_neg (by omega)]; exact h3
  · rw [Array.getElem?_setIfInBounds, if_neg (by omega)]; exact h4
  · rw [Array.getElem?_setIfInBounds, if_neg (by omega)]; exact h5
  · show _ = some (Value.int .i64 (if j = m then x else f j))
    rw [Array.getElem?_setIfInBounds]
    by_cases e : j = m
    · subst e
      rw [if_pos rfl, if_pos (by omega), if_pos rfl]
    · rw [if_neg (by omega), if_neg e]; exact h6 j hj
theorem CodeAt.words {w : World} {g : Nat} {sl wv sv : Value} {f : Nat → Int} (h : CodeAt w g sl wv sv f) (x : Value) : CodeAt (w.setCell ⟨g, 1, none⟩ x) g sl x sv f := by
  obtain ⟨cs, h1, h2, h3, h4, h5, h6⟩ := h
  refine ⟨_, heap_setCell_same w g 1 _ _ _ h1, by simpa using h2, ?_, ?_, ?_, fun j hj => ?_⟩
  · rw [Array.getElem?_setIfInBounds, if_neg (by omega)]; exact h3
  · rw [Array.getElem?_setIfInBounds, if_pos rfl, if_pos (by omega)]
  · rw [Array.getElem?_setIfInBounds, if_neg (by omega)]; exact h5
  · rw [Array.getElem?_setIfInBounds, if_neg (by omega)]; exact h6 j hj
theorem CodeAt.syms {w : World} {g : Nat} {sl wv sv : Value} {f : Nat → Int} (h : CodeAt w g sl wv sv f) (x : Value) : CodeAt (w.setCell ⟨g, 18, none⟩ x) g sl wv x f := by
  obtain ⟨cs, h1, h2, h3, h4, h5, h6⟩ := h
  refine ⟨_, heap_setCell_same w g 18 _ _ _ h1, by simpa using h2, ?_, ?_, ?_, fun j hj => ?_⟩
  · rw [Array.getElem?_setIfInBounds, if_neg (by omega)]; exact h3
  · rw [Array.getElem?_setIfInBounds, if_neg (by omega)]; exact h4
  · rw [Array.getElem?_setIfInBounds, if_pos rfl, if_pos (by omega)]
  · rw [Array.getElem?_setIfInBounds, if_neg (by omega)]; exact h6 j hj

/-- Reads, and in another block than B. -/
def ReadsOff (w : World) (B : Nat) (A : Option Addr) (cs : List Int) : Prop := ∀ j (h : j < cs.length), ∃ g o, A = some ⟨g, o, none⟩ ∧ g ≠ B ∧ g < w.heap.size ∧ w.cell? ⟨g, o + j, none⟩ = some (.int .i64 cs[j])
theorem ReadsOff.grown {w w' : World} {B : Nat} {A : Option Addr} {cs : List Int} (h : ReadsOff w B A cs) (hg : w.grownBy w' (some B)) : ReadsOff w' B A cs := fun j hj => by
  obtain ⟨g, o, e, h1, h2, h3⟩ := h j hj
  exact ⟨g, o, e, h1, Nat.lt_of_lt_of_le h2 hg.size, (hg.cell_far ⟨g, o + j, none⟩ h2 (fun e => h1 (Option.some.inj e))).trans h3⟩

/-- How often each length is. -/
def cntF (ls : List Int) (m : Nat) : Int := if m = 0 then 0 else (ls.count (m : Int) : Int)
theorem cntF_nil : cntF [] = fun _ => 0 := by funext m; simp [cntF]
theorem cntF_snoc (ls : List Int) (x : Int) : cntF (ls ++ [x]) = fun j => if 0 < x ∧ j = x.toNat then cntF ls j + 1 else cntF ls j := by
  funext j
  unfold cntF
  by_cases h0 : j = 0
  · subst h0
    rw [if_pos rfl, if_neg (by omega), if_pos rfl]
  · rw [if_neg h0, if_neg h0, List.count_append, List.count_singleton]
    by_cases hx : x = (j : Int)
    · subst hx
      simp
      exact fun h => absurd h h0
    · have hc : ¬ (0 < x ∧ j = x.toNat) := by omega
      rw [if_neg hc]
      simp [hx]
theorem cntF_bound (ls : List Int) (m : Nat) : 0 ≤ cntF ls m ∧ cntF ls m ≤ ls.length := by
  unfold cntF
  split
  · omega
  · have := List.count_le_length (a := (m : Int)) (l := ls)
    omega

/-- What is left behind n lengths. -/
def leftP (f : Nat → Int) : Nat → Int
  | 0 => 1
  | n + 1 => 2 * leftP f n - f (n + 1)
theorem leftP_high (f : Nat → Int) (hf : ∀ m, 0 ≤ f m) : ∀ n, leftP f n ≤ 2 ^ n
  | 0 => by simp [leftP]
  | n + 1 => by
    have h1 := leftP_high f hf n
    have h2 := hf (n + 1)
    rw [leftP, Int.pow_succ]
    omega

set_option maxHeartbeats 4000000 in
theorem fill_calls (g : Nat) (A : Option Addr) (c : Nat) (ls : List Int) (wv sv : Value) (w : World) (hC : CodeAt w g (.slice A ls.length c) wv sv (fun _ => 0)) (hR : ReadsOff w g A ls) (hl : ls.length ≤ 288) (hx : ∀ x ∈ ls, 0 ≤ x ∧ x ≤ 15) (hpos : ∀ n, n ≤ 15 → 0 ≤ leftP (cntF ls) n) :
    Calls Try.prog 19 #[.pointer (some ⟨g, 0, none⟩)] w fun e w' => e = .returned (.int .i64 (leftP (cntF ls) 15)) ∧ w.grownBy w' (some g) ∧ CodeAt w' g (.slice A ls.length c) wv sv (cntF ls) := by
  have HC := Lib.hid hC
  have HR := Lib.hid hR
  have HX := Lib.hid hx
  have HP := Lib.hid hpos
  obtain ⟨n, hn⟩ : ∃ n, ls.length = n := ⟨_, rfl⟩
  rw [hn] at HC hl ⊢
  have HN := Lib.hid hn
  obtain ⟨c0, _, _, _, _, _⟩ := HC.out.cell
  clear hC hR hx hpos hn
  go_enter Try.func19, Try.ntmps19
  go_wp2
  go_loopw [12] (fun i wr => ∃ k : Nat, k ≤ n ∧ i = .int .i64 k ∧ CodeAt wr g (.slice A n c) wv sv (cntF (ls.take k)) ∧ w.grownBy wr (some g)) (fun i _ => n - (intOf i).toNat)
  case atStart => exact ⟨0, Nat.zero_le _, rfl, by rw [List.take_zero, cntF_nil]; exact HC.out, World.grownBy.refl _ _⟩
  case round =>
    obtain ⟨k, hk, rfl, hcode, hg⟩ := hrel
    have HCW := Lib.hid hcode
    have HG := Lib.hid hg
    obtain ⟨d0, _, _, dm, dfr, hgs⟩ := hcode.cell
    have HDM := Lib.hid dm
    clear hcode hg dm
    by_cases hlt : k < n
    · have q1 : decide ((k : Int) < (n : Int)) = true := decide_eq_true (by omega)
      have k1 : k < ls.length := by rw [HN.out]; exact hlt
      obtain ⟨gl, ol, rfl, hne, hlw, hcell⟩ := HR.out.grown HG.out k k1
      have hsn := cntF_snoc (ls.take k) ls[k]
      rw [← List.take_succ_eq_append_getElem k1] at hsn
      have hb := HX.out ls[k] (List.getElem_mem _)
      obtain ⟨x, hxx⟩ : ∃ x, ls[k] = x := ⟨_, rfl⟩
      rw [hxx] at hcell hsn hb
      have HSN := Lib.hid hsn
      clear hxx hsn hne
      by_cases hp : 0 < x
      · have t1 : decide (0 < x) = true := decide_eq_true hp
        obtain ⟨m, rfl⟩ : ∃ m : Nat, x = m := ⟨x.toNat, by omega⟩
        have hm16 : m < 16 := by omega
        have f0 : (0 : Int) ≤ (m : Int) := by omega
        have f1 : (m : Int) < 16 := by omega
        have e1 := HDM.out m hm16
        have e2 := dfr (2 + m)
        have hbd := cntF_bound (ls.take k) m
        rw [List.length_take] at hbd
        obtain ⟨y, hy⟩ : ∃ y, cntF (ls.take k) m = y := ⟨_, rfl⟩
        rw [hy] at e1 hbd
        have w1 : IntKind.i64.wrap (y + 1) = y + 1 := by rw [IntKind.wrap_i64]; omega
        have HY := Lib.hid hy
        clear hy hbd dfr
        go_wp2_with fail
        go_region
        have HN2 : Hid (CodeAt (wr.setCell ⟨g, 2 + m, none⟩ (.int .i64 (y + 1))) g (.slice (some ⟨gl, ol, none⟩) n c) wv sv (cntF (ls.take (k + 1)))) := Lib.hid (by
          have h := HCW.out.bump m hm16 (y + 1)
          have e : (fun j => if j = m then y + 1 else cntF (ls.take k) j) = cntF (ls.take (k + 1)) := by
            rw [HSN.out]
            funext j
            by_cases hj : j = m
            · subst hj
              rw [if_pos rfl, if_pos ⟨hp, by omega⟩, HY.out]
            · rw [if_neg hj, if_neg (by omega)]
          rw [e] at h
          exact h)
        go_wp2
        go_roundw
        case rel => exact ⟨k + 1, by omega, by go_num, HN2.out.heap rfl, HG.out.trans ⟨rfl, rfl, rfl, by simp [World.setCell], fun j hj hne => heap_setCell_other wr _ j _ (fun e => hne (by rw [e]))⟩⟩
        case measure => simp [intOf]; omega
      · have t1 : decide (0 < x) = false := decide_eq_false hp
        have HN2 : Hid (CodeAt wr g (.slice (some ⟨gl, ol, none⟩) n c) wv sv (cntF (ls.take (k + 1)))) := Lib.hid (by
          have e : cntF (ls.take (k + 1)) = cntF (ls.take k) := by
            rw [HSN.out]
            funext j
            rw [if_neg (by omega)]
          rw [e]
          exact HCW.out)
        go_wp2
        go_roundw
        case rel => exact ⟨k + 1, by omega, by go_num, HN2.out, HG.out⟩
        case measure => simp [intOf]; omega
    · have hkn : k = n := by omega
      have q1 : decide ((k : Int) < (n : Int)) = false := decide_eq_false (by omega)
      have HCN : Hid (CodeAt wr g (.slice A n c) wv sv (cntF ls)) := Lib.hid (by
        have h := HCW.out
        rw [hkn, ← HN.out, List.take_length] at h
        rw [← HN.out]
        exact h)
      have HBD := Lib.hid (cntF_bound ls)
      have HLH := Lib.hid (leftP_high (cntF ls) (fun m => (HBD.out m).1))
      clear hkn
      go_wp2
      go_loop [5, 6] (fun l i => ∃ m : Nat, 1 ≤ m ∧ m ≤ 16 ∧ i = .int .i64 m ∧ l = .int .i64 (leftP (cntF ls) (m - 1))) (fun _ i => 17 - (intOf i).toNat)
      case atStart => exact ⟨1, Nat.le_refl _, by omega, rfl, rfl⟩
      case round =>
        obtain ⟨m, hm1, hm2, rfl, rfl⟩ := hrel
        by_cases hlt2 : m < 16
        · have q2 : decide ((m : Int) ≤ 15) = true := decide_eq_true (by omega)
          have f0 : (0 : Int) ≤ (m : Int) := by omega
          have f1 : (m : Int) < 16 := by omega
          have e1 := HDM.out m (by omega)
          have e3 : cntF (ls.take k) m = cntF ls m := by
            have hkn : k = n := by omega
            rw [hkn, ← HN.out, List.take_length]
          rw [e3] at e1
          have hbd := HBD.out m
          have h1 := HLH.out (m - 1)
          have h2 := HP.out (m - 1) (by omega)
          have h3 := HP.out m (by omega)
          have h4 : leftP (cntF ls) m = 2 * leftP (cntF ls) (m - 1) - cntF ls m := by
            obtain ⟨p, rfl⟩ : ∃ p, m = p + 1 := ⟨m - 1, by omega⟩
            rfl
          have h5 : (2 : Int) ^ (m - 1) ≤ 2 ^ 15 := by
            have := Nat.pow_le_pow_right (n := 2) (i := m - 1) (j := 15) (by omega) (by omega)
            exact_mod_cast this
          obtain ⟨y, hy⟩ : ∃ y, cntF ls m = y := ⟨_, rfl⟩
          obtain ⟨l, hl⟩ : ∃ l, leftP (cntF ls) (m - 1) = l := ⟨_, rfl⟩
          rw [hy] at e1 hbd h4
          rw [hl] at h1 h2 h4 ⊢
          rw [HN.out] at hbd
          have w1 : IntKind.i64.wrap (2 * l) = 2 * l := by rw [IntKind.wrap_i64]; omega
          have w2 : IntKind.i64.wrap (2 * l - y) = 2 * l - y := by rw [IntKind.wrap_i64]; omega
          have q3 : decide (2 * l - y < 0) = false := decide_eq_false (by omega)
          have H4 := Lib.hid h4
          clear hy hl h4 h5 e3 h1 h2 h3
          go_wp2
          go_round
          case rel => exact ⟨m + 1, by omega, by omega, by go_num, by rw [Nat.add_sub_cancel, H4.out]⟩
          case measure => simp [intOf]; omega
        · obtain rfl : m = 16 := by omega
          go_wp2
          go_ret
          exact ⟨rfl, HG.out, HCN.out⟩

end Go.Proofs.Ytnoplhjbachjiaa.Mg
