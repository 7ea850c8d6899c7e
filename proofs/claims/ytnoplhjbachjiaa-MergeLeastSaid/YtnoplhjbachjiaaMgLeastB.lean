/-
  The reference's Least, walked: it answers the table's best.
-/
import Derived.Test.YtnoplhjbachjiaaMgLeastA
namespace Go.Proofs.Ytnoplhjbachjiaa.Mg
open Go.ChangeShapes Go.WideShapes Go.ChangeAt Go.RowKit Go.Shelf Go.Proofs
set_option linter.unusedVariables false
set_option linter.unusedSimpArgs false

theorem info_row : (Try.prog.info? 22).map (fun i => (i.zero, i.size, i.bytes)) = some (some (.slice none 0 0), 1, 24) := by kernel_rfl
theorem made_nil (n : Nat) : madeCells #[Value.slice none 0 0] n = (List.replicate n (Value.slice none 0 0)).toArray := by
  apply Array.ext_getElem?
  intro i
  simp only [madeCells]
  by_cases h : i < n
  · simp [h, Nat.mod_one]
  · simp [h]
theorem rowL_zero (n : Nat) : List.replicate (n + 1) (0 : Int) = rowL n (fun _ => 0) := by unfold rowL; rw [List.map_const', List.length_range]
/-- What is left from a place on. -/
def restF (l : List Int) (i : Nat) : Int := (l.drop i).sum
theorem restF_succ (l : List Int) (p : Nat) (h : p < l.length) : restF l p = l[p] + restF l (p + 1) := by
  unfold restF
  rw [List.drop_eq_getElem_cons h, List.sum_cons]
theorem restF_bound (l : List Int) (B : Int) (hl : ∀ x ∈ l, 0 ≤ x ∧ x ≤ B) : ∀ d i, i + d = l.length → 0 ≤ restF l i ∧ restF l i ≤ d * B
  | 0, i, h => by
    have : restF l i = 0 := by unfold restF; rw [List.drop_of_length_le (by omega)]; rfl
    rw [this]; simp
  | d + 1, i, h => by
    have h1 := restF_bound l B hl d (i + 1) (by omega)
    have h2 := hl l[i] (List.getElem_mem (by omega))
    rw [restF_succ l i (by omega)]
    push_cast
    rw [Int.add_mul]
    omega

theorem stepW_same (n : Nat) (cost : Int) (i op w : Nat) (s : St) (h : ¬ (min (op - w) n = 0 ∧ i + w = n ∧ (s.best < 0 ∨ cost < s.best)) ∧ ¬ (0 < min (op - w) n ∧ i + w < n ∧ min (op - w) n ≤ n - i - w ∧ (s.next (i + w) (min (op - w) n) < 0 ∨ cost < s.next (i + w) (min (op - w) n)))) : stepW n cost i op w s = s := by
  unfold stepW
  rw [if_neg h.2, if_neg h.1]
theorem stepW_best (n : Nat) (cost : Int) (i op w : Nat) (s : St) (h1 : min (op - w) n = 0) (h2 : i + w = n) (h3 : s.best < 0 ∨ cost < s.best) : stepW n cost i op w s = { next := s.next, best := cost } := by
  unfold stepW
  rw [if_neg (fun h => by omega), if_pos ⟨h1, h2, h3⟩]
theorem stepW_next (n : Nat) (cost : Int) (i op w : Nat) (s : St) (h1 : 0 < min (op - w) n) (h2 : i + w < n) (h3 : min (op - w) n ≤ n - i - w) (h4 : s.next (i + w) (min (op - w) n) < 0 ∨ cost < s.next (i + w) (min (op - w) n)) : stepW n cost i op w s = { next := putT s.next (i + w) (min (op - w) n) cost, best := s.best } := by
  unfold stepW
  rw [if_pos ⟨h1, h2, h3, h4⟩, if_neg (fun h => by omega)]

theorem alloc_setCell_swap (w : World) (g i : Nat) (v : Value) (o : Obj) (h : g < w.heap.size) : (w.alloc o).setCell ⟨g, i, none⟩ v = (w.setCell ⟨g, i, none⟩ v).alloc o := by
  first | exact World.setCell_alloc_past o g i v h | exact World.setCell_alloc_past w o g i v h
theorem PartAt.congr {w : World} {g n : Nat} {rs : List Nat} {f h : Tab} (hp : PartAt w g n rs f) (e : ∀ i k, i < rs.length → k ≤ n → f i k = h i k) : PartAt w g n rs h :=
  ⟨hp.blk, hp.le, fun i hi => by rw [← rowL_congr n (f i) (h i) (fun k hk => e i k hi hk)]; exact hp.rows i hi, hp.inj⟩
theorem part_nil (w : World) (n : Nat) (f : Tab) : PartAt (w.alloc (.cells (Array.replicate (n + 1) (Value.slice none 0 0)) 22)) w.heap.size n [] f := by
  refine ⟨?_, Nat.zero_le _, fun i hi => (by cases hi), List.nodup_nil⟩
  rw [heap_new]
  simp
theorem part_more {w : World} {g n m : Nat} {rs : List Nat} (h : PartAt w g n rs (fun _ _ => -1)) (hm : rs.length = m) (hlt : m ≤ n) :
    PartAt ((w.setCell ⟨g, m, none⟩ (.slice (some ⟨w.heap.size, 0, none⟩) (n + 1) (n + 1))).alloc (.cells (cellsI (rowL n (fun _ => 0))) 3)) g n (rs ++ [w.heap.size]) (fun a b => if a = m then (if b < 0 then -1 else 0) else -1) := by
  have h1 := h.more (by omega) w.heap.size (Nat.le_refl _) (w' := w.alloc (.cells (cellsI (rowL n (fun _ => 0))) 3)) ((Below.refl _ _).alloc (Nat.le_refl _) _) (heap_new w _)
  have hg := (Array.getElem?_eq_some_iff.1 h.blk).1
  have e : ((w.alloc (.cells (cellsI (rowL n (fun _ => 0))) 3)).setCell ⟨g, rs.length, none⟩ (rowS n w.heap.size)) = ((w.setCell ⟨g, m, none⟩ (.slice (some ⟨w.heap.size, 0, none⟩) (n + 1) (n + 1))).alloc (.cells (cellsI (rowL n (fun _ => 0))) 3)) := by
    rw [hm]
    exact alloc_setCell_swap w g m _ _ hg
  rw [e] at h1
  refine h1.congr fun i k hi hk => ?_
  by_cases hi2 : i = m
  · rw [if_pos (by omega), if_pos hi2, if_neg (by omega)]
  · rw [if_neg (by omega), if_neg hi2]

set_option maxHeartbeats 16000000 in
set_option maxRecDepth 200000 in
theorem least_calls (g c n0 n : Nat) (cs : List Int) (most : Int) (w : World) (hr : RowC w g cs) (hn0 : cs.length = n0) (hl0 : n0 ≤ 24) (hc : ∀ x ∈ cs, 0 ≤ x ∧ x ≤ 1073741823) (hm : 1 ≤ most ∧ most ≤ 15) (hn : (srtTo cs n0).length = n) (hn2 : 2 ≤ n) (hs : ∀ x ∈ srtTo cs n0, 0 ≤ x ∧ x ≤ 1073741823) :
    Calls Try.prog 11 #[.slice (some ⟨g, 0, none⟩) n0 c, .int .i64 most] w fun e w' => e = .returned (.int .i64 (lvlT n (restF (srtTo cs n0)) most.toNat).best) ∧ Below w.heap.size w w' := by
  have hn24 : n ≤ 24 := by have := srtTo_len cs n0; omega
  obtain ⟨i0, hi, hz0, hz1, hz2⟩ := info_parts info_int
  obtain ⟨i1, hj, hy0, hy1, hy2⟩ := info_parts info_row
  have hmk : ∀ W : World, (Instr.makeSlice 22 (.int .i64 ((n : Int) + 1)) (.int .i64 ((n : Int) + 1))).run Try.prog W = .ok (.slice (some ⟨W.heap.size, 0, none⟩) (n + 1) (n + 1)) (W.alloc (.cells (cellsI (rowL n (fun _ => 0))) 3)) := fun W => by
    have := run_make (P := Try.prog) W 22 3 i0 (.int .i64 0) Try.underlying22 hi hz0 .i64 .i64 ((n : Int) + 1) ((n : Int) + 1) (by omega) (by omega) (by rw [hz2]; omega) (by omega)
    have e : ((n : Int) + 1).toNat = n + 1 := by omega
    rw [e, hz1, Nat.mul_one] at this
    rw [← rowL_zero, ← made_cells]
    exact this
  have hmk2 : ∀ W : World, (Instr.makeSlice 48 (.int .i64 ((n : Int) + 1)) (.int .i64 ((n : Int) + 1))).run Try.prog W = .ok (.slice (some ⟨W.heap.size, 0, none⟩) (n + 1) (n + 1)) (W.alloc (.cells (List.replicate (n + 1) (Value.slice none 0 0)).toArray 22)) := fun W => by
    have := run_make (P := Try.prog) W 48 22 i1 (.slice none 0 0) Try.underlying48 hj hy0 .i64 .i64 ((n : Int) + 1) ((n : Int) + 1) (by omega) (by omega) (by rw [hy2]; omega) (by omega)
    have e : ((n : Int) + 1).toNat = n + 1 := by omega
    rw [e, hy1, Nat.mul_one] at this
    rw [← made_nil]
    exact this
  have wn1 : IntKind.i64.wrap ((n : Int) + 1) = (n : Int) + 1 := by rw [IntKind.wrap_i64]; omega
  have wn2 : IntKind.i64.wrap ((n : Int) - 1) = (n : Int) - 1 := by rw [IntKind.wrap_i64]; omega
  have HSC := Lib.hid (sorted_calls g c n0 cs w hr hn0 (by omega))
  obtain ⟨l, hl⟩ : ∃ l, srtTo cs n0 = l := ⟨_, rfl⟩
  rw [hl] at hs hn HSC ⊢
  have HS := Lib.hid hs
  have HLN := Lib.hid hn
  have HM := Lib.hid hm
  have HRB := Lib.hid (fun i (h : i ≤ n) => restF_bound l 1073741823 hs (n - i) i (by omega))
  obtain ⟨ans, hans⟩ : ∃ ans, (lvlT n (restF l) most.toNat).best = ans := ⟨_, rfl⟩
  rw [hans]
  have HANS := Lib.hid hans
  rw [hn] at HSC
  have HMK := Lib.hid hmk
  clear hr hc hm hn hs hi hz0 hz1 hz2 hj hy0 hy1 hy2 hl hans
  go_enter Try.func11, Try.ntmps11
  go_upto_region 4 with (go_at_call 22; refine HSC.out.mono ?_; rintro e w1 ⟨v, rfl, hown, hb1⟩; have HB1 := Lib.hid hb1; obtain ⟨gl, capl, rfl, hgl, hrl⟩ := row_of_own hown HLN.out (own_some hown (by omega)); have HRL := Lib.hid hrl; clear hown hb1 hrl)
  have HR0 : Hid (RowI (w1.alloc (.cells (cellsI (rowL n (fun _ => 0))) 3)) w1.heap.size (rowL n (fun j => if j < n then 0 else restF l j))) := Lib.hid (by
    have e : rowL n (fun j => if j < n then 0 else restF l j) = rowL n (fun _ => 0) := by
      refine rowL_congr n _ _ fun k hk => ?_
      by_cases h : k < n
      · rw [if_pos h]
      · rw [if_neg h]
        unfold restF
        rw [List.drop_of_length_le (by rw [HLN.out]; omega)]
        rfl
    rw [e]
    exact heap_new w1 _)
  have HB2 : Hid (Below w1.heap.size w1 (w1.alloc (.cells (cellsI (rowL n (fun _ => 0))) 3))) := Lib.hid ((Below.refl _ _).alloc (Nat.le_refl _) _)
  go_wp2
  go_loopw [8] (fun i wr => ∃ m : Nat, m ≤ n ∧ i = .int .i64 ((m : Int) - 1) ∧ RowI wr w1.heap.size (rowL n (fun j => if j < m then 0 else restF l j)) ∧ Below w1.heap.size w1 wr) (fun i _ => ((intOf i) + 1).toNat)
  case atStart => exact ⟨n, Nat.le_refl _, rfl, HR0.out, HB2.out⟩
  case round =>
    obtain ⟨m, hmn, rfl, hrow, hbw⟩ := hrel
    have HR := Lib.hid hrow
    have HB := Lib.hid hbw
    have hB1 := hbw.size
    clear hrow hbw
    by_cases hm0 : 0 < m
    · obtain ⟨p, rfl⟩ : ∃ p, m = p + 1 := ⟨m - 1, by omega⟩
      have ep : ((p + 1 : Nat) : Int) - 1 = (p : Int) := by omega
      rw [ep]
      have q1 : decide ((0 : Int) ≤ (p : Int)) = true := decide_eq_true (by omega)
      have f0 : (0 : Int) ≤ (p : Int) := by omega
      have f1 : (p : Int) < (n : Int) := by omega
      have f2 : (0 : Int) ≤ (p : Int) + 1 := by omega
      have f3 : (p : Int) + 1 < (n : Int) + 1 := by omega
      have f4 : (p : Int) < (n : Int) + 1 := by omega
      have w1a : IntKind.i64.wrap ((p : Int) + 1) = (p : Int) + 1 := by rw [IntKind.wrap_i64]; omega
      have k1 : p + 1 < (rowL n (fun j => if j < p + 1 then 0 else restF l j)).length := by rw [rowL_len]; omega
      have k2 : p < (rowL n (fun j => if j < p + 1 then 0 else restF l j)).length := by rw [rowL_len]; omega
      have c1 := (HR.out.cell (p + 1) k1).1
      rw [rowL_get, if_neg (by omega)] at c1
      obtain ⟨c2, fr2⟩ := HR.out.cell p k2
      have kl : p < l.length := by rw [HLN.out]; omega
      have e0 := (HRL.out.cell p kl).1
      have c3 := (HB.out.cell (World.block_lt_of_cell? w1 _ e0)).trans e0
      have hb1 := HRB.out (p + 1) (by omega)
      have hb2 := HRB.out p (by omega)
      have hss := restF_succ l p kl
      have hxx := HS.out l[p] (List.getElem_mem kl)
      obtain ⟨x, hx⟩ : ∃ x, l[p] = x := ⟨_, rfl⟩
      obtain ⟨y, hy⟩ : ∃ y, restF l (p + 1) = y := ⟨_, rfl⟩
      rw [hx] at c3 hss hxx
      rw [hy] at c1 hb1 hss
      have hyb : y ≤ 1073741823 * 24 := by
        refine Int.le_trans hb1.2 ?_
        have : ((n - (p + 1) : Nat) : Int) ≤ 24 := by omega
        omega
      have w2a : IntKind.i64.wrap (y + x) = y + x := by rw [IntKind.wrap_i64]; omega
      have HNX : Hid ((rowL n (fun j => if j < p + 1 then 0 else restF l j)).set p (y + x) = rowL n (fun j => if j < p then 0 else restF l j)) := Lib.hid (by
        rw [rowL_set]
        refine rowL_congr n _ _ fun k hk => ?_
        by_cases h : k = p
        · subst h
          rw [if_pos rfl, if_neg (by omega), hss]
          omega
        · rw [if_neg h]
          by_cases h2 : k < p
          · rw [if_pos (by omega), if_pos h2]
          · rw [if_neg (by omega), if_neg h2])
      have hgr : w1.heap.size < wr.heap.size := (Array.getElem?_eq_some_iff.1 HR.out).1
      clear e0 hx hy hb1 hb2 hss ep
      go_wp2_with fail
      go_region
      have HX2 : Hid (RowI (wr.setCell ⟨w1.heap.size, p, none⟩ (.int .i64 (y + x))) w1.heap.size (rowL n (fun j => if j < p then 0 else restF l j))) := Lib.hid (by rw [← HNX.out]; exact HR.out.set p (y + x))
      have HBX : Hid (Below w1.heap.size w1 (wr.setCell ⟨w1.heap.size, p, none⟩ (.int .i64 (y + x)))) := Lib.hid (HB.out.setCell (Nat.le_refl _) _)
      go_wp2
      go_roundw
      case rel => exact ⟨p, by omega, by go_num, HX2.out, HBX.out.drew⟩
      case measure => first | (simp [intOf]; done) | (simp [intOf]; omega)
    · obtain rfl : m = 0 := by omega
      have q1 : decide ((0 : Int) ≤ ((0 : Nat) : Int) - 1) = false := by decide
      have HRR : Hid (RowI wr w1.heap.size (rowL n (restF l))) := Lib.hid (by
        have h := HR.out
        have e : rowL n (fun j => if j < 0 then 0 else restF l j) = rowL n (restF l) := rowL_congr n _ _ fun k hk => by rw [if_neg (by omega)]
        rw [e] at h
        exact h)
      generalize wr = wA at *
      go_upto_region 9 with fail
      have HP0 : Hid (PartAt (wA.alloc (.cells (Array.replicate (n + 1) (Value.slice none 0 0)) 22)) wA.heap.size n [] (fun _ _ => -1)) := Lib.hid (part_nil wA n _)
      have HPB : Hid (Below wA.heap.size wA (wA.alloc (.cells (Array.replicate (n + 1) (Value.slice none 0 0)) 22))) := Lib.hid ((Below.refl _ _).alloc (Nat.le_refl _) _)
      go_wp2
      go_loopw [10] (fun i wr => ∃ rs : List Nat, rs.length ≤ n + 1 ∧ i = .int .i64 (rs.length : Nat) ∧ PartAt wr wA.heap.size n rs (fun _ _ => -1) ∧ (∀ r ∈ rs, wA.heap.size ≤ r) ∧ Below wA.heap.size wA wr) (fun i _ => n + 1 - (intOf i).toNat)
      case atStart => exact ⟨[], Nat.zero_le _, rfl, HP0.out, fun r h => (by cases h), HPB.out⟩
      case round =>
        obtain ⟨rs, hrl, rfl, hpt, hlo, hbw⟩ := hrel
        have HLO := Lib.hid hlo
        clear hlo
        have HPT := Lib.hid hpt
        have HBW := Lib.hid hbw
        have hBB := hbw.size
        clear hpt hbw
        obtain ⟨m, hm⟩ : ∃ m, rs.length = m := ⟨_, rfl⟩
        have HMR := Lib.hid hm
        rw [hm] at hrl ⊢
        clear hm
        by_cases hmn2 : m ≤ n
        · have q5 : decide ((m : Int) ≤ (n : Int)) = true := decide_eq_true (by omega)
          have f5 : (0 : Int) ≤ (m : Int) := by omega
          have f6 : (m : Int) < (n : Int) + 1 := by omega
          have hmk3 := HMK.out
          obtain ⟨⟨v5, sv5⟩, sf5, sg5⟩ := HPT.out.slot m hmn2
          have HPM := Lib.hid (part_more HPT.out HMR.out hmn2)
          have HBM : Hid (Below wA.heap.size wA ((wr.setCell ⟨wA.heap.size, m, none⟩ (.slice (some ⟨wr.heap.size, 0, none⟩) (n + 1) (n + 1))).alloc (.cells (cellsI (rowL n (fun _ => 0))) 3))) := Lib.hid ((HBW.out.setCell (Nat.le_refl _) _).alloc (by simp [World.setCell]; omega) _)
          have hrm : (rs ++ [wr.heap.size])[m]? = some wr.heap.size := by
            rw [List.getElem?_append_right (by rw [HMR.out]; exact Nat.le_refl _), HMR.out, Nat.sub_self]
            rfl
          have hml : m < (rs ++ [wr.heap.size]).length := by rw [List.length_append, HMR.out]; simp
          rw [List.getElem?_eq_getElem hml, Option.some.injEq] at hrm
          have HRM := Lib.hid hrm
          have HRLEN : Hid ((rs ++ [wr.heap.size]).length = m + 1) := Lib.hid (by rw [List.length_append, HMR.out]; rfl)
          clear hrm hmk3
          have hmk3 := HMK.out
          go_upto_region 13 with fail
          clear sv5 hmk3
          have HLO2 : Hid (∀ r ∈ rs ++ [wr.heap.size], wA.heap.size ≤ r) := Lib.hid (fun r h => by
            rcases List.mem_append.1 h with h | h
            · exact HLO.out r h
            · rw [List.mem_singleton.1 h]; exact hBB)
          generalize wr.heap.size = r at *
          obtain ⟨rs2, hrs2⟩ : ∃ q, rs ++ [r] = q := ⟨_, rfl⟩
          simp only [hrs2] at HPM HRM HRLEN hml HLO2
          go_wp2
          go_loopw [11] (fun i wx => ∃ k : Nat, k ≤ n + 1 ∧ i = .int .i64 k ∧ PartAt wx wA.heap.size n rs2 (fun a b => if a = m then (if b < k then -1 else 0) else -1) ∧ Below wA.heap.size wA wx) (fun i _ => n + 1 - (intOf i).toNat)
          case atStart => exact ⟨0, Nat.zero_le _, rfl, HPM.out, HBM.out⟩
          case round =>
            obtain ⟨k, hk, rfl, hpt, hbw⟩ := hrel
            have HPK := Lib.hid hpt
            have HBK := Lib.hid hbw
            clear hpt hbw
            by_cases hkn : k ≤ n
            · have q6 : decide ((k : Int) ≤ (n : Int)) = true := decide_eq_true (by omega)
              have f7 : (0 : Int) ≤ (k : Int) := by omega
              have f8 : (k : Int) < (n : Int) + 1 := by omega
              have cr := HPK.out.row m hml
              obtain ⟨cg, fg, lg⟩ := HPK.out.get m k hml hkn
              have HPU := HPK.out.put m k hml (-1)
              rw [HRM.out] at cr cg fg lg HPU
              have HP9 : Hid (PartAt (wr.setCell ⟨r, k, none⟩ (.int .i64 (-1))) wA.heap.size n rs2 (fun a b => if a = m then (if b < k + 1 then -1 else 0) else -1)) := Lib.hid (HPU.congr fun a b _ _ => by
                unfold putT
                by_cases ha : a = m
                · by_cases hb : b = k
                  · simp [ha, hb]
                  · by_cases h3 : b < k
                    · simp [ha, hb, h3, show b < k + 1 by omega]
                    · simp [ha, hb, h3, show ¬ b < k + 1 by omega]
                · simp [ha])
              have HB9 : Hid (Below wA.heap.size wA (wr.setCell ⟨r, k, none⟩ (.int .i64 (-1)))) := Lib.hid (HBK.out.setCell hBB _)
              clear HPU
              go_wp2
              go_roundw
              case rel => exact ⟨k + 1, by omega, by go_num, HP9.out, HB9.out⟩
              case measure => simp [intOf]; omega
            · obtain rfl : k = n + 1 := by omega
              have q6 : decide (((n + 1 : Nat) : Int) ≤ (n : Int)) = false := decide_eq_false (by omega)
              have HP9 : Hid (PartAt wr wA.heap.size n rs2 (fun _ _ => -1)) := Lib.hid (HPK.out.congr fun a b _ hb => by
                by_cases ha : a = m
                · simp [ha, show b < n + 1 by omega]
                · simp [ha])
              go_wp2
              go_roundw
              case rel => exact ⟨rs2, by rw [HRLEN.out]; omega, by rw [HRLEN.out]; go_num, HP9.out, HLO2.out, HBK.out⟩
              case measure => simp [intOf]; omega
        · have hmn3 : m = n + 1 := by omega
          have q5 : decide ((m : Int) ≤ (n : Int)) = false := decide_eq_false (by omega)
          have HRN : Hid (rs.length = n + 1) := Lib.hid (by rw [HMR.out, hmn3])
          clear hmn3
          generalize wr = wB at *
          have hrl1 : 0 < rs.length := by rw [HRN.out]; omega
          have cr := HPT.out.row 0 hrl1
          obtain ⟨cg, fg, lg⟩ := HPT.out.get 0 1 hrl1 (by omega)
          have hlo0 := HLO.out rs[0] (List.getElem_mem hrl1)
          have HPU := HPT.out.put 0 1 hrl1 0
          obtain ⟨r0, hr0⟩ : ∃ r, rs[0] = r := ⟨_, rfl⟩
          rw [hr0] at cr cg fg lg HPU hlo0
          have HP1 : Hid (PartAt (wB.setCell ⟨r0, 1, none⟩ (.int .i64 0)) wA.heap.size n rs (lvlT n (restF l) 0).next) := Lib.hid (HPU.congr fun a b _ _ => by
            show putT (fun _ _ => -1) 0 1 0 a b = tab0 a b
            rfl)
          have HBP : Hid (Below wA.heap.size wA (wB.setCell ⟨r0, 1, none⟩ (.int .i64 0))) := Lib.hid (HBW.out.setCell hlo0 _)
          have f9 : (0 : Int) < (n : Int) + 1 := by omega
          have f10 : (1 : Int) < (n : Int) + 1 := by omega
          obtain ⟨M, hM⟩ : ∃ M : Nat, most = M := ⟨most.toNat, by have := HM.out; omega⟩
          have HMM := Lib.hid hM
          have hM15 : M ≤ 15 := by have := HM.out; omega
          clear HPU hr0
          subst hM
          go_wp2
          go_loopw [9, 12, 13] (fun av bv lv wr => ∃ (t ga : Nat) (ra : List Nat), t ≤ M ∧ lv = .int .i64 t ∧ bv = .int .i64 (lvlT n (restF l) t).best ∧ av = .slice (some ⟨ga, 0, none⟩) (n + 1) (n + 1) ∧ ra.length = n + 1 ∧ PartAt wr ga n ra (lvlT n (restF l) t).next ∧ Below wA.heap.size wA wr) (fun _ _ lv _ => M - (intOf lv).toNat)
          case atStart => exact ⟨0, wA.heap.size, rs, Nat.zero_le _, rfl, rfl, rfl, HRN.out, HP1.out, HBP.out⟩
          case round =>
            obtain ⟨t, ga, ra, htM, rfl, rfl, rfl, hra, hpt, hbw⟩ := hrel
            have HRA := Lib.hid hra
            have HPA := Lib.hid hpt
            have HBL := Lib.hid hbw
            have hBL := hbw.size
            clear hra hpt hbw cr cg fg lg hlo0 hrl1
            by_cases hlt : t < M
            · have q3 : decide ((t : Int) < (M : Int)) = true := decide_eq_true (by omega)
              generalize wr = wL at *
              go_upto_region 23 with fail
              have HP0 : Hid (PartAt (wL.alloc (.cells (Array.replicate (n + 1) (Value.slice none 0 0)) 22)) wL.heap.size n [] (fun _ _ => -1)) := Lib.hid (part_nil wL n _)
              have HPB : Hid (Below wL.heap.size wL (wL.alloc (.cells (Array.replicate (n + 1) (Value.slice none 0 0)) 22))) := Lib.hid ((Below.refl _ _).alloc (Nat.le_refl _) _)
              go_wp2
              go_loopw [15] (fun i wr => ∃ rs : List Nat, rs.length ≤ n + 1 ∧ i = .int .i64 (rs.length : Nat) ∧ PartAt wr wL.heap.size n rs (fun _ _ => -1) ∧ (∀ r ∈ rs, wL.heap.size ≤ r) ∧ Below wL.heap.size wL wr) (fun i _ => n + 1 - (intOf i).toNat)
              case atStart => exact ⟨[], Nat.zero_le _, rfl, HP0.out, fun r h => (by cases h), HPB.out⟩
              case round =>
                obtain ⟨rs, hrl, rfl, hpt, hlo, hbw⟩ := hrel
                have HLO := Lib.hid hlo
                clear hlo
                have HPT := Lib.hid hpt
                have HBW := Lib.hid hbw
                have hBB := hbw.size
                clear hpt hbw
                obtain ⟨m, hm⟩ : ∃ m, rs.length = m := ⟨_, rfl⟩
                have HMR := Lib.hid hm
                rw [hm] at hrl ⊢
                clear hm
                by_cases hmn2 : m ≤ n
                · have q5 : decide ((m : Int) ≤ (n : Int)) = true := decide_eq_true (by omega)
                  have f5 : (0 : Int) ≤ (m : Int) := by omega
                  have f6 : (m : Int) < (n : Int) + 1 := by omega
                  have hmk3 := HMK.out
                  obtain ⟨⟨v5, sv5⟩, sf5, sg5⟩ := HPT.out.slot m hmn2
                  have HPM := Lib.hid (part_more HPT.out HMR.out hmn2)
                  have HBM : Hid (Below wL.heap.size wL ((wr.setCell ⟨wL.heap.size, m, none⟩ (.slice (some ⟨wr.heap.size, 0, none⟩) (n + 1) (n + 1))).alloc (.cells (cellsI (rowL n (fun _ => 0))) 3))) := Lib.hid ((HBW.out.setCell (Nat.le_refl _) _).alloc (by simp [World.setCell]; omega) _)
                  have hrm : (rs ++ [wr.heap.size])[m]? = some wr.heap.size := by
                    rw [List.getElem?_append_right (by rw [HMR.out]; exact Nat.le_refl _), HMR.out, Nat.sub_self]
                    rfl
                  have hml : m < (rs ++ [wr.heap.size]).length := by rw [List.length_append, HMR.out]; simp
                  rw [List.getElem?_eq_getElem hml, Option.some.injEq] at hrm
                  have HRM := Lib.hid hrm
                  have HRLEN : Hid ((rs ++ [wr.heap.size]).length = m + 1) := Lib.hid (by rw [List.length_append, HMR.out]; rfl)
                  clear hrm hmk3
                  have hmk3 := HMK.out
                  go_upto_region 27 with fail
                  clear sv5 hmk3
                  have HLO2 : Hid (∀ r ∈ rs ++ [wr.heap.size], wL.heap.size ≤ r) := Lib.hid (fun r h => by
                    rcases List.mem_append.1 h with h | h
                    · exact HLO.out r h
                    · rw [List.mem_singleton.1 h]; exact hBB)
                  generalize wr.heap.size = r at *
                  obtain ⟨rs2, hrs2⟩ : ∃ q, rs ++ [r] = q := ⟨_, rfl⟩
                  simp only [hrs2] at HPM HRM HRLEN hml HLO2
                  go_wp2
                  go_loopw [16] (fun i wx => ∃ k : Nat, k ≤ n + 1 ∧ i = .int .i64 k ∧ PartAt wx wL.heap.size n rs2 (fun a b => if a = m then (if b < k then -1 else 0) else -1) ∧ Below wL.heap.size wL wx) (fun i _ => n + 1 - (intOf i).toNat)
                  case atStart => exact ⟨0, Nat.zero_le _, rfl, HPM.out, HBM.out⟩
                  case round =>
                    obtain ⟨k, hk, rfl, hpt, hbw⟩ := hrel
                    have HPK := Lib.hid hpt
                    have HBK := Lib.hid hbw
                    clear hpt hbw
                    by_cases hkn : k ≤ n
                    · have q6 : decide ((k : Int) ≤ (n : Int)) = true := decide_eq_true (by omega)
                      have f7 : (0 : Int) ≤ (k : Int) := by omega
                      have f8 : (k : Int) < (n : Int) + 1 := by omega
                      have cr := HPK.out.row m hml
                      obtain ⟨cg, fg, lg⟩ := HPK.out.get m k hml hkn
                      have HPU := HPK.out.put m k hml (-1)
                      rw [HRM.out] at cr cg fg lg HPU
                      have HP9 : Hid (PartAt (wr.setCell ⟨r, k, none⟩ (.int .i64 (-1))) wL.heap.size n rs2 (fun a b => if a = m then (if b < k + 1 then -1 else 0) else -1)) := Lib.hid (HPU.congr fun a b _ _ => by
                        unfold putT
                        by_cases ha : a = m
                        · by_cases hb : b = k
                          · simp [ha, hb]
                          · by_cases h3 : b < k
                            · simp [ha, hb, h3, show b < k + 1 by omega]
                            · simp [ha, hb, h3, show ¬ b < k + 1 by omega]
                        · simp [ha])
                      have HB9 : Hid (Below wL.heap.size wL (wr.setCell ⟨r, k, none⟩ (.int .i64 (-1)))) := Lib.hid (HBK.out.setCell hBB _)
                      clear HPU
                      go_wp2
                      go_roundw
                      case rel => exact ⟨k + 1, by omega, by go_num, HP9.out, HB9.out⟩
                      case measure => simp [intOf]; omega
                    · obtain rfl : k = n + 1 := by omega
                      have q6 : decide (((n + 1 : Nat) : Int) ≤ (n : Int)) = false := decide_eq_false (by omega)
                      have HP9 : Hid (PartAt wr wL.heap.size n rs2 (fun _ _ => -1)) := Lib.hid (HPK.out.congr fun a b _ hb => by
                        by_cases ha : a = m
                        · simp [ha, show b < n + 1 by omega]
                        · simp [ha])
                      go_wp2
                      go_roundw
                      case rel => exact ⟨rs2, by rw [HRLEN.out]; omega, by rw [HRLEN.out]; go_num, HP9.out, HLO2.out, HBK.out⟩
                      case measure => simp [intOf]; omega
                · have hmn3 : m = n + 1 := by omega
                  have q5 : decide ((m : Int) ≤ (n : Int)) = false := decide_eq_false (by omega)
                  have HRN : Hid (rs.length = n + 1) := Lib.hid (by rw [HMR.out, hmn3])
                  clear hmn3
                  generalize wr = wC at *
                  obtain ⟨F, hF⟩ : ∃ F, (lvlT n (restF l) t).next = F := ⟨_, rfl⟩
                  rw [hF] at HPA
                  have HTB : Hid (∀ i k, 0 ≤ F i k → F i k ≤ 15 * 25769803752) := Lib.hid (fun i k h => by
                    have hb := (table_bound n (restF l) 25769803752 (by omega) (fun i => by
                      rcases Nat.lt_or_ge i n with h | h
                      · exact (HRB.out i (by omega)).1
                      · unfold restF; rw [List.drop_of_length_le (by rw [HLN.out]; exact h)]; exact Int.le_refl _) (fun i => by
                      rcases Nat.lt_or_ge i n with h | h
                      · have h1 := (HRB.out i (by omega)).2
                        refine Int.le_trans h1 ?_
                        have : ((n - i : Nat) : Int) ≤ 24 := by omega
                        omega
                      · unfold restF; rw [List.drop_of_length_le (by rw [HLN.out]; exact h)]; simp) t).next i k (by rw [hF]; exact h)
                    rw [hF] at hb
                    refine Int.le_trans hb ?_
                    have : ((t : Nat) : Int) ≤ 15 := by omega
                    omega)
                  obtain ⟨S0, hS0⟩ : ∃ S0 : St, S0 = { next := fun _ _ => -1, best := (lvlT n (restF l) t).best } := ⟨_, rfl⟩
                  have HS0 := Lib.hid hS0
                  have hSn : S0.next = fun _ _ => -1 := by rw [hS0]
                  have hSb : (lvlT n (restF l) t).best = S0.best := by rw [hS0]
                  have HFF := Lib.hid hF
                  have HPT0 : Hid (PartAt wC wL.heap.size n rs S0.next) := Lib.hid (by rw [hSn]; exact HPT.out)
                  rw [hSb]
                  clear hF hS0 hSn hSb
                  go_wp2
                  go_loopw [12, 17] (fun bv iv wr => ∃ (i : Nat) (s : St), i ≤ n + 1 ∧ iv = .int .i64 i ∧ bv = .int .i64 s.best ∧ s = iter (fun i s' => stepI n (restF l) F i s') i S0 ∧ PartAt wr wL.heap.size n rs s.next ∧ Below wL.heap.size wL wr) (fun _ iv _ => n + 2 - (intOf iv).toNat)
                  case atStart => exact ⟨0, S0, Nat.zero_le _, rfl, rfl, rfl, HPT0.out, HBW.out⟩
                  case round =>
                    obtain ⟨i, sI, hin, rfl, rfl, hsi, hpi, hbi⟩ := hrel
                    have HSI := Lib.hid hsi
                    have HPI := Lib.hid hpi
                    have HBI := Lib.hid hbi
                    clear hsi hpi hbi
                    by_cases hil0 : i ≤ n
                    · have p1 : decide ((i : Int) ≤ (n : Int)) = true := decide_eq_true (by omega)
                      have g3 : (0 : Int) ≤ (i : Int) := by omega
                      have g4 : (i : Int) < (n : Int) + 1 := by omega
                      go_wp2
                      go_loopw [12, 18] (fun bv kv wr => ∃ (j : Nat) (s : St), j ≤ n ∧ kv = .int .i64 ((j + 1 : Nat) : Int) ∧ bv = .int .i64 s.best ∧ s = iter (fun j s' => stepK n (restF l) F i (j + 1) s') j sI ∧ PartAt wr wL.heap.size n rs s.next ∧ Below wL.heap.size wL wr) (fun _ kv _ => n + 2 - (intOf kv).toNat)
                      case atStart => exact ⟨0, sI, Nat.zero_le _, rfl, rfl, rfl, HPI.out, HBI.out⟩
                      case round =>
                        obtain ⟨j, sK, hjn, rfl, rfl, hsk, hpk, hbk⟩ := hrel
                        have HSK := Lib.hid hsk
                        have HPK := Lib.hid hpk
                        have HBK := Lib.hid hbk
                        clear hsk hpk hbk
                        obtain ⟨k, hk⟩ : ∃ k, j + 1 = k := ⟨_, rfl⟩
                        have HJK := Lib.hid hk
                        have hkj : (intOf (.int .i64 (k : Int))).toNat = j + 1 := by simp [intOf]; omega
                        rw [hk]
                        clear hkj
                        by_cases hjl : j < n
                        · have r1 : decide ((k : Int) ≤ (n : Int)) = true := decide_eq_true (by omega)
                          have hkn : k ≤ n := by omega
                          have hk1 : 1 ≤ k := by omega
                          have g1 : (0 : Int) ≤ (k : Int) := by omega
                          have g2 : (k : Int) < (n : Int) + 1 := by omega
                          have HPW := HPA.out.below HBK.out
                          have hil : i < ra.length := by rw [HRA.out]; omega
                          have v1 := HPW.row i hil
                          obtain ⟨v2, _, _⟩ := HPW.get i k hil hkn
                          have HRW := (HRR.out.below (HBL.out.mono (Nat.le_refl _))).below HBK.out
                          have v3 := (HRW.cell i (by rw [rowL_len]; omega)).1
                          rw [rowL_get] at v3
                          have hyb := HRB.out i (by omega)
                          have hbb := HTB.out i k
                          obtain ⟨ri, hri⟩ : ∃ r, ra[i] = r := ⟨_, rfl⟩
                          obtain ⟨a, ha⟩ : ∃ a, F i k = a := ⟨_, rfl⟩
                          obtain ⟨y, hy⟩ : ∃ y, restF l i = y := ⟨_, rfl⟩
                          rw [hri] at v1 v2
                          rw [ha] at v2 hbb
                          rw [hy] at v3 hyb
                          have HFA := Lib.hid ha
                          have HY := Lib.hid hy
                          have hyb2 : y ≤ 25769803752 := by
                            refine Int.le_trans hyb.2 ?_
                            have : ((n - i : Nat) : Int) ≤ 24 := by omega
                            omega
                          clear HPW HRW hri ha hy hk
                          by_cases ha0 : a < 0
                          · have r2 : decide (a < 0) = true := decide_eq_true ha0
                            have HSF : Hid (sK = stepK n (restF l) F i k sK) := Lib.hid (by
                              unfold stepK
                              rw [HFA.out, if_pos ha0])
                            go_wp2
                            go_roundw
                            case rel => exact ⟨j + 1, sK, by omega, by rw [← HJK.out]; go_num, rfl, by conv => lhs; rw [HSF.out, HSK.out, ← HJK.out]
                                                                                                       rfl, HPK.out, HBK.out⟩
                            case measure => simp [intOf]; omega
                          · have r2 : decide (a < 0) = false := decide_eq_false ha0
                            have HA0 := Lib.hid ha0
                            have hab := hbb (by omega)
                            obtain ⟨C, hC⟩ : ∃ C, a + y = C := ⟨_, rfl⟩
                            have x9 : IntKind.i64.wrap (a + y) = C := by rw [hC, IntKind.wrap_i64]; omega
                            obtain ⟨op, hop⟩ : ∃ op, 2 * k = op := ⟨_, rfl⟩
                            have x8 : IntKind.i64.wrap (2 * (k : Int)) = (op : Int) := by rw [IntKind.wrap_i64]; omega
                            have hop2 : op ≤ 48 := by omega
                            obtain ⟨W, hW⟩ : ∃ W, min op (n - i) + 1 = W := ⟨_, rfl⟩
                            have HW := Lib.hid hW
                            have HOP := Lib.hid hop
                            have HC : Hid (a + restF l i = C) := Lib.hid (by rw [HY.out, hC])
                            clear hC hop hW
                            go_wp2_with fail
                            go_quiet (fail)
                            generalize hwd : World.drewN _ _ = wD
                            have HPD : Hid (PartAt wD wL.heap.size n rs sK.next) := Lib.hid (by rw [← hwd]; exact HPK.out.below (below_drewN (Below.refl _ _) _))
                            have HBD : Hid (Below wL.heap.size wL wD) := Lib.hid (by rw [← hwd]; exact below_drewN HBK.out _)
                            clear hwd v1 v2 v3
                            go_wp2
                            go_loopw [12, 21] (fun bv wv wr => ∃ (wd : Nat) (s : St), wd ≤ W ∧ wv = .int .i64 wd ∧ bv = .int .i64 s.best ∧ s = iter (stepW n C i op) wd sK ∧ PartAt wr wL.heap.size n rs s.next ∧ Below wL.heap.size wL wr) (fun _ wv _ => W + 1 - (intOf wv).toNat)
                            case atStart => exact ⟨0, sK, Nat.zero_le _, rfl, rfl, rfl, HPD.out, HBD.out⟩
                            case round =>
                              obtain ⟨wd, s, hwW, rfl, rfl, hse, hps, hbs⟩ := hrel
                              have HSE := Lib.hid hse
                              have HPS := Lib.hid hps
                              have HBS := Lib.hid hbs
                              clear hse hps hbs
                              by_cases hwo : wd ≤ op
                              · by_cases hwi : i + wd ≤ n
                                · have hwW2 : wd + 1 ≤ W := by have := HW.out; omega
                                  have b1 : decide ((wd : Int) ≤ (op : Int)) = true := decide_eq_true (by omega)
                                  have b2 : decide ((i : Int) + (wd : Int) ≤ (n : Int)) = true := decide_eq_true (by omega)
                                  have x1 : IntKind.i64.wrap ((i : Int) + (wd : Int)) = (i : Int) + (wd : Int) := by rw [IntKind.wrap_i64]; omega
                                  have x2 : IntKind.i64.wrap ((op : Int) - (wd : Int)) = (op : Int) - (wd : Int) := by rw [IntKind.wrap_i64]; omega
                                  have x3 : IntKind.i64.wrap ((n : Int) - (i : Int)) = (n : Int) - (i : Int) := by rw [IntKind.wrap_i64]; omega
                                  have x4 : IntKind.i64.wrap ((n : Int) - (i : Int) - (wd : Int)) = (n : Int) - (i : Int) - (wd : Int) := by rw [IntKind.wrap_i64]; omega
                                  obtain ⟨L, hLd⟩ : ∃ L, min (op - wd) n = L := ⟨_, rfl⟩
                                  have hmn9 : min ((op : Int) - (wd : Int)) (n : Int) = (L : Int) := by omega
                                  have hLn : L ≤ n := by omega
                                  have HLD := Lib.hid hLd
                                  by_cases hL0 : L = 0
                                  · have HL0 := Lib.hid hL0
                                    subst hL0
                                    have hmn8 : min ((op : Int) - (wd : Int)) (n : Int) = 0 := by omega
                                    clear hmn9 hLd
                                    by_cases hin : i + wd = n
                                    · have y3 : (((i : Int) + (wd : Int)) == (n : Int)) = true := by simp; omega
                                      have HIN := Lib.hid hin
                                      by_cases hbn : s.best < 0
                                      · have y4 : decide (s.best < 0) = true := decide_eq_true hbn
                                        clear hin
                                        as_aux_lemma =>
                                          have HSX : Hid (iter (stepW n C i op) (wd + 1) sK = { next := s.next, best := C }) := Lib.hid (by
                                            show stepW n C i op wd (iter (stepW n C i op) wd sK) = _
                                            rw [← HSE.out]
                                            exact stepW_best n C i op wd s (by have := HLD.out; omega) HIN.out (by first | exact .inl hbn | exact .inr hcb))
                                          go_wp2
                                          go_roundw
                                          case rel => exact ⟨wd + 1, { next := s.next, best := C }, by omega, by go_num, rfl, HSX.out.symm, HPS.out, HBS.out⟩
                                          case measure => simp [intOf]; omega
                                      · have y4 : decide (s.best < 0) = false := decide_eq_false hbn
                                        by_cases hcb : C < s.best
                                        · have y5 : decide (C < s.best) = true := decide_eq_true hcb
                                          clear hin
                                          as_aux_lemma =>
                                            have HSX : Hid (iter (stepW n C i op) (wd + 1) sK = { next := s.next, best := C }) := Lib.hid (by
                                              show stepW n C i op wd (iter (stepW n C i op) wd sK) = _
                                              rw [← HSE.out]
                                              exact stepW_best n C i op wd s (by have := HLD.out; omega) HIN.out (by first | exact .inl hbn | exact .inr hcb))
                                            go_wp2
                                            go_roundw
                                            case rel => exact ⟨wd + 1, { next := s.next, best := C }, by omega, by go_num, rfl, HSX.out.symm, HPS.out, HBS.out⟩
                                            case measure => simp [intOf]; omega
                                        · have y5 : decide (C < s.best) = false := decide_eq_false hcb
                                          clear hin
                                          as_aux_lemma =>
                                            have HSX : Hid (iter (stepW n C i op) (wd + 1) sK = s) := Lib.hid (by
                                              show stepW n C i op wd (iter (stepW n C i op) wd sK) = s
                                              rw [← HSE.out]
                                              exact stepW_same n C i op wd s (by have h9 := HLD.out; have := HL0.out; rw [h9]; omega))
                                            go_wp2
                                            go_roundw
                                            case rel => exact ⟨wd + 1, s, by omega, by go_num, rfl, HSX.out.symm, HPS.out, HBS.out⟩
                                            case measure => simp [intOf]; omega
                                    · have y3 : (((i : Int) + (wd : Int)) == (n : Int)) = false := by simp; omega
                                      have HIN := Lib.hid hin
                                      clear hin
                                      as_aux_lemma =>
                                        have HSX : Hid (iter (stepW n C i op) (wd + 1) sK = s) := Lib.hid (by
                                          show stepW n C i op wd (iter (stepW n C i op) wd sK) = s
                                          rw [← HSE.out]
                                          exact stepW_same n C i op wd s (by have h9 := HLD.out; have := HL0.out; have := HIN.out; rw [h9]; omega))
                                        go_wp2
                                        go_roundw
                                        case rel => exact ⟨wd + 1, s, by omega, by go_num, rfl, HSX.out.symm, HPS.out, HBS.out⟩
                                        case measure => simp [intOf]; omega
                                  · have y1 : ((L : Int) == 0) = false := by simp [hL0]
                                    have y2 : decide ((0 : Int) < (L : Int)) = true := decide_eq_true (by omega)
                                    have HL0 := Lib.hid hL0
                                    have hLp : 0 < L := by omega
                                    clear hLd
                                    by_cases hin : i + wd < n
                                    · have y3 : decide ((i : Int) + (wd : Int) < (n : Int)) = true := decide_eq_true (by omega)
                                      by_cases hle : L ≤ n - i - wd
                                      · have y4 : decide ((L : Int) ≤ (n : Int) - (i : Int) - (wd : Int)) = true := decide_eq_true (by omega)
                                        have z0 : (0 : Int) ≤ (i : Int) + (wd : Int) := by omega
                                        have z1 : (i : Int) + (wd : Int) < (n : Int) + 1 := by omega
                                        have z2 : (0 : Int) ≤ (L : Int) := by omega
                                        have z3 : (L : Int) < (n : Int) + 1 := by omega
                                        have hxl : i + wd < rs.length := by rw [HRN.out]; omega
                                        have u1 := HPS.out.row (i + wd) hxl
                                        obtain ⟨u2, u3, u4⟩ := HPS.out.get (i + wd) L hxl hLn
                                        have hrx := HLO.out rs[i + wd] (List.getElem_mem hxl)
                                        obtain ⟨rx, hrxe⟩ : ∃ r, rs[i + wd] = r := ⟨_, rfl⟩
                                        obtain ⟨v9, hv9⟩ : ∃ v, s.next (i + wd) L = v := ⟨_, rfl⟩
                                        rw [hrxe] at u1 u2 u3 u4 hrx
                                        rw [hv9] at u2
                                        have HRX := Lib.hid hrxe
                                        have HV := Lib.hid hv9
                                        clear hrxe hv9
                                        by_cases hvn : v9 < 0
                                        · have y5 : decide (v9 < 0) = true := decide_eq_true hvn
                                          as_aux_lemma =>
                                            have HSX : Hid (iter (stepW n C i op) (wd + 1) sK = { next := putT s.next (i + wd) L C, best := s.best }) := Lib.hid (by
                                              show stepW n C i op wd (iter (stepW n C i op) wd sK) = _
                                              rw [← HSE.out, ← HLD.out]
                                              exact stepW_next n C i op wd s (by rw [HLD.out]; have := HL0.out; omega) hin (by rw [HLD.out]; exact hle) (by rw [HLD.out, HV.out]; omega))
                                            have HPX : Hid (PartAt (wr.setCell ⟨rx, L, none⟩ (.int .i64 C)) wL.heap.size n rs (putT s.next (i + wd) L C)) := Lib.hid (by
                                              have h := HPS.out.put (i + wd) L hxl C
                                              rw [HRX.out] at h
                                              exact h)
                                            have HBX : Hid (Below wL.heap.size wL (wr.setCell ⟨rx, L, none⟩ (.int .i64 C))) := Lib.hid (HBS.out.setCell hrx _)
                                            go_wp2
                                            go_roundw
                                            case rel => exact ⟨wd + 1, { next := putT s.next (i + wd) L C, best := s.best }, by omega, by go_num, rfl, HSX.out.symm, HPX.out, HBX.out⟩
                                            case measure => simp [intOf]; omega
                                        · have y5 : decide (v9 < 0) = false := decide_eq_false hvn
                                          by_cases hcv : C < v9
                                          · have y6 : decide (C < v9) = true := decide_eq_true hcv
                                            as_aux_lemma =>
                                              have HSX : Hid (iter (stepW n C i op) (wd + 1) sK = { next := putT s.next (i + wd) L C, best := s.best }) := Lib.hid (by
                                                show stepW n C i op wd (iter (stepW n C i op) wd sK) = _
                                                rw [← HSE.out, ← HLD.out]
                                                exact stepW_next n C i op wd s (by rw [HLD.out]; have := HL0.out; omega) hin (by rw [HLD.out]; exact hle) (by rw [HLD.out, HV.out]; omega))
                                              have HPX : Hid (PartAt (wr.setCell ⟨rx, L, none⟩ (.int .i64 C)) wL.heap.size n rs (putT s.next (i + wd) L C)) := Lib.hid (by
                                                have h := HPS.out.put (i + wd) L hxl C
                                                rw [HRX.out] at h
                                                exact h)
                                              have HBX : Hid (Below wL.heap.size wL (wr.setCell ⟨rx, L, none⟩ (.int .i64 C))) := Lib.hid (HBS.out.setCell hrx _)
                                              go_wp2
                                              go_roundw
                                              case rel => exact ⟨wd + 1, { next := putT s.next (i + wd) L C, best := s.best }, by omega, by go_num, rfl, HSX.out.symm, HPX.out, HBX.out⟩
                                              case measure => simp [intOf]; omega
                                          · have y6 : decide (C < v9) = false := decide_eq_false hcv
                                            as_aux_lemma =>
                                              have HSX : Hid (iter (stepW n C i op) (wd + 1) sK = s) := Lib.hid (by
                                                show stepW n C i op wd (iter (stepW n C i op) wd sK) = s
                                                rw [← HSE.out]
                                                exact stepW_same n C i op wd s (by have := HL0.out; rw [HLD.out, HV.out]; omega))
                                              go_wp2
                                              go_roundw
                                              case rel => exact ⟨wd + 1, s, by omega, by go_num, rfl, HSX.out.symm, HPS.out, HBS.out⟩
                                              case measure => simp [intOf]; omega
                                      · have y4 : decide ((L : Int) ≤ (n : Int) - (i : Int) - (wd : Int)) = false := decide_eq_false (by omega)
                                        as_aux_lemma =>
                                          have HSX : Hid (iter (stepW n C i op) (wd + 1) sK = s) := Lib.hid (by
                                            show stepW n C i op wd (iter (stepW n C i op) wd sK) = s
                                            rw [← HSE.out]
                                            exact stepW_same n C i op wd s (by have h9 := HLD.out; have := HL0.out; rw [h9]; omega))
                                          go_wp2
                                          go_roundw
                                          case rel => exact ⟨wd + 1, s, by omega, by go_num, rfl, HSX.out.symm, HPS.out, HBS.out⟩
                                          case measure => simp [intOf]; omega
                                    · have y3 : decide ((i : Int) + (wd : Int) < (n : Int)) = false := decide_eq_false (by omega)
                                      as_aux_lemma =>
                                        have HSX : Hid (iter (stepW n C i op) (wd + 1) sK = s) := Lib.hid (by
                                          show stepW n C i op wd (iter (stepW n C i op) wd sK) = s
                                          rw [← HSE.out]
                                          exact stepW_same n C i op wd s (by have h9 := HLD.out; have := HL0.out; rw [h9]; omega))
                                        go_wp2
                                        go_roundw
                                        case rel => exact ⟨wd + 1, s, by omega, by go_num, rfl, HSX.out.symm, HPS.out, HBS.out⟩
                                        case measure => simp [intOf]; omega
                                · have b1 : decide ((wd : Int) ≤ (op : Int)) = true := decide_eq_true (by omega)
                                  have b2 : decide ((i : Int) + (wd : Int) ≤ (n : Int)) = false := decide_eq_false (by omega)
                                  have x1 : IntKind.i64.wrap ((i : Int) + (wd : Int)) = (i : Int) + (wd : Int) := by rw [IntKind.wrap_i64]; omega
                                  as_aux_lemma =>
                                    have hWe : wd = W := by have := HW.out; omega
                                    have HSF : Hid (s = stepK n (restF l) F i k sK) := Lib.hid (by
                                      rw [HSE.out, hWe]
                                      unfold stepK
                                      rw [HFA.out, if_neg (by have := HA0.out; omega), HC.out, HOP.out, HW.out])
                                    go_wp2
                                    go_roundw
                                    case rel => exact ⟨j + 1, s, by omega, by rw [← HJK.out]; go_num, rfl, by rw [HSF.out, HSK.out, ← HJK.out]; rfl, HPS.out, HBS.out⟩
                                    case measure => simp [intOf]; omega
                              · have b1 : decide ((wd : Int) ≤ (op : Int)) = false := decide_eq_false (by omega)
                                as_aux_lemma =>
                                  have hWe : wd = W := by have := HW.out; omega
                                  have HSF : Hid (s = stepK n (restF l) F i k sK) := Lib.hid (by
                                    rw [HSE.out, hWe]
                                    unfold stepK
                                    rw [HFA.out, if_neg (by have := HA0.out; omega), HC.out, HOP.out, HW.out])
                                  go_wp2
                                  go_roundw
                                  case rel => exact ⟨j + 1, s, by omega, by rw [← HJK.out]; go_num, rfl, by rw [HSF.out, HSK.out, ← HJK.out]; rfl, HPS.out, HBS.out⟩
                                  case measure => simp [intOf]; omega
                        · have r1 : decide ((k : Int) ≤ (n : Int)) = false := decide_eq_false (by omega)
                          have HSF : Hid (sK = stepI n (restF l) F i sI) := Lib.hid (by
                            have hjn2 : j = n := by omega
                            rw [HSK.out, hjn2]
                            rfl)
                          go_wp2
                          go_roundw
                          case rel => exact ⟨i + 1, sK, by omega, by go_num, rfl, by rw [HSF.out, HSI.out]; rfl, HPK.out, HBK.out⟩
                          case measure => simp [intOf]; omega
                    · have hin2 : i = n + 1 := by omega
                      have p1 : decide ((i : Int) ≤ (n : Int)) = false := decide_eq_false (by omega)
                      have HSF : Hid (sI = lvlT n (restF l) (t + 1)) := Lib.hid (by
                        rw [HSI.out, hin2]
                        show _ = stepL n (restF l) (lvlT n (restF l) t)
                        unfold stepL
                        rw [HFF.out, ← HS0.out])
                      have HPF : Hid (PartAt wr wL.heap.size n rs (lvlT n (restF l) (t + 1)).next) := Lib.hid (by rw [← HSF.out]; exact HPI.out)
                      have hbF : sI.best = (lvlT n (restF l) (t + 1)).best := by rw [HSF.out]
                      rw [hbF]
                      clear hin2 hbF
                      go_wp2
                      go_roundw
                      case rel => exact ⟨t + 1, wL.heap.size, rs, by omega, by go_num, rfl, rfl, HRN.out, HPF.out, HBL.out.trans (HBI.out.mono hBL)⟩
                      case measure => simp [intOf]; omega
            · obtain rfl : t = M := by omega
              have q3 : decide ((t : Int) < (t : Int)) = false := decide_eq_false (by omega)
              have HE : Hid ((lvlT n (restF l) t).best = ans) := Lib.hid (by rw [← HANS.out]; simp)
              go_wp2
              go_ret
              exact ⟨by rw [HE.out] <;> rfl, HB1.out.trans ((HB.out.trans (HBL.out.mono hB1)).mono HB1.out.size)⟩

end Go.Proofs.Ytnoplhjbachjiaa.Mg
