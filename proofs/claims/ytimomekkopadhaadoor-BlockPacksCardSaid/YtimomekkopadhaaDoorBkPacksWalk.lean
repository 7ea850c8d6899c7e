/-
  lighterlaw09.BlockPacks: the walk.
-/
import Derived.Test.YtimomekkopadhaaDoorBkSpeak
import Derived.Test.YtimomekkopadhaaDoorFrameArgs
namespace Go.Proofs.YtimomekkopadhaaDoor.Bk
open Go.RowKit Go.Shelf Go.Proofs.YtimomekkopadhaaDoor.Mg Go.Proofs.YtimomekkopadhaaDoor.Bw Go.Proofs.YtimomekkopadhaaDoor.Ri
set_option linter.unusedVariables false
set_option linter.unusedSimpArgs false

noncomputable def tx9 : TypeInfo := (Tryd.prog.info? 29).getD default
theorem own_nil_or {w : World} {base T size n : Nat} {v : Value} {xs : List Value} (h : w.ownsRow base T size v n xs) : (n = 0 ∧ v = .slice none 0 0) ∨ ∃ g c, v = .slice (some ⟨g, 0, none⟩) n c := by
  rcases h.2 with ⟨rfl, rfl⟩ | ⟨g, cap, cur, rfl, -⟩
  · exact .inl ⟨rfl, rfl⟩
  · exact .inr ⟨g, cap, rfl⟩
theorem exs_own {w : World} {base g n c : Nat} {l : List Ex} (h : w.ownsRow base 30 3 (.slice (some ⟨g, 0, none⟩) n c) n (exsC l)) (k : Nat) (hk : k < l.length) :
    w.cell? ⟨g, k * 3, none⟩ = some (.int .i64 l[k].sym) ∧ w.cell? ⟨g, k * 3 + 1, none⟩ = some (.int .i64 (l[k].bits : Int)) ∧ w.cell? ⟨g, k * 3 + 2, none⟩ = some (.int .u64 (l[k].val : Int)) :=
  exs_cells (Rd.own h (by intro e; cases e)) k hk
theorem exs_cells' {w : World} {base T g n c : Nat} {l : List Ex} (h : w.ownsRow base T 3 (.slice (some ⟨g, 0, none⟩) n c) n (exsC l)) (k : Nat) (hk : k < l.length) :
    w.cell? ⟨g, k * 3, none⟩ = some (.int .i64 l[k].sym) ∧ w.cell? ⟨g, k * 3 + 1, none⟩ = some (.int .i64 (l[k].bits : Int)) ∧ w.cell? ⟨g, k * 3 + 2, none⟩ = some (.int .u64 (l[k].val : Int)) := by
  have h1 := exs_get l k hk
  have key : ∀ (j : Nat) (v : Value), (exsC l)[j]? = some v → w.cell? ⟨g, j, none⟩ = some v := fun j v hv => by
    obtain ⟨hj, e⟩ := List.getElem?_eq_some_iff.1 hv
    exact (h.cellAt j (by rw [← h.1]; exact hj)).trans hv
  exact ⟨key _ _ h1.1, key _ _ h1.2.1, key _ _ h1.2.2⟩
theorem unP_packs {cs : List Int} (h : cs.any bad15 = false) : unP [] (packP cs) = some cs := by
  have := un_pack cs.length cs [] (Nat.le_refl _) (fun x hx => by
    rw [List.any_eq_false] at h
    have h2 := h x hx
    unfold bad15 at h2
    simp at h2
    omega)
  simpa using this

set_option maxHeartbeats 8000000 in
set_option maxRecDepth 100000 in
theorem packs_walk (A : Option Addr) (c : Nat) (xs : List Int) (w : World) (hA : Reads w A xs) (hc : xs.length ≤ c) (hcn : A = none → c = 0) (hl : c ≤ 140737488351232) (hO : OrdT w) :
    Calls Tryd.prog 3 #[.slice A xs.length c] w fun e w' => e = .returned (.bool true) ∧ Below w.heap.size w w' := by
  have HSP := Lib.hid (speaks_calls w hO)
  obtain ⟨n0, hn0⟩ : ∃ n, xs.length = n := ⟨_, rfl⟩
  obtain ⟨n, hn⟩ : ∃ n, min n0 400 = n := ⟨_, rfl⟩
  obtain ⟨cs, hcs⟩ : ∃ cs, xs.take n = cs := ⟨_, rfl⟩
  have hcl : cs.length = n := by rw [← hcs, List.length_take, hn0]; omega
  have hRd : Reads w A cs := fun j hj => by
    have hj2 : j < xs.length := by rw [← hcs, List.length_take] at hj; omega
    obtain ⟨g, o, e, h⟩ := hA j hj2
    refine ⟨g, o, e, ?_⟩
    rw [h]
    congr 2
    subst hcs
    rw [List.getElem_take]
  have HA := Lib.hid hRd
  have HCL := Lib.hid hcl
  have hmin : min (n0 : Int) 400 = n := by omega
  rw [hn0] at hc ⊢
  have hnc : n ≤ c := by omega
  have hn2 : n ≤ 400 := by omega
  have f0 : (0 : Int) ≤ (n : Int) := by omega
  have f1 : (n : Int) ≤ (c : Int) := by omega
  have hii : Tryd.prog.info? 29 = some tx9 := by kernel_rfl
  have hiz0 : tx9.zero = some (.agg #[.int .i64 0, .int .i64 0, .int .u64 0]) := by kernel_rfl
  have hiz1 : tx9.size = 3 := by kernel_rfl
  have hiz2 : tx9.bytes = 24 := by kernel_rfl
  have HPK := Lib.hid (fun (W : World) (h : Reads W A cs) => pack_calls A c cs W h (by omega))
  rw [hcl] at HPK
  have HFW := Lib.hid (fun (W : World) (h : Reads W A cs) => few_calls A c cs W h (by omega))
  rw [hcl] at HFW
  obtain ⟨l, hl0⟩ : ∃ l, packR cs = l := ⟨_, rfl⟩
  rw [hl0] at HPK
  obtain ⟨N, hN⟩ : ∃ N, l.length = N := ⟨_, rfl⟩
  rw [hN] at HPK
  have HN := Lib.hid hN
  have HBad : Hid (cs.any bad15 = true → N = 0) := Lib.hid (fun h => by rw [← hN, ← hl0]; unfold packR; rw [h]; rfl)
  have HGood : Hid (cs.any bad15 = false → l = packP cs ∧ N = fewP cs ∧ N ≤ 400) := Lib.hid (fun h => by
    have e : l = packP cs := by rw [← hl0]; unfold packR; rw [h]; rfl
    refine ⟨e, by rw [← hN, e]; exact few_pack _ cs (Nat.le_refl _), ?_⟩
    have hok := (pack_ok cs.length cs (Nat.le_refl _) (fun x hx => by
      rw [List.any_eq_false] at h
      have h2 := h x hx
      unfold bad15 at h2
      simp at h2
      omega)).2
    rw [← hN, e]
    omega)
  have hN4 : N ≤ 400 := by
    cases hb : cs.any bad15 with
    | true => have := HBad.out hb; omega
    | false => exact (HGood.out hb).2.2
  clear hA hO hn0 hn hcs hcl hRd hl0 hN
  have hsl : ∀ W : World, (Instr.sliceAt 22 (.slice A n0 c) none (some (.int .i64 n)) none).run Tryd.prog W = .ok (.slice A n c) W := fun W => by
    rcases A with _ | ad
    · obtain rfl : c = 0 := hcn rfl
      obtain rfl : n = 0 := by omega
      obtain rfl : n0 = 0 := by omega
      kernel_rfl
    · go_simp
  clear hcn
  go_enter Tryd.func3, Tryd.ntmps3
  go_wp2_with fail
  refine HSP.out.mono ?_
  rintro e w1 ⟨rfl, hb⟩
  have HB1 := Lib.hid hb
  have HA1 := Lib.hid (HA.out.below hb)
  clear hb HSP
  go_wp2_with fail
  refine (HPK.out _ HA1.out).mono ?_
  rintro e w2 ⟨⟨v, rfl, hown⟩, hb⟩
  have HB2 := Lib.hid (HB1.out.trans (hb.mono HB1.out.size))
  have HA2 := Lib.hid (HA1.out.below hb)
  have HV := Lib.hid hown
  have hform : ∃ B c2, v = .slice B N c2 := by
    rcases own_nil_or hown with ⟨rfl, rfl⟩ | ⟨g, c2, rfl⟩
    · exact ⟨_, _, rfl⟩
    · exact ⟨_, _, rfl⟩
  obtain ⟨B, c2, rfl⟩ := hform
  have N0 := Lib.hid (World.ownsRow_nil w2 w2.heap.size 29 3)
  have R2 := Lib.hid (Below.refl w2.heap.size w2)
  clear hb hown HPK
  go_wp2_with fail
  go_loopw [4, 5] (fun vw vi wr => ∃ k : Nat, k ≤ N ∧ vi = .int .i64 k ∧ wr.ownsRow w2.heap.size 29 3 vw k (exsC (l.take k)) ∧ Below w2.heap.size w2 wr) (fun _ vi _ => N - (intOf vi).toNat)
  case atStart => exact ⟨0, Nat.zero_le _, rfl, N0.out, R2.out⟩
  case round =>
    obtain ⟨k, hk, rfl, hown, hbl⟩ := hrel
    have HO2 := Lib.hid hown
    have HB := Lib.hid hbl
    clear hown hbl
    by_cases hlt : k < N
    · have p1 : decide ((k : Int) < (N : Int)) = true := decide_eq_true (by omega)
      have p1' : decide (k < N) = true := decide_eq_true hlt
      have k1 : k < l.length := by rw [HN.out]; exact hlt
      have hV2 := own_below HV.out HB.out
      obtain ⟨g, c3, hg⟩ : ∃ g c3, (Value.slice B N c2) = .slice (some ⟨g, 0, none⟩) N c3 := by
        rcases own_nil_or HV.out with ⟨h, _⟩ | h
        · omega
        · exact h
      cases hg
      obtain ⟨h1, h2, h3⟩ := exs_own hV2 k k1
      have HTK : Hid (exsC (l.take (k + 1)) = exsC (l.take k) ++ exC l[k]) := Lib.hid (by rw [List.take_succ_eq_append_getElem k1, exsC_snoc])
      obtain ⟨x, hx⟩ : ∃ x, l[k] = x := ⟨_, rfl⟩
      rw [hx] at h1 h2 h3 HTK
      have i0 : (0 : Int) ≤ (k : Int) := by omega
      have i1 : (k : Int) < (N : Int) := by omega
      clear hx hV2
      go_wp2_with (at_builtin; refine wpList_append_at _ rfl _ _ 26 rfl w2.heap.size 29 tx9 (.agg #[.int .i64 0, .int .i64 0, .int .u64 0]) 3 24 Tryd.underlying26 hii hiz0 hiz1 hiz2 rfl (by decide) _ _ _ rfl (HO2.out.alloc _) ⟨wr.heap.size, 0, none⟩ 1 1 (exC x) rfl rfl ?c1 ?c2 ?c3 ?c4 ?c5 ?_)
      case c1 => exact new_cells wr (exC x) _
      case c2 => exact exC_one x
      case c3 => unfold maxLen; omega
      case c4 => omega
      case c5 => have := HB.out.size; simp; omega
      intro v3 w3 hown1 hg1 hfr
      have hbl : Below w2.heap.size w2 w3 := (HB.out.alloc HB.out.size _).grown hg1 (by have := HB.out.size; simp; omega) (fun r e => (HO2.out.lt r e).1)
      rw [← HTK.out] at hown1
      obtain ⟨gv, cv, rfl, _, _⟩ := hown1.form (by omega)
      have HO7 := Lib.hid hown1
      have HB7 := Lib.hid hbl
      clear hown1 hg1 hbl h1 h2 h3 hfr
      go_wp2
      go_roundw
      case rel => exact ⟨k + 1, by omega, by go_num, HO7.out, HB7.out⟩
      case measure => simp [intOf]; omega
    · obtain rfl : k = N := by omega
      have p1 : decide ((k : Int) < (k : Int)) = false := decide_eq_false (by omega)
      have hfin : l.take k = l := List.take_of_length_le (by rw [HN.out]; exact Nat.le_refl _)
      rw [hfin] at HO2
      have HA3 := Lib.hid (HA2.out.below HB.out)
      have HB3 := Lib.hid (HB2.out.trans (HB.out.mono HB2.out.size))
      clear hfin HV HA2 HB2 N0 R2
      have hform4 : ∃ B4 c4, u4 = .slice B4 k c4 := by
        rcases own_nil_or HO2.out with ⟨rfl, rfl⟩ | ⟨g, c4, rfl⟩
        · exact ⟨_, _, rfl⟩
        · exact ⟨_, _, rfl⟩
      obtain ⟨B4, c4, rfl⟩ := hform4
      go_wp2
      go_loop [6] (fun vi => ∃ j : Nat, j ≤ n ∧ vi = .int .i64 j ∧ ∀ i (h : i < cs.length), i < j → bad15 cs[i] = false) (fun vi => n - (intOf vi).toNat)
      case atStart => exact ⟨0, Nat.zero_le _, rfl, fun i _ h => by omega⟩
      case round =>
        obtain ⟨j, hj, rfl, hg⟩ := hrel
        have HGd := Lib.hid hg
        clear hg
        by_cases hlt2 : j < n
        · have p2 : decide ((j : Int) < (n : Int)) = true := decide_eq_true (by omega)
          have p2' : decide (j < n) = true := decide_eq_true hlt2
          have j1 : j < cs.length := by rw [HCL.out]; exact hlt2
          obtain ⟨g, o, rfl, hcell⟩ := HA3.out j j1
          obtain ⟨x, hx⟩ : ∃ x, cs[j] = x := ⟨_, rfl⟩
          rw [hx] at hcell
          have HX := Lib.hid hx
          have i0 : (0 : Int) ≤ (j : Int) := by omega
          have i1 : (j : Int) < (n : Int) := by omega
          clear hx
          by_cases hb : bad15 x = true
          · have hk0 : k = 0 := HBad.out (List.any_eq_true.2 ⟨cs[j], List.getElem_mem _, by rw [HX.out]; exact hb⟩)
            have HK0 := Lib.hid hk0
            subst hk0
            unfold bad15 at hb
            simp only [Bool.or_eq_true] at hb
            rcases hb with hb | hb
            · go_wp2
              go_ret
              exact ⟨rfl, HB3.out⟩
            · cases hb2 : decide (x < 0) with
              | true =>
                go_wp2
                go_ret
                exact ⟨rfl, HB3.out⟩
              | false =>
                go_wp2
                go_ret
                exact ⟨rfl, HB3.out⟩
          · have hb2 : decide (x < 0) = false ∧ decide (15 < x) = false := by
              unfold bad15 at hb
              simp only [Bool.or_eq_true, not_or, Bool.not_eq_true] at hb
              exact hb
            have hbF : Hid (bad15 x = false) := Lib.hid (by unfold bad15; rw [hb2.1, hb2.2]; rfl)
            obtain ⟨b1, b2⟩ := hb2
            clear hb
            go_wp2
            go_round
            case rel => exact ⟨j + 1, by omega, by go_num, fun i h hi => by
              rcases Nat.lt_or_ge i j with h4 | h4
              · exact HGd.out i h h4
              · obtain rfl : i = j := by omega
                rw [HX.out]; exact hbF.out⟩
            case measure => simp [intOf]; omega
        · obtain rfl : j = n := by omega
          have p2 : decide ((j : Int) < (j : Int)) = false := decide_eq_false (by omega)
          have hgood : cs.any bad15 = false := by
            rw [List.any_eq_false]
            intro x hx
            obtain ⟨i, hi, rfl⟩ := List.mem_iff_getElem.1 hx
            rw [HGd.out i hi (by have := HCL.out; omega)]
            decide
          obtain ⟨hlp, hkf, _⟩ := HGood.out hgood
          have HEX : Hid (ExAt wr B4 l) := Lib.hid (by
            have h := HO2.out
            rw [← HN.out] at h
            intro i hi
            have hi2 : i < l.length := hi
            rcases own_nil_or h with ⟨h0, _⟩ | ⟨g, c3, hg⟩
            · omega
            · cases hg
              obtain ⟨h1, h2, h3⟩ := exs_cells' h i hi
              exact ⟨g, 0, rfl, by rw [Nat.zero_add]; exact h1, by rw [Nat.zero_add]; exact h2, by rw [Nat.zero_add]; exact h3⟩)
          have HUN := Lib.hid (unpack_calls B4 c4 l cs wr HEX.out (by rw [HN.out]; omega) (by rw [hlp]; exact unP_packs hgood) (by rw [HCL.out]; omega))
          rw [HN.out, HCL.out] at HUN
          have HKF : Hid (fewP cs = k) := Lib.hid hkf.symm
          rw [HKF.out] at HFW
          clear hgood hlp hkf HGd HEX HBad HGood
          go_wp2_with fail
          refine HUN.out.mono ?_
          rintro e w5 ⟨⟨vb, rfl, hob⟩, hbl⟩
          have HB5 := Lib.hid (HB3.out.trans (hbl.mono HB3.out.size))
          have HA5 := Lib.hid (HA3.out.below hbl)
          have hformb : ∃ B5 c5, vb = .slice B5 j c5 := by
            rcases own_nil_or hob with ⟨rfl, rfl⟩ | ⟨g, c5, rfl⟩
            · exact ⟨_, _, rfl⟩
            · exact ⟨_, _, rfl⟩
          obtain ⟨B5, c5, rfl⟩ := hformb
          have HOB := Lib.hid hob
          have HF5 := Lib.hid (HFW.out w5 HA5.out)
          clear hob hbl HUN HFW
          have p3 : ((j : Int) != (j : Int)) = false := by simp
          have p4 : ((k : Int) != (k : Int)) = false := by simp
          go_wp2_with fail
          refine HF5.out.mono ?_
          rintro e w6 ⟨rfl, q, rfl⟩
          have HB6 := Lib.hid (below_drewN HB5.out q)
          have HA6 := Lib.hid (HA5.out.below (below_drewN (Below.refl _ _) q))
          have HO6 := Lib.hid (own_below HOB.out (below_drewN (Below.refl _ _) q))
          generalize w5.drewN q = w7 at *
          clear HF5 HB5 HA5 HOB
          go_wp2
          go_loopw [9] (fun vi wr => ∃ i : Nat, i ≤ j ∧ vi = .int .i64 i ∧ ∃ q, wr = w7.drewN q) (fun vi _ => j - (intOf vi).toNat)
          case atStart => exact ⟨0, Nat.zero_le _, rfl, 0, rfl⟩
          case round =>
            obtain ⟨i, hi, rfl, q2, hq⟩ := hrel
            have HQ : Hid (∀ nq, ∃ q, wr.drewN nq = w7.drewN q) := Lib.hid (fun nq => by rw [hq]; exact ⟨_, World.drewN_drewN ..⟩)
            have HAr : Hid (Reads wr A cs) := Lib.hid (by rw [hq]; exact HA6.out.below (below_drewN (Below.refl _ _) q2))
            have HOr := Lib.hid (show wr.ownsRow _ 3 1 (.slice B5 j c5) j (intsV cs) by rw [hq]; exact own_below HO6.out (below_drewN (Below.refl _ _) q2))
            have HBr : Hid (Below w.heap.size w wr) := Lib.hid (by rw [hq]; exact below_drewN HB6.out q2)
            clear hq
            by_cases hlt3 : i < j
            · have p5 : decide ((i : Int) < (j : Int)) = true := decide_eq_true (by omega)
              have p5' : decide (i < j) = true := decide_eq_true hlt3
              have i1 : i < cs.length := by rw [HCL.out]; exact hlt3
              obtain ⟨g, o, rfl, hcell⟩ := HAr.out i i1
              obtain ⟨g5, c6, hg5⟩ : ∃ g5 c6, (Value.slice B5 j c5) = .slice (some ⟨g5, 0, none⟩) j c6 := by
                rcases own_nil_or HOr.out with ⟨h, _⟩ | h
                · omega
                · exact h
              cases hg5
              have hcell5 : wr.cell? ⟨g5, i, none⟩ = some (.int .i64 cs[i]) := by
                have h := rdi_own (ls := cs) (n := j) HOr.out i i1
                rw [Nat.zero_add] at h
                exact h
              obtain ⟨x, hx⟩ : ∃ x, cs[i] = x := ⟨_, rfl⟩
              rw [hx] at hcell hcell5
              have i0 : (0 : Int) ≤ (i : Int) := by omega
              have i2 : (i : Int) < (j : Int) := by omega
              clear hx
              go_wp2_with fail
              go_quiet (fail)
              generalize hW : World.drewN _ _ = w8
              have HW : Hid (∃ q, w8 = w7.drewN q) := Lib.hid (by rw [← hW]; exact HQ.out _)
              clear hW hcell hcell5
              go_wp2
              go_roundw
              case rel => exact ⟨i + 1, by omega, by go_num, HW.out⟩
              case measure => simp [intOf]; omega
            · obtain rfl : i = j := by omega
              have p5 : decide ((i : Int) < (i : Int)) = false := decide_eq_false (by omega)
              go_wp2
              go_ret
              exact ⟨rfl, HBr.out⟩

theorem packs_any (v : Value) (xs : List Int) (w : World) (h : Fa.IntsOf w .i64 v xs) (hx : ∀ x ∈ xs, (Lit.int .i64 x).wf = true) {n : Nat} (hy : n ≤ 140737488351232) (hO : OrdT w) :
    Calls Tryd.prog 3 #[v] w fun e w' => e = .returned (.bool true) ∧ Below w.heap.size w w' := by
  rcases h with ⟨a, c, rfl, rfl, h1, h2⟩ | ⟨b, o, c, rfl, h0, h1, h2, h3, h4⟩
  · exact packs_walk a c [] w (fun j hj => (by cases hj)) (Nat.zero_le _) h1 h2 hO
  · exact packs_walk _ c xs w (fun j hj => ⟨b, o, rfl, h4 j hj⟩) h1 (fun e => by cases e) h2 hO
end Go.Proofs.YtimomekkopadhaaDoor.Bk
