/-
  SerialSorts' walk.
-/
import Derived.Test.YtebabhpbgcencaaSrPlain
import Derived.Test.YtebabhpbgcencaaFrameArgs
import Derived.Maps.Views
import Derived.Maps.OwnOps
import Derived.Maps.Keyed
import Derived.StillTailTactics
namespace Go.Proofs.Ytebabhpbgcencaa.Sr
open Go.RowKit Go.Shelf Go.Proofs
open Go.Maps (IsMap Keyed)
set_option linter.unusedVariables false
set_option linter.unusedSimpArgs false

/-- Block b is a map of at most n numbers, each with its count. -/
def OwnCnt (w : World) (b n : Nat) (f : Int → Int) : Prop :=
  ∃ D : DataW Unit, w.ownsMap Try.prog 22 (plainElem Try.prog 3) b n D ∧ IsMap D ∧ ∀ k : Int, D.atKey (.int .u32 k) (.lit (.int .i64 0)) = .lit (.int .i64 (f k))

theorem keyedU : Keyed Try.prog 22 := Go.Maps.int_keyed Try.underlying22
theorem zeroI (w : World) : (zeroValue 3).run Try.prog w = .ok (.int .i64 0) w := by kernel_rfl

theorem OwnCnt.kept {w w' : World} {row : Option Nat} {b n : Nat} {f : Int → Int} (h : OwnCnt w b n f) (hg : w.grownBy w' row) (hne : some b ≠ row) : OwnCnt w' b n f := by
  obtain ⟨D, h1, h2, h3⟩ := h
  exact ⟨D, h1.kept hg hne, h2, h3⟩

theorem OwnCnt.heap {w w' : World} {b n : Nat} {f : Int → Int} (h : OwnCnt w b n f) (hb : w'.heap[b]? = w.heap[b]?) : OwnCnt w' b n f := by
  obtain ⟨D, ⟨es, clock, hm, F, hs, hD⟩, h2, h3⟩ := h
  exact ⟨D, ⟨es, clock, hb.trans hm, F, hs, hD⟩, h2, h3⟩

theorem OwnCnt.made (w : World) : OwnCnt (w.alloc (.map #[] 0)) w.heap.size 0 (fun _ => 0) :=
  ⟨.map [], World.ownsMap_made _ _ _ _, ⟨[], rfl⟩, fun k => by simp [DataW.atKey]⟩

theorem u32_lit {x : Int} (h : 0 ≤ x ∧ x < 4294967296) : (Lit.int .u32 x).wf = true := by
  have e1 : IntKind.u32.min = 0 := rfl
  have e2 : IntKind.u32.max = 4294967295 := rfl
  simp [Lit.wf, e1, e2]
  omega

theorem i64_lit {x : Int} (h : -100 ≤ x ∧ x < 100) : (Lit.int .i64 x).wf = true := by
  have e1 : IntKind.i64.min = -9223372036854775808 := rfl
  have e2 : IntKind.i64.max = 9223372036854775807 := rfl
  simp [Lit.wf, e1, e2]
  omega

theorem OwnCnt.look {w : World} {b n : Nat} {f : Int → Int} (h : OwnCnt w b n f) (x : Int) (hx : 0 ≤ x ∧ x < 4294967296) :
    (Instr.lookup 32 (.map (some b)) (.int .u32 x) false).run Try.prog w = .ok (.int .i64 (f x)) w := by
  obtain ⟨D, h1, h2, h3⟩ := h
  obtain ⟨c, hrun, hc, _⟩ := h1.lookup_int keyedU Try.underlying32 Try.underlying3 (zeroI w) (Go.Maps.keyOf_int_mk Try.underlying22 (u32_lit hx))
  rw [h3] at hc
  simp only [DataW.lit.injEq, Lit.int.injEq, true_and] at hc
  rw [hrun, hc]

theorem OwnCnt.store {w : World} {b n : Nat} {f : Int → Int} (h : OwnCnt w b n f) (x v : Int) (hx : 0 ≤ x ∧ x < 4294967296) (hv : -100 ≤ v ∧ v < 100) (hn : n < maxLen) :
    ∃ w', (Instr.mapUpdate 32 (.map (some b)) (.int .u32 x) (.int .i64 v)).run Try.prog w = .ok () w' ∧ OwnCnt w' b (n + 1) (fun k => if k = x then v else f k) ∧ w.grownBy w' (some b) := by
  obtain ⟨D, h1, h2, h3⟩ := h
  obtain ⟨w', hrun, ho, hg⟩ := h1.update keyedU Try.underlying32 hn (Go.Maps.keyOf_int_mk Try.underlying22 (u32_lit hx)) (plainElem_int Try.underlying3 (i64_lit hv))
  refine ⟨w', hrun, ⟨_, ho, h2.put _ _, fun k => ?_⟩, hg⟩
  by_cases hk : k = x
  · subst hk
    rw [Go.Maps.atKey_put_same h2 (by simp [Go.WideAt.IsKeyLit])]
    simp
  · rw [Go.Maps.atKey_put_other (by simpa using hk), h3]
    simp [hk]

theorem drewN_heap (w : World) (q : Nat) : (w.drewN q).heap = w.heap := by
  induction q generalizing w with
  | zero => rfl
  | succ q ih => rw [← World.drew_drewN]; exact ih w

/-- How often a number stands in a list. -/
def cnt (l : List Int) (v : Int) : Int := (l.count v : Nat)
theorem cnt_snoc (l : List Int) (k : Nat) (h : k < l.length) : (fun v => if v = l[k] then cnt (l.take k) l[k] + 1 else cnt (l.take k) v) = cnt (l.take (k + 1)) := by
  funext v
  unfold cnt
  rw [List.take_succ_eq_append_getElem h, List.count_append, List.count_singleton]
  by_cases hv : v = l[k]
  · subst hv; simp
  · have : (l[k] == v) = false := by rw [beq_eq_false_iff_ne]; exact fun e => hv e.symm
    simp [hv, this]
theorem cnt_range (l : List Int) (v : Int) : 0 ≤ cnt l v ∧ cnt l v ≤ l.length := by
  unfold cnt
  have := List.count_le_length (a := v) (l := l)
  omega
theorem cnt_less (l m : List Int) (k : Nat) (h : k < l.length) (hp : l.Perm m) : cnt (l.take k) l[k] + 1 ≤ cnt m l[k] := by
  have h1 : (l.take (k + 1)).count l[k] ≤ l.count l[k] := (List.take_sublist _ _).count_le _
  rw [hp.count_eq, List.take_succ_eq_append_getElem h, List.count_append] at h1
  have e : [l[k]].count l[k] = 1 := by simp
  rw [e] at h1
  unfold cnt
  omega
theorem cnt_down (l m : List Int) (k : Nat) (h : k < l.length) : (fun v => if v = l[k] then cnt m l[k] - cnt (l.take k) l[k] - 1 else cnt m v - cnt (l.take k) v) = fun v => cnt m v - cnt (l.take (k + 1)) v := by
  funext v
  have e := congrFun (cnt_snoc l k h) v
  rw [← e]
  by_cases hv : v = l[k]
  · subst hv; rw [if_pos rfl, if_pos rfl]; omega
  · rw [if_neg hv, if_neg hv]

-- WALKS
set_option maxHeartbeats 8000000 in
set_option maxRecDepth 100000 in
theorem sorts_far (b o c : Nat) (xs ys : List Int) (w : World) (hys : ys = xs.take 30) (h0 : 0 < ys.length) (hc : xs.length ≤ c) (hcm : c ≤ 140737488351232) (hw : ∀ x ∈ ys, 0 ≤ x ∧ x < 4294967296)
    (hA : ∀ j (h : j < ys.length), w.cell? ⟨b, o + j, none⟩ = some (.int .u32 ys[j])) (hf : farB ys[0] ys = true) :
    Calls Try.prog 6 #[.slice (some ⟨b, o, none⟩) xs.length c] w fun e w' => e = .returned (.bool true) ∧ Below w.heap.size w w' := by
  have hyl : (min (xs.length : Int) 30).toNat = ys.length := by rw [hys, List.length_take]; omega
  have hyc : ys.length ≤ c := by rw [hys, List.length_take]; omega
  have hy30 : ys.length ≤ 30 := by rw [hys, List.length_take]; omega
  have B0 := Lib.hid (Below.refl w.heap.size w)
  have HC := Lib.hid hA
  have HR := Lib.hid hw
  have HF := Lib.hid hf
  clear hA hw hf hys
  obtain ⟨z, hz⟩ : ∃ z, ys[0] = z := ⟨_, rfl⟩
  have HZ := Lib.hid hz
  have rz := HR.out ys[0] (List.getElem_mem h0)
  rw [hz] at rz
  have HN : Hid (¬ Near z ys ys.length) := Lib.hid (fun h => by have := (near_iff z ys h0 hz).2 h; have h2 := HF.out; rw [hz, this] at h2; cases h2)
  clear hz
  go_enter Try.func6, Try.ntmps6
  go_wp2_with (first | (go_at_call 7; refine (speaks_calls _).mono ?_; rintro e w1 ⟨rfl, rfl⟩) | (go_at_call 13; refine (sort_far b o c ys z _ (by rw [List.getElem?_eq_getElem h0, HZ.out]) (by omega) HC.out (by rw [← HZ.out]; exact HF.out)).mono ?_; rintro e w2 ⟨rfl, hb⟩; have HD : Hid (∀ j (h : j < ys.length), w2.cell? ⟨b, o + j, none⟩ = some (.int .u32 ys[j])) := Lib.hid (fun j h => (hb.cell (World.block_lt_of_cell? _ _ (HC.out j h))).trans (HC.out j h)); replace B0 := Lib.hid (B0.out.trans (hb.mono B0.out.size)); clear hb))
  go_loopw [6, 5] (fun i p wr => ∃ (k : Nat) (q : Bool), k ≤ ys.length ∧ i = .int .i64 k ∧ p = .bool q ∧ (q = true ↔ Near z ys k) ∧ Below w2.heap.size w2 wr) (fun i _ _ => ys.length - (intOf i).toNat)
  case atStart => exact ⟨0, true, Nat.zero_le _, rfl, rfl, ⟨fun _ i k _ _ h => by omega, fun _ => rfl⟩, Below.refl _ _⟩
  case round =>
    obtain ⟨i, q, hi, rfl, rfl, hq, hb⟩ := hrel
    have HB := Lib.hid hb
    have HQ := Lib.hid hq
    clear hb hq
    by_cases hlt : i < ys.length
    · have q1 : decide ((i : Int) < (ys.length : Int)) = true := decide_eq_true (by omega)
      go_wp2
      obtain ⟨wo, rfl⟩ : ∃ wo : World, wo = wr := ⟨_, rfl⟩
      go_loopw [7, 5] (fun j p wv => ∃ (k : Nat) (q : Bool), k ≤ ys.length ∧ j = .int .i64 k ∧ p = .bool q ∧ (q = true ↔ (Near z ys i ∧ ∀ m (hm : m < ys.length), m < k → gap z ys[i] - gap z ys[m] < 2147483648)) ∧ Below w2.heap.size w2 wv) (fun j _ _ => ys.length - (intOf j).toNat)
      case atStart => exact ⟨0, q, Nat.zero_le _, rfl, rfl, ⟨fun h => ⟨HQ.out.1 h, fun m _ h => by omega⟩, fun h => HQ.out.2 h.1⟩, HB.out⟩
      case round =>
        obtain ⟨k, p, hk, rfl, rfl, hp, hv⟩ := hrel
        have HP := Lib.hid hp
        have HV := Lib.hid hv
        clear hp hv
        by_cases hkt : k < ys.length
        · have q2 : decide ((k : Int) < (ys.length : Int)) = true := decide_eq_true (by omega)
          have cz := (HV.out.cell (World.block_lt_of_cell? w2 _ (HD.out 0 h0))).trans (HD.out 0 h0)
          rw [HZ.out, Nat.add_zero] at cz
          have ci := (HV.out.cell (World.block_lt_of_cell? w2 _ (HD.out i hlt))).trans (HD.out i hlt)
          have ck := (HV.out.cell (World.block_lt_of_cell? w2 _ (HD.out k hkt))).trans (HD.out k hkt)
          obtain ⟨x, hx⟩ : ∃ x, ys[i] = x := ⟨_, rfl⟩
          obtain ⟨y, hy⟩ : ∃ y, ys[k] = y := ⟨_, rfl⟩
          have rx := HR.out ys[i] (List.getElem_mem hlt)
          have ry := HR.out ys[k] (List.getElem_mem hkt)
          rw [hx] at ci rx
          rw [hy] at ck ry
          have gx := gap_range z x
          have gy := gap_range z y
          have n1 : (0 : Int) ≤ (k : Int) := by omega
          have n2 : (0 : Int) ≤ (i : Int) := by omega
          have n3 : (k : Int) < (ys.length : Int) := by omega
          have n4 : (i : Int) < (ys.length : Int) := by omega
          have n5 : (0 : Int) < (ys.length : Int) := by omega
          have HX := Lib.hid hx
          have HY := Lib.hid hy
          clear hx hy
          cases p with
          | false =>
            go_wp2
            go_quiet (fail)
            generalize hW : World.drewN _ _ = w4
            have HW := Lib.hid hW
            clear hW
            go_wp2
            go_roundw
            case rel =>
              refine ⟨k + 1, false, by omega, by go_num, rfl, ⟨fun h => (by cases h), fun h => HP.out.2 ⟨h.1, fun m hm hmk => h.2 m hm (by omega)⟩⟩, by rw [← HW.out]; exact Go.below_drewN HV.out _⟩
            case measure => simp [intOf]; omega
          | true =>
            have hk1 : decide (gap z x - gap z y < 2147483648) = true ∨ decide (gap z x - gap z y < 2147483648) = false := by cases decide (gap z x - gap z y < 2147483648) <;> simp
            rcases hk1 with hk1 | hk1
            · go_wp2
              go_quiet ((first | (go_at_call 8; exact Calls.quiet_of_same (refgap_calls _ _ _ (by assumption) (by assumption)))))
              generalize hW : World.drewN _ _ = w4
              have HW := Lib.hid hW
              clear hW
              go_wp2
              go_roundw
              case rel =>
                refine ⟨k + 1, true, by omega, by go_num, rfl, ⟨fun _ => ⟨(HP.out.1 (by trivial)).1, fun m hm hmk => ?_⟩, fun h => rfl⟩, by rw [← HW.out]; exact Go.below_drewN HV.out _⟩
                rcases Nat.lt_or_ge m k with h | h
                · exact (HP.out.1 (by trivial)).2 m hm h
                · obtain rfl : m = k := by omega
                  rw [HX.out, HY.out]
                  exact of_decide_eq_true hk1
              case measure => simp [intOf]; omega
            · go_wp2
              go_quiet ((first | (go_at_call 8; exact Calls.quiet_of_same (refgap_calls _ _ _ (by assumption) (by assumption)))))
              generalize hW : World.drewN _ _ = w4
              have HW := Lib.hid hW
              clear hW
              go_wp2
              go_roundw
              case rel =>
                refine ⟨k + 1, false, by omega, by go_num, rfl, ⟨fun h => (by cases h), fun h => ?_⟩, by rw [← HW.out]; exact Go.below_drewN HV.out _⟩
                have h1 := h.2 k hkt (by omega)
                rw [HX.out, HY.out] at h1
                exact absurd h1 (of_decide_eq_false hk1)
              case measure => simp [intOf]; omega
        · obtain rfl : k = ys.length := by omega
          have q2 : decide ((ys.length : Int) < (ys.length : Int)) = false := decide_eq_false (by omega)
          go_wp2
          go_roundw
          case rel =>
            refine ⟨i + 1, p, by omega, by go_num, rfl, ⟨fun h => ?_, fun h => HP.out.2 ⟨fun a m ha hm h2 => h a m ha hm (by omega), fun m hm _ => h i m hlt hm (by omega)⟩⟩, HV.out⟩
            obtain ⟨h1, h2⟩ := HP.out.1 h
            intro a m ha hm hai
            rcases Nat.lt_or_ge a i with h3 | h3
            · exact h1 a m ha hm h3
            · obtain rfl : a = i := by omega
              exact h2 m hm hm
          case measure => simp [intOf]; omega
    · obtain rfl : i = ys.length := by omega
      have q1 : decide ((ys.length : Int) < (ys.length : Int)) = false := decide_eq_false (by omega)
      obtain rfl : q = false := by cases q with | false => rfl | true => exact absurd (HQ.out.1 rfl) HN.out
      go_wp2
      go_ret
      exact ⟨rfl, B0.out.trans (HB.out.mono B0.out.size)⟩

set_option maxHeartbeats 8000000 in
set_option maxRecDepth 100000 in
theorem sorts_near (b o c : Nat) (xs ys : List Int) (w : World) (hys : ys = xs.take 30) (h0 : 0 < ys.length) (hc : xs.length ≤ c) (hcm : c ≤ 140737488351232) (hw : ∀ x ∈ ys, 0 ≤ x ∧ x < 4294967296)
    (hA : ∀ j (h : j < ys.length), w.cell? ⟨b, o + j, none⟩ = some (.int .u32 ys[j])) (hf : farB ys[0] ys = false) :
    Calls Try.prog 6 #[.slice (some ⟨b, o, none⟩) xs.length c] w fun e w' => e = .returned (.bool true) ∧ Below w.heap.size w w' := by
  have hyl : (min (xs.length : Int) 30).toNat = ys.length := by rw [hys, List.length_take]; omega
  have hyc : ys.length ≤ c := by rw [hys, List.length_take]; omega
  have hy30 : ys.length ≤ 30 := by rw [hys, List.length_take]; omega
  have B0 := Lib.hid (Below.refl w.heap.size w)
  have HC := Lib.hid hA
  have HR := Lib.hid hw
  have HF := Lib.hid hf
  clear hA hw hf hys
  obtain ⟨z, hz⟩ : ∃ z, ys[0] = z := ⟨_, rfl⟩
  have HZ := Lib.hid hz
  have rz := HR.out ys[0] (List.getElem_mem h0)
  rw [hz] at rz
  have HN : Hid (Near z ys ys.length) := Lib.hid ((near_iff z ys h0 hz).1 (by have h2 := HF.out; rw [hz] at h2; exact h2))
  clear hz
  go_enter Try.func6, Try.ntmps6
  go_wp2_with (first | (go_at_call 7; refine (speaks_calls _).mono ?_; rintro e w1 ⟨rfl, rfl⟩) | (go_at_call 13; refine (sort_near b o c ys z _ (by rw [List.getElem?_eq_getElem h0, HZ.out]) (by omega) HC.out (by rw [← HZ.out]; exact HF.out)).mono ?_; rintro e w2 ⟨g, cap, gs, rfl, hgp, hgo, hgc, hb⟩; have HGP := Lib.hid hgp; have HGO := Lib.hid hgo; have HGC : Hid (∀ j (h : j < gs.length), w2.cell? ⟨g, j, none⟩ = some (.int .u32 gs[j])) := Lib.hid (fun j h => by have h2 := hgc j h; rw [Nat.zero_add] at h2; exact h2); have HD : Hid (∀ j (h : j < ys.length), w2.cell? ⟨b, o + j, none⟩ = some (.int .u32 ys[j])) := Lib.hid (fun j h => (hb.cell (World.block_lt_of_cell? _ _ (HC.out j h))).trans (HC.out j h)); replace B0 := Lib.hid (B0.out.trans (hb.mono B0.out.size)); clear hb hgp hgo hgc))
  go_loopw [6, 5] (fun i p wr => ∃ (k : Nat) (q : Bool), k ≤ ys.length ∧ i = .int .i64 k ∧ p = .bool q ∧ (q = true ↔ Near z ys k) ∧ Below w2.heap.size w2 wr) (fun i _ _ => ys.length - (intOf i).toNat)
  case atStart => exact ⟨0, true, Nat.zero_le _, rfl, rfl, ⟨fun _ i k _ _ h => by omega, fun _ => rfl⟩, Below.refl _ _⟩
  case round =>
    obtain ⟨i, q, hi, rfl, rfl, hq, hb⟩ := hrel
    have HB := Lib.hid hb
    have HQ := Lib.hid hq
    clear hb hq
    by_cases hlt : i < ys.length
    · have q1 : decide ((i : Int) < (ys.length : Int)) = true := decide_eq_true (by omega)
      go_wp2
      obtain ⟨wo, rfl⟩ : ∃ wo : World, wo = wr := ⟨_, rfl⟩
      go_loopw [7, 5] (fun j p wv => ∃ (k : Nat) (q : Bool), k ≤ ys.length ∧ j = .int .i64 k ∧ p = .bool q ∧ (q = true ↔ (Near z ys i ∧ ∀ m (hm : m < ys.length), m < k → gap z ys[i] - gap z ys[m] < 2147483648)) ∧ Below w2.heap.size w2 wv) (fun j _ _ => ys.length - (intOf j).toNat)
      case atStart => exact ⟨0, q, Nat.zero_le _, rfl, rfl, ⟨fun h => ⟨HQ.out.1 h, fun m _ h => by omega⟩, fun h => HQ.out.2 h.1⟩, HB.out⟩
      case round =>
        obtain ⟨k, p, hk, rfl, rfl, hp, hv⟩ := hrel
        have HP := Lib.hid hp
        have HV := Lib.hid hv
        clear hp hv
        by_cases hkt : k < ys.length
        · have q2 : decide ((k : Int) < (ys.length : Int)) = true := decide_eq_true (by omega)
          have cz := (HV.out.cell (World.block_lt_of_cell? w2 _ (HD.out 0 h0))).trans (HD.out 0 h0)
          rw [HZ.out, Nat.add_zero] at cz
          have ci := (HV.out.cell (World.block_lt_of_cell? w2 _ (HD.out i hlt))).trans (HD.out i hlt)
          have ck := (HV.out.cell (World.block_lt_of_cell? w2 _ (HD.out k hkt))).trans (HD.out k hkt)
          obtain ⟨x, hx⟩ : ∃ x, ys[i] = x := ⟨_, rfl⟩
          obtain ⟨y, hy⟩ : ∃ y, ys[k] = y := ⟨_, rfl⟩
          have rx := HR.out ys[i] (List.getElem_mem hlt)
          have ry := HR.out ys[k] (List.getElem_mem hkt)
          rw [hx] at ci rx
          rw [hy] at ck ry
          have gx := gap_range z x
          have gy := gap_range z y
          have n1 : (0 : Int) ≤ (k : Int) := by omega
          have n2 : (0 : Int) ≤ (i : Int) := by omega
          have n3 : (k : Int) < (ys.length : Int) := by omega
          have n4 : (i : Int) < (ys.length : Int) := by omega
          have n5 : (0 : Int) < (ys.length : Int) := by omega
          have HX := Lib.hid hx
          have HY := Lib.hid hy
          clear hx hy
          cases p with
          | false =>
            go_wp2
            go_quiet (fail)
            generalize hW : World.drewN _ _ = w4
            have HW := Lib.hid hW
            clear hW
            go_wp2
            go_roundw
            case rel =>
              refine ⟨k + 1, false, by omega, by go_num, rfl, ⟨fun h => (by cases h), fun h => HP.out.2 ⟨h.1, fun m hm hmk => h.2 m hm (by omega)⟩⟩, by rw [← HW.out]; exact Go.below_drewN HV.out _⟩
            case measure => simp [intOf]; omega
          | true =>
            have hk1 : decide (gap z x - gap z y < 2147483648) = true ∨ decide (gap z x - gap z y < 2147483648) = false := by cases decide (gap z x - gap z y < 2147483648) <;> simp
            rcases hk1 with hk1 | hk1
            · go_wp2
              go_quiet ((first | (go_at_call 8; exact Calls.quiet_of_same (refgap_calls _ _ _ (by assumption) (by assumption)))))
              generalize hW : World.drewN _ _ = w4
              have HW := Lib.hid hW
              clear hW
              go_wp2
              go_roundw
              case rel =>
                refine ⟨k + 1, true, by omega, by go_num, rfl, ⟨fun _ => ⟨(HP.out.1 (by trivial)).1, fun m hm hmk => ?_⟩, fun h => rfl⟩, by rw [← HW.out]; exact Go.below_drewN HV.out _⟩
                rcases Nat.lt_or_ge m k with h | h
                · exact (HP.out.1 (by trivial)).2 m hm h
                · obtain rfl : m = k := by omega
                  rw [HX.out, HY.out]
                  exact of_decide_eq_true hk1
              case measure => simp [intOf]; omega
            · go_wp2
              go_quiet ((first | (go_at_call 8; exact Calls.quiet_of_same (refgap_calls _ _ _ (by assumption) (by assumption)))))
              generalize hW : World.drewN _ _ = w4
              have HW := Lib.hid hW
              clear hW
              go_wp2
              go_roundw
              case rel =>
                refine ⟨k + 1, false, by omega, by go_num, rfl, ⟨fun h => (by cases h), fun h => ?_⟩, by rw [← HW.out]; exact Go.below_drewN HV.out _⟩
                have h1 := h.2 k hkt (by omega)
                rw [HX.out, HY.out] at h1
                exact absurd h1 (of_decide_eq_false hk1)
              case measure => simp [intOf]; omega
        · obtain rfl : k = ys.length := by omega
          have q2 : decide ((ys.length : Int) < (ys.length : Int)) = false := decide_eq_false (by omega)
          go_wp2
          go_roundw
          case rel =>
            refine ⟨i + 1, p, by omega, by go_num, rfl, ⟨fun h => ?_, fun h => HP.out.2 ⟨fun a m ha hm h2 => h a m ha hm (by omega), fun m hm _ => h i m hlt hm (by omega)⟩⟩, HV.out⟩
            obtain ⟨h1, h2⟩ := HP.out.1 h
            intro a m ha hm hai
            rcases Nat.lt_or_ge a i with h3 | h3
            · exact h1 a m ha hm h3
            · obtain rfl : a = i := by omega
              exact h2 m hm hm
          case measure => simp [intOf]; omega
    · obtain rfl : i = ys.length := by omega
      have q1 : decide ((ys.length : Int) < (ys.length : Int)) = false := decide_eq_false (by omega)
      obtain rfl : q = true := HQ.out.2 HN.out
      have hgl := HGP.out.length_eq
      have hmm := @run_makeMap Try.prog
      have HO := Lib.hid (OwnCnt.made wr)
      have HB1 : Hid (Below w2.heap.size w2 (wr.alloc (.map #[] 0))) := Lib.hid (HB.out.alloc HB.out.size _)
      have HS : Hid (w2.heap.size ≤ wr.heap.size) := Lib.hid HB.out.size
      obtain ⟨M, hM⟩ : ∃ M, M = wr.heap.size := ⟨_, rfl⟩
      rw [← hM] at HO HS
      go_wp2
      clear hmm
      rw [← hM]
      clear hM
      go_loopw [9] (fun i wv => ∃ k : Nat, k ≤ ys.length ∧ i = .int .i64 k ∧ OwnCnt wv M k (cnt (ys.take k)) ∧ Below w2.heap.size w2 wv) (fun i _ => ys.length - (intOf i).toNat)
      case atStart => exact ⟨0, Nat.zero_le _, rfl, HO.out, HB1.out⟩
      case round =>
        obtain ⟨k, hk, rfl, ho, hv⟩ := hrel
        have HV := Lib.hid hv
        have HW := Lib.hid ho
        clear hv ho HO HB1
        by_cases hkt : k < ys.length
        · have q2 : decide ((k : Int) < (ys.length : Int)) = true := decide_eq_true (by omega)
          have ck := (HV.out.cell (World.block_lt_of_cell? w2 _ (HD.out k hkt))).trans (HD.out k hkt)
          have rx := HR.out ys[k] (List.getElem_mem hkt)
          have hl := HW.out.look ys[k] rx
          have hc2 := cnt_range (ys.take k) ys[k]
          rw [List.length_take] at hc2
          obtain ⟨w5, hst, ho5, hg5⟩ := HW.out.store ys[k] (cnt (ys.take k) ys[k] + 1) rx (by omega) (by unfold maxLen; omega)
          rw [cnt_snoc ys k hkt] at ho5
          have HO5 := Lib.hid ho5
          have HB5 := Lib.hid (HV.out.grown hg5 HV.out.size (fun r e => by cases e; exact HS.out))
          obtain ⟨x, hx⟩ : ∃ x, ys[k] = x := ⟨_, rfl⟩
          obtain ⟨ct, hct⟩ : ∃ ct, cnt (ys.take k) ys[k] = ct := ⟨_, rfl⟩
          rw [hct] at hl hst hc2
          rw [hx] at ck rx hl hst
          clear hct hx ho5 hg5
          go_wp2
          go_roundw
          case rel => exact ⟨k + 1, by omega, by go_num, HO5.out, HB5.out⟩
          case measure => simp [intOf]; omega
        · obtain rfl : k = ys.length := by omega
          have q2 : decide ((ys.length : Int) < (ys.length : Int)) = false := decide_eq_false (by omega)
          have HO0 : Hid (OwnCnt wr M ys.length fun v => cnt ys v - cnt (gs.take 0) v) := Lib.hid (by
            have e : (fun v => cnt ys v - cnt (gs.take 0) v) = cnt (ys.take ys.length) := by funext v; simp [cnt]
            rw [e]; exact HW.out)
          clear HW
          go_wp2
          go_loopw [10] (fun i wv => ∃ k : Nat, k ≤ gs.length ∧ i = .int .i64 k ∧ OwnCnt wv M (ys.length + k) (fun v => cnt ys v - cnt (gs.take k) v) ∧ Below w2.heap.size w2 wv) (fun i _ => gs.length - (intOf i).toNat)
          case atStart => exact ⟨0, Nat.zero_le _, rfl, HO0.out, HV.out⟩
          case round =>
            obtain ⟨k, hk, rfl, ho, hv⟩ := hrel
            have HV4 := Lib.hid hv
            have HW4 := Lib.hid ho
            clear hv ho HO0 HV
            by_cases hkt : k < gs.length
            · have q2 : decide ((k : Int) < (ys.length : Int)) = true := decide_eq_true (by omega)
              have ck := (HV4.out.cell (World.block_lt_of_cell? w2 _ (HGC.out k hkt))).trans (HGC.out k hkt)
              have rx := HR.out gs[k] (HGP.out.mem_iff.1 (List.getElem_mem hkt))
              have hl := HW4.out.look gs[k] rx
              have hc2 := cnt_less gs ys k hkt HGP.out
              have hc3 := cnt_range ys gs[k]
              have hc4 := cnt_range (gs.take k) gs[k]
              obtain ⟨w5, hst, ho5, hg5⟩ := HW4.out.store gs[k] (cnt ys gs[k] - cnt (gs.take k) gs[k] - 1) rx (by omega) (by unfold maxLen; omega)
              rw [cnt_down gs ys k hkt] at ho5
              have HB5 := Lib.hid (HV4.out.grown hg5 HV4.out.size (fun r e => by cases e; exact HS.out))
              have hl5 := fun n => (ho5.heap (w' := w5.drewN n) (by rw [drewN_heap])).look gs[k] rx
              have ck5 := (HB5.out.cell (World.block_lt_of_cell? w2 _ (HGC.out k hkt))).trans (HGC.out k hkt)
              have e5 : cnt ys gs[k] - cnt (gs.take (k + 1)) gs[k] = cnt ys gs[k] - cnt (gs.take k) gs[k] - 1 := by
                have := congrFun (cnt_snoc gs k hkt) gs[k]
                simp only [if_true] at this
                omega
              rw [e5] at hl5
              have HO5 := Lib.hid ho5
              have HXK : Hid (∃ x, x = gs[k]) := Lib.hid ⟨_, rfl⟩
              obtain ⟨x, hx⟩ : ∃ x, gs[k] = x := ⟨_, rfl⟩
              obtain ⟨ct, hct⟩ : ∃ ct, cnt ys gs[k] - cnt (gs.take k) gs[k] = ct := ⟨_, rfl⟩
              have t1 : decide (ct - 1 < 0) = false := decide_eq_false (by omega)
              have t2 : 1 ≤ ct ∧ ct ≤ 30 := by omega
              rw [hct] at hl hst hl5
              rw [hx] at ck rx hl hst ck5 hl5
              clear hct ho5 hg5 e5 hc2 hc3 hc4
              have HX := Lib.hid hx
              clear hx
              rcases Nat.eq_zero_or_pos k with hk0 | hk0
              · have t3 : decide (0 < (k : Int)) = false := decide_eq_false (by omega)
                have t4 : decide (0 < k) = false := decide_eq_false (by omega)
                clear hk0
                go_wp2
                go_quiet (fail)
                generalize hW : World.drewN _ _ = w6
                have HW6 := Lib.hid hW
                clear hW
                go_wp2
                go_roundw
                case rel =>
                  exact ⟨k + 1, by omega, by go_num, by rw [← HW6.out]; exact HO5.out.heap (by rw [drewN_heap]), by rw [← HW6.out]; exact Go.below_drewN HB5.out _⟩
                case measure => simp [intOf]; omega
              · have t3 : decide (0 < (k : Int)) = true := decide_eq_true (by omega)
                obtain ⟨m, hkm⟩ : ∃ m, k = m + 1 := ⟨k - 1, by omega⟩
                have hm : m < gs.length := by omega
                have hmk : m < k := by omega
                have n1 : (0 : Int) ≤ (k : Int) - 1 := by omega
                have n2 : (k : Int) - 1 < (ys.length : Int) := by omega
                have n7 : ((k : Int) - 1).toNat = m := by omega
                clear hkm
                have cm5 := (HB5.out.cell (World.block_lt_of_cell? w2 _ (HGC.out m hm))).trans (HGC.out m hm)
                have ry := HR.out gs[m] (HGP.out.mem_iff.1 (List.getElem_mem hm))
                have s1 := HGO.out m k hm hkt hmk
                obtain ⟨ix, hix, ex⟩ := List.mem_iff_getElem.1 (HGP.out.mem_iff.1 (List.getElem_mem hkt))
                obtain ⟨iy, hiy, ey⟩ := List.mem_iff_getElem.1 (HGP.out.mem_iff.1 (List.getElem_mem hm))
                have s2 := HN.out ix iy hix hiy hix
                rw [ex, ey] at s2
                obtain ⟨y, hy⟩ : ∃ y, gs[m] = y := ⟨_, rfl⟩
                rw [hy] at cm5 ry s1 s2
                rw [HX.out] at s1 s2
                clear ex ey hix hiy hy
                by_cases hxy : x = y
                · subst hxy
                  clear s1 s2
                  have u1 : (x == x) = true := by simp
                  go_wp2
                  go_quiet (fail)
                  generalize hW : World.drewN _ _ = w6
                  have HW6 := Lib.hid hW
                  clear hW
                  go_wp2
                  go_roundw
                  case rel =>
                    exact ⟨k + 1, by omega, by go_num, by rw [← HW6.out]; exact HO5.out.heap (by rw [drewN_heap]), by rw [← HW6.out]; exact Go.below_drewN HB5.out _⟩
                  case measure => simp [intOf]; omega
                · have hls := less_of z y x ry rx s1 s2 (fun e => hxy e.symm)
                  have u1 : (x == y) = false := by rw [beq_eq_false_iff_ne]; exact hxy
                  have u2 : decide (x = y) = false := decide_eq_false hxy
                  have u3 : (x != y) = true := by simp [bne, u1]
                  have u4 : decide (¬ x = y) = true := decide_eq_true hxy
                  clear s1 s2 hxy rx ry
                  go_wp2
                  refine wp_region_quiet_lit (by kernel_rfl) (by kernel_rfl) ?_
                  iterate 18 (go_big_quiet_step (fail))
                  iterate 18 (go_big_quiet_step ((go_at_call 10; exact Calls.quiet_of_same (less_same _ _ _))))
                  refine wpQuiet_nil ?_
                  intro _ hw'
                  obtain ⟨nq, hw''⟩ := hw'
                  subst hw''
                  generalize hW : World.drewN _ _ = w6
                  have HW6 := Lib.hid hW
                  clear hW
                  go_wp2
                  go_roundw
                  case rel =>
                    exact ⟨k + 1, by omega, by go_num, by rw [← HW6.out]; exact HO5.out.heap (by rw [drewN_heap]), by rw [← HW6.out]; exact Go.below_drewN HB5.out _⟩
                  case measure => simp [intOf]; omega
            · obtain rfl : k = gs.length := by omega
              have q2 : decide ((gs.length : Int) < (ys.length : Int)) = false := decide_eq_false (by omega)
              go_wp2
              go_ret
              exact ⟨by simp, B0.out.trans (HV4.out.mono B0.out.size)⟩

end Go.Proofs.Ytebabhpbgcencaa.Sr
