/-
  The reference: counts above 0, the greatest first.
-/
import Derived.Test.YtnoplhjbachjiaaMgManyWalk
namespace Go.Proofs.Ytnoplhjbachjiaa.Mg
open Go.ChangeShapes Go.WideShapes Go.ChangeAt Go.RowKit Go.Shelf Go.Proofs
set_option linter.unusedVariables false
set_option linter.unusedSimpArgs false

/-- Where a number is put: behind all that are no less. -/
def placeD (x : Int) (l : List Int) : Nat := (l.takeWhile (fun y => decide (x ≤ y))).length
def insD (x : Int) (l : List Int) : List Int := l.take (placeD x l) ++ ([x] ++ l.drop (placeD x l))
def srtTo (cs : List Int) : Nat → List Int
  | 0 => []
  | k + 1 => if cs.getD k 0 = 0 then srtTo cs k else insD (cs.getD k 0) (srtTo cs k)
theorem placeD_le (x : Int) (l : List Int) : placeD x l ≤ l.length := by
  unfold placeD
  exact (List.takeWhile_sublist _).length_le
theorem insD_len (x : Int) (l : List Int) : (insD x l).length = l.length + 1 := by
  have := placeD_le x l
  unfold insD
  simp only [List.length_append, List.length_take, List.length_drop, List.length_singleton]
  omega
theorem srtTo_len (cs : List Int) : ∀ k, (srtTo cs k).length ≤ k
  | 0 => Nat.le_refl _
  | k + 1 => by
    have := srtTo_len cs k
    unfold srtTo
    split
    · omega
    · rw [insD_len]; omega
theorem placeD_go (x : Int) : ∀ (l : List Int) (j : Nat) (h : j < l.length), j ≤ placeD x l → (x ≤ l[j] ↔ j < placeD x l)
  | a :: r, 0, h, _ => by
    unfold placeD
    by_cases hx : x ≤ a
    · simp [hx]
    · simp [hx]
  | a :: r, j + 1, h, hj => by
    unfold placeD at hj ⊢
    by_cases hx : x ≤ a
    · have e : (a :: r).takeWhile (fun y => decide (x ≤ y)) = a :: r.takeWhile (fun y => decide (x ≤ y)) := by simp [hx]
      rw [e] at hj ⊢
      simp only [List.length_cons] at hj ⊢
      have ih := placeD_go x r j (by simpa using h) (by unfold placeD; omega)
      unfold placeD at ih
      simp only [List.getElem_cons_succ]
      omega
    · have e : (a :: r).takeWhile (fun y => decide (x ≤ y)) = [] := by simp [hx]
      rw [e] at hj
      simp at hj

theorem own_take {w : World} {b : Nat} {T : TypeId} {g n cap : Nat} {xs : List Value} (h : w.ownsRow b T 1 (.slice (some ⟨g, 0, none⟩) n cap) n xs) (k : Nat) (hk : k ≤ n) : w.ownsRow b T 1 (.slice (some ⟨g, 0, none⟩) k cap) k (xs.take k) := by
  obtain ⟨h1, ⟨h2, _⟩ | ⟨g', cap', cur, h3, h4, h5, h6, h7, h8, h9⟩⟩ := h
  · cases h2
  · cases h3
    refine ⟨by rw [List.length_take]; omega, .inr ⟨g, cap, cur, rfl, h4, h5, by omega, h7, h8, ?_⟩⟩
    rw [← h9, List.take_take, Nat.mul_one, Nat.mul_one, Nat.min_eq_left hk]

theorem own_news {w : World} {b : Nat} {T : TypeId} {g n cap : Nat} {xs : List Value} (h : w.ownsRow b T 1 (.slice (some ⟨g, 0, none⟩) n cap) n xs) (o : Nat) : ∀ j u, (xs.drop o)[j]? = some u → w.cell? ((⟨g, o, none⟩ : Addr).add j) = some u := by
  obtain ⟨h1, ⟨h2, _⟩ | ⟨g', cap', cur, h3, h4, h5, h6, h7, h8, h9⟩⟩ := h
  · cases h2
  · cases h3
    intro j u hu
    rw [List.getElem?_drop] at hu
    have hadd : (⟨g, o, none⟩ : Addr).add j = ⟨g, o + j, none⟩ := by unfold Addr.add; split <;> simp_all
    rw [hadd]
    have hj : o + j < xs.length := (List.getElem?_eq_some_iff.1 hu).1
    rw [← h9, List.getElem?_take, if_pos (by omega)] at hu
    simp only [World.cell?]
    rw [h5]
    simpa using hu

theorem own_relen {w : World} {b : Nat} {T : TypeId} {v : Value} {n : Nat} {xs : List Value} (h : w.ownsRow b T 1 v n xs) : w.ownsRow b T 1 v xs.length xs := by
  have e : xs.length = n := by have := h.1; omega
  rw [e]
  exact h

/-- An append at a step of a region that draws: of nothing, too. -/
theorem step_append_own {P : Program} (w : World) {ops : Array Oper} {o : Oper} {a : Act} {K : Act → World → Prop} {Q : Exit → Act → World → Prop} {E : Prop} (hgd : o.guard = none) (s x : Operand) (t : TypeId)
    (ho : o.op = .call { callee := .builtin .append, args := #[s, x], argTypes := #[t, t] })
    (base : Nat) (e : TypeId) (i : TypeInfo) (z : Value) (size bytes : Nat) (ht : P.underlying t = some (.slice e)) (hi : P.info? e = some i) (hz : i.zero = some z)
    (hsize : i.size = size) (hby : i.bytes = bytes) (hzs : z.cells.size = size) (hsz : 0 < size)
    (v : Value) (n : Nat) (xs : List Value) (hs : a.eval s = v) (hown : w.ownsRow base e size v n xs)
    (ad : Addr) (m c : Nat) (news : List Value) (hx : a.eval x = .slice (some ad) m c) (hl : news.length = m * size) (hnews : ∀ j u, news[j]? = some u → w.cell? (ad.add j) = some u) (h1 : ∀ u ∈ news, u.oneCell' = true)
    (h63 : n + m ≤ maxLen) (hbytes : (n + m) * bytes ≤ 140737488355328) (hbase : base ≤ w.heap.size)
    (h : ∀ v' w', w'.ownsRow base e size v' (n + m) (xs ++ news) → w.grownBy w' v.ownBlock → (v' = .slice none 0 0 ↔ v = .slice none 0 0 ∧ m = 0) → K (a.put o.dst v') w') :
    if Region.wanted o (yielded ops a.tmps) = true then Oper.wp P o a w K Q else E := by
  have hw : Region.wanted o (yielded ops a.tmps) = true := by simp [Region.wanted, hgd]
  rw [if_pos hw]
  exact wp_append_own w s x t ho base e i z size bytes ht hi hz hsize hby hzs hsz v n xs hs hown ad m c news hx hl hnews h1 h63 hbytes hbase h

theorem ints_one (l : List Int) : ∀ u ∈ l.map (Value.int .i64), u.oneCell' = true := by
  intro u hu
  obtain ⟨x, _, rfl⟩ := List.mem_map.1 hu
  rfl
theorem own_new (w : World) (v : Value) (t : TypeId) : (w.alloc (.cells #[v] t)).ownsRow w.heap.size t 1 (.slice (some ⟨w.heap.size, 0, none⟩) 1 1) 1 [v] :=
  ⟨rfl, .inr ⟨w.heap.size, 1, #[v], rfl, Nat.le_refl _, heap_new w _, Nat.le_refl _, by unfold maxLen; omega, rfl, rfl⟩⟩

set_option maxHeartbeats 4000000 in
set_option maxRecDepth 100000 in
theorem sorted_calls (g c n : Nat) (cs : List Int) (w : World) (hr : RowC w g cs) (hn : cs.length = n) (hl : n ≤ 288) :
    Calls Try.prog 22 #[.slice (some ⟨g, 0, none⟩) n c] w fun e w' => ∃ v, e = .returned v ∧ w'.ownsRow w.heap.size 3 1 v (srtTo cs n).length ((srtTo cs n).map (Value.int .i64)) ∧ Below w.heap.size w w' := by
  have hii : Try.prog.info? 3 = some ti := by kernel_rfl
  have hiz0 : ti.zero = some (.int .i64 0) := by kernel_rfl
  have hiz1 : ti.size = 1 := by kernel_rfl
  have hiz2 : ti.bytes = 8 := by kernel_rfl
  have HR := Lib.hid hr
  have HN := Lib.hid hn
  clear hr hn
  go_enter Try.func22, Try.ntmps22
  go_wp2
  go_loopw [3, 4] (fun v i wr => ∃ k : Nat, k ≤ n ∧ i = .int .i64 k ∧ wr.ownsRow w.heap.size 3 1 v (srtTo cs k).length ((srtTo cs k).map (Value.int .i64)) ∧ Below w.heap.size w wr) (fun _ i _ => n - (intOf i).toNat)
  case atStart => exact ⟨0, Nat.zero_le _, rfl, World.ownsRow_nil _ _ _ _, Below.refl _ _⟩
  case round =>
    obtain ⟨k, hk, rfl, hown, hbw⟩ := hrel
    have HB := Lib.hid hbw
    have hB1 := hbw.size
    clear hbw
    by_cases hlt : k < n
    · have q1 : decide ((k : Int) < (n : Int)) = true := decide_eq_true (by omega)
      have k1 : k < cs.length := by rw [HN.out]; exact hlt
      have e0 := (HR.out.cell k k1).1
      have hcell := (HB.out.cell (World.block_lt_of_cell? w _ e0)).trans e0
      have hsucc : srtTo cs (k + 1) = if cs.getD k 0 = 0 then srtTo cs k else insD (cs.getD k 0) (srtTo cs k) := rfl
      rw [getD_get _ k k1] at hsucc
      have hll := srtTo_len cs k
      obtain ⟨x, hx⟩ : ∃ x, cs[k] = x := ⟨_, rfl⟩
      rw [hx] at hcell hsucc
      obtain ⟨l, hl9⟩ : ∃ l, srtTo cs k = l := ⟨_, rfl⟩
      rw [hl9] at hsucc hown hll
      have e0' : w.cell? ⟨g, k, none⟩ = some (.int .i64 x) := by rw [← hx]; exact e0
      clear hx hl9 e0
      by_cases hz : x = 0
      · have t1 : (x == 0) = true := by simp [hz]
        rw [if_pos hz] at hsucc
        have HSU := Lib.hid hsucc
        have HOW := Lib.hid hown
        clear hz hsucc hown
        go_wp2
        go_roundw
        case rel => exact ⟨k + 1, by omega, by go_num, by rw [HSU.out]; exact HOW.out, HB.out⟩
        case measure => simp [intOf]; omega
      · have t1 : (x == 0) = false := by simp [hz]
        rw [if_neg hz] at hsucc
        have HSU := Lib.hid hsucc
        clear hz hsucc
        have hpl := placeD_le x l
        have HGO := Lib.hid (placeD_go x l)
        obtain ⟨at', hat⟩ : ∃ p, placeD x l = p := ⟨_, rfl⟩
        have hins : insD x l = l.take at' ++ ([x] ++ l.drop at') := by unfold insD; rw [hat]
        rw [hat] at hpl HGO
        have HIN := Lib.hid hins
        have HAT := Lib.hid hat
        clear hins hat
        obtain ⟨ln, hln⟩ : ∃ ln, l.length = ln := ⟨_, rfl⟩
        rw [hln] at hpl hll hown
        have HLN := Lib.hid hln
        clear hln
        have HOW := Lib.hid hown
        obtain ⟨hx1, ⟨hvn, hl0⟩ | ⟨g1, cap, cur, hv, hbg, hh, hnc, hcm, hsz, htk⟩⟩ := hown
        · subst hvn
          have hl9 : l = [] := List.eq_nil_of_length_eq_zero (by rw [HLN.out]; exact hl0)
          have ha9 : at' = 0 := by omega
          subst ha9
          subst hl9
          clear hx1 HOW hpl hll HGO HAT
          subst hl0
          have HO2 : Hid (srtTo cs (k + 1) = [x]) := Lib.hid (by rw [HSU.out, HIN.out]; rfl)
          go_wp2
          generalize wr = wA at *
          go_loopw [5] (fun i wx => i = .int .i64 0 ∧ wx = wA) (fun _ _ => 0)
          case atStart => exact ⟨rfl, rfl⟩
          case round =>
            obtain ⟨rfl, rfl⟩ := hrel
            have g0 : (0 : Int) ≤ (k : Int) := by omega
            have g9 : (k : Int) < (n : Int) := by omega
            have t2 : decide ((0 : Int) < 0) = false := by decide
            go_wp2_with fail
            go_quiet (fail)
            generalize hwd : World.drewN _ _ = wd
            have HBD : Hid (Below w.heap.size w wd) := Lib.hid (by rw [← hwd]; exact below_drewN HB.out _)
            have hcd := (HBD.out.cell (World.block_lt_of_cell? w _ e0')).trans e0'
            have hBD := HBD.out.size
            have HF : Hid (∀ wx : World, Below w.heap.size w wx → wx.cell? ⟨g, k, none⟩ = some (.int .i64 x)) := Lib.hid (fun wx h => (h.cell (World.block_lt_of_cell? w _ e0')).trans e0')
            have HBA : Hid (Below w.heap.size w (wd.alloc (.cells #[.int .i64 x] 3)).drew) := Lib.hid (HBD.out.alloc hBD _).drew
            have hsz9 : (wd.alloc (.cells #[.int .i64 x] 3)).drew.heap.size = wd.heap.size + 1 := by
              show (Array.push _ _).size = _
              simp
            have HSZ := Lib.hid hsz9
            have HQ : Hid (∀ W : World, (wd.alloc (.cells #[.int .i64 x] 3)).drew.grownBy W none → Below w.heap.size w W) := Lib.hid (fun W h => HBA.out.grown h (by rw [hsz9]; omega) (fun r e => by cases e))
            clear hwd hcell hsz9
            go_wp2_with fail
            go_region_held3 (fun wx => wx.cell? ⟨g, k, none⟩ = some (.int .i64 x)) (first | exact HF.out _ HBD.out.drew | exact HF.out _ HBA.out | exact HF.out _ (HQ.out _ hg3)) (first | (refine step_append_own _ rfl _ _ 22 rfl w.heap.size 3 ti (.int .i64 0) 1 8 Try.underlying22 hii hiz0 hiz1 hiz2 rfl (by decide) _ _ _ rfl (World.ownsRow_nil _ _ _ _) ⟨wd.heap.size, 0, none⟩ 1 1 [.int .i64 x] rfl rfl ?d2 ?d0 ?d3 ?d4 ?d5 ?_; (case d2 => exact cell_one_new _ _ _); (case d0 => exact ints_one [x]); (case d3 => unfold maxLen; omega); (case d4 => omega); (case d5 => rw [HSZ.out]; omega); intro v2 w2 ho2 hg3 hn2))
            have HOX := Lib.hid ho2
            have HB3 := Lib.hid (HQ.out _ hg3)
            clear ho2 hg3 hn2
            go_wp2
            go_roundw
            case rel => exact ⟨k + 1, by omega, by go_num, by rw [HO2.out]; exact HOX.out, HB3.out⟩
            case measure => simp [intOf]; omega
        · subst hv
          have HHC : Hid (∀ j (h : j < l.length), wr.cell? ⟨g1, j, none⟩ = some (.int .i64 l[j])) := Lib.hid (fun j h => by
            have h1 := own_news HOW.out 0 j (.int .i64 l[j]) (by rw [List.drop_zero, List.getElem?_map, List.getElem?_eq_getElem h]; rfl)
            have hadd : (⟨g1, 0, none⟩ : Addr).add j = ⟨g1, j, none⟩ := by unfold Addr.add; split <;> simp_all
            rwa [hadd] at h1)
          have hg1 : g1 < wr.heap.size := (Array.getElem?_eq_some_iff.1 hh).1
          clear hh hsz htk hcm hx1
          go_wp2
          generalize wr = wA at *
          go_loopw [5] (fun i wx => ∃ j : Nat, j ≤ at' ∧ i = .int .i64 j ∧ ∃ q, wx = wA.drewN q) (fun i _ => at' + 1 - (intOf i).toNat)
          case atStart => exact ⟨0, Nat.zero_le _, rfl, 0, rfl⟩
          case round =>
            obtain ⟨j, hj, rfl, q, hwq⟩ := hrel
            have HWQ := Lib.hid hwq
            have hcj := (below_drewN HB.out q).cell (World.block_lt_of_cell? w _ e0')
            rw [← hwq] at hcj
            replace hcj := hcj.trans e0'
            have f0 : (0 : Int) ≤ (j : Int) := by omega
            have fk : (0 : Int) ≤ (k : Int) := by omega
            have fk2 : (k : Int) < (n : Int) := by omega
            have HLC : Hid (∀ j (h : j < l.length), wr.cell? ⟨g1, j, none⟩ = some (.int .i64 l[j])) := Lib.hid (fun j h => by
              rw [hwq]
              exact ((below_drewN (Below.refl wA.heap.size wA) q).cell (World.block_lt_of_cell? wA _ (HHC.out j h))).trans (HHC.out j h))
            clear hwq
            by_cases hjl : j < ln
            · have t2 : decide ((j : Int) < (ln : Int)) = true := decide_eq_true (by omega)
              have f1 : (j : Int) < (ln : Int) := by omega
              have jl : j < l.length := by rw [HLN.out]; exact hjl
              have hcl := HLC.out j jl
              have hgo := HGO.out j jl hj
              obtain ⟨y, hy⟩ : ∃ y, l[j] = y := ⟨_, rfl⟩
              rw [hy] at hcl hgo
              clear hy
              by_cases hxy : x ≤ y
              · have t3 : decide (x ≤ y) = true := decide_eq_true hxy
                have hja : j < at' := hgo.1 hxy
                clear hgo hxy
                go_wp2_with fail
                go_quiet (fail)
                go_wp2
                go_roundw
                case rel => exact ⟨j + 1, by omega, by go_num, _, by rw [HWQ.out, World.drewN_drewN]⟩
                case measure => simp [intOf]; omega
              · have t3 : decide (x ≤ y) = false := decide_eq_false hxy
                have hja : j = at' := by
                  rcases Nat.lt_or_ge j at' with h | h
                  · exact absurd (hgo.2 h) hxy
                  · omega
                clear hgo hxy
                subst hja
                go_wp2_with fail
                go_quiet (fail)
                generalize hwd : World.drewN _ _ = wd
                have hwd2 : wd = wA.drewN (q + nq) := by rw [← hwd, HWQ.out, World.drewN_drewN]
                have HWD := Lib.hid hwd2
                have hca : ¬ (cap = j) := by omega
                clear hwd hwd2 hcj hcl HLC HWQ
                have HBD : Hid (Below w.heap.size w wd) := Lib.hid (by rw [HWD.out]; exact below_drewN HB.out _)
                have HOD : Hid (wd.ownsRow w.heap.size 3 1 (.slice (some ⟨g1, 0, none⟩) ln cap) ln (l.map (Value.int .i64))) := Lib.hid (by rw [HWD.out]; exact own_below HOW.out (below_drewN (Below.refl _ _) _))
                have hg1d : g1 < wd.heap.size := by rw [HWD.out]; exact Nat.lt_of_lt_of_le hg1 (below_drewN (Below.refl wA.heap.size wA) _).size
                have HOT : Hid (∀ W : World, (wd.alloc (.cells #[.int .i64 x] 3)).drew.grownBy W (some wd.heap.size) → W.ownsRow w.heap.size 3 1 (.slice (some ⟨g1, 0, none⟩) j cap) j ((l.map (Value.int .i64)).take j)) := Lib.hid (fun W h => ((own_take HOD.out j (by omega)).alloc (.cells #[.int .i64 x] 3)).drew.kept h (.inr (fun e => by have e2 : g1 = wd.heap.size := Option.some.inj e; omega)))
                have HQ2 : Hid (∀ W W2 : World, (wd.alloc (.cells #[.int .i64 x] 3)).drew.grownBy W (some wd.heap.size) → W.grownBy W2 (some g1) → Below w.heap.size w W2) := Lib.hid (fun W W2 h h2 => by
                  have hB0 := HBD.out.size
                  have hs9 : (wd.alloc (.cells #[.int .i64 x] 3)).drew.heap.size = wd.heap.size + 1 := by
                    show (Array.push _ _).size = _
                    simp
                  have hx : Below w.heap.size w W := (HBD.out.alloc hB0 _).drew.grown h (by rw [hs9]; omega) (fun r e => by cases e; exact hB0)
                  exact hx.grown h2 hx.size (fun r e => by cases e; exact hbg))
                have g7 : (j : Int) ≤ (cap : Int) := by omega
                have g6 : (j : Int) ≤ (ln : Int) := by omega
                have HNW : Hid (∀ i u, ((l.drop j).map (Value.int .i64))[i]? = some u → (wd.alloc (.cells #[.int .i64 x] 3)).drew.cell? ((⟨g1, j, none⟩ : Addr).add i) = some u) := Lib.hid (fun i u hu => by
                  have h1 := own_news HOD.out j i u (by rw [← List.map_drop]; exact hu)
                  have hb : (⟨g1, j, none⟩ : Addr).add i = ⟨g1, j + i, none⟩ := by unfold Addr.add; split <;> simp_all
                  rw [hb] at h1 ⊢
                  exact (((Below.refl wd.heap.size wd).alloc (Nat.le_refl _) _).drew.cell hg1d).trans h1)
                have hcd := (HBD.out.cell (World.block_lt_of_cell? w _ e0')).trans e0'
                have hBD := HBD.out.size
                have g0 : (0 : Int) ≤ (k : Int) := by omega
                have g9 : (k : Int) < (n : Int) := by omega
                have g8 : (0 : Int) ≤ (j : Int) := by omega
                have HF : Hid (∀ wx : World, Below w.heap.size w wx → wx.cell? ⟨g, k, none⟩ = some (.int .i64 x)) := Lib.hid (fun wx h => (h.cell (World.block_lt_of_cell? w _ e0')).trans e0')
                have HBA : Hid (Below w.heap.size w (wd.alloc (.cells #[.int .i64 x] 3)).drew) := Lib.hid (HBD.out.alloc hBD _).drew
                have hsz9 : (wd.alloc (.cells #[.int .i64 x] 3)).drew.heap.size = wd.heap.size + 1 := by
                  show (Array.push _ _).size = _
                  simp
                have HQ1 : Hid (∀ W : World, (wd.alloc (.cells #[.int .i64 x] 3)).drew.grownBy W (some wd.heap.size) → Below w.heap.size w W) := Lib.hid (fun W h => HBA.out.grown h (by rw [hsz9]; omega) (fun r e => by cases e; exact hBD))
                have HQS : Hid (∀ W : World, (wd.alloc (.cells #[.int .i64 x] 3)).drew.grownBy W (some wd.heap.size) → w.heap.size ≤ W.heap.size) := Lib.hid (fun W h => Nat.le_trans (by rw [hsz9]; omega) h.size)
                have HSZ := Lib.hid hsz9
                clear hsz9
                go_wp2_with fail
                go_region_held3 (fun wx => wx.cell? ⟨g, k, none⟩ = some (.int .i64 x)) (first | exact HF.out _ HBD.out.drew | exact HF.out _ HBA.out | exact HF.out _ (HQ1.out _ hg2) | exact HF.out _ (HQ2.out _ _ hg2 hg3)) (first | (refine step_append_own _ rfl _ _ 22 rfl wd.heap.size 3 ti (.int .i64 0) 1 8 Try.underlying22 hii hiz0 hiz1 hiz2 rfl (by decide) _ _ _ rfl (own_new wd (.int .i64 x) 3) ⟨g1, j, none⟩ _ _ ((l.drop j).map (Value.int .i64)) rfl ?d1 ?d2 (ints_one _) ?d3 ?d4 ?d5 ?_; (case d1 => rw [List.length_map, List.length_drop, HLN.out]; omega); (case d2 => exact HNW.out); (case d3 => unfold maxLen; omega); (case d4 => omega); (case d5 => rw [HSZ.out]; omega); intro v1 w1 ho1 hg2 hn1; obtain ⟨g2, cap2, rfl, hb2, hl2⟩ := ho1.form (by omega)) | (refine step_append_own _ rfl _ _ 22 rfl w.heap.size 3 ti (.int .i64 0) 1 8 Try.underlying22 hii hiz0 hiz1 hiz2 rfl (by decide) _ _ _ rfl (HOT.out _ hg2) ⟨g2, 0, none⟩ _ cap2 ([.int .i64 x] ++ (l.drop j).map (Value.int .i64)) rfl ?d1 ?d2 ?d0 ?d3 ?d4 ?d5 ?_; (case d1 => first | (simp [HLN.out]; done) | (simp [HLN.out]; omega)); (case d2 => exact own_news ho1 0); (case d0 => exact ints_one (x :: l.drop j)); (case d3 => unfold maxLen; omega); (case d4 => omega); (case d5 => exact HQS.out _ hg2); intro v2 w2 ho2 hg3 hn2))
                have HO2 : Hid (w2.ownsRow w.heap.size 3 1 v2 (srtTo cs (k + 1)).length ((srtTo cs (k + 1)).map (Value.int .i64))) := Lib.hid (by
                  have e1 : (insD x l).map (Value.int .i64) = (l.map (Value.int .i64)).take j ++ ([.int .i64 x] ++ (l.drop j).map (Value.int .i64)) := by
                    rw [HIN.out, List.map_append, List.map_append, List.map_take]
                    rfl
                  rw [HSU.out, insD_len, HLN.out, e1]
                  have h := own_relen ho2
                  have h9 : (List.take j (l.map (Value.int .i64)) ++ ([Value.int .i64 x] ++ (l.drop j).map (Value.int .i64))).length = ln + 1 := by
                    rw [← e1, List.length_map, insD_len, HLN.out]
                  rw [h9] at h
                  exact h)
                have HB3 := Lib.hid (HQ2.out _ _ hg2 hg3)
                clear ho1 hg2 hn1 ho2 hg3 hn2
                go_wp2
                go_roundw
                case rel => exact ⟨k + 1, by omega, by go_num, HO2.out, HB3.out⟩
                case measure => simp [intOf]; omega
            · have t2 : decide ((j : Int) < (ln : Int)) = false := decide_eq_false (by omega)
              have hja : j = at' := by omega
              have hal : at' = ln := by omega
              subst hja
              have HAL := Lib.hid hal
              clear hal
              go_wp2_with fail
              go_quiet (fail)
              generalize hwd : World.drewN _ _ = wd
              have hwd2 : wd = wA.drewN (q + nq) := by rw [← hwd, HWQ.out, World.drewN_drewN]
              have HWD := Lib.hid hwd2
              clear hwd hwd2 hcj HLC HWQ
              by_cases hca : j = cap
              · subst hca
                have HBD : Hid (Below w.heap.size w wd) := Lib.hid (by rw [HWD.out]; exact below_drewN HB.out _)
                have HOD : Hid (wd.ownsRow w.heap.size 3 1 (.slice (some ⟨g1, 0, none⟩) ln j) ln (l.map (Value.int .i64))) := Lib.hid (by rw [HWD.out]; exact own_below HOW.out (below_drewN (Below.refl _ _) _))
                have hg1d : g1 < wd.heap.size := by rw [HWD.out]; exact Nat.lt_of_lt_of_le hg1 (below_drewN (Below.refl wA.heap.size wA) _).size
                have HOT : Hid (∀ W : World, (wd.alloc (.cells #[.int .i64 x] 3)).drew.grownBy W (some wd.heap.size) → W.ownsRow w.heap.size 3 1 (.slice (some ⟨g1, 0, none⟩) j j) j ((l.map (Value.int .i64)).take j)) := Lib.hid (fun W h => ((own_take HOD.out j (by omega)).alloc (.cells #[.int .i64 x] 3)).drew.kept h (.inr (fun e => by have e2 : g1 = wd.heap.size := Option.some.inj e; omega)))
                have HQ2 : Hid (∀ W W2 : World, (wd.alloc (.cells #[.int .i64 x] 3)).drew.grownBy W (some wd.heap.size) → W.grownBy W2 (some g1) → Below w.heap.size w W2) := Lib.hid (fun W W2 h h2 => by
                  have hB0 := HBD.out.size
                  have hs9 : (wd.alloc (.cells #[.int .i64 x] 3)).drew.heap.size = wd.heap.size + 1 := by
                    show (Array.push _ _).size = _
                    simp
                  have hx : Below w.heap.size w W := (HBD.out.alloc hB0 _).drew.grown h (by rw [hs9]; omega) (fun r e => by cases e; exact hB0)
                  exact hx.grown h2 hx.size (fun r e => by cases e; exact hbg))
                have g7 : (j : Int) ≤ (j : Int) := by omega
                have g6 : (j : Int) ≤ (ln : Int) := by omega
                have HNW : Hid (∀ i u, ((l.drop j).map (Value.int .i64))[i]? = some u → (wd.alloc (.cells #[.int .i64 x] 3)).drew.cell? ((⟨g1, 0, none⟩ : Addr).add i) = some u) := Lib.hid (fun i u hu => by
                  rw [List.drop_of_length_le (by rw [HLN.out, HAL.out]; exact Nat.le_refl _)] at hu
                  simp at hu)
                have hcd := (HBD.out.cell (World.block_lt_of_cell? w _ e0')).trans e0'
                have hBD := HBD.out.size
                have g0 : (0 : Int) ≤ (k : Int) := by omega
                have g9 : (k : Int) < (n : Int) := by omega
                have g8 : (0 : Int) ≤ (j : Int) := by omega
                have HF : Hid (∀ wx : World, Below w.heap.size w wx → wx.cell? ⟨g, k, none⟩ = some (.int .i64 x)) := Lib.hid (fun wx h => (h.cell (World.block_lt_of_cell? w _ e0')).trans e0')
                have HBA : Hid (Below w.heap.size w (wd.alloc (.cells #[.int .i64 x] 3)).drew) := Lib.hid (HBD.out.alloc hBD _).drew
                have hsz9 : (wd.alloc (.cells #[.int .i64 x] 3)).drew.heap.size = wd.heap.size + 1 := by
                  show (Array.push _ _).size = _
                  simp
                have HQ1 : Hid (∀ W : World, (wd.alloc (.cells #[.int .i64 x] 3)).drew.grownBy W (some wd.heap.size) → Below w.heap.size w W) := Lib.hid (fun W h => HBA.out.grown h (by rw [hsz9]; omega) (fun r e => by cases e; exact hBD))
                have HQS : Hid (∀ W : World, (wd.alloc (.cells #[.int .i64 x] 3)).drew.grownBy W (some wd.heap.size) → w.heap.size ≤ W.heap.size) := Lib.hid (fun W h => Nat.le_trans (by rw [hsz9]; omega) h.size)
                have HSZ := Lib.hid hsz9
                clear hsz9
                go_wp2_with fail
                go_region_held3 (fun wx => wx.cell? ⟨g, k, none⟩ = some (.int .i64 x)) (first | exact HF.out _ HBD.out.drew | exact HF.out _ HBA.out | exact HF.out _ (HQ1.out _ hg2) | exact HF.out _ (HQ2.out _ _ hg2 hg3)) (first | (refine step_append_own _ rfl _ _ 22 rfl wd.heap.size 3 ti (.int .i64 0) 1 8 Try.underlying22 hii hiz0 hiz1 hiz2 rfl (by decide) _ _ _ rfl (own_new wd (.int .i64 x) 3) ⟨g1, 0, none⟩ _ _ ((l.drop j).map (Value.int .i64)) rfl ?d1 ?d2 (ints_one _) ?d3 ?d4 ?d5 ?_; (case d1 => rw [List.length_map, List.length_drop, HLN.out]; omega); (case d2 => exact HNW.out); (case d3 => unfold maxLen; omega); (case d4 => omega); (case d5 => rw [HSZ.out]; omega); intro v1 w1 ho1 hg2 hn1; obtain ⟨g2, cap2, rfl, hb2, hl2⟩ := ho1.form (by omega)) | (refine step_append_own _ rfl _ _ 22 rfl w.heap.size 3 ti (.int .i64 0) 1 8 Try.underlying22 hii hiz0 hiz1 hiz2 rfl (by decide) _ _ _ rfl (HOT.out _ hg2) ⟨g2, 0, none⟩ _ cap2 ([.int .i64 x] ++ (l.drop j).map (Value.int .i64)) rfl ?d1 ?d2 ?d0 ?d3 ?d4 ?d5 ?_; (case d1 => first | (simp [HLN.out]; done) | (simp [HLN.out]; omega)); (case d2 => exact own_news ho1 0); (case d0 => exact ints_one (x :: l.drop j)); (case d3 => unfold maxLen; omega); (case d4 => omega); (case d5 => exact HQS.out _ hg2); intro v2 w2 ho2 hg3 hn2))
                have HO2 : Hid (w2.ownsRow w.heap.size 3 1 v2 (srtTo cs (k + 1)).length ((srtTo cs (k + 1)).map (Value.int .i64))) := Lib.hid (by
                  have e1 : (insD x l).map (Value.int .i64) = (l.map (Value.int .i64)).take j ++ ([.int .i64 x] ++ (l.drop j).map (Value.int .i64)) := by
                    rw [HIN.out, List.map_append, List.map_append, List.map_take]
                    rfl
                  rw [HSU.out, insD_len, HLN.out, e1]
                  have h := own_relen ho2
                  have h9 : (List.take j (l.map (Value.int .i64)) ++ ([Value.int .i64 x] ++ (l.drop j).map (Value.int .i64))).length = ln + 1 := by
                    rw [← e1, List.length_map, insD_len, HLN.out]
                  rw [h9] at h
                  exact h)
                have HB3 := Lib.hid (HQ2.out _ _ hg2 hg3)
                clear ho1 hg2 hn1 ho2 hg3 hn2
                go_wp2
                go_roundw
                case rel => exact ⟨k + 1, by omega, by go_num, HO2.out, HB3.out⟩
                case measure => simp [intOf]; omega
              · have hca2 : ¬ (cap = j) := fun e => hca e.symm
                clear hca
                have HBD : Hid (Below w.heap.size w wd) := Lib.hid (by rw [HWD.out]; exact below_drewN HB.out _)
                have HOD : Hid (wd.ownsRow w.heap.size 3 1 (.slice (some ⟨g1, 0, none⟩) ln cap) ln (l.map (Value.int .i64))) := Lib.hid (by rw [HWD.out]; exact own_below HOW.out (below_drewN (Below.refl _ _) _))
                have hg1d : g1 < wd.heap.size := by rw [HWD.out]; exact Nat.lt_of_lt_of_le hg1 (below_drewN (Below.refl wA.heap.size wA) _).size
                have HOT : Hid (∀ W : World, (wd.alloc (.cells #[.int .i64 x] 3)).drew.grownBy W (some wd.heap.size) → W.ownsRow w.heap.size 3 1 (.slice (some ⟨g1, 0, none⟩) j cap) j ((l.map (Value.int .i64)).take j)) := Lib.hid (fun W h => ((own_take HOD.out j (by omega)).alloc (.cells #[.int .i64 x] 3)).drew.kept h (.inr (fun e => by have e2 : g1 = wd.heap.size := Option.some.inj e; omega)))
                have HQ2 : Hid (∀ W W2 : World, (wd.alloc (.cells #[.int .i64 x] 3)).drew.grownBy W (some wd.heap.size) → W.grownBy W2 (some g1) → Below w.heap.size w W2) := Lib.hid (fun W W2 h h2 => by
                  have hB0 := HBD.out.size
                  have hs9 : (wd.alloc (.cells #[.int .i64 x] 3)).drew.heap.size = wd.heap.size + 1 := by
                    show (Array.push _ _).size = _
                    simp
                  have hx : Below w.heap.size w W := (HBD.out.alloc hB0 _).drew.grown h (by rw [hs9]; omega) (fun r e => by cases e; exact hB0)
                  exact hx.grown h2 hx.size (fun r e => by cases e; exact hbg))
                have g7 : (j : Int) ≤ (cap : Int) := by omega
                have g6 : (j : Int) ≤ (ln : Int) := by omega
                have HNW : Hid (∀ i u, ((l.drop j).map (Value.int .i64))[i]? = some u → (wd.alloc (.cells #[.int .i64 x] 3)).drew.cell? ((⟨g1, j, none⟩ : Addr).add i) = some u) := Lib.hid (fun i u hu => by
                  have h1 := own_news HOD.out j i u (by rw [← List.map_drop]; exact hu)
                  have hb : (⟨g1, j, none⟩ : Addr).add i = ⟨g1, j + i, none⟩ := by unfold Addr.add; split <;> simp_all
                  rw [hb] at h1 ⊢
                  exact (((Below.refl wd.heap.size wd).alloc (Nat.le_refl _) _).drew.cell hg1d).trans h1)
                have hcd := (HBD.out.cell (World.block_lt_of_cell? w _ e0')).trans e0'
                have hBD := HBD.out.size
                have g0 : (0 : Int) ≤ (k : Int) := by omega
                have g9 : (k : Int) < (n : Int) := by omega
                have g8 : (0 : Int) ≤ (j : Int) := by omega
                have HF : Hid (∀ wx : World, Below w.heap.size w wx → wx.cell? ⟨g, k, none⟩ = some (.int .i64 x)) := Lib.hid (fun wx h => (h.cell (World.block_lt_of_cell? w _ e0')).trans e0')
                have HBA : Hid (Below w.heap.size w (wd.alloc (.cells #[.int .i64 x] 3)).drew) := Lib.hid (HBD.out.alloc hBD _).drew
                have hsz9 : (wd.alloc (.cells #[.int .i64 x] 3)).drew.heap.size = wd.heap.size + 1 := by
                  show (Array.push _ _).size = _
                  simp
                have HQ1 : Hid (∀ W : World, (wd.alloc (.cells #[.int .i64 x] 3)).drew.grownBy W (some wd.heap.size) → Below w.heap.size w W) := Lib.hid (fun W h => HBA.out.grown h (by rw [hsz9]; omega) (fun r e => by cases e; exact hBD))
                have HQS : Hid (∀ W : World, (wd.alloc (.cells #[.int .i64 x] 3)).drew.grownBy W (some wd.heap.size) → w.heap.size ≤ W.heap.size) := Lib.hid (fun W h => Nat.le_trans (by rw [hsz9]; omega) h.size)
                have HSZ := Lib.hid hsz9
                clear hsz9
                go_wp2_with fail
                go_region_held3 (fun wx => wx.cell? ⟨g, k, none⟩ = some (.int .i64 x)) (first | exact HF.out _ HBD.out.drew | exact HF.out _ HBA.out | exact HF.out _ (HQ1.out _ hg2) | exact HF.out _ (HQ2.out _ _ hg2 hg3)) (first | (refine step_append_own _ rfl _ _ 22 rfl wd.heap.size 3 ti (.int .i64 0) 1 8 Try.underlying22 hii hiz0 hiz1 hiz2 rfl (by decide) _ _ _ rfl (own_new wd (.int .i64 x) 3) ⟨g1, j, none⟩ _ _ ((l.drop j).map (Value.int .i64)) rfl ?d1 ?d2 (ints_one _) ?d3 ?d4 ?d5 ?_; (case d1 => rw [List.length_map, List.length_drop, HLN.out]; omega); (case d2 => exact HNW.out); (case d3 => unfold maxLen; omega); (case d4 => omega); (case d5 => rw [HSZ.out]; omega); intro v1 w1 ho1 hg2 hn1; obtain ⟨g2, cap2, rfl, hb2, hl2⟩ := ho1.form (by omega)) | (refine step_append_own _ rfl _ _ 22 rfl w.heap.size 3 ti (.int .i64 0) 1 8 Try.underlying22 hii hiz0 hiz1 hiz2 rfl (by decide) _ _ _ rfl (HOT.out _ hg2) ⟨g2, 0, none⟩ _ cap2 ([.int .i64 x] ++ (l.drop j).map (Value.int .i64)) rfl ?d1 ?d2 ?d0 ?d3 ?d4 ?d5 ?_; (case d1 => first | (simp [HLN.out]; done) | (simp [HLN.out]; omega)); (case d2 => exact own_news ho1 0); (case d0 => exact ints_one (x :: l.drop j)); (case d3 => unfold maxLen; omega); (case d4 => omega); (case d5 => exact HQS.out _ hg2); intro v2 w2 ho2 hg3 hn2))
                have HO2 : Hid (w2.ownsRow w.heap.size 3 1 v2 (srtTo cs (k + 1)).length ((srtTo cs (k + 1)).map (Value.int .i64))) := Lib.hid (by
                  have e1 : (insD x l).map (Value.int .i64) = (l.map (Value.int .i64)).take j ++ ([.int .i64 x] ++ (l.drop j).map (Value.int .i64)) := by
                    rw [HIN.out, List.map_append, List.map_append, List.map_take]
                    rfl
                  rw [HSU.out, insD_len, HLN.out, e1]
                  have h := own_relen ho2
                  have h9 : (List.take j (l.map (Value.int .i64)) ++ ([Value.int .i64 x] ++ (l.drop j).map (Value.int .i64))).length = ln + 1 := by
                    rw [← e1, List.length_map, insD_len, HLN.out]
                  rw [h9] at h
                  exact h)
                have HB3 := Lib.hid (HQ2.out _ _ hg2 hg3)
                clear ho1 hg2 hn1 ho2 hg3 hn2
                go_wp2
                go_roundw
                case rel => exact ⟨k + 1, by omega, by go_num, HO2.out, HB3.out⟩
                case measure => simp [intOf]; omega
    · obtain rfl : k = n := by omega
      have q1 : decide ((k : Int) < (k : Int)) = false := decide_eq_false (by omega)
      have HOW := Lib.hid hown
      clear hown
      go_wp2
      go_ret
      exact ⟨_, rfl, HOW.out, HB.out⟩

end Go.Proofs.Ytnoplhjbachjiaa.Mg
