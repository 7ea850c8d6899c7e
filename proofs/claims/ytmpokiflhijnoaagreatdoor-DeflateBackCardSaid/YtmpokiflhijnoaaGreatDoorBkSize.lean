/-
  block.Size, block.Choose.
-/
import Derived.Test.YtmpokiflhijnoaaGreatDoorBkWrite
namespace Go.Proofs.YtmpokiflhijnoaaGreatDoor.Bk
open Go.RowKit Go.Shelf Go.Proofs.YtmpokiflhijnoaaGreatDoor.Mg Go.Proofs.YtmpokiflhijnoaaGreatDoor.Bw Go.Proofs.YtmpokiflhijnoaaGreatDoor.Ri
set_option linter.unusedVariables false
set_option linter.unusedSimpArgs false

/-- The tokens' row, of its own kind. -/
def TokR (w : World) (A : Option Addr) : Prop := ∀ g o, A = some ⟨g, o, none⟩ → ∃ cs fr, w.heap[g]? = some (.cells cs 99 fr)
theorem TokR.below {w W : World} {A : Option Addr} (h : TokR w A) (hb : Below w.heap.size w W) : TokR W A := fun g o e => by
  obtain ⟨cs, fr, h2⟩ := h g o e
  exact ⟨cs, fr, (hb.block g (Array.getElem?_eq_some_iff.1 h2).1).trans h2⟩
theorem writer_new (w : World) : WAt (w.alloc (.cells #[.slice none 0 0, .int .u64 0, .int .i64 0] 44)) w.heap.size w.heap.size 0 (.slice none 0 0) [] := by
  have hz := World.alloc_heap_new w (.cells #[.slice none 0 0, .int .u64 0, .int .i64 0] 44)
  refine ⟨[], 0, 0, ⟨World.ownsRow_nil _ _ _ _, (cell_at hz 0 _ rfl).1, (cell_at hz 1 _ rfl).1, (cell_at hz 2 _ rfl).1, fun k => ?_, (by intro e; cases e), fun x hx => (by cases hx), by decide, by simp⟩, by decide, rfl⟩
  unfold World.frozen?
  simp only
  rw [hz]
  simp
theorem tokB_new {w : World} {A : Option Addr} (h : TokR w A) (X : Obj) : TokB (w.alloc X) w.heap.size A := fun g o e => by
  obtain ⟨cs, fr, h2⟩ := h g o e
  have hl := (Array.getElem?_eq_some_iff.1 h2).1
  exact ⟨Nat.ne_of_lt hl, cs, fr, (((Below.refl w.heap.size w).alloc (Nat.le_refl _) X).block g hl).trans h2⟩

def sizeN (kind sz : Nat) (ts : List Tok) : Nat := if kind = 0 then 35 + 8 * sz else (blockB kind false ts).length
theorem may_any (k j : Int) (hk : 0 ≤ k ∧ k < 3) (hj : 0 ≤ j ∧ j < 3) (sz : Nat) (ts : List Tok) : mayB k sz ts = mayB j sz ts := by
  unfold mayB
  rw [decide_eq_true hk.1, decide_eq_true hk.2, decide_eq_true hj.1, decide_eq_true hj.2]
theorem may_len {k : Int} {sz : Nat} {ts : List Tok} (h : mayB k sz ts = true) : ts.length ≤ 65535 ∧ sz ≤ 65535 := by
  unfold mayB at h
  simp only [Bool.and_eq_true, decide_eq_true_eq] at h
  omega
theorem kindB_len (k : Nat) (b : Bool) : (kindB k b).length = 3 := bitsN_len _ _
theorem blockB_le (k : Nat) (hk : k = 1 ∨ k = 2) (b : Bool) (ts : List Tok) (hn : ts.length ≤ 65535) : (blockB k b ts).length ≤ 4000000 := by
  unfold blockB
  rw [List.length_append, kindB_len]
  rcases hk with rfl | rfl
  · unfold bodyB
    rw [if_pos rfl, List.length_append]
    have h1 := toksB_le fixL fixD ts
    have h2 := wordB_le fixL 256
    omega
  · unfold bodyB
    rw [if_neg (by decide), List.length_append, List.length_append]
    have h1 := toksB_le (lsD ts) (dsD ts) ts
    have h2 := wordB_le (lsD ts) 256
    have h3 := headB_le ts (by omega)
    omega

set_option maxHeartbeats 2000000 in
set_option maxRecDepth 100000 in
theorem size_bad (kind : Int) (s : ByteArray) (A : Option Addr) (c : Nat) (ts : List Tok) (w : World) (hA : TokAt w A ts) (hl : ts.length ≤ 140737488351232) (hm : mayB kind s.size ts = false) :
    Calls Tryz.prog 52 #[.int .i64 kind, .string s, .slice A ts.length c] w fun e w' => e = .returned (.tuple #[.int .i64 0, .bool false]) ∧ Below w.heap.size w w' := by
  have HM := Lib.hid (may_calls kind s A c ts w hA hl)
  rw [hm] at HM
  have HWB := Lib.hid (fun (W : World) (p : Option Addr) (h : TokAt W A ts) => write_bad kind false s A c ts p W h hl hm)
  have HA := Lib.hid hA
  have B0 := Lib.hid (Below.refl w.heap.size w)
  generalize ts.length = n at *
  clear hA hm
  have fin : ∀ W : World, Below w.heap.size w W → TokAt W A ts → Calls Tryz.prog 19 #[.pointer (some ⟨W.heap.size, 0, none⟩), .int .i64 kind, .bool false, .string s, .slice A n c] (W.alloc (.cells #[.slice none 0 0, .int .u64 0, .int .i64 0] 44)) fun e w' => e = .returned (.int .i64 1) ∧ WAt w' W.heap.size W.heap.size 0 (.slice none 0 0) [] ∧ Below w.heap.size w w' := fun W hW hT => by
    refine (HWB.out _ _ (hT.below ((Below.refl _ _).alloc (Nat.le_refl _) _))).mono ?_
    rintro e w' ⟨rfl, hb⟩
    exact ⟨rfl, wat_below (writer_new W) hb, (hW.alloc hW.size _).trans (hb.mono (by have := hW.size; simp; omega))⟩
  have FIN := Lib.hid fin
  clear fin HWB
  by_cases h0 : kind = 0
  · subst h0
    go_enter Tryz.func52, Tryz.ntmps52
    go_wp2_with fail
    refine HM.out.mono ?_
    rintro e w1 ⟨rfl, hb⟩
    have HB := Lib.hid hb
    have HT := Lib.hid (HA.out.below hb)
    clear hb
    go_wp2_with fail
    refine (FIN.out w1 HB.out HT.out).mono ?_
    rintro e w2 ⟨rfl, hw, hb2⟩
    have HB2 := Lib.hid hb2
    have HLN := Lib.hid (len_calls _ _ 0 _ [] w2 hw (by decide))
    clear hb2 hw
    go_wp2_with fail
    refine HLN.out.mono ?_
    rintro e w3 ⟨rfl, q, rfl⟩
    have HB3 := Lib.hid (below_drewN HB2.out q)
    go_wp2
    go_ret2
    exact ⟨rfl, HB3.out⟩
  · have q0 : (kind == 0) = false := beq_eq_false_iff_ne.2 h0
    go_enter Tryz.func52, Tryz.ntmps52
    go_wp2_with fail
    refine (FIN.out w B0.out HA.out).mono ?_
    rintro e w2 ⟨rfl, hw, hb2⟩
    have HB2 := Lib.hid hb2
    have HLN := Lib.hid (len_calls _ _ 0 _ [] w2 hw (by decide))
    clear hb2 hw
    go_wp2_with fail
    refine HLN.out.mono ?_
    rintro e w3 ⟨rfl, q, rfl⟩
    have HB3 := Lib.hid (below_drewN HB2.out q)
    go_wp2
    go_ret2
    exact ⟨rfl, HB3.out⟩

set_option maxHeartbeats 2000000 in
set_option maxRecDepth 100000 in
theorem size0_calls (s : ByteArray) (A : Option Addr) (c : Nat) (ts : List Tok) (w : World) (hA : TokAt w A ts) (hm : mayB 0 s.size ts = true) :
    Calls Tryz.prog 52 #[.int .i64 0, .string s, .slice A ts.length c] w fun e w' => e = .returned (.tuple #[.int .i64 (sizeN 0 s.size ts : Nat), .bool true]) ∧ Below w.heap.size w w' := by
  have HM := Lib.hid (may_calls 0 s A c ts w hA (by have := may_len hm; omega))
  rw [hm] at HM
  have hz := (may_len hm).2
  have e1 : wrap64 (8 * (s.size : Int)) = 8 * (s.size : Int) := by unfold wrap64; omega
  have e2 : wrap64 (35 + 8 * (s.size : Int)) = 35 + 8 * (s.size : Int) := by unfold wrap64; omega
  have HE : Hid (((sizeN 0 s.size ts : Nat) : Int) = 35 + 8 * (s.size : Int)) := Lib.hid (by unfold sizeN; rw [if_pos rfl]; push_cast; rfl)
  generalize ts.length = n at *
  clear hA hm
  go_enter Tryz.func52, Tryz.ntmps52
  go_wp2_with fail
  refine HM.out.mono ?_
  rintro e w1 ⟨rfl, hb⟩
  have HB := Lib.hid hb
  clear hb
  go_wp2
  go_ret2
  exact ⟨by rw [HE.out]; rfl, HB.out⟩

set_option maxHeartbeats 2000000 in
set_option maxRecDepth 100000 in
theorem size1_calls (s : ByteArray) (A : Option Addr) (c : Nat) (ts : List Tok) (w : World) (hA : TokAt w A ts) (hR : TokR w A) (hbyte : ∀ t ∈ ts, 0 ≤ t.b ∧ t.b < 256) (hm : mayB 1 s.size ts = true) :
    Calls Tryz.prog 52 #[.int .i64 1, .string s, .slice A ts.length c] w fun e w' => e = .returned (.tuple #[.int .i64 (sizeN 1 s.size ts : Nat), .bool true]) ∧ Below w.heap.size w w' := by
  have hbl := (Below.refl w.heap.size w).alloc (Nat.le_refl _) (.cells #[.slice none 0 0, .int .u64 0, .int .i64 0] 44)
  have hle := blockB_le 1 (by decide) false ts (may_len hm).1
  have HN : Hid (sizeN 1 s.size ts = (blockB 1 false ts).length) := Lib.hid (by unfold sizeN; rw [if_neg (by decide)])
  have HWC := Lib.hid (write1_calls false s A c ts w.heap.size w.heap.size 0 (.slice none 0 0) [] _ (hA.below hbl) (tokB_new hR _) hbyte hm (writer_new w) (by decide))
  have HBL := Lib.hid hbl
  rw [List.nil_append] at HWC
  obtain ⟨bb, hbb⟩ : ∃ x, blockB 1 false ts = x := ⟨_, rfl⟩
  rw [hbb] at HWC hle HN
  rw [HN.out]
  generalize ts.length = n at *
  clear hA hR hbyte hm hbl hbb
  go_enter Tryz.func52, Tryz.ntmps52
  go_wp2_with fail
  refine HWC.out.mono ?_
  rintro e w2 ⟨rfl, v2, hw, ht⟩
  have HB2 := Lib.hid (HBL.out.trans (ht.below (Nat.le_refl _) (fun k e => by cases e) (by simp)))
  have HLN := Lib.hid (len_calls _ _ 0 _ bb w2 hw (by omega))
  clear ht hw
  go_wp2_with fail
  refine HLN.out.mono ?_
  rintro e w3 ⟨rfl, q, rfl⟩
  have HB3 := Lib.hid (below_drewN HB2.out q)
  go_wp2
  go_ret2
  exact ⟨rfl, HB3.out⟩

set_option maxHeartbeats 2000000 in
set_option maxRecDepth 100000 in
theorem size2_calls (s : ByteArray) (A : Option Addr) (c : Nat) (ts : List Tok) (w : World) (hA : TokAt w A ts) (hR : TokR w A) (hbyte : ∀ t ∈ ts, 0 ≤ t.b ∧ t.b < 256) (hm : mayB 2 s.size ts = true) (hO : OrdT w) :
    Calls Tryz.prog 52 #[.int .i64 2, .string s, .slice A ts.length c] w fun e w' => e = .returned (.tuple #[.int .i64 (sizeN 2 s.size ts : Nat), .bool true]) ∧ Below w.heap.size w w' := by
  have hbl := (Below.refl w.heap.size w).alloc (Nat.le_refl _) (.cells #[.slice none 0 0, .int .u64 0, .int .i64 0] 44)
  have hle := blockB_le 2 (by decide) false ts (may_len hm).1
  have HN : Hid (sizeN 2 s.size ts = (blockB 2 false ts).length) := Lib.hid (by unfold sizeN; rw [if_neg (by decide)])
  have HWC := Lib.hid (write2_calls false s A c ts w.heap.size w.heap.size 0 (.slice none 0 0) [] _ (hA.below hbl) (tokB_new hR _) hbyte hm (writer_new w) (hO.below hbl (Nat.le_refl _)) hO.lt (Nat.ne_of_lt hO.lt) (by decide))
  have HBL := Lib.hid hbl
  rw [List.nil_append] at HWC
  obtain ⟨bb, hbb⟩ : ∃ x, blockB 2 false ts = x := ⟨_, rfl⟩
  rw [hbb] at HWC hle HN
  rw [HN.out]
  generalize ts.length = n at *
  clear hA hR hbyte hm hbl hbb hO
  go_enter Tryz.func52, Tryz.ntmps52
  go_wp2_with fail
  refine HWC.out.mono ?_
  rintro e w2 ⟨rfl, v2, hw, ht⟩
  have HB2 := Lib.hid (HBL.out.trans (ht.below (Nat.le_refl _) (fun k e => by cases e) (by simp)))
  have HLN := Lib.hid (len_calls _ _ 0 _ bb w2 hw (by omega))
  clear ht hw
  go_wp2_with fail
  refine HLN.out.mono ?_
  rintro e w3 ⟨rfl, q, rfl⟩
  have HB3 := Lib.hid (below_drewN HB2.out q)
  go_wp2
  go_ret2
  exact ⟨rfl, HB3.out⟩

/-- The kind that is least. -/
def chooseP (sz : Nat) (ts : List Tok) : Nat :=
  if mayB 0 sz ts then
    if sizeN 1 sz ts < 35 + 8 * sz then (if sizeN 2 sz ts < sizeN 1 sz ts then 2 else 1) else (if sizeN 2 sz ts < 35 + 8 * sz then 2 else 0)
  else 0

set_option maxHeartbeats 4000000 in
set_option maxRecDepth 100000 in
theorem choose_calls (s : ByteArray) (A : Option Addr) (c : Nat) (ts : List Tok) (w : World) (hA : TokAt w A ts) (hl : ts.length ≤ 140737488351232) (hR : TokR w A) (hbyte : ∀ t ∈ ts, 0 ≤ t.b ∧ t.b < 256) (hO : OrdT w) :
    Calls Tryz.prog 31 #[.string s, .slice A ts.length c] w fun e w' => e = .returned (.int .i64 (chooseP s.size ts : Nat)) ∧ Below w.heap.size w w' := by
  cases hm : mayB 0 s.size ts with
  | false =>
    have HS := Lib.hid (size_bad 0 s A c ts w hA hl hm)
    have HC : Hid (chooseP s.size ts = 0) := Lib.hid (by unfold chooseP; rw [hm]; rfl)
    generalize ts.length = n at *
    clear hA hm hO
    rw [HC.out]
    go_enter Tryz.func31, Tryz.ntmps31
    go_wp2_with fail
    go_loopw [10] (fun vi wr => vi = .int .i64 0 ∧ wr = w) (fun _ _ => 0)
    case atStart => exact ⟨rfl, rfl⟩
    case round =>
      obtain ⟨rfl, rfl⟩ := hrel
      go_wp2_with fail
      refine HS.out.mono ?_
      rintro e w1 ⟨rfl, hb⟩
      have HB := Lib.hid hb
      clear hb
      go_wp2
      go_ret
      exact ⟨rfl, HB.out⟩
  | true =>
    have hmk : ∀ k : Int, 0 ≤ k → k < 3 → mayB k s.size ts = true := fun k h1 h2 => (may_any k 0 ⟨h1, h2⟩ ⟨by decide, by decide⟩ _ _).trans hm
    have HS0 := Lib.hid (size0_calls s A c ts w hA hm)
    have HS1 := Lib.hid (fun (W : World) (hW : Below w.heap.size w W) => size1_calls s A c ts W (hA.below hW) (hR.below hW) hbyte (hmk 1 (by decide) (by decide)))
    have HS2 := Lib.hid (fun (W : World) (hW : Below w.heap.size w W) => size2_calls s A c ts W (hA.below hW) (hR.below hW) hbyte (hmk 2 (by decide) (by decide)) (hO.below hW (Nat.le_refl _)))
    have hz := may_len hm
    have h1 : sizeN 1 s.size ts ≤ 4000000 := by unfold sizeN; rw [if_neg (by decide)]; exact blockB_le 1 (.inl rfl) _ _ hz.1
    have h2 : sizeN 2 s.size ts ≤ 4000000 := by unfold sizeN; rw [if_neg (by decide)]; exact blockB_le 2 (.inr rfl) _ _ hz.1
    have h0 : sizeN 0 s.size ts = 35 + 8 * s.size := by unfold sizeN; rw [if_pos rfl]
    have HC : Hid (chooseP s.size ts = if sizeN 1 s.size ts < 35 + 8 * s.size then (if sizeN 2 s.size ts < sizeN 1 s.size ts then 2 else 1) else (if sizeN 2 s.size ts < 35 + 8 * s.size then 2 else 0)) := Lib.hid (by unfold chooseP; rw [hm]; rfl)
    obtain ⟨n0, hn0⟩ : ∃ x, sizeN 0 s.size ts = x := ⟨_, rfl⟩
    obtain ⟨n1, hn1⟩ : ∃ x, sizeN 1 s.size ts = x := ⟨_, rfl⟩
    obtain ⟨n2, hn2⟩ : ∃ x, sizeN 2 s.size ts = x := ⟨_, rfl⟩
    rw [hn0] at HS0 h0
    rw [hn1] at HS1 h1 HC
    rw [hn2] at HS2 h2 HC
    obtain ⟨sz, hsz⟩ : ∃ x, s.size = x := ⟨_, rfl⟩
    obtain ⟨R, hR2⟩ : ∃ R, chooseP s.size ts = R := ⟨_, rfl⟩
    rw [hR2] at HC ⊢
    rw [hsz] at h0 HC hz
    generalize ts.length = n at *
    clear hA hm hO hR hbyte hmk hn0 hn1 hn2 hR2 hsz
    have hz2 := hz.2
    have B0 := Lib.hid (Below.refl w.heap.size w)
    go_enter Tryz.func31, Tryz.ntmps31
    go_wp2_with fail
    go_loopw [5, 6, 10] (fun vb vk vi wr => Below w.heap.size w wr ∧ ((vi = .int .i64 0 ∧ vb = .int .i64 0 ∧ vk = .int .i64 0 ∧ wr = w) ∨ (vi = .int .i64 1 ∧ vb = .int .i64 ((35 + 8 * sz : Nat) : Int) ∧ vk = .int .i64 0) ∨ (∃ b k : Nat, vi = .int .i64 2 ∧ vb = .int .i64 b ∧ vk = .int .i64 k ∧ b ≤ 10000000 ∧ (if n2 < b then 2 else k) = R ∧ k ≤ 2) ∨ (vi = .int .i64 3 ∧ ∃ b : Nat, vb = .int .i64 b ∧ vk = .int .i64 R))) (fun _ _ vi _ => 3 - (intOf vi).toNat)
    case atStart => exact ⟨B0.out, .inl ⟨rfl, rfl, rfl, rfl⟩⟩
    case round =>
      obtain ⟨hb, ⟨rfl, rfl, rfl, rfl⟩ | ⟨rfl, rfl, rfl⟩ | ⟨b, k, rfl, rfl, rfl, hb1, hR, hk2⟩ | ⟨rfl, b, rfl, rfl⟩⟩ := hrel
      · clear hb
        go_wp2_with fail
        refine HS0.out.mono ?_
        rintro e w1 ⟨rfl, hb⟩
        have HB := Lib.hid hb
        have e1 : wrap64 ((n0 : Int) + 7) = (n0 : Int) + 7 := by unfold wrap64; omega
        have t1 : decide ((n0 : Int) < (n0 : Int) + 7) = true := decide_eq_true (by omega)
        have HN0 := Lib.hid h0
        clear hb h0
        go_wp2
        go_roundw
        case rel => exact ⟨HB.out, .inr (.inl ⟨rfl, by rw [HN0.out], rfl⟩)⟩
        case measure => simp [intOf]
      · have HB0 := Lib.hid hb
        clear hb
        go_wp2_with fail
        refine (HS1.out _ HB0.out).mono ?_
        rintro e w1 ⟨rfl, hb⟩
        have HB := Lib.hid (HB0.out.trans (hb.mono HB0.out.size))
        clear hb
        by_cases hlt : n1 < 35 + 8 * sz
        · have t1 : decide ((n1 : Int) < ((35 + 8 * sz : Nat) : Int)) = true := decide_eq_true (by omega)
          have t2 : decide (n1 < 35 + 8 * sz) = true := decide_eq_true hlt
          have t3 : decide ((n1 : Int) < 35 + 8 * (sz : Int)) = true := decide_eq_true (by omega)
          have HR2 : Hid ((if n2 < n1 then 2 else 1) = R) := Lib.hid (by rw [HC.out, if_pos hlt])
          go_wp2
          go_roundw
          case rel => exact ⟨HB.out, .inr (.inr (.inl ⟨n1, 1, rfl, rfl, rfl, by omega, HR2.out, by omega⟩))⟩
          case measure => simp [intOf]
        · have t1 : decide ((n1 : Int) < ((35 + 8 * sz : Nat) : Int)) = false := decide_eq_false (by omega)
          have t2 : decide (n1 < 35 + 8 * sz) = false := decide_eq_false hlt
          have t3 : decide ((n1 : Int) < 35 + 8 * (sz : Int)) = false := decide_eq_false (by omega)
          have HR2 : Hid ((if n2 < 35 + 8 * sz then 2 else 0) = R) := Lib.hid (by rw [HC.out, if_neg hlt])
          go_wp2
          go_roundw
          case rel => exact ⟨HB.out, .inr (.inr (.inl ⟨35 + 8 * sz, 0, rfl, rfl, rfl, by omega, HR2.out, by omega⟩))⟩
          case measure => simp [intOf]
      · have HB0 := Lib.hid hb
        have HRR := Lib.hid hR
        clear hb hR
        go_wp2_with fail
        refine (HS2.out _ HB0.out).mono ?_
        rintro e w1 ⟨rfl, hb⟩
        have HB := Lib.hid (HB0.out.trans (hb.mono HB0.out.size))
        clear hb
        by_cases hlt : n2 < b
        · have t1 : decide ((n2 : Int) < (b : Int)) = true := decide_eq_true (by omega)
          have t2 : decide (n2 < b) = true := decide_eq_true hlt
          have HR2 : Hid (R = 2) := Lib.hid (by rw [← HRR.out, if_pos hlt])
          go_wp2
          go_roundw
          case rel => exact ⟨HB.out, .inr (.inr (.inr ⟨rfl, n2, rfl, by rw [HR2.out]; rfl⟩))⟩
          case measure => simp [intOf]
        · have t1 : decide ((n2 : Int) < (b : Int)) = false := decide_eq_false (by omega)
          have t2 : decide (n2 < b) = false := decide_eq_false hlt
          have HR2 : Hid (R = k) := Lib.hid (by rw [← HRR.out, if_neg hlt])
          go_wp2
          go_roundw
          case rel => exact ⟨HB.out, .inr (.inr (.inr ⟨rfl, b, rfl, by rw [HR2.out]⟩))⟩
          case measure => simp [intOf]
      · have HB := Lib.hid hb
        clear hb
        go_wp2
        go_ret
        exact ⟨rfl, HB.out⟩
end Go.Proofs.YtmpokiflhijnoaaGreatDoor.Bk
