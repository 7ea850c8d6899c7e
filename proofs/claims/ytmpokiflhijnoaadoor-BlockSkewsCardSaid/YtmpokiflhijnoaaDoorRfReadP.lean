/-
  Plain law: a stream of blocks, block by block.
-/
import Derived.Test.YtmpokiflhijnoaaDoorRfHeads
import Derived.Test.YtmpokiflhijnoaaDoorRfPlain
import Derived.Test.YtmpokiflhijnoaaDoorBkWrite0
namespace Go.Proofs.YtmpokiflhijnoaaDoor.Rf
open Go.RowKit Go.Shelf Go.Proofs.YtmpokiflhijnoaaDoor.Mg Go.Proofs.YtmpokiflhijnoaaDoor.Bw Go.Proofs.YtmpokiflhijnoaaDoor.Bk Go.Proofs.YtmpokiflhijnoaaDoor.Cn Go.Proofs.YtmpokiflhijnoaaDoor.Zp
set_option linter.unusedVariables false
set_option linter.unusedSimpArgs false

/-- A block: its kind, is it the last one, its tokens, its bytes. -/
structure Blk where
  (kind : Nat) (last : Bool) (ts : List Tok) (s : ByteArray)
/-- The bits behind P, with the block's. -/
def wrB (P : List Bool) (b : Blk) : List Bool := if b.kind = 0 then storedB P b.last b.s else P ++ blockB b.kind b.last b.ts
def wrBs (P : List Bool) (l : List Blk) : List Bool := l.foldl wrB P
def strI (s : ByteArray) : List Int := (strN s).map fun x : Nat => (x : Int)
def outB (out : List Int) (b : Blk) : List Int := if b.kind = 0 then out ++ strI b.s else expTs out b.ts
def outBs (out : List Int) (l : List Blk) : List Int := l.foldl outB out
def okB (out : List Int) (b : Blk) : Prop := b.kind ≤ 2 ∧ b.s.size ≤ 65535 ∧ (b.kind ≠ 0 → b.ts.length ≤ 65535 ∧ (∀ t ∈ b.ts, tokIn t) ∧ fitTs out b.ts)
/-- The blocks may be, and just the last one is told as such. -/
def okBs : List Int → List Blk → Prop
  | _, [] => True
  | out, b :: l => okB out b ∧ b.last = l.isEmpty ∧ okBs (outB out b) l

theorem wrB_ext (P : List Bool) (b : Blk) : ∃ m, wrB P b = P ++ (kindB b.kind b.last ++ m) := by
  unfold wrB
  split
  · rename_i h
    unfold storedB padB
    rw [h]
    exact ⟨_, by simp only [List.append_assoc]; rfl⟩
  · unfold blockB
    exact ⟨_, rfl⟩
theorem wrBs_ext : ∀ (l : List Blk) (P : List Bool), ∃ m, wrBs P l = P ++ m
  | [], P => ⟨[], by rw [List.append_nil]; rfl⟩
  | b :: l, P => by
    obtain ⟨m, hm⟩ := wrB_ext P b
    obtain ⟨m2, hm2⟩ := wrBs_ext l (wrB P b)
    refine ⟨kindB b.kind b.last ++ m ++ m2, ?_⟩
    show wrBs (wrB P b) l = _
    rw [hm2, hm]
    simp only [List.append_assoc]
theorem strI_len (s : ByteArray) : (strI s).length = s.size := by rw [strI, List.length_map, strN_len]
theorem u8V_strI (s : ByteArray) : u8V (strI s) = Lib.strCells s := by
  rw [← byV_str]
  unfold u8V strI byV
  rw [List.map_map]
  rfl
theorem outB_len (out : List Int) (b : Blk) : out.length ≤ (outB out b).length := by
  unfold outB
  split
  · rw [List.length_append]; omega
  · exact expTs_ge _ _
theorem outBs_len : ∀ (l : List Blk) (out : List Int), out.length ≤ (outBs out l).length
  | [], _ => Nat.le_refl _
  | b :: l, out => Nat.le_trans (outB_len out b) (outBs_len l _)

theorem flat8_drop : ∀ (l : List Nat) (k : Nat), (l.flatMap (bitsN 8)).drop (8 * k) = (l.drop k).flatMap (bitsN 8)
  | l, 0 => by simp
  | [], k + 1 => by simp
  | x :: l, k + 1 => by
    rw [List.flatMap_cons, List.drop_succ_cons, ← flat8_drop l k, show 8 * (k + 1) = (bitsN 8 x).length + 8 * k by rw [bitsN_len]; omega, ← List.drop_drop, List.drop_left]
theorem flat8_take : ∀ (l : List Nat) (k : Nat), (l.flatMap (bitsN 8)).take (8 * k) = (l.take k).flatMap (bitsN 8)
  | l, 0 => by simp
  | [], k + 1 => by simp
  | x :: l, k + 1 => by
    rw [List.flatMap_cons, List.take_succ_cons, List.flatMap_cons, ← flat8_take l k, show 8 * (k + 1) = (bitsN 8 x).length + 8 * k by rw [bitsN_len]; omega, List.take_length_add_append]
theorem flat8_inj : ∀ (a b : List Nat), (∀ x ∈ a, x < 256) → (∀ x ∈ b, x < 256) → a.flatMap (bitsN 8) = b.flatMap (bitsN 8) → a = b
  | [], [], _, _, _ => rfl
  | [], y :: b, _, _, h => by
    have := congrArg List.length h
    rw [List.flatMap_cons, List.length_append, bitsN_len, List.flatMap_nil, List.length_nil] at this
    omega
  | x :: a, [], _, _, h => by
    have := congrArg List.length h
    rw [List.flatMap_cons, List.length_append, bitsN_len, List.flatMap_nil, List.length_nil] at this
    omega
  | x :: a, y :: b, ha, hb, h => by
    rw [List.flatMap_cons, List.flatMap_cons] at h
    obtain ⟨h1, h2⟩ := List.append_inj h (by rw [bitsN_len, bitsN_len])
    have h3 := congrArg numB h1
    rw [numB_bits, numB_bits, Nat.mod_eq_of_lt (ha x List.mem_cons_self), Nat.mod_eq_of_lt (hb y List.mem_cons_self)] at h3
    rw [h3, flat8_inj a b (fun z hz => ha z (List.mem_cons_of_mem _ hz)) (fun z hz => hb z (List.mem_cons_of_mem _ hz)) h2]
theorem strN_lt (s : ByteArray) : ∀ x ∈ strN s, x < 256 := by
  intro x hx
  obtain ⟨u, _, rfl⟩ := List.mem_map.1 hx
  exact u.toNat_lt
theorem strN_inj {a b : ByteArray} (h : strN a = strN b) : a = b := by
  apply ByteArray.ext
  apply Array.ext'
  unfold strN at h
  exact (List.map_inj_right (fun x y e => UInt8.toNat_inj.1 e)).1 h
theorem strN_extract (s : ByteArray) (a b : Nat) : strN (s.extract a b) = ((strN s).drop a).take (b - a) := by
  unfold strN
  rw [ByteArray.data_extract, Array.toList_extract, List.extract_eq_take_drop, List.map_take, List.map_drop]
theorem strN_append (a b : ByteArray) : strN (a ++ b) = strN a ++ strN b := by
  unfold strN
  rw [ByteArray.data_append, Array.toList_append, List.map_append]
/-- Bytes that stand among the bits of a text at a byte's beginning. -/
theorem bytes_at {s x : ByteArray} {P more : List Bool} {k : Nat} (hP : P.length = 8 * k) (h : strB s = P ++ (strB x ++ more)) : s.extract k (k + x.size) = x ∧ k + x.size ≤ s.size := by
  have hl := congrArg List.length h
  rw [List.length_append, List.length_append, strB_len, strB_len, hP] at hl
  refine ⟨strN_inj (flat8_inj _ _ (strN_lt _) (strN_lt _) ?_), by omega⟩
  rw [strN_extract, ← flat8_take, ← flat8_drop]
  have h1 : ((strN s).flatMap (bitsN 8)).drop (8 * k) = strB x ++ more := by
    show (strB s).drop (8 * k) = _
    rw [h, ← hP, List.drop_left]
  rw [h1, Nat.add_sub_cancel_left, ← strB_len x, List.take_left]
  rfl
theorem byL_strN (s : ByteArray) : byL s = strN s := rfl
theorem strN_nums (l : List Nat) (h : ∀ x ∈ l, x < 256) : strN (strOfNums (l.map fun x : Nat => (x : Int))) = l := by
  unfold strN
  rw [strOfNums_data, List.map_map, List.map_map]
  refine (List.map_congr_left fun x hx => ?_).trans (List.map_id l)
  have := h x hx
  simp only [Function.comp_apply, id]
  simp
  omega
theorem getS_putS (n k : Nat) (h : n < 256 ^ k) (hk : k ≤ 8) : getS (putS n k) = n := by
  unfold getS
  rw [putS_size, if_pos hk, byL_strN]
  unfold putS putL
  have e := strN_nums _ (putB_lt k n)
  have e2 : (putB n k).map Int.ofNat = (putB n k).map fun x : Nat => (x : Int) := rfl
  rw [e2, e, getB_put_of h]
theorem ext_app {a b : ByteArray} {k m : Nat} (ha : a.size = k) (hb : k + m ≤ a.size + b.size) : (a ++ b).extract k (k + m) = b.extract 0 m := by
  apply strN_inj
  rw [strN_extract, strN_extract, strN_append, Nat.add_sub_cancel_left, List.drop_append_of_le_length (by rw [strN_len]; omega), List.drop_eq_nil_of_le (by rw [strN_len]; omega), List.nil_append, Nat.sub_zero, List.drop_zero]
theorem ext_left {a b : ByteArray} {k : Nat} (ha : a.size = k) : (a ++ b).extract 0 k = a := by
  apply strN_inj
  rw [strN_extract, strN_append, List.drop_zero, Nat.sub_zero, List.take_append_of_le_length (by rw [strN_len]; omega), List.take_of_length_le (by rw [strN_len]; omega)]
theorem ext_ext {s : ByteArray} {k a b n : Nat} (hab : a ≤ b) (hb : b ≤ n) : (s.extract k (k + n)).extract a b = s.extract (k + a) (k + b) := by
  apply strN_inj
  rw [strN_extract, strN_extract, strN_extract, List.drop_take, List.take_take, List.drop_drop]
  congr 1
  omega
theorem ext_all (s : ByteArray) : s.extract 0 s.size = s := by
  apply strN_inj
  rw [strN_extract, List.drop_zero, Nat.sub_zero, List.take_of_length_le (by rw [strN_len]; omega)]
theorem lt256 {n : Nat} (h : n < 65536) : n < 256 ^ 2 := by
  have : (256 : Nat) ^ 2 = 65536 := by decide
  omega
/-- What the reference's plain reads of a stored block. -/
theorem stored_at {s x : ByteArray} {P more : List Bool} {k : Nat} (hP : P.length = 8 * k) (hx : x.size ≤ 65535) (h : strB s = P ++ (strB (storedS x) ++ more)) :
    k + 4 + x.size ≤ s.size ∧ getS (s.extract k (k + 2)) = x.size ∧ getS (s.extract (k + 2) (k + 4)) = 65535 - x.size ∧ s.extract (k + 4) (k + 4 + x.size) = x := by
  obtain ⟨h1, h2⟩ := bytes_at hP h
  rw [storedS_size] at h1 h2
  have z1 := putS_size x.size 2
  have z2 := putS_size (65535 - x.size) 2
  have e0 : storedS x = putS x.size 2 ++ (putS (65535 - x.size) 2 ++ x) := by unfold storedS; rw [ByteArray.append_assoc]
  refine ⟨by omega, ?_, ?_, ?_⟩
  · have e : (s.extract k (k + (x.size + 4))).extract 0 2 = s.extract k (k + 2) := ext_ext (s := s) (k := k) (a := 0) (b := 2) (n := x.size + 4) (by omega) (by omega)
    rw [← e, h1, e0, ext_left z1, getS_putS _ _ (lt256 (by omega)) (by decide)]
  · have e := ext_ext (s := s) (k := k) (a := 2) (b := 4) (n := x.size + 4) (by omega) (by omega)
    rw [← e, h1, e0, show (4 : Nat) = 2 + 2 from rfl, ext_app z1 (by rw [ByteArray.size_append]; omega), ext_left z2, getS_putS _ _ (lt256 (by omega)) (by decide)]
  · have e : (s.extract k (k + (x.size + 4))).extract 4 (4 + x.size) = s.extract (k + 4) (k + 4 + x.size) := by
      have e := ext_ext (s := s) (k := k) (a := 4) (b := 4 + x.size) (n := x.size + 4) (by omega) (by omega)
      rw [← Nat.add_assoc k 4 x.size] at e
      exact e
    rw [← e, h1]
    unfold storedS
    rw [ext_app (by rw [ByteArray.size_append]; omega) (by rw [ByteArray.size_append]; omega), ext_all]
theorem kindB_eq (k : Nat) (last : Bool) : kindB k last = [last, decide (k % 2 = 1), decide (k / 2 % 2 = 1)] := by
  unfold kindB
  have h1 : (2 * k + if last = true then 1 else 0) = k * 2 + (if last = true then 1 else 0) := by omega
  have h2 : k = k / 2 * 2 + k % 2 := by omega
  have h3 : k / 2 = k / 2 / 2 * 2 + k / 2 % 2 := by omega
  rw [h1, bitsN_cons 2 k _ (by split <;> omega)]
  have e2 : bitsN 2 k = [decide (k % 2 = 1), decide (k / 2 % 2 = 1)] := by
    have e3 : bitsN 1 (k / 2) = [decide (k / 2 % 2 = 1)] := by
      have e4 := bitsN_cons 0 (k / 2 / 2) (k / 2 % 2) (by omega)
      rw [← h3] at e4
      exact e4
    have e4 := bitsN_cons 1 (k / 2) (k % 2) (by omega)
    rw [← h2, e3] at e4
    exact e4
  rw [e2]
  cases last <;> rfl
end Go.Proofs.YtmpokiflhijnoaaDoor.Rf
