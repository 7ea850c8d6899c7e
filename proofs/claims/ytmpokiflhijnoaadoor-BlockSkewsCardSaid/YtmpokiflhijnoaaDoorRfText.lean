/-
  The reference of layer 7: bits as a text; numbers.
-/
import Derived.Test.YtmpokiflhijnoaaDoorRfBits
import Derived.Test.YtmpokiflhijnoaaDoorZpPut
namespace Go.Proofs.YtmpokiflhijnoaaDoor.Rf
open Go.RowKit Go.Shelf Go.Proofs.YtmpokiflhijnoaaDoor.Mg Go.Proofs.YtmpokiflhijnoaaDoor.Bw Go.Proofs.YtmpokiflhijnoaaDoor.Bk Go.Proofs.YtmpokiflhijnoaaDoor.Cn Go.Proofs.YtmpokiflhijnoaaDoor.Zp
set_option linter.unusedVariables false
set_option linter.unusedSimpArgs false

set_option maxRecDepth 100000 in
theorem conv_one (v : Int) (W : World) : (convert 25 9 (.slice (some ⟨W.heap.size, 0, none⟩) 1 1)).run Tryd.prog (W.alloc (.cells #[.int .u8 v] 5)) = .ok (.string (strOfNums [v])) (W.alloc (.cells #[.int .u8 v] 5)) := by
  have hcell : ∀ i, i < 1 → (W.alloc (.cells #[.int .u8 v] 5)).cell? ⟨W.heap.size, 0 + i, none⟩ = some (.int .u8 (([v] : List Int).getD i 0)) := fun i hi => by
    obtain rfl : i = 0 := by omega
    simp only [World.cell?]
    rw [World.alloc_heap_new]
    rfl
  exact run_convert_bytes_arg (P := Tryd.prog) (w := W.alloc (.cells #[.int .u8 v] 5)) 25 5 Tryd.underlying25 Tryd.underlying5 W.heap.size 0 1 1 [v] rfl hcell 9 Tryd.underlying9

/-- Bits as a text of 0 and 1. -/
def txt (bs : List Bool) : ByteArray := strOfNums (bs.map fun b => 48 + bitI b)
theorem nums_app (a b : List Int) : strOfNums (a ++ b) = strOfNums a ++ strOfNums b := by
  apply ByteArray.ext
  rw [ByteArray.data_append]
  apply Array.ext'
  rw [Array.toList_append, strOfNums_data, strOfNums_data, strOfNums_data, List.map_append]
theorem txt_app (a b : List Bool) : txt (a ++ b) = txt a ++ txt b := by
  unfold txt
  rw [List.map_append, nums_app]
theorem txt_size (a : List Bool) : (txt a).size = a.length := by
  unfold txt
  rw [strOfNums_size, List.length_map]
theorem txt_nil : txt [] = ⟨#[]⟩ := rfl
theorem txt_one (b : Bool) : txt [b] = strOfNums [48 + bitI b] := rfl
theorem txt_inj {a b : List Bool} (h : txt a = txt b) : a = b := by
  have h1 : (txt a).data.toList = (txt b).data.toList := by rw [h]
  unfold txt at h1
  rw [strOfNums_data, strOfNums_data, List.map_map, List.map_map] at h1
  have hinj : ∀ x y : Bool, ((fun n : Int => UInt8.ofNat n.toNat) ∘ fun b => 48 + bitI b) x = ((fun n : Int => UInt8.ofNat n.toNat) ∘ fun b => 48 + bitI b) y → x = y := by decide
  exact (List.map_inj_right (fun x y h => hinj x y h)).1 h1

set_option maxHeartbeats 2000000 in
set_option maxRecDepth 100000 in
theorem text_calls (A : Option Addr) (c : Nat) (bs : List Bool) (at' most : Nat) (w : World) (hA : BitsAt w A bs) (hl : bs.length ≤ 1000000000000) (ha : at' ≤ 1000000000000) (hm : most ≤ 1000) :
    Calls Tryd.prog 90 #[.slice A bs.length c, .int .i64 at', .int .i64 most] w fun e w' => e = .returned (.string (txt ((bs.drop at').take most))) ∧ Below w.heap.size w w' := by
  have HA : Hid (∀ W, Below w.heap.size w W → BitsAt W A bs) := Lib.hid (fun W h => hA.below h)
  obtain ⟨n, hn⟩ : ∃ n, bs.length = n := ⟨_, rfl⟩
  have HN := Lib.hid hn
  have B0 := Lib.hid (Below.refl w.heap.size w)
  rw [hn] at hl ⊢
  clear hA hn
  go_enter Tryd.func90, Tryd.ntmps90
  go_wp2
  go_loopw [7, 8] (fun vs vi wr => ∃ k : Nat, k ≤ most ∧ vi = .int .i64 ((at' + k : Nat) : Int) ∧ vs = .string (txt ((bs.drop at').take k)) ∧ (k = 0 ∨ at' + k ≤ n) ∧ Below w.heap.size w wr) (fun _ vi _ => at' + most - (intOf vi).toNat)
  case atStart => exact ⟨0, Nat.zero_le _, rfl, rfl, .inl rfl, B0.out⟩
  case round =>
    obtain ⟨k, hk, rfl, rfl, hkn, hb⟩ := hrel
    have HB := Lib.hid hb
    clear hb
    obtain ⟨p, hp⟩ : ∃ p, at' + k = p := ⟨_, rfl⟩
    rw [hp] at hkn ⊢
    have HP := Lib.hid hp
    by_cases hlt : p < n
    · have q1 : decide ((p : Int) < (n : Int)) = true := decide_eq_true (by omega)
      have q1' : decide (p < n) = true := decide_eq_true hlt
      by_cases hkm : k < most
      · have q2 : decide ((p : Int) < (at' : Int) + (most : Int)) = true := decide_eq_true (by omega)
        have q2' : decide (p < at' + most) = true := decide_eq_true (by omega)
        have p1 : p < bs.length := by rw [HN.out]; exact hlt
        obtain ⟨g, o, rfl, hcell⟩ := HA.out wr HB.out p (by rw [bitsI_len]; exact p1)
        rw [bitsI_get bs p p1] at hcell
        have HT : Hid (txt ((bs.drop at').take (k + 1)) = txt ((bs.drop at').take k) ++ strOfNums [48 + bitI bs[p]]) := Lib.hid (by
          have hk1 : k < (bs.drop at').length := by rw [List.length_drop]; omega
          rw [List.take_succ_eq_append_getElem hk1, txt_app, txt_one, List.getElem_drop]
          congr 4
          simp only [hp])
        have hr := bitI_range bs[p]
        obtain ⟨z, hz⟩ : ∃ z, bitI bs[p] = z := ⟨_, rfl⟩
        rw [hz] at hcell HT hr
        have hc := conv_one (48 + z) wr
        have s1 : (txt ((bs.drop at').take k)).size ≤ 1000 := by rw [txt_size, List.length_take]; omega
        have s2 : (strOfNums [48 + z]).size = 1 := by rw [strOfNums_size]; rfl
        have i0 : (0 : Int) ≤ (p : Int) := by omega
        have i1 : (p : Int) < (n : Int) := by omega
        have e8 : IntKind.u8.wrap (48 + z) = 48 + z := by rw [IntKind.wrap_u8]; omega
        clear hz
        go_wp2
        go_roundw
        case rel => exact ⟨k + 1, by omega, by have := HP.out; go_num, by rw [HT.out], .inr (by omega), HB.out.alloc HB.out.size _⟩
        case measure => have := HP.out; simp [intOf]; omega
      · have q2 : decide ((p : Int) < (at' : Int) + (most : Int)) = false := decide_eq_false (by omega)
        have q2' : decide (p < at' + most) = false := decide_eq_false (by omega)
        obtain rfl : k = most := by omega
        go_wp2
        go_ret
        exact ⟨rfl, HB.out⟩
    · have q1 : decide ((p : Int) < (n : Int)) = false := decide_eq_false (by omega)
      have q1' : decide (p < n) = false := decide_eq_false hlt
      have HT : Hid ((bs.drop at').take k = (bs.drop at').take most) := Lib.hid (by
        have hd : (bs.drop at').length ≤ k := by rw [List.length_drop]; have := HN.out; omega
        rw [List.take_of_length_le hd, List.take_of_length_le (by omega)])
      rw [HT.out]
      go_wp2
      go_ret
      exact ⟨rfl, HB.out⟩

set_option maxHeartbeats 1000000 in
set_option maxRecDepth 100000 in
theorem num_calls (g o c : Nat) (bs : List Bool) (at' n : Nat) (w : World) (hA : BitsAt w (some ⟨g, o, none⟩) bs) (hc : bs.length ≤ c) (hl : bs.length ≤ 1000000000000) (hn : n ≤ 32) (h : at' + n ≤ bs.length) :
    Calls Tryd.prog 77 #[.slice (some ⟨g, o, none⟩) bs.length c, .int .i64 at', .int .i64 n] w fun e w' => e = .returned (.tuple #[.int .i64 (numB ((bs.drop at').take n) : Nat), .bool true]) ∧ w' = w := by
  have hlen : ((bs.drop at').take n).length = n := by rw [List.length_take, List.length_drop]; omega
  have HNC : Hid (∀ o2 c2, (n = 0 ∨ o2 = o + at') → Calls Tryd.prog 91 #[.slice (some ⟨g, o2, none⟩) n c2] w fun e w' => e = .returned (.int .u64 (numB ((bs.drop at').take n) : Nat)) ∧ w' = w) := Lib.hid (fun o2 c2 ho => by
    have hB : BitsAt w (some ⟨g, o2, none⟩) ((bs.drop at').take n) := fun j hj => by
      have hj2 : j < n := by rw [bitsI_len, hlen] at hj; exact hj
      have ho2 : o2 = o + at' := by rcases ho with h0 | h0; omega; exact h0
      obtain ⟨g', o', e, hcell⟩ := hA (at' + j) (by rw [bitsI_len]; omega)
      cases e
      refine ⟨g, o2, rfl, ?_⟩
      rw [ho2, show o + at' + j = o + (at' + j) by omega, hcell, bitsI_get _ _ (by omega), bitsI_get _ _ (by omega), List.getElem_take, List.getElem_drop]
    have hx := number_calls (some ⟨g, o2, none⟩) c2 _ w hB (by omega)
    rw [hlen] at hx
    exact hx)
  have hlt := numB_lt ((bs.drop at').take n)
  rw [hlen] at hlt
  have h32 : 2 ^ n ≤ 2 ^ 32 := Nat.pow_le_pow_right (by omega) hn
  have e32 : (2 : Nat) ^ 32 = 4294967296 := by decide
  obtain ⟨N, hN⟩ : ∃ N, numB ((bs.drop at').take n) = N := ⟨_, rfl⟩
  rw [hN] at HNC hlt ⊢
  have hNb : N < 4294967296 := by omega
  obtain ⟨L, hL⟩ : ∃ L, bs.length = L := ⟨_, rfl⟩
  rw [hL] at hc h hl ⊢
  have q1 : decide ((L : Int) < (at' : Int) + (n : Int)) = false := decide_eq_false (by omega)
  have q1' : decide (L < at' + n) = false := decide_eq_false (by omega)
  have i1 : (at' : Int) ≤ (at' : Int) + (n : Int) := by omega
  have i2 : (at' : Int) + (n : Int) ≤ (c : Int) := by omega
  clear hA hlen h32 hlt hN hL
  rcases Nat.lt_or_ge at' c with hac | hac
  · have HX := Lib.hid (HNC.out (o + at') (c - at') (.inr rfl))
    have e1 : c - at' ≠ 0 := by omega
    have e2 : ¬ c ≤ at' := by omega
    clear HNC
    go_enter Tryd.func77, Tryd.ntmps77
    go_wp2_with fail
    refine HX.out.mono ?_
    rintro e w1 ⟨rfl, rfl⟩
    go_wp2
    go_ret2
    exact ⟨rfl, rfl⟩
  · have HX := Lib.hid (HNC.out o 0 (.inl (by omega)))
    obtain rfl : at' = c := by omega
    obtain rfl : n = 0 := by omega
    clear HNC
    go_enter Tryd.func77, Tryd.ntmps77
    go_wp2_with fail
    refine HX.out.mono ?_
    rintro e w1 ⟨rfl, rfl⟩
    go_wp2
    go_ret2
    exact ⟨rfl, rfl⟩
end Go.Proofs.YtmpokiflhijnoaaDoor.Rf
