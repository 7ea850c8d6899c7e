/-
  lighterlaw09.speaks.
-/
import Derived.Test.YtmpokiflhijnoaaDoorBkSize
namespace Go.Proofs.YtmpokiflhijnoaaDoor.Bk
open Go.RowKit Go.Shelf Go.Proofs.YtmpokiflhijnoaaDoor.Mg Go.Proofs.YtmpokiflhijnoaaDoor.Bw Go.Proofs.YtmpokiflhijnoaaDoor.Ri
set_option linter.unusedVariables false
set_option linter.unusedSimpArgs false

def tokA : List Tok := [⟨97, 0, 0⟩]
def strA : ByteArray := { data := #[97] }
theorem mayA : mayB 1 strA.size tokA = true := by decide +kernel
theorem mayA0 : mayB 0 strA.size tokA = true := by decide +kernel
theorem sizeA1 : sizeN 1 strA.size tokA = 18 := by decide +kernel
theorem headB_ge (ts : List Tok) : 26 ≤ (headB ts).length := by
  have h3 := tellGo_ge (tellD ts) 19 (by omega)
  unfold headB
  rw [List.length_append, List.length_append, bitsN_len, tellsB_len]
  unfold tellC
  omega
theorem sizeA2 : 29 ≤ sizeN 2 strA.size tokA := by
  unfold sizeN
  rw [if_neg (by decide)]
  unfold blockB bodyB
  rw [if_neg (by decide), List.length_append, List.length_append, kindB_len]
  have := headB_ge tokA
  omega
theorem chooseA : chooseP strA.size tokA = 1 := by
  unfold chooseP
  have h2 := sizeA2
  rw [if_pos mayA0, sizeA1, if_pos (by decide), if_neg (by omega)]
theorem packA : (packR [0, 0, 0, 0]).length = 1 := by
  have h : packR [0, 0, 0, 0] = packP [0, 0, 0, 0] := by
    unfold packR
    rw [show ([0, 0, 0, 0] : List Int).any bad15 = false by decide]
    rfl
  rw [h, packP_cons, if_pos rfl, show leadP 0 [0, 0, 0] + 1 = 4 by decide, show ([0, 0, 0] : List Int).drop (leadP 0 [0, 0, 0]) = [] by decide, packP_nil, restP_pos 0 4 (by decide), show (4 - (stepP 0 4).2) = 0 by decide, restP_zero]
  rfl
theorem tokA_at (w : World) : TokAt (w.alloc (.cells #[.int .u8 97, .int .i64 0, .int .i64 0] 27)) (some ⟨w.heap.size, 0, none⟩) tokA ∧ TokR (w.alloc (.cells #[.int .u8 97, .int .i64 0, .int .i64 0] 27)) (some ⟨w.heap.size, 0, none⟩) := by
  have hz := World.alloc_heap_new w (.cells #[.int .u8 97, .int .i64 0, .int .i64 0] 27)
  refine ⟨fun j hj => ?_, fun g o e => ?_⟩
  · obtain rfl : j = 0 := by
      have : j < 1 := hj
      omega
    exact ⟨_, 0, rfl, (cell_at hz 0 _ rfl).1, (cell_at hz 1 _ rfl).1, (cell_at hz 2 _ rfl).1⟩
  · cases e
    exact ⟨_, _, hz⟩
theorem tokA_byte : ∀ t ∈ tokA, 0 ≤ t.b ∧ t.b < 256 := by
  intro t ht
  rw [List.mem_singleton.1 ht]
  decide

set_option maxHeartbeats 4000000 in
set_option maxRecDepth 100000 in
theorem speaks_calls (w : World) (hO : OrdT w) :
    Calls Tryd.prog 6 #[] w fun e w' => e = .returned (.bool true) ∧ Below w.heap.size w w' := by
  have HO := Lib.hid hO
  have HS : Hid (∀ W, OrdT W → Calls Tryd.prog 18 #[.int .i64 1, .string strA, .slice (some ⟨W.heap.size, 0, none⟩) 1 1] (W.alloc (.cells #[.int .u8 97, .int .i64 0, .int .i64 0] 27)) fun e w' => e = .returned (.tuple #[.int .i64 18, .bool true]) ∧ Below W.heap.size W w') := Lib.hid (fun W hW => by
    have h := size1_calls strA (some ⟨W.heap.size, 0, none⟩) 1 tokA _ (tokA_at W).1 (tokA_at W).2 tokA_byte mayA
    rw [sizeA1] at h
    refine h.mono ?_
    rintro e w' ⟨rfl, hb⟩
    exact ⟨rfl, ((Below.refl _ _).alloc (Nat.le_refl _) _).trans (hb.mono (by simp))⟩)
  have HC : Hid (∀ W, OrdT W → Calls Tryd.prog 19 #[.string strA, .slice (some ⟨W.heap.size, 0, none⟩) 1 1] (W.alloc (.cells #[.int .u8 97, .int .i64 0, .int .i64 0] 27)) fun e w' => e = .returned (.int .i64 1) ∧ Below W.heap.size W w') := Lib.hid (fun W hW => by
    have h := choose_calls strA (some ⟨W.heap.size, 0, none⟩) 1 tokA _ (tokA_at W).1 (by decide) (tokA_at W).2 tokA_byte (hW.below ((Below.refl _ _).alloc (Nat.le_refl _) _) (Nat.le_refl _))
    rw [chooseA] at h
    refine h.mono ?_
    rintro e w' ⟨rfl, hb⟩
    exact ⟨rfl, ((Below.refl _ _).alloc (Nat.le_refl _) _).trans (hb.mono (by simp))⟩)
  have HP : Hid (∀ W : World, Calls Tryd.prog 20 #[.slice (some ⟨W.heap.size, 0, none⟩) 4 4] (W.alloc (.cells #[.int .i64 0, .int .i64 0, .int .i64 0, .int .i64 0] 3)) fun e w' => (∃ g c, e = .returned (.slice (some ⟨g, 0, none⟩) 1 c)) ∧ Below W.heap.size W w') := Lib.hid (fun W => by
    have hz := World.alloc_heap_new W (.cells #[.int .i64 0, .int .i64 0, .int .i64 0, .int .i64 0] 3)
    have h := pack_calls (some ⟨W.heap.size, 0, none⟩) 4 [0, 0, 0, 0] _ (fun j hj => ⟨W.heap.size, 0, rfl, by
      have hj4 : j < 4 := hj
      rw [Nat.zero_add]
      rcases j with _ | _ | _ | _ | j
      · exact (cell_at hz 0 _ rfl).1
      · exact (cell_at hz 1 _ rfl).1
      · exact (cell_at hz 2 _ rfl).1
      · exact (cell_at hz 3 _ rfl).1
      · omega⟩) (by decide)
    rw [packA] at h
    refine h.mono ?_
    rintro e w' ⟨⟨v, rfl, ho⟩, hb⟩
    obtain ⟨g, c, rfl, _, _⟩ := ho.form (by decide)
    exact ⟨⟨g, c, rfl⟩, ((Below.refl _ _).alloc (Nat.le_refl _) _).trans (hb.mono (by simp))⟩)
  clear hO
  unfold strA at HS HC
  go_enter Tryd.func6, Tryd.ntmps6
  go_wp2_with fail
  refine (HS.out w HO.out).mono ?_
  rintro e w1 ⟨rfl, hb⟩
  have HB1 := Lib.hid hb
  have HO1 := Lib.hid (HO.out.below hb (Nat.le_refl _))
  clear hb
  go_wp2_with fail
  refine (HC.out w1 HO1.out).mono ?_
  rintro e w2 ⟨rfl, hb⟩
  have HB2 := Lib.hid (HB1.out.trans (hb.mono HB1.out.size))
  clear hb
  go_wp2_with fail
  refine (HP.out w2).mono ?_
  rintro e w3 ⟨⟨g, c, rfl⟩, hb⟩
  have HB3 := Lib.hid (HB2.out.trans (hb.mono HB2.out.size))
  clear hb
  go_wp2
  go_ret
  exact ⟨rfl, HB3.out⟩
end Go.Proofs.YtmpokiflhijnoaaDoor.Bk
