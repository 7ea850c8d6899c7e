/-
  The reference of layer 7: Read, of a text that is a stream of blocks.
-/
import Derived.Test.YtmpokiflhijnoaaDoorRfRead
namespace Go.Proofs.YtmpokiflhijnoaaDoor.Rf
open Go.RowKit Go.Shelf Go.Proofs.YtmpokiflhijnoaaDoor.Mg Go.Proofs.YtmpokiflhijnoaaDoor.Bw Go.Proofs.YtmpokiflhijnoaaDoor.Bk Go.Proofs.YtmpokiflhijnoaaDoor.Cn Go.Proofs.YtmpokiflhijnoaaDoor.Zp
set_option linter.unusedVariables false
set_option linter.unusedSimpArgs false

theorem conv_nil (W : World) : (convert 25 9 (.slice none 0 0)).run Tryd.prog W = .ok (.string ⟨#[]⟩) W := by kernel_rfl
theorem conv_own {W : World} {base : Nat} {v : Value} {l : List Int} (h : W.ownsRow base 5 1 v l.length (u8V l)) : (convert 25 9 v).run Tryd.prog W = .ok (.string (strOfNums l)) W := by
  rcases h.2 with ⟨rfl, h0⟩ | ⟨g, cap, cur, rfl, -⟩
  · obtain rfl : l = [] := List.length_eq_zero_iff.1 h0
    exact conv_nil W
  · refine run_convert_bytes_arg (P := Tryd.prog) (w := W) 25 5 Tryd.underlying25 Tryd.underlying5 g 0 l.length cap l rfl (fun i hi => ?_) 9 Tryd.underlying9
    rw [Nat.zero_add]
    exact own_cell1 h i _ (u8V_get l i hi)

set_option maxHeartbeats 2000000 in
set_option maxRecDepth 100000 in
theorem readx_calls (s : ByteArray) (bks : List Blk) (rest : List Bool) (w : World) (hs : s.size ≤ 100000000) (hne : bks ≠ []) (hok : okBs [] bks) (hbits : strB s = wrBs [] bks ++ rest) (hout : (outBs [] bks).length ≤ 1000000000) :
    Calls Tryd.prog 9 #[.string s] w fun e w' => e = .returned (.tuple #[.string (strOfNums (outBs [] bks)), .int .i64 ((8 * s.size - rest.length : Nat) : Int), .int .i64 0]) ∧ Below w.heap.size w w' := by
  have HR := Lib.hid (read_calls s bks rest w hs hne hok hbits hout)
  obtain ⟨z, hz⟩ : ∃ z, 8 * s.size - rest.length = z := ⟨_, rfl⟩
  rw [hz] at HR
  clear hok hbits hne
  go_enter Tryd.func9, Tryd.ntmps9
  go_wp2_with fail
  refine HR.out.mono ?_
  rintro e w2 ⟨v, rfl, ho, hb⟩
  have hc := conv_own ho
  have HB := Lib.hid hb
  obtain ⟨S, hS⟩ : ∃ S, strOfNums (outBs [] bks) = S := ⟨_, rfl⟩
  rw [hS] at hc
  have HS := Lib.hid hS
  have HZ := Lib.hid hz
  obtain ⟨A, c, rfl⟩ := own_form ho
  clear ho hb hS hz
  go_wp2
  go_ret3
  rw [HS.out, HZ.out]
  exact ⟨rfl, HB.out⟩
end Go.Proofs.YtmpokiflhijnoaaDoor.Rf
