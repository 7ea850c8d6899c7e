/-
  The reference of layer 7: a block of the kind Stored.
-/
import Derived.Test.YtmpokiflhijnoaaDoorRfGet
import Derived.Test.YtmpokiflhijnoaaDoorBwAdd
namespace Go.Proofs.YtmpokiflhijnoaaDoor.Rf
open Go.RowKit Go.Shelf Go.Proofs.YtmpokiflhijnoaaDoor.Mg Go.Proofs.YtmpokiflhijnoaaDoor.Bw Go.Proofs.YtmpokiflhijnoaaDoor.Bk Go.Proofs.YtmpokiflhijnoaaDoor.Cn Go.Proofs.YtmpokiflhijnoaaDoor.Zp
set_option linter.unusedVariables false
set_option linter.unusedSimpArgs false

set_option maxHeartbeats 4000000 in
set_option maxRecDepth 100000 in
theorem plain_calls (s : ByteArray) (at' k N base n : Nat) (v : Value) (xs : List Value) (w : World) (hk : (at' + 7) / 8 = k) (ha : at' ≤ 1000000000000) (hs : s.size ≤ 1000000000000) (hn : n ≤ 1000000000000) (hN : N ≤ 65535) (h1 : k + 4 + N ≤ s.size)
    (hg1 : getS (s.extract k (k + 2)) = N) (hg2 : getS (s.extract (k + 2) (k + 4)) = 65535 - N) (hown : w.ownsRow base 5 1 v n xs) (hb : base ≤ w.heap.size) :
    Calls Tryd.prog 51 #[.string s, .int .i64 at', v] w fun e w' => (∃ v', e = .returned (.tuple #[v', .int .i64 ((8 * (k + 4 + N) : Nat) : Int), .int .i64 0]) ∧ w'.ownsRow base 5 1 v' (n + N) (xs ++ Lib.strCells (s.extract (k + 4) (k + 4 + N)))) ∧ Below base w w' := by
  have hii : Tryd.prog.info? 5 = some tb8 := by kernel_rfl
  have hiz0 : tb8.zero = some (.int .u8 0) := by kernel_rfl
  have hiz1 : tb8.size = 1 := by kernel_rfl
  have hiz2 : tb8.bytes = 1 := by kernel_rfl
  have HO := Lib.hid hown
  have HG1 : Hid (Calls Tryd.prog 72 #[.string (s.extract k (k + 2))] w fun e w' => e = .returned (.int .u64 N) ∧ w = w') := Lib.hid (by
    have h := refget_calls (s.extract k (k + 2)) w (by simp; omega)
    rw [hg1] at h
    exact h)
  have HG2 : Hid (Calls Tryd.prog 72 #[.string (s.extract (k + 2) (k + 4))] w fun e w' => e = .returned (.int .u64 ((65535 - N : Nat) : Int)) ∧ w = w') := Lib.hid (by
    have h := refget_calls (s.extract (k + 2) (k + 4)) w (by simp; omega)
    rw [hg2] at h
    exact h)
  have HSZ : Hid ((s.extract (k + 4) (k + 4 + N)).size = N) := Lib.hid (by simp; omega)
  have hq : Int.tdiv ((at' : Int) + 7) 8 = (k : Int) := by
    rw [Int.tdiv_eq_ediv_of_nonneg (by omega)]
    omega
  have q1 : decide ((s.size : Int) < (k : Int) + 4) = false := decide_eq_false (by omega)
  have q3 : decide ((s.size : Int) < (k : Int) + 4 + (N : Int)) = false := decide_eq_false (by omega)
  obtain ⟨M, hM⟩ : ∃ M, 65535 - N = M := ⟨_, rfl⟩
  have hMN : N + M = 65535 := by omega
  rw [hM] at HG2
  clear hM hg1 hg2 hown hk
  go_enter Tryd.func51, Tryd.ntmps51
  go_wp2_with fail
  refine HG1.out.mono ?_
  rintro e w1 ⟨rfl, rfl⟩
  have q2 : decide ((N : Int) + (M : Int) = 65535) = true := decide_eq_true (by omega)
  have q2' : (N : Int) + (M : Int) = 65535 := by omega
  go_wp2_with fail
  refine HG2.out.mono ?_
  rintro e w1 ⟨rfl, rfl⟩
  go_wp2_with (at_builtin; refine wpList_append_at_string _ rfl _ _ 25 9 rfl base 5 tb8 Tryd.underlying25 Tryd.underlying9 hii hiz0 hiz1 hiz2 _ n xs rfl HO.out (s.extract (k + 4) (k + 4 + N)) rfl ?c3 ?c4 ?c5 ?_)
  case c3 => rw [HSZ.out]; unfold maxLen; omega
  case c4 => rw [HSZ.out]; omega
  case c5 => exact hb
  intro v3 w3 hown1 hg1 hfr
  have HO7 := Lib.hid hown1
  have HB7 : Hid (Below base w w3) := Lib.hid ((Below.refl base w).grown hg1 hb (fun r e => (HO.out.lt r e).1))
  clear hown1 hg1 hfr
  go_wp2
  go_ret3
  refine ⟨⟨_, ?_, HO7.out⟩, HB7.out⟩
  have e8 : ((8 * (k + 4 + N) : Nat) : Int) = 8 * ((k : Int) + 4 + (N : Int)) := by push_cast; rfl
  rw [e8]
  rfl
end Go.Proofs.YtmpokiflhijnoaaDoor.Rf
