/-
  Names: the small functions of layer 12 (Plain), each with what it computes.
-/
import Derived.Test.YtehhoigedniglaaDoorProg
import Derived.WalkKit
import Derived.WalkLawsBesides
import Derived.WalkSpells
import Derived.Below
import Derived.Lib.Hide
namespace Go.Proofs.YtehhoigedniglaaDoor.Nm
open Go.RowKit
set_option linter.unusedVariables false
set_option linter.unusedSimpArgs false

/-- Has a text bytes below 128 alone? -/
def plainB (s : ByteArray) : Bool := s.data.toList.all fun c => decide (c.toNat < 128)

theorem plain_bad (s : ByteArray) (k : Nat) (h : k < s.size) (hb : 128 ≤ (s[k].toNat : Int)) : plainB s = false := by
  unfold plainB
  rw [List.all_eq_false]
  exact ⟨s[k], by simp [ByteArray.getElem_eq_getElem_data], by simp; omega⟩

theorem plain_good (s : ByteArray) (h : ∀ j (hj : j < s.size), s[j].toNat < 128) : plainB s = true := by
  unfold plainB
  rw [List.all_eq_true]
  intro c hc
  obtain ⟨j, hj, rfl⟩ := List.mem_iff_getElem.1 hc
  have := h j (by simpa using hj)
  simpa [ByteArray.getElem_eq_getElem_data] using this

theorem plain_calls (s : ByteArray) (w : World) (hs : s.size ≤ maxLen) :
    Calls Tryd.prog 41 #[.string s] w fun e w' => e = .returned (.bool (plainB s)) ∧ w = w' := by
  unfold maxLen at hs
  go_enter Tryd.func41, Tryd.ntmps41
  go_wp2
  go_loop [6] (fun i => ∃ k : Nat, k ≤ s.size ∧ i = .int .i64 k ∧ ∀ j (hj : j < s.size), j < k → s[j].toNat < 128) (fun i => s.size - (intOf i).toNat)
  case atStart => exact ⟨0, Nat.zero_le _, rfl, fun j hj h => by omega⟩
  case round =>
    obtain ⟨k, hk, rfl, hg⟩ := hrel
    have HG := Lib.hid hg
    clear hg
    by_cases hlt : k < s.size
    · by_cases hb : 128 ≤ (s[k].toNat : Int)
      · have hp := Lib.hid (plain_bad s k hlt hb)
        go_wp2
        go_ret
        exact ⟨by rw [hp.out] <;> rfl, rfl⟩
      · go_wp2
        go_round
        case rel => exact ⟨k + 1, by omega, by go_num, fun j hj h => by
          rcases Nat.lt_or_ge j k with h1 | h1
          · exact HG.out j hj h1
          · obtain rfl : j = k := by omega
            omega⟩
        case measure => simp [intOf]; omega
    · have hp := Lib.hid (plain_good s (fun j hj => HG.out j hj (by omega)))
      go_wp2
      go_ret
      exact ⟨by rw [hp.out] <;> rfl, rfl⟩

end Go.Proofs.YtehhoigedniglaaDoor.Nm
