/-
  A number's bytes, the lowest first, and the number of bytes: plain.
-/
import Derived.ProofKit
namespace Go.Proofs.YtmpokiflhijnoaaGreatDoor.Zp

/-- The k lowest bytes of a number, the lowest first. -/
def putB (n : Nat) : Nat → List Nat
  | 0 => []
  | k + 1 => n % 256 :: putB (n / 256) k
/-- The number of bytes. -/
def getB : List Nat → Nat
  | [] => 0
  | b :: r => b + 256 * getB r
theorem putB_len : ∀ (k n : Nat), (putB n k).length = k
  | 0, _ => rfl
  | k + 1, n => by rw [putB, List.length_cons, putB_len k]
theorem putB_lt : ∀ (k n : Nat), ∀ b ∈ putB n k, b < 256
  | 0, _, b, h => by cases h
  | k + 1, n, b, h => by
    rcases List.mem_cons.1 h with rfl | h
    · exact Nat.mod_lt _ (by omega)
    · exact putB_lt k _ b h
theorem getB_put : ∀ (k n : Nat), getB (putB n k) = n % 256 ^ k
  | 0, n => by simp [putB, getB, Nat.mod_one]
  | k + 1, n => by
    rw [putB, getB, getB_put k, Nat.pow_succ, Nat.mul_comm (256 ^ k) 256, Nat.mod_mul]
theorem getB_put_of {k n : Nat} (h : n < 256 ^ k) : getB (putB n k) = n := by rw [getB_put, Nat.mod_eq_of_lt h]
theorem getB_lt : ∀ l : List Nat, (∀ b ∈ l, b < 256) → getB l < 256 ^ l.length
  | [], _ => by simp [getB]
  | b :: r, h => by
    have h1 := getB_lt r (fun c hc => h c (List.mem_cons_of_mem _ hc))
    have h2 := h b List.mem_cons_self
    rw [getB, List.length_cons, Nat.pow_succ]
    omega
theorem putB_get : ∀ l : List Nat, (∀ b ∈ l, b < 256) → putB (getB l) l.length = l
  | [], _ => rfl
  | b :: r, h => by
    have h1 := putB_get r (fun c hc => h c (List.mem_cons_of_mem _ hc))
    have h2 := h b List.mem_cons_self
    rw [List.length_cons, putB, getB]
    have e1 : (b + 256 * getB r) % 256 = b := by omega
    have e2 : (b + 256 * getB r) / 256 = getB r := by omega
    rw [e1, e2, h1]
theorem putB_at : ∀ (k n i : Nat) (h : i < (putB n k).length), (putB n k)[i] = n / 256 ^ i % 256
  | 0, _, i, h => by simp [putB] at h
  | k + 1, n, 0, _ => by simp [putB]
  | k + 1, n, i + 1, h => by
    have h1 := putB_at k (n / 256) i (by simpa [putB] using h)
    simp only [putB, List.getElem_cons_succ]
    rw [h1, Nat.div_div_eq_div_mul, Nat.pow_succ, Nat.mul_comm 256]

end Go.Proofs.YtmpokiflhijnoaaGreatDoor.Zp
