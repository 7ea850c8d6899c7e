/-
  Names: what a right sign is, in bytes; plain lemmas without Go. okSign s i: the sign at i is right UTF-8 and may be in a name.
-/
import GoSem.Core.Utf8
namespace Go.Proofs.YtehhoigedniglaaDoor.Nm
open Go

/-- A byte as a number. -/
def byt (s : ByteArray) (i : Nat) : Nat := (s.get! i).toNat

theorem byt_lt (s : ByteArray) (i : Nat) : byt s i < 256 := by
  unfold byt
  exact (s.get! i).toNat_lt

theorem byt_at (s : ByteArray) (i : Nat) (h : i < s.size) : byt s i = s[i].toNat := by
  unfold byt
  congr 1
  have h' : i < s.data.size := h
  show s.data[i]! = _
  rw [getElem!_pos s.data i h']
  rfl

/-- A sign that no name has. -/
def oddR (r : Nat) : Bool := decide (r < 32) || decide (r = 127) || decide (r = 92)

def okSign (s : ByteArray) (i : Nat) : Bool := !decide (Utf8.decode s i = (65533, 1)) && !oddR (Utf8.decode s i).1

/-- The number that the first k bytes of a sign tell, its head telling v. -/
def pv (s : ByteArray) (i : Nat) (v : Int) : Nat → Int
  | 0 => v
  | 1 => v
  | k + 2 => 64 * pv s i v (k + 1) + (byt s (i + (k + 1)) : Int) - 128

/-- What the head tells: how many bytes, its own bits, the least number. -/
def Class (c : Nat) (n : Nat) (v least : Int) : Prop :=
  (c < 128 ∧ n = 1 ∧ v = c ∧ least = 0) ∨ (192 ≤ c ∧ c < 224 ∧ n = 2 ∧ v = c - 192 ∧ least = 128) ∨
  (224 ≤ c ∧ c < 240 ∧ n = 3 ∧ v = c - 224 ∧ least = 2048) ∨ (240 ≤ c ∧ c < 248 ∧ n = 4 ∧ v = c - 240 ∧ least = 65536)

/-- May the number be? -/
def Fine (v least : Int) : Prop := ¬ v < least ∧ ¬ 1114111 < v ∧ ¬ (55296 ≤ v ∧ v ≤ 57343) ∧ ¬ v < 32 ∧ ¬ v = 127 ∧ ¬ v = 92

theorem dec1 (s : ByteArray) (i : Nat) (h : byt s i < 128) : Utf8.decode s i = (byt s i, 1) := by
  unfold byt at h ⊢
  unfold Utf8.decode
  simp only [Nat.add_zero]
  rw [if_pos (by omega)]

theorem dec_none (s : ByteArray) (i : Nat) (h : 128 ≤ byt s i) (h2 : byt s i < 192 ∨ 248 ≤ byt s i) : Utf8.decode s i = (65533, 1) := by
  unfold byt at h h2
  unfold Utf8.decode
  simp only [Nat.add_zero]
  rw [if_neg (by omega), if_neg, if_neg, if_neg]
  · rfl
  all_goals
    simp only [Bool.and_eq_true, beq_iff_eq, decide_eq_true_eq]
    omega

theorem dec2 (s : ByteArray) (i : Nat) (r : Int) (hr : r = 64 * ((byt s i : Int) - 192) + (byt s (i + 1) : Int) - 128) (h : 192 ≤ byt s i) (h2 : byt s i < 224) :
    ((i + 1 < s.size ∧ 128 ≤ byt s (i + 1) ∧ byt s (i + 1) < 192) → 128 ≤ r → Utf8.decode s i = (r.toNat, 2)) ∧ (¬ ((i + 1 < s.size ∧ 128 ≤ byt s (i + 1) ∧ byt s (i + 1) < 192) ∧ 128 ≤ r) → Utf8.decode s i = (65533, 1)) := by
  have b1 := byt_lt s (i + 1)
  have e0 : (s.get! i).toNat = byt s i := rfl
  have e1 : (s.get! (i + 1)).toNat = byt s (i + 1) := rfl
  unfold Utf8.decode
  simp only [Nat.add_zero, e0, e1]
  rw [if_neg (by omega)]
  constructor
  · intro hc hl
    rw [if_pos (by simp [hc]; omega), if_pos (by omega)]
    exact Prod.ext (by simp; omega) rfl
  · intro hn
    by_cases hc : (i + 1 < s.size ∧ 128 ≤ byt s (i + 1) ∧ byt s (i + 1) < 192)
    · rw [if_pos (by simp [hc]; omega), if_neg (by omega)]
      rfl
    · rw [if_neg (by simp only [Bool.and_eq_true, decide_eq_true_eq, beq_iff_eq]; omega), if_neg (by simp; omega), if_neg (by simp; omega)]
      rfl

theorem valid_iff (r : Nat) (h : r ≤ 1114111) : Utf8.valid (r : Int) = decide (¬ (55296 ≤ r ∧ r ≤ 57343)) := by
  unfold Utf8.valid
  rw [Bool.eq_iff_iff]
  simp only [Bool.or_eq_true, Bool.and_eq_true, decide_eq_true_eq]
  omega

theorem dec3 (s : ByteArray) (i : Nat) (r : Int) (hr : r = 64 * (64 * ((byt s i : Int) - 224) + (byt s (i + 1) : Int) - 128) + (byt s (i + 2) : Int) - 128) (h : 224 ≤ byt s i) (h2 : byt s i < 240) :
    ((i + 1 < s.size ∧ 128 ≤ byt s (i + 1) ∧ byt s (i + 1) < 192) → (i + 2 < s.size ∧ 128 ≤ byt s (i + 2) ∧ byt s (i + 2) < 192) → 2048 ≤ r → ¬ (55296 ≤ r ∧ r ≤ 57343) → Utf8.decode s i = (r.toNat, 3)) ∧
    (¬ ((i + 1 < s.size ∧ 128 ≤ byt s (i + 1) ∧ byt s (i + 1) < 192) ∧ (i + 2 < s.size ∧ 128 ≤ byt s (i + 2) ∧ byt s (i + 2) < 192) ∧ 2048 ≤ r ∧ ¬ (55296 ≤ r ∧ r ≤ 57343)) → Utf8.decode s i = (65533, 1)) := by
  have b1 := byt_lt s (i + 1)
  have b2 := byt_lt s (i + 2)
  have e0 : (s.get! i).toNat = byt s i := rfl
  have e1 : (s.get! (i + 1)).toNat = byt s (i + 1) := rfl
  have e2 : (s.get! (i + 2)).toNat = byt s (i + 2) := rfl
  unfold Utf8.decode
  simp only [Nat.add_zero, e0, e1, e2]
  rw [if_neg (by omega), if_neg (by simp; omega)]
  constructor
  · intro hc hc2 hl hs
    rw [if_pos (by simp [hc, hc2]; omega), valid_iff _ (by omega), if_pos (by simp; omega)]
    exact Prod.ext (by simp; omega) rfl
  · intro hn
    by_cases hc : (i + 1 < s.size ∧ 128 ≤ byt s (i + 1) ∧ byt s (i + 1) < 192) ∧ (i + 2 < s.size ∧ 128 ≤ byt s (i + 2) ∧ byt s (i + 2) < 192)
    · rw [if_pos (by simp [hc]; omega), valid_iff _ (by omega), if_neg (by simp; omega)]
      rfl
    · rw [if_neg (by simp only [Bool.and_eq_true, decide_eq_true_eq, beq_iff_eq]; omega), if_neg (by simp; omega)]
      rfl

theorem dec4 (s : ByteArray) (i : Nat) (r : Int) (hr : r = 64 * (64 * (64 * ((byt s i : Int) - 240) + (byt s (i + 1) : Int) - 128) + (byt s (i + 2) : Int) - 128) + (byt s (i + 3) : Int) - 128) (h : 240 ≤ byt s i) (h2 : byt s i < 248) :
    ((i + 1 < s.size ∧ 128 ≤ byt s (i + 1) ∧ byt s (i + 1) < 192) → (i + 2 < s.size ∧ 128 ≤ byt s (i + 2) ∧ byt s (i + 2) < 192) → (i + 3 < s.size ∧ 128 ≤ byt s (i + 3) ∧ byt s (i + 3) < 192) → 65536 ≤ r → r ≤ 1114111 → Utf8.decode s i = (r.toNat, 4)) ∧
    (¬ ((i + 1 < s.size ∧ 128 ≤ byt s (i + 1) ∧ byt s (i + 1) < 192) ∧ (i + 2 < s.size ∧ 128 ≤ byt s (i + 2) ∧ byt s (i + 2) < 192) ∧ (i + 3 < s.size ∧ 128 ≤ byt s (i + 3) ∧ byt s (i + 3) < 192) ∧ 65536 ≤ r ∧ r ≤ 1114111) → Utf8.decode s i = (65533, 1)) := by
  have b1 := byt_lt s (i + 1)
  have b2 := byt_lt s (i + 2)
  have b3 := byt_lt s (i + 3)
  have e0 : (s.get! i).toNat = byt s i := rfl
  have e1 : (s.get! (i + 1)).toNat = byt s (i + 1) := rfl
  have e2 : (s.get! (i + 2)).toNat = byt s (i + 2) := rfl
  have e3 : (s.get! (i + 3)).toNat = byt s (i + 3) := rfl
  unfold Utf8.decode
  simp only [Nat.add_zero, e0, e1, e2, e3]
  rw [if_neg (by omega), if_neg (by simp; omega), if_neg (by simp; omega)]
  constructor
  · intro hc hc2 hc3 hl hs
    rw [if_pos (by simp [hc, hc2, hc3]; omega), valid_iff _ (by omega), if_pos (by simp; omega)]
    exact Prod.ext (by simp; omega) rfl
  · intro hn
    by_cases hc : (i + 1 < s.size ∧ 128 ≤ byt s (i + 1) ∧ byt s (i + 1) < 192) ∧ (i + 2 < s.size ∧ 128 ≤ byt s (i + 2) ∧ byt s (i + 2) < 192) ∧ (i + 3 < s.size ∧ 128 ≤ byt s (i + 3) ∧ byt s (i + 3) < 192)
    · rw [if_pos (by simp [hc]; omega), if_neg]
      · rfl
      · simp only [Utf8.valid, Bool.and_eq_true, Bool.or_eq_true, decide_eq_true_eq]
        omega
    · rw [if_neg (by simp only [Bool.and_eq_true, decide_eq_true_eq, beq_iff_eq]; omega)]
      rfl

theorem bad_sign (s : ByteArray) (i : Nat) (h : Utf8.decode s i = (65533, 1)) : okSign s i = false := by
  unfold okSign
  simp [h]

/-- The sign is not there as a whole. -/
theorem short_bad (s : ByteArray) (i n : Nat) (v least : Int) (hi : i < s.size) (hc : Class (byt s i) n v least) (h : s.size < i + n) : okSign s i = false := by
  apply bad_sign
  rcases hc with ⟨h1, rfl, rfl, rfl⟩ | ⟨h1, h2, rfl, rfl, rfl⟩ | ⟨h1, h2, rfl, rfl, rfl⟩ | ⟨h1, h2, rfl, rfl, rfl⟩
  · omega
  · exact (dec2 s i _ rfl h1 h2).2 (by omega)
  · exact (dec3 s i _ rfl h1 h2).2 (by omega)
  · exact (dec4 s i _ rfl h1 h2).2 (by omega)

/-- A byte of it doesn't go on. -/
theorem cont_bad (s : ByteArray) (i n k : Nat) (v least : Int) (hc : Class (byt s i) n v least) (hk : 1 ≤ k) (hkn : k < n) (h : byt s (i + k) < 128 ∨ 192 ≤ byt s (i + k)) : okSign s i = false := by
  apply bad_sign
  rcases hc with ⟨h1, rfl, rfl, rfl⟩ | ⟨h1, h2, rfl, rfl, rfl⟩ | ⟨h1, h2, rfl, rfl, rfl⟩ | ⟨h1, h2, rfl, rfl, rfl⟩
  · omega
  · obtain rfl : k = 1 := by omega
    exact (dec2 s i _ rfl h1 h2).2 (by omega)
  · refine (dec3 s i _ rfl h1 h2).2 ?_
    rcases (by omega : k = 1 ∨ k = 2) with rfl | rfl <;> omega
  · refine (dec4 s i _ rfl h1 h2).2 ?_
    rcases (by omega : k = 1 ∨ k = 2 ∨ k = 3) with rfl | rfl | rfl <;> omega

theorem no_class (s : ByteArray) (i : Nat) (h1 : ¬ byt s i < 128) (h2 : ¬ (192 ≤ byt s i ∧ byt s i < 224)) (h3 : ¬ (224 ≤ byt s i ∧ byt s i < 240)) (h4 : ¬ (240 ≤ byt s i ∧ byt s i < 248)) : okSign s i = false := by
  apply bad_sign
  exact dec_none s i (by omega) (by omega)

/-- Each byte of it goes on: what it tells decides. -/
theorem whole_sign (s : ByteArray) (i n : Nat) (v least : Int) (hi : i + n ≤ s.size) (hc : Class (byt s i) n v least) (h : ∀ k, 1 ≤ k → k < n → 128 ≤ byt s (i + k) ∧ byt s (i + k) < 192) :
    (Fine (pv s i v n) least → okSign s i = true ∧ (Utf8.decode s i).2 = n) ∧ (¬ Fine (pv s i v n) least → okSign s i = false) := by
  have key : ∀ r : Int, 0 ≤ r → Utf8.decode s i = (r.toNat, n) → (n = 1 → r < 128) → (¬ oddR r.toNat = true → okSign s i = true ∧ (Utf8.decode s i).2 = n) := by
    intro r h0 hd h1 ho
    refine ⟨?_, by rw [hd]⟩
    unfold okSign
    rw [hd]
    simp only [Bool.and_eq_true, Bool.not_eq_true', decide_eq_false_iff_not, Prod.mk.injEq]
    exact ⟨fun hh => by have := h1 hh.2; omega, by simpa using ho⟩
  have odd_iff : ∀ r : Int, 0 ≤ r → (oddR r.toNat = true ↔ (r < 32 ∨ r = 127 ∨ r = 92)) := by
    intro r h0
    unfold oddR
    simp only [Bool.or_eq_true, decide_eq_true_eq]
    omega
  have bad : ∀ r : Int, Utf8.decode s i = (r.toNat, n) → oddR r.toNat = true → okSign s i = false := by
    intro r hd ho
    unfold okSign
    rw [hd]
    simp [ho]
  rcases hc with ⟨h1, rfl, rfl, rfl⟩ | ⟨h1, h2, rfl, rfl, rfl⟩ | ⟨h1, h2, rfl, rfl, rfl⟩ | ⟨h1, h2, rfl, rfl, rfl⟩
  · have hd : Utf8.decode s i = (((byt s i : Nat) : Int).toNat, 1) := by rw [dec1 s i h1]; rfl
    have e : pv s i (byt s i) 1 = byt s i := rfl
    rw [e]
    refine ⟨fun hf => key _ (by omega) hd (fun _ => by omega) ?_, fun hf => bad _ hd ?_⟩
    · rw [odd_iff _ (by omega)]; unfold Fine at hf; omega
    · rw [odd_iff _ (by omega)]; unfold Fine at hf; omega
  · have hb := h 1 (by omega) (by omega)
    obtain ⟨r, hr⟩ : ∃ r, pv s i (byt s i - 192) 2 = r := ⟨_, rfl⟩
    have hrr : r = 64 * ((byt s i : Int) - 192) + (byt s (i + 1) : Int) - 128 := hr.symm
    have hd := dec2 s i r hrr h1 h2
    rw [hr]
    by_cases hl : 128 ≤ r
    · replace hd := hd.1 ⟨by omega, hb⟩ hl
      refine ⟨fun hf => key _ (by omega) hd (fun _ => by omega) ?_, fun hf => bad _ hd ?_⟩
      · rw [odd_iff _ (by omega)]; unfold Fine at hf; omega
      · rw [odd_iff _ (by omega)]; unfold Fine at hf; omega
    · replace hd := hd.2 (fun h => hl h.2)
      exact ⟨fun hf => absurd hf.1 (by omega), fun _ => bad_sign s i hd⟩
  · have hb := h 1 (by omega) (by omega)
    have hb2 := h 2 (by omega) (by omega)
    obtain ⟨r, hr⟩ : ∃ r, pv s i (byt s i - 224) 3 = r := ⟨_, rfl⟩
    have hrr : r = 64 * (64 * ((byt s i : Int) - 224) + (byt s (i + 1) : Int) - 128) + (byt s (i + 2) : Int) - 128 := hr.symm
    have hd := dec3 s i r hrr h1 h2
    rw [hr]
    by_cases hl : 2048 ≤ r ∧ ¬ (55296 ≤ r ∧ r ≤ 57343)
    · replace hd := hd.1 ⟨by omega, hb⟩ ⟨by omega, hb2⟩ hl.1 hl.2
      refine ⟨fun hf => key _ (by omega) hd (fun _ => by omega) ?_, fun hf => bad _ hd ?_⟩
      · rw [odd_iff _ (by omega)]; unfold Fine at hf; omega
      · rw [odd_iff _ (by omega)]; unfold Fine at hf; omega
    · replace hd := hd.2 (fun h => hl h.2.2)
      exact ⟨fun hf => absurd hf (by unfold Fine; omega), fun _ => bad_sign s i hd⟩
  · have hb := h 1 (by omega) (by omega)
    have hb2 := h 2 (by omega) (by omega)
    have hb3 := h 3 (by omega) (by omega)
    obtain ⟨r, hr⟩ : ∃ r, pv s i (byt s i - 240) 4 = r := ⟨_, rfl⟩
    have hrr : r = 64 * (64 * (64 * ((byt s i : Int) - 240) + (byt s (i + 1) : Int) - 128) + (byt s (i + 2) : Int) - 128) + (byt s (i + 3) : Int) - 128 := hr.symm
    have hd := dec4 s i r hrr h1 h2
    rw [hr]
    by_cases hl : 65536 ≤ r ∧ r ≤ 1114111
    · replace hd := hd.1 ⟨by omega, hb⟩ ⟨by omega, hb2⟩ ⟨by omega, hb3⟩ hl.1 hl.2
      refine ⟨fun hf => key _ (by omega) hd (fun _ => by omega) ?_, fun hf => bad _ hd ?_⟩
      · rw [odd_iff _ (by omega)]; unfold Fine at hf; omega
      · rw [odd_iff _ (by omega)]; unfold Fine at hf; omega
    · replace hd := hd.2 (fun h => hl h.2.2.2)
      exact ⟨fun hf => absurd hf (by unfold Fine; omega), fun _ => bad_sign s i hd⟩

/-- Is a text, from a place on, right UTF-8 of signs that may be? -/
def goodGo : Nat → ByteArray → Nat → Bool
  | 0, _, _ => true
  | f + 1, s, i => if i < s.size then (if okSign s i then goodGo f s (i + (Utf8.decode s i).2) else false) else true
def goodB (s : ByteArray) : Bool := goodGo s.size s 0

end Go.Proofs.YtehhoigedniglaaDoor.Nm
