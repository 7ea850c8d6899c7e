/-
  Names: Dirs tells the directories that the names are in, each once, rising.
-/
import Derived.Test.YtndfffningdcgaaDoorNmListsWalk
import Derived.Test.YtndfffningdcgaaDoorIter
import Derived.Maps.OwnSet
namespace Go.Proofs.YtndfffningdcgaaDoor.Nm
open Go.RowKit Go.Shelf
set_option linter.unusedVariables false
set_option linter.unusedSimpArgs false

def fineTo (xs : List ByteArray) (k : Nat) : List ByteArray := (xs.take k).filter checkB
def fineN (xs : List ByteArray) (k : Nat) : List (List UInt8) := (fineTo xs k).map fun x => x.toList
def fineD (xs : List ByteArray) (k : Nat) : List (List UInt8) := (fineTo xs k).flatMap fun x => dirsOf x.toList
theorem fine_yes (xs : List ByteArray) (k : Nat) (h : k < xs.length) (hc : checkB xs[k] = true) : fineN xs (k + 1) = fineN xs k ++ [xs[k].toList] ∧ fineD xs (k + 1) = fineD xs k ++ dirsOf xs[k].toList := by
  unfold fineN fineD fineTo
  rw [List.take_succ_eq_append_getElem h, List.filter_append]
  simp [hc]
theorem fine_no (xs : List ByteArray) (k : Nat) (h : k < xs.length) (hc : checkB xs[k] = false) : fineN xs (k + 1) = fineN xs k ∧ fineD xs (k + 1) = fineD xs k := by
  unfold fineN fineD fineTo
  rw [List.take_succ_eq_append_getElem h, List.filter_append]
  simp [hc]

/-- What Dirs tells. -/
def DsOk (xs : List ByteArray) (ds : List (List UInt8)) : Prop :=
  ds.Pairwise (· < ·) ∧ ∀ d, d ∈ ds ↔ ∃ x ∈ xs, checkB x = true ∧ d ∈ dirsOf x.toList

theorem ds_of {H : Type} {D : DataW H} {w : World} {b n : Nat} {R : Value → Option (DataW H × List MemPlace)} (ho : w.ownsMap Tryd.prog 9 R b n D) {xs : List ByteArray} (hm : ∀ k, Go.Maps.has D (.string k) = decide (k ∈ fineD xs xs.length))
    {ss : List (List UInt8)} (hp : ss.Perm (strKeys D)) : DsOk xs (ss.mergeSort (fun x y => decide (x ≤ y))) := by
  obtain ⟨es, rfl, hpw, -⟩ := ho.entries keyedStr
  obtain ⟨es', he, hko⟩ := ho.keysOf
  obtain rfl : es = es' := by simpa using he
  have hk : ∀ p ∈ es, ∃ x, p.1 = .string x := fun p hp => by
    obtain ⟨v, hv⟩ := hko p hp
    obtain ⟨x, _, hx, _⟩ := Maps.keyOf_str Tryd.underlying9 hv
    exact ⟨x, hx⟩
  have hnd : (strKeys (.map es)).Nodup := by
    show (es.map fun p => strOf p.1).Nodup
    refine List.pairwise_map.2 (hpw.imp_of_mem fun {p q} hp' hq' hne e => hne ?_)
    obtain ⟨a, ha⟩ := hk p hp'
    obtain ⟨b, hb⟩ := hk q hq'
    rw [ha, hb] at e ⊢
    exact congrArg _ e
  have hmem : ∀ x, x ∈ strKeys (.map es) ↔ Go.Maps.has (.map es) (.string x) = true := fun x => by
    rw [Go.Maps.has_eq, List.any_eq_true]
    show x ∈ es.map (fun p => strOf p.1) ↔ _
    rw [List.mem_map]
    constructor
    · rintro ⟨p, hp', rfl⟩
      obtain ⟨a, ha⟩ := hk p hp'
      exact ⟨p, hp', by rw [ha]; simp [Lit.sameKey, strOf]⟩
    · rintro ⟨p, hp', hs⟩
      obtain ⟨a, ha⟩ := hk p hp'
      rw [ha] at hs
      exact ⟨p, hp', by rw [ha]; simpa [Lit.sameKey, strOf] using hs⟩
  have hperm := List.mergeSort_perm ss (fun x y => decide (x ≤ y))
  refine ⟨?_, fun d => ?_⟩
  · have tr : ∀ a b c : List UInt8, decide (a ≤ b) = true → decide (b ≤ c) = true → decide (a ≤ c) = true := fun a b c h1 h2 => by simp only [decide_eq_true_eq] at *; exact List.le_trans h1 h2
    have tot : ∀ a b : List UInt8, (decide (a ≤ b) || decide (b ≤ a)) = true := fun a b => by simp only [Bool.or_eq_true, decide_eq_true_eq]; exact List.le_total a b
    have s1 := List.pairwise_mergeSort tr tot ss
    have s2 : (ss.mergeSort (fun x y => decide (x ≤ y))).Nodup := (hperm.trans hp).nodup_iff.2 hnd
    refine (s1.and s2).imp fun {a b} h => ?_
    obtain ⟨h1, h2⟩ := h
    simp only [decide_eq_true_eq] at h1
    by_cases h : a < b
    · exact h
    · exact absurd (List.le_antisymm h1 (List.not_lt.1 h)) h2
  · rw [(hperm.trans hp).mem_iff, hmem, hm, decide_eq_true_eq]
    unfold fineD fineTo
    rw [List.take_length]
    simp only [List.mem_flatMap, List.mem_filter]
    constructor
    · rintro ⟨x, ⟨h1, h2⟩, h3⟩; exact ⟨x, h1, h2, h3⟩
    · rintro ⟨x, h1, h2, h3⟩; exact ⟨x, ⟨h1, h2⟩, h3⟩

set_option maxHeartbeats 2000000 in
set_option maxRecDepth 100000 in
theorem dirs_calls (A : Option Addr) (c : Nat) (xs : List ByteArray) (w : World) (hT : Tabs w) (hlen : xs.length ≤ 1000) (hxs : ∀ x ∈ xs, x.size ≤ 140737488351232)
    (hA : ∀ j (h : j < xs.length), ∃ b o, A = some ⟨b, o, none⟩ ∧ w.cell? ⟨b, o + j, none⟩ = some (.string xs[j])) :
    Calls Tryd.prog 19 #[.slice A xs.length c] w fun e w' => ∃ v ds, e = .returned v ∧ DsOk xs ds ∧ w'.ownsRow w.heap.size 9 1 v ds.length (ds.map Go.Proofs.encStr) ∧ Below w.heap.size w w' := by
  have hmm := @run_makeMap Tryd.prog
  have HC := Lib.hid hA
  have HX := Lib.hid hxs
  have HTa : Hid (∀ wx, Below w.heap.size w wx → Tabs wx) := Lib.hid (fun wx h => hT.below h)
  have S0 := Lib.hid (seen_start w)
  have B0 := Lib.hid (seen_below w)
  clear hA hxs hT
  go_enter Tryd.func19, Tryd.ntmps19
  go_wp2
  clear hmm
  go_loopw [12] (fun i wr => ∃ k : Nat, k ≤ xs.length ∧ i = .int .i64 k ∧ SeenAt wr (w.heap.size + 2) w.heap.size (w.heap.size + 1) k (k * 65536) (fineN xs k) (fineD xs k) ∧ Below w.heap.size w wr) (fun i _ => xs.length - (intOf i).toNat)
  case atStart => exact ⟨0, Nat.zero_le _, rfl, S0.out, B0.out⟩
  case round =>
    obtain ⟨k, hk, rfl, hs, hb⟩ := hrel
    have HS := Lib.hid hs
    have HB := Lib.hid hb
    have hTr := HTa.out wr hb
    clear hs hb S0 B0
    by_cases hlt : k < xs.length
    · have q1 : decide ((k : Int) < (xs.length : Int)) = true := decide_eq_true (by omega)
      obtain ⟨b, o, rfl, hcell⟩ := HC.out k hlt
      have hcr : wr.cell? ⟨b, o + k, none⟩ = some (.string xs[k]) := (HB.out.cell (World.block_lt_of_cell? w _ hcell)).trans hcell
      have hsz := HX.out xs[k] (List.getElem_mem hlt)
      obtain ⟨s, hsk⟩ : ∃ s, s = xs[k] := ⟨_, rfl⟩
      rw [← hsk] at hcr hsz
      have HSK := Lib.hid hsk
      clear hsk hcell
      cases hc : checkB s with
      | false =>
        have HF := Lib.hid (fine_no xs k hlt (by rw [← HSK.out]; exact hc))
        have v1 : errN false = 9 := rfl
        go_wp2_with (go_at_call 9; refine (check_calls _ _ hsz hTr).mono ?_; rintro e w3 ⟨rfl, hb⟩; replace HS := Lib.hid (HS.out.below hb); replace HB := Lib.hid (HB.out.trans (hb.mono HB.out.size)); clear hb)
        go_roundw
        case rel => exact ⟨k + 1, by omega, by go_num, by rw [HF.out.1, HF.out.2]; exact HS.out.mono (by omega) (by omega), HB.out⟩
        case measure => simp [intOf]; omega
      | true =>
        have v1 : errN true = 0 := rfl
        have hs5 : s.size ≤ 65535 := by
          unfold checkB at hc
          simp only [Bool.and_eq_true, decide_eq_true_eq] at hc
          exact hc.1.1.2
        have HF := Lib.hid (fine_yes xs k hlt (by rw [← HSK.out]; exact hc))
        go_wp2_with (first | (go_at_call 9; refine (check_calls _ _ hsz hTr).mono ?_; rintro e w3 ⟨rfl, hb⟩; replace HS := Lib.hid (HS.out.below hb); replace HB := Lib.hid (HB.out.trans (hb.mono HB.out.size)); clear hb) | (go_at_call 27; refine (add_calls _ _ _ _ _ _ _ _ _ hsz HS.out (by unfold maxLen; omega) (by unfold maxLen; omega)).mono ?_; rintro e w5 ⟨rfl, hs9, ht9⟩; replace HB := Lib.hid (HB.out.trans (ht9.below HB.out.size (fun k hk => by omega))); replace HS := Lib.hid hs9; clear hs9 ht9))
        go_roundw
        case rel => exact ⟨k + 1, by omega, by go_num, by rw [HF.out.1, HF.out.2, ← HSK.out]; exact HS.out.mono (by omega) (by omega), HB.out⟩
        case measure => simp [intOf]; omega
    · obtain rfl : k = xs.length := by omega
      have c1 := HS.out.c1
      obtain ⟨D, d1, d2, d3⟩ := HS.out.dirs
      have hz := d1.size_le
      have HK := Lib.hid (Go.callsIn_wide.1 (Tryd.maps_Keys_31 (some (w.heap.size + 1)) wr))
      have HSo := Lib.hid (Go.callsIn_wide.1 (Tryd.slices_Sorted_keys_30_31 _ _ D _ wr d1 (by unfold maxLen; omega) (by omega)))
      have HD := Lib.hid (fun ss => ds_of d1 (fun k => (d3 k).2) (ss := ss))
      clear d1 d2 d3 hz
      go_wp2_with fail
      refine HK.out.mono ?_
      rintro e w6 ⟨rfl, rfl⟩
      go_wp2_with fail
      refine HSo.out.mono ?_
      rintro e w7 ⟨v, ss, rfl, hS, hrow, hnil, hb⟩
      have HF := Lib.hid (HD.out ss hS)
      have HR := Lib.hid hrow
      have H7 := Lib.hid ((HB.out.alloc HB.out.size (.cells #[.map (some (w.heap.size + 1))] 45)).trans (hb.mono (HB.out.alloc HB.out.size (.cells #[.map (some (w.heap.size + 1))] 45)).size))
      clear hS hrow hnil hb
      go_wp2
      go_ret
      exact ⟨_, _, rfl, HF.out, by rw [List.length_mergeSort]; exact ⟨HR.out.1, HR.out.2.imp id (fun ⟨g, cap, cur, h1, h2, h3⟩ => ⟨g, cap, cur, h1, Nat.le_trans (by have := HB.out.size; simp; omega) h2, h3⟩)⟩, H7.out⟩
end Go.Proofs.YtndfffningdcgaaDoor.Nm
