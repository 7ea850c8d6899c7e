/-
  How a law's arguments that are slices are read: slices of texts and of whole numbers. Plain: over any program.
-/
import Derived.ProofKit
import Derived.SizedLaws
import Derived.SliceStrings
import Derived.ChangeSlices
import Derived.Carry
namespace Go.Proofs.YtmpokiflhijnoaaDoor.Fa
open Go Go.ChangeShapes Go.WideShapes Go.ChangeAt Go.RowKit

/-- A slice value that reads as texts. -/
def StrsOf (w : World) (v : Value) (xs : List ByteArray) : Prop :=
  (∃ a c, v = .slice a 0 c ∧ xs = [] ∧ (a = none → c = 0) ∧ c ≤ 140737488351232) ∨
  (∃ b o c, v = .slice (some ⟨b, o, none⟩) xs.length c ∧ 0 < xs.length ∧ xs.length ≤ c ∧ c ≤ 140737488351232 ∧ b < w.heap.size ∧ ∀ j (h : j < xs.length), w.cell? ⟨b, o + j, none⟩ = some (.string xs[j]))

/-- .. as whole numbers of a kind. -/
def IntsOf (w : World) (k : IntKind) (v : Value) (xs : List Int) : Prop :=
  (∃ a c, v = .slice a 0 c ∧ xs = [] ∧ (a = none → c = 0) ∧ c ≤ 140737488351232) ∨
  (∃ b o c, v = .slice (some ⟨b, o, none⟩) xs.length c ∧ 0 < xs.length ∧ xs.length ≤ c ∧ c ≤ 140737488351232 ∧ b < w.heap.size ∧ ∀ j (h : j < xs.length), w.cell? ⟨b, o + j, none⟩ = some (.int k xs[j]))

theorem mem_weightsAll {H : Type} {P : Program} {e : TypeId} : ∀ {l : List (DataW H)} {d : DataW H}, d ∈ l → ∀ n ∈ d.weights P e, n ∈ DataW.weightsAll P e l
  | x :: l, d, hd, n, hn => by
    unfold DataW.weightsAll
    rw [List.mem_append]
    rcases List.mem_cons.1 hd with rfl | h
    · exact .inl hn
    · exact .inr (mem_weightsAll h n hn)

section
variable {H : Type} {enc : TypeId × Value → H} {P : Program} {w : World}

theorem strs_open {ts : List TypeId} {ds : List (DataW H)} {j t e : Nat} {a0 : Option Addr} {len cap : Nat} {d : DataW H} {ps : List MemPlace}
    (ht : P.underlying t = some (.slice e)) (he : P.underlying e = some .string) (hc : P.cellsOf e = 1) (hby : P.bytesOf e = 16)
    (h : DataW.Trod enc P w 0 (fun _ => true) true t (.slice a0 len cap) d ps) (hlt : ∀ x ∈ ps, x.block < w.heap.size)
    (hsz : (DataW.weightsEach P ts ds).all (· ≤ reachBytes) = true) (hj : ts[j]? = some t) (hd : ds[j]? = some d) :
    ∃ xs, StrsOf w (.slice a0 len cap) xs ∧ ∀ x ∈ xs, x.size ≤ 140737488351232 := by
  obtain ⟨fuel, hf⟩ := h
  rcases open_strings ht he hc hf with ⟨hcs, hx⟩ | ⟨a, len', cap', ss, hcs, _, hl, hm, hz, hx, hcell, hws⟩
  · simp [Value.cells] at hcs
    obtain ⟨rfl, rfl, rfl⟩ := hcs
    exact ⟨[], .inl ⟨none, 0, rfl, rfl, fun _ => rfl, by omega⟩, fun x hx => by cases hx⟩
  · simp [Value.cells] at hcs
    obtain ⟨rfl, rfl, rfl⟩ := hcs
    simp only [Prod.mk.injEq] at hx
    obtain ⟨rfl, rfl⟩ := hx
    simp only [if_true] at hz
    have hreach := sized_slice hsz hj hd ht
    rw [hby] at hreach
    simp only [strs, List.length_map, List.length_take, List.length_drop, reachBytes] at hreach
    have hcb : cap ≤ 140737488351232 := by omega
    refine ⟨ss.take len, ?_, fun x hx => ?_⟩
    · by_cases hl0 : len = 0
      · subst hl0
        exact .inl ⟨_, _, rfl, by simp, fun h => (by cases h), hcb⟩
      · obtain ⟨b, off, spot⟩ := a
        have hspot : spot = none := by simpa [Addr.add] using World.cell?_spot (hcell 0 (by omega))
        subst hspot
        have hlen : (ss.take len).length = len := by rw [List.length_take]; omega
        have hb : b < w.heap.size := hlt (.cell b off) (MemPlace.mem_row.2 ⟨0, by omega, by simp⟩)
        refine .inr ⟨b, off, cap, by rw [hlen], by omega, by omega, hcb, hb, fun j hj => ?_⟩
        rw [hlen] at hj
        have := hcell j (by omega)
        have hadd : (⟨b, off, none⟩ : Addr).add j = ⟨b, off + j, none⟩ := by unfold Addr.add; split <;> simp_all
        rw [hadd] at this
        rw [this]
        congr 2
        rw [List.getElem_take, List.getD_eq_getElem?_getD, List.getElem?_eq_getElem (by omega)]
        rfl
    · have hm : x.data.toList.length ∈ (DataW.slice (strs (H := H) (ss.take len)) (strs (ss.drop len))).weights P t := by
        simp only [DataW.weights, ht]
        rw [List.mem_cons, List.mem_append]
        refine .inr (.inl (mem_weightsAll (d := .lit (.string x.data.toList)) ?_ _ (by simp [DataW.weights])))
        exact List.mem_map.2 ⟨x, hx, rfl⟩
      have := List.all_eq_true.1 hsz _ (DataW.weights_mem_each hj hd _ hm)
      exact of_decide_eq_true this

theorem ints_open {ts : List TypeId} {ds : List (DataW H)} {j t e : Nat} {k : IntKind} {a0 : Option Addr} {len cap bytes : Nat} {d : DataW H} {ps : List MemPlace}
    (ht : P.underlying t = some (.slice e)) (he : P.underlying e = some (.int k)) (hc : P.cellsOf e = 1) (hby : P.bytesOf e = bytes) (hby1 : 1 ≤ bytes)
    (h : DataW.Trod enc P w 0 (fun _ => true) true t (.slice a0 len cap) d ps) (hlt : ∀ x ∈ ps, x.block < w.heap.size)
    (hsz : (DataW.weightsEach P ts ds).all (· ≤ reachBytes) = true) (hj : ts[j]? = some t) (hd : ds[j]? = some d) :
    ∃ xs, IntsOf w k (.slice a0 len cap) xs ∧ (∀ x ∈ xs, (Lit.int k x).wf = true) ∧ cap * bytes ≤ 140737488351232 := by
  obtain ⟨fuel, hf⟩ := h
  rcases open_ints ht he hc hf with ⟨hcs, hx⟩ | ⟨a, len', cap', ss, hcs, _, hl, hm, hz, hx, hcell, hws⟩
  · simp [Value.cells] at hcs
    obtain ⟨rfl, rfl, rfl⟩ := hcs
    exact ⟨[], .inl ⟨none, 0, rfl, rfl, fun _ => rfl, by omega⟩, (fun x hx => by cases hx), by omega⟩
  · simp [Value.cells] at hcs
    obtain ⟨rfl, rfl, rfl⟩ := hcs
    simp only [Prod.mk.injEq] at hx
    obtain ⟨rfl, rfl⟩ := hx
    simp only [if_true] at hz
    have hreach := sized_slice hsz hj hd ht
    rw [hby] at hreach
    simp only [lits, List.length_map, List.length_take, List.length_drop, reachBytes] at hreach
    have hcb : cap * bytes ≤ 140737488351232 := by
      have e1 : min len ss.length + (ss.length - len) = cap := by omega
      rw [e1] at hreach
      omega
    have hcb1 : cap ≤ 140737488351232 := Nat.le_trans (Nat.le_mul_of_pos_right cap hby1) hcb
    refine ⟨ss.take len, ?_, fun x hx => hws x (List.mem_of_mem_take hx), hcb⟩
    by_cases hl0 : len = 0
    · subst hl0
      exact .inl ⟨_, _, rfl, by simp, fun h => (by cases h), hcb1⟩
    · obtain ⟨b, off, spot⟩ := a
      have hspot : spot = none := by simpa [Addr.add] using World.cell?_spot (hcell 0 (by omega))
      subst hspot
      have hlen : (ss.take len).length = len := by rw [List.length_take]; omega
      have hb : b < w.heap.size := hlt (.cell b off) (MemPlace.mem_row.2 ⟨0, by omega, by simp⟩)
      refine .inr ⟨b, off, cap, by rw [hlen], by omega, by omega, hcb1, hb, fun j hj => ?_⟩
      rw [hlen] at hj
      have := hcell j (by omega)
      have hadd : (⟨b, off, none⟩ : Addr).add j = ⟨b, off + j, none⟩ := by unfold Addr.add; split <;> simp_all
      rw [hadd] at this
      rw [this]
      congr 2
      rw [List.getElem_take, List.getD_eq_getElem?_getD, List.getElem?_eq_getElem (by omega)]
      rfl
end

end Go.Proofs.YtmpokiflhijnoaaDoor.Fa
