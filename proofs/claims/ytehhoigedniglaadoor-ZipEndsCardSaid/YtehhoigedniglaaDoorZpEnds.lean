/-
  ZipEnds' walk: any archive's end.
-/
import Derived.Test.YtehhoigedniglaaDoorZpSpeak
import Derived.Test.YtehhoigedniglaaDoorZpRefEnd2
namespace Go.Proofs.YtehhoigedniglaaDoor.Zp
open Go.RowKit Go.Shelf Go.Proofs.YtehhoigedniglaaDoor.Nm
set_option linter.unusedVariables false

theorem u64_wf {a : Int} (h : (Lit.int .u64 a).wf = true) : 0 ≤ a ∧ a < 18446744073709551616 := by
  have h' : IntKind.u64.min ≤ a ∧ a ≤ IntKind.u64.max := by simpa [Lit.wf] using h
  have e1 : IntKind.u64.min = 0 := rfl
  have e2 : IntKind.u64.max = 18446744073709551615 := rfl
  omega

set_option maxRecDepth 100000 in
theorem ends_any (c z a : Int) (w : World) (wc : (Lit.int .u64 c).wf = true) (wz : (Lit.int .u64 z).wf = true) (wa : (Lit.int .u64 a).wf = true) (hT : Tabs w) :
    Calls Tryd.prog 3 #[.int .u64 c, .int .u64 z, .int .u64 a] w fun e w' => e = .returned (.bool true) ∧ Below w.heap.size w w' := by
  have hc := u64_wf wc
  have hz := u64_wf wz
  have ha := u64_wf wa
  have H1 := Lib.hid (fun W => end_calls c z a W hc.1 hc.2 hz.1 hz.2 ha.1 ha.2)
  have H2 := Lib.hid (fun W => refend_calls c z a W hc.1 hc.2 hz.1 hz.2 ha.1 ha.2)
  generalize endS c z a = S at *
  clear wc wz wa
  go_enter Tryd.func3, Tryd.ntmps3
  go_wp2_with fail
  refine (speaks_calls _ hT).mono ?_
  rintro e w1 ⟨rfl, hb1⟩
  go_wp2_with fail
  refine (H1.out _).mono ?_
  rintro e w2 ⟨rfl, hb2⟩
  have B2 := hb1.trans (hb2.mono hb1.size)
  clear hb1 hb2
  go_wp2_with fail
  refine (H2.out _).mono ?_
  rintro e w3 ⟨rfl, hb3⟩
  have B3 := Lib.hid (B2.trans (hb3.mono B2.size))
  clear B2 hb3
  go_wp2
  go_ret
  exact ⟨by simp, B3.out⟩
end Go.Proofs.YtehhoigedniglaaDoor.Zp
