/-
  ZipBack's walk, for the arguments as they come.
-/
import Derived.Test.YtehhoigedniglaaDoorZpBackWalk
namespace Go.Proofs.YtehhoigedniglaaDoor.Zp
open Go.RowKit Go.Shelf Go.Proofs.YtehhoigedniglaaDoor.Nm

theorem wfk {k : IntKind} {a : Int} (h : (Lit.int k a).wf = true) : k.min ≤ a ∧ a ≤ k.max := by simpa [Lit.wf] using h

theorem back_any (name : ByteArray) (tm packed size sum pos : Int) (kept : Bool) (more : ByteArray) (cut : Int) (w : World) (z : name.size ≤ 140737488351232) (w1 : (Lit.int .i64 tm).wf = true) (w2 : (Lit.int .u64 packed).wf = true) (w3 : (Lit.int .u64 size).wf = true) (w4 : (Lit.int .u32 sum).wf = true) (w5 : (Lit.int .u64 pos).wf = true)
    (zm : more.size ≤ 140737488351232) (w6 : (Lit.int .i64 cut).wf = true) (hT : Tabs w) :
    Calls Tryd.prog 5 #[.agg #[.string name, .int .i64 tm, .int .u64 packed, .int .u64 size, .int .u32 sum, .int .u64 pos, .bool kept], .string more, .int .i64 cut] w fun e w' => e = .returned (.bool true) ∧ Below w.heap.size w w' := by
  have v1 := wfk w1
  have v2 := wfk w2
  have v3 := wfk w3
  have v4 := wfk w4
  have v5 := wfk w5
  have v6 := wfk w6
  have m1 : IntKind.i64.min = -9223372036854775808 := rfl
  have m2 : IntKind.i64.max = 9223372036854775807 := rfl
  have m3 : IntKind.u64.min = 0 := rfl
  have m4 : IntKind.u64.max = 18446744073709551615 := rfl
  have m5 : IntKind.u32.min = 0 := rfl
  have m6 : IntKind.u32.max = 4294967295 := rfl
  exact back_walk name tm packed size sum pos kept more cut w z zm (by omega) (by omega) (by omega) (by omega) (by omega) (by omega) (by omega) hT
end Go.Proofs.YtehhoigedniglaaDoor.Zp
