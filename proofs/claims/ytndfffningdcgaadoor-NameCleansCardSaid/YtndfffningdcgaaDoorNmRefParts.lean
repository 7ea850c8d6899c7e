/-
  Names: the reference's Parts answers the parts, in a row of its own.
-/
import Derived.Test.YtndfffningdcgaaDoorNmSplit
import Derived.OwnWalk
import Derived.Maps.AppendAt
import Derived.Laws.OwnMore
namespace Go.Proofs.YtndfffningdcgaaDoor.Nm
open Go.RowKit Go.Shelf
set_option linter.unusedVariables false
set_option linter.unusedSimpArgs false

theorem Tryd.infoStr : (Tryd.prog.info? 9).map (fun i => (i.zero, i.size, i.bytes)) = some (some (.string ⟨#[]⟩), 1, 16) := by kernel_rfl

def strVs (l : List (List UInt8)) : List Value := l.map strV
theorem strVs_snoc (l : List (List UInt8)) (x : List UInt8) : strVs (l ++ [x]) = strVs l ++ [strV x] := by simp [strVs]

theorem splitGo_slash (cur t : List UInt8) : splitGo cur (47 :: t) = cur :: splitGo [] t := by simp [splitGo]
theorem splitGo_other (cur t : List UInt8) (c : UInt8) (h : c ≠ 47) : splitGo cur (c :: t) = splitGo (cur ++ [c]) t := by simp [splitGo, h]

set_option maxHeartbeats 1000000 in
set_option maxRecDepth 100000 in
theorem refparts_calls (s : ByteArray) (w : World) (hs : s.size ≤ 1000000) :
    Calls Tryd.prog 18 #[.string s] w fun e w' => ∃ v, e = .returned v ∧ w'.ownsRow w.heap.size 9 1 v (parts s.toList).length (strVs (parts s.toList)) ∧ Below w.heap.size w w' := by
  obtain ⟨i0, hi, hz0, hz1, hz2⟩ := info_parts Tryd.infoStr
  obtain ⟨XS, hXS⟩ : ∃ XS, XS = parts s.toList := ⟨_, rfl⟩
  rw [← hXS]
  have HXS := Lib.hid hXS
  clear hXS
  go_enter Tryd.func18, Tryd.ntmps18
  go_wp2
  go_loopw [3, 4, 5] (fun v p i wr => ∃ (k : Nat) (cur : ByteArray) (done : List (List UInt8)), k ≤ s.size ∧ p = .string cur ∧ i = .int .i64 k ∧ cur.size ≤ k ∧ done.length ≤ k ∧ XS = done ++ splitGo cur.toList (s.toList.drop k) ∧
    wr.ownsRow w.heap.size 9 1 v done.length (strVs done) ∧ Below w.heap.size w wr) (fun _ _ i _ => s.size - (intOf i).toNat)
  case atStart => exact ⟨0, ⟨#[]⟩, [], Nat.zero_le _, rfl, rfl, by rw [emp_size]; omega, Nat.zero_le _, by rw [HXS.out, emp_toList]; rfl, World.ownsRow_nil _ _ _ _, Below.refl _ _⟩
  case round =>
    obtain ⟨k, cur, done, hk, rfl, rfl, hcs, hdl, hx, hown, hb⟩ := hrel
    have HX := Lib.hid hx
    have HB := Lib.hid hb
    have hB1 := hb.size
    clear hx hb
    by_cases hlt : k < s.size
    · have q1 : decide ((k : Int) < (s.size : Int)) = true := decide_eq_true (by omega)
      have HD := Lib.hid (drop_at s k hlt)
      by_cases h47 : s[k] = 47
      · have q2 : ((s[k].toNat : Int) == 47) = true := by rw [h47]; rfl
        have HE : Hid (splitGo cur.toList (s.toList.drop k) = cur.toList :: splitGo [] (s.toList.drop (k + 1))) := Lib.hid (by rw [HD.out, h47]; exact splitGo_slash _ _)
        clear h47
        go_wp2_with (at_builtin; refine wpList_append_own _ rfl _ _ 29 rfl w.heap.size 9 i0 (.string ⟨#[]⟩) 1 16 Tryd.underlying29 hi hz0 hz1 hz2 rfl (by decide) _ _ _ rfl (hown.alloc _) ⟨wr.heap.size, 0, none⟩ 1 1 [.string cur] rfl rfl ?c1 ?c2 ?c3 ?c4 ?c5 ?_)
        case c1 => exact cell_one_new _ _ _
        case c2 => simp [Value.oneCell']
        case c3 => unfold maxLen; omega
        case c4 => omega
        case c5 => simp; omega
        intro v' w1 hown1 hg1 _
        have HO : Hid (w1.ownsRow w.heap.size 9 1 v' (done ++ [cur.toList]).length (strVs (done ++ [cur.toList]))) := Lib.hid (by rw [strVs_snoc, strV_toList, List.length_append]; exact hown1)
        have HB2 : Hid (Below w.heap.size w w1) := Lib.hid ((HB.out.alloc hB1 _).grown hg1 (by simp; omega) (fun r e => (hown.lt r e).1))
        clear hown hown1 hg1
        go_wp2
        go_roundw
        case rel => exact ⟨k + 1, ⟨#[]⟩, done ++ [cur.toList], by omega, rfl, by go_num, by rw [emp_size]; omega, by rw [List.length_append, List.length_singleton]; omega, by rw [HX.out, HE.out, emp_toList]; simp, HO.out, HB2.out⟩
        case measure => simp [intOf]; omega
      · have q2 : ((s[k].toNat : Int) == 47) = false := by
          rw [beq_eq_false_iff_ne]
          intro h
          exact h47 (UInt8.toNat_inj.1 (show s[k].toNat = 47 by omega))
        have HE := Lib.hid (push_one cur s k hlt)
        have HF : Hid (splitGo cur.toList (s.toList.drop k) = splitGo (cur.toList ++ [s[k]]) (s.toList.drop (k + 1))) := Lib.hid (by rw [HD.out, splitGo_other _ _ _ h47])
        have HO := Lib.hid hown
        clear h47 hown
        go_wp2
        go_roundw
        case rel => exact ⟨k + 1, cur ++ s.extract k (k + 1), done, by omega, rfl, by go_num, by rw [HE.out.2]; omega, by omega, by rw [HX.out, HF.out, HE.out.1], HO.out, HB.out⟩
        case measure => simp [intOf]; omega
    · have HE : Hid (XS = done ++ [cur.toList]) := Lib.hid (by rw [HX.out, drop_end s k (by omega)]; simp [splitGo])
      go_wp2_with (at_builtin; refine wpList_append_own _ rfl _ _ 29 rfl w.heap.size 9 i0 (.string ⟨#[]⟩) 1 16 Tryd.underlying29 hi hz0 hz1 hz2 rfl (by decide) _ _ _ rfl (hown.alloc _) ⟨wr.heap.size, 0, none⟩ 1 1 [.string cur] rfl rfl ?c1 ?c2 ?c3 ?c4 ?c5 ?_)
      case c1 => exact cell_one_new _ _ _
      case c2 => simp [Value.oneCell']
      case c3 => unfold maxLen; omega
      case c4 => omega
      case c5 => simp; omega
      intro v' w1 hown1 hg1 _
      have HO : Hid (w1.ownsRow w.heap.size 9 1 v' XS.length (strVs XS)) := Lib.hid (by rw [HE.out, strVs_snoc, strV_toList, List.length_append]; exact hown1)
      have HB2 : Hid (Below w.heap.size w w1) := Lib.hid ((HB.out.alloc hB1 _).grown hg1 (by simp; omega) (fun r e => (hown.lt r e).1))
      clear hown hown1 hg1
      go_wp2
      go_ret
      exact ⟨_, rfl, HO.out, HB2.out⟩

end Go.Proofs.YtndfffningdcgaaDoor.Nm
