/-
  One head: its bytes, and that they are read again.
-/
import Derived.Test.YtehhoigedniglaaDoorZpRead2
namespace Go.Proofs.YtehhoigedniglaaDoor.Zp
open Go.RowKit Go.Shelf Go.Proofs.YtehhoigedniglaaDoor.Nm
set_option linter.unusedVariables false
set_option linter.unusedSimpArgs false

def firstT : Tm := ⟨1980, 1, 1, 0, 0, 0⟩
def oneH : Hd := ⟨⟨#[97]⟩, firstT, 0, 0, 0, 0, true⟩
def oneS : ByteArray := ⟨#[80, 75, 3, 4, 20, 0, 0, 0, 0, 0, 0, 0, 33, 0, 0, 0, 0, 0, 0, 0, 0, 0, 0, 0, 0, 0, 1, 0, 0, 0, 97]⟩
theorem checkB_data' (s : ByteArray) : checkB s = (decide (1 ≤ s.size) && decide (s.size ≤ 65535) && goodB s && chk [] s.data.toList) := by
  unfold checkB
  rw [Lib.toList_data]
theorem one_check : checkB ⟨#[97]⟩ = true := by rw [checkB_data']; decide +kernel
theorem one_good : goodH oneH = true := by
  unfold goodH
  have e : oneH.name = ⟨#[97]⟩ := rfl
  rw [e, one_check]
  decide +kernel
theorem one_big : bigH oneH = false := by decide +kernel
theorem one_loc : locS oneH = oneS := by
  unfold locS
  rw [one_good, one_big, if_pos rfl, if_neg Bool.false_ne_true]
  decide +kernel
theorem one_des : desS oneH = ⟨#[]⟩ := by
  unfold desS
  have e : oneH.kept = true := rfl
  rw [e, Bool.not_true, Bool.and_false]
  rfl
theorem one_sgn : sgnB oneS locF.sign = true := by decide +kernel
theorem one_name : nameN locF oneS = 1 := by decide +kernel
theorem one_extra : extraN locF oneS = 0 := by decide +kernel
theorem one_raw : rawT oneS 6 = firstT := by decide +kernel
theorem one_tgood : tgood (rawT oneS 6) = true := by rw [one_raw]; decide +kernel
theorem one_told : toldH locF oneS = oneH := by
  have e1 : tellT oneS 6 = firstT := by unfold tellT; rw [if_pos one_tgood, one_raw]
  have e2 : tellK oneS 6 = true := by decide +kernel
  have e3 : partS oneS 30 1 = ⟨#[97]⟩ := by decide +kernel
  have e4 : (numS oneS 18 4 : Int) = 0 := by decide +kernel
  show locRaw oneS (partS oneS 30 (nameN locF oneS)) (tellT oneS 6) (tellK oneS 6) = oneH
  rw [one_name, e1, e2, e3]
  unfold locRaw
  rw [e4]
  rfl
theorem one_read : readG locF oneS = (oneH, 31) := by
  have hw : wantS locF oneS = oneS := by
    show locS (toldH locF oneS) = oneS
    rw [one_told, one_loc]
  have h := readG_yes (F := locF) (s := oneS) one_sgn (by rw [one_name, one_extra]; decide +kernel) one_tgood (by rw [hw, one_name, one_extra]; decide +kernel)
  rw [h, one_told, hw]
  rfl
theorem one_end : (endS 1 2 3).size = 22 := by decide +kernel
end Go.Proofs.YtehhoigedniglaaDoor.Zp
