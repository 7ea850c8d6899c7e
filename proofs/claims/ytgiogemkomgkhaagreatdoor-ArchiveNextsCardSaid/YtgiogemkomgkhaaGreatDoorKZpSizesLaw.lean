/-
  How many bytes a head's headers have, and where its name stands: plain.
-/
import Derived.Test.YtgiogemkomgkhaaGreatDoorKZpCentral
set_option linter.unusedVariables false
set_option linter.unusedSimpArgs false
namespace Go.Proofs.YtgiogemkomgkhaaGreatDoor.Zp
open Go.RowKit Go.Shelf YtgiogemkomgkhaaGreatDoor.Nm
theorem locS_parts {h:Hd} (hg:goodH h=true):∃ a c,locS h=a++h.name++c∧a.size=30∧c.size=if bigH h then 20 else 0:=by
 cases hb:bigH h with
 | true =>
  refine⟨⟨#[80,75,3,4]⟩++verS true++comS h++puI 0 4++⟨#[255,255,255,255]⟩++⟨#[255,255,255,255]⟩++puI h.name.size 2++puI 20 2,puI 1 2++puI 16 2++zer 16,?_,?_,?_⟩
  ·unfold locS
   rw[hg,hb,if_pos rfl,if_pos rfl]
   simp only[ByteArray.append_assoc]
  ·simp only[ByteArray.size_append,verS_size,comS_size,puI_4,puI_2]
   rfl
  ·simp only[ByteArray.size_append,puI_2,zer_16]
   rfl
 | false =>
  refine⟨⟨#[80,75,3,4]⟩++verS false++comS h++zer 12++puI h.name.size 2++puI 0 2,⟨#[]⟩,?_,?_,?_⟩
  ·unfold locS
   rw[hg,hb,if_pos rfl,if_neg Bool.false_ne_true,empR]
  ·simp only[ByteArray.size_append,verS_size,comS_size,puI_2,zer_12]
   rfl
  ·rfl
theorem extS_size (a b c:Int) (big far:Bool):(extS a b c big far).size=if big || far then 4+((if big then 16 else 0)+(if far then 8 else 0)) else 0:=by
 unfold extS
 cases big<;>cases far<;>simp[ByteArray.size_append,puI_2,ext0_size]<;>rfl
theorem cenS_parts {h:Hd} (hg:goodH h=true):∃ a c,cenS h=a++h.name++c∧a.size=46∧c.size=if bigH h || farH h then 4+((if bigH h then 16 else 0)+(if farH h then 8 else 0)) else 0:=by
 refine⟨⟨#[80,75,1,2]⟩++verS (bigH h || farH h)++verS (bigH h || farH h)++comS h++puI h.sum 4++narS h.packed (bigH h)++narS h.size (bigH h)++puI h.name.size 2++puI (extS h.size h.packed h.pos (bigH h) (farH h)).size 2++zer 10++narS h.pos (farH h),extS h.size h.packed h.pos (bigH h) (farH h),?_,?_,?_⟩
 ·unfold cenS
  rw[hg,if_pos rfl]
 ·simp only[ByteArray.size_append,verS_size,comS_size,puI_4,puI_2,narS_size,zer_10]
  rfl
 ·exact extS_size _ _ _ _ _
theorem desS_size {h:Hd} (hg:goodH h=true):(desS h).size=if h.kept then 0 else if bigH h then 24 else 16:=by
 unfold desS
 rw[hg]
 cases h.kept<;>cases bigH h<;>simp[ByteArray.size_append,puI_4,puI_8]<;>rfl
theorem locS_size {h:Hd} (hg:goodH h=true):(locS h).size=30+h.name.size+if bigH h then 20 else 0:=by
 obtain⟨a,c,e,ha,hc⟩:=locS_parts hg
 rw[e,ByteArray.size_append,ByteArray.size_append,ha,hc]
theorem cenS_size {h:Hd} (hg:goodH h=true):(cenS h).size=46+h.name.size+if bigH h || farH h then 4+((if bigH h then 16 else 0)+(if farH h then 8 else 0)) else 0:=by
 obtain⟨a,c,e,ha,hc⟩:=cenS_parts hg
 rw[e,ByteArray.size_append,ByteArray.size_append,ha,hc]
end Go.Proofs.YtgiogemkomgkhaaGreatDoor.Zp
