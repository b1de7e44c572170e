/- What the examples of the laws come to: proved here by steps through the program's text; no condition but those that stand in each theorem. -/
import Derived.WalkSpells
import Derived.Deep.RegionLaw
import Derived.Lib.OthersKept
import Derived.Test.YtfajgjmhfpabiaaDoorShelf
import Derived.Test.YtfajgjmhfpabiaaDoorQ0
import Derived.Test.YtfajgjmhfpabiaaDoorQ4
import Derived.Test.YtfajgjmhfpabiaaDoorQ5
import Derived.Test.YtfajgjmhfpabiaaDoorSb
import Derived.Test.YtfajgjmhfpabiaaDoorSc
import Derived.Test.YtfajgjmhfpabiaaDoorSf
import Derived.Test.YtfajgjmhfpabiaaDoorSg
import Derived.Test.YtfajgjmhfpabiaaDoorSh
import Derived.Test.YtfajgjmhfpabiaaDoorSe
import Derived.Test.YtfajgjmhfpabiaaDoorSi
namespace Go.Proofs.YtfajgjmhfpabiaaDoor.Scratch
set_option linter.unusedVariables false
open Go.RowKit Go.Proofs.YtfajgjmhfpabiaaDoorW.PrintWords Go.Proofs.YtfajgjmhfpabiaaDoorW.PrintLast Go.Proofs.YtfajgjmhfpabiaaDoorW.PrintMore Go.Proofs.YtfajgjmhfpabiaaDoor.Q
attribute [local go_sem] max2_int min2_int max_two min_two max_three min_three max_four min_four
abbrev annB : ByteArray := ⟨#[97, 110, 110]⟩
abbrev okB : ByteArray := ⟨#[111, 107, 32, 115, 111]⟩
abbrev dA : S35 := ⟨255, 1, annB, okB⟩
theorem bn_nil : (⟨#[]⟩ : ByteArray).toList = [] := by rw [toList_eq]
theorem fA1 : faultS 1 annB okB = 0 := by
  unfold faultS
  rw [toList_eq]
  decide +kernel
theorem fA2 : faultS 3 annB ⟨#[]⟩ = 2 := by
  unfold faultS
  rw [toList_eq]
  decide +kernel
theorem fA3 : faultS 1 ⟨#[97, 32, 98]⟩ ⟨#[]⟩ = 1 := by
  unfold faultS
  rw [toList_eq]
  decide +kernel
theorem aA1 : bookAdd [] dA = ([dA], 0) := by
  unfold bookAdd
  rw [fA1]
  rfl
theorem aA2 : bookAdd [dA] ⟨1, 3, annB, ⟨#[]⟩⟩ = ([dA], 2) := by
  unfold bookAdd
  rw [fA2]
  rfl
theorem aA3 : bookAdd [dA] ⟨1, 1, ⟨#[97, 32, 98]⟩, ⟨#[]⟩⟩ = ([dA], 1) := by
  unfold bookAdd
  rw [fA3]
  rfl
abbrev lineA : ByteArray := ⟨#[48, 48, 48, 48, 48, 48, 48, 48, 48, 48, 48, 48, 48, 48, 102, 102, 32, 108, 101, 102, 116, 32, 97, 110, 110, 32, 111, 107, 32, 115, 111, 10]⟩
theorem hex255 : hexS 255 = ⟨#[48, 48, 48, 48, 48, 48, 48, 48, 48, 48, 48, 48, 48, 48, 102, 102]⟩ := by decide +kernel
theorem lineA_is : lineS 255 1 annB okB = lineA := by
  unfold lineS
  rw [hex255, toList_eq]
  decide +kernel
theorem printA : (⟨(printB [dA]).toArray⟩ : ByteArray) = lineA := by
  rw [printB, printB, lineA_is]
  rfl
theorem splitA : splitL lineA lineA.size 0 0 [] = [lineA] := by decide +kernel
theorem splitAA : splitL (lineA ++ lineA) (lineA ++ lineA).size 0 0 [] = [lineA, lineA] := by decide +kernel
theorem nlA : nlS lineA = (lineA.extract 0 31, true) := by
  unfold nlS
  rw [toList_eq]
  decide +kernel
theorem cutA1 : cut32 (lineA.extract 0 31) = (lineA.extract 0 16, lineA.extract 17 31, true) := by decide +kernel
theorem cutA2 : cut32 (lineA.extract 17 31) = (lineA.extract 17 21, lineA.extract 22 31, true) := by decide +kernel
theorem cutA3 : cut32 (lineA.extract 22 31) = (annB, okB, true) := by decide +kernel
theorem parseA : parseS (lineA.extract 0 16) = (255, 0) := by decide +kernel
theorem sideA : sideS (lineA.extract 17 21) = 1 := by
  unfold sideS
  rw [toList_eq]
  decide +kernel
theorem readA_is : readS lineA = some dA := by
  unfold readS
  rw [nlA]
  dsimp only
  rw [cutA1]
  dsimp only
  rw [cutA2]
  dsimp only
  rw [cutA3, parseA]
  dsimp only
  rw [sideA, lineA_is, fA1, if_pos (show (true && true && true) = true from rfl), if_pos (show (0 : Int) = 0 from rfl), if_pos ⟨rfl, rfl⟩]
theorem parseGoA : parseGo (splitL lineA lineA.size 0 0 []) [] = (some [dA], 0, 0) := by
  rw [splitA, parseGo, readA_is]
  rfl
theorem parseGoAA : parseGo (splitL (lineA ++ lineA) (lineA ++ lineA).size 0 0 []) [] = (none, 14, 2) := by
  rw [splitAA, parseGo, readA_is]
  show (if _ then _ else (if _ then _ else parseGo [lineA] ([] ++ [dA]))) = _
  rw [parseGo, readA_is]
  rfl

end Go.Proofs.YtfajgjmhfpabiaaDoor.Scratch
