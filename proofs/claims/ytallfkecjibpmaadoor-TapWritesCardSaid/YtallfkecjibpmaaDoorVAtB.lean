/- Of this claim's texts (AtB): the declarations that the claim reaches (slimclaim.py). -/
import Derived.WalkKit
import Derived.BigCall
import Derived.Deep.QuietTactic
import Derived.BigQuiet
import Derived.Lib.AtoiErrMem
import Derived.Deep.RegionHeld3
import Derived.Deep.AppendLies
import Derived.Laws.NewBlocks
import Derived.Test.YtallfkecjibpmaaDoorVTapS
import Derived.Test.YtallfkecjibpmaaDoorVNum
set_option linter.unusedVariables false
set_option linter.unusedSimpArgs false
namespace Go.Proofs.YtallfkecjibpmaaDoor.G
open Go.RowKit Go.Proofs.YtallfkecjibpmaaDoorW.PrintWords Go.Proofs.YtallfkecjibpmaaDoor.Nm Go.Lib
def bAt (s : ByteArray) (i : Nat) : UInt8 := s.data.toList.getD i 0
theorem bt_bAt (s : ByteArray) (i : Nat) : bt s (i : Int) = ((bAt s i).toNat : Int) := by
  unfold bt bAt
  rw [Int.toNat_natCast]
  split
  case isTrue h =>
    have h' : i < s.data.toList.length := by rw [← size_len]; exact h
    rw [List.getD_eq_getElem?_getD, List.getElem?_eq_getElem h']
    rfl
  case isFalse h =>
    have h' : s.data.toList.length ≤ i := by rw [← size_len]; omega
    rw [List.getD_eq_getElem?_getD, List.getElem?_eq_none h']
    rfl
theorem at_bAt (s : ByteArray) (i : Nat) (h : i < s.size) : ((s[i]'h).toNat : Int) = ((bAt s i).toNat : Int) := by
  have := (bt_at s (i : Int) (by rw [Int.toNat_natCast]; exact h)).trans (bt_bAt s i)
  simpa using this
theorem drop_bAt (s : ByteArray) (i : Nat) (h : i < s.size) : s.data.toList.drop i = bAt s i :: s.data.toList.drop (i + 1) := by
  have h' : i < s.data.toList.length := by rw [← size_len]; exact h
  unfold bAt
  rw [List.getD_eq_getElem?_getD, List.getElem?_eq_getElem h']
  exact List.drop_eq_getElem_cons h'
end Go.Proofs.YtallfkecjibpmaaDoor.G
