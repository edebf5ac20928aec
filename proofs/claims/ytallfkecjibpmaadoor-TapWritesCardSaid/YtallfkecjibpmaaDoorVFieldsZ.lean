/- Of this claim's texts (FieldsZ): the declarations that the claim reaches (slimclaim.py). -/
import Derived.Deep.AppendLies
import Derived.OwnWalk
import Derived.WalkSpells
import Derived.Test.YtallfkecjibpmaaDoorVAtB
set_option linter.unusedVariables false
set_option linter.unusedSimpArgs false
namespace Go.Proofs.YtallfkecjibpmaaDoor.G
open Go.RowKit Go.Proofs.YtallfkecjibpmaaDoorW.PrintWords Go.Proofs.YtallfkecjibpmaaDoor.Nm Go.Lib
def mkD (l : List UInt8) : ByteArray := ⟨l.toArray⟩
theorem mkD_size (l : List UInt8) : (mkD l).size = l.length := by simp [mkD, ByteArray.size]
theorem mkD_list (l : List UInt8) : (mkD l).data.toList = l := by simp [mkD]
theorem atoi_l (ds : List UInt8) (hne : 0 < ds.length) (hl : ds.length ≤ 18) (hd : ∀ c ∈ ds, isD c) (w : World) :
    Calls Tryd.prog 59 #[.string (mkD ds)] w fun e w' => e = .returned (.tuple #[.int .i64 (val ds : Int), .nilIface]) ∧ Below w.heap.size w w' := by
  have ha := atoi_dig ds (fun h => by rw [h] at hne; exact absurd hne (by simp)) hd hl
  rw [atoiAll_short _ hl] at ha
  have hat : Lib.atoi (mkD ds).data.toList = some ((val ds : Nat) : Int) := by
    rw [mkD_list]
    cases h : Lib.atoi ds with
    | none => rw [h] at ha; cases ha
    | some v =>
      rw [h] at ha
      have : v = (val ds : Int) := by injection ha
      rw [this]
  exact (Tryd.strconv_Atoi (mkD ds) _ (by rw [mkD_size]; exact hl) hat w).mono fun e w' ⟨h1, t, h2⟩ => ⟨h1, h2 ▸ bytesWorld_below _ _ _⟩
end Go.Proofs.YtallfkecjibpmaaDoor.G
