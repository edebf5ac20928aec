/- Of this claim's texts (RdT): the declarations that the claim reaches (slimclaim.py). -/
import Derived.Test.YtallfkecjibpmaaGreatDoorVRdI
set_option linter.unusedVariables false
set_option linter.unusedSimpArgs false
namespace Go.Proofs.YtallfkecjibpmaaGreatDoor.G
open Go.RowKit Go.Proofs.YtallfkecjibpmaaGreatDoorW.PrintWords Go.Proofs.YtallfkecjibpmaaGreatDoor.Nm Go.Lib Go.Proofs.YtallfkecjibpmaaGreatDoor.Rd Go.Proofs.YtallfkecjibpmaaGreatDoor.R
def motleyref27_test.f (a0 : ByteArray) : Option (Bool × ByteArray × Int × ByteArray × Int × Bool) := if a0.size ≤ 65536 then some ((testX a0.data.toList).1.ok, mkD (testX a0.data.toList).1.name, (testX a0.data.toList).1.dir, mkD (testX a0.data.toList).1.reason, (testX a0.data.toList).1.num, (testX a0.data.toList).2) else none
theorem motleyref27_test.calls (a0 : ByteArray) (r1 : Bool) (r2 : ByteArray) (r3 : Int) (r4 : ByteArray) (r5 : Int) (r6 : Bool) (w : World) (h : motleyref27_test.f a0 = some (r1, r2, r3, r4, r5, r6)) :
    Calls Tryz.prog 44 #[.string a0] w fun e w' => e = .returned (.tuple #[.agg #[.bool r1, .string r2, .int .i64 r3, .string r4], .int .i64 r5, .bool r6]) ∧ Below w.heap.size w w' := by
  unfold motleyref27_test.f at h
  by_cases hs : a0.size ≤ 65536
  · rw [if_pos hs] at h
    simp only [Option.some.injEq, Prod.mk.injEq] at h
    obtain ⟨rfl, rfl, rfl, rfl, rfl, rfl⟩ := h
    exact rtest_any a0 w hs
  · rw [if_neg hs] at h; cases h
end Go.Proofs.YtallfkecjibpmaaGreatDoor.G
