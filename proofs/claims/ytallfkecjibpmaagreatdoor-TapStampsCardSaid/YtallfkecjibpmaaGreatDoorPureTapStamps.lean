/- The plain law of TapStamps: what it computes is true. -/
import Derived.Test.YtallfkecjibpmaaGreatDoorPStamp
import Derived.Test.YtallfkecjibpmaaGreatDoorM3
set_option linter.unusedVariables false
namespace Go.Proofs.YtallfkecjibpmaaGreatDoor.Pure
open Go.RowKit Go.Proofs.YtallfkecjibpmaaGreatDoor.M Go.Proofs.YtallfkecjibpmaaGreatDoor.Q Go.Proofs.YtallfkecjibpmaaGreatDoor.G
theorem TapStamps : M.motleylaw27_TapStamps.Pure := by
  intro sec hw
  have hb : -9223372036854775808 ≤ sec ∧ sec ≤ 9223372036854775807 := by
    have e1 : IntKind.i64.min = -9223372036854775808 := by decide
    have e2 : IntKind.i64.max = 9223372036854775807 := by decide
    simp [Lit.wf, e1, e2] at hw
    exact hw
  obtain ⟨k, hk⟩ : ∃ k, k = 300000 := ⟨_, rfl⟩
  refine ⟨k + 1, ?_⟩
  unfold motleylaw27_TapStamps.f
  rw [rStamp_eq sec (k + 1) (by omega), pStamp_eq sec hb.1 hb.2]
  simp only [Option.bind_some]
  rw [if_pos trivial]
  unfold stampR
  by_cases hi : -719162 ≤ sec / 86400 ∧ sec / 86400 < 2932897
  · have hy : inY sec = true := decide_eq_true hi
    rw [if_pos hy]
    simp only [motleylaw27_TapStamps.j0]
    rw [stamp_back sec k (by omega) hi]
    simp [motleylaw27_known.f]
  · have hy : inY sec = false := decide_eq_false hi
    rw [hy]
    simp [motleylaw27_TapStamps.j0, motleylaw27_known.f]
end Go.Proofs.YtallfkecjibpmaaGreatDoor.Pure
