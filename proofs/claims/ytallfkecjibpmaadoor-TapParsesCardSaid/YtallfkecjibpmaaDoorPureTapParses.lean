/- The plain law of TapParses: what it computes is true. -/
import Derived.Test.YtallfkecjibpmaaDoorPParse2
import Derived.Test.YtallfkecjibpmaaDoorPParse3
import Derived.Test.YtallfkecjibpmaaDoorM5
set_option linter.unusedVariables false
namespace Go.Proofs.YtallfkecjibpmaaDoor.Pure
open Go.RowKit Go.Proofs.YtallfkecjibpmaaDoor.M Go.Proofs.YtallfkecjibpmaaDoor.Q Go.Proofs.YtallfkecjibpmaaDoor.G
theorem TapParses : M.motleylaw27_TapParses.Pure := by
  intro s hw
  obtain ⟨K, hK⟩ : ∃ K : Nat, K = 5 * (s.size + 100) := ⟨_, rfl⟩
  refine ⟨K, ?_⟩
  unfold motleylaw27_TapParses.f
  by_cases h : (s.size : Int) > 262144
  · rw [if_pos h]
    simp [motleylaw27_known.f]
  · obtain ⟨r, h1, h2⟩ := parse_eq s K (by omega)
    have h3 : tap_ParseSpan.f s = some (psRes s) := by
      unfold tap_ParseSpan.f
      rw [if_pos (by omega)]
    rw [if_neg h, h2, pspan_eq s (by omega) K (by omega), h1, h3]
    simp [motleylaw27_known.f]
end Go.Proofs.YtallfkecjibpmaaDoor.Pure
