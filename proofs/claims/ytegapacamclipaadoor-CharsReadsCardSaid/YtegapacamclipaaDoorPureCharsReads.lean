/- The plain law of CharsReads: what it computes is true. -/
import Derived.Test.YtegapacamclipaaDoorPPoints
import Derived.Test.YtegapacamclipaaDoorM14
set_option linter.unusedVariables false
set_option linter.unusedSimpArgs false
namespace Go.Proofs.YtegapacamclipaaDoor.Pure
open Go.RowKit Go.Proofs.YtegapacamclipaaDoorW.PrintWords Go.Proofs.YtegapacamclipaaDoor.Tx Go.Proofs.YtegapacamclipaaDoor.G Go.Proofs.YtegapacamclipaaDoor.M Go.Proofs.YtegapacamclipaaDoor.Q Go.Lib

theorem CharsReads : motleylaw02_CharsReads.Pure := by
  intro s hs
  refine ⟨30000, ?_⟩
  unfold motleylaw02_CharsReads.f
  by_cases hz : s.size > 20000
  · rw [if_pos (by omega), known_eq _ (by omega)]; rfl
  rw [if_neg (by omega), Valid_eq s hs _ (by omega), rPoints_eq s _ (by omega), cValid_any s hs, cPoints_eq s _ (by omega)]
  simp only [Option.bind_some, if_true, bne_self_eq_false, Bool.false_eq_true, if_false]
  have hlen := pointsR_length s
  rw [SameInts_eq _ _ (by omega) 30000 (by omega), decide_eq_true rfl]
  simp only [Option.bind_some, if_true, motleylaw02_CharsReads.j0, Bool.false_eq_true, if_false]
  rw [cText_eq _ (by omega), known_eq 29999 (by omega)]
  simp only [Option.bind_some]
  unfold pointsR textR
  by_cases h : checkI s = 0
  · simp only [if_pos h, if_true]
    rw [if_pos (runes_all _)]
    rw [sizeR_runes h, if_pos rfl, if_pos rfl]
  · simp only [if_neg h]
end Go.Proofs.YtegapacamclipaaDoor.Pure
