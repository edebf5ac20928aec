/- The plain law of CharsWrites: what it computes is true. -/
import Derived.Test.YtegapacamclipaaDoorPPoints
import Derived.Test.YtegapacamclipaaDoorM15
set_option linter.unusedVariables false
set_option linter.unusedSimpArgs false
namespace Go.Proofs.YtegapacamclipaaDoor.Pure
open Go.RowKit Go.Proofs.YtegapacamclipaaDoorW.PrintWords Go.Proofs.YtegapacamclipaaDoor.Tx Go.Proofs.YtegapacamclipaaDoor.G Go.Proofs.YtegapacamclipaaDoor.M Go.Proofs.YtegapacamclipaaDoor.Q Go.Lib

theorem CharsWrites : motleylaw02_CharsWrites.Pure := by
  intro l _ _ _
  refine ⟨50000, ?_⟩
  unfold motleylaw02_CharsWrites.f
  by_cases hz : l.length > 20000
  · rw [if_pos (by omega), known_eq _ (by omega)]; rfl
  rw [if_neg (by omega), rText_eq l (by omega) _ (by omega), cText_eq l (by omega)]
  simp only [Option.bind_some, if_true, bne_self_eq_false, motleylaw02_CharsWrites.j0, Bool.false_eq_true, if_false]
  rw [cPoints_eq _ _ (by omega), known_eq 49999 (by omega)]
  simp only [Option.bind_some]
  rw [SameInts_eq _ _ (by have := pointsR_length (textR l).1; omega) 49999 (by have := pointsR_length (textR l).1; omega)]
  unfold pointsR textR
  by_cases h : allChr l
  · simp only [if_pos h]
    by_cases h2 : (enc l).length ≤ 4096
    · rw [sizeR_small h2]
      simp only [if_pos (check_enc h h2), mk_list, (runes_enc l h).1, if_true, Option.bind_some, decide_true]
    · have e : sizeR (enc l) = (mk [], 3) := by unfold sizeR; rw [if_pos (by omega)]
      rw [e]
      rfl
  · simp only [if_neg h]
    rfl
end Go.Proofs.YtegapacamclipaaDoor.Pure
