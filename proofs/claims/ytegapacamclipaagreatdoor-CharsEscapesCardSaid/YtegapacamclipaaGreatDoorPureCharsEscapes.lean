/- The plain law of CharsEscapes: what it computes is true. -/
import Derived.Test.YtegapacamclipaaGreatDoorPEsc3
import Derived.Test.YtegapacamclipaaGreatDoorM4
set_option linter.unusedVariables false
set_option linter.unusedSimpArgs false
namespace Go.Proofs.YtegapacamclipaaGreatDoor.Pure
open Go.RowKit Go.Proofs.YtegapacamclipaaGreatDoorW.PrintWords Go.Proofs.YtegapacamclipaaGreatDoor.Tx Go.Proofs.YtegapacamclipaaGreatDoor.G Go.Proofs.YtegapacamclipaaGreatDoor.M Go.Proofs.YtegapacamclipaaGreatDoor.Q Go.Lib
theorem escR_size (s : ByteArray) : (escR s).1.size ≤ 4096 := by
  unfold escR
  split
  · unfold sizeR; split
    · simp [mk, ByteArray.size]
    · simp only [mk_size]; omega
  · simp [mk, ByteArray.size]
theorem CharsEscapes : motleylaw02_CharsEscapes.Pure := by
  intro s hs
  obtain ⟨F, hF⟩ : ∃ F : Nat, F = 30000 := ⟨_, rfl⟩
  refine ⟨F + 1, ?_⟩
  unfold motleylaw02_CharsEscapes.f
  by_cases hz : s.size > 20000
  · rw [if_pos (by omega), known_eq _ (by omega)]; rfl
  have hu : ∀ b : ByteArray, b.size ≤ 140737488351232 → chars_Unescape.f b = some (unR b) := fun b hb => by unfold chars_Unescape.f; rw [if_pos hb]
  rw [if_neg (by omega), rEsc_eq s _ (by omega), rUn_eq s _ (by omega), cEsc_eq s _ (by omega), hu s hs]
  simp only [Option.bind_some, if_true]
  have hb : ((unR s).2 != (unR s).2) = false := by simp
  rw [hb]
  simp only [motleylaw02_CharsEscapes.j0]
  rw [if_neg (by decide), hu _ (by have := escR_size s; omega)]
  simp only [Option.bind_some]
  by_cases h : (escR s).2 = 0
  · rw [if_pos h, back_eq s h, if_pos rfl, if_pos rfl, known_eq F (by omega)]; rfl
  · rw [if_neg h, known_eq F (by omega)]; rfl
end Go.Proofs.YtegapacamclipaaGreatDoor.Pure
