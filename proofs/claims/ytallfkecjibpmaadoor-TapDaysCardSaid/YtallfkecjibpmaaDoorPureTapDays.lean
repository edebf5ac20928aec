/- The plain law of TapDays: what it computes is true. -/
import Derived.Test.YtallfkecjibpmaaDoorPTap
import Derived.Test.YtallfkecjibpmaaDoorM4
set_option linter.unusedVariables false
namespace Go.Proofs.YtallfkecjibpmaaDoor.Q
open Go.RowKit Go.Proofs.YtallfkecjibpmaaDoorW.PrintWords Go.Proofs.YtallfkecjibpmaaDoor.G Go.Proofs.YtallfkecjibpmaaDoor.M Go.Proofs.YtallfkecjibpmaaDoor.Cal
theorem rDays_eq (y m d : Int) (k : Nat) (hk : 12 ≤ k) : motleyref27_Days.f k y m d = tap_Days.f y m d := by
  unfold motleyref27_Days.f tap_Days.f
  rw [isYear_eq]
  simp only [Option.bind_some, decide_eq_true_eq]
  by_cases hy : 1 ≤ y ∧ y ≤ 9999
  case neg => rw [if_neg hy, if_neg (by omega)]
  rw [if_pos hy]
  by_cases h1 : m < 1
  · rw [if_pos h1, if_neg (by omega)]
  rw [if_neg h1]
  by_cases h2 : m > 12
  · rw [if_pos h2, if_neg (by omega)]
  rw [if_neg h2]
  by_cases h3 : d < 1
  · rw [if_pos h3, if_neg (by omega)]
  rw [if_neg h3, length_eq y m hy.1]
  simp only [Option.bind_some]
  by_cases h4 : d > len y m
  · rw [if_pos h4, if_neg (by omega)]
  have hb : 0 ≤ bef y ∧ bef y ≤ 8000000 := by unfold bef; omega
  have hl := len_pos y m
  have q1 := mon_le y 1 m (by omega) (by omega) (by omega)
  have q2 := mon_le y m 13 (by omega) (by omega) (by omega)
  have q3 := mon_all y
  rw [mon_one] at q1
  rw [if_neg h4, if_pos (by omega), civil_eq y m hy.1 (by omega) (by omega) (by omega) k hk]
  simp only [Option.bind_some]
  rw [w64 (x := bef y + mon y m - 719162 + d) (by omega) (by omega), w64 (by omega) (by omega)]
  congr 2
  omega
theorem Days_some (y m d : Int) : ∃ a b, tap_Days.f y m d = some (a, b) := by
  unfold tap_Days.f
  split
  · exact ⟨_, _, rfl⟩
  · exact ⟨_, _, rfl⟩
end Go.Proofs.YtallfkecjibpmaaDoor.Q
namespace Go.Proofs.YtallfkecjibpmaaDoor.Pure
open Go.RowKit Go.Proofs.YtallfkecjibpmaaDoor.M Go.Proofs.YtallfkecjibpmaaDoor.Q Go.Proofs.YtallfkecjibpmaaDoor.G
theorem TapDays : M.motleylaw27_TapDays.Pure := by
  intro y m d _ _ _
  refine ⟨100, ?_⟩
  obtain ⟨a, b, h⟩ := Days_some y m d
  unfold motleylaw27_TapDays.f
  rw [rDays_eq y m d 100 (by omega), h]
  simp [motleylaw27_known.f]
end Go.Proofs.YtallfkecjibpmaaDoor.Pure
