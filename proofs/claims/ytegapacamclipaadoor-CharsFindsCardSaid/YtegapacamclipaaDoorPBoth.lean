/- The errors of two texts, of the reference and of the program, in plain Lean. -/
import Derived.Test.YtegapacamclipaaDoorPText
import Derived.Test.YtegapacamclipaaDoorM7
set_option linter.unusedVariables false
set_option linter.unusedSimpArgs false
namespace Go.Proofs.YtegapacamclipaaDoor.Q
open Go.RowKit Go.Proofs.YtegapacamclipaaDoorW.PrintWords Go.Proofs.YtegapacamclipaaDoor.Tx Go.Proofs.YtegapacamclipaaDoor.G Go.Proofs.YtegapacamclipaaDoor.M Go.Lib
def bothI (s t : ByteArray) : Int := if checkI s = 0 then checkI t else checkI s
theorem both0 {s t : ByteArray} (h : bothI s t = 0) : checkI s = 0 ∧ checkI t = 0 := by
  unfold bothI at h
  by_cases h1 : checkI s = 0
  · rw [if_pos h1] at h; exact ⟨h1, h⟩
  · rw [if_neg h1] at h; exact absurd h h1
theorem both_eq (s t : ByteArray) (k : Nat) (hk : 4200 ≤ k) : motleyref02_both.f k s t = some (bothI s t) := by
  unfold motleyref02_both.f bothI
  rw [Checked_eq s k hk]
  simp only [Option.bind_some]
  by_cases h : checkI s = 0
  · rw [if_pos h, if_pos h, Checked_eq t k hk]; rfl
  · rw [if_neg h, if_neg h]
theorem asked_at (l : List ByteArray) (i : Nat) (s : ByteArray) (n : Int) (hn : n = l.length) (hi : i < l.length) (hs : l.getD i ByteArray.empty = s) (hl : l.length ≤ 10) (k : Nat) :
    chars_asked.l0 (k + 1) l n (i : Int) = if checkI s = 0 then chars_asked.l0 k l n ((i + 1 : Nat) : Int) else some (checkI s) := by
  simp only [chars_asked.l0]
  have hr : rdOf ByteArray.empty l (i : Int) = s := by rw [← hs]; simp [rdOf]
  have e1 : wrap64 ((i : Int) + 1) = ((i + 1 : Nat) : Int) := by rw [wrap64_id (by omega) (by omega)]; omega
  rw [if_pos (by omega), if_pos (by omega), if_pos (by omega), hr, e1]
  unfold checkI
  by_cases h : s.size > 4096
  · rw [if_pos (by omega), if_pos h]; rfl
  · rw [if_neg (by omega), if_neg h, cValid_eq s (by omega)]
    simp only [Option.bind_some, decide_eq_true_eq]
    by_cases h2 : valid s.data.toList = s.size
    · rw [if_pos h2, if_pos h2]; rfl
    · rw [if_neg h2, if_neg h2]; rfl
theorem asked_two (s t : ByteArray) (k : Nat) (hk : 10 ≤ k) : chars_asked.f k [s, t] = some (bothI s t) := by
  obtain ⟨k, rfl⟩ : ∃ j, k = j + 3 := ⟨k - 3, by omega⟩
  unfold chars_asked.f bothI
  have a0 := asked_at [s, t] 0 s 2 rfl (by simp) rfl (by simp) (k + 2)
  have a1 := asked_at [s, t] 1 t 2 rfl (by simp) rfl (by simp) (k + 1)
  have a2 : chars_asked.l0 (k + 1) [s, t] 2 ((1 + 1 : Nat) : Int) = some 0 := by
    simp only [chars_asked.l0]
    rw [if_neg (by omega)]
  show chars_asked.l0 (k + 2 + 1) [s, t] 2 ((0 : Nat) : Int) = _
  rw [a0]
  by_cases h : checkI s = 0
  · rw [if_pos h, if_pos h]
    show chars_asked.l0 (k + 1 + 1) [s, t] 2 ((1 : Nat) : Int) = _
    rw [a1]
    by_cases h2 : checkI t = 0
    · rw [if_pos h2, a2, h2]
    · rw [if_neg h2]
  · rw [if_neg h, if_neg h]
end Go.Proofs.YtegapacamclipaaDoor.Q
