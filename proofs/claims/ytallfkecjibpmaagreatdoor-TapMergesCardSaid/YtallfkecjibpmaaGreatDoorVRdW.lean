/- Of this claim's texts (RdW): the declarations that the claim reaches (slimclaim.py). -/
import Derived.Test.YtallfkecjibpmaaGreatDoorVRdP
set_option linter.unusedVariables false
set_option linter.unusedSimpArgs false
namespace Go.Proofs.YtallfkecjibpmaaGreatDoor.Rd
open Go.Proofs.YtallfkecjibpmaaGreatDoor.Nm
def vT (t : Tst) : Prop := okName t.name = true ∧ okText t.reason = true ∧ (t.dir = 0 ∧ t.reason = [] ∨ t.dir = 1 ∨ t.dir = 2)
theorem dirP_ok {a y : Bs} {d : Int} (h : dirP a = some (d, y)) : okText y = true ∧ (d = 1 ∨ d = 2) := by
  unfold dirP at h
  split at h
  · split at h
    · rename_i h2; cases h; exact ⟨h2, .inl rfl⟩
    · cases h
  · split at h
    · split at h
      · rename_i h2; cases h; exact ⟨h2, .inr rfl⟩
      · cases h
    · cases h
theorem cutP_ok {s x y : Bs} {d : Int} (h : cutP s = some (x, d, y)) : okText y = true ∧ (d = 0 ∧ y = [] ∨ d = 1 ∨ d = 2) := by
  unfold cutP at h
  split at h
  · split at h
    · cases h; exact ⟨okText_nil, .inl ⟨rfl, rfl⟩⟩
    · cases h
  · split at h
    · rename_i hd
      split at h
      · cases h
        obtain ⟨h1, h2⟩ := dirP_ok hd
        exact ⟨h1, .inr h2⟩
      · cases h
    · cases h
theorem nameP_ok {s n : Bs} (h : nameP s = some n) : okName n = true := by
  unfold nameP at h
  split at h
  · cases h; exact okName_nil
  · split at h
    · split at h
      · rename_i h2; cases h; exact h2
      · cases h
    · cases h
theorem test_ok {s : Bs} {t : Tst} (h : testP s = some t) : vT t := by
  unfold testP at h
  split at h
  · unfold bodyP at h
    split at h
    · rename_i x d y hc
      split at h
      · rename_i n hn
        cases h
        obtain ⟨h1, h2⟩ := cutP_ok hc
        exact ⟨nameP_ok hn, h1, h2⟩
      · cases h
    · cases h
  · cases h
theorem run_ok : ∀ (l : List Bs) (p : Pr), (∀ t ∈ p.ts, vT t) → ∀ t ∈ (Pr.run l p).ts, vT t
  | [], p, h => h
  | s :: l, p, h => by
    unfold Pr.run
    split
    · exact h
    · refine run_ok l _ ?_
      unfold Pr.step
      split
      · exact h
      · split
        · rename_i t ht
          intro u hu
          rcases List.mem_append.1 hu with hu | hu
          · exact h u hu
          · rw [List.mem_singleton.1 hu]; exact test_ok ht
        · exact h
end Go.Proofs.YtallfkecjibpmaaGreatDoor.Rd
