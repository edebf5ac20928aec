/- The plain law of TapEasters: what it computes is true. -/
import Derived.Test.YtallfkecjibpmaaDoorPTap
import Derived.Test.YtallfkecjibpmaaDoorM5
set_option linter.unusedVariables false
set_option linter.unusedSimpArgs false
namespace Go.Proofs.YtallfkecjibpmaaDoor.Q
open Go.RowKit Go.Proofs.YtallfkecjibpmaaDoorW.PrintWords Go.Proofs.YtallfkecjibpmaaDoor.G Go.Proofs.YtallfkecjibpmaaDoor.M Go.Proofs.YtallfkecjibpmaaDoor.Cal
def allFrom (p : Nat → Bool) : Nat → Nat → Bool
  | 0, _ => true
  | n + 1, i => p i && allFrom p n (i + 1)
theorem allFrom_at (p : Nat → Bool) : ∀ (n i j : Nat), allFrom p n i = true → i ≤ j → j < i + n → p j = true
  | 0, i, j, _, h1, h2 => by omega
  | n + 1, i, j, h, h1, h2 => by
    unfold allFrom at h
    rw [Bool.and_eq_true] at h
    rcases Nat.eq_or_lt_of_le h1 with rfl | h3
    · exact h.1
    · exact allFrom_at p n (i + 1) j h.2 h3 (by omega)
/-- Easter Sunday of a year is a Sunday. -/
def easterOK (y : Nat) : Bool := match tap_Easter.f (y : Int) with
  | some (a, b, c) => c == 0 && (match tap_Days.f (y : Int) a b with
    | some (n, e) => e == 0 && (match tap_Weekday.f n with
      | some (k, g) => g == 0 && k == 0
      | none => false)
    | none => false)
  | none => false
set_option maxRecDepth 100000 in
theorem easter_0 : allFrom easterOK 1000 1583 = true := by decide +kernel
set_option maxRecDepth 100000 in
theorem easter_1 : allFrom easterOK 1000 2583 = true := by decide +kernel
set_option maxRecDepth 100000 in
theorem easter_2 : allFrom easterOK 1000 3583 = true := by decide +kernel
set_option maxRecDepth 100000 in
theorem easter_3 : allFrom easterOK 1000 4583 = true := by decide +kernel
set_option maxRecDepth 100000 in
theorem easter_4 : allFrom easterOK 1000 5583 = true := by decide +kernel
set_option maxRecDepth 100000 in
theorem easter_5 : allFrom easterOK 1000 6583 = true := by decide +kernel
set_option maxRecDepth 100000 in
theorem easter_6 : allFrom easterOK 1000 7583 = true := by decide +kernel
set_option maxRecDepth 100000 in
theorem easter_7 : allFrom easterOK 1000 8583 = true := by decide +kernel
set_option maxRecDepth 100000 in
theorem easter_8 : allFrom easterOK 417 9583 = true := by decide +kernel
theorem easter_all (y : Nat) (h0 : 1583 ≤ y) (h1 : y ≤ 9999) : easterOK y = true := by
  by_cases c0 : y < 2583
  · exact allFrom_at _ 1000 1583 y easter_0 (by omega) (by omega)
  by_cases c1 : y < 3583
  · exact allFrom_at _ 1000 2583 y easter_1 (by omega) (by omega)
  by_cases c2 : y < 4583
  · exact allFrom_at _ 1000 3583 y easter_2 (by omega) (by omega)
  by_cases c3 : y < 5583
  · exact allFrom_at _ 1000 4583 y easter_3 (by omega) (by omega)
  by_cases c4 : y < 6583
  · exact allFrom_at _ 1000 5583 y easter_4 (by omega) (by omega)
  by_cases c5 : y < 7583
  · exact allFrom_at _ 1000 6583 y easter_5 (by omega) (by omega)
  by_cases c6 : y < 8583
  · exact allFrom_at _ 1000 7583 y easter_6 (by omega) (by omega)
  by_cases c7 : y < 9583
  · exact allFrom_at _ 1000 8583 y easter_7 (by omega) (by omega)
  exact allFrom_at _ 417 9583 y easter_8 (by omega) (by omega)
theorem rEaster_eq (y : Int) : motleyref27_Easter.f y = tap_Easter.f y := rfl
theorem easter_bad (y : Int) (h : ¬ (1583 ≤ y ∧ y ≤ 9999)) : tap_Easter.f y = some (0, 0, 1) := by
  unfold tap_Easter.f
  by_cases h1 : y < 1583
  · rw [if_pos h1]
  · rw [if_neg h1, if_pos (by omega)]
theorem weekday_some (n : Int) : ∃ k g, tap_Weekday.f n = some (k, g) := by
  unfold tap_Weekday.f tap_weekday.f tap_floor.f
  cases h : tap_inYears.f n with
  | none => exact absurd h (by unfold tap_inYears.f tap_epoch.f tap_before.f; simp only [Option.bind_some]; split <;> simp)
  | some b =>
    simp only [Option.bind_some]
    cases b
    · simp
    · rw [if_pos rfl, if_neg (by omega)]
      split <;> simp
end Go.Proofs.YtallfkecjibpmaaDoor.Q
namespace Go.Proofs.YtallfkecjibpmaaDoor.Pure
open Go.RowKit Go.Proofs.YtallfkecjibpmaaDoor.M Go.Proofs.YtallfkecjibpmaaDoor.Q Go.Proofs.YtallfkecjibpmaaDoor.G Go.Proofs.YtallfkecjibpmaaDoor.Cal
theorem TapEasters : M.motleylaw27_TapEasters.Pure := by
  intro y _
  refine ⟨100, ?_⟩
  unfold motleylaw27_TapEasters.f
  rw [rEaster_eq]
  by_cases hy : 1583 ≤ y ∧ y ≤ 9999
  · obtain ⟨n, rfl⟩ : ∃ n : Nat, y = (n : Int) := ⟨y.toNat, by omega⟩
    have h := easter_all n (by omega) (by omega)
    unfold easterOK at h
    cases h1 : tap_Easter.f (n : Int) with
    | none => rw [h1] at h; cases h
    | some r =>
      obtain ⟨a, b, c⟩ := r
      rw [h1] at h
      simp only [Bool.and_eq_true, beq_iff_eq] at h
      obtain ⟨rfl, h⟩ := h
      cases h2 : tap_Days.f (n : Int) a b with
      | none => rw [h2] at h; cases h
      | some r =>
        obtain ⟨d, e⟩ := r
        rw [h2] at h
        simp only [Bool.and_eq_true, beq_iff_eq] at h
        obtain ⟨rfl, h⟩ := h
        cases h3 : tap_Weekday.f d with
        | none => rw [h3] at h; cases h
        | some r =>
          obtain ⟨k, g⟩ := r
          rw [h3] at h
          simp only [Bool.and_eq_true, beq_iff_eq] at h
          obtain ⟨rfl, rfl⟩ := h
          simp [motleylaw27_TapEasters.j0, h2, h3, motleylaw27_known.f]
  · rw [easter_bad y hy]
    simp [motleylaw27_TapEasters.j0, motleylaw27_known.f]
end Go.Proofs.YtallfkecjibpmaaDoor.Pure
