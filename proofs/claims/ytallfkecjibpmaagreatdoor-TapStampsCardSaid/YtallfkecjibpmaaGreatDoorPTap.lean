/- What both sides say of days, dates and weeks; and the known answers. Plain Lean. -/
import Derived.Test.YtallfkecjibpmaaGreatDoorKnown
import Derived.Test.YtallfkecjibpmaaGreatDoorM1
set_option linter.unusedVariables false
set_option linter.unusedSimpArgs false
namespace Go.Proofs.YtallfkecjibpmaaGreatDoor.Q
open Go.RowKit Go.Proofs.YtallfkecjibpmaaGreatDoorW.PrintWords Go.Proofs.YtallfkecjibpmaaGreatDoor.G Go.Proofs.YtallfkecjibpmaaGreatDoor.M Go.Proofs.YtallfkecjibpmaaGreatDoor.Cal

theorem length_eq (y m : Int) (hy : 1 ≤ y) : motleyref27_length.f y m = some (len y m) := by
  unfold motleyref27_length.f motleyref27_leap.f len leap
  rw [Int.tmod_eq_emod_of_nonneg (by omega), Int.tmod_eq_emod_of_nonneg (by omega), Int.tmod_eq_emod_of_nonneg (by omega)]
  by_cases h2 : m = 2
  · rw [if_pos h2, if_pos h2]
    by_cases h4 : y % 4 = 0
    · rw [if_pos h4]
      by_cases h100 : y % 100 = 0
      · rw [if_pos h100]
        by_cases h400 : y % 400 = 0
        · simp [h4, h100, h400]
        · simp [h4, h100, h400]
      · simp [h4, h100]
    · simp [h4]
  · rw [if_neg h2, if_neg h2]
    by_cases a : m = 4
    · simp [a]
    by_cases b : m = 6
    · simp [b]
    by_cases c : m = 9
    · simp [c]
    by_cases d : m = 11
    · simp [d]
    simp [a, b, c, d]
theorem civil_l0 (y m : Int) (hy : 1 ≤ y) (hy2 : y ≤ 20000) (h1 : 1 ≤ m) (h2 : m ≤ 12) : ∀ (d : Nat) (k : Nat) (j : Int), 1 ≤ j → j ≤ m → m - j = d → d < k →
    motleyref27_civil.l0 k y m (bef y + mon y j) j = some (bef y + mon y m - 719162)
  | d, k, j, hj, hjm, hd, hk => by
    obtain ⟨k, rfl⟩ : ∃ n, k = n + 1 := ⟨k - 1, by omega⟩
    have hb : 0 ≤ bef y ∧ bef y ≤ 8000000 := by unfold bef; omega
    have hm : ∀ m, 1 ≤ m → m ≤ 13 → 0 ≤ mon y m ∧ mon y m ≤ 366 := fun m x x2 => by
      have q1 := mon_le y 1 m (by omega) (by omega) (by omega)
      have q2 := mon_le y m 13 (by omega) (by omega) (by omega)
      have q3 := mon_all y
      rw [mon_one] at q1
      omega
    simp only [motleyref27_civil.l0]
    by_cases h : j < m
    · cases d with
      | zero => omega
      | succ d =>
        have hn := mon_next y j hj (by omega)
        have hm2 := hm (j + 1) (by omega) (by omega)
        rw [if_pos h, length_eq y j hy]
        simp only [Option.bind_some]
        rw [w64 (by omega) (by omega), w64 (by omega) (by omega), show bef y + mon y j + len y j = bef y + mon y (j + 1) by omega]
        exact civil_l0 y m hy hy2 h1 h2 d k (j + 1) (by omega) (by omega) (by omega) (by omega)
    · obtain rfl : j = m := by omega
      have hm2 := hm j hj (by omega)
      rw [if_neg h, w64 (by omega) (by omega)]
theorem civil_eq (y m : Int) (hy : 1 ≤ y) (hy2 : y ≤ 20000) (h1 : 1 ≤ m) (h2 : m ≤ 12) (k : Nat) (hk : 12 ≤ k) : motleyref27_civil.f k y m = some (bef y + mon y m - 719162) := by
  unfold motleyref27_civil.f
  have hb : wrap64 (wrap64 (wrap64 (wrap64 (365 * wrap64 (y - 1)) + wrap64 (Int.tdiv (wrap64 (y - 1)) 4)) - wrap64 (Int.tdiv (wrap64 (y - 1)) 100)) + wrap64 (Int.tdiv (wrap64 (y - 1)) 400)) = bef y :=
    Option.some.inj (before_eq y hy (by omega))
  rw [hb, show bef y = bef y + mon y 1 by rw [mon_one, Int.add_zero]]
  have := civil_l0 y m hy hy2 h1 h2 (m - 1).toNat k 1 (by omega) (by omega) (by omega) (by omega)
  rw [this, mon_one, Int.add_zero]
theorem isYear_eq (y : Int) : motleyref27_isYear.f y = some (decide (1 ≤ y ∧ y ≤ 9999)) := by
  unfold motleyref27_isYear.f
  by_cases h : 1 ≤ y
  · rw [if_pos h]; congr 1; exact decide_eq_decide.2 ⟨fun x => ⟨h, x⟩, fun x => x.2⟩
  · rw [if_neg h, decide_eq_false (fun x => h x.1)]
end Go.Proofs.YtallfkecjibpmaaGreatDoor.Q
