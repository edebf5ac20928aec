/- Days, months and years: plain facts; and what the program's own words on years come to. -/
import Derived.Test.YtallfkecjibpmaaGreatDoorK1
import Derived.Test.YtallfkecjibpmaaGreatDoorK2
set_option linter.unusedVariables false
set_option linter.unusedSimpArgs false
namespace Go.Proofs.YtallfkecjibpmaaGreatDoor.Cal
def leap (y : Int) : Bool := decide (y % 4 = 0 ∧ (y % 100 ≠ 0 ∨ y % 400 = 0))
/-- The days before a year, from the year 1 on. -/
def bef (y : Int) : Int := 365 * (y - 1) + (y - 1) / 4 - (y - 1) / 100 + (y - 1) / 400
def len (y m : Int) : Int := if m = 2 then (if leap y then 29 else 28) else if m = 4 ∨ m = 6 ∨ m = 9 ∨ m = 11 then 30 else 31
/-- The days of a year before its month m. -/
def mon (y m : Int) : Int := if m ≤ 1 then 0 else if m = 2 then 31 else (if leap y then 1 else 0) + (if m = 3 then 59 else if m = 4 then 90 else if m = 5 then 120 else if m = 6 then 151 else if m = 7 then 181 else if m = 8 then 212 else if m = 9 then 243 else if m = 10 then 273 else if m = 11 then 304 else if m = 12 then 334 else 365)
theorem mon_next (y m : Int) (h1 : 1 ≤ m) (h2 : m ≤ 12) : mon y (m + 1) = mon y m + len y m := by
  have : m = 1 ∨ m = 2 ∨ m = 3 ∨ m = 4 ∨ m = 5 ∨ m = 6 ∨ m = 7 ∨ m = 8 ∨ m = 9 ∨ m = 10 ∨ m = 11 ∨ m = 12 := by omega
  rcases this with rfl | rfl | rfl | rfl | rfl | rfl | rfl | rfl | rfl | rfl | rfl | rfl <;> cases h : leap y <;> simp [mon, len, h]
theorem bef_next (y : Int) (h : 1 ≤ y) : bef (y + 1) = bef y + mon y 13 := by
  unfold bef mon leap
  simp only [show ¬ ((13 : Int) ≤ 1) by omega, show ¬ ((13 : Int) = 2) by omega, if_false, show ¬ ((13 : Int) = 3) by omega, show ¬ ((13 : Int) = 4) by omega, show ¬ ((13 : Int) = 5) by omega, show ¬ ((13 : Int) = 6) by omega, show ¬ ((13 : Int) = 7) by omega, show ¬ ((13 : Int) = 8) by omega, show ¬ ((13 : Int) = 9) by omega, show ¬ ((13 : Int) = 10) by omega, show ¬ ((13 : Int) = 11) by omega, show ¬ ((13 : Int) = 12) by omega]
  by_cases c : y % 4 = 0 ∧ (y % 100 ≠ 0 ∨ y % 400 = 0)
  · rw [decide_eq_true c, if_pos rfl, show y + 1 - 1 = y by omega]
    rcases c with ⟨c1, c2 | c2⟩
    · have : y / 100 = (y - 1) / 100 := by omega
      have : y / 400 = (y - 1) / 400 := by omega
      omega
    · have : y / 100 = (y - 1) / 100 + 1 := by omega
      have : y / 400 = (y - 1) / 400 + 1 := by omega
      omega
  · rw [decide_eq_false c, if_neg (by simp), show y + 1 - 1 = y by omega]
    by_cases c1 : y % 4 = 0
    · have c2 : y % 100 = 0 := by omega
      have c3 : y % 400 ≠ 0 := by omega
      have : y / 100 = (y - 1) / 100 + 1 := by omega
      have : y / 400 = (y - 1) / 400 := by omega
      omega
    · have : y / 100 = (y - 1) / 100 := by omega
      have : y / 400 = (y - 1) / 400 := by omega
      omega
theorem len_pos (y m : Int) : 28 ≤ len y m ∧ len y m ≤ 31 := by
  unfold len; cases leap y <;> simp <;> repeat' split
  all_goals omega
theorem mon_le (y m n : Int) (h1 : 1 ≤ m) (h : m ≤ n) (h2 : n ≤ 13) : mon y m ≤ mon y n := by
  obtain ⟨k, rfl⟩ : ∃ k : Nat, n = m + k := ⟨(n - m).toNat, by omega⟩
  induction k with
  | zero => simp
  | succ k ih =>
    have := ih (by omega) (by omega)
    have h3 := mon_next y (m + k) (by omega) (by omega)
    have h4 := len_pos y (m + k)
    rw [show m + ((k + 1 : Nat) : Int) = m + k + 1 by omega, h3]
    omega
theorem mon_one (y : Int) : mon y 1 = 0 := by simp [mon]
theorem mon_all (y : Int) : 365 ≤ mon y 13 ∧ mon y 13 ≤ 366 := by unfold mon; cases leap y <;> simp
theorem bef_le (a b : Int) (h1 : 1 ≤ a) (h : a ≤ b) : bef a + 365 * (b - a) ≤ bef b := by
  unfold bef; omega
/-- A number of days, from the year 1 on, has a date. -/
def IsDate (n y m d : Int) : Prop := 1 ≤ y ∧ 1 ≤ m ∧ m ≤ 12 ∧ 1 ≤ d ∧ d ≤ len y m ∧ bef y + mon y m + d - 1 = n
theorem in_month {y m d : Int} (h1 : 1 ≤ m) (h2 : m ≤ 12) (h3 : 1 ≤ d) (h4 : d ≤ len y m) : 1 ≤ mon y m + d ∧ mon y m + d ≤ mon y (m + 1) ∧ mon y (m + 1) ≤ mon y 13 := by
  have a := mon_le y 1 m (by omega) h1 (by omega)
  have b := mon_next y m h1 h2
  have c := mon_le y (m + 1) 13 (by omega) (by omega) (by omega)
  rw [mon_one] at a
  omega
theorem date_year {n y m d : Int} (h : IsDate n y m d) : bef y ≤ n ∧ n < bef (y + 1) := by
  obtain ⟨h0, h1, h2, h3, h4, h5⟩ := h
  have := in_month h1 h2 h3 h4
  rw [bef_next y h0]
  omega
theorem year_one {n a b : Int} (ha : 1 ≤ a) (hb : 1 ≤ b) (h1 : bef a ≤ n) (h2 : n < bef (a + 1)) (h3 : bef b ≤ n) (h4 : n < bef (b + 1)) : a = b := by
  have h5 : ¬ a + 1 ≤ b := fun h => by have := bef_le (a + 1) b (by omega) h; omega
  have h6 : ¬ b + 1 ≤ a := fun h => by have := bef_le (b + 1) a (by omega) h; omega
  omega
theorem date_one {n a b c x y z : Int} (h : IsDate n a b c) (h' : IsDate n x y z) : a = x ∧ b = y ∧ c = z := by
  obtain ⟨u1, u2⟩ := date_year h
  obtain ⟨v1, v2⟩ := date_year h'
  obtain rfl := year_one h.1 h'.1 u1 u2 v1 v2
  obtain ⟨h0, h1, h2, h3, h4, h5⟩ := h
  obtain ⟨g0, g1, g2, g3, g4, g5⟩ := h'
  have p := in_month h1 h2 h3 h4
  have q := in_month g1 g2 g3 g4
  have h5 : ¬ b + 1 ≤ y := fun h => by have := mon_le a (b + 1) y (by omega) h (by omega); omega
  have h6 : ¬ y + 1 ≤ b := fun h => by have := mon_le a (y + 1) b (by omega) h (by omega); omega
  obtain rfl : b = y := by omega
  exact ⟨rfl, rfl, by omega⟩
end Go.Proofs.YtallfkecjibpmaaGreatDoor.Cal
namespace Go.Proofs.YtallfkecjibpmaaGreatDoor.G
open Go.RowKit Go.Proofs.YtallfkecjibpmaaGreatDoorW.PrintWords Go.Proofs.YtallfkecjibpmaaGreatDoor.K Go.Proofs.YtallfkecjibpmaaGreatDoor.Cal
theorem w64 {x : Int} (h0 : -9223372036854775808 ≤ x) (h1 : x ≤ 9223372036854775807) : wrap64 x = x := by unfold wrap64; omega
theorem before_eq (y : Int) (h1 : 1 ≤ y) (h2 : y ≤ 100000) : tap_before.f y = some (bef y) := by
  unfold tap_before.f bef
  rw [w64 (x := y - 1) (by omega) (by omega), Int.tdiv_eq_ediv_of_nonneg (by omega), Int.tdiv_eq_ediv_of_nonneg (by omega), Int.tdiv_eq_ediv_of_nonneg (by omega)]
  rw [w64 (x := 365 * (y - 1)) (by omega) (by omega), w64 (x := (y - 1) / 4) (by omega) (by omega), w64 (x := (y - 1) / 100) (by omega) (by omega), w64 (x := (y - 1) / 400) (by omega) (by omega), w64 (x := 365 * (y - 1) + (y - 1) / 4) (by omega) (by omega), w64 (x := 365 * (y - 1) + (y - 1) / 4 - (y - 1) / 100) (by omega) (by omega), w64 (by omega) (by omega)]
theorem epoch_eq : tap_epoch.f = some 719162 := by
  unfold tap_epoch.f
  rw [before_eq 1970 (by omega) (by omega)]
  rfl
theorem inYears_eq (a : Int) : tap_inYears.f a = some (decide (-719162 ≤ a ∧ a < 2932897)) := by
  unfold tap_inYears.f
  rw [epoch_eq, before_eq 10000 (by omega) (by omega)]
  simp only [Option.bind_some]
  rw [show bef 10000 = 3652059 by decide, w64 (x := -719162) (by omega) (by omega), w64 (x := 3652059 - 719162) (by omega) (by omega)]
  by_cases h : a ≥ -719162
  · rw [if_pos h]
    congr 1
    exact decide_eq_decide.2 ⟨fun x => ⟨h, x⟩, fun x => x.2⟩
  · rw [if_neg h, decide_eq_false (fun x => h x.1)]
theorem isLeap_eq (y : Int) (h1 : 1 ≤ y) : tap_isLeap.f y = some (leap y) := by
  unfold tap_isLeap.f leap
  rw [Int.tmod_eq_emod_of_nonneg (by omega), Int.tmod_eq_emod_of_nonneg (by omega), Int.tmod_eq_emod_of_nonneg (by omega)]
  by_cases h4 : y % 4 = 0
  · rw [if_pos h4]
    by_cases h100 : y % 100 = 0
    · rw [if_pos h100]
      congr 1
      rw [Bool.eq_iff_iff]
      simp
      omega
    · rw [if_neg h100, decide_eq_true ⟨h4, .inl h100⟩]
  · rw [if_neg h4, decide_eq_false (fun h => h4 h.1)]
/-- The year of a day: from y on. -/
def yearFrom (n : Int) : Nat → Int → Int
  | 0, y => y
  | k + 1, y => if bef (y + 1) ≤ n then yearFrom n k (y + 1) else y
theorem yearFrom_at (n : Int) : ∀ (k : Nat) (y : Int), 1 ≤ y → bef y ≤ n → n < bef (y + k + 1) → y ≤ yearFrom n k y ∧ bef (yearFrom n k y) ≤ n ∧ n < bef (yearFrom n k y + 1)
  | 0, y, h1, h2, h3 => by simp only [yearFrom]; exact ⟨Int.le_refl _, h2, by simpa using h3⟩
  | k + 1, y, h1, h2, h3 => by
    unfold yearFrom
    by_cases h : bef (y + 1) ≤ n
    · rw [if_pos h]
      obtain ⟨a, b, c⟩ := yearFrom_at n k (y + 1) (by omega) h (by rw [show y + 1 + (k : Int) + 1 = y + ((k + 1 : Nat) : Int) + 1 by omega]; exact h3)
      exact ⟨by omega, b, c⟩
    · rw [if_neg h]; exact ⟨Int.le_refl _, h2, by omega⟩
def monFrom (y r : Int) : Nat → Int → Int
  | 0, m => m
  | k + 1, m => if mon y (m + 1) ≤ r then monFrom y r k (m + 1) else m
theorem monFrom_at (y r : Int) : ∀ (k : Nat) (m : Int), 1 ≤ m → m + k ≤ 12 → mon y m ≤ r → r < mon y (m + k + 1) → m ≤ monFrom y r k m ∧ monFrom y r k m ≤ 12 ∧ mon y (monFrom y r k m) ≤ r ∧ r < mon y (monFrom y r k m + 1)
  | 0, m, h1, h0, h2, h3 => by simp only [monFrom]; exact ⟨Int.le_refl _, by omega, h2, by simpa using h3⟩
  | k + 1, m, h1, h0, h2, h3 => by
    unfold monFrom
    by_cases h : mon y (m + 1) ≤ r
    · rw [if_pos h]
      obtain ⟨a, b, c, d⟩ := monFrom_at y r k (m + 1) (by omega) (by omega) h (by rw [show m + 1 + (k : Int) + 1 = m + ((k + 1 : Nat) : Int) + 1 by omega]; exact h3)
      exact ⟨by omega, b, c, d⟩
    · rw [if_neg h]; exact ⟨Int.le_refl _, by omega, h2, by omega⟩
/-- The date of a day that is counted from the year 1 on. -/
def dateOf (n : Int) : Int × Int × Int :=
  let y := yearFrom n 10000 1
  let m := monFrom y (n - bef y) 11 1
  (y, m, n - bef y - mon y m + 1)
theorem dateOf_is (n : Int) (h0 : 0 ≤ n) (h1 : n < 3652059) : IsDate n (dateOf n).1 (dateOf n).2.1 (dateOf n).2.2 ∧ (dateOf n).1 ≤ 9999 := by
  obtain ⟨a, b, c⟩ := yearFrom_at n 10000 1 (by omega) (by rw [show bef 1 = 0 by decide]; exact h0) (by rw [show bef (1 + ((10000 : Nat) : Int) + 1) = 3652790 by decide]; omega)
  have hy : yearFrom n 10000 1 ≤ 9999 := by
    have h5 : ¬ 10000 ≤ yearFrom n 10000 1 := fun h => by
      have := bef_le 10000 (yearFrom n 10000 1) (by omega) h
      rw [show bef 10000 = 3652059 by decide] at this
      omega
    omega
  have e : dateOf n = (yearFrom n 10000 1, monFrom (yearFrom n 10000 1) (n - bef (yearFrom n 10000 1)) 11 1, n - bef (yearFrom n 10000 1) - mon (yearFrom n 10000 1) (monFrom (yearFrom n 10000 1) (n - bef (yearFrom n 10000 1)) 11 1) + 1) := rfl
  rw [e]
  generalize yearFrom n 10000 1 = y at *
  rw [bef_next y a] at c
  obtain ⟨p, q, r, s⟩ := monFrom_at y (n - bef y) 11 1 (by omega) (by omega) (by rw [mon_one]; omega) (by rw [show (1 : Int) + ((11 : Nat) : Int) + 1 = 13 by omega]; omega)
  generalize monFrom y (n - bef y) 11 1 = m at *
  rw [mon_next y m p q] at s
  refine ⟨⟨a, p, q, ?_, ?_, ?_⟩, hy⟩
  · show 1 ≤ n - bef y - mon y m + 1
    omega
  · show n - bef y - mon y m + 1 ≤ len y m
    omega
  · show bef y + mon y m + (n - bef y - mon y m + 1) - 1 = n
    omega
theorem dateOf_eq {n y m d : Int} (h0 : 0 ≤ n) (h1 : n < 3652059) (h : IsDate n y m d) : dateOf n = (y, m, d) := by
  obtain ⟨a, b, c⟩ := date_one (dateOf_is n h0 h1).1 h
  rw [← a, ← b, ← c]
end Go.Proofs.YtallfkecjibpmaaGreatDoor.G
