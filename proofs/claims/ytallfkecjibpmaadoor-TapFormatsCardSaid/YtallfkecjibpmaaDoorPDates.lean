/- Dates and weeks: what both sides say of them. Plain Lean. -/
import Derived.Test.YtallfkecjibpmaaDoorPTap
import Derived.Test.YtallfkecjibpmaaDoorM1
import Derived.Test.YtallfkecjibpmaaDoorM2
set_option linter.unusedVariables false
set_option linter.unusedSimpArgs false
namespace Go.Proofs.YtallfkecjibpmaaDoor.Q
open Go.RowKit Go.Proofs.YtallfkecjibpmaaDoorW.PrintWords Go.Proofs.YtallfkecjibpmaaDoor.G Go.Proofs.YtallfkecjibpmaaDoor.M Go.Proofs.YtallfkecjibpmaaDoor.Cal

theorem mInYears_eq (a : Int) : M.tap_inYears.f a = some (decide (-719162 ≤ a ∧ a < 2932897)) := inYears_eq a
theorem isDay_eq (n : Int) (k : Nat) (hk : 12 ≤ k) : motleyref27_isDay.f k n = some (decide (-719162 ≤ n ∧ n < 2932897)) := by
  unfold motleyref27_isDay.f
  rw [civil_eq 1 1 (by omega) (by omega) (by omega) (by omega) k hk, civil_eq 10000 1 (by omega) (by omega) (by omega) (by omega) k hk]
  simp only [Option.bind_some]
  rw [show bef 1 + mon 1 1 - 719162 = -719162 by decide, show bef 10000 + mon 10000 1 - 719162 = 2932897 by decide]
  by_cases h : -719162 ≤ n
  · rw [if_pos h]; congr 1; exact decide_eq_decide.2 ⟨fun x => ⟨h, x⟩, fun x => x.2⟩
  · rw [if_neg h, decide_eq_false (fun x => h x.1)]
theorem bef_bd (y : Int) (h1 : 1 ≤ y) (h2 : y ≤ 20000) : 0 ≤ bef y ∧ bef y ≤ 8000000 := by unfold bef; omega
theorem mon_bd (y m : Int) (h1 : 1 ≤ m) (h2 : m ≤ 13) : 0 ≤ mon y m ∧ mon y m ≤ 366 := by
  have q1 := mon_le y 1 m (by omega) (by omega) (by omega)
  have q2 := mon_le y m 13 (by omega) (by omega) (by omega)
  have q3 := mon_all y
  rw [mon_one] at q1
  omega
/-- The months: from the year on. -/
theorem rDate_l2 (n y : Int) (hn : -719162 ≤ n ∧ n < 2932897) (hy : 1 ≤ y) (hy2 : y ≤ 9999) (hn2 : n + 719162 < bef y + mon y 13) : ∀ (d : Nat) (k : Nat) (m : Int), 1 ≤ m → m ≤ 12 → 12 - m = d → d + 20 ≤ k → bef y + mon y m ≤ n + 719162 →
    motleyref27_Date.l2 k n y m = some ((dateOf (n + 719162)).1, (dateOf (n + 719162)).2.1, (dateOf (n + 719162)).2.2, 0)
  | d, k, m, h1, h2, hd, hk, hm => by
    obtain ⟨k, rfl⟩ : ∃ j, k = j + 1 := ⟨k - 1, by omega⟩
    have b0 := bef_bd y hy (by omega)
    have b1 := mon_bd y m h1 (by omega)
    have b2 := mon_bd y (m + 1) (by omega) (by omega)
    have fin : ¬ (m < 12 ∧ bef y + mon y (m + 1) ≤ n + 719162) → some (y, m, wrap64 (wrap64 (n - (bef y + mon y m - 719162)) + 1), (0 : Int)) = some ((dateOf (n + 719162)).1, (dateOf (n + 719162)).2.1, (dateOf (n + 719162)).2.2, 0) := by
      intro hno
      have hl := mon_next y m h1 h2
      have hlt : n + 719162 < bef y + mon y (m + 1) := by
        by_cases h12 : m < 12
        · omega
        · obtain rfl : m = 12 := by omega
          exact hn2
      rw [dateOf_eq (by omega) (by omega) (show IsDate (n + 719162) y m (n + 719162 - bef y - mon y m + 1) from ⟨hy, h1, h2, by omega, by omega, by omega⟩)]
      rw [w64 (x := n - (bef y + mon y m - 719162)) (by omega) (by omega), w64 (by omega) (by omega), show n - (bef y + mon y m - 719162) + 1 = n + 719162 - bef y - mon y m + 1 by omega]
    simp only [motleyref27_Date.l2]
    rw [civil_eq y m hy (by omega) h1 h2 k (by omega)]
    by_cases h12 : m < 12
    · rw [if_pos h12, w64 (x := m + 1) (by omega) (by omega), civil_eq y (m + 1) hy (by omega) (by omega) (by omega) k (by omega)]
      simp only [Option.bind_some]
      by_cases hle : bef y + mon y (m + 1) - 719162 ≤ n
      · rw [if_pos hle]
        cases d with
        | zero => omega
        | succ d => exact rDate_l2 n y hn hy hy2 hn2 d k (m + 1) (by omega) (by omega) (by omega) (by omega) (by omega)
      · rw [if_neg hle]
        exact fin (by omega)
    · rw [if_neg h12]
      simp only [Option.bind_some]
      exact fin (fun h => h12 h.1)
/-- The years: by steps that halve. -/
theorem rDate_l0 (n : Int) (hn : -719162 ≤ n ∧ n < 2932897) (s : Int) : ∀ (e : Nat), (∀ (k : Nat) (y : Int), 1 ≤ y → y ≤ 9999 → bef y ≤ n + 719162 → e ≤ k → motleyref27_Date.l0 k n y (wrap64 (Int.tdiv s 2)) = some ((dateOf (n + 719162)).1, (dateOf (n + 719162)).2.1, (dateOf (n + 719162)).2.2, 0)) →
    1 ≤ s → s ≤ 4096 → ∀ (d : Nat) (k : Nat) (y : Int), 1 ≤ y → y ≤ 9999 → bef y ≤ n + 719162 → 9999 - y ≤ d → d + e + 20 ≤ k → motleyref27_Date.l1 k n y s = some ((dateOf (n + 719162)).1, (dateOf (n + 719162)).2.1, (dateOf (n + 719162)).2.2, 0)
  | e, he, hs1, hs2, d, k, y, h1, h2, hb, hd, hk => by
    obtain ⟨k, rfl⟩ : ∃ j, k = j + 1 := ⟨k - 1, by omega⟩
    simp only [motleyref27_Date.l1]
    rw [w64 (x := y + s) (by omega) (by omega), isYear_eq]
    simp only [Option.bind_some, decide_eq_true_eq]
    by_cases hy : 1 ≤ y + s ∧ y + s ≤ 9999
    · rw [if_pos hy, civil_eq (y + s) 1 (by omega) (by omega) (by omega) (by omega) k (by omega), mon_one, Int.add_zero]
      simp only [Option.bind_some]
      by_cases hle : bef (y + s) - 719162 ≤ n
      · rw [if_pos hle]
        cases d with
        | zero => omega
        | succ d => exact rDate_l0 n hn s e he hs1 hs2 d k (y + s) (by omega) (by omega) (by omega) (by omega) (by omega)
      · rw [if_neg hle]
        exact he k y h1 h2 hb (by omega)
    · rw [if_neg hy]
      exact he k y h1 h2 hb (by omega)
theorem rDate_eq (n : Int) (k : Nat) (hk : 200000 ≤ k) : motleyref27_Date.f k n = G.tap_Date.f n := by
  unfold motleyref27_Date.f G.tap_Date.f
  rw [isDay_eq n k (by omega)]
  simp only [Option.bind_some, decide_eq_true_eq]
  by_cases hn : -719162 ≤ n ∧ n < 2932897
  case neg => rw [if_neg hn, if_neg hn]
  rw [if_pos hn, if_pos hn]
  have e10 : bef 10000 = 3652059 := by decide
  -- the last step is 1: then the year is found
  have last : ∀ (d : Nat) (k : Nat) (y : Int), 1 ≤ y → y ≤ 9999 → bef y ≤ n + 719162 → 9999 - y ≤ d → d + 200 ≤ k → motleyref27_Date.l1 k n y 1 = some ((dateOf (n + 719162)).1, (dateOf (n + 719162)).2.1, (dateOf (n + 719162)).2.2, 0) := by
    intro d
    induction d with
    | zero =>
      intro k y h1 h2 hb hd hk
      obtain rfl : y = 9999 := by omega
      obtain ⟨k, rfl⟩ : ∃ j, k = j + 1 + 1 := ⟨k - 2, by omega⟩
      simp only [motleyref27_Date.l1]
      rw [w64 (x := 9999 + 1) (by omega) (by omega), isYear_eq]
      simp only [Option.bind_some, decide_eq_true_eq]
      rw [if_neg (by omega), show Int.tdiv 1 2 = 0 from rfl, w64 (by omega) (by omega)]
      simp only [motleyref27_Date.l0]
      rw [if_neg (by omega)]
      exact rDate_l2 n 9999 hn (by omega) (by omega) (by rw [← bef_next 9999 (by omega)]; show n + 719162 < bef 10000; omega) 11 k 1 (by omega) (by omega) (by omega) (by omega) (by rw [mon_one]; omega)
    | succ d ih =>
      intro k y h1 h2 hb hd hk
      obtain ⟨k, rfl⟩ : ∃ j, k = j + 1 + 1 := ⟨k - 2, by omega⟩
      have stop : n + 719162 < bef (y + 1) → motleyref27_Date.l0 (k + 1) n y (wrap64 (Int.tdiv 1 2)) = some ((dateOf (n + 719162)).1, (dateOf (n + 719162)).2.1, (dateOf (n + 719162)).2.2, 0) := by
        intro hlt
        rw [show Int.tdiv 1 2 = 0 from rfl, w64 (by omega) (by omega)]
        simp only [motleyref27_Date.l0]
        rw [if_neg (by omega)]
        exact rDate_l2 n y hn h1 h2 (by rw [← bef_next y h1]; exact hlt) 11 k 1 (by omega) (by omega) (by omega) (by omega) (by rw [mon_one]; omega)
      simp only [motleyref27_Date.l1]
      rw [w64 (x := y + 1) (by omega) (by omega), isYear_eq]
      simp only [Option.bind_some, decide_eq_true_eq]
      by_cases hy : 1 ≤ y + 1 ∧ y + 1 ≤ 9999
      · rw [if_pos hy, civil_eq (y + 1) 1 (by omega) (by omega) (by omega) (by omega) (k + 1) (by omega), mon_one, Int.add_zero]
        simp only [Option.bind_some]
        by_cases hle : bef (y + 1) - 719162 ≤ n
        · rw [if_pos hle]
          exact ih (k + 1) (y + 1) (by omega) (by omega) (by omega) (by omega) (by omega)
        · rw [if_neg hle]
          exact stop (by omega)
      · rw [if_neg hy]
        obtain rfl : y = 9999 := by omega
        exact stop (by show n + 719162 < bef 10000; omega)
  have step : ∀ (s : Int) (e : Nat), (∀ (k : Nat) (y : Int), 1 ≤ y → y ≤ 9999 → bef y ≤ n + 719162 → e ≤ k → motleyref27_Date.l1 k n y s = some ((dateOf (n + 719162)).1, (dateOf (n + 719162)).2.1, (dateOf (n + 719162)).2.2, 0)) → 1 ≤ s → s ≤ 2048 →
      ∀ (k : Nat) (y : Int), 1 ≤ y → y ≤ 9999 → bef y ≤ n + 719162 → e + 10100 ≤ k → motleyref27_Date.l1 k n y (2 * s) = some ((dateOf (n + 719162)).1, (dateOf (n + 719162)).2.1, (dateOf (n + 719162)).2.2, 0) := by
    intro s e he h1 h2 k y hy hy2 hb hk
    refine rDate_l0 n hn (2 * s) (e + 1) ?_ (by omega) (by omega) 9999 k y hy hy2 hb (by omega) (by omega)
    intro k y hy hy2 hb hk
    obtain ⟨k, rfl⟩ : ∃ j, k = j + 1 := ⟨k - 1, by omega⟩
    have e2 : wrap64 (Int.tdiv (2 * s) 2) = s := by rw [Int.tdiv_eq_ediv_of_nonneg (by omega), w64 (by omega) (by omega)]; omega
    rw [e2]
    simp only [motleyref27_Date.l0]
    rw [if_pos (by omega)]
    exact he k y hy hy2 hb (by omega)
  have s0 : ∀ (k : Nat) (y : Int), 1 ≤ y → y ≤ 9999 → bef y ≤ n + 719162 → 10300 ≤ k → motleyref27_Date.l1 k n y 1 = _ := fun k y a b c d => last 9999 k y a b c (by omega) (by omega)
  have s1 := step 1 _ s0 (by omega) (by omega)
  have s2 := step 2 _ s1 (by omega) (by omega)
  have s3 := step 4 _ s2 (by omega) (by omega)
  have s4 := step 8 _ s3 (by omega) (by omega)
  have s5 := step 16 _ s4 (by omega) (by omega)
  have s6 := step 32 _ s5 (by omega) (by omega)
  have s7 := step 64 _ s6 (by omega) (by omega)
  have s8 := step 128 _ s7 (by omega) (by omega)
  have s9 := step 256 _ s8 (by omega) (by omega)
  have s10 := step 512 _ s9 (by omega) (by omega)
  have s11 := step 1024 _ s10 (by omega) (by omega)
  have s12 := step 2048 _ s11 (by omega) (by omega)
  obtain ⟨k, rfl⟩ : ∃ j, k = j + 1 := ⟨k - 1, by omega⟩
  simp only [motleyref27_Date.l0]
  rw [if_pos (by omega)]
  exact s12 k 1 (by omega) (by omega) (by rw [show bef 1 = 0 by decide]; omega) (by omega)
theorem modulo_eq (a b : Int) (hb : 1 ≤ b) (hb2 : b ≤ 1000000) (ha : -4000000000000000000 ≤ a) (ha2 : a ≤ 4000000000000000000) : motleyref27_modulo.f a b = some (a % b) := by
  unfold motleyref27_modulo.f
  have h1 : -b < Int.tmod a b := by have := Int.lt_tmod_of_pos a (show 0 < b by omega); omega
  have h2 : Int.tmod a b < b := Int.tmod_lt_of_pos a (by omega)
  rw [if_neg (by omega), w64 (by omega) (by omega), Int.tmod_eq_emod_of_nonneg (by omega), Int.add_emod_right]
  congr 1
  rw [Int.tmod_eq_emod]
  split
  · rw [show ((0 : Nat) : Int) = 0 from rfl, Int.sub_zero, Int.emod_emod_of_dvd _ (Int.dvd_refl b)]
  · rw [show ((b.natAbs : Nat) : Int) = b by omega, Int.sub_emod_right, Int.emod_emod_of_dvd _ (Int.dvd_refl b)]
theorem weekday_eq (n : Int) (h0 : -10000000 ≤ n) (h1 : n ≤ 10000000) : tap_weekday.f n = some ((n + 4) % 7) := by
  unfold tap_weekday.f tap_floor.f
  rw [w64 (x := n + 4) (by omega) (by omega), if_neg (by omega)]
  have e : Int.tmod (n + 4) 7 = if 0 ≤ n + 4 ∨ (n + 4) % 7 = 0 then (n + 4) % 7 else (n + 4) % 7 - 7 := by
    rw [Int.tmod_eq_emod]
    by_cases h : 0 ≤ n + 4
    · rw [if_pos (.inl h), if_pos (.inl h)]; omega
    · by_cases h2 : (n + 4) % 7 = 0
      · rw [if_pos (.inr (by omega)), if_pos (.inr h2)]; omega
      · rw [if_neg (by omega), if_neg (by omega)]; omega
  rw [e]
  by_cases h : 0 ≤ n + 4 ∨ (n + 4) % 7 = 0
  · rw [if_pos h, if_neg (by omega)]
    rfl
  · rw [if_neg h, if_pos (by omega), w64 (x := (n + 4) % 7 - 7 + 7) (by omega) (by omega)]
    simp only [Option.bind_some]
    congr 1
    omega
theorem rWeek_eq (n : Int) (k : Nat) (hk : 200000 ≤ k) : motleyref27_Week.f k n = tap_Week.f n := by
  unfold motleyref27_Week.f tap_Week.f
  rw [isDay_eq n k (by omega), mInYears_eq]
  simp only [Option.bind_some, decide_eq_true_eq]
  by_cases h : -719162 ≤ n ∧ n < 2932897
  case neg => rw [if_neg h, if_neg h]
  rw [if_pos h, if_pos h, w64 (x := n + 3) (by omega) (by omega), modulo_eq (n + 3) 7 (by omega) (by omega) (by omega) (by omega), weekday_eq n (by omega) (by omega)]
  simp only [Option.bind_some]
  rw [w64 (x := (n + 4) % 7 + 6) (by omega) (by omega), Int.tmod_eq_emod_of_nonneg (by omega), show ((n + 4) % 7 + 6) % 7 = (n + 3) % 7 by omega, w64 (x := n - (n + 3) % 7) (by omega) (by omega), w64 (x := n - (n + 3) % 7 + 3) (by omega) (by omega), rDate_eq _ k hk]
  generalize n - (n + 3) % 7 + 3 = t
  unfold G.tap_Date.f
  by_cases ht : -719162 ≤ t ∧ t < 2932897
  case neg => rw [if_neg ht]; rfl
  rw [if_pos ht]
  obtain ⟨hd, hy⟩ := dateOf_is (t + 719162) (by omega) (by omega)
  obtain ⟨d1, d2, d3, d4, d5, d6⟩ := hd
  simp only [Option.bind_some, if_true]
  rw [civil_eq _ 1 d1 (by omega) (by omega) (by omega) k (by omega)]
  unfold G.tap_Days.f
  have hl := len_pos (dateOf (t + 719162)).1 1
  rw [if_pos ⟨d1, hy, by omega, by omega, by omega, by omega⟩, show bef (dateOf (t + 719162)).1 + mon (dateOf (t + 719162)).1 1 + 1 - 1 - 719162 = bef (dateOf (t + 719162)).1 + mon (dateOf (t + 719162)).1 1 - 719162 by omega]
  rfl
theorem Date_back (n : Int) (h : -719162 ≤ n ∧ n < 2932897) : G.tap_Days.f (dateOf (n + 719162)).1 (dateOf (n + 719162)).2.1 (dateOf (n + 719162)).2.2 = some (n, 0) := by
  obtain ⟨hd, hy⟩ := dateOf_is (n + 719162) (by omega) (by omega)
  obtain ⟨d1, d2, d3, d4, d5, d6⟩ := hd
  unfold G.tap_Days.f
  rw [if_pos ⟨d1, hy, d2, d3, d4, d5⟩]
  congr 2
  omega
theorem Week_some (n : Int) : ∃ a b c, tap_Week.f n = some (a, b, c) := by
  unfold tap_Week.f
  rw [mInYears_eq]
  simp only [Option.bind_some, decide_eq_true_eq]
  by_cases h : -719162 ≤ n ∧ n < 2932897
  case neg => rw [if_neg h]; exact ⟨_, _, _, rfl⟩
  rw [if_pos h, weekday_eq n (by omega) (by omega)]
  simp only [Option.bind_some]
  generalize wrap64 (wrap64 (n - Int.tmod (wrap64 ((n + 4) % 7 + 6)) 7) + 3) = t
  unfold G.tap_Date.f
  by_cases ht : -719162 ≤ t ∧ t < 2932897
  case neg => rw [if_neg ht]; exact ⟨_, _, _, rfl⟩
  rw [if_pos ht]
  simp only [Option.bind_some, if_true]
  unfold G.tap_Days.f
  split
  · exact ⟨_, _, _, rfl⟩
  · exact ⟨_, _, _, rfl⟩
end Go.Proofs.YtallfkecjibpmaaDoor.Q
