/- The plain law of TapParses, second part: Parse. Plain Lean. -/
import Derived.Test.YtallfkecjibpmaaDoorPParse
import Derived.Test.YtallfkecjibpmaaDoorM3
import Derived.Test.YtallfkecjibpmaaDoorM5
import Derived.Test.YtallfkecjibpmaaDoorM2
set_option linter.unusedVariables false
set_option linter.unusedSimpArgs false
namespace Go.Proofs.YtallfkecjibpmaaDoor.Q
open Go.RowKit Go.Proofs.YtallfkecjibpmaaDoorW.PrintWords Go.Proofs.YtallfkecjibpmaaDoor.G Go.Proofs.YtallfkecjibpmaaDoor.M Go.Proofs.YtallfkecjibpmaaDoor.Cal Go.Proofs.YtallfkecjibpmaaDoor.Nm Go.Lib
theorem mInYears_eq (a : Int) : M.tap_inYears.f a = some (decide (-719162 ≤ a ∧ a < 2932897)) := inYears_eq a
theorem floor_eq (a : Int) (h0 : -9223372036854775808 ≤ a) (h1 : a ≤ 9223372036854775807) : tap_floor.f a 86400 = some (a / 86400, a % 86400) := by
  unfold tap_floor.f
  have e : Int.tmod a 86400 = if 0 ≤ a ∨ a % 86400 = 0 then a % 86400 else a % 86400 - 86400 := by
    rw [Int.tmod_eq_emod]
    by_cases h : 0 ≤ a
    · rw [if_pos (.inl h), if_pos (.inl h)]; omega
    · by_cases h2 : a % 86400 = 0
      · rw [if_pos (.inr (by omega)), if_pos (.inr h2)]; omega
      · rw [if_neg (by omega), if_neg (by omega)]; omega
  have d : Int.tdiv a 86400 = if 0 ≤ a ∨ a % 86400 = 0 then a / 86400 else a / 86400 + 1 := by
    have h3 := Int.mul_tdiv_add_tmod a 86400
    rw [e] at h3
    by_cases h : 0 ≤ a ∨ a % 86400 = 0
    · rw [if_pos h] at h3 ⊢; omega
    · rw [if_neg h] at h3 ⊢; omega
  rw [if_neg (by omega), e, d]
  by_cases h : 0 ≤ a ∨ a % 86400 = 0
  · rw [if_pos h, if_pos h, if_neg (by omega), w64 (by omega) (by omega)]
  · rw [if_neg h, if_neg h, if_pos (by omega), w64 (x := a / 86400 + 1) (by omega) (by omega), w64 (by omega) (by omega), w64 (by omega) (by omega)]
    congr 2 <;> omega
theorem clock_eq (a : Int) (h0 : -9223372036854775808 ≤ a) (h1 : a ≤ 9223372036854775807) : tap_clock.f a = some (a / 86400, a % 86400 / 3600, a % 86400 / 60 % 60, a % 86400 % 60, decide (-719162 ≤ a / 86400 ∧ a / 86400 < 2932897)) := by
  unfold tap_clock.f
  rw [floor_eq a h0 h1]
  simp only [Option.bind_some]
  rw [mInYears_eq]
  simp only [Option.bind_some]
  have hr : 0 ≤ a % 86400 ∧ a % 86400 < 86400 := by omega
  generalize a % 86400 = r at *
  rw [Int.tdiv_eq_ediv_of_nonneg hr.1, Int.tdiv_eq_ediv_of_nonneg hr.1, w64 (x := r / 3600) (by omega) (by omega), w64 (x := r / 60) (by omega) (by omega), Int.tmod_eq_emod_of_nonneg (by omega), Int.tmod_eq_emod_of_nonneg hr.1]
/-- What is made of the numbers of a moment. -/
def finP (y m d h mi s z : Int) : Option (Int × Int) := (tap_Days.f y m d).bind fun q => if q.2 = 0 ∧ h ≤ 23 ∧ mi ≤ 59 ∧ s ≤ 59 then (if -719162 ≤ (86400 * q.1 + 3600 * h + 60 * mi + s - z) / 86400 ∧ (86400 * q.1 + 3600 * h + 60 * mi + s - z) / 86400 < 2932897 then some (86400 * q.1 + 3600 * h + 60 * mi + s - z, 0) else some (0, 1)) else some (0, 2)
theorem wr_eq (a h mi s z : Int) (ha : -10000000 ≤ a ∧ a ≤ 10000000) (hh : 0 ≤ h ∧ h < 10000) (hm : 0 ≤ mi ∧ mi < 10000) (hs : 0 ≤ s ∧ s < 10000) (hz : -100000 ≤ z ∧ z ≤ 100000) :
    wrap64 ((wrap64 ((wrap64 ((wrap64 ((wrap64 (86400 * a)) + (wrap64 (3600 * h)))) + (wrap64 (60 * mi)))) + s)) - z) = 86400 * a + 3600 * h + 60 * mi + s - z := by
  rw [w64 (x := 86400 * a) (by omega) (by omega), w64 (x := 3600 * h) (by omega) (by omega), w64 (x := 60 * mi) (by omega) (by omega), w64 (x := 86400 * a + 3600 * h) (by omega) (by omega), w64 (x := 86400 * a + 3600 * h + 60 * mi) (by omega) (by omega), w64 (x := 86400 * a + 3600 * h + 60 * mi + s) (by omega) (by omega), w64 (by omega) (by omega)]
theorem rj4 (k : Nat) (hk : 20 ≤ k) (a h mi s z : Int) (ha : -10000000 ≤ a ∧ a ≤ 10000000) (hh : 0 ≤ h ∧ h < 10000) (hm : 0 ≤ mi ∧ mi < 10000) (hs : 0 ≤ s ∧ s < 10000) (hz : -100000 ≤ z ∧ z ≤ 100000) :
    motleyref27_Parse.j4 k z a h mi s false = if -719162 ≤ (86400 * a + 3600 * h + 60 * mi + s - z) / 86400 ∧ (86400 * a + 3600 * h + 60 * mi + s - z) / 86400 < 2932897 then some (86400 * a + 3600 * h + 60 * mi + s - z, 0) else some (0, 1) := by
  obtain ⟨k, rfl⟩ : ∃ j, k = j + 1 := ⟨k - 1, by omega⟩
  simp only [motleyref27_Parse.j4]
  rw [if_neg (by simp), wr_eq a h mi s z ha hh hm hs hz]
  have hb : -1000000000000 ≤ 86400 * a + 3600 * h + 60 * mi + s - z ∧ 86400 * a + 3600 * h + 60 * mi + s - z ≤ 1000000000000 := by omega
  generalize 86400 * a + 3600 * h + 60 * mi + s - z = n at *
  rw [day_eq n (by omega) (by omega)]
  simp only [Option.bind_some]
  rw [isDay_eq _ k (by omega)]
  simp only [Option.bind_some, decide_eq_true_eq]
theorem rj4t (k : Nat) (hk : 1 ≤ k) (a h mi s z : Int) : motleyref27_Parse.j4 k z a h mi s true = some (0, 2) := by
  obtain ⟨k, rfl⟩ : ∃ j, k = j + 1 := ⟨k - 1, by omega⟩
  simp only [motleyref27_Parse.j4]
  rw [if_pos trivial]
theorem pj1 (k : Nat) (hk : 1 ≤ k) (y mo d a h mi s z : Int) (ha : -10000000 ≤ a ∧ a ≤ 10000000) (hh : 0 ≤ h ∧ h < 10000) (hm : 0 ≤ mi ∧ mi < 10000) (hs : 0 ≤ s ∧ s < 10000) (hz : -100000 ≤ z ∧ z ≤ 100000) :
    tap_Parse.j1 k [y, mo, d, h, mi, s] z a false = if -719162 ≤ (86400 * a + 3600 * h + 60 * mi + s - z) / 86400 ∧ (86400 * a + 3600 * h + 60 * mi + s - z) / 86400 < 2932897 then some (86400 * a + 3600 * h + 60 * mi + s - z, 0) else some (0, 1) := by
  obtain ⟨k, rfl⟩ : ∃ j, k = j + 1 := ⟨k - 1, by omega⟩
  simp only [tap_Parse.j1]
  rw [if_neg (by simp), if_pos (by simp), if_pos (by simp), if_pos (by simp), show rd [y, mo, d, h, mi, s] 3 = h from rfl, show rd [y, mo, d, h, mi, s] 4 = mi from rfl, show rd [y, mo, d, h, mi, s] 5 = s from rfl, wr_eq a h mi s z ha hh hm hs hz]
  have hb : -1000000000000 ≤ 86400 * a + 3600 * h + 60 * mi + s - z ∧ 86400 * a + 3600 * h + 60 * mi + s - z ≤ 1000000000000 := by omega
  generalize 86400 * a + 3600 * h + 60 * mi + s - z = n at *
  rw [clock_eq n (by omega) (by omega)]
  simp only [Option.bind_some, decide_eq_true_eq]
theorem pj1t (k : Nat) (hk : 1 ≤ k) (L : List Int) (a z : Int) : tap_Parse.j1 k L z a true = some (0, 2) := by
  obtain ⟨k, rfl⟩ : ∃ j, k = j + 1 := ⟨k - 1, by omega⟩
  simp only [tap_Parse.j1]
  rw [if_pos trivial]
theorem pj0 (k : Nat) (hk : 2 ≤ k) (y mo d h mi s z : Int) (hh : 0 ≤ h ∧ h < 10000) (hm : 0 ≤ mi ∧ mi < 10000) (hs : 0 ≤ s ∧ s < 10000) (hz : -100000 ≤ z ∧ z ≤ 100000) :
    tap_Parse.j0 k [y, mo, d, h, mi, s] z false = finP y mo d h mi s z := by
  obtain ⟨k, rfl⟩ : ∃ j, k = j + 1 := ⟨k - 1, by omega⟩
  simp only [tap_Parse.j0]
  rw [if_neg (by simp), if_pos (by simp), if_pos (by simp), if_pos (by simp), show rd [y, mo, d, h, mi, s] 0 = y from rfl, show rd [y, mo, d, h, mi, s] 1 = mo from rfl, show rd [y, mo, d, h, mi, s] 2 = d from rfl, show rd [y, mo, d, h, mi, s] 3 = h from rfl, show rd [y, mo, d, h, mi, s] 4 = mi from rfl, show rd [y, mo, d, h, mi, s] 5 = s from rfl]
  unfold finP
  obtain ⟨a, b, hab⟩ := Days_some y mo d
  have hbd := Days_bd y mo d a b hab
  rw [hab]
  simp only [Option.bind_some]
  by_cases h0 : b = 0
  case neg => rw [if_neg h0, if_neg (fun e => h0 e.1), pj1t k (by omega)]
  have hbd := hbd h0
  rw [if_pos h0, if_pos (by simp)]
  by_cases h1 : h > 23
  · rw [if_pos h1, if_neg (fun e => by omega), pj1t k (by omega)]
  rw [if_neg h1, if_pos (by simp)]
  by_cases h2 : mi > 59
  · rw [if_pos h2, if_neg (fun e => by omega), pj1t k (by omega)]
  rw [if_neg h2, if_pos (by simp)]
  by_cases h3 : s > 59
  · rw [decide_eq_true h3, if_neg (fun e => by omega), pj1t k (by omega)]
  rw [decide_eq_false h3, if_pos ⟨h0, by omega, by omega, by omega⟩, pj1 k (by omega) y mo d a h mi s z (by omega) hh hm hs hz]
theorem pj0t (k : Nat) (hk : 1 ≤ k) (L : List Int) (z : Int) : tap_Parse.j0 k L z true = some (0, 2) := by
  obtain ⟨k, rfl⟩ : ∃ j, k = j + 1 := ⟨k - 1, by omega⟩
  simp only [tap_Parse.j0]
  rw [if_pos trivial]
theorem val_bd4 (l : List UInt8) (hd : ∀ c ∈ l, isD c) (hl : l.length ≤ 4) : 0 ≤ ((val l : Nat) : Int) ∧ ((val l : Nat) : Int) < 10000 + 1 - 1 := by
  have h1 := val_bound l hd
  have h2 : 10 ^ l.length ≤ 10 ^ 4 := Nat.pow_le_pow_right (by decide) hl
  have h3 : (10 : Nat) ^ 4 = 10000 := by decide
  omega
theorem ex_of (s : ByteArray) (L l : List UInt8) (h : s.data.toList = L) (a b : Nat) (e : (L.drop a).take (b - a) = l) : (s.extract a b).data.toList = l := by
  rw [Lib.extract_data, h, e]
theorem rj3 (x0 : ByteArray) (c0 c1 c2 c3 c4 c5 c6 c7 c8 c9 c10 c11 c12 c13 c14 c15 c16 c17 c18 : UInt8) (r : List UInt8) (h : x0.data.toList = c0 :: c1 :: c2 :: c3 :: c4 :: c5 :: c6 :: c7 :: c8 :: c9 :: c10 :: c11 :: c12 :: c13 :: c14 :: c15 :: c16 :: c17 :: c18 :: r) (d0 : ∀ c ∈ [c0, c1, c2, c3], isD c) (d1 : ∀ c ∈ [c5, c6], isD c) (d2 : ∀ c ∈ [c8, c9], isD c) (d3 : ∀ c ∈ [c11, c12], isD c) (d4 : ∀ c ∈ [c14, c15], isD c) (d5 : ∀ c ∈ [c17, c18], isD c) (z : Int) (hz : -100000 ≤ z ∧ z ≤ 100000) (k : Nat) (hk : 100 ≤ k) :
    motleyref27_Parse.j3 k x0 z = finP (val [c0, c1, c2, c3] : Int) (val [c5, c6] : Int) (val [c8, c9] : Int) (val [c11, c12] : Int) (val [c14, c15] : Int) (val [c17, c18] : Int) z := by
  obtain ⟨k, rfl⟩ : ∃ j, k = j + 1 := ⟨k - 1, by omega⟩
  have hsz : x0.size = r.length + 19 := by rw [size_len, h]; simp
  have q0 := digits_eq (x0.extract 0 4) [c0, c1, c2, c3] (ex_of x0 _ _ h 0 4 rfl) d0 (by simp) k (by omega)
  have q1 := digits_eq (x0.extract 5 7) [c5, c6] (ex_of x0 _ _ h 5 7 rfl) d1 (by simp) k (by omega)
  have q2 := digits_eq (x0.extract 8 10) [c8, c9] (ex_of x0 _ _ h 8 10 rfl) d2 (by simp) k (by omega)
  have q3 := digits_eq (x0.extract 11 13) [c11, c12] (ex_of x0 _ _ h 11 13 rfl) d3 (by simp) k (by omega)
  have q4 := digits_eq (x0.extract 14 16) [c14, c15] (ex_of x0 _ _ h 14 16 rfl) d4 (by simp) k (by omega)
  have q5 := digits_eq (x0.extract 17 19) [c17, c18] (ex_of x0 _ _ h 17 19 rfl) d5 (by simp) k (by omega)
  have b3 := val_bd4 _ d3 (by simp)
  have b4 := val_bd4 _ d4 (by simp)
  have b5 := val_bd4 _ d5 (by simp)
  generalize val [c0, c1, c2, c3] = y at *
  generalize val [c5, c6] = mo at *
  generalize val [c8, c9] = d at *
  generalize val [c11, c12] = hh at *
  generalize val [c14, c15] = mi at *
  generalize val [c17, c18] = s at *
  simp only [motleyref27_Parse.j3]
  rw [if_pos (by omega), if_pos (by omega), q0]
  simp only [Option.bind_some]
  rw [if_pos (by omega), if_pos (by omega), q1]
  simp only [Option.bind_some]
  rw [if_pos (by omega), if_pos (by omega), q2]
  simp only [Option.bind_some]
  rw [rDays_eq _ _ _ k (by omega)]
  unfold finP
  obtain ⟨a, b, hab⟩ := Days_some (y : Int) (mo : Int) (d : Int)
  have hbd := Days_bd _ _ _ a b hab
  rw [hab]
  simp only [Option.bind_some]
  rw [if_pos (by omega), if_pos (by omega), q3]
  simp only [Option.bind_some]
  rw [if_pos (by omega), if_pos (by omega), q4]
  simp only [Option.bind_some]
  rw [if_pos (by omega), if_pos (by omega), q5]
  simp only [Option.bind_some]
  clear q0 q1 q2 q3 q4 q5
  by_cases h0 : b = 0
  case neg => rw [if_neg h0, if_neg (fun e => h0 e.1), rj4t k (by omega)]
  have hbd := hbd h0
  rw [if_pos h0]
  by_cases h1 : (hh : Int) > 23
  · rw [if_pos h1, if_neg (fun e => by omega), rj4t k (by omega)]
  rw [if_neg h1]
  by_cases h2 : (mi : Int) > 59
  · rw [if_pos h2, if_neg (fun e => by omega), rj4t k (by omega)]
  rw [if_neg h2]
  by_cases h3 : (s : Int) > 59
  · rw [decide_eq_true h3, if_neg (fun e => by omega), rj4t k (by omega)]
  rw [decide_eq_false h3, if_pos ⟨h0, by omega, by omega, by omega⟩, rj4 k (by omega) a hh mi s z (by omega) (by omega) (by omega) (by omega) hz]
theorem rj1 (x0 Z : ByteArray) (k : Nat) (hk : 100 ≤ k) (c0 c1 c2 c3 c4 c5 : UInt8) (hZ : Z.data.toList = [c0, c1, c2, c3, c4, c5]) (hok : zOk c0 c1 c2 c3 c4 c5 = true) (R : Option (Int × Int))
    (hN : val [c1, c2] > 23 ∨ val [c4, c5] > 59 → R = some (0, 2)) (hS : ¬ (val [c1, c2] > 23 ∨ val [c4, c5] > 59) → ∀ k', k ≤ k' + 3 → motleyref27_Parse.j3 k' x0 (if c0 = 45 then -(3600 * (val [c1, c2] : Int) + 60 * (val [c4, c5] : Int)) else 3600 * (val [c1, c2] : Int) + 60 * (val [c4, c5] : Int)) = R) : motleyref27_Parse.j1 k x0 Z true = R := by
  obtain ⟨k, rfl⟩ : ∃ j, k = j + 2 := ⟨k - 2, by omega⟩
  unfold zOk at hok
  simp only [Bool.and_eq_true] at hok
  obtain ⟨_, i1, i2, _, i4, i5⟩ := hok
  have d1 : ∀ c ∈ [c1, c2], isD c := by intro c hc; simp only [List.mem_cons, List.not_mem_nil, or_false] at hc; rcases hc with rfl | rfl <;> exact isDb_D ‹_›
  have d2 : ∀ c ∈ [c4, c5], isD c := by intro c hc; simp only [List.mem_cons, List.not_mem_nil, or_false] at hc; rcases hc with rfl | rfl <;> exact isDb_D ‹_›
  have hsz : Z.size = 6 := by rw [size_len, hZ]; rfl
  have q1 := digits_eq (Z.extract 1 3) [c1, c2] (ex_of Z _ _ hZ 1 3 rfl) d1 (by simp) (k + 1) (by omega)
  have q2 := digits_eq (Z.extract 4 6) [c4, c5] (ex_of Z _ _ hZ 4 6 rfl) d2 (by simp) (k + 1) (by omega)
  have v1 := val2 c1 c2 (isDb_D i1) (isDb_D i2)
  have v2 := val2 c4 c5 (isDb_D i4) (isDb_D i5)
  obtain ⟨m1, m2, _⟩ := mk1 Z c0 _ hZ
  generalize val [c1, c2] = a at *
  generalize val [c4, c5] = b at *
  simp only [motleyref27_Parse.j1]
  rw [if_pos trivial, if_pos (by omega), if_pos (by omega), q1]
  simp only [Option.bind_some]
  rw [if_pos (by omega), if_pos (by omega), q2]
  simp only [Option.bind_some, motleyref27_Parse.j2]
  by_cases h1 : a > 23
  · rw [if_pos (by omega), if_pos trivial, hN (.inl h1)]
  rw [if_neg (by omega)]
  by_cases h2 : b > 59
  · rw [if_pos (decide_eq_true (show (b : Int) > 59 by omega)), hN (.inr h2)]
  rw [if_neg (fun e => h2 (by have := of_decide_eq_true e; omega)), if_pos (by omega), m2]
  have e : Aside0 (wrap64 (wrap64 (3600 * (a : Int)) + wrap64 (60 * (b : Int))) = 3600 * (a : Int) + 60 * (b : Int)) := ⟨by
    rw [w64 (x := 3600 * (a : Int)) (by omega) (by omega), w64 (x := 60 * (b : Int)) (by omega) (by omega), w64 (by omega) (by omega)]⟩
  have e' : Aside0 (wrap64 (-(3600 * (a : Int) + 60 * (b : Int))) = -(3600 * (a : Int) + 60 * (b : Int))) := ⟨w64 (by omega) (by omega)⟩
  rw [e.out, e'.out]
  have hS := hS (by omega) k (by omega)
  by_cases h45 : c0 = 45
  · rw [if_pos h45] at hS
    rw [if_pos (by rw [h45]; rfl)]; exact hS
  · rw [if_neg h45] at hS
    rw [if_neg (sign_ne 45 45 rfl h45)]; exact hS
theorem rj1f (x0 Z : ByteArray) (k : Nat) (hk : 1 ≤ k) : motleyref27_Parse.j1 k x0 Z false = some (0, 2) := by
  obtain ⟨k, rfl⟩ : ∃ j, k = j + 1 := ⟨k - 1, by omega⟩
  simp only [motleyref27_Parse.j1]
  rw [if_neg (by simp)]
theorem rZone (x0 Z fB : ByteArray) (hf : fB.size = 19) (k : Nat) (hk : 300 ≤ k) (h20 : 20 ≤ x0.size) (hZ : x0.extract 19 x0.size = Z) (R : Option (Int × Int))
    (hN : zoneV Z.data.toList = none → R = some (0, 2)) (hS : ∀ z, zoneV Z.data.toList = some z → ∀ k', k ≤ k' + 5 → motleyref27_Parse.j3 k' x0 z = R) : motleyref27_Parse.j0 k x0 fB false = R := by
  obtain ⟨k, rfl⟩ : ∃ j, k = j + 1 := ⟨k - 1, by omega⟩
  simp only [motleyref27_Parse.j0]
  rw [if_neg (by simp), if_pos (by omega), if_pos (by omega), hf, Int.toNat_natCast, hZ, ByteArray.toList_eq, shape_eq Z _ (by decide) k (by omega), shape_eq Z _ (by decide) k (by omega)]
  simp only [Option.bind_some]
  obtain ⟨Zl, hZl⟩ : ∃ Zl, Z.data.toList = Zl := ⟨_, rfl⟩
  rw [hZl] at hN hS ⊢
  by_cases h90 : Zl = [90]
  · rw [if_pos h90]
    exact hS 0 (by rw [h90]; rfl) k (by omega)
  rw [if_neg h90]
  by_cases h6 : Zl.length = 6
  case neg =>
    have n1 : shB Zl [43, 48, 48, 58, 48, 48] = false := Bool.eq_false_iff.2 (fun e => h6 (shB_len _ _ e))
    have n2 : shB Zl [45, 48, 48, 58, 48, 48] = false := Bool.eq_false_iff.2 (fun e => h6 (shB_len _ _ e))
    rw [n1, n2, if_neg (by simp), rj1f x0 Z k (by omega), hN (zoneV_else Zl h90 h6)]
  case pos =>
    obtain ⟨c0, c1, c2, c3, c4, c5, rfl⟩ := ex6 Zl h6
    rw [zoneV_six] at hN hS
    have e1 : shB [c0, c1, c2, c3, c4, c5] [43, 48, 48, 58, 48, 48] = (decide (c0 = 43) && (isDb c1 && (isDb c2 && (decide (c3 = 58) && (isDb c4 && (isDb c5)))))) := by simp [shB]
    have e2 : shB [c0, c1, c2, c3, c4, c5] [45, 48, 48, 58, 48, 48] = (decide (c0 = 45) && (isDb c1 && (isDb c2 && (decide (c3 = 58) && (isDb c4 && (isDb c5)))))) := by simp [shB]
    rw [e1, e2]
    have hj : (if (decide (c0 = 43) && (isDb c1 && (isDb c2 && (decide (c3 = 58) && (isDb c4 && (isDb c5)))))) = true then motleyref27_Parse.j1 k x0 Z true else motleyref27_Parse.j1 k x0 Z (decide (c0 = 45) && (isDb c1 && (isDb c2 && (decide (c3 = 58) && (isDb c4 && (isDb c5))))))) = motleyref27_Parse.j1 k x0 Z (zOk c0 c1 c2 c3 c4 c5) := by
      unfold zOk
      generalize (isDb c1 && (isDb c2 && (decide (c3 = 58) && (isDb c4 && (isDb c5))))) = q
      by_cases h1 : c0 = 43
      · subst h1; cases q <;> rfl
      · by_cases h2 : c0 = 45
        · subst h2; cases q <;> rfl
        · simp [h1, h2]
    rw [hj]
    by_cases hok : zOk c0 c1 c2 c3 c4 c5 = true
    case neg =>
      rw [if_neg hok] at hN
      rw [Bool.eq_false_iff.2 hok, rj1f x0 Z k (by omega), hN rfl]
    case pos =>
      rw [if_pos hok] at hN
      rw [hok]
      refine rj1 x0 Z k (by omega) c0 c1 c2 c3 c4 c5 hZl hok R (fun h => hN (by rw [if_pos h])) (fun h k' hk' => hS _ (by rw [if_pos hok, if_neg h]) k' (by omega))
def frm : List UInt8 := [48, 48, 48, 48, 45, 48, 48, 45, 48, 48, 84, 48, 48, 58, 48, 48, 58, 48, 48]
theorem form_fields (T : ByteArray) (c0 c1 c2 c3 c4 c5 c6 c7 c8 c9 c10 c11 c12 c13 c14 c15 c16 c17 c18 : UInt8) (h : T.data.toList = [c0, c1, c2, c3, c4, c5, c6, c7, c8, c9, c10, c11, c12, c13, c14, c15, c16, c17, c18]) (hT : T.size = 19) : tap_fields.f T (⟨#[48, 48, 48, 48, 45, 48, 48, 45, 48, 48, 84, 48, 48, 58, 48, 48, 58, 48, 48]⟩ : ByteArray) = if shB [c0, c1, c2, c3, c4, c5, c6, c7, c8, c9, c10, c11, c12, c13, c14, c15, c16, c17, c18] frm = true then some ([(val [c0, c1, c2, c3] : Int), (val [c5, c6] : Int), (val [c8, c9] : Int), (val [c11, c12] : Int), (val [c14, c15] : Int), (val [c17, c18] : Int)], true) else some ([], false) := by
  unfold tap_fields.f
  rw [if_pos ⟨by rw [hT]; rfl, by omega, by decide⟩, h, fields_sh, show ((⟨#[48, 48, 48, 48, 45, 48, 48, 45, 48, 48, 84, 48, 48, 58, 48, 48, 58, 48, 48]⟩ : ByteArray)).data.toList = frm from rfl]
  have e2 : numsF [c0, c1, c2, c3, c4, c5, c6, c7, c8, c9, c10, c11, c12, c13, c14, c15, c16, c17, c18] frm [] [] = [(val [c0, c1, c2, c3] : Int), (val [c5, c6] : Int), (val [c8, c9] : Int), (val [c11, c12] : Int), (val [c14, c15] : Int), (val [c17, c18] : Int)] := rfl
  rw [e2]
  split <;> rfl
theorem form_dig (c0 c1 c2 c3 c4 c5 c6 c7 c8 c9 c10 c11 c12 c13 c14 c15 c16 c17 c18 : UInt8) (h : shB [c0, c1, c2, c3, c4, c5, c6, c7, c8, c9, c10, c11, c12, c13, c14, c15, c16, c17, c18] frm = true) : (∀ c ∈ [c0, c1, c2, c3], isD c) ∧ (∀ c ∈ [c5, c6], isD c) ∧ (∀ c ∈ [c8, c9], isD c) ∧ (∀ c ∈ [c11, c12], isD c) ∧ (∀ c ∈ [c14, c15], isD c) ∧ (∀ c ∈ [c17, c18], isD c) := by
  have e : shB [c0, c1, c2, c3, c4, c5, c6, c7, c8, c9, c10, c11, c12, c13, c14, c15, c16, c17, c18] frm = (isDb c0 && (isDb c1 && (isDb c2 && (isDb c3 && (decide (c4 = 45) && (isDb c5 && (isDb c6 && (decide (c7 = 45) && (isDb c8 && (isDb c9 && (decide (c10 = 84) && (isDb c11 && (isDb c12 && (decide (c13 = 58) && (isDb c14 && (isDb c15 && (decide (c16 = 58) && (isDb c17 && (isDb c18 && true))))))))))))))))))) := rfl
  rw [e] at h
  simp only [Bool.and_eq_true, and_true] at h
  obtain ⟨g0, g1, g2, g3, _, g5, g6, _, g8, g9, _, g11, g12, _, g14, g15, _, g17, g18⟩ := h
  simp only [List.mem_cons, List.not_mem_nil, or_false, forall_eq_or_imp, forall_eq]
  exact ⟨⟨isDb_D g0, isDb_D g1, isDb_D g2, isDb_D g3⟩, ⟨isDb_D g5, isDb_D g6⟩, ⟨isDb_D g8, isDb_D g9⟩, ⟨isDb_D g11, isDb_D g12⟩, ⟨isDb_D g14, isDb_D g15⟩, ⟨isDb_D g17, isDb_D g18⟩⟩
/-- Both sides read the same moment. -/
theorem parse_eq (s : ByteArray) (k : Nat) (hk : 400 ≤ k) : ∃ r, tap_Parse.f k s = some r ∧ motleyref27_Parse.f k s = some r := by
  unfold tap_Parse.f motleyref27_Parse.f
  by_cases h19 : s.size < 19
  · refine ⟨(0, 2), ?_, ?_⟩
    · rw [if_pos (by omega)]
    · obtain ⟨k, rfl⟩ : ∃ j, k = j + 1 := ⟨k - 1, by omega⟩
      rw [if_pos (by omega)]
      simp only [motleyref27_Parse.j0]
      rw [if_pos trivial]
  rw [if_neg (by omega), if_pos (by omega), if_pos (by omega), zone_eq _ k (by omega)]
  obtain ⟨c0, c1, c2, c3, c4, c5, c6, c7, c8, c9, c10, c11, c12, c13, c14, c15, c16, c17, c18, r, hl⟩ := ex19 s.data.toList (by rw [← size_len]; omega)
  have hT : (s.extract 0 19).data.toList = [c0, c1, c2, c3, c4, c5, c6, c7, c8, c9, c10, c11, c12, c13, c14, c15, c16, c17, c18] := ex_of s _ _ hl 0 19 rfl
  have hT9 : (s.extract 0 19).size = 19 := by rw [size_len, hT]; rfl
  have hF := form_fields _ c0 c1 c2 c3 c4 c5 c6 c7 c8 c9 c10 c11 c12 c13 c14 c15 c16 c17 c18 hT hT9
  rw [hF]
  by_cases h20 : s.size < 20
  · refine ⟨(0, 2), ?_, ?_⟩
    · have hz : (s.extract 19 s.size).data.toList = [] := nil_of _ (by rw [← size_len, ByteArray.size_extract]; omega)
      rw [hz, show zoneV [] = none from rfl]
      split <;> simp [pj0t k (by omega)]
    · obtain ⟨k, rfl⟩ : ∃ j, k = j + 1 := ⟨k - 1, by omega⟩
      rw [if_pos (by omega)]
      simp only [motleyref27_Parse.j0]
      rw [if_pos trivial]
  rw [if_neg (show ¬ ((s.size : Int) < 20) by omega), if_pos (show 0 ≤ 19 by omega), if_pos (show (19 : Int) ≤ (s.size : Int) by omega), shape_eq _ _ (by decide) k (by omega), hT, show ((⟨#[48, 48, 48, 48, 45, 48, 48, 45, 48, 48, 84, 48, 48, 58, 48, 48, 58, 48, 48]⟩ : ByteArray)).data.toList = frm from rfl]
  simp only [Option.bind_some]
  by_cases hsh : shB [c0, c1, c2, c3, c4, c5, c6, c7, c8, c9, c10, c11, c12, c13, c14, c15, c16, c17, c18] frm = true
  case neg =>
    rw [if_neg hsh, Bool.eq_false_iff.2 hsh]
    simp only [Option.bind_some]
    refine ⟨(0, 2), by rw [if_neg (by simp), pj0t k (by omega)], ?_⟩
    obtain ⟨k, rfl⟩ : ∃ j, k = j + 1 := ⟨k - 1, by omega⟩
    simp only [motleyref27_Parse.j0]
    rw [if_pos (show (!false) = true from rfl)]
  rw [if_pos hsh, hsh]
  simp only [Option.bind_some]
  rw [if_pos trivial]
  obtain ⟨d0, d1, d2, d3, d4, d5⟩ := form_dig c0 c1 c2 c3 c4 c5 c6 c7 c8 c9 c10 c11 c12 c13 c14 c15 c16 c17 c18 hsh
  obtain ⟨Z, hZ⟩ : ∃ Z, s.extract 19 s.size = Z := ⟨_, rfl⟩
  rw [hZ]
  cases hzv : zoneV Z.data.toList with
  | none =>
    refine ⟨(0, 2), pj0t k (by omega) _ _, ?_⟩
    exact rZone s Z _ rfl k (by omega) (by omega) hZ _ (fun _ => rfl) (fun z hz => by rw [hzv] at hz; cases hz)
  | some z =>
    have hb := zoneV_bd _ z hzv
    have b3 := val_bd4 _ d3 (by simp)
    have b4 := val_bd4 _ d4 (by simp)
    have b5 := val_bd4 _ d5 (by simp)
    have hP := pj0 k (by omega) (val [c0, c1, c2, c3] : Int) (val [c5, c6] : Int) (val [c8, c9] : Int) (val [c11, c12] : Int) (val [c14, c15] : Int) (val [c17, c18] : Int) z ⟨b3.1, by omega⟩ ⟨b4.1, by omega⟩ ⟨b5.1, by omega⟩ hb
    have hR := rZone s Z (⟨#[48, 48, 48, 48, 45, 48, 48, 45, 48, 48, 84, 48, 48, 58, 48, 48, 58, 48, 48]⟩ : ByteArray) rfl k (by omega) (by omega) hZ (finP (val [c0, c1, c2, c3] : Int) (val [c5, c6] : Int) (val [c8, c9] : Int) (val [c11, c12] : Int) (val [c14, c15] : Int) (val [c17, c18] : Int) z) (fun h => by rw [hzv] at h; cases h) (fun z' hz k' hk' => by
      rw [hzv] at hz
      cases hz
      exact rj3 s c0 c1 c2 c3 c4 c5 c6 c7 c8 c9 c10 c11 c12 c13 c14 c15 c16 c17 c18 r hl d0 d1 d2 d3 d4 d5 z hb k' (by omega))
    have hsome : ∃ v, finP (val [c0, c1, c2, c3] : Int) (val [c5, c6] : Int) (val [c8, c9] : Int) (val [c11, c12] : Int) (val [c14, c15] : Int) (val [c17, c18] : Int) z = some v := by
      unfold finP
      obtain ⟨a, b, hab⟩ := Days_some (val [c0, c1, c2, c3] : Int) (val [c5, c6] : Int) (val [c8, c9] : Int)
      rw [hab]
      simp only [Option.bind_some]
      split
      · split
        · exact ⟨_, rfl⟩
        · exact ⟨_, rfl⟩
      · exact ⟨_, rfl⟩
    obtain ⟨v, hv⟩ := hsome
    exact ⟨v, hP.trans hv, hR.trans hv⟩
end Go.Proofs.YtallfkecjibpmaaDoor.Q
