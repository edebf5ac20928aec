/- The plain law of TapStamps: moments written, and read back. Plain Lean. -/
import Derived.Test.YtallfkecjibpmaaGreatDoorPTap
import Derived.Test.YtallfkecjibpmaaGreatDoorNum
import Derived.Test.YtallfkecjibpmaaGreatDoorM1
import Derived.Test.YtallfkecjibpmaaGreatDoorM2
import Derived.Test.YtallfkecjibpmaaGreatDoorM3
import Derived.Lib.ItoaLen
set_option linter.unusedVariables false
set_option linter.unusedSimpArgs false
namespace Go.Proofs.YtallfkecjibpmaaGreatDoor.Q
open Go.RowKit Go.Proofs.YtallfkecjibpmaaGreatDoorW.PrintWords Go.Proofs.YtallfkecjibpmaaGreatDoor.G Go.Proofs.YtallfkecjibpmaaGreatDoor.M Go.Proofs.YtallfkecjibpmaaGreatDoor.Cal Go.Proofs.YtallfkecjibpmaaGreatDoor.Nm Go.Lib
theorem mInYears_eq (a : Int) : M.tap_inYears.f a = some (decide (-719162 ≤ a ∧ a < 2932897)) := inYears_eq a
theorem isDay_eq (n : Int) (k : Nat) (hk : 12 ≤ k) : motleyref27_isDay.f k n = some (decide (-719162 ≤ n ∧ n < 2932897)) := by
  unfold motleyref27_isDay.f
  rw [civil_eq 1 1 (by omega) (by omega) (by omega) (by omega) k hk, civil_eq 10000 1 (by omega) (by omega) (by omega) (by omega) k hk]
  simp only [Option.bind_some]
  rw [show bef 1 + mon 1 1 - 719162 = -719162 by decide, show bef 10000 + mon 10000 1 - 719162 = 2932897 by decide]
  by_cases h : -719162 ≤ n
  · rw [if_pos h]; congr 1; exact decide_eq_decide.2 ⟨fun x => ⟨h, x⟩, fun x => x.2⟩
  · rw [if_neg h, decide_eq_false (fun x => h x.1)]
theorem bef_bd (y : Int) (h1 : 1 ≤ y) (h2 : y ≤ 20000) : 0 ≤ bef y ∧ bef y ≤ 8000000 := by unfold bef; omega
theorem mon_bd (y m : Int) (h1 : 1 ≤ m) (h2 : m ≤ 13) : 0 ≤ mon y m ∧ mon y m ≤ 366 := by
  have q1 := mon_le y 1 m (by omega) (by omega) (by omega)
  have q2 := mon_le y m 13 (by omega) (by omega) (by omega)
  have q3 := mon_all y
  rw [mon_one] at q1
  omega
theorem rDate_l2 (n y : Int) (hn : -719162 ≤ n ∧ n < 2932897) (hy : 1 ≤ y) (hy2 : y ≤ 9999) (hn2 : n + 719162 < bef y + mon y 13) : ∀ (d : Nat) (k : Nat) (m : Int), 1 ≤ m → m ≤ 12 → 12 - m = d → d + 20 ≤ k → bef y + mon y m ≤ n + 719162 →
    motleyref27_Date.l2 k n y m = some ((dateOf (n + 719162)).1, (dateOf (n + 719162)).2.1, (dateOf (n + 719162)).2.2, 0)
  | d, k, m, h1, h2, hd, hk, hm => by
    obtain ⟨k, rfl⟩ : ∃ j, k = j + 1 := ⟨k - 1, by omega⟩
    have b0 := bef_bd y hy (by omega)
    have b1 := mon_bd y m h1 (by omega)
    have b2 := mon_bd y (m + 1) (by omega) (by omega)
    have fin : ¬ (m < 12 ∧ bef y + mon y (m + 1) ≤ n + 719162) → some (y, m, wrap64 (wrap64 (n - (bef y + mon y m - 719162)) + 1), (0 : Int)) = some ((dateOf (n + 719162)).1, (dateOf (n + 719162)).2.1, (dateOf (n + 719162)).2.2, 0) := by
      intro hno
      have hl := mon_next y m h1 h2
      have hlt : n + 719162 < bef y + mon y (m + 1) := by
        by_cases h12 : m < 12
        · omega
        · obtain rfl : m = 12 := by omega
          exact hn2
      rw [dateOf_eq (by omega) (by omega) (show IsDate (n + 719162) y m (n + 719162 - bef y - mon y m + 1) from ⟨hy, h1, h2, by omega, by omega, by omega⟩)]
      rw [w64 (x := n - (bef y + mon y m - 719162)) (by omega) (by omega), w64 (by omega) (by omega), show n - (bef y + mon y m - 719162) + 1 = n + 719162 - bef y - mon y m + 1 by omega]
    simp only [motleyref27_Date.l2]
    rw [civil_eq y m hy (by omega) h1 h2 k (by omega)]
    by_cases h12 : m < 12
    · rw [if_pos h12, w64 (x := m + 1) (by omega) (by omega), civil_eq y (m + 1) hy (by omega) (by omega) (by omega) k (by omega)]
      simp only [Option.bind_some]
      by_cases hle : bef y + mon y (m + 1) - 719162 ≤ n
      · rw [if_pos hle]
        cases d with
        | zero => omega
        | succ d => exact rDate_l2 n y hn hy hy2 hn2 d k (m + 1) (by omega) (by omega) (by omega) (by omega) (by omega)
      · rw [if_neg hle]
        exact fin (by omega)
    · rw [if_neg h12]
      simp only [Option.bind_some]
      exact fin (fun h => h12 h.1)
theorem rDate_l0 (n : Int) (hn : -719162 ≤ n ∧ n < 2932897) (s : Int) : ∀ (e : Nat), (∀ (k : Nat) (y : Int), 1 ≤ y → y ≤ 9999 → bef y ≤ n + 719162 → e ≤ k → motleyref27_Date.l0 k n y (wrap64 (Int.tdiv s 2)) = some ((dateOf (n + 719162)).1, (dateOf (n + 719162)).2.1, (dateOf (n + 719162)).2.2, 0)) →
    1 ≤ s → s ≤ 4096 → ∀ (d : Nat) (k : Nat) (y : Int), 1 ≤ y → y ≤ 9999 → bef y ≤ n + 719162 → 9999 - y ≤ d → d + e + 20 ≤ k → motleyref27_Date.l1 k n y s = some ((dateOf (n + 719162)).1, (dateOf (n + 719162)).2.1, (dateOf (n + 719162)).2.2, 0)
  | e, he, hs1, hs2, d, k, y, h1, h2, hb, hd, hk => by
    obtain ⟨k, rfl⟩ : ∃ j, k = j + 1 := ⟨k - 1, by omega⟩
    simp only [motleyref27_Date.l1]
    rw [w64 (x := y + s) (by omega) (by omega), isYear_eq]
    simp only [Option.bind_some, decide_eq_true_eq]
    by_cases hy : 1 ≤ y + s ∧ y + s ≤ 9999
    · rw [if_pos hy, civil_eq (y + s) 1 (by omega) (by omega) (by omega) (by omega) k (by omega), mon_one, Int.add_zero]
      simp only [Option.bind_some]
      by_cases hle : bef (y + s) - 719162 ≤ n
      · rw [if_pos hle]
        cases d with
        | zero => omega
        | succ d => exact rDate_l0 n hn s e he hs1 hs2 d k (y + s) (by omega) (by omega) (by omega) (by omega) (by omega)
      · rw [if_neg hle]
        exact he k y h1 h2 hb (by omega)
    · rw [if_neg hy]
      exact he k y h1 h2 hb (by omega)
theorem rDate_eq (n : Int) (k : Nat) (hk : 200000 ≤ k) : motleyref27_Date.f k n = G.tap_Date.f n := by
  unfold motleyref27_Date.f G.tap_Date.f
  rw [isDay_eq n k (by omega)]
  simp only [Option.bind_some, decide_eq_true_eq]
  by_cases hn : -719162 ≤ n ∧ n < 2932897
  case neg => rw [if_neg hn, if_neg hn]
  rw [if_pos hn, if_pos hn]
  have e10 : bef 10000 = 3652059 := by decide
  -- the last step is 1: then the year is found
  have last : ∀ (d : Nat) (k : Nat) (y : Int), 1 ≤ y → y ≤ 9999 → bef y ≤ n + 719162 → 9999 - y ≤ d → d + 200 ≤ k → motleyref27_Date.l1 k n y 1 = some ((dateOf (n + 719162)).1, (dateOf (n + 719162)).2.1, (dateOf (n + 719162)).2.2, 0) := by
    intro d
    induction d with
    | zero =>
      intro k y h1 h2 hb hd hk
      obtain rfl : y = 9999 := by omega
      obtain ⟨k, rfl⟩ : ∃ j, k = j + 1 + 1 := ⟨k - 2, by omega⟩
      simp only [motleyref27_Date.l1]
      rw [w64 (x := 9999 + 1) (by omega) (by omega), isYear_eq]
      simp only [Option.bind_some, decide_eq_true_eq]
      rw [if_neg (by omega), show Int.tdiv 1 2 = 0 from rfl, w64 (by omega) (by omega)]
      simp only [motleyref27_Date.l0]
      rw [if_neg (by omega)]
      exact rDate_l2 n 9999 hn (by omega) (by omega) (by rw [← bef_next 9999 (by omega)]; show n + 719162 < bef 10000; omega) 11 k 1 (by omega) (by omega) (by omega) (by omega) (by rw [mon_one]; omega)
    | succ d ih =>
      intro k y h1 h2 hb hd hk
      obtain ⟨k, rfl⟩ : ∃ j, k = j + 1 + 1 := ⟨k - 2, by omega⟩
      have stop : n + 719162 < bef (y + 1) → motleyref27_Date.l0 (k + 1) n y (wrap64 (Int.tdiv 1 2)) = some ((dateOf (n + 719162)).1, (dateOf (n + 719162)).2.1, (dateOf (n + 719162)).2.2, 0) := by
        intro hlt
        rw [show Int.tdiv 1 2 = 0 from rfl, w64 (by omega) (by omega)]
        simp only [motleyref27_Date.l0]
        rw [if_neg (by omega)]
        exact rDate_l2 n y hn h1 h2 (by rw [← bef_next y h1]; exact hlt) 11 k 1 (by omega) (by omega) (by omega) (by omega) (by rw [mon_one]; omega)
      simp only [motleyref27_Date.l1]
      rw [w64 (x := y + 1) (by omega) (by omega), isYear_eq]
      simp only [Option.bind_some, decide_eq_true_eq]
      by_cases hy : 1 ≤ y + 1 ∧ y + 1 ≤ 9999
      · rw [if_pos hy, civil_eq (y + 1) 1 (by omega) (by omega) (by omega) (by omega) (k + 1) (by omega), mon_one, Int.add_zero]
        simp only [Option.bind_some]
        by_cases hle : bef (y + 1) - 719162 ≤ n
        · rw [if_pos hle]
          exact ih (k + 1) (y + 1) (by omega) (by omega) (by omega) (by omega) (by omega)
        · rw [if_neg hle]
          exact stop (by omega)
      · rw [if_neg hy]
        obtain rfl : y = 9999 := by omega
        exact stop (by show n + 719162 < bef 10000; omega)
  have step : ∀ (s : Int) (e : Nat), (∀ (k : Nat) (y : Int), 1 ≤ y → y ≤ 9999 → bef y ≤ n + 719162 → e ≤ k → motleyref27_Date.l1 k n y s = some ((dateOf (n + 719162)).1, (dateOf (n + 719162)).2.1, (dateOf (n + 719162)).2.2, 0)) → 1 ≤ s → s ≤ 2048 →
      ∀ (k : Nat) (y : Int), 1 ≤ y → y ≤ 9999 → bef y ≤ n + 719162 → e + 10100 ≤ k → motleyref27_Date.l1 k n y (2 * s) = some ((dateOf (n + 719162)).1, (dateOf (n + 719162)).2.1, (dateOf (n + 719162)).2.2, 0) := by
    intro s e he h1 h2 k y hy hy2 hb hk
    refine rDate_l0 n hn (2 * s) (e + 1) ?_ (by omega) (by omega) 9999 k y hy hy2 hb (by omega) (by omega)
    intro k y hy hy2 hb hk
    obtain ⟨k, rfl⟩ : ∃ j, k = j + 1 := ⟨k - 1, by omega⟩
    have e2 : wrap64 (Int.tdiv (2 * s) 2) = s := by rw [Int.tdiv_eq_ediv_of_nonneg (by omega), w64 (by omega) (by omega)]; omega
    rw [e2]
    simp only [motleyref27_Date.l0]
    rw [if_pos (by omega)]
    exact he k y hy hy2 hb (by omega)
  have s0 : ∀ (k : Nat) (y : Int), 1 ≤ y → y ≤ 9999 → bef y ≤ n + 719162 → 10300 ≤ k → motleyref27_Date.l1 k n y 1 = _ := fun k y a b c d => last 9999 k y a b c (by omega) (by omega)
  have s1 := step 1 _ s0 (by omega) (by omega)
  have s2 := step 2 _ s1 (by omega) (by omega)
  have s3 := step 4 _ s2 (by omega) (by omega)
  have s4 := step 8 _ s3 (by omega) (by omega)
  have s5 := step 16 _ s4 (by omega) (by omega)
  have s6 := step 32 _ s5 (by omega) (by omega)
  have s7 := step 64 _ s6 (by omega) (by omega)
  have s8 := step 128 _ s7 (by omega) (by omega)
  have s9 := step 256 _ s8 (by omega) (by omega)
  have s10 := step 512 _ s9 (by omega) (by omega)
  have s11 := step 1024 _ s10 (by omega) (by omega)
  have s12 := step 2048 _ s11 (by omega) (by omega)
  obtain ⟨k, rfl⟩ : ∃ j, k = j + 1 := ⟨k - 1, by omega⟩
  simp only [motleyref27_Date.l0]
  rw [if_pos (by omega)]
  exact s12 k 1 (by omega) (by omega) (by rw [show bef 1 = 0 by decide]; omega) (by omega)
theorem modulo_eq (a b : Int) (hb : 1 ≤ b) (hb2 : b ≤ 1000000) (ha : -4000000000000000000 ≤ a) (ha2 : a ≤ 4000000000000000000) : motleyref27_modulo.f a b = some (a % b) := by
  unfold motleyref27_modulo.f
  have h1 : -b < Int.tmod a b := by have := Int.lt_tmod_of_pos a (show 0 < b by omega); omega
  have h2 : Int.tmod a b < b := Int.tmod_lt_of_pos a (by omega)
  rw [if_neg (by omega), w64 (by omega) (by omega), Int.tmod_eq_emod_of_nonneg (by omega), Int.add_emod_right]
  congr 1
  rw [Int.tmod_eq_emod]
  split
  · rw [show ((0 : Nat) : Int) = 0 from rfl, Int.sub_zero, Int.emod_emod_of_dvd _ (Int.dvd_refl b)]
  · rw [show ((b.natAbs : Nat) : Int) = b by omega, Int.sub_emod_right, Int.emod_emod_of_dvd _ (Int.dvd_refl b)]
theorem Date_back (n : Int) (h : -719162 ≤ n ∧ n < 2932897) : G.tap_Days.f (dateOf (n + 719162)).1 (dateOf (n + 719162)).2.1 (dateOf (n + 719162)).2.2 = some (n, 0) := by
  obtain ⟨hd, hy⟩ := dateOf_is (n + 719162) (by omega) (by omega)
  obtain ⟨d1, d2, d3, d4, d5, d6⟩ := hd
  unfold G.tap_Days.f
  rw [if_pos ⟨d1, hy, d2, d3, d4, d5⟩]
  congr 2
  omega
def mk (l : List UInt8) : ByteArray := ⟨l.toArray⟩
theorem mk_list (l : List UInt8) : (mk l).data.toList = l := by simp [mk]
theorem mk_size (l : List UInt8) : (mk l).size = l.length := by simp [mk, ByteArray.size]
theorem mk_of (s : ByteArray) : mk s.data.toList = s := by cases s; simp [mk]
theorem ba_ext {a b : ByteArray} (h : a.data.toList = b.data.toList) : a = b := by rw [← mk_of a, ← mk_of b, h]
theorem mk_cat (a b : List UInt8) : mk a ++ mk b = mk (a ++ b) := by apply ba_ext; simp [mk]
theorem toList_mk (l : List UInt8) : (mk l).toList = l := by rw [ByteArray.toList_eq, mk_list]
theorem itoa_nat (n : Nat) : itoa (n : Int) = decDigits n := itoa_nonneg n
theorem dec_len19 {u : Nat} (h : u ≤ 9223372036854775807) : (decDigits u).length ≤ 19 := Nm.dec_len 18 u (by omega)
theorem pad_eq (n w : Nat) (hn : n ≤ 9223372036854775807) (hw : w ≤ 100) : tap_pad.f (n : Int) (w : Int) = some (mk (Nm.pad w n)) := by
  unfold tap_pad.f strconv_Itoa.f
  rw [if_pos (by omega), itoa_nat]
  simp only [Option.bind_some]
  have hl := dec_len19 hn
  have hs : (⟨(decDigits n).toArray⟩ : ByteArray).size = (decDigits n).length := mk_size _
  have hm : mx 0 (wrap64 ((w : Int) - ((⟨(decDigits n).toArray⟩ : ByteArray).size : Int))) = ((w - (decDigits n).length : Nat) : Int) := by
    rw [hs, w64 (by omega) (by omega)]
    unfold mx
    split <;> omega
  rw [hm]
  unfold strings_Repeat.f
  have h1 : (⟨#[48]⟩ : ByteArray).size = 1 := rfl
  rw [if_pos ⟨by omega, by omega, by rw [h1, Int.toNat_natCast]; omega⟩]
  simp only [Option.bind_some]
  rw [Int.toNat_natCast]
  have hr : Lib.repeatL (⟨#[48]⟩ : ByteArray).data.toList (w - (decDigits n).length) = List.replicate (w - (decDigits n).length) 48 := by
    have := repeatL_replicate 48 1 (w - (decDigits n).length)
    rw [Nat.mul_one] at this
    exact this
  rw [hr, if_pos (by rw [hs, show (⟨(List.replicate (w - (decDigits n).length) (48 : UInt8)).toArray⟩ : ByteArray).size = w - (decDigits n).length from by rw [show (⟨(List.replicate (w - (decDigits n).length) (48 : UInt8)).toArray⟩ : ByteArray) = mk (List.replicate (w - (decDigits n).length) 48) from rfl, mk_size, List.length_replicate]]; omega)]
  unfold Nm.pad
  exact congrArg some (mk_cat _ _)
theorem padded_l0 (w : Nat) (hw : w ≤ 100) : ∀ (d k : Nat) (u : List UInt8), w - u.length = d → d < k → u.length ≤ 1000 → motleyref27_padded.l0 k (w : Int) (mk u) = some (mk (List.replicate d 48 ++ u))
  | 0, k, u, hd, hk, hu => by
    obtain ⟨k, rfl⟩ : ∃ j, k = j + 1 := ⟨k - 1, by omega⟩
    simp only [motleyref27_padded.l0]
    rw [mk_size, if_neg (by omega)]
    rfl
  | d + 1, k, u, hd, hk, hu => by
    obtain ⟨k, rfl⟩ : ∃ j, k = j + 1 := ⟨k - 1, by omega⟩
    simp only [motleyref27_padded.l0]
    rw [mk_size, if_pos (by omega), if_pos (by omega), show (⟨#[48]⟩ : ByteArray) = mk [48] from rfl, mk_cat, padded_l0 w hw d k ([48] ++ u) (by simp; omega) (by omega) (by simp; omega), List.replicate_succ']
    simp
theorem padded_eq (n w k : Nat) (hn : n ≤ 9223372036854775807) (hw : w ≤ 100) (hk : 200 ≤ k) : motleyref27_padded.f k (n : Int) (w : Int) = some (mk (Nm.pad w n)) := by
  unfold motleyref27_padded.f motleyref01_Written.f
  rw [if_pos (by omega), itoa_nat]
  simp only [Option.bind_some]
  have hl := dec_len19 hn
  exact padded_l0 w hw _ k (decDigits n) rfl (by omega) (by omega)
theorem pad_len30 (n w : Nat) (hn : n ≤ 9223372036854775807) (hw : w ≤ 10) : (Nm.pad w n).length ≤ 30 := by
  have hl := dec_len19 hn
  rw [pad_le]
  omega
theorem floor_eq (a : Int) (h0 : -9223372036854775808 ≤ a) (h1 : a ≤ 9223372036854775807) : tap_floor.f a 86400 = some (a / 86400, a % 86400) := by
  unfold tap_floor.f
  have e : Int.tmod a 86400 = if 0 ≤ a ∨ a % 86400 = 0 then a % 86400 else a % 86400 - 86400 := by
    rw [Int.tmod_eq_emod]
    by_cases h : 0 ≤ a
    · rw [if_pos (.inl h), if_pos (.inl h)]; omega
    · by_cases h2 : a % 86400 = 0
      · rw [if_pos (.inr (by omega)), if_pos (.inr h2)]; omega
      · rw [if_neg (by omega), if_neg (by omega)]; omega
  have d : Int.tdiv a 86400 = if 0 ≤ a ∨ a % 86400 = 0 then a / 86400 else a / 86400 + 1 := by
    have h3 := Int.mul_tdiv_add_tmod a 86400
    rw [e] at h3
    by_cases h : 0 ≤ a ∨ a % 86400 = 0
    · rw [if_pos h] at h3 ⊢; omega
    · rw [if_neg h] at h3 ⊢; omega
  rw [if_neg (by omega), e, d]
  by_cases h : 0 ≤ a ∨ a % 86400 = 0
  · rw [if_pos h, if_pos h, if_neg (by omega), w64 (by omega) (by omega)]
  · rw [if_neg h, if_neg h, if_pos (by omega), w64 (x := a / 86400 + 1) (by omega) (by omega), w64 (by omega) (by omega), w64 (by omega) (by omega)]
    congr 2 <;> omega
theorem clock_eq (a : Int) (h0 : -9223372036854775808 ≤ a) (h1 : a ≤ 9223372036854775807) : tap_clock.f a = some (a / 86400, a % 86400 / 3600, a % 86400 / 60 % 60, a % 86400 % 60, decide (-719162 ≤ a / 86400 ∧ a / 86400 < 2932897)) := by
  unfold tap_clock.f
  rw [floor_eq a h0 h1]
  simp only [Option.bind_some]
  rw [mInYears_eq]
  simp only [Option.bind_some]
  have hr : 0 ≤ a % 86400 ∧ a % 86400 < 86400 := by omega
  generalize a % 86400 = r at *
  rw [Int.tdiv_eq_ediv_of_nonneg hr.1, Int.tdiv_eq_ediv_of_nonneg hr.1, w64 (x := r / 3600) (by omega) (by omega), w64 (x := r / 60) (by omega) (by omega), Int.tmod_eq_emod_of_nonneg (by omega), Int.tmod_eq_emod_of_nonneg hr.1]
theorem day_eq (a : Int) (h0 : -2000000000000000000 ≤ a) (h1 : a ≤ 2000000000000000000) : motleyref27_day.f a = some (a / 86400, a % 86400) := by
  unfold motleyref27_day.f
  rw [modulo_eq a 86400 (by omega) (by omega) (by omega) (by omega)]
  simp only [Option.bind_some]
  have e : Int.tdiv (a - a % 86400) 86400 = a / 86400 := by
    have h3 := Int.mul_tdiv_add_tmod (a - a % 86400) 86400
    have h4 : Int.tmod (a - a % 86400) 86400 = 0 := Int.tmod_eq_zero_of_dvd (by omega)
    omega
  rw [w64 (x := a - a % 86400) (by omega) (by omega), e, w64 (by omega) (by omega)]
theorem pad_int (x w : Int) (h0 : 0 ≤ x) (h1 : x ≤ 9223372036854775807) (w0 : 0 ≤ w) (w1 : w ≤ 10) : tap_pad.f x w = some (mk (Nm.pad w.toNat x.toNat)) := by
  have := pad_eq x.toNat w.toNat (by omega) (by omega)
  rw [Int.toNat_of_nonneg h0, Int.toNat_of_nonneg w0] at this
  exact this
theorem padded_int (x w : Int) (k : Nat) (hk : 200 ≤ k) (h0 : 0 ≤ x) (h1 : x ≤ 9223372036854775807) (w0 : 0 ≤ w) (w1 : w ≤ 10) : motleyref27_padded.f k x w = some (mk (Nm.pad w.toNat x.toNat)) := by
  have := padded_eq x.toNat w.toNat k (by omega) (by omega) hk
  rw [Int.toNat_of_nonneg h0, Int.toNat_of_nonneg w0] at this
  exact this
def stampL (y m d r : Int) : List UInt8 := Nm.pad 4 y.toNat ++ ([45] ++ (Nm.pad 2 m.toNat ++ ([45] ++ (Nm.pad 2 d.toNat ++ ([84] ++ (Nm.pad 2 (r / 3600).toNat ++ ([58] ++ (Nm.pad 2 (r / 60 % 60).toNat ++ ([58] ++ (Nm.pad 2 (r % 60).toNat ++ [90]))))))))))
def inY (sec : Int) : Bool := decide (-719162 ≤ sec / 86400 ∧ sec / 86400 < 2932897)
def dateS (sec : Int) : Int × Int × Int := dateOf (sec / 86400 + 719162)
def stampR (sec : Int) : ByteArray × Int := if inY sec = true then (mk (stampL (dateS sec).1 (dateS sec).2.1 (dateS sec).2.2 (sec % 86400)), 0) else (⟨#[]⟩, 1)
theorem rStamp_eq (sec : Int) (k : Nat) (hk : 200001 ≤ k) : motleyref27_Stamp.f k sec = some (stampR sec) := by
  obtain ⟨k, rfl⟩ : ∃ j, k = j + 1 := ⟨k - 1, by omega⟩
  unfold motleyref27_Stamp.f stampR inY
  by_cases h1 : sec < -1152921504606846976
  · rw [if_pos h1, motleyref27_Stamp.j0, if_pos rfl, if_neg (by simp; omega)]
  rw [if_neg h1, motleyref27_Stamp.j0]
  by_cases h2 : sec > 1152921504606846976
  · rw [if_pos (by simpa using h2), if_neg (by simp; omega)]
  rw [if_neg (by simpa using h2), day_eq sec (by omega) (by omega)]
  simp only [Option.bind_some]
  rw [rDate_eq _ k (by omega)]
  unfold G.tap_Date.f dateS
  by_cases hd : -719162 ≤ sec / 86400 ∧ sec / 86400 < 2932897
  case neg =>
    rw [if_neg hd, if_neg (by simpa using hd)]
    rfl
  rw [if_pos hd, if_pos (by simpa using hd)]
  obtain ⟨n, hn⟩ : ∃ n, sec / 86400 = n := ⟨_, rfl⟩
  rw [hn] at hd ⊢
  clear hn
  obtain ⟨hD, hy⟩ := dateOf_is (n + 719162) (by omega) (by omega)
  obtain ⟨d1, d2, d3, d4, d5, d6⟩ := hD
  have hl2 := len_pos (dateOf (n + 719162)).1 (dateOf (n + 719162)).2.1
  have hr : 0 ≤ sec % 86400 ∧ sec % 86400 < 86400 := by omega
  generalize sec % 86400 = r at *
  clear h1 h2
  generalize (dateOf (n + 719162)).1 = y at *
  generalize (dateOf (n + 719162)).2.1 = m at *
  generalize (dateOf (n + 719162)).2.2 = d at *
  simp only [Option.bind_some, if_true]
  rw [Int.tdiv_eq_ediv_of_nonneg hr.1, Int.tdiv_eq_ediv_of_nonneg hr.1, Int.tmod_eq_emod_of_nonneg hr.1, w64 (x := r / 3600) (by omega) (by omega), w64 (x := r / 60) (by omega) (by omega), Int.tmod_eq_emod_of_nonneg (show 0 ≤ r / 60 by omega)]
  rw [padded_int y 4 k (by omega) (by omega) (by omega) (by omega) (by omega), padded_int m 2 k (by omega) (by omega) (by omega) (by omega) (by omega), padded_int d 2 k (by omega) (by omega) (by omega) (by omega) (by omega), padded_int (r / 3600) 2 k (by omega) (by omega) (by omega) (by omega) (by omega), padded_int (r / 60 % 60) 2 k (by omega) (by omega) (by omega) (by omega) (by omega), padded_int (r % 60) 2 k (by omega) (by omega) (by omega) (by omega) (by omega)]
  simp only [Option.bind_some]
  have z1 := pad_len30 y.toNat 4 (by omega) (by omega)
  have z2 := pad_len30 m.toNat 2 (by omega) (by omega)
  have z3 := pad_len30 d.toNat 2 (by omega) (by omega)
  have z4 := pad_len30 (r / 3600).toNat 2 (by omega) (by omega)
  have z5 := pad_len30 (r / 60 % 60).toNat 2 (by omega) (by omega)
  have z6 := pad_len30 (r % 60).toNat 2 (by omega) (by omega)
  rw [show Int.toNat 4 = 4 from rfl, show Int.toNat 2 = 2 from rfl]
  unfold stampL
  generalize Nm.pad 4 y.toNat = p1 at *
  generalize Nm.pad 2 m.toNat = p2 at *
  generalize Nm.pad 2 d.toNat = p3 at *
  generalize Nm.pad 2 (r / 3600).toNat = p4 at *
  generalize Nm.pad 2 (r / 60 % 60).toNat = p5 at *
  generalize Nm.pad 2 (r % 60).toNat = p6 at *
  simp only [show (⟨#[45]⟩ : ByteArray) = mk [45] from rfl, show (⟨#[84]⟩ : ByteArray) = mk [84] from rfl, show (⟨#[58]⟩ : ByteArray) = mk [58] from rfl, show (⟨#[90]⟩ : ByteArray) = mk [90] from rfl, mk_cat, mk_size, List.length_append, List.length_singleton, List.append_assoc]
  repeat rw [if_pos (by omega)]
theorem Days_some (y m d : Int) : ∃ a b, tap_Days.f y m d = some (a, b) := by
  unfold tap_Days.f
  split
  · exact ⟨_, _, rfl⟩
  · exact ⟨_, _, rfl⟩
theorem Days_bd (y m d a b : Int) (h : tap_Days.f y m d = some (a, b)) : b = 0 → -719162 ≤ a ∧ a < 2932897 + 400 := by
  unfold tap_Days.f at h
  split at h
  case isTrue hh =>
    obtain ⟨h1, h2, h3, h4, h5, h6⟩ := hh
    simp only [Option.some.injEq, Prod.mk.injEq] at h
    have hb : 0 ≤ bef y ∧ bef y ≤ 3652000 := by unfold bef; omega
    have hl := len_pos y m
    have q1 := mon_le y 1 m (by omega) (by omega) (by omega)
    have q2 := mon_le y m 13 (by omega) (by omega) (by omega)
    have q3 := mon_all y
    rw [mon_one] at q1
    intro _
    omega
  case isFalse =>
    simp only [Option.some.injEq, Prod.mk.injEq] at h
    omega
def shB : List UInt8 → List UInt8 → Bool
  | [], [] => true
  | c :: s, p :: q => (if p = 48 then isDb c else decide (c = p)) && shB s q
  | _, _ => false
def numsF : List UInt8 → List UInt8 → List Int → List UInt8 → List Int
  | c :: s, p :: q, out, ds => if p = 48 then numsF s q out (ds ++ [c]) else numsF s q (out ++ [(val ds : Int)]) []
  | _, _, out, ds => out ++ [(val ds : Int)]
theorem fields_sh : ∀ (s p : List UInt8) (out : List Int) (ds : List UInt8), fieldsF s p out ds = if shB s p = true then some (numsF s p out ds) else none
  | [], [], out, ds => by simp [fieldsF, shB, numsF]
  | [], _ :: _, out, ds => by simp [fieldsF, shB]
  | _ :: _, [], out, ds => by simp [fieldsF, shB]
  | c :: s, p :: q, out, ds => by
    rw [fieldsF, shB, numsF]
    by_cases h : p = 48
    · rw [if_pos h, if_pos h, if_pos h]
      by_cases hd : isDb c = true
      · rw [if_pos hd, hd, Bool.true_and]; exact fields_sh s q out _
      · rw [if_neg hd, Bool.eq_false_iff.2 hd]; rfl
    · rw [if_neg h, if_neg h, if_neg h]
      by_cases he : c = p
      · rw [if_pos he, decide_eq_true he, Bool.true_and]; exact fields_sh s q _ []
      · rw [if_neg he, decide_eq_false he]; rfl
theorem nil_of (l : List UInt8) (h : l.length = 0) : l = [] := List.eq_nil_of_length_eq_zero h
def finP (y m d h mi s z : Int) : Option (Int × Int) := (tap_Days.f y m d).bind fun q => if q.2 = 0 ∧ h ≤ 23 ∧ mi ≤ 59 ∧ s ≤ 59 then (if -719162 ≤ (86400 * q.1 + 3600 * h + 60 * mi + s - z) / 86400 ∧ (86400 * q.1 + 3600 * h + 60 * mi + s - z) / 86400 < 2932897 then some (86400 * q.1 + 3600 * h + 60 * mi + s - z, 0) else some (0, 1)) else some (0, 2)
theorem wr_eq (a h mi s z : Int) (ha : -10000000 ≤ a ∧ a ≤ 10000000) (hh : 0 ≤ h ∧ h < 10000) (hm : 0 ≤ mi ∧ mi < 10000) (hs : 0 ≤ s ∧ s < 10000) (hz : -100000 ≤ z ∧ z ≤ 100000) :
    wrap64 ((wrap64 ((wrap64 ((wrap64 ((wrap64 (86400 * a)) + (wrap64 (3600 * h)))) + (wrap64 (60 * mi)))) + s)) - z) = 86400 * a + 3600 * h + 60 * mi + s - z := by
  rw [w64 (x := 86400 * a) (by omega) (by omega), w64 (x := 3600 * h) (by omega) (by omega), w64 (x := 60 * mi) (by omega) (by omega), w64 (x := 86400 * a + 3600 * h) (by omega) (by omega), w64 (x := 86400 * a + 3600 * h + 60 * mi) (by omega) (by omega), w64 (x := 86400 * a + 3600 * h + 60 * mi + s) (by omega) (by omega), w64 (by omega) (by omega)]
theorem pj1 (k : Nat) (hk : 1 ≤ k) (y mo d a h mi s z : Int) (ha : -10000000 ≤ a ∧ a ≤ 10000000) (hh : 0 ≤ h ∧ h < 10000) (hm : 0 ≤ mi ∧ mi < 10000) (hs : 0 ≤ s ∧ s < 10000) (hz : -100000 ≤ z ∧ z ≤ 100000) :
    tap_Parse.j1 k [y, mo, d, h, mi, s] z a false = if -719162 ≤ (86400 * a + 3600 * h + 60 * mi + s - z) / 86400 ∧ (86400 * a + 3600 * h + 60 * mi + s - z) / 86400 < 2932897 then some (86400 * a + 3600 * h + 60 * mi + s - z, 0) else some (0, 1) := by
  obtain ⟨k, rfl⟩ : ∃ j, k = j + 1 := ⟨k - 1, by omega⟩
  simp only [tap_Parse.j1]
  rw [if_neg (by simp), if_pos (by simp), if_pos (by simp), if_pos (by simp), show rd [y, mo, d, h, mi, s] 3 = h from rfl, show rd [y, mo, d, h, mi, s] 4 = mi from rfl, show rd [y, mo, d, h, mi, s] 5 = s from rfl, wr_eq a h mi s z ha hh hm hs hz]
  have hb : -1000000000000 ≤ 86400 * a + 3600 * h + 60 * mi + s - z ∧ 86400 * a + 3600 * h + 60 * mi + s - z ≤ 1000000000000 := by omega
  generalize 86400 * a + 3600 * h + 60 * mi + s - z = n at *
  rw [clock_eq n (by omega) (by omega)]
  simp only [Option.bind_some, decide_eq_true_eq]
theorem pj1t (k : Nat) (hk : 1 ≤ k) (L : List Int) (a z : Int) : tap_Parse.j1 k L z a true = some (0, 2) := by
  obtain ⟨k, rfl⟩ : ∃ j, k = j + 1 := ⟨k - 1, by omega⟩
  simp only [tap_Parse.j1]
  rw [if_pos trivial]
theorem pj0 (k : Nat) (hk : 2 ≤ k) (y mo d h mi s z : Int) (hh : 0 ≤ h ∧ h < 10000) (hm : 0 ≤ mi ∧ mi < 10000) (hs : 0 ≤ s ∧ s < 10000) (hz : -100000 ≤ z ∧ z ≤ 100000) :
    tap_Parse.j0 k [y, mo, d, h, mi, s] z false = finP y mo d h mi s z := by
  obtain ⟨k, rfl⟩ : ∃ j, k = j + 1 := ⟨k - 1, by omega⟩
  simp only [tap_Parse.j0]
  rw [if_neg (by simp), if_pos (by simp), if_pos (by simp), if_pos (by simp), show rd [y, mo, d, h, mi, s] 0 = y from rfl, show rd [y, mo, d, h, mi, s] 1 = mo from rfl, show rd [y, mo, d, h, mi, s] 2 = d from rfl, show rd [y, mo, d, h, mi, s] 3 = h from rfl, show rd [y, mo, d, h, mi, s] 4 = mi from rfl, show rd [y, mo, d, h, mi, s] 5 = s from rfl]
  unfold finP
  obtain ⟨a, b, hab⟩ := Days_some y mo d
  have hbd := Days_bd y mo d a b hab
  rw [hab]
  simp only [Option.bind_some]
  by_cases h0 : b = 0
  case neg => rw [if_neg h0, if_neg (fun e => h0 e.1), pj1t k (by omega)]
  have hbd := hbd h0
  rw [if_pos h0, if_pos (by simp)]
  by_cases h1 : h > 23
  · rw [if_pos h1, if_neg (fun e => by omega), pj1t k (by omega)]
  rw [if_neg h1, if_pos (by simp)]
  by_cases h2 : mi > 59
  · rw [if_pos h2, if_neg (fun e => by omega), pj1t k (by omega)]
  rw [if_neg h2, if_pos (by simp)]
  by_cases h3 : s > 59
  · rw [decide_eq_true h3, if_neg (fun e => by omega), pj1t k (by omega)]
  rw [decide_eq_false h3, if_pos ⟨h0, by omega, by omega, by omega⟩, pj1 k (by omega) y mo d a h mi s z (by omega) hh hm hs hz]
theorem ex_of (s : ByteArray) (L l : List UInt8) (h : s.data.toList = L) (a b : Nat) (e : (L.drop a).take (b - a) = l) : (s.extract a b).data.toList = l := by
  rw [Lib.extract_data, h, e]
def frm : List UInt8 := [48, 48, 48, 48, 45, 48, 48, 45, 48, 48, 84, 48, 48, 58, 48, 48, 58, 48, 48]
theorem form_fields (T : ByteArray) (c0 c1 c2 c3 c4 c5 c6 c7 c8 c9 c10 c11 c12 c13 c14 c15 c16 c17 c18 : UInt8) (h : T.data.toList = [c0, c1, c2, c3, c4, c5, c6, c7, c8, c9, c10, c11, c12, c13, c14, c15, c16, c17, c18]) (hT : T.size = 19) : tap_fields.f T (⟨#[48, 48, 48, 48, 45, 48, 48, 45, 48, 48, 84, 48, 48, 58, 48, 48, 58, 48, 48]⟩ : ByteArray) = if shB [c0, c1, c2, c3, c4, c5, c6, c7, c8, c9, c10, c11, c12, c13, c14, c15, c16, c17, c18] frm = true then some ([(val [c0, c1, c2, c3] : Int), (val [c5, c6] : Int), (val [c8, c9] : Int), (val [c11, c12] : Int), (val [c14, c15] : Int), (val [c17, c18] : Int)], true) else some ([], false) := by
  unfold tap_fields.f
  rw [if_pos ⟨by rw [hT]; rfl, by omega, by decide⟩, h, fields_sh, show ((⟨#[48, 48, 48, 48, 45, 48, 48, 45, 48, 48, 84, 48, 48, 58, 48, 48, 58, 48, 48]⟩ : ByteArray)).data.toList = frm from rfl]
  have e2 : numsF [c0, c1, c2, c3, c4, c5, c6, c7, c8, c9, c10, c11, c12, c13, c14, c15, c16, c17, c18] frm [] [] = [(val [c0, c1, c2, c3] : Int), (val [c5, c6] : Int), (val [c8, c9] : Int), (val [c11, c12] : Int), (val [c14, c15] : Int), (val [c17, c18] : Int)] := rfl
  rw [e2]
  split <;> rfl
theorem pStamp_eq (sec : Int) (h0 : -9223372036854775808 ≤ sec) (h1 : sec ≤ 9223372036854775807) : tap_Stamp.f sec = some (stampR sec) := by
  unfold tap_Stamp.f stampR inY
  rw [clock_eq sec h0 h1]
  simp only [Option.bind_some]
  unfold G.tap_Date.f dateS
  by_cases hd : -719162 ≤ sec / 86400 ∧ sec / 86400 < 2932897
  case neg =>
    rw [if_neg (by simpa using hd), if_neg (by simpa using hd)]
  repeat rw [if_pos (by simpa using hd)]
  obtain ⟨n, hn⟩ : ∃ n, sec / 86400 = n := ⟨_, rfl⟩
  rw [hn] at hd ⊢
  clear hn
  obtain ⟨hD, hy⟩ := dateOf_is (n + 719162) (by omega) (by omega)
  obtain ⟨d1, d2, d3, d4, d5, d6⟩ := hD
  have hl2 := len_pos (dateOf (n + 719162)).1 (dateOf (n + 719162)).2.1
  have hr : 0 ≤ sec % 86400 ∧ sec % 86400 < 86400 := by omega
  generalize sec % 86400 = r at *
  generalize (dateOf (n + 719162)).1 = y at *
  generalize (dateOf (n + 719162)).2.1 = m at *
  generalize (dateOf (n + 719162)).2.2 = d at *
  simp only [Option.bind_some, if_true]
  rw [pad_int y 4 (by omega) (by omega) (by omega) (by omega), pad_int m 2 (by omega) (by omega) (by omega) (by omega), pad_int d 2 (by omega) (by omega) (by omega) (by omega), pad_int (r / 3600) 2 (by omega) (by omega) (by omega) (by omega), pad_int (r / 60 % 60) 2 (by omega) (by omega) (by omega) (by omega), pad_int (r % 60) 2 (by omega) (by omega) (by omega) (by omega)]
  simp only [Option.bind_some]
  have z1 := pad_len30 y.toNat 4 (by omega) (by omega)
  have z2 := pad_len30 m.toNat 2 (by omega) (by omega)
  have z3 := pad_len30 d.toNat 2 (by omega) (by omega)
  have z4 := pad_len30 (r / 3600).toNat 2 (by omega) (by omega)
  have z5 := pad_len30 (r / 60 % 60).toNat 2 (by omega) (by omega)
  have z6 := pad_len30 (r % 60).toNat 2 (by omega) (by omega)
  rw [show Int.toNat 4 = 4 from rfl, show Int.toNat 2 = 2 from rfl]
  unfold stampL
  generalize Nm.pad 4 y.toNat = p1 at *
  generalize Nm.pad 2 m.toNat = p2 at *
  generalize Nm.pad 2 d.toNat = p3 at *
  generalize Nm.pad 2 (r / 3600).toNat = p4 at *
  generalize Nm.pad 2 (r / 60 % 60).toNat = p5 at *
  generalize Nm.pad 2 (r % 60).toNat = p6 at *
  simp only [show (⟨#[45]⟩ : ByteArray) = mk [45] from rfl, show (⟨#[84]⟩ : ByteArray) = mk [84] from rfl, show (⟨#[58]⟩ : ByteArray) = mk [58] from rfl, show (⟨#[90]⟩ : ByteArray) = mk [90] from rfl, mk_cat, mk_size, List.length_append, List.length_singleton, List.append_assoc]
  repeat rw [if_pos (by omega)]
theorem ex4 (l : List UInt8) (h : l.length = 4) : ∃ c0 c1 c2 c3, l = [c0, c1, c2, c3] := by
  match l, h with
  | [a, b, c, d], _ => exact ⟨a, b, c, d, rfl⟩
theorem ex2 (l : List UInt8) (h : l.length = 2) : ∃ c0 c1, l = [c0, c1] := by
  match l, h with
  | [a, b], _ => exact ⟨a, b, rfl⟩
theorem pad4 (u : Nat) (h : u < 10000) : ∃ c0 c1 c2 c3, Nm.pad 4 u = [c0, c1, c2, c3] ∧ val [c0, c1, c2, c3] = u ∧ isD c0 ∧ isD c1 ∧ isD c2 ∧ isD c3 := by
  obtain ⟨c0, c1, c2, c3, e⟩ := ex4 _ (pad_len 3 u h)
  have v := val_pad 4 u
  have d := pad_isD 4 u
  rw [show (3 + 1) = 4 from rfl] at e
  rw [e] at v d
  exact ⟨c0, c1, c2, c3, e, v, d c0 (by simp), d c1 (by simp), d c2 (by simp), d c3 (by simp)⟩
theorem pad2 (u : Nat) (h : u < 100) : ∃ c0 c1, Nm.pad 2 u = [c0, c1] ∧ val [c0, c1] = u ∧ isD c0 ∧ isD c1 := by
  obtain ⟨c0, c1, e⟩ := ex2 _ (pad_len 1 u h)
  have v := val_pad 2 u
  have d := pad_isD 2 u
  rw [show (1 + 1) = 2 from rfl] at e
  rw [e] at v d
  exact ⟨c0, c1, e, v, d c0 (by simp), d c1 (by simp)⟩
theorem isDb_of {c : UInt8} (h : isD c) : isDb c = true := by simpa [isDb] using h
theorem parse_stamp (y m d r : Nat) (hy : y < 10000) (hm : m < 100) (hd : d < 100) (hr : r < 86400) (k : Nat) (hk : 10 ≤ k) :
    tap_Parse.f k (mk (stampL (y : Int) (m : Int) (d : Int) (r : Int))) = finP (y : Int) (m : Int) (d : Int) ((r / 3600 : Nat) : Int) ((r / 60 % 60 : Nat) : Int) ((r % 60 : Nat) : Int) 0 := by
  obtain ⟨c0, c1, c2, c3, e1, v1, g0, g1, g2, g3⟩ := pad4 y hy
  obtain ⟨c5, c6, e2, v2, g5, g6⟩ := pad2 m hm
  obtain ⟨c8, c9, e3, v3, g8, g9⟩ := pad2 d hd
  obtain ⟨c11, c12, e4, v4, g11, g12⟩ := pad2 (r / 3600) (by omega)
  obtain ⟨c14, c15, e5, v5, g14, g15⟩ := pad2 (r / 60 % 60) (by omega)
  obtain ⟨c17, c18, e6, v6, g17, g18⟩ := pad2 (r % 60) (by omega)
  have hL : stampL (y : Int) (m : Int) (d : Int) (r : Int) = [c0, c1, c2, c3, 45, c5, c6, 45, c8, c9, 84, c11, c12, 58, c14, c15, 58, c17, c18, 90] := by
    unfold stampL
    rw [Int.toNat_natCast, Int.toNat_natCast, Int.toNat_natCast, show ((r : Int) / 3600).toNat = r / 3600 by omega, show ((r : Int) / 60 % 60).toNat = r / 60 % 60 by omega, show ((r : Int) % 60).toNat = r % 60 by omega, e1, e2, e3, e4, e5, e6]
    rfl
  rw [hL]
  obtain ⟨s, hs⟩ : ∃ s, mk [c0, c1, c2, c3, 45, c5, c6, 45, c8, c9, 84, c11, c12, 58, c14, c15, 58, c17, c18, 90] = s := ⟨_, rfl⟩
  have hl : s.data.toList = [c0, c1, c2, c3, 45, c5, c6, 45, c8, c9, 84, c11, c12, 58, c14, c15, 58, c17, c18, 90] := by rw [← hs, mk_list]
  rw [hs]
  have hz : s.size = 20 := by rw [size_len, hl]; rfl
  have hT : (s.extract 0 19).data.toList = [c0, c1, c2, c3, 45, c5, c6, 45, c8, c9, 84, c11, c12, 58, c14, c15, 58, c17, c18] := ex_of s _ _ hl 0 19 rfl
  have hT9 : (s.extract 0 19).size = 19 := by rw [size_len, hT]; rfl
  have hF := form_fields _ c0 c1 c2 c3 45 c5 c6 45 c8 c9 84 c11 c12 58 c14 c15 58 c17 c18 hT hT9
  have hsh : shB [c0, c1, c2, c3, 45, c5, c6, 45, c8, c9, 84, c11, c12, 58, c14, c15, 58, c17, c18] frm = true := by
    have e : shB [c0, c1, c2, c3, 45, c5, c6, 45, c8, c9, 84, c11, c12, 58, c14, c15, 58, c17, c18] frm = (isDb c0 && (isDb c1 && (isDb c2 && (isDb c3 && (isDb c5 && (isDb c6 && (isDb c8 && (isDb c9 && (isDb c11 && (isDb c12 && (isDb c14 && (isDb c15 && (isDb c17 && (isDb c18 && true)))))))))))))) := rfl
    rw [e, isDb_of g0, isDb_of g1, isDb_of g2, isDb_of g3, isDb_of g5, isDb_of g6, isDb_of g8, isDb_of g9, isDb_of g11, isDb_of g12, isDb_of g14, isDb_of g15, isDb_of g17, isDb_of g18]
    rfl
  rw [if_pos hsh, v1, v2, v3, v4, v5, v6] at hF
  have hZ : (s.extract 19 s.size).data.toList = [90] := by rw [hz]; exact ex_of s _ _ hl 19 20 rfl
  unfold tap_Parse.f
  rw [if_neg (by omega), if_pos (by omega), if_pos (by omega), hF]
  simp only [Option.bind_some]
  unfold tap_zone.f
  rw [ByteArray.toList_eq, if_pos hZ]
  simp only [Option.bind_some]
  rw [if_pos trivial]
  exact pj0 k (by omega) _ _ _ _ _ _ 0 (by omega) (by omega) (by omega) (by omega)
theorem stamp_back (sec : Int) (k : Nat) (hk : 10 ≤ k) (hi : -719162 ≤ sec / 86400 ∧ sec / 86400 < 2932897) : tap_Parse.f k (mk (stampL (dateS sec).1 (dateS sec).2.1 (dateS sec).2.2 (sec % 86400))) = some (sec, 0) := by
  have hb := Date_back (sec / 86400) hi
  obtain ⟨hD, hy⟩ := dateOf_is (sec / 86400 + 719162) (by omega) (by omega)
  obtain ⟨d1, d2, d3, d4, d5, d6⟩ := hD
  have hl2 := len_pos (dateOf (sec / 86400 + 719162)).1 (dateOf (sec / 86400 + 719162)).2.1
  unfold dateS
  clear d6
  generalize (dateOf (sec / 86400 + 719162)).1 = y at *
  generalize (dateOf (sec / 86400 + 719162)).2.1 = m at *
  generalize (dateOf (sec / 86400 + 719162)).2.2 = d at *
  obtain ⟨y, rfl⟩ := Int.eq_ofNat_of_zero_le (show 0 ≤ y by omega)
  obtain ⟨m, rfl⟩ := Int.eq_ofNat_of_zero_le (show 0 ≤ m by omega)
  obtain ⟨d, rfl⟩ := Int.eq_ofNat_of_zero_le (show 0 ≤ d by omega)
  obtain ⟨r, hr⟩ := Int.eq_ofNat_of_zero_le (show 0 ≤ sec % 86400 by omega)
  rw [hr, parse_stamp y m d r (by omega) (by omega) (by omega) (by omega) k hk]
  unfold finP
  rw [hb]
  simp only [Option.bind_some]
  have e : 86400 * (sec / 86400) + 3600 * ((r / 3600 : Nat) : Int) + 60 * ((r / 60 % 60 : Nat) : Int) + ((r % 60 : Nat) : Int) - 0 = sec := by omega
  rw [e, if_pos ⟨trivial, by omega, by omega, by omega⟩, if_pos hi]
end Go.Proofs.YtallfkecjibpmaaGreatDoor.Q
