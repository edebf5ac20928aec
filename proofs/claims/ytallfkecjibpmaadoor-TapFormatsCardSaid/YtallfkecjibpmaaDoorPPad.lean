/- Digits, and the clock: what both sides say of them. Plain Lean. -/
import Derived.Test.YtallfkecjibpmaaDoorPDates
import Derived.Test.YtallfkecjibpmaaDoorNum
import Derived.Test.YtallfkecjibpmaaDoorM2
import Derived.Test.YtallfkecjibpmaaDoorM1
import Derived.Lib.ItoaLen
set_option linter.unusedVariables false
set_option linter.unusedSimpArgs false
namespace Go.Proofs.YtallfkecjibpmaaDoor.Q
open Go.RowKit Go.Proofs.YtallfkecjibpmaaDoorW.PrintWords Go.Proofs.YtallfkecjibpmaaDoor.G Go.Proofs.YtallfkecjibpmaaDoor.M Go.Proofs.YtallfkecjibpmaaDoor.Cal Go.Proofs.YtallfkecjibpmaaDoor.Nm Go.Lib
def mk (l : List UInt8) : ByteArray := ⟨l.toArray⟩
theorem mk_list (l : List UInt8) : (mk l).data.toList = l := by simp [mk]
theorem mk_size (l : List UInt8) : (mk l).size = l.length := by simp [mk, ByteArray.size]
theorem mk_of (s : ByteArray) : mk s.data.toList = s := by cases s; simp [mk]
theorem ba_ext {a b : ByteArray} (h : a.data.toList = b.data.toList) : a = b := by rw [← mk_of a, ← mk_of b, h]
theorem mk_cat (a b : List UInt8) : mk a ++ mk b = mk (a ++ b) := by apply ba_ext; simp [mk]
theorem toList_mk (l : List UInt8) : (mk l).toList = l := by rw [ByteArray.toList_eq, mk_list]
theorem itoa_nat (n : Nat) : itoa (n : Int) = decDigits n := itoa_nonneg n
theorem dec_len19 {u : Nat} (h : u ≤ 9223372036854775807) : (decDigits u).length ≤ 19 := Nm.dec_len 18 u (by omega)
theorem pad_eq (n w : Nat) (hn : n ≤ 9223372036854775807) (hw : w ≤ 100) : tap_pad.f (n : Int) (w : Int) = some (mk (Nm.pad w n)) := by
  unfold tap_pad.f strconv_Itoa.f
  rw [if_pos (by omega), itoa_nat]
  simp only [Option.bind_some]
  have hl := dec_len19 hn
  have hs : (⟨(decDigits n).toArray⟩ : ByteArray).size = (decDigits n).length := mk_size _
  have hm : mx 0 (wrap64 ((w : Int) - ((⟨(decDigits n).toArray⟩ : ByteArray).size : Int))) = ((w - (decDigits n).length : Nat) : Int) := by
    rw [hs, w64 (by omega) (by omega)]
    unfold mx
    split <;> omega
  rw [hm]
  unfold strings_Repeat.f
  have h1 : (⟨#[48]⟩ : ByteArray).size = 1 := rfl
  rw [if_pos ⟨by omega, by omega, by rw [h1, Int.toNat_natCast]; omega⟩]
  simp only [Option.bind_some]
  rw [Int.toNat_natCast]
  have hr : Lib.repeatL (⟨#[48]⟩ : ByteArray).data.toList (w - (decDigits n).length) = List.replicate (w - (decDigits n).length) 48 := by
    have := repeatL_replicate 48 1 (w - (decDigits n).length)
    rw [Nat.mul_one] at this
    exact this
  rw [hr, if_pos (by rw [hs, show (⟨(List.replicate (w - (decDigits n).length) (48 : UInt8)).toArray⟩ : ByteArray).size = w - (decDigits n).length from by rw [show (⟨(List.replicate (w - (decDigits n).length) (48 : UInt8)).toArray⟩ : ByteArray) = mk (List.replicate (w - (decDigits n).length) 48) from rfl, mk_size, List.length_replicate]]; omega)]
  unfold Nm.pad
  exact congrArg some (mk_cat _ _)
theorem padded_l0 (w : Nat) (hw : w ≤ 100) : ∀ (d k : Nat) (u : List UInt8), w - u.length = d → d < k → u.length ≤ 1000 → motleyref27_padded.l0 k (w : Int) (mk u) = some (mk (List.replicate d 48 ++ u))
  | 0, k, u, hd, hk, hu => by
    obtain ⟨k, rfl⟩ : ∃ j, k = j + 1 := ⟨k - 1, by omega⟩
    simp only [motleyref27_padded.l0]
    rw [mk_size, if_neg (by omega)]
    rfl
  | d + 1, k, u, hd, hk, hu => by
    obtain ⟨k, rfl⟩ : ∃ j, k = j + 1 := ⟨k - 1, by omega⟩
    simp only [motleyref27_padded.l0]
    rw [mk_size, if_pos (by omega), if_pos (by omega), show (⟨#[48]⟩ : ByteArray) = mk [48] from rfl, mk_cat, padded_l0 w hw d k ([48] ++ u) (by simp; omega) (by omega) (by simp; omega), List.replicate_succ']
    simp
theorem padded_eq (n w k : Nat) (hn : n ≤ 9223372036854775807) (hw : w ≤ 100) (hk : 200 ≤ k) : motleyref27_padded.f k (n : Int) (w : Int) = some (mk (Nm.pad w n)) := by
  unfold motleyref27_padded.f motleyref01_Written.f
  rw [if_pos (by omega), itoa_nat]
  simp only [Option.bind_some]
  have hl := dec_len19 hn
  exact padded_l0 w hw _ k (decDigits n) rfl (by omega) (by omega)
theorem pad_len30 (n w : Nat) (hn : n ≤ 9223372036854775807) (hw : w ≤ 10) : (Nm.pad w n).length ≤ 30 := by
  have hl := dec_len19 hn
  rw [pad_le]
  omega
theorem floor_eq (a : Int) (h0 : -9223372036854775808 ≤ a) (h1 : a ≤ 9223372036854775807) : tap_floor.f a 86400 = some (a / 86400, a % 86400) := by
  unfold tap_floor.f
  have e : Int.tmod a 86400 = if 0 ≤ a ∨ a % 86400 = 0 then a % 86400 else a % 86400 - 86400 := by
    rw [Int.tmod_eq_emod]
    by_cases h : 0 ≤ a
    · rw [if_pos (.inl h), if_pos (.inl h)]; omega
    · by_cases h2 : a % 86400 = 0
      · rw [if_pos (.inr (by omega)), if_pos (.inr h2)]; omega
      · rw [if_neg (by omega), if_neg (by omega)]; omega
  have d : Int.tdiv a 86400 = if 0 ≤ a ∨ a % 86400 = 0 then a / 86400 else a / 86400 + 1 := by
    have h3 := Int.mul_tdiv_add_tmod a 86400
    rw [e] at h3
    by_cases h : 0 ≤ a ∨ a % 86400 = 0
    · rw [if_pos h] at h3 ⊢; omega
    · rw [if_neg h] at h3 ⊢; omega
  rw [if_neg (by omega), e, d]
  by_cases h : 0 ≤ a ∨ a % 86400 = 0
  · rw [if_pos h, if_pos h, if_neg (by omega), w64 (by omega) (by omega)]
  · rw [if_neg h, if_neg h, if_pos (by omega), w64 (x := a / 86400 + 1) (by omega) (by omega), w64 (by omega) (by omega), w64 (by omega) (by omega)]
    congr 2 <;> omega
/-- The days, hours, minutes and seconds. -/
theorem clock_eq (a : Int) (h0 : -9223372036854775808 ≤ a) (h1 : a ≤ 9223372036854775807) : tap_clock.f a = some (a / 86400, a % 86400 / 3600, a % 86400 / 60 % 60, a % 86400 % 60, decide (-719162 ≤ a / 86400 ∧ a / 86400 < 2932897)) := by
  unfold tap_clock.f
  rw [floor_eq a h0 h1]
  simp only [Option.bind_some]
  rw [mInYears_eq]
  simp only [Option.bind_some]
  have hr : 0 ≤ a % 86400 ∧ a % 86400 < 86400 := by omega
  generalize a % 86400 = r at *
  rw [Int.tdiv_eq_ediv_of_nonneg hr.1, Int.tdiv_eq_ediv_of_nonneg hr.1, w64 (x := r / 3600) (by omega) (by omega), w64 (x := r / 60) (by omega) (by omega), Int.tmod_eq_emod_of_nonneg (by omega), Int.tmod_eq_emod_of_nonneg hr.1]
theorem day_eq (a : Int) (h0 : -2000000000000000000 ≤ a) (h1 : a ≤ 2000000000000000000) : motleyref27_day.f a = some (a / 86400, a % 86400) := by
  unfold motleyref27_day.f
  rw [modulo_eq a 86400 (by omega) (by omega) (by omega) (by omega)]
  simp only [Option.bind_some]
  have e : Int.tdiv (a - a % 86400) 86400 = a / 86400 := by
    have h3 := Int.mul_tdiv_add_tmod (a - a % 86400) 86400
    have h4 : Int.tmod (a - a % 86400) 86400 = 0 := Int.tmod_eq_zero_of_dvd (by omega)
    omega
  rw [w64 (x := a - a % 86400) (by omega) (by omega), e, w64 (by omega) (by omega)]
theorem Week_none (n : Int) : tap_Week.f n ≠ none := by
  obtain ⟨a, b, c, h⟩ := Week_some n
  rw [h]; simp
theorem Week_bd (n a b c : Int) (h : tap_Week.f n = some (a, b, c)) : 0 ≤ a ∧ a ≤ 9999 ∧ 0 ≤ b ∧ b ≤ 100 ∧ (c = 0 ∨ c = 1) := by
  unfold tap_Week.f at h
  rw [mInYears_eq] at h
  simp only [Option.bind_some, decide_eq_true_eq] at h
  by_cases hn : -719162 ≤ n ∧ n < 2932897
  case neg =>
    rw [if_neg hn] at h
    simp only [Option.some.injEq, Prod.mk.injEq] at h
    obtain ⟨rfl, rfl, rfl⟩ := h
    omega
  rw [if_pos hn, weekday_eq n (by omega) (by omega)] at h
  simp only [Option.bind_some] at h
  generalize wrap64 (wrap64 (n - Int.tmod (wrap64 ((n + 4) % 7 + 6)) 7) + 3) = t at h
  unfold G.tap_Date.f at h
  by_cases ht : -719162 ≤ t ∧ t < 2932897
  case neg =>
    rw [if_neg ht] at h
    simp only [Option.bind_some] at h
    rw [if_neg (by omega)] at h
    simp only [Option.some.injEq, Prod.mk.injEq] at h
    obtain ⟨rfl, rfl, rfl⟩ := h
    omega
  rw [if_pos ht] at h
  obtain ⟨hd, hy⟩ := dateOf_is (t + 719162) (by omega) (by omega)
  obtain ⟨d1, d2, d3, d4, d5, d6⟩ := hd
  have hl := len_pos (dateOf (t + 719162)).1 1
  have hm := in_month d2 d3 d4 d5 (y := (dateOf (t + 719162)).1)
  have hma := mon_all (dateOf (t + 719162)).1
  have hm1 := mon_one (dateOf (t + 719162)).1
  simp only [Option.bind_some, if_true] at h
  unfold G.tap_Days.f at h
  rw [if_pos ⟨d1, hy, by omega, by omega, by omega, by omega⟩] at h
  simp only [Option.bind_some, Option.some.injEq, Prod.mk.injEq] at h
  obtain ⟨rfl, rfl, rfl⟩ := h
  have e0 : 0 ≤ t - (bef (dateOf (t + 719162)).1 + mon (dateOf (t + 719162)).1 1 + 1 - 1 - 719162) ∧ t - (bef (dateOf (t + 719162)).1 + mon (dateOf (t + 719162)).1 1 + 1 - 1 - 719162) ≤ 366 := by omega
  rw [w64 (x := t - _) (by omega) (by omega), Int.tdiv_eq_ediv_of_nonneg e0.1, w64 (x := _ / 7) (by omega) (by omega), w64 (by omega) (by omega)]
  omega
end Go.Proofs.YtallfkecjibpmaaDoor.Q
