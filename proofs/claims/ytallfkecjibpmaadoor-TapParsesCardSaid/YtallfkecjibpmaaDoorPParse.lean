/- The plain law of TapParses, first part: moments. Plain Lean. -/
import Derived.Test.YtallfkecjibpmaaDoorPTap
import Derived.Test.YtallfkecjibpmaaDoorFields
import Derived.Test.YtallfkecjibpmaaDoorM1
import Derived.Test.YtallfkecjibpmaaDoorM4
set_option linter.unusedVariables false
set_option linter.unusedSimpArgs false
namespace Go.Proofs.YtallfkecjibpmaaDoor.Q
open Go.RowKit Go.Proofs.YtallfkecjibpmaaDoorW.PrintWords Go.Proofs.YtallfkecjibpmaaDoor.G Go.Proofs.YtallfkecjibpmaaDoor.M Go.Proofs.YtallfkecjibpmaaDoor.Cal Go.Proofs.YtallfkecjibpmaaDoor.Nm Go.Lib
theorem rDays_eq (y m d : Int) (k : Nat) (hk : 12 ≤ k) : motleyref27_Days.f k y m d = tap_Days.f y m d := by
  unfold motleyref27_Days.f tap_Days.f
  rw [isYear_eq]
  simp only [Option.bind_some, decide_eq_true_eq]
  by_cases hy : 1 ≤ y ∧ y ≤ 9999
  case neg => rw [if_neg hy, if_neg (by omega)]
  rw [if_pos hy]
  by_cases h1 : m < 1
  · rw [if_pos h1, if_neg (by omega)]
  rw [if_neg h1]
  by_cases h2 : m > 12
  · rw [if_pos h2, if_neg (by omega)]
  rw [if_neg h2]
  by_cases h3 : d < 1
  · rw [if_pos h3, if_neg (by omega)]
  rw [if_neg h3, length_eq y m hy.1]
  simp only [Option.bind_some]
  by_cases h4 : d > len y m
  · rw [if_pos h4, if_neg (by omega)]
  have hb : 0 ≤ bef y ∧ bef y ≤ 8000000 := by unfold bef; omega
  have hl := len_pos y m
  have q1 := mon_le y 1 m (by omega) (by omega) (by omega)
  have q2 := mon_le y m 13 (by omega) (by omega) (by omega)
  have q3 := mon_all y
  rw [mon_one] at q1
  rw [if_neg h4, if_pos (by omega), civil_eq y m hy.1 (by omega) (by omega) (by omega) k hk]
  simp only [Option.bind_some]
  rw [w64 (x := bef y + mon y m - 719162 + d) (by omega) (by omega), w64 (by omega) (by omega)]
  congr 2
  omega
theorem Days_some (y m d : Int) : ∃ a b, tap_Days.f y m d = some (a, b) := by
  unfold tap_Days.f
  split
  · exact ⟨_, _, rfl⟩
  · exact ⟨_, _, rfl⟩
theorem Days_bd (y m d a b : Int) (h : tap_Days.f y m d = some (a, b)) : b = 0 → -719162 ≤ a ∧ a < 2932897 + 400 := by
  unfold tap_Days.f at h
  split at h
  case isTrue hh =>
    obtain ⟨h1, h2, h3, h4, h5, h6⟩ := hh
    simp only [Option.some.injEq, Prod.mk.injEq] at h
    have hb : 0 ≤ bef y ∧ bef y ≤ 3652000 := by unfold bef; omega
    have hl := len_pos y m
    have q1 := mon_le y 1 m (by omega) (by omega) (by omega)
    have q2 := mon_le y m 13 (by omega) (by omega) (by omega)
    have q3 := mon_all y
    rw [mon_one] at q1
    intro _
    omega
  case isFalse =>
    simp only [Option.some.injEq, Prod.mk.injEq] at h
    omega
theorem isDay_eq (n : Int) (k : Nat) (hk : 12 ≤ k) : motleyref27_isDay.f k n = some (decide (-719162 ≤ n ∧ n < 2932897)) := by
  unfold motleyref27_isDay.f
  rw [civil_eq 1 1 (by omega) (by omega) (by omega) (by omega) k hk, civil_eq 10000 1 (by omega) (by omega) (by omega) (by omega) k hk]
  simp only [Option.bind_some]
  rw [show bef 1 + mon 1 1 - 719162 = -719162 by decide, show bef 10000 + mon 10000 1 - 719162 = 2932897 by decide]
  by_cases h : -719162 ≤ n
  · rw [if_pos h]; congr 1; exact decide_eq_decide.2 ⟨fun x => ⟨h, x⟩, fun x => x.2⟩
  · rw [if_neg h, decide_eq_false (fun x => h x.1)]
theorem modulo_eq (a b : Int) (hb : 1 ≤ b) (hb2 : b ≤ 1000000) (ha : -4000000000000000000 ≤ a) (ha2 : a ≤ 4000000000000000000) : motleyref27_modulo.f a b = some (a % b) := by
  unfold motleyref27_modulo.f
  have h1 : -b < Int.tmod a b := by have := Int.lt_tmod_of_pos a (show 0 < b by omega); omega
  have h2 : Int.tmod a b < b := Int.tmod_lt_of_pos a (by omega)
  rw [if_neg (by omega), w64 (by omega) (by omega), Int.tmod_eq_emod_of_nonneg (by omega), Int.add_emod_right]
  congr 1
  rw [Int.tmod_eq_emod]
  split
  · rw [show ((0 : Nat) : Int) = 0 from rfl, Int.sub_zero, Int.emod_emod_of_dvd _ (Int.dvd_refl b)]
  · rw [show ((b.natAbs : Nat) : Int) = b by omega, Int.sub_emod_right, Int.emod_emod_of_dvd _ (Int.dvd_refl b)]
theorem day_eq (a : Int) (h0 : -2000000000000000000 ≤ a) (h1 : a ≤ 2000000000000000000) : motleyref27_day.f a = some (a / 86400, a % 86400) := by
  unfold motleyref27_day.f
  rw [modulo_eq a 86400 (by omega) (by omega) (by omega) (by omega)]
  simp only [Option.bind_some]
  have e : Int.tdiv (a - a % 86400) 86400 = a / 86400 := by
    have h3 := Int.mul_tdiv_add_tmod (a - a % 86400) 86400
    have h4 : Int.tmod (a - a % 86400) 86400 = 0 := Int.tmod_eq_zero_of_dvd (by omega)
    omega
  rw [w64 (x := a - a % 86400) (by omega) (by omega), e, w64 (by omega) (by omega)]
theorem pow18 (i : Nat) (h : i ≤ 17) : (10 : Nat) ^ i ≤ 100000000000000000 := by
  have := Nat.pow_le_pow_right (n := 10) (by decide) h
  simpa using this
theorem digits_l0 (s : ByteArray) (hs : s.size ≤ 18) (hd : ∀ i, i < s.size → isD (bAt s i)) : ∀ (d k i v : Nat), i + d = s.size → d < k → v < 10 ^ i → motleyref27_digits.l0 k s (v : Int) (i : Int) = some ((valF v (s.data.toList.drop i) : Nat) : Int)
  | 0, k, i, v, hi, hk, hv => by
    obtain ⟨k, rfl⟩ : ∃ j, k = j + 1 := ⟨k - 1, by omega⟩
    simp only [motleyref27_digits.l0]
    rw [if_neg (by omega), List.drop_of_length_le (by rw [← size_len]; omega)]
    rfl
  | d + 1, k, i, v, hi, hk, hv => by
    obtain ⟨k, rfl⟩ : ∃ j, k = j + 1 := ⟨k - 1, by omega⟩
    have hc := hd i (by omega)
    have hp := pow18 i (by omega)
    unfold isD at hc
    have e1 : Aside0 (wrap64 (wrap64 (10 * (v : Int)) + (((bAt s i).toNat : Int) - 48) % 256) = ((10 * v + ((bAt s i).toNat - 48) : Nat) : Int)) := ⟨by
      rw [w64 (x := 10 * (v : Int)) (by omega) (by omega), w64 (by omega) (by omega)]; omega⟩
    have e2 : Aside0 (wrap64 ((i : Int) + 1) = ((i + 1 : Nat) : Int)) := ⟨by rw [w64 (by omega) (by omega)]; omega⟩
    simp only [motleyref27_digits.l0]
    rw [if_pos (by omega), if_pos (by omega), bt_bAt, drop_bAt s i (by omega), e1.out, e2.out]
    exact digits_l0 s hs hd d k (i + 1) _ (by omega) (by omega) (by rw [Nat.pow_succ]; omega)
theorem bAt_isD (s : ByteArray) (hd : ∀ c ∈ s.data.toList, isD c) (i : Nat) (hi : i < s.size) : isD (bAt s i) := by
  unfold bAt
  have h' : i < s.data.toList.length := by rw [← size_len]; exact hi
  rw [List.getD_eq_getElem?_getD, List.getElem?_eq_getElem h']
  exact hd _ (List.getElem_mem h')
theorem digits_eq (s : ByteArray) (l : List UInt8) (hl : s.data.toList = l) (hd : ∀ c ∈ l, isD c) (h18 : l.length ≤ 18) (k : Nat) (hk : 20 ≤ k) : motleyref27_digits.f k s = some ((val l : Nat) : Int) := by
  have hz : s.size = l.length := by rw [size_len, hl]
  have := digits_l0 s (by omega) (bAt_isD s (by rw [hl]; exact hd)) s.size k 0 0 (by omega) (by omega) (by simp)
  rw [List.drop_zero, hl] at this
  exact this
def shB : List UInt8 → List UInt8 → Bool
  | [], [] => true
  | c :: s, p :: q => (if p = 48 then isDb c else decide (c = p)) && shB s q
  | _, _ => false
theorem isDigit_eq (c : UInt8) : motleyref27_isDigit.f (c.toNat : Int) = some (isDb c) := by
  unfold motleyref27_isDigit.f
  by_cases h : 48 ≤ c.toNat
  · rw [if_pos (by omega)]
    by_cases h2 : c.toNat ≤ 57
    · rw [show isDb c = true from decide_eq_true (show isD c from ⟨h, h2⟩), decide_eq_true (show (c.toNat : Int) ≤ 57 by omega)]
    · rw [show isDb c = false from decide_eq_false (fun x : isD c => h2 x.2), decide_eq_false (show ¬ (c.toNat : Int) ≤ 57 by omega)]
  · rw [if_neg (by omega), show isDb c = false from decide_eq_false (fun x : isD c => h x.1)]
theorem shape_l0 (s p : ByteArray) (hz : s.size = p.size) (hs : s.size ≤ 1000000) : ∀ (d k i : Nat), i + d = s.size → d < k → motleyref27_shape.l0 k s p (i : Int) = some (shB (s.data.toList.drop i) (p.data.toList.drop i))
  | 0, k, i, hi, hk => by
    obtain ⟨k, rfl⟩ : ∃ j, k = j + 1 := ⟨k - 1, by omega⟩
    simp only [motleyref27_shape.l0]
    rw [if_neg (by omega), List.drop_of_length_le (by rw [← size_len]; omega), List.drop_of_length_le (by rw [← size_len]; omega)]
    rfl
  | d + 1, k, i, hi, hk => by
    obtain ⟨k, rfl⟩ : ∃ j, k = j + 1 := ⟨k - 1, by omega⟩
    have ih := shape_l0 s p hz hs d k (i + 1) (by omega) (by omega)
    have e2 : Aside0 (wrap64 ((i : Int) + 1) = ((i + 1 : Nat) : Int)) := ⟨by rw [w64 (by omega) (by omega)]; omega⟩
    simp only [motleyref27_shape.l0]
    rw [if_pos (by omega), if_pos (by omega), if_pos (by omega), bt_bAt, bt_bAt, isDigit_eq, drop_bAt s i (by omega), drop_bAt p i (by omega), shB]
    simp only [Option.bind_some]
    by_cases h48 : bAt p i = 48
    · rw [if_pos (by rw [h48]; rfl), if_pos h48]
      by_cases hd : isDb (bAt s i) = true
      · rw [if_pos hd, hd, Bool.true_and, e2.out]; exact ih
      · rw [if_neg hd, Bool.eq_false_iff.2 hd]; rfl
    · have h48' : ¬ (((bAt p i).toNat : Int) = 48) := fun e => h48 (UInt8.toNat_inj.1 (show (bAt p i).toNat = 48 by omega))
      rw [if_neg h48', if_neg h48]
      by_cases he : bAt s i = bAt p i
      · rw [if_pos (by rw [he]), decide_eq_true he, Bool.true_and, e2.out]; exact ih
      · have he' : ¬ (((bAt s i).toNat : Int) = ((bAt p i).toNat : Int)) := fun e => he (UInt8.toNat_inj.1 (by omega))
        rw [if_neg he', decide_eq_false he]; rfl
theorem shB_len : ∀ a b : List UInt8, shB a b = true → a.length = b.length
  | [], [], _ => rfl
  | [], _ :: _, h => by simp [shB] at h
  | _ :: _, [], h => by simp [shB] at h
  | c :: s, p :: q, h => by
    rw [shB, Bool.and_eq_true] at h
    rw [List.length_cons, List.length_cons, shB_len s q h.2]
theorem shape_eq (s p : ByteArray) (hp : p.size ≤ 100) (k : Nat) (hk : 102 ≤ k) : motleyref27_shape.f k s p = some (shB s.data.toList p.data.toList) := by
  unfold motleyref27_shape.f
  by_cases h : s.size = p.size
  · rw [if_pos (by omega)]
    have := shape_l0 s p h (by omega) s.size k 0 (by omega) (by omega)
    rw [List.drop_zero, List.drop_zero] at this
    exact this
  · rw [if_neg (by omega)]
    have : shB s.data.toList p.data.toList = false := Bool.eq_false_iff.2 (fun e => h (by rw [size_len, size_len]; exact shB_len _ _ e))
    rw [this]
def numsF : List UInt8 → List UInt8 → List Int → List UInt8 → List Int
  | c :: s, p :: q, out, ds => if p = 48 then numsF s q out (ds ++ [c]) else numsF s q (out ++ [(val ds : Int)]) []
  | _, _, out, ds => out ++ [(val ds : Int)]
theorem fields_sh : ∀ (s p : List UInt8) (out : List Int) (ds : List UInt8), fieldsF s p out ds = if shB s p = true then some (numsF s p out ds) else none
  | [], [], out, ds => by simp [fieldsF, shB, numsF]
  | [], _ :: _, out, ds => by simp [fieldsF, shB]
  | _ :: _, [], out, ds => by simp [fieldsF, shB]
  | c :: s, p :: q, out, ds => by
    rw [fieldsF, shB, numsF]
    by_cases h : p = 48
    · rw [if_pos h, if_pos h, if_pos h]
      by_cases hd : isDb c = true
      · rw [if_pos hd, hd, Bool.true_and]; exact fields_sh s q out _
      · rw [if_neg hd, Bool.eq_false_iff.2 hd]; rfl
    · rw [if_neg h, if_neg h, if_neg h]
      by_cases he : c = p
      · rw [if_pos he, decide_eq_true he, Bool.true_and]; exact fields_sh s q _ []
      · rw [if_neg he, decide_eq_false he]; rfl
theorem cons_of (n : Nat) (l : List UInt8) (h : n + 1 ≤ l.length) : ∃ c r, l = c :: r ∧ n ≤ r.length := by
  cases l with
  | nil => simp at h
  | cons c r => exact ⟨c, r, rfl, by simpa using h⟩
theorem nil_of (l : List UInt8) (h : l.length = 0) : l = [] := List.eq_nil_of_length_eq_zero h
theorem ex19 (l : List UInt8) (h : 19 ≤ l.length) : ∃ c0 c1 c2 c3 c4 c5 c6 c7 c8 c9 c10 c11 c12 c13 c14 c15 c16 c17 c18 r, l = c0 :: c1 :: c2 :: c3 :: c4 :: c5 :: c6 :: c7 :: c8 :: c9 :: c10 :: c11 :: c12 :: c13 :: c14 :: c15 :: c16 :: c17 :: c18 :: r := by
  obtain ⟨c0, r0, e0, h0⟩ := cons_of 18 l h
  obtain ⟨c1, r1, e1, h1⟩ := cons_of 17 r0 h0
  obtain ⟨c2, r2, e2, h2⟩ := cons_of 16 r1 h1
  obtain ⟨c3, r3, e3, h3⟩ := cons_of 15 r2 h2
  obtain ⟨c4, r4, e4, h4⟩ := cons_of 14 r3 h3
  obtain ⟨c5, r5, e5, h5⟩ := cons_of 13 r4 h4
  obtain ⟨c6, r6, e6, h6⟩ := cons_of 12 r5 h5
  obtain ⟨c7, r7, e7, h7⟩ := cons_of 11 r6 h6
  obtain ⟨c8, r8, e8, h8⟩ := cons_of 10 r7 h7
  obtain ⟨c9, r9, e9, h9⟩ := cons_of 9 r8 h8
  obtain ⟨c10, r10, e10, h10⟩ := cons_of 8 r9 h9
  obtain ⟨c11, r11, e11, h11⟩ := cons_of 7 r10 h10
  obtain ⟨c12, r12, e12, h12⟩ := cons_of 6 r11 h11
  obtain ⟨c13, r13, e13, h13⟩ := cons_of 5 r12 h12
  obtain ⟨c14, r14, e14, h14⟩ := cons_of 4 r13 h13
  obtain ⟨c15, r15, e15, h15⟩ := cons_of 3 r14 h14
  obtain ⟨c16, r16, e16, h16⟩ := cons_of 2 r15 h15
  obtain ⟨c17, r17, e17, h17⟩ := cons_of 1 r16 h16
  obtain ⟨c18, r18, e18, h18⟩ := cons_of 0 r17 h17
  exact ⟨c0, c1, c2, c3, c4, c5, c6, c7, c8, c9, c10, c11, c12, c13, c14, c15, c16, c17, c18, r18, by rw [e0, e1, e2, e3, e4, e5, e6, e7, e8, e9, e10, e11, e12, e13, e14, e15, e16, e17, e18]⟩
theorem ex6 (l : List UInt8) (h : l.length = 6) : ∃ c0 c1 c2 c3 c4 c5, l = [c0, c1, c2, c3, c4, c5] := by
  obtain ⟨c0, r0, e0, h0⟩ := cons_of 5 l (by omega)
  obtain ⟨c1, r1, e1, h1⟩ := cons_of 4 r0 h0
  obtain ⟨c2, r2, e2, h2⟩ := cons_of 3 r1 h1
  obtain ⟨c3, r3, e3, h3⟩ := cons_of 2 r2 h2
  obtain ⟨c4, r4, e4, h4⟩ := cons_of 1 r3 h3
  obtain ⟨c5, r5, e5, h5⟩ := cons_of 0 r4 h4
  subst e0 e1 e2 e3 e4 e5
  simp only [List.length_cons] at h
  rw [nil_of r5 (by omega)]
  exact ⟨_, _, _, _, _, _, rfl⟩
theorem isDb_D {c : UInt8} (h : isDb c = true) : isD c := by simpa [isDb] using h
/-- The seconds of a zone. -/
def zOk (c0 c1 c2 c3 c4 c5 : UInt8) : Bool := decide (c0 = 43 ∨ c0 = 45) && (isDb c1 && (isDb c2 && (decide (c3 = 58) && (isDb c4 && (isDb c5)))))
def zoneV (l : List UInt8) : Option Int := if l = [90] then some 0 else match l with
  | [c0, c1, c2, c3, c4, c5] => if zOk c0 c1 c2 c3 c4 c5 = true then (if val [c1, c2] > 23 ∨ val [c4, c5] > 59 then none else some (if c0 = 45 then -(3600 * (val [c1, c2] : Int) + 60 * (val [c4, c5] : Int)) else 3600 * (val [c1, c2] : Int) + 60 * (val [c4, c5] : Int))) else none
  | _ => none
theorem zoneV_six (c0 c1 c2 c3 c4 c5 : UInt8) : zoneV [c0, c1, c2, c3, c4, c5] = if zOk c0 c1 c2 c3 c4 c5 = true then (if val [c1, c2] > 23 ∨ val [c4, c5] > 59 then none else some (if c0 = 45 then -(3600 * (val [c1, c2] : Int) + 60 * (val [c4, c5] : Int)) else 3600 * (val [c1, c2] : Int) + 60 * (val [c4, c5] : Int))) else none := by
  unfold zoneV
  rw [if_neg (by simp)]
theorem zoneV_else (l : List UInt8) (h1 : l ≠ [90]) (h6 : l.length ≠ 6) : zoneV l = none := by
  unfold zoneV
  rw [if_neg h1]
  split
  · simp at h6
  · rfl
theorem zoneV_bd (l : List UInt8) (z : Int) (h : zoneV l = some z) : -100000 ≤ z ∧ z ≤ 100000 := by
  by_cases h1 : l = [90]
  · unfold zoneV at h
    rw [if_pos h1] at h
    cases h; omega
  by_cases h6 : l.length = 6
  · obtain ⟨c0, c1, c2, c3, c4, c5, rfl⟩ := ex6 l h6
    rw [zoneV_six] at h
    split at h
    · split at h
      · cases h
      · simp only [Option.some.injEq] at h
        split at h <;> omega
    · cases h
  · rw [zoneV_else l h1 h6] at h
    cases h
theorem val2 (a b : UInt8) (ha : isD a) (hb : isD b) : val [a, b] < 100 := val_bound [a, b] (by simp [ha, hb])
theorem mk1 (Z : ByteArray) (c : UInt8) (r : List UInt8) (h : Z.data.toList = c :: r) : 0 < Z.size ∧ bt Z 0 = (c.toNat : Int) ∧ (Z.extract 1 Z.size).data.toList = r ∧ (Z.extract 1 Z.size).size = r.length ∧ Z.size = r.length + 1 := by
  have hz : Z.size = r.length + 1 := by rw [size_len, h]; rfl
  refine ⟨by omega, ?_, ?_, ?_, hz⟩
  · have := bt_bAt Z 0
    rw [show ((0 : Nat) : Int) = 0 from rfl] at this
    rw [this]
    unfold bAt
    rw [h]
    rfl
  · rw [Lib.extract_data, h, hz]
    simp
  · rw [ByteArray.size_extract]; omega
theorem sign_ne {c : UInt8} (n : UInt8) (m : Int) (hm : m = (n.toNat : Int)) (h : c ≠ n) : ¬ ((c.toNat : Int) = m) := fun e => h (UInt8.toNat_inj.1 (by omega))
theorem zone_bad (Z : ByteArray) (k : Nat) (hk : 10 ≤ k) (L : List Int) (h : tap_fields.f (Z.extract 1 Z.size) (⟨#[48, 48, 58, 48, 48]⟩ : ByteArray) = some (L, false)) (h0 : 0 < Z.size) : tap_zone.j0 k Z false = some (0, false) := by
  obtain ⟨k, rfl⟩ : ∃ j, k = j + 2 := ⟨k - 2, by omega⟩
  simp only [tap_zone.j0]
  rw [if_neg (by simp), if_pos (by omega), h]
  simp [tap_zone.j1]
theorem zone_good (Z : ByteArray) (k : Nat) (hk : 10 ≤ k) (a b : Int) (c0 : UInt8) (ha : 0 ≤ a ∧ a < 100) (hb : 0 ≤ b ∧ b < 100) (hc : bt Z 0 = (c0.toNat : Int)) (h : tap_fields.f (Z.extract 1 Z.size) (⟨#[48, 48, 58, 48, 48]⟩ : ByteArray) = some ([a, b], true)) (h0 : 0 < Z.size) :
    tap_zone.j0 k Z false = if a > 23 ∨ b > 59 then some (0, false) else some (if c0 = 45 then -(3600 * a + 60 * b) else 3600 * a + 60 * b, true) := by
  obtain ⟨k, rfl⟩ : ∃ j, k = j + 2 := ⟨k - 2, by omega⟩
  simp only [tap_zone.j0]
  rw [if_neg (by simp), if_pos (by omega), h]
  simp only [Option.bind_some]
  rw [if_pos trivial, if_pos (by simp), show rd [a, b] 0 = a from rfl, show rd [a, b] 1 = b from rfl]
  by_cases h1 : a > 23
  · rw [if_pos h1, if_pos (.inl h1)]
    simp [tap_zone.j1]
  rw [if_neg h1, if_pos (by simp)]
  simp only [tap_zone.j1]
  by_cases h2 : b > 59
  · rw [if_pos (by simpa using h2), if_pos (.inr h2)]
  rw [if_neg (by simpa using h2), if_pos (by simp), if_pos (by simp), if_pos (by omega), hc, if_neg (show ¬ (a > 23 ∨ b > 59) by omega), show rd [a, b] 0 = a from rfl, show rd [a, b] 1 = b from rfl]
  have e : Aside0 (wrap64 (wrap64 (3600 * a) + wrap64 (60 * b)) = 3600 * a + 60 * b) := ⟨by
    rw [w64 (x := 3600 * a) (by omega) (by omega), w64 (x := 60 * b) (by omega) (by omega), w64 (by omega) (by omega)]⟩
  have e' : Aside0 (wrap64 (-(3600 * a + 60 * b)) = -(3600 * a + 60 * b)) := ⟨w64 (by omega) (by omega)⟩
  rw [e.out, e'.out]
  by_cases h45 : c0 = 45
  · rw [if_pos (by rw [h45]; rfl), if_pos h45]
  · rw [if_neg (sign_ne 45 45 rfl h45), if_neg h45]
theorem fields5 (Z : ByteArray) (c1 c2 c3 c4 c5 : UInt8) (h : Z.data.toList = [c1, c2, c3, c4, c5]) : tap_fields.f Z (⟨#[48, 48, 58, 48, 48]⟩ : ByteArray) = if (isDb c1 && (isDb c2 && (decide (c3 = 58) && (isDb c4 && (isDb c5))))) = true then some ([(val [c1, c2] : Int), (val [c4, c5] : Int)], true) else some ([], false) := by
  unfold tap_fields.f
  rw [if_pos ⟨by rw [size_len, h]; rfl, by rw [size_len, h]; simp, by decide⟩, h, fields_sh]
  have e : shB [c1, c2, c3, c4, c5] [48, 48, 58, 48, 48] = (isDb c1 && (isDb c2 && (decide (c3 = 58) && (isDb c4 && (isDb c5))))) := by
    simp [shB]
  have e2 : numsF [c1, c2, c3, c4, c5] [48, 48, 58, 48, 48] [] [] = [(val [c1, c2] : Int), (val [c4, c5] : Int)] := rfl
  rw [show ((⟨#[48, 48, 58, 48, 48]⟩ : ByteArray)).data.toList = [48, 48, 58, 48, 48] from rfl, e, e2]
  split <;> rfl
theorem zone_eq (Z : ByteArray) (k : Nat) (hk : 10 ≤ k) : tap_zone.f k Z = some ((zoneV Z.data.toList).getD 0, (zoneV Z.data.toList).isSome) := by
  unfold tap_zone.f
  rw [ByteArray.toList_eq]
  obtain ⟨Zl, hZl⟩ : ∃ Zl, Z.data.toList = Zl := ⟨_, rfl⟩
  rw [hZl]
  by_cases h90 : Zl = [90]
  · rw [if_pos h90, h90]; rfl
  rw [if_neg h90]
  cases Zl with
  | nil =>
    rw [if_pos rfl]
    obtain ⟨k, rfl⟩ : ∃ j, k = j + 1 := ⟨k - 1, by omega⟩
    simp [tap_zone.j0, zoneV]
  | cons c0 r =>
    rw [if_neg (by simp)]
    obtain ⟨m1, m2, m3, m4, m5⟩ := mk1 Z c0 r hZl
    rw [if_pos (by omega), m2]
    by_cases h6 : r.length = 5
    case neg =>
      have hz : zoneV (c0 :: r) = none := zoneV_else _ h90 (by simpa using h6)
      have hf : tap_fields.f (Z.extract 1 Z.size) (⟨#[48, 48, 58, 48, 48]⟩ : ByteArray) = some ([], false) := by
        unfold tap_fields.f
        have hne : ¬ ((Z.extract 1 Z.size).size = (⟨#[48, 48, 58, 48, 48]⟩ : ByteArray).size) := by rw [m4]; exact h6
        rw [if_neg (fun e => hne e.1), if_pos hne]
      have hb := zone_bad Z k hk [] hf m1
      rw [hz]
      split
      · exact hb
      · by_cases h45 : c0 = 45
        · rw [show (((c0.toNat : Int)) != 45) = false by rw [h45]; rfl]; exact hb
        · have := sign_ne 45 45 rfl h45
          rw [show (((c0.toNat : Int)) != 45) = true by rw [bne_iff_ne]; exact this]
          obtain ⟨k, rfl⟩ : ∃ j, k = j + 1 := ⟨k - 1, by omega⟩
          simp [tap_zone.j0]
    case pos =>
      obtain ⟨d0, c1, c2, c3, c4, c5, hr⟩ := ex6 (c0 :: r) (by simpa using h6)
      injection hr with hr0 hr
      subst hr0 hr
      rw [zoneV_six]
      unfold zOk
      have hf := fields5 (Z.extract 1 Z.size) c1 c2 c3 c4 c5 m3
      by_cases hs : c0 = 43 ∨ c0 = 45
      case neg =>
        have n1 := sign_ne 43 43 rfl (fun e => hs (.inl e))
        have n2 := sign_ne 45 45 rfl (fun e => hs (.inr e))
        rw [if_neg n1, show (((c0.toNat : Int)) != 45) = true by rw [bne_iff_ne]; exact n2, decide_eq_false hs, Bool.false_and, if_neg (by simp)]
        obtain ⟨k, rfl⟩ : ∃ j, k = j + 1 := ⟨k - 1, by omega⟩
        simp [tap_zone.j0]
      case pos =>
        have hj : (if (c0.toNat : Int) = 43 then tap_zone.j0 k Z false else tap_zone.j0 k Z ((c0.toNat : Int) != 45)) = tap_zone.j0 k Z false := by
          rcases hs with h | h
          · rw [if_pos (by rw [h]; rfl)]
          · rw [h]; rfl
        rw [hj, decide_eq_true hs, Bool.true_and]
        by_cases hb : (isDb c1 && (isDb c2 && (decide (c3 = 58) && (isDb c4 && (isDb c5))))) = true
        · rw [if_pos hb] at hf
          rw [if_pos hb]
          simp only [Bool.and_eq_true] at hb
          have v1 := val2 c1 c2 (isDb_D hb.1) (isDb_D hb.2.1)
          have v2 := val2 c4 c5 (isDb_D hb.2.2.2.1) (isDb_D hb.2.2.2.2)
          rw [zone_good Z k hk _ _ c0 (by omega) (by omega) m2 hf m1]
          by_cases hh : val [c1, c2] > 23 ∨ val [c4, c5] > 59
          · rw [if_pos hh, if_pos (by omega)]; rfl
          · rw [if_neg hh, if_neg (by omega)]; rfl
        · rw [if_neg hb] at hf
          rw [if_neg hb, zone_bad Z k hk [] hf m1]; rfl
end Go.Proofs.YtallfkecjibpmaaDoor.Q
