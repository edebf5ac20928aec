/- Joined texts of this claim: K0, K1, K2, Cal, Len, Date, Written, Known. -/
import Derived.Laws.Runes
import Derived.BigCall
import Derived.Lib.ItoaNum
import Derived.Test.YtallfkecjibpmaaGreatDoorJ1
import Derived.Test.YtallfkecjibpmaaGreatDoorJ1
/- What the Go functions of this seat give, as Lean functions, and that each call comes to it. Written by the session's own program (wip/tools/mprint.py). -/
namespace Go.Proofs.YtallfkecjibpmaaGreatDoor.K
open Go.RowKit Go.Proofs.YtallfkecjibpmaaGreatDoorW.PrintWords Go.Proofs.YtallfkecjibpmaaGreatDoorW.PrintLast Go.Proofs.YtallfkecjibpmaaGreatDoorW.PrintMore
attribute [local go_sem] max2_int min2_int max_two min_two max_three min_three max_four min_four   -- for this text's walks alone
set_option linter.unusedVariables false
set_option linter.unusedSimpArgs false



def errW : Option Int → Value
  | none => .nilIface
  | some c => .iface 0 (.int .i64 c)
theorem errW_none : errW none = .nilIface := rfl
theorem errW_some (c : Int) : errW (some c) = .iface 0 (.int .i64 c) := rfl

-- the values' own types

end Go.Proofs.YtallfkecjibpmaaGreatDoor.K
/- What the Go functions of this seat give, as Lean functions, and that each call comes to it. Written by the session's own program (wip/tools/mprint.py). -/
namespace Go.Proofs.YtallfkecjibpmaaGreatDoor.K
open Go.RowKit Go.Proofs.YtallfkecjibpmaaGreatDoorW.PrintWords Go.Proofs.YtallfkecjibpmaaGreatDoorW.PrintLast Go.Proofs.YtallfkecjibpmaaGreatDoorW.PrintMore
attribute [local go_sem] max2_int min2_int max_two min_two max_three min_three max_four min_four   -- for this text's walks alone
set_option linter.unusedVariables false
set_option linter.unusedSimpArgs false

/-! ### tap_before: function 38 -/
def tap_before.f (a0 : Int) : Option (Int) := some (wrap64 ((wrap64 ((wrap64 ((wrap64 (365 * (wrap64 (a0 - 1)))) + (wrap64 (Int.tdiv (wrap64 (a0 - 1)) 4)))) - (wrap64 (Int.tdiv (wrap64 (a0 - 1)) 100)))) + (wrap64 (Int.tdiv (wrap64 (a0 - 1)) 400))))
set_option maxHeartbeats 8000000 in
set_option maxRecDepth 100000 in
theorem tap_before.calls (a0 : Int) (r : Int) (w : World) (h : tap_before.f a0 = some r) :
    Calls Tryz.prog 38 #[.int .i64 a0] w fun e w' => e = .returned (.int .i64 r) ∧ Drawn0 w w' := by
  have H : (some (wrap64 ((wrap64 ((wrap64 ((wrap64 (365 * (wrap64 (a0 - 1)))) + (wrap64 (Int.tdiv (wrap64 (a0 - 1)) 4)))) - (wrap64 (Int.tdiv (wrap64 (a0 - 1)) 100)))) + (wrap64 (Int.tdiv (wrap64 (a0 - 1)) 400))))) = some r := h
  clear h
  obtain rfl := Option.some.inj H
  go_enter Tryz.func38, Tryz.ntmps38
  go_wp2
  go_ret
  exact ⟨by first | rfl | (simp; done) | (simp [*]; done) | (simp; generalize ByteArray.toList _ = l_; cases l_ <;> rfl), by repeat (first | exact Drawn0.refl _ | apply Drawn0.step)⟩

/-! ### tap_epoch: function 39 -/
def tap_epoch.f  : Option (Int) := (tap_before.f 1970).bind fun t101 => (some t101)
set_option maxHeartbeats 8000000 in
set_option maxRecDepth 100000 in
theorem tap_epoch.calls  (r : Int) (w : World) (h : tap_epoch.f  = some r) :
    Calls Tryz.prog 39 #[] w fun e w' => e = .returned (.int .i64 r) ∧ Drawn0 w w' := by
  have H : ((tap_before.f 1970).bind fun t101 => (some t101)) = some r := h
  clear h
  replace H := Option.bind_eq_some_iff.mp H
  obtain ⟨t101, A10, H⟩ := H
  replace H : (some t101) = some r := H
  have A1 := Aside0.mk A10
  clear A10
  obtain rfl := Option.some.inj H
  go_enter Tryz.func39, Tryz.ntmps39
  go_wp2_with (first | ((with_reducible refine gate_callee (f := 38) rfl ?_); refine goesL_ (some 1) rfl rfl Tryz.func38 (by kernel_rfl) rfl #[.int .i64 1970] rfl (by (try simp only [List.map_toArray, List.map_cons, List.map_nil]); first | done | rfl | (simp only [List.length_drop, List.length_take]; rfl)) ?_; (with_reducible refine (tap_before.calls 1970 t101 _ A1.out).mono ?_); rintro e w' ⟨rfl, ⟨nd, rfl⟩⟩; refine ⟨_, rfl, ?_⟩))
  go_ret
  exact ⟨by first | rfl | (simp; done) | (simp [*]; done) | (simp; generalize ByteArray.toList _ = l_; cases l_ <;> rfl), by repeat (first | exact Drawn0.refl _ | apply Drawn0.step)⟩

/-! ### tap_inYears: function 56 -/
def tap_inYears.f (a0 : Int) : Option (Bool) := (tap_epoch.f).bind fun t102 => (if a0 ≥ (wrap64 (-t102)) then ((tap_before.f 10000).bind fun t103 => ((tap_epoch.f).bind fun t104 => (some (decide (a0 < (wrap64 (t103 - t104))))))) else (some false))
set_option maxHeartbeats 8000000 in
set_option maxRecDepth 100000 in
theorem tap_inYears.calls (a0 : Int) (r : Bool) (w : World) (h : tap_inYears.f a0 = some r) :
    Calls Tryz.prog 56 #[.int .i64 a0] w fun e w' => e = .returned (.bool r) ∧ Drawn0 w w' := by
  have H : ((tap_epoch.f).bind fun t102 => (if a0 ≥ (wrap64 (-t102)) then ((tap_before.f 10000).bind fun t103 => ((tap_epoch.f).bind fun t104 => (some (decide (a0 < (wrap64 (t103 - t104))))))) else (some false))) = some r := h
  clear h
  replace H := Option.bind_eq_some_iff.mp H
  obtain ⟨t102, A20, H⟩ := H
  replace H : (if a0 ≥ (wrap64 (-t102)) then ((tap_before.f 10000).bind fun t103 => ((tap_epoch.f).bind fun t104 => (some (decide (a0 < (wrap64 (t103 - t104))))))) else (some false)) = some r := H
  have A2 := Aside0.mk A20
  clear A20
  by_cases c3 : a0 ≥ (wrap64 (-t102))
  · rw [if_pos c3] at H
    have c3b0 : decide ((wrap64 (-t102)) ≤ a0) = true := decide_eq_true c3
    clear c3
    replace H := Option.bind_eq_some_iff.mp H
    obtain ⟨t103, A40, H⟩ := H
    replace H : ((tap_epoch.f).bind fun t104 => (some (decide (a0 < (wrap64 (t103 - t104)))))) = some r := H
    have A4 := Aside0.mk A40
    clear A40
    replace H := Option.bind_eq_some_iff.mp H
    obtain ⟨t104, A50, H⟩ := H
    replace H : (some (decide (a0 < (wrap64 (t103 - t104))))) = some r := H
    have A5 := Aside0.mk A50
    clear A50
    obtain rfl := Option.some.inj H
    go_enter Tryz.func56, Tryz.ntmps56
    go_wp2_with (first | ((with_reducible refine gate_callee (f := 39) rfl ?_); refine goesL_ (some 4) rfl rfl Tryz.func39 (by kernel_rfl) rfl #[] rfl (by (try simp only [List.map_toArray, List.map_cons, List.map_nil]); first | done | rfl | (simp only [List.length_drop, List.length_take]; rfl)) ?_; (with_reducible refine (tap_epoch.calls  t102 _ A2.out).mono ?_); rintro e w' ⟨rfl, ⟨nd, rfl⟩⟩; refine ⟨_, rfl, ?_⟩) | (go_at_call 38; (with_reducible refine (tap_before.calls 10000 t103 _ A4.out).mono ?_); rintro e w' ⟨rfl, ⟨nd, rfl⟩⟩) | (go_at_call 39; (with_reducible refine (tap_epoch.calls  t104 _ A5.out).mono ?_); rintro e w' ⟨rfl, ⟨nd, rfl⟩⟩))
    go_ret
    exact ⟨by first | rfl | (simp; done) | (simp [*]; done) | (simp; generalize ByteArray.toList _ = l_; cases l_ <;> rfl), by repeat (first | exact Drawn0.refl _ | apply Drawn0.step)⟩
  · rw [if_neg c3] at H
    have c3b0 : decide ((wrap64 (-t102)) ≤ a0) = false := decide_eq_false c3
    clear c3
    obtain rfl := Option.some.inj H
    go_enter Tryz.func56, Tryz.ntmps56
    go_wp2_with (first | ((with_reducible refine gate_callee (f := 39) rfl ?_); refine goesL_ (some 4) rfl rfl Tryz.func39 (by kernel_rfl) rfl #[] rfl (by (try simp only [List.map_toArray, List.map_cons, List.map_nil]); first | done | rfl | (simp only [List.length_drop, List.length_take]; rfl)) ?_; (with_reducible refine (tap_epoch.calls  t102 _ A2.out).mono ?_); rintro e w' ⟨rfl, ⟨nd, rfl⟩⟩; refine ⟨_, rfl, ?_⟩))
    go_ret
    exact ⟨by first | rfl | (simp; done) | (simp [*]; done) | (simp; generalize ByteArray.toList _ = l_; cases l_ <;> rfl), by repeat (first | exact Drawn0.refl _ | apply Drawn0.step)⟩

/-- THE ONE PURE STATEMENT of tap_inYears: yours. -/
def tap_inYears.Pure : Prop := ∀ (a0 : Int), (Lit.int .i64 a0).wf = true → tap_inYears.f a0 = some true
theorem tap_inYears.walk (P : tap_inYears.Pure) (a0 : Int) (w : World) (w0 : (Lit.int .i64 a0).wf = true) :
    Calls Tryz.prog 56 #[.int .i64 a0] w fun e w' => e = .returned (.bool true) ∧ Below w.heap.size w w' := by
  have h := P a0 w0
  refine (tap_inYears.calls a0 true w h).mono ?_
  rintro e w' ⟨rfl, hd⟩
  exact ⟨rfl, hd.below⟩

end Go.Proofs.YtallfkecjibpmaaGreatDoor.K
/- What the Go functions of this seat give, as Lean functions, and that each call comes to it. Written by the session's own program (wip/tools/mprint.py). -/
namespace Go.Proofs.YtallfkecjibpmaaGreatDoor.K
open Go.RowKit Go.Proofs.YtallfkecjibpmaaGreatDoorW.PrintWords Go.Proofs.YtallfkecjibpmaaGreatDoorW.PrintLast Go.Proofs.YtallfkecjibpmaaGreatDoorW.PrintMore
attribute [local go_sem] max2_int min2_int max_two min_two max_three min_three max_four min_four   -- for this text's walks alone
set_option linter.unusedVariables false
set_option linter.unusedSimpArgs false

/-! ### tap_isLeap: function 61 -/
def tap_isLeap.f (a0 : Int) : Option (Bool) := if (Int.tmod a0 4) = 0 then (if (Int.tmod a0 100) = 0 then (some ((Int.tmod a0 400) == 0)) else (some true)) else (some false)
set_option maxHeartbeats 8000000 in
set_option maxRecDepth 100000 in
theorem tap_isLeap.calls (a0 : Int) (r : Bool) (w : World) (h : tap_isLeap.f a0 = some r) :
    Calls Tryz.prog 61 #[.int .i64 a0] w fun e w' => e = .returned (.bool r) ∧ Drawn0 w w' := by
  have H : (if (Int.tmod a0 4) = 0 then (if (Int.tmod a0 100) = 0 then (some ((Int.tmod a0 400) == 0)) else (some true)) else (some false)) = some r := h
  clear h
  by_cases c2 : (Int.tmod a0 4) = 0
  · rw [if_pos c2] at H
    have c2b0 : ((Int.tmod a0 4) == 0) = true := beq_iff_eq.mpr c2
    have c2b1 : ((Int.tmod a0 4) != 0) = false := bne_eq_false_iff_eq.mpr c2
    clear c2
    by_cases c3 : (Int.tmod a0 100) = 0
    · rw [if_pos c3] at H
      have c3b0 : ((Int.tmod a0 100) == 0) = true := beq_iff_eq.mpr c3
      have c3b1 : ((Int.tmod a0 100) != 0) = false := bne_eq_false_iff_eq.mpr c3
      clear c3
      obtain rfl := Option.some.inj H
      go_enter Tryz.func61, Tryz.ntmps61
      go_wp2
      go_ret
      exact ⟨by first | rfl | (simp; done) | (simp [*]; done) | (simp; generalize ByteArray.toList _ = l_; cases l_ <;> rfl), by repeat (first | exact Drawn0.refl _ | apply Drawn0.step)⟩
    · rw [if_neg c3] at H
      have c3b0 : ((Int.tmod a0 100) == 0) = false := beq_eq_false_iff_ne.mpr c3
      have c3b1 : ((Int.tmod a0 100) != 0) = true := bne_iff_ne.mpr c3
      obtain rfl := Option.some.inj H
      go_enter Tryz.func61, Tryz.ntmps61
      go_wp2
      go_ret
      exact ⟨by first | rfl | (simp; done) | (simp [*]; done) | (simp; generalize ByteArray.toList _ = l_; cases l_ <;> rfl), by repeat (first | exact Drawn0.refl _ | apply Drawn0.step)⟩
  · rw [if_neg c2] at H
    have c2b0 : ((Int.tmod a0 4) == 0) = false := beq_eq_false_iff_ne.mpr c2
    have c2b1 : ((Int.tmod a0 4) != 0) = true := bne_iff_ne.mpr c2
    obtain rfl := Option.some.inj H
    go_enter Tryz.func61, Tryz.ntmps61
    go_wp2
    go_ret
    exact ⟨by first | rfl | (simp; done) | (simp [*]; done) | (simp; generalize ByteArray.toList _ = l_; cases l_ <;> rfl), by repeat (first | exact Drawn0.refl _ | apply Drawn0.step)⟩

/-- THE ONE PURE STATEMENT of tap_isLeap: yours. -/
def tap_isLeap.Pure : Prop := ∀ (a0 : Int), (Lit.int .i64 a0).wf = true → tap_isLeap.f a0 = some true
theorem tap_isLeap.walk (P : tap_isLeap.Pure) (a0 : Int) (w : World) (w0 : (Lit.int .i64 a0).wf = true) :
    Calls Tryz.prog 61 #[.int .i64 a0] w fun e w' => e = .returned (.bool true) ∧ Below w.heap.size w w' := by
  have h := P a0 w0
  refine (tap_isLeap.calls a0 true w h).mono ?_
  rintro e w' ⟨rfl, hd⟩
  exact ⟨rfl, hd.below⟩

end Go.Proofs.YtallfkecjibpmaaGreatDoor.K
/- Days, months and years: plain facts; and what the program's own words on years come to. -/
set_option linter.unusedVariables false
set_option linter.unusedSimpArgs false
namespace Go.Proofs.YtallfkecjibpmaaGreatDoor.Cal
def leap (y : Int) : Bool := decide (y % 4 = 0 ∧ (y % 100 ≠ 0 ∨ y % 400 = 0))
/-- The days before a year, from the year 1 on. -/
def bef (y : Int) : Int := 365 * (y - 1) + (y - 1) / 4 - (y - 1) / 100 + (y - 1) / 400
def len (y m : Int) : Int := if m = 2 then (if leap y then 29 else 28) else if m = 4 ∨ m = 6 ∨ m = 9 ∨ m = 11 then 30 else 31
/-- The days of a year before its month m. -/
def mon (y m : Int) : Int := if m ≤ 1 then 0 else if m = 2 then 31 else (if leap y then 1 else 0) + (if m = 3 then 59 else if m = 4 then 90 else if m = 5 then 120 else if m = 6 then 151 else if m = 7 then 181 else if m = 8 then 212 else if m = 9 then 243 else if m = 10 then 273 else if m = 11 then 304 else if m = 12 then 334 else 365)
theorem mon_next (y m : Int) (h1 : 1 ≤ m) (h2 : m ≤ 12) : mon y (m + 1) = mon y m + len y m := by
  have : m = 1 ∨ m = 2 ∨ m = 3 ∨ m = 4 ∨ m = 5 ∨ m = 6 ∨ m = 7 ∨ m = 8 ∨ m = 9 ∨ m = 10 ∨ m = 11 ∨ m = 12 := by omega
  rcases this with rfl | rfl | rfl | rfl | rfl | rfl | rfl | rfl | rfl | rfl | rfl | rfl <;> cases h : leap y <;> simp [mon, len, h]
theorem bef_next (y : Int) (h : 1 ≤ y) : bef (y + 1) = bef y + mon y 13 := by
  unfold bef mon leap
  simp only [show ¬ ((13 : Int) ≤ 1) by omega, show ¬ ((13 : Int) = 2) by omega, if_false, show ¬ ((13 : Int) = 3) by omega, show ¬ ((13 : Int) = 4) by omega, show ¬ ((13 : Int) = 5) by omega, show ¬ ((13 : Int) = 6) by omega, show ¬ ((13 : Int) = 7) by omega, show ¬ ((13 : Int) = 8) by omega, show ¬ ((13 : Int) = 9) by omega, show ¬ ((13 : Int) = 10) by omega, show ¬ ((13 : Int) = 11) by omega, show ¬ ((13 : Int) = 12) by omega]
  by_cases c : y % 4 = 0 ∧ (y % 100 ≠ 0 ∨ y % 400 = 0)
  · rw [decide_eq_true c, if_pos rfl, show y + 1 - 1 = y by omega]
    rcases c with ⟨c1, c2 | c2⟩
    · have : y / 100 = (y - 1) / 100 := by omega
      have : y / 400 = (y - 1) / 400 := by omega
      omega
    · have : y / 100 = (y - 1) / 100 + 1 := by omega
      have : y / 400 = (y - 1) / 400 + 1 := by omega
      omega
  · rw [decide_eq_false c, if_neg (by simp), show y + 1 - 1 = y by omega]
    by_cases c1 : y % 4 = 0
    · have c2 : y % 100 = 0 := by omega
      have c3 : y % 400 ≠ 0 := by omega
      have : y / 100 = (y - 1) / 100 + 1 := by omega
      have : y / 400 = (y - 1) / 400 := by omega
      omega
    · have : y / 100 = (y - 1) / 100 := by omega
      have : y / 400 = (y - 1) / 400 := by omega
      omega
theorem len_pos (y m : Int) : 28 ≤ len y m ∧ len y m ≤ 31 := by
  unfold len; cases leap y <;> simp <;> repeat' split
  all_goals omega
theorem mon_le (y m n : Int) (h1 : 1 ≤ m) (h : m ≤ n) (h2 : n ≤ 13) : mon y m ≤ mon y n := by
  obtain ⟨k, rfl⟩ : ∃ k : Nat, n = m + k := ⟨(n - m).toNat, by omega⟩
  induction k with
  | zero => simp
  | succ k ih =>
    have := ih (by omega) (by omega)
    have h3 := mon_next y (m + k) (by omega) (by omega)
    have h4 := len_pos y (m + k)
    rw [show m + ((k + 1 : Nat) : Int) = m + k + 1 by omega, h3]
    omega
theorem mon_one (y : Int) : mon y 1 = 0 := by simp [mon]
theorem mon_all (y : Int) : 365 ≤ mon y 13 ∧ mon y 13 ≤ 366 := by unfold mon; cases leap y <;> simp
theorem bef_le (a b : Int) (h1 : 1 ≤ a) (h : a ≤ b) : bef a + 365 * (b - a) ≤ bef b := by
  unfold bef; omega
/-- A number of days, from the year 1 on, has a date. -/
def IsDate (n y m d : Int) : Prop := 1 ≤ y ∧ 1 ≤ m ∧ m ≤ 12 ∧ 1 ≤ d ∧ d ≤ len y m ∧ bef y + mon y m + d - 1 = n
theorem in_month {y m d : Int} (h1 : 1 ≤ m) (h2 : m ≤ 12) (h3 : 1 ≤ d) (h4 : d ≤ len y m) : 1 ≤ mon y m + d ∧ mon y m + d ≤ mon y (m + 1) ∧ mon y (m + 1) ≤ mon y 13 := by
  have a := mon_le y 1 m (by omega) h1 (by omega)
  have b := mon_next y m h1 h2
  have c := mon_le y (m + 1) 13 (by omega) (by omega) (by omega)
  rw [mon_one] at a
  omega
theorem date_year {n y m d : Int} (h : IsDate n y m d) : bef y ≤ n ∧ n < bef (y + 1) := by
  obtain ⟨h0, h1, h2, h3, h4, h5⟩ := h
  have := in_month h1 h2 h3 h4
  rw [bef_next y h0]
  omega
theorem year_one {n a b : Int} (ha : 1 ≤ a) (hb : 1 ≤ b) (h1 : bef a ≤ n) (h2 : n < bef (a + 1)) (h3 : bef b ≤ n) (h4 : n < bef (b + 1)) : a = b := by
  have h5 : ¬ a + 1 ≤ b := fun h => by have := bef_le (a + 1) b (by omega) h; omega
  have h6 : ¬ b + 1 ≤ a := fun h => by have := bef_le (b + 1) a (by omega) h; omega
  omega
theorem date_one {n a b c x y z : Int} (h : IsDate n a b c) (h' : IsDate n x y z) : a = x ∧ b = y ∧ c = z := by
  obtain ⟨u1, u2⟩ := date_year h
  obtain ⟨v1, v2⟩ := date_year h'
  obtain rfl := year_one h.1 h'.1 u1 u2 v1 v2
  obtain ⟨h0, h1, h2, h3, h4, h5⟩ := h
  obtain ⟨g0, g1, g2, g3, g4, g5⟩ := h'
  have p := in_month h1 h2 h3 h4
  have q := in_month g1 g2 g3 g4
  have h5 : ¬ b + 1 ≤ y := fun h => by have := mon_le a (b + 1) y (by omega) h (by omega); omega
  have h6 : ¬ y + 1 ≤ b := fun h => by have := mon_le a (y + 1) b (by omega) h (by omega); omega
  obtain rfl : b = y := by omega
  exact ⟨rfl, rfl, by omega⟩
end Go.Proofs.YtallfkecjibpmaaGreatDoor.Cal
namespace Go.Proofs.YtallfkecjibpmaaGreatDoor.G
open Go.RowKit Go.Proofs.YtallfkecjibpmaaGreatDoorW.PrintWords Go.Proofs.YtallfkecjibpmaaGreatDoor.K Go.Proofs.YtallfkecjibpmaaGreatDoor.Cal
theorem w64 {x : Int} (h0 : -9223372036854775808 ≤ x) (h1 : x ≤ 9223372036854775807) : wrap64 x = x := by unfold wrap64; omega
theorem before_eq (y : Int) (h1 : 1 ≤ y) (h2 : y ≤ 100000) : tap_before.f y = some (bef y) := by
  unfold tap_before.f bef
  rw [w64 (x := y - 1) (by omega) (by omega), Int.tdiv_eq_ediv_of_nonneg (by omega), Int.tdiv_eq_ediv_of_nonneg (by omega), Int.tdiv_eq_ediv_of_nonneg (by omega)]
  rw [w64 (x := 365 * (y - 1)) (by omega) (by omega), w64 (x := (y - 1) / 4) (by omega) (by omega), w64 (x := (y - 1) / 100) (by omega) (by omega), w64 (x := (y - 1) / 400) (by omega) (by omega), w64 (x := 365 * (y - 1) + (y - 1) / 4) (by omega) (by omega), w64 (x := 365 * (y - 1) + (y - 1) / 4 - (y - 1) / 100) (by omega) (by omega), w64 (by omega) (by omega)]
theorem epoch_eq : tap_epoch.f = some 719162 := by
  unfold tap_epoch.f
  rw [before_eq 1970 (by omega) (by omega)]
  rfl
theorem inYears_eq (a : Int) : tap_inYears.f a = some (decide (-719162 ≤ a ∧ a < 2932897)) := by
  unfold tap_inYears.f
  rw [epoch_eq, before_eq 10000 (by omega) (by omega)]
  simp only [Option.bind_some]
  rw [show bef 10000 = 3652059 by decide, w64 (x := -719162) (by omega) (by omega), w64 (x := 3652059 - 719162) (by omega) (by omega)]
  by_cases h : a ≥ -719162
  · rw [if_pos h]
    congr 1
    exact decide_eq_decide.2 ⟨fun x => ⟨h, x⟩, fun x => x.2⟩
  · rw [if_neg h, decide_eq_false (fun x => h x.1)]
theorem isLeap_eq (y : Int) (h1 : 1 ≤ y) : tap_isLeap.f y = some (leap y) := by
  unfold tap_isLeap.f leap
  rw [Int.tmod_eq_emod_of_nonneg (by omega), Int.tmod_eq_emod_of_nonneg (by omega), Int.tmod_eq_emod_of_nonneg (by omega)]
  by_cases h4 : y % 4 = 0
  · rw [if_pos h4]
    by_cases h100 : y % 100 = 0
    · rw [if_pos h100]
      congr 1
      rw [Bool.eq_iff_iff]
      simp
      omega
    · rw [if_neg h100, decide_eq_true ⟨h4, .inl h100⟩]
  · rw [if_neg h4, decide_eq_false (fun h => h4 h.1)]
/-- The year of a day: from y on. -/
def yearFrom (n : Int) : Nat → Int → Int
  | 0, y => y
  | k + 1, y => if bef (y + 1) ≤ n then yearFrom n k (y + 1) else y
theorem yearFrom_at (n : Int) : ∀ (k : Nat) (y : Int), 1 ≤ y → bef y ≤ n → n < bef (y + k + 1) → y ≤ yearFrom n k y ∧ bef (yearFrom n k y) ≤ n ∧ n < bef (yearFrom n k y + 1)
  | 0, y, h1, h2, h3 => by simp only [yearFrom]; exact ⟨Int.le_refl _, h2, by simpa using h3⟩
  | k + 1, y, h1, h2, h3 => by
    unfold yearFrom
    by_cases h : bef (y + 1) ≤ n
    · rw [if_pos h]
      obtain ⟨a, b, c⟩ := yearFrom_at n k (y + 1) (by omega) h (by rw [show y + 1 + (k : Int) + 1 = y + ((k + 1 : Nat) : Int) + 1 by omega]; exact h3)
      exact ⟨by omega, b, c⟩
    · rw [if_neg h]; exact ⟨Int.le_refl _, h2, by omega⟩
def monFrom (y r : Int) : Nat → Int → Int
  | 0, m => m
  | k + 1, m => if mon y (m + 1) ≤ r then monFrom y r k (m + 1) else m
theorem monFrom_at (y r : Int) : ∀ (k : Nat) (m : Int), 1 ≤ m → m + k ≤ 12 → mon y m ≤ r → r < mon y (m + k + 1) → m ≤ monFrom y r k m ∧ monFrom y r k m ≤ 12 ∧ mon y (monFrom y r k m) ≤ r ∧ r < mon y (monFrom y r k m + 1)
  | 0, m, h1, h0, h2, h3 => by simp only [monFrom]; exact ⟨Int.le_refl _, by omega, h2, by simpa using h3⟩
  | k + 1, m, h1, h0, h2, h3 => by
    unfold monFrom
    by_cases h : mon y (m + 1) ≤ r
    · rw [if_pos h]
      obtain ⟨a, b, c, d⟩ := monFrom_at y r k (m + 1) (by omega) (by omega) h (by rw [show m + 1 + (k : Int) + 1 = m + ((k + 1 : Nat) : Int) + 1 by omega]; exact h3)
      exact ⟨by omega, b, c, d⟩
    · rw [if_neg h]; exact ⟨Int.le_refl _, by omega, h2, by omega⟩
/-- The date of a day that is counted from the year 1 on. -/
def dateOf (n : Int) : Int × Int × Int :=
  let y := yearFrom n 10000 1
  let m := monFrom y (n - bef y) 11 1
  (y, m, n - bef y - mon y m + 1)
theorem dateOf_is (n : Int) (h0 : 0 ≤ n) (h1 : n < 3652059) : IsDate n (dateOf n).1 (dateOf n).2.1 (dateOf n).2.2 ∧ (dateOf n).1 ≤ 9999 := by
  obtain ⟨a, b, c⟩ := yearFrom_at n 10000 1 (by omega) (by rw [show bef 1 = 0 by decide]; exact h0) (by rw [show bef (1 + ((10000 : Nat) : Int) + 1) = 3652790 by decide]; omega)
  have hy : yearFrom n 10000 1 ≤ 9999 := by
    have h5 : ¬ 10000 ≤ yearFrom n 10000 1 := fun h => by
      have := bef_le 10000 (yearFrom n 10000 1) (by omega) h
      rw [show bef 10000 = 3652059 by decide] at this
      omega
    omega
  have e : dateOf n = (yearFrom n 10000 1, monFrom (yearFrom n 10000 1) (n - bef (yearFrom n 10000 1)) 11 1, n - bef (yearFrom n 10000 1) - mon (yearFrom n 10000 1) (monFrom (yearFrom n 10000 1) (n - bef (yearFrom n 10000 1)) 11 1) + 1) := rfl
  rw [e]
  generalize yearFrom n 10000 1 = y at *
  rw [bef_next y a] at c
  obtain ⟨p, q, r, s⟩ := monFrom_at y (n - bef y) 11 1 (by omega) (by omega) (by rw [mon_one]; omega) (by rw [show (1 : Int) + ((11 : Nat) : Int) + 1 = 13 by omega]; omega)
  generalize monFrom y (n - bef y) 11 1 = m at *
  rw [mon_next y m p q] at s
  refine ⟨⟨a, p, q, ?_, ?_, ?_⟩, hy⟩
  · show 1 ≤ n - bef y - mon y m + 1
    omega
  · show n - bef y - mon y m + 1 ≤ len y m
    omega
  · show bef y + mon y m + (n - bef y - mon y m + 1) - 1 = n
    omega
theorem dateOf_eq {n y m d : Int} (h0 : 0 ≤ n) (h1 : n < 3652059) (h : IsDate n y m d) : dateOf n = (y, m, d) := by
  obtain ⟨a, b, c⟩ := date_one (dateOf_is n h0 h1).1 h
  rw [← a, ← b, ← c]
end Go.Proofs.YtallfkecjibpmaaGreatDoor.G
/- The days of the months, the number of a date, the date of a number: walked by hand. -/
set_option linter.unusedVariables false
namespace Go.Proofs.YtallfkecjibpmaaGreatDoor.G
open Go.RowKit Go.Proofs.YtallfkecjibpmaaGreatDoorW.PrintWords Go.Proofs.YtallfkecjibpmaaGreatDoor.K Go.Proofs.YtallfkecjibpmaaGreatDoor.Cal

def lensA (b : Int) : Array Value := #[.int .i64 31, .int .i64 b, .int .i64 31, .int .i64 30, .int .i64 31, .int .i64 30, .int .i64 31, .int .i64 31, .int .i64 30, .int .i64 31, .int .i64 30, .int .i64 31]
def feb (l : Bool) : Int := if l then 29 else 28
set_option maxHeartbeats 400000 in
set_option maxRecDepth 100000 in
theorem lengths_any (y : Int) (l : Bool) (w : World) (h : tap_isLeap.f y = some l) :
    Calls Tryz.prog 40 #[.int .i64 y] w fun e w' => e = .returned (.agg (lensA (feb l))) ∧ Below w.heap.size w w' := by
  have hu := Tryz.underlying81
  cases l
  all_goals
    go_enter Tryz.func40, Tryz.ntmps40
    go_wp2_with (go_at_call 61; refine (tap_isLeap.calls y _ _ h).mono ?_; rintro e w' ⟨rfl, ⟨nd, rfl⟩⟩)
    refine bodyPost_ret (v := .agg (lensA _)) (by simp [results, Tryz.results40, go_sem, lensA, feb]) rfl ⟨rfl, ?_⟩
    repeat refine Below.setCell ?_ (by simp) _
    refine pw_below_drewN ?_ _
    repeat refine Below.setCell ?_ (by simp) _
    exact ((Below.refl _ w).alloc (Nat.le_refl _) _).alloc (by simp) _
theorem twelve {m : Int} (h1 : 1 ≤ m) (h2 : m ≤ 12) : m = 1 ∨ m = 2 ∨ m = 3 ∨ m = 4 ∨ m = 5 ∨ m = 6 ∨ m = 7 ∨ m = 8 ∨ m = 9 ∨ m = 10 ∨ m = 11 ∨ m = 12 := by omega
def tap_lengthOf.f (a0 a1 : Int) : Option Int := if 1 ≤ a0 ∧ 1 ≤ a1 ∧ a1 ≤ 12 then some (len a0 a1) else none
set_option maxHeartbeats 4000000 in
set_option maxRecDepth 100000 in
theorem tap_lengthOf.calls (a0 a1 : Int) (r : Int) (w : World) (h : tap_lengthOf.f a0 a1 = some r) :
    Calls Tryz.prog 37 #[.int .i64 a0, .int .i64 a1] w fun e w' => e = .returned (.int .i64 r) ∧ Below w.heap.size w w' := by
  unfold tap_lengthOf.f at h
  split at h
  case isFalse => cases h
  case isTrue hs =>
  obtain ⟨hy, h1, h2⟩ := hs
  obtain rfl := Option.some.inj h
  clear h
  have hL := Aside0.mk (fun w => lengths_any a0 (leap a0) w (isLeap_eq a0 hy))
  obtain ⟨b, hb⟩ : ∃ b, b = feb (leap a0) := ⟨_, rfl⟩
  have hB : len a0 2 = b := by rw [hb]; unfold len feb; simp
  rw [← hb] at hL
  have hlen : Aside0 (∀ m, m ≠ 2 → len a0 m = if m = 4 ∨ m = 6 ∨ m = 9 ∨ m = 11 then 30 else 31) := ⟨fun m hm => by unfold len; rw [if_neg hm]⟩
  have hB := Aside0.mk hB
  clear hb
  rcases twelve h1 h2 with rfl | rfl | rfl | rfl | rfl | rfl | rfl | rfl | rfl | rfl | rfl | rfl
  all_goals
    clear h1 h2
    first | rw [hB.out] | rw [hlen.out _ (by decide)]
    go_enter Tryz.func37, Tryz.ntmps37
    go_wp2_with (go_at_call 40; refine (hL.out _).mono ?_; rintro e w1 ⟨rfl, hb1⟩; unfold lensA)
    go_ret
    exact ⟨rfl, hb1.alloc hb1.size _⟩

def tap_Days.f (a0 a1 a2 : Int) : Option (Int × Int) := if 1 ≤ a0 ∧ a0 ≤ 9999 ∧ 1 ≤ a1 ∧ a1 ≤ 12 ∧ 1 ≤ a2 ∧ a2 ≤ len a0 a1 then some (bef a0 + mon a0 a1 + a2 - 1 - 719162, 0) else some (0, 1)
theorem dayLen (a0 a1 : Int) : ∃ x, len a0 a1 = x := ⟨_, rfl⟩
set_option maxHeartbeats 4000000 in
set_option maxRecDepth 100000 in
theorem Days_bad (a0 a1 a2 : Int) (w : World) (h : ¬ (1 ≤ a0 ∧ a0 ≤ 9999 ∧ 1 ≤ a1 ∧ a1 ≤ 12 ∧ 1 ≤ a2 ∧ a2 ≤ len a0 a1)) :
    Calls Tryz.prog 21 #[.int .i64 a0, .int .i64 a1, .int .i64 a2] w fun e w' => e = .returned (.tuple #[.int .i64 0, .int .i64 1]) ∧ Below w.heap.size w w' := by
  have HB := Below.refl w.heap.size w
  by_cases c1 : a0 < 1
  · have d1 := decide_eq_true c1
    clear h c1
    go_enter Tryz.func21, Tryz.ntmps21
    go_wp2
    go_ret2
    exact ⟨rfl, HB⟩
  have d1 := decide_eq_false c1
  by_cases c2 : 9999 < a0
  · have d2 := decide_eq_true c2
    clear h c1 c2
    go_enter Tryz.func21, Tryz.ntmps21
    go_wp2
    go_ret2
    exact ⟨rfl, HB⟩
  have d2 := decide_eq_false c2
  by_cases c3 : a1 < 1
  · have d3 := decide_eq_true c3
    clear h c1 c2 c3
    go_enter Tryz.func21, Tryz.ntmps21
    go_wp2
    go_ret2
    exact ⟨rfl, HB⟩
  have d3 := decide_eq_false c3
  by_cases c4 : 12 < a1
  · have d4 := decide_eq_true c4
    clear h c1 c2 c3 c4
    go_enter Tryz.func21, Tryz.ntmps21
    go_wp2
    go_ret2
    exact ⟨rfl, HB⟩
  have d4 := decide_eq_false c4
  by_cases c5 : a2 < 1
  · have d5 := decide_eq_true c5
    clear h c1 c2 c3 c4 c5
    go_enter Tryz.func21, Tryz.ntmps21
    go_wp2
    go_ret2
    exact ⟨rfl, HB⟩
  have d5 := decide_eq_false c5
  have hc := Aside0.mk (fun w => tap_lengthOf.calls a0 a1 (len a0 a1) w (by unfold tap_lengthOf.f; rw [if_pos (by omega)]))
  have c6 : len a0 a1 < a2 := by omega
  obtain ⟨x, hx⟩ := dayLen a0 a1
  rw [hx] at hc c6
  have d6 := decide_eq_true c6
  clear h hx c1 c2 c3 c4 c5 c6
  go_enter Tryz.func21, Tryz.ntmps21
  go_wp2_with (go_at_call 37; refine (hc.out _).mono ?_; rintro e w1 ⟨rfl, hb1⟩)
  go_ret2
  exact ⟨rfl, hb1⟩
theorem ret_2i {k l : IntKind} {a b c : Int} (h : a = b) : Ending.returned (.tuple #[.int k a, .int l c]) = .returned (.tuple #[.int k b, .int l c]) := by rw [h]
theorem run_head (b M : Nat) (h : M ≤ 12) (w : World) : (Instr.sliceAt 81 (.pointer (some ⟨b, 0, none⟩)) none (some (.int .i64 (M : Int))) none).run Tryz.prog w = .ok (.slice (some ⟨b, 0, none⟩) M 12) w := by
  have hl : Tryz.prog.arrayLen 81 = 12 := by kernel_rfl
  have he : Tryz.prog.elem 81 = 3 := by kernel_rfl
  obtain ⟨i0, hi, hz0, hz1, hz2⟩ := info_parts (show (Tryz.prog.info? 3).map (fun i => (i.zero, i.size, i.bytes)) = some (some (.int .i64 0), 1, 8) by kernel_rfl)
  rw [run_sliceAt_array_h w 81 ⟨b, 0, none⟩ (by rw [hl, he]; exact Tryz.underlying81) .i64 (M : Int) (by omega) (by rw [hl]; omega), he, hl]
  simp [sizeOf, typeInfo, hi, slicedAt, Result.andThen, Addr.add]
set_option maxHeartbeats 4000000 in
set_option maxRecDepth 100000 in
theorem Days_good (a0 a1 a2 : Int) (w : World) (h : 1 ≤ a0 ∧ a0 ≤ 9999 ∧ 1 ≤ a1 ∧ a1 ≤ 12 ∧ 1 ≤ a2 ∧ a2 ≤ len a0 a1) :
    Calls Tryz.prog 21 #[.int .i64 a0, .int .i64 a1, .int .i64 a2] w fun e w' => e = .returned (.tuple #[.int .i64 (bef a0 + mon a0 a1 + a2 - 1 - 719162), .int .i64 0]) ∧ Below w.heap.size w w' := by
  obtain ⟨h1, h2, h3, h4, h5, h6⟩ := h
  have d1 := decide_eq_false (show ¬ a0 < 1 by omega)
  have d2 := decide_eq_false (show ¬ 9999 < a0 by omega)
  have d3 := decide_eq_false (show ¬ a1 < 1 by omega)
  have d4 := decide_eq_false (show ¬ 12 < a1 by omega)
  have d5 := decide_eq_false (show ¬ a2 < 1 by omega)
  have hc := Aside0.mk (fun w => tap_lengthOf.calls a0 a1 (len a0 a1) w (by unfold tap_lengthOf.f; rw [if_pos (by omega)]))
  have hL := Aside0.mk (fun w => lengths_any a0 (leap a0) w (isLeap_eq a0 h1))
  have hbf := Aside0.mk (fun w => tap_before.calls a0 (bef a0) w (before_eq a0 (by omega) (by omega)))
  have hep := Aside0.mk (fun w => tap_epoch.calls 719162 w epoch_eq)
  have hl31 := len_pos a0 a1
  have hbb : 0 ≤ bef a0 ∧ bef a0 ≤ 3651694 := by unfold bef; omega
  have hmm : ∀ m, 1 ≤ m → m ≤ 12 → 0 ≤ mon a0 m ∧ mon a0 m ≤ 366 := fun m x y => by
    have q1 := mon_le a0 1 m (by omega) (by omega) (by omega)
    have q2 := mon_le a0 m 13 (by omega) (by omega) (by omega)
    have q3 := mon_all a0
    rw [mon_one] at q1
    omega
  have hmm := Aside0.mk hmm
  have hnx := Aside0.mk (mon_next a0)
  have hl0 : Aside0 (feb (leap a0) = len a0 2) := ⟨by unfold len feb; simp⟩
  have hlen : Aside0 (∀ m, m ≠ 2 → len a0 m = if m = 4 ∨ m = 6 ∨ m = 9 ∨ m = 11 then 30 else 31) := ⟨fun m hm => by unfold len; rw [if_neg hm]⟩
  have hlp := Aside0.mk (fun m => len_pos a0 m)
  have hm0 := Aside0.mk (mon_one a0)
  rw [hl0.out] at hL
  generalize hB : bef a0 = B at *
  obtain ⟨x, hx⟩ := dayLen a0 a1
  rw [hx] at hc h6 hl31
  have d6 := decide_eq_false (show ¬ x < a2 by omega)
  clear hx hB
  obtain ⟨M, rfl⟩ : ∃ M : Nat, a1 = (M : Int) + 1 := ⟨(a1 - 1).toNat, by omega⟩
  go_enter Tryz.func21, Tryz.ntmps21
  go_wp2_with (first | (go_at_call 37; refine (hc.out _).mono ?_; rintro e w1 ⟨rfl, hb1⟩) | (go_at_call 38; refine (hbf.out _).mono ?_; rintro e w' ⟨rfl, ⟨nd, rfl⟩⟩) | (go_at_call 39; refine (hep.out _).mono ?_; rintro e w' ⟨rfl, ⟨nd2, rfl⟩⟩) | (go_at_call 40; refine (hL.out _).mono ?_; rintro e w2 ⟨rfl, hb2⟩; unfold lensA))
  rw [run_head w2.heap.size M (by omega)]
  simp only [Result.andThen]
  rw [Oper.upon_value]
  go_wp2
  obtain ⟨W, hW⟩ : ∃ W : World, W = w2.alloc (.cells #[.int .i64 31, .int .i64 (len a0 2), .int .i64 31, .int .i64 30, .int .i64 31, .int .i64 30, .int .i64 31, .int .i64 31, .int .i64 30, .int .i64 31, .int .i64 30, .int .i64 31] 81) := ⟨_, rfl⟩
  rw [← hW]
  have hbW : Below w.heap.size w W := by rw [hW]; exact ((pw_below_drewN hb1 _).trans (hb2.mono (by have := hb1.size; simp; omega))).alloc (by have := hb1.size; have := hb2.size; simp at this; omega) _
  have hcells : Aside0 (∀ k : Nat, k < 11 → W.cell? ⟨w2.heap.size, k, none⟩ = some (.int .i64 (len a0 ((k : Int) + 1)))) := ⟨fun k hk => by
    rw [hW]
    have : k = 0 ∨ k = 1 ∨ k = 2 ∨ k = 3 ∨ k = 4 ∨ k = 5 ∨ k = 6 ∨ k = 7 ∨ k = 8 ∨ k = 9 ∨ k = 10 := by omega
    rcases this with rfl | rfl | rfl | rfl | rfl | rfl | rfl | rfl | rfl | rfl | rfl
    all_goals first | (simp; done) | (simp; rw [hlen.out _ (by decide)]; simp; done) | (simp; rw [hlen.out _ (by decide)]; rfl)⟩
  clear hW
  generalize w2.heap.size = g at *
  go_loop [8, 50] (fun n i => ∃ k : Nat, k ≤ M ∧ i = .int .i64 k ∧ n = .int .i64 (B - 719162 + a2 - 1 + mon a0 ((k : Int) + 1))) (fun _ i => M - (intOf i).toNat)
  case atStart => exact ⟨0, by omega, rfl, by rw [show ((0 : Nat) : Int) + 1 = 1 from rfl, hm0.out, Int.add_zero]⟩
  case round =>
    obtain ⟨k, hk, rfl, rfl⟩ := hrel
    by_cases hlt : k < M
    · have hc := hcells.out k (by omega)
      have h9 := hmm.out ((k : Int) + 1) (by omega) (by omega)
      have h8 := hlp.out ((k : Int) + 1)
      have hn := Aside0.mk (hnx.out ((k : Int) + 1) (by omega) (by omega))
      generalize mon a0 ((k : Int) + 1) = z at *
      generalize len a0 ((k : Int) + 1) = v at *
      go_wp2
      go_round
      case rel => exact ⟨k + 1, by omega, by go_num, by rw [show ((k + 1 : Nat) : Int) + 1 = (k : Int) + 1 + 1 by omega, hn.out, Int.add_assoc]⟩
      case measure => simp [intOf]; omega
    · obtain rfl : k = M := by omega
      have h9 := hmm.out ((k : Int) + 1) (by omega) (by omega)
      go_wp2
      go_ret2
      exact ⟨ret_2i (by omega), hbW⟩
theorem tap_Days.calls (a0 a1 a2 : Int) (r1 r2 : Int) (w : World) (h : tap_Days.f a0 a1 a2 = some (r1, r2)) :
    Calls Tryz.prog 21 #[.int .i64 a0, .int .i64 a1, .int .i64 a2] w fun e w' => e = .returned (.tuple #[.int .i64 r1, .int .i64 r2]) ∧ Below w.heap.size w w' := by
  unfold tap_Days.f at h
  split at h
  case isTrue hs =>
    simp only [Option.some.injEq, Prod.mk.injEq] at h
    obtain ⟨rfl, rfl⟩ := h
    exact Days_good a0 a1 a2 w hs
  case isFalse hs =>
    simp only [Option.some.injEq, Prod.mk.injEq] at h
    obtain ⟨rfl, rfl⟩ := h
    exact Days_bad a0 a1 a2 w hs
end Go.Proofs.YtallfkecjibpmaaGreatDoor.G
/- The date of a number: walked by hand. -/
set_option linter.unusedVariables false
namespace Go.Proofs.YtallfkecjibpmaaGreatDoor.G
open Go.RowKit Go.Proofs.YtallfkecjibpmaaGreatDoorW.PrintWords Go.Proofs.YtallfkecjibpmaaGreatDoor.K Go.Proofs.YtallfkecjibpmaaGreatDoor.Cal

def tap_Date.f (a0 : Int) : Option (Int × Int × Int × Int) := if -719162 ≤ a0 ∧ a0 < 2932897 then some ((dateOf (a0 + 719162)).1, (dateOf (a0 + 719162)).2.1, (dateOf (a0 + 719162)).2.2, 0) else some (0, 0, 0, 1)
theorem idx12 (b : Int) (k : Nat) (v : Int) (hk : k < 12) (hv : (lensA b)[k]? = some (.int .i64 v)) (w : World) :
    (Instr.index 81 (.agg #[.int .i64 31, .int .i64 b, .int .i64 31, .int .i64 30, .int .i64 31, .int .i64 30, .int .i64 31, .int .i64 31, .int .i64 30, .int .i64 31, .int .i64 30, .int .i64 31]) (.int .i64 (k : Int))).run Tryz.prog w = .ok (.int .i64 v) w := by
  have : k = 0 ∨ k = 1 ∨ k = 2 ∨ k = 3 ∨ k = 4 ∨ k = 5 ∨ k = 6 ∨ k = 7 ∨ k = 8 ∨ k = 9 ∨ k = 10 ∨ k = 11 := by omega
  rcases this with rfl | rfl | rfl | rfl | rfl | rfl | rfl | rfl | rfl | rfl | rfl | rfl
  all_goals
    simp [lensA] at hv
    subst hv
    have hl : Tryz.prog.arrayLen 81 = 12 := by kernel_rfl
    simp [Instr.index, run_underlying Tryz.underlying81, go_sem]
theorem lens_at (y : Int) (k : Nat) (hk : k < 12) : (lensA (len y 2))[k]? = some (.int .i64 (len y ((k : Int) + 1))) := by
  have hlen : ∀ m, m ≠ 2 → len y m = if m = 4 ∨ m = 6 ∨ m = 9 ∨ m = 11 then 30 else 31 := fun m hm => by unfold len; rw [if_neg hm]
  have : k = 0 ∨ k = 1 ∨ k = 2 ∨ k = 3 ∨ k = 4 ∨ k = 5 ∨ k = 6 ∨ k = 7 ∨ k = 8 ∨ k = 9 ∨ k = 10 ∨ k = 11 := by omega
  rcases this with rfl | rfl | rfl | rfl | rfl | rfl | rfl | rfl | rfl | rfl | rfl | rfl
  all_goals first | (simp [lensA]; done) | (simp [lensA]; rw [hlen _ (by decide)]; simp; done) | (simp [lensA]; rw [hlen _ (by decide)]; rfl)
theorem ret_4i {a b c x y z d : Int} (h1 : a = x) (h2 : b = y) (h3 : c = z) : Ending.returned (.tuple #[.int .i64 a, .int .i64 b, .int .i64 c, .int .i64 d]) = .returned (.tuple #[.int .i64 x, .int .i64 y, .int .i64 z, .int .i64 d]) := by rw [h1, h2, h3]
set_option maxHeartbeats 4000000 in
set_option maxRecDepth 100000 in
theorem Date_bad (a0 : Int) (w : World) (h : ¬ (-719162 ≤ a0 ∧ a0 < 2932897)) :
    Calls Tryz.prog 32 #[.int .i64 a0] w fun e w' => e = .returned (.tuple #[.int .i64 0, .int .i64 0, .int .i64 0, .int .i64 1]) ∧ Below w.heap.size w w' := by
  have hiy := Aside0.mk (fun w => tap_inYears.calls a0 false w (by rw [inYears_eq, decide_eq_false h]))
  clear h
  go_enter Tryz.func32, Tryz.ntmps32
  go_wp2_with (go_at_call 56; refine (hiy.out _).mono ?_; rintro e w' ⟨rfl, ⟨nd, rfl⟩⟩)
  refine bodyPost_ret (v := .tuple #[.int .i64 0, .int .i64 0, .int .i64 0, .int .i64 1]) (by simp [results, Tryz.results32, go_sem]) rfl ⟨rfl, ?_⟩
  exact pw_below_drewN (Below.refl _ _) _
set_option maxHeartbeats 4000000 in
set_option maxRecDepth 100000 in
theorem Date_good (a0 : Int) (w : World) (h0 : -719162 ≤ a0) (h1 : a0 < 2932897) :
    Calls Tryz.prog 32 #[.int .i64 a0] w fun e w' => e = .returned (.tuple #[.int .i64 (dateOf (a0 + 719162)).1, .int .i64 (dateOf (a0 + 719162)).2.1, .int .i64 (dateOf (a0 + 719162)).2.2, .int .i64 0]) ∧ Below w.heap.size w w' := by
  have hiy := Aside0.mk (fun w => tap_inYears.calls a0 true w (by rw [inYears_eq, decide_eq_true ⟨h0, h1⟩]))
  have hep := Aside0.mk (fun w => tap_epoch.calls 719162 w epoch_eq)
  have hdt := Aside0.mk (fun y m d (h : IsDate (a0 + 719162) y m d) => dateOf_eq (by omega) (by omega) h)
  generalize dateOf (a0 + 719162) = D at *
  have hbf := Aside0.mk (fun y (h1 : 1 ≤ y) (h2 : y ≤ 10000) w => tap_before.calls y (bef y) w (before_eq y (by omega) (by omega)))
  have hq : (a0 + 719162) / 366 ≤ 9978 := by omega
  have hq0 : 0 ≤ (a0 + 719162) / 366 := by omega
  have hb0 : bef ((a0 + 719162) / 366 + 1) ≤ a0 + 719162 := by unfold bef; omega
  have hbe : bef 10000 = 3652059 := by decide
  have hbe := Aside0.mk hbe
  have hn0 : 0 ≤ a0 + 719162 := by omega
  go_enter Tryz.func32, Tryz.ntmps32
  go_wp2_with (first | (go_at_call 56; refine (hiy.out _).mono ?_; rintro e w' ⟨rfl, ⟨nd, rfl⟩⟩) | (go_at_call 39; refine (hep.out _).mono ?_; rintro e w' ⟨rfl, ⟨nd2, rfl⟩⟩))
  have hD := Aside0.mk (Below.refl w.heap.size w)
  have hpb := Aside0.mk (fun y (x : 1 ≤ y) => bef_next y x)
  have hbn := Aside0.mk (fun y (x1 : 1 ≤ y) (x2 : y ≤ 10000) => (show 0 ≤ bef y ∧ bef y ≤ 3652059 by unfold bef; omega))
  generalize hN : a0 + 719162 = N at *
  have hN2 : N < 3652059 := by omega
  have hq1 : 1 ≤ N / 366 + 1 := by omega
  have hq2 : N / 366 + 1 ≤ 9999 := by omega
  generalize N / 366 + 1 = y0 at *
  go_loopw [7] (fun v wr => ∃ (y : Int) (m : Nat), v = .int .i64 y ∧ wr = w.drewN m ∧ 1 ≤ y ∧ y ≤ 9999 ∧ bef y ≤ N) (fun v _ => (10000 - intOf v).toNat)
  case atStart => exact ⟨y0, _, rfl, rfl, hq1, hq2, hb0⟩
  case round =>
    obtain ⟨y, m, rfl, rfl, hy1, hy2, hyN⟩ := hrel
    have hc := Aside0.mk (hbf.out (y + 1) (by omega) (by omega))
    have hbd := hbn.out (y + 1) (by omega) (by omega)
    by_cases hlt : bef (y + 1) ≤ N
    · have hy3 : y + 1 ≤ 9999 := by
        rcases Int.lt_or_le y 9999 with h | h
        · omega
        · obtain rfl : y = 9999 := by omega
          have := hbe.out
          rw [show (9999 : Int) + 1 = 10000 from rfl] at hlt
          omega
      have hlt2 := Aside0.mk hlt
      generalize bef (y + 1) = z at hc hlt hbd
      go_wp2_with (go_at_call 38; refine (hc.out _).mono ?_; rintro e w' ⟨rfl, ⟨nd3, rfl⟩⟩)
      go_roundw
      case rel => exact ⟨y + 1, _, rfl, by first | rfl | rw [World.drewN_drewN], by omega, by omega, hlt2.out⟩
      case measure => simp [intOf]; omega
    · have hbd2 := hbn.out y (by omega) (by omega)
      have hc2 := Aside0.mk (hbf.out y (by omega) (by omega))
      have hnx := Aside0.mk (hpb.out y hy1)
      have hlt2 := Aside0.mk (show N < bef (y + 1) by omega)
      have hL := Aside0.mk (fun w => lengths_any y (leap y) w (isLeap_eq y hy1))
      have hl0 : Aside0 (feb (leap y) = len y 2) := ⟨by unfold len feb; simp⟩
      rw [hl0.out] at hL
      have hR := Aside0.mk (show N - bef y < mon y 13 by have := hnx.out; have := hlt2.out; omega)
      have hR0 : 0 ≤ N - bef y := by omega
      have hdte := Aside0.mk (fun (mm dd : Int) (a1 : 1 ≤ mm) (a2 : mm ≤ 12) (a3 : 1 ≤ dd) (a4 : dd ≤ len y mm) (a5 : bef y + mon y mm + dd - 1 = N) => hdt.out y mm dd ⟨hy1, a1, a2, a3, a4, a5⟩)
      generalize bef (y + 1) = z at hc hlt hbd
      clear hnx hlt2
      generalize hby : bef y = by_ at *
      clear hby
      go_wp2_with (first | (go_at_call 38; first | ((with_reducible refine (hc.out _).mono ?_); rintro e w' ⟨rfl, ⟨nd3, rfl⟩⟩) | ((with_reducible refine (hc2.out _).mono ?_); rintro e w' ⟨rfl, ⟨nd4, rfl⟩⟩)) | (go_at_call 40; refine (hL.out _).mono ?_; rintro e w2 ⟨rfl, hb2⟩; unfold lensA))
      have hm0 := Aside0.mk (mon_one y)
      have hmx := Aside0.mk (mon_next y)
      have hmn := Aside0.mk (fun (k : Nat) (a : k ≤ 12) => (show 0 ≤ mon y ((k : Int) + 1) ∧ mon y ((k : Int) + 1) ≤ 366 from by
        have q1 := mon_le y 1 ((k : Int) + 1) (by omega) (by omega) (by omega)
        have q2 := mon_le y ((k : Int) + 1) 13 (by omega) (by omega) (by omega)
        have q3 := mon_all y
        rw [mon_one] at q1
        omega))
      have hlp := Aside0.mk (fun m => len_pos y m)
      have hix := Aside0.mk (fun k (hk : k < 12) w => idx12 (len y 2) k _ hk (lens_at y k hk) w)
      obtain ⟨W, hW⟩ : ∃ W : World, W = w2 := ⟨_, rfl⟩
      rw [← hW]
      have hbW : Below w.heap.size w W := by rw [hW]; exact (pw_below_drewN (Below.refl _ _) _).trans hb2
      clear hW
      go_loop [33, 6, 8] (fun i n m => ∃ k : Nat, k ≤ 12 ∧ i = .int .i64 k ∧ n = .int .i64 (N - by_ - mon y ((k : Int) + 1)) ∧ m = .int .i64 ((k : Int) + 1) ∧ 0 ≤ N - by_ - mon y ((k : Int) + 1)) (fun i _ _ => 12 - (intOf i).toNat)
      case atStart => exact ⟨0, by omega, rfl, by rw [show ((0 : Nat) : Int) + 1 = 1 from rfl, hm0.out, Int.sub_zero], rfl, by rw [show ((0 : Nat) : Int) + 1 = 1 from rfl, hm0.out, Int.sub_zero]; exact hR0⟩
      case round =>
        obtain ⟨k, hk, rfl, rfl, rfl, hr⟩ := hrel
        have hk2 : k < 12 := by
          rcases Nat.lt_or_ge k 12 with h | h
          · exact h
          · obtain rfl : k = 12 := by omega
            have := hR.out
            rw [show ((12 : Nat) : Int) + 1 = 13 from rfl] at hr
            omega
        have hi := hix.out k hk2
        have hmb := hmn.out k hk
        have hnx := Aside0.mk (hmx.out ((k : Int) + 1) (by omega) (by omega))
        have hld := hlp.out ((k : Int) + 1)
        have hdx := Aside0.mk (hdte.out ((k : Int) + 1) (N - by_ - mon y ((k : Int) + 1) + 1) (by omega) (by omega) (by omega))
        by_cases hlt3 : N - by_ - mon y ((k : Int) + 1) < len y ((k : Int) + 1)
        · have hdd := Aside0.mk (hdx.out (by omega) (by omega))
          generalize mon y ((k : Int) + 1) = z1 at *
          generalize len y ((k : Int) + 1) = v1 at *
          go_wp2
          refine bodyPost_ret (v := .tuple #[.int .i64 y, .int .i64 ((k : Int) + 1), .int .i64 (N - by_ - z1 + 1), .int .i64 0]) (by simp [results, Tryz.results32, go_sem]) rfl ⟨?_, hbW⟩
          rw [hdd.out]
        · have hnx2 := Aside0.mk (show 0 ≤ N - by_ - mon y (((k + 1 : Nat) : Int) + 1) by have := hnx.out; rw [show ((k + 1 : Nat) : Int) + 1 = (k : Int) + 1 + 1 by omega]; omega)
          have hnx3 := Aside0.mk (show N - by_ - mon y (((k + 1 : Nat) : Int) + 1) = N - by_ - mon y ((k : Int) + 1) - len y ((k : Int) + 1) by have := hnx.out; rw [show ((k + 1 : Nat) : Int) + 1 = (k : Int) + 1 + 1 by omega]; omega)
          generalize mon y ((k : Int) + 1) = z1 at *
          generalize len y ((k : Int) + 1) = v1 at *
          go_wp2
          go_round
          case rel => exact ⟨k + 1, by omega, by go_num, by rw [hnx3.out], by go_num, hnx2.out⟩
          case measure => simp [intOf]; omega
theorem tap_Date.calls (a0 : Int) (r1 r2 r3 r4 : Int) (w : World) (h : tap_Date.f a0 = some (r1, r2, r3, r4)) :
    Calls Tryz.prog 32 #[.int .i64 a0] w fun e w' => e = .returned (.tuple #[.int .i64 r1, .int .i64 r2, .int .i64 r3, .int .i64 r4]) ∧ Below w.heap.size w w' := by
  unfold tap_Date.f at h
  split at h
  case isTrue hs =>
    simp only [Option.some.injEq, Prod.mk.injEq] at h
    obtain ⟨rfl, rfl, rfl, rfl⟩ := h
    exact Date_good a0 w hs.1 hs.2
  case isFalse hs =>
    simp only [Option.some.injEq, Prod.mk.injEq] at h
    obtain ⟨rfl, rfl, rfl, rfl⟩ := h
    exact Date_bad a0 w hs
end Go.Proofs.YtallfkecjibpmaaGreatDoor.G
/- The decimal text of a number, as the reference writes it. -/
set_option linter.unusedVariables false
namespace Go.Proofs.YtallfkecjibpmaaGreatDoor.G
open Go.RowKit Go.Proofs.YtallfkecjibpmaaGreatDoorW.PrintWords Go.Lib

theorem enc_digit (n : Nat) (h : n < 10) : Utf8.encode (48 + (n : Int)) = ⟨#[UInt8.ofNat (48 + n)]⟩ := by
  have : n = 0 ∨ n = 1 ∨ n = 2 ∨ n = 3 ∨ n = 4 ∨ n = 5 ∨ n = 6 ∨ n = 7 ∨ n = 8 ∨ n = 9 := by omega
  rcases this with rfl | rfl | rfl | rfl | rfl | rfl | rfl | rfl | rfl | rfl <;> rfl
theorem dec_small {u : Nat} (h : u < 10) : decDigits u = [UInt8.ofNat (48 + u)] := by rw [decDigits, dif_pos h]
theorem dec_big {u : Nat} (h : ¬ u < 10) : decDigits u = decDigits (u / 10) ++ [UInt8.ofNat (48 + u % 10)] := by rw [decDigits, dif_neg h]
theorem dec_len : ∀ (k u : Nat), u < 10 ^ (k + 1) → (decDigits u).length ≤ k + 1
  | 0, u, h => by rw [dec_small (by simpa using h)]; simp
  | k + 1, u, h => by
    by_cases h1 : u < 10
    · rw [dec_small h1]; simp
    · rw [dec_big h1, List.length_append]
      have := dec_len k (u / 10) (by rw [Nat.pow_succ] at h; omega)
      simp
      omega
theorem dec_len19 {u : Nat} (h : u ≤ 9223372036854775807) : (decDigits u).length ≤ 19 := dec_len 18 u (by omega)
theorem ba_app (a b : List UInt8) : (⟨a.toArray⟩ : ByteArray) ++ ⟨b.toArray⟩ = ⟨(a ++ b).toArray⟩ := by
  rw [ByteArray.ext_iff]
  simp
theorem ret_str {a b : ByteArray} (h : a = b) : Ending.returned (.string a) = .returned (.string b) := by rw [h]
set_option maxHeartbeats 1000000 in
set_option maxRecDepth 100000 in
theorem written_nat : ∀ (n : Nat), n ≤ 9223372036854775807 → ∀ w : World,
    Calls Tryz.prog 47 #[.int .i64 (n : Int)] w fun e w' => e = .returned (.string ⟨(decDigits n).toArray⟩) ∧ w' = w := by
  intro n
  induction n using Nat.strongRecOn with
  | _ n ih =>
    intro hn w
    have d1 : decide ((n : Int) < 0) = false := decide_eq_false (by omega)
    by_cases h : n < 10
    · have d2 : decide (10 ≤ (n : Int)) = false := decide_eq_false (by omega)
      have he := enc_digit n h
      have hq := dec_small h
      rw [hq, ← he]
      clear ih he hq
      go_enter Tryz.func47, Tryz.ntmps47
      go_wp2
      go_ret
      exact ⟨rfl, rfl⟩
    · have d2 : decide (10 ≤ (n : Int)) = true := decide_eq_true (by omega)
      have hi := Aside0.mk (ih (n / 10) (by omega) (by omega))
      have hq := dec_big h
      have he := enc_digit (n % 10) (by omega)
      have h19 := dec_len19 (show n / 10 ≤ 9223372036854775807 by omega)
      rw [show ((n / 10 : Nat) : Int) = (n : Int) / 10 by omega] at hi
      have hz1 : (⟨(decDigits (n / 10)).toArray⟩ : ByteArray).size ≤ 19 := by simpa [ByteArray.size] using h19
      have hz2 : (Utf8.encode (48 + (n : Int) % 10)).size ≤ 4 := by rw [show (n : Int) % 10 = ((n % 10 : Nat) : Int) by omega, he]; show 1 ≤ 4; omega
      have hfin : (⟨(decDigits (n / 10)).toArray⟩ : ByteArray) ++ Utf8.encode (48 + (n : Int) % 10) = ⟨(decDigits n).toArray⟩ := by
        rw [show (n : Int) % 10 = ((n % 10 : Nat) : Int) by omega, he, hq, show (⟨#[UInt8.ofNat (48 + n % 10)]⟩ : ByteArray) = ⟨[UInt8.ofNat (48 + n % 10)].toArray⟩ from rfl, ba_app]
      rw [← hfin]
      clear ih hq he h19 hfin
      generalize (⟨(decDigits (n / 10)).toArray⟩ : ByteArray) = s at *
      go_enter Tryz.func47, Tryz.ntmps47
      go_wp2_with (go_at_call 47; refine (hi.out _).mono ?_; rintro e w' ⟨rfl, rfl⟩)
      go_ret
      exact ⟨rfl, rfl⟩
def motleyref01_Written.f (a0 : Int) : Option ByteArray := if -9223372036854775808 < a0 ∧ a0 ≤ 9223372036854775807 then some ⟨(Lib.itoa a0).toArray⟩ else none
set_option maxHeartbeats 1000000 in
set_option maxRecDepth 100000 in
theorem motleyref01_Written.calls (a0 : Int) (r : ByteArray) (w : World) (h : motleyref01_Written.f a0 = some r) :
    Calls Tryz.prog 47 #[.int .i64 a0] w fun e w' => e = .returned (.string r) ∧ Drawn0 w w' := by
  unfold motleyref01_Written.f at h
  split at h
  case isFalse => cases h
  case isTrue hs =>
  obtain rfl := Option.some.inj h
  clear h
  by_cases hn : a0 < 0
  · have hi := Aside0.mk (written_nat a0.natAbs (by omega))
    rw [show ((a0.natAbs : Nat) : Int) = -a0 by omega] at hi
    have hfin : (⟨#[45]⟩ : ByteArray) ++ ⟨(decDigits a0.natAbs).toArray⟩ = ⟨(Lib.itoa a0).toArray⟩ := by
      rw [show (⟨#[45]⟩ : ByteArray) = ⟨[45].toArray⟩ from rfl, ba_app]
      unfold Lib.itoa
      rw [if_pos hn]
      rfl
    rw [← hfin]
    have h19 := dec_len19 (show a0.natAbs ≤ 9223372036854775807 by omega)
    have hz1 : (⟨(decDigits a0.natAbs).toArray⟩ : ByteArray).size ≤ 19 := by simpa [ByteArray.size] using h19
    clear hfin h19
    generalize (⟨(decDigits a0.natAbs).toArray⟩ : ByteArray) = s at *
    have d1 := decide_eq_true hn
    obtain ⟨hl, hu⟩ := hs
    go_enter Tryz.func47, Tryz.ntmps47
    go_wp2_with (go_at_call 47; refine (hi.out _).mono ?_; rintro e w' ⟨rfl, rfl⟩)
    go_ret
    exact ⟨rfl, Drawn0.refl _⟩
  · obtain ⟨n, rfl⟩ : ∃ n : Nat, a0 = (n : Int) := ⟨a0.toNat, by omega⟩
    refine (written_nat n (by omega) w).mono fun e w' ⟨h1, h2⟩ => ⟨?_, h2 ▸ Drawn0.refl _⟩
    rw [h1]
    unfold Lib.itoa
    rw [if_neg hn, Int.toNat_natCast]
end Go.Proofs.YtallfkecjibpmaaGreatDoor.G
/- The known answers of chapter 27: the law's own function 'known' returns true. Walked by hand at its one input. -/
set_option linter.unusedVariables false
namespace Go.Proofs.YtallfkecjibpmaaGreatDoor.G
open Go.RowKit Go.Proofs.YtallfkecjibpmaaGreatDoorW.PrintWords Go.Lib Go.Proofs.YtallfkecjibpmaaGreatDoor.J

theorem text_nil : tap_isText.f (⟨#[]⟩ : ByteArray) = some true := by kernel_rfl
theorem name_nil : tap_isName.f (⟨#[]⟩ : ByteArray) = some true := by kernel_rfl
theorem cell_lt {w : World} {b o : Nat} {v : Value} (h : w.cell? ⟨b, o, none⟩ = some v) : b < w.heap.size := World.block_lt_of_cell? w _ h
/-- One test that is ok, without name, directive and reason, lies in block b. -/
structure OneTest (b : Nat) (w : World) : Prop where
  c0 : w.cell? ⟨b, 0, none⟩ = some (.bool true)
  c1 : w.cell? ⟨b, 1, none⟩ = some (.string ⟨#[]⟩)
  c2 : w.cell? ⟨b, 2, none⟩ = some (.int .i64 0)
  c3 : w.cell? ⟨b, 3, none⟩ = some (.string ⟨#[]⟩)
theorem OneTest.below {b : Nat} {w w' : World} (h : OneTest b w) (hb : Below w.heap.size w w') : OneTest b w' :=
  ⟨pw_cell_below hb h.c0, pw_cell_below hb h.c1, pw_cell_below hb h.c2, pw_cell_below hb h.c3⟩
set_option maxHeartbeats 1000000 in
set_option maxRecDepth 100000 in
theorem asked_one (b : Nat) (w : World) (hL : LaidW w) (h : OneTest b w) :
    Calls Tryz.prog 36 #[.slice (some ⟨b, 0, none⟩) 1 1] w fun e w' => e = .returned (.int .i64 0) ∧ Below w.heap.size w w' := by
  have hbl := cell_lt h.c0
  have hH := Aside0.mk h
  have hu := Tryz.underlying45
  clear h
  go_enter Tryz.func36, Tryz.ntmps36
  go_wp2
  go_loopw [10] (fun i wr => ∃ k : Nat, k ≤ 1 ∧ i = .int .i64 k ∧ Below w.heap.size w wr) (fun i _ => 1 - (Go.RowKit.intOf i).toNat)
  case atStart => exact ⟨0, by omega, rfl, Below.refl _ _⟩
  case round =>
    obtain ⟨k, hk, rfl, hb⟩ := hrel
    have hL2 := hL.below hb
    obtain ⟨c0, c1, c2, c3⟩ := hH.out.below hb
    have hsz := hb.size
    rcases (show k = 0 ∨ k = 1 by omega) with rfl | rfl
    · go_wp2_with (first | (go_at_call 59; refine (tap_isName.calls _ true _ (hL2.below ((Below.refl _ _).alloc (Nat.le_refl _) _)) name_nil).mono ?_; rintro e w1 ⟨rfl, hb1⟩; have q3 : w1.cell? ⟨wr.heap.size, 3, none⟩ = some (.string ⟨#[]⟩) := pw_cell_below hb1 (by simp)) | (go_at_call 60; refine (tap_isText.calls _ true _ (LaidW.below hL2 (((Below.refl _ _).alloc (Nat.le_refl _) _).trans (hb1.mono (by simp)))) text_nil).mono ?_; rintro e w2 ⟨rfl, hb2⟩))
      go_roundw
      case rel => exact ⟨1, by omega, rfl, (hb.trans (((Below.refl _ _).alloc (Nat.le_refl _) _).mono hsz)).trans ((hb1.trans (hb2.mono hb1.size)).mono (by simp; omega))⟩
      case measure => simp [Go.RowKit.intOf]
    · go_wp2
      go_ret
      exact ⟨rfl, hb⟩

theorem itoa_one : strconv_Itoa.f 1 = some (⟨#[49]⟩ : ByteArray) := by
  unfold strconv_Itoa.f Lib.itoa
  rw [if_pos (by omega), if_neg (by omega), show (1 : Int).toNat = 1 from rfl, dec_small (by omega)]
  rfl
def okText : ByteArray := ⟨#[49, 46, 46, 49, 10, 111, 107, 32, 49, 10]⟩
set_option maxHeartbeats 1000000 in
set_option maxRecDepth 100000 in
theorem written_one (b : Nat) (w : World) (hL : LaidW w) (h : OneTest b w) :
    Calls Tryz.prog 27 #[.slice (some ⟨b, 0, none⟩) 1 1] w fun e w' => e = .returned (.string okText) ∧ Below w.heap.size w w' := by
  have hbl := cell_lt h.c0
  have hH := Aside0.mk h
  have hu := Tryz.underlying45
  clear h
  go_enter Tryz.func27, Tryz.ntmps27
  go_wp2_with (go_at_call 49; refine (strconv_Itoa.calls 1 _ _ hL itoa_one).mono ?_; rintro e w1 ⟨rfl, hb1⟩)
  go_loopw [13, 3] (fun i s wr => ∃ k : Nat, k ≤ 1 ∧ i = .int .i64 k ∧ s = .string (if k = 0 then ⟨#[49, 46, 46, 49, 10]⟩ else okText) ∧ Below w.heap.size w wr) (fun i _ _ => 1 - (Go.RowKit.intOf i).toNat)
  case atStart => exact ⟨0, by omega, rfl, rfl, hb1⟩
  case round =>
    obtain ⟨k, hk, rfl, rfl, hb⟩ := hrel
    have hL2 := hL.below hb
    obtain ⟨c0, c1, c2, c3⟩ := hH.out.below hb
    have hsz := hb.size
    rcases (show k = 0 ∨ k = 1 by omega) with rfl | rfl
    · simp only [if_true]
      go_wp2_with (go_at_call 49; refine (strconv_Itoa.calls 1 _ _ (hL2.below ((Below.refl _ _).alloc (Nat.le_refl _) _)) itoa_one).mono ?_; rintro e w2 ⟨rfl, hb2⟩; have q1 : w2.cell? ⟨wr.heap.size, 1, none⟩ = some (.string ⟨#[]⟩) := pw_cell_below hb2 (by simp); have q2 : w2.cell? ⟨wr.heap.size, 2, none⟩ = some (.int .i64 0) := pw_cell_below hb2 (by simp); have q3 : w2.cell? ⟨wr.heap.size, 3, none⟩ = some (.string ⟨#[]⟩) := pw_cell_below hb2 (by simp))
      go_roundw
      case rel => exact ⟨1, by omega, rfl, rfl, (hb.trans (((Below.refl _ _).alloc (Nat.le_refl _) _).mono hsz)).trans (hb2.mono (by simp; omega))⟩
      case measure => simp [Go.RowKit.intOf]
    · rw [if_neg (by omega)]
      go_wp2
      go_ret
      exact ⟨rfl, hb⟩
set_option maxHeartbeats 1000000 in
set_option maxRecDepth 100000 in
theorem Write_one (b : Nat) (w : World) (hL : LaidW w) (h : OneTest b w) :
    Calls Tryz.prog 20 #[.slice (some ⟨b, 0, none⟩) 1 1] w fun e w' => e = .returned (.tuple #[.string okText, .int .i64 0]) ∧ Below w.heap.size w w' := by
  have hH := Aside0.mk h
  clear h
  go_enter Tryz.func20, Tryz.ntmps20
  go_wp2_with (first | (go_at_call 36; refine (asked_one b _ hL hH.out).mono ?_; rintro e w1 ⟨rfl, hb1⟩) | (go_at_call 27; refine (written_one b _ (hL.below hb1) (hH.out.below hb1)).mono ?_; rintro e w2 ⟨rfl, hb2⟩))
  go_ret2
  exact ⟨rfl, hb1.trans (hb2.mono hb1.size)⟩
set_option maxHeartbeats 1000000 in
set_option maxRecDepth 100000 in
theorem Easter_known (w : World) :
    Calls Tryz.prog 22 #[.int .i64 2000] w fun e w' => e = .returned (.tuple #[.int .i64 4, .int .i64 23, .int .i64 0]) ∧ w' = w := by
  go_enter Tryz.func22, Tryz.ntmps22
  go_wp2
  go_ret3
  exact ⟨rfl, rfl⟩
def motleylaw27_known.f : Option Bool := some true
set_option maxHeartbeats 1000000 in
set_option maxRecDepth 100000 in
theorem motleylaw27_known.calls (r : Bool) (w : World) (hL : LaidW w) (h : motleylaw27_known.f = some r) :
    Calls Tryz.prog 6 #[] w fun e w' => e = .returned (.bool r) ∧ Below w.heap.size w w' := by
  obtain rfl := Option.some.inj h
  have hu := Tryz.underlying45
  have hd := Aside0.mk (fun w => tap_Days.calls 2000 3 1 11017 0 w (by decide +kernel))
  go_enter Tryz.func6, Tryz.ntmps6
  go_wp2_with (first | (go_at_call 20; refine (Write_one _ _ (hL.below ((Below.refl _ _).alloc (Nat.le_refl _) _)) ⟨by simp, by simp, by simp, by simp⟩).mono ?_; rintro e w1 ⟨rfl, hb1⟩; unfold okText) | (go_at_call 21; refine (hd.out _).mono ?_; rintro e w2 ⟨rfl, hb2⟩) | (go_at_call 22; refine (Easter_known _).mono ?_; rintro e w3 ⟨rfl, rfl⟩))
  go_ret
  exact ⟨rfl, ((Below.refl _ _).alloc (Nat.le_refl _) _).trans ((hb1.trans (hb2.mono hb1.size)).mono (by simp))⟩
end Go.Proofs.YtallfkecjibpmaaGreatDoor.G
