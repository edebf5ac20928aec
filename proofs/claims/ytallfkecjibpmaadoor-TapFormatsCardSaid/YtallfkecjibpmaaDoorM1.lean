/- What the Go functions of this seat give, as Lean functions, and that each call comes to it. Written by the session's own program (wip/tools/mprint.py). -/
import Derived.Test.YtallfkecjibpmaaDoorM0
namespace Go.Proofs.YtallfkecjibpmaaDoor.M
open Go.RowKit Go.Proofs.YtallfkecjibpmaaDoor.G Go.Proofs.YtallfkecjibpmaaDoorW.PrintWords Go.Proofs.YtallfkecjibpmaaDoorW.PrintLast Go.Proofs.YtallfkecjibpmaaDoorW.PrintMore
attribute [local go_sem] max2_int min2_int max_two min_two max_three min_three max_four min_four   -- for this text's walks alone
set_option linter.unusedVariables false
set_option linter.unusedSimpArgs false

/-! ### tap_isLeap: function 70 -/
def tap_isLeap.f (a0 : Int) : Option (Bool) := if (Int.tmod a0 4) = 0 then (if (Int.tmod a0 100) = 0 then (some ((Int.tmod a0 400) == 0)) else (some true)) else (some false)
set_option maxHeartbeats 8000000 in
set_option maxRecDepth 100000 in
theorem tap_isLeap.calls (a0 : Int) (r : Bool) (w : World) (h : tap_isLeap.f a0 = some r) :
    Calls Tryd.prog 70 #[.int .i64 a0] w fun e w' => e = .returned (.bool r) ∧ Drawn0 w w' := by
  have H : (if (Int.tmod a0 4) = 0 then (if (Int.tmod a0 100) = 0 then (some ((Int.tmod a0 400) == 0)) else (some true)) else (some false)) = some r := h
  clear h
  by_cases c2 : (Int.tmod a0 4) = 0
  · rw [if_pos c2] at H
    have c2b0 : ((Int.tmod a0 4) == 0) = true := beq_iff_eq.mpr c2
    have c2b1 : ((Int.tmod a0 4) != 0) = false := bne_eq_false_iff_eq.mpr c2
    clear c2
    by_cases c3 : (Int.tmod a0 100) = 0
    · rw [if_pos c3] at H
      have c3b0 : ((Int.tmod a0 100) == 0) = true := beq_iff_eq.mpr c3
      have c3b1 : ((Int.tmod a0 100) != 0) = false := bne_eq_false_iff_eq.mpr c3
      clear c3
      obtain rfl := Option.some.inj H
      go_enter Tryd.func70, Tryd.ntmps70
      go_wp2
      go_ret
      exact ⟨by first | rfl | (simp; done) | (simp [*]; done) | (simp; generalize ByteArray.toList _ = l_; cases l_ <;> rfl), by repeat (first | exact Drawn0.refl _ | apply Drawn0.step)⟩
    · rw [if_neg c3] at H
      have c3b0 : ((Int.tmod a0 100) == 0) = false := beq_eq_false_iff_ne.mpr c3
      have c3b1 : ((Int.tmod a0 100) != 0) = true := bne_iff_ne.mpr c3
      obtain rfl := Option.some.inj H
      go_enter Tryd.func70, Tryd.ntmps70
      go_wp2
      go_ret
      exact ⟨by first | rfl | (simp; done) | (simp [*]; done) | (simp; generalize ByteArray.toList _ = l_; cases l_ <;> rfl), by repeat (first | exact Drawn0.refl _ | apply Drawn0.step)⟩
  · rw [if_neg c2] at H
    have c2b0 : ((Int.tmod a0 4) == 0) = false := beq_eq_false_iff_ne.mpr c2
    have c2b1 : ((Int.tmod a0 4) != 0) = true := bne_iff_ne.mpr c2
    obtain rfl := Option.some.inj H
    go_enter Tryd.func70, Tryd.ntmps70
    go_wp2
    go_ret
    exact ⟨by first | rfl | (simp; done) | (simp [*]; done) | (simp; generalize ByteArray.toList _ = l_; cases l_ <;> rfl), by repeat (first | exact Drawn0.refl _ | apply Drawn0.step)⟩

/-! ### tap_before: function 39 -/
def tap_before.f (a0 : Int) : Option (Int) := some (wrap64 ((wrap64 ((wrap64 ((wrap64 (365 * (wrap64 (a0 - 1)))) + (wrap64 (Int.tdiv (wrap64 (a0 - 1)) 4)))) - (wrap64 (Int.tdiv (wrap64 (a0 - 1)) 100)))) + (wrap64 (Int.tdiv (wrap64 (a0 - 1)) 400))))
set_option maxHeartbeats 8000000 in
set_option maxRecDepth 100000 in
theorem tap_before.calls (a0 : Int) (r : Int) (w : World) (h : tap_before.f a0 = some r) :
    Calls Tryd.prog 39 #[.int .i64 a0] w fun e w' => e = .returned (.int .i64 r) ∧ Drawn0 w w' := by
  have H : (some (wrap64 ((wrap64 ((wrap64 ((wrap64 (365 * (wrap64 (a0 - 1)))) + (wrap64 (Int.tdiv (wrap64 (a0 - 1)) 4)))) - (wrap64 (Int.tdiv (wrap64 (a0 - 1)) 100)))) + (wrap64 (Int.tdiv (wrap64 (a0 - 1)) 400))))) = some r := h
  clear h
  obtain rfl := Option.some.inj H
  go_enter Tryd.func39, Tryd.ntmps39
  go_wp2
  go_ret
  exact ⟨by first | rfl | (simp; done) | (simp [*]; done) | (simp; generalize ByteArray.toList _ = l_; cases l_ <;> rfl), by repeat (first | exact Drawn0.refl _ | apply Drawn0.step)⟩

/-! ### tap_epoch: function 40 -/
def tap_epoch.f  : Option (Int) := (tap_before.f 1970).bind fun t101 => (some t101)
set_option maxHeartbeats 8000000 in
set_option maxRecDepth 100000 in
theorem tap_epoch.calls  (r : Int) (w : World) (h : tap_epoch.f  = some r) :
    Calls Tryd.prog 40 #[] w fun e w' => e = .returned (.int .i64 r) ∧ Drawn0 w w' := by
  have H : ((tap_before.f 1970).bind fun t101 => (some t101)) = some r := h
  clear h
  replace H := Option.bind_eq_some_iff.mp H
  obtain ⟨t101, A10, H⟩ := H
  replace H : (some t101) = some r := H
  have A1 := Aside0.mk A10
  clear A10
  obtain rfl := Option.some.inj H
  go_enter Tryd.func40, Tryd.ntmps40
  go_wp2_with (first | ((with_reducible refine gate_callee (f := 39) rfl ?_); refine goesL_ (some 1) rfl rfl Tryd.func39 (by kernel_rfl) rfl #[.int .i64 1970] rfl (by (try simp only [List.map_toArray, List.map_cons, List.map_nil]); first | done | rfl | (simp only [List.length_drop, List.length_take]; rfl)) ?_; (with_reducible refine (tap_before.calls 1970 t101 _ A1.out).mono ?_); rintro e w' ⟨rfl, ⟨nd, rfl⟩⟩; refine ⟨_, rfl, ?_⟩))
  go_ret
  exact ⟨by first | rfl | (simp; done) | (simp [*]; done) | (simp; generalize ByteArray.toList _ = l_; cases l_ <;> rfl), by repeat (first | exact Drawn0.refl _ | apply Drawn0.step)⟩

/-! ### tap_Easter: function 14 -/
def tap_Easter.f (a0 : Int) : Option (Int × Int × Int) := if a0 < 1583 then (some (0, 0, 1)) else (if a0 > 9999 then (some (0, 0, 1)) else (some (wrap64 (Int.tdiv (wrap64 ((wrap64 ((wrap64 ((Int.tmod (wrap64 ((wrap64 ((wrap64 ((wrap64 ((wrap64 (19 * (Int.tmod a0 19))) + (wrap64 (Int.tdiv a0 100)))) - (wrap64 (Int.tdiv (wrap64 (Int.tdiv a0 100)) 4)))) - (wrap64 (Int.tdiv (wrap64 ((wrap64 ((wrap64 (Int.tdiv a0 100)) - (wrap64 (Int.tdiv (wrap64 ((wrap64 (Int.tdiv a0 100)) + 8)) 25)))) + 1)) 3)))) + 15)) 30) + (Int.tmod (wrap64 ((wrap64 ((wrap64 ((wrap64 (32 + (wrap64 (2 * (Int.tmod (wrap64 (Int.tdiv a0 100)) 4))))) + (wrap64 (2 * (wrap64 (Int.tdiv (Int.tmod a0 100) 4)))))) - (Int.tmod (wrap64 ((wrap64 ((wrap64 ((wrap64 ((wrap64 (19 * (Int.tmod a0 19))) + (wrap64 (Int.tdiv a0 100)))) - (wrap64 (Int.tdiv (wrap64 (Int.tdiv a0 100)) 4)))) - (wrap64 (Int.tdiv (wrap64 ((wrap64 ((wrap64 (Int.tdiv a0 100)) - (wrap64 (Int.tdiv (wrap64 ((wrap64 (Int.tdiv a0 100)) + 8)) 25)))) + 1)) 3)))) + 15)) 30))) - (Int.tmod (Int.tmod a0 100) 4))) 7))) - (wrap64 (7 * (wrap64 (Int.tdiv (wrap64 ((wrap64 ((Int.tmod a0 19) + (wrap64 (11 * (Int.tmod (wrap64 ((wrap64 ((wrap64 ((wrap64 ((wrap64 (19 * (Int.tmod a0 19))) + (wrap64 (Int.tdiv a0 100)))) - (wrap64 (Int.tdiv (wrap64 (Int.tdiv a0 100)) 4)))) - (wrap64 (Int.tdiv (wrap64 ((wrap64 ((wrap64 (Int.tdiv a0 100)) - (wrap64 (Int.tdiv (wrap64 ((wrap64 (Int.tdiv a0 100)) + 8)) 25)))) + 1)) 3)))) + 15)) 30))))) + (wrap64 (22 * (Int.tmod (wrap64 ((wrap64 ((wrap64 ((wrap64 (32 + (wrap64 (2 * (Int.tmod (wrap64 (Int.tdiv a0 100)) 4))))) + (wrap64 (2 * (wrap64 (Int.tdiv (Int.tmod a0 100) 4)))))) - (Int.tmod (wrap64 ((wrap64 ((wrap64 ((wrap64 ((wrap64 (19 * (Int.tmod a0 19))) + (wrap64 (Int.tdiv a0 100)))) - (wrap64 (Int.tdiv (wrap64 (Int.tdiv a0 100)) 4)))) - (wrap64 (Int.tdiv (wrap64 ((wrap64 ((wrap64 (Int.tdiv a0 100)) - (wrap64 (Int.tdiv (wrap64 ((wrap64 (Int.tdiv a0 100)) + 8)) 25)))) + 1)) 3)))) + 15)) 30))) - (Int.tmod (Int.tmod a0 100) 4))) 7))))) 451)))))) + 114)) 31), wrap64 ((Int.tmod (wrap64 ((wrap64 ((wrap64 ((Int.tmod (wrap64 ((wrap64 ((wrap64 ((wrap64 ((wrap64 (19 * (Int.tmod a0 19))) + (wrap64 (Int.tdiv a0 100)))) - (wrap64 (Int.tdiv (wrap64 (Int.tdiv a0 100)) 4)))) - (wrap64 (Int.tdiv (wrap64 ((wrap64 ((wrap64 (Int.tdiv a0 100)) - (wrap64 (Int.tdiv (wrap64 ((wrap64 (Int.tdiv a0 100)) + 8)) 25)))) + 1)) 3)))) + 15)) 30) + (Int.tmod (wrap64 ((wrap64 ((wrap64 ((wrap64 (32 + (wrap64 (2 * (Int.tmod (wrap64 (Int.tdiv a0 100)) 4))))) + (wrap64 (2 * (wrap64 (Int.tdiv (Int.tmod a0 100) 4)))))) - (Int.tmod (wrap64 ((wrap64 ((wrap64 ((wrap64 ((wrap64 (19 * (Int.tmod a0 19))) + (wrap64 (Int.tdiv a0 100)))) - (wrap64 (Int.tdiv (wrap64 (Int.tdiv a0 100)) 4)))) - (wrap64 (Int.tdiv (wrap64 ((wrap64 ((wrap64 (Int.tdiv a0 100)) - (wrap64 (Int.tdiv (wrap64 ((wrap64 (Int.tdiv a0 100)) + 8)) 25)))) + 1)) 3)))) + 15)) 30))) - (Int.tmod (Int.tmod a0 100) 4))) 7))) - (wrap64 (7 * (wrap64 (Int.tdiv (wrap64 ((wrap64 ((Int.tmod a0 19) + (wrap64 (11 * (Int.tmod (wrap64 ((wrap64 ((wrap64 ((wrap64 ((wrap64 (19 * (Int.tmod a0 19))) + (wrap64 (Int.tdiv a0 100)))) - (wrap64 (Int.tdiv (wrap64 (Int.tdiv a0 100)) 4)))) - (wrap64 (Int.tdiv (wrap64 ((wrap64 ((wrap64 (Int.tdiv a0 100)) - (wrap64 (Int.tdiv (wrap64 ((wrap64 (Int.tdiv a0 100)) + 8)) 25)))) + 1)) 3)))) + 15)) 30))))) + (wrap64 (22 * (Int.tmod (wrap64 ((wrap64 ((wrap64 ((wrap64 (32 + (wrap64 (2 * (Int.tmod (wrap64 (Int.tdiv a0 100)) 4))))) + (wrap64 (2 * (wrap64 (Int.tdiv (Int.tmod a0 100) 4)))))) - (Int.tmod (wrap64 ((wrap64 ((wrap64 ((wrap64 ((wrap64 (19 * (Int.tmod a0 19))) + (wrap64 (Int.tdiv a0 100)))) - (wrap64 (Int.tdiv (wrap64 (Int.tdiv a0 100)) 4)))) - (wrap64 (Int.tdiv (wrap64 ((wrap64 ((wrap64 (Int.tdiv a0 100)) - (wrap64 (Int.tdiv (wrap64 ((wrap64 (Int.tdiv a0 100)) + 8)) 25)))) + 1)) 3)))) + 15)) 30))) - (Int.tmod (Int.tmod a0 100) 4))) 7))))) 451)))))) + 114)) 31) + 1), 0)))
set_option maxHeartbeats 8000000 in
set_option maxRecDepth 100000 in
theorem tap_Easter.calls (a0 : Int) (r1 : Int) (r2 : Int) (r3 : Int) (w : World) (h : tap_Easter.f a0 = some (r1, r2, r3)) :
    Calls Tryd.prog 14 #[.int .i64 a0] w fun e w' => e = .returned (.tuple #[.int .i64 r1, .int .i64 r2, .int .i64 r3]) ∧ Drawn0 w w' := by
  have H : (if a0 < 1583 then (some (0, 0, 1)) else (if a0 > 9999 then (some (0, 0, 1)) else (some (wrap64 (Int.tdiv (wrap64 ((wrap64 ((wrap64 ((Int.tmod (wrap64 ((wrap64 ((wrap64 ((wrap64 ((wrap64 (19 * (Int.tmod a0 19))) + (wrap64 (Int.tdiv a0 100)))) - (wrap64 (Int.tdiv (wrap64 (Int.tdiv a0 100)) 4)))) - (wrap64 (Int.tdiv (wrap64 ((wrap64 ((wrap64 (Int.tdiv a0 100)) - (wrap64 (Int.tdiv (wrap64 ((wrap64 (Int.tdiv a0 100)) + 8)) 25)))) + 1)) 3)))) + 15)) 30) + (Int.tmod (wrap64 ((wrap64 ((wrap64 ((wrap64 (32 + (wrap64 (2 * (Int.tmod (wrap64 (Int.tdiv a0 100)) 4))))) + (wrap64 (2 * (wrap64 (Int.tdiv (Int.tmod a0 100) 4)))))) - (Int.tmod (wrap64 ((wrap64 ((wrap64 ((wrap64 ((wrap64 (19 * (Int.tmod a0 19))) + (wrap64 (Int.tdiv a0 100)))) - (wrap64 (Int.tdiv (wrap64 (Int.tdiv a0 100)) 4)))) - (wrap64 (Int.tdiv (wrap64 ((wrap64 ((wrap64 (Int.tdiv a0 100)) - (wrap64 (Int.tdiv (wrap64 ((wrap64 (Int.tdiv a0 100)) + 8)) 25)))) + 1)) 3)))) + 15)) 30))) - (Int.tmod (Int.tmod a0 100) 4))) 7))) - (wrap64 (7 * (wrap64 (Int.tdiv (wrap64 ((wrap64 ((Int.tmod a0 19) + (wrap64 (11 * (Int.tmod (wrap64 ((wrap64 ((wrap64 ((wrap64 ((wrap64 (19 * (Int.tmod a0 19))) + (wrap64 (Int.tdiv a0 100)))) - (wrap64 (Int.tdiv (wrap64 (Int.tdiv a0 100)) 4)))) - (wrap64 (Int.tdiv (wrap64 ((wrap64 ((wrap64 (Int.tdiv a0 100)) - (wrap64 (Int.tdiv (wrap64 ((wrap64 (Int.tdiv a0 100)) + 8)) 25)))) + 1)) 3)))) + 15)) 30))))) + (wrap64 (22 * (Int.tmod (wrap64 ((wrap64 ((wrap64 ((wrap64 (32 + (wrap64 (2 * (Int.tmod (wrap64 (Int.tdiv a0 100)) 4))))) + (wrap64 (2 * (wrap64 (Int.tdiv (Int.tmod a0 100) 4)))))) - (Int.tmod (wrap64 ((wrap64 ((wrap64 ((wrap64 ((wrap64 (19 * (Int.tmod a0 19))) + (wrap64 (Int.tdiv a0 100)))) - (wrap64 (Int.tdiv (wrap64 (Int.tdiv a0 100)) 4)))) - (wrap64 (Int.tdiv (wrap64 ((wrap64 ((wrap64 (Int.tdiv a0 100)) - (wrap64 (Int.tdiv (wrap64 ((wrap64 (Int.tdiv a0 100)) + 8)) 25)))) + 1)) 3)))) + 15)) 30))) - (Int.tmod (Int.tmod a0 100) 4))) 7))))) 451)))))) + 114)) 31), wrap64 ((Int.tmod (wrap64 ((wrap64 ((wrap64 ((Int.tmod (wrap64 ((wrap64 ((wrap64 ((wrap64 ((wrap64 (19 * (Int.tmod a0 19))) + (wrap64 (Int.tdiv a0 100)))) - (wrap64 (Int.tdiv (wrap64 (Int.tdiv a0 100)) 4)))) - (wrap64 (Int.tdiv (wrap64 ((wrap64 ((wrap64 (Int.tdiv a0 100)) - (wrap64 (Int.tdiv (wrap64 ((wrap64 (Int.tdiv a0 100)) + 8)) 25)))) + 1)) 3)))) + 15)) 30) + (Int.tmod (wrap64 ((wrap64 ((wrap64 ((wrap64 (32 + (wrap64 (2 * (Int.tmod (wrap64 (Int.tdiv a0 100)) 4))))) + (wrap64 (2 * (wrap64 (Int.tdiv (Int.tmod a0 100) 4)))))) - (Int.tmod (wrap64 ((wrap64 ((wrap64 ((wrap64 ((wrap64 (19 * (Int.tmod a0 19))) + (wrap64 (Int.tdiv a0 100)))) - (wrap64 (Int.tdiv (wrap64 (Int.tdiv a0 100)) 4)))) - (wrap64 (Int.tdiv (wrap64 ((wrap64 ((wrap64 (Int.tdiv a0 100)) - (wrap64 (Int.tdiv (wrap64 ((wrap64 (Int.tdiv a0 100)) + 8)) 25)))) + 1)) 3)))) + 15)) 30))) - (Int.tmod (Int.tmod a0 100) 4))) 7))) - (wrap64 (7 * (wrap64 (Int.tdiv (wrap64 ((wrap64 ((Int.tmod a0 19) + (wrap64 (11 * (Int.tmod (wrap64 ((wrap64 ((wrap64 ((wrap64 ((wrap64 (19 * (Int.tmod a0 19))) + (wrap64 (Int.tdiv a0 100)))) - (wrap64 (Int.tdiv (wrap64 (Int.tdiv a0 100)) 4)))) - (wrap64 (Int.tdiv (wrap64 ((wrap64 ((wrap64 (Int.tdiv a0 100)) - (wrap64 (Int.tdiv (wrap64 ((wrap64 (Int.tdiv a0 100)) + 8)) 25)))) + 1)) 3)))) + 15)) 30))))) + (wrap64 (22 * (Int.tmod (wrap64 ((wrap64 ((wrap64 ((wrap64 (32 + (wrap64 (2 * (Int.tmod (wrap64 (Int.tdiv a0 100)) 4))))) + (wrap64 (2 * (wrap64 (Int.tdiv (Int.tmod a0 100) 4)))))) - (Int.tmod (wrap64 ((wrap64 ((wrap64 ((wrap64 ((wrap64 (19 * (Int.tmod a0 19))) + (wrap64 (Int.tdiv a0 100)))) - (wrap64 (Int.tdiv (wrap64 (Int.tdiv a0 100)) 4)))) - (wrap64 (Int.tdiv (wrap64 ((wrap64 ((wrap64 (Int.tdiv a0 100)) - (wrap64 (Int.tdiv (wrap64 ((wrap64 (Int.tdiv a0 100)) + 8)) 25)))) + 1)) 3)))) + 15)) 30))) - (Int.tmod (Int.tmod a0 100) 4))) 7))))) 451)))))) + 114)) 31) + 1), 0)))) = some (r1, r2, r3) := h
  clear h
  by_cases c2 : a0 < 1583
  · rw [if_pos c2] at H
    have c2b0 : decide (a0 < 1583) = true := decide_eq_true c2
    clear c2
    simp only [Option.some.injEq, Prod.mk.injEq] at H
    obtain ⟨rfl, rfl, rfl⟩ := H
    go_enter Tryd.func14, Tryd.ntmps14
    go_wp2
    go_ret3
    exact ⟨by first | rfl | (simp; done) | (simp [*]; done) | (simp; generalize ByteArray.toList _ = l_; cases l_ <;> rfl), by repeat (first | exact Drawn0.refl _ | apply Drawn0.step)⟩
  · rw [if_neg c2] at H
    have c2b0 : decide (a0 < 1583) = false := decide_eq_false c2
    clear c2
    by_cases c3 : a0 > 9999
    · rw [if_pos c3] at H
      have c3b0 : decide (9999 < a0) = true := decide_eq_true c3
      clear c3
      simp only [Option.some.injEq, Prod.mk.injEq] at H
      obtain ⟨rfl, rfl, rfl⟩ := H
      go_enter Tryd.func14, Tryd.ntmps14
      go_wp2
      go_ret3
      exact ⟨by first | rfl | (simp; done) | (simp [*]; done) | (simp; generalize ByteArray.toList _ = l_; cases l_ <;> rfl), by repeat (first | exact Drawn0.refl _ | apply Drawn0.step)⟩
    · rw [if_neg c3] at H
      have c3b0 : decide (9999 < a0) = false := decide_eq_false c3
      clear c3
      simp only [Option.some.injEq, Prod.mk.injEq] at H
      obtain ⟨rfl, rfl, rfl⟩ := H
      go_enter Tryd.func14, Tryd.ntmps14
      go_wp2
      go_ret3
      exact ⟨by first | rfl | (simp; done) | (simp [*]; done) | (simp; generalize ByteArray.toList _ = l_; cases l_ <;> rfl), by repeat (first | exact Drawn0.refl _ | apply Drawn0.step)⟩

/-! ### motleyref27_isYear: function 35 -/
def motleyref27_isYear.f (a0 : Int) : Option (Bool) := if 1 ≤ a0 then (some (decide (a0 ≤ 9999))) else (some false)
set_option maxHeartbeats 8000000 in
set_option maxRecDepth 100000 in
theorem motleyref27_isYear.calls (a0 : Int) (r : Bool) (w : World) (h : motleyref27_isYear.f a0 = some r) :
    Calls Tryd.prog 35 #[.int .i64 a0] w fun e w' => e = .returned (.bool r) ∧ Drawn0 w w' := by
  have H : (if 1 ≤ a0 then (some (decide (a0 ≤ 9999))) else (some false)) = some r := h
  clear h
  by_cases c2 : 1 ≤ a0
  · rw [if_pos c2] at H
    have c2b0 : decide (1 ≤ a0) = true := decide_eq_true c2
    clear c2
    obtain rfl := Option.some.inj H
    go_enter Tryd.func35, Tryd.ntmps35
    go_wp2
    go_ret
    exact ⟨by first | rfl | (simp; done) | (simp [*]; done) | (simp; generalize ByteArray.toList _ = l_; cases l_ <;> rfl), by repeat (first | exact Drawn0.refl _ | apply Drawn0.step)⟩
  · rw [if_neg c2] at H
    have c2b0 : decide (1 ≤ a0) = false := decide_eq_false c2
    clear c2
    obtain rfl := Option.some.inj H
    go_enter Tryd.func35, Tryd.ntmps35
    go_wp2
    go_ret
    exact ⟨by first | rfl | (simp; done) | (simp [*]; done) | (simp; generalize ByteArray.toList _ = l_; cases l_ <;> rfl), by repeat (first | exact Drawn0.refl _ | apply Drawn0.step)⟩

/-! ### motleyref27_leap: function 69 -/
def motleyref27_leap.f (a0 : Int) : Option (Bool) := if (Int.tmod a0 4) = 0 then (if (Int.tmod a0 100) = 0 then (some ((Int.tmod a0 400) == 0)) else (some true)) else (some false)
set_option maxHeartbeats 8000000 in
set_option maxRecDepth 100000 in
theorem motleyref27_leap.calls (a0 : Int) (r : Bool) (w : World) (h : motleyref27_leap.f a0 = some r) :
    Calls Tryd.prog 69 #[.int .i64 a0] w fun e w' => e = .returned (.bool r) ∧ Drawn0 w w' := by
  have H : (if (Int.tmod a0 4) = 0 then (if (Int.tmod a0 100) = 0 then (some ((Int.tmod a0 400) == 0)) else (some true)) else (some false)) = some r := h
  clear h
  by_cases c2 : (Int.tmod a0 4) = 0
  · rw [if_pos c2] at H
    have c2b0 : ((Int.tmod a0 4) == 0) = true := beq_iff_eq.mpr c2
    have c2b1 : ((Int.tmod a0 4) != 0) = false := bne_eq_false_iff_eq.mpr c2
    clear c2
    by_cases c3 : (Int.tmod a0 100) = 0
    · rw [if_pos c3] at H
      have c3b0 : ((Int.tmod a0 100) == 0) = true := beq_iff_eq.mpr c3
      have c3b1 : ((Int.tmod a0 100) != 0) = false := bne_eq_false_iff_eq.mpr c3
      clear c3
      obtain rfl := Option.some.inj H
      go_enter Tryd.func69, Tryd.ntmps69
      go_wp2
      go_ret
      exact ⟨by first | rfl | (simp; done) | (simp [*]; done) | (simp; generalize ByteArray.toList _ = l_; cases l_ <;> rfl), by repeat (first | exact Drawn0.refl _ | apply Drawn0.step)⟩
    · rw [if_neg c3] at H
      have c3b0 : ((Int.tmod a0 100) == 0) = false := beq_eq_false_iff_ne.mpr c3
      have c3b1 : ((Int.tmod a0 100) != 0) = true := bne_iff_ne.mpr c3
      obtain rfl := Option.some.inj H
      go_enter Tryd.func69, Tryd.ntmps69
      go_wp2
      go_ret
      exact ⟨by first | rfl | (simp; done) | (simp [*]; done) | (simp; generalize ByteArray.toList _ = l_; cases l_ <;> rfl), by repeat (first | exact Drawn0.refl _ | apply Drawn0.step)⟩
  · rw [if_neg c2] at H
    have c2b0 : ((Int.tmod a0 4) == 0) = false := beq_eq_false_iff_ne.mpr c2
    have c2b1 : ((Int.tmod a0 4) != 0) = true := bne_iff_ne.mpr c2
    obtain rfl := Option.some.inj H
    go_enter Tryd.func69, Tryd.ntmps69
    go_wp2
    go_ret
    exact ⟨by first | rfl | (simp; done) | (simp [*]; done) | (simp; generalize ByteArray.toList _ = l_; cases l_ <;> rfl), by repeat (first | exact Drawn0.refl _ | apply Drawn0.step)⟩

/-! ### motleyref27_length: function 36 -/
def motleyref27_length.f (a0 : Int) (a1 : Int) : Option (Int) := if a1 = 2 then ((motleyref27_leap.f a0).bind fun t102 => (if t102 = true then (some 29) else (some 28))) else (if a1 = 4 then (some 30) else (if a1 = 6 then (some 30) else (if a1 = 9 then (some 30) else (if a1 = 11 then (some 30) else (some 31)))))
set_option maxHeartbeats 8000000 in
set_option maxRecDepth 100000 in
theorem motleyref27_length.calls (a0 : Int) (a1 : Int) (r : Int) (w : World) (h : motleyref27_length.f a0 a1 = some r) :
    Calls Tryd.prog 36 #[.int .i64 a0, .int .i64 a1] w fun e w' => e = .returned (.int .i64 r) ∧ Drawn0 w w' := by
  have H : (if a1 = 2 then ((motleyref27_leap.f a0).bind fun t102 => (if t102 = true then (some 29) else (some 28))) else (if a1 = 4 then (some 30) else (if a1 = 6 then (some 30) else (if a1 = 9 then (some 30) else (if a1 = 11 then (some 30) else (some 31)))))) = some r := h
  clear h
  by_cases c3 : a1 = 2
  · rw [if_pos c3] at H
    have c3b0 : (a1 == 2) = true := beq_iff_eq.mpr c3
    have c3b1 : (a1 != 2) = false := bne_eq_false_iff_eq.mpr c3
    clear c3
    replace H := Option.bind_eq_some_iff.mp H
    obtain ⟨t102, A40, H⟩ := H
    replace H : (if t102 = true then (some 29) else (some 28)) = some r := H
    have A4 := Aside0.mk A40
    clear A40
    by_cases c5 : t102 = true
    · subst c5
      have H1 : (some 29) = some r := by rw [if_pos rfl] at H; exact H
      clear H
      have H := H1
      clear H1
      obtain rfl := Option.some.inj H
      go_enter Tryd.func36, Tryd.ntmps36
      go_wp2_with (first | ((with_reducible refine gate_callee (f := 69) rfl ?_); refine goesL_ (some 9) rfl rfl Tryd.func69 (by kernel_rfl) rfl #[.int .i64 a0] rfl (by (try simp only [List.map_toArray, List.map_cons, List.map_nil]); first | done | rfl | (simp only [List.length_drop, List.length_take]; rfl)) ?_; (with_reducible refine (motleyref27_leap.calls a0 true _ A4.out).mono ?_); rintro e w' ⟨rfl, ⟨nd, rfl⟩⟩; refine ⟨_, rfl, ?_⟩))
      go_ret
      exact ⟨by first | rfl | (simp; done) | (simp [*]; done) | (simp; generalize ByteArray.toList _ = l_; cases l_ <;> rfl), by repeat (first | exact Drawn0.refl _ | apply Drawn0.step)⟩
    · replace c5 := Bool.eq_false_iff.mpr c5
      subst c5
      have H1 : (some 28) = some r := by rw [if_neg (show ¬ (false = true) by decide)] at H; exact H
      clear H
      have H := H1
      clear H1
      obtain rfl := Option.some.inj H
      go_enter Tryd.func36, Tryd.ntmps36
      go_wp2_with (first | ((with_reducible refine gate_callee (f := 69) rfl ?_); refine goesL_ (some 9) rfl rfl Tryd.func69 (by kernel_rfl) rfl #[.int .i64 a0] rfl (by (try simp only [List.map_toArray, List.map_cons, List.map_nil]); first | done | rfl | (simp only [List.length_drop, List.length_take]; rfl)) ?_; (with_reducible refine (motleyref27_leap.calls a0 false _ A4.out).mono ?_); rintro e w' ⟨rfl, ⟨nd, rfl⟩⟩; refine ⟨_, rfl, ?_⟩))
      go_ret
      exact ⟨by first | rfl | (simp; done) | (simp [*]; done) | (simp; generalize ByteArray.toList _ = l_; cases l_ <;> rfl), by repeat (first | exact Drawn0.refl _ | apply Drawn0.step)⟩
  · rw [if_neg c3] at H
    have c3b0 : (a1 == 2) = false := beq_eq_false_iff_ne.mpr c3
    have c3b1 : (a1 != 2) = true := bne_iff_ne.mpr c3
    by_cases c6 : a1 = 4
    · rw [if_pos c6] at H
      have c6b0 : (a1 == 4) = true := beq_iff_eq.mpr c6
      have c6b1 : (a1 != 4) = false := bne_eq_false_iff_eq.mpr c6
      clear c6
      obtain rfl := Option.some.inj H
      go_enter Tryd.func36, Tryd.ntmps36
      go_wp2
      go_ret
      exact ⟨by first | rfl | (simp; done) | (simp [*]; done) | (simp; generalize ByteArray.toList _ = l_; cases l_ <;> rfl), by repeat (first | exact Drawn0.refl _ | apply Drawn0.step)⟩
    · rw [if_neg c6] at H
      have c6b0 : (a1 == 4) = false := beq_eq_false_iff_ne.mpr c6
      have c6b1 : (a1 != 4) = true := bne_iff_ne.mpr c6
      by_cases c7 : a1 = 6
      · rw [if_pos c7] at H
        have c7b0 : (a1 == 6) = true := beq_iff_eq.mpr c7
        have c7b1 : (a1 != 6) = false := bne_eq_false_iff_eq.mpr c7
        clear c7
        obtain rfl := Option.some.inj H
        go_enter Tryd.func36, Tryd.ntmps36
        go_wp2
        go_ret
        exact ⟨by first | rfl | (simp; done) | (simp [*]; done) | (simp; generalize ByteArray.toList _ = l_; cases l_ <;> rfl), by repeat (first | exact Drawn0.refl _ | apply Drawn0.step)⟩
      · rw [if_neg c7] at H
        have c7b0 : (a1 == 6) = false := beq_eq_false_iff_ne.mpr c7
        have c7b1 : (a1 != 6) = true := bne_iff_ne.mpr c7
        by_cases c8 : a1 = 9
        · rw [if_pos c8] at H
          have c8b0 : (a1 == 9) = true := beq_iff_eq.mpr c8
          have c8b1 : (a1 != 9) = false := bne_eq_false_iff_eq.mpr c8
          clear c8
          obtain rfl := Option.some.inj H
          go_enter Tryd.func36, Tryd.ntmps36
          go_wp2
          go_ret
          exact ⟨by first | rfl | (simp; done) | (simp [*]; done) | (simp; generalize ByteArray.toList _ = l_; cases l_ <;> rfl), by repeat (first | exact Drawn0.refl _ | apply Drawn0.step)⟩
        · rw [if_neg c8] at H
          have c8b0 : (a1 == 9) = false := beq_eq_false_iff_ne.mpr c8
          have c8b1 : (a1 != 9) = true := bne_iff_ne.mpr c8
          by_cases c9 : a1 = 11
          · rw [if_pos c9] at H
            have c9b0 : (a1 == 11) = true := beq_iff_eq.mpr c9
            have c9b1 : (a1 != 11) = false := bne_eq_false_iff_eq.mpr c9
            clear c9
            obtain rfl := Option.some.inj H
            go_enter Tryd.func36, Tryd.ntmps36
            go_wp2
            go_ret
            exact ⟨by first | rfl | (simp; done) | (simp [*]; done) | (simp; generalize ByteArray.toList _ = l_; cases l_ <;> rfl), by repeat (first | exact Drawn0.refl _ | apply Drawn0.step)⟩
          · rw [if_neg c9] at H
            have c9b0 : (a1 == 11) = false := beq_eq_false_iff_ne.mpr c9
            have c9b1 : (a1 != 11) = true := bne_iff_ne.mpr c9
            obtain rfl := Option.some.inj H
            go_enter Tryd.func36, Tryd.ntmps36
            go_wp2
            go_ret
            exact ⟨by first | rfl | (simp; done) | (simp [*]; done) | (simp; generalize ByteArray.toList _ = l_; cases l_ <;> rfl), by repeat (first | exact Drawn0.refl _ | apply Drawn0.step)⟩

/-! ### motleyref27_civil: function 37 -/
def motleyref27_civil.l0 : Nat → Int → Int → Int → Int → Option (Int)
  | 0, _, _, _, _ => none
  | k + 1, x0, x1, x5, x7 => if x7 < x1 then ((motleyref27_length.f x0 x7).bind fun t103 => (motleyref27_civil.l0 k x0 x1 (wrap64 (x5 + t103)) (wrap64 (x7 + 1)))) else (some (wrap64 (x5 - 719162)))
def motleyref27_civil.f (k : Nat) (a0 : Int) (a1 : Int) : Option (Int) := motleyref27_civil.l0 k a0 a1 (wrap64 ((wrap64 ((wrap64 ((wrap64 (365 * (wrap64 (a0 - 1)))) + (wrap64 (Int.tdiv (wrap64 (a0 - 1)) 4)))) - (wrap64 (Int.tdiv (wrap64 (a0 - 1)) 100)))) + (wrap64 (Int.tdiv (wrap64 (a0 - 1)) 400)))) 1
theorem motleyref27_civil.mono_l : ∀ k, (∀ y0 y1 y2 y3, LeO (motleyref27_civil.l0 k y0 y1 y2 y3) (motleyref27_civil.l0 (k + 1) y0 y1 y2 y3))
  | 0 => fun _ _ _ _ r h => by simp [motleyref27_civil.l0] at h
  | k + 1 => by
    have ih0 := motleyref27_civil.mono_l k
    · intro y0 y1 y2 y3
      unfold motleyref27_civil.l0
      repeat' first
      | (with_reducible exact ih0 _ _ _ _)
      | (with_reducible exact LeO.refl _)
      | (with_reducible exact LeO.none _)
      | (with_reducible refine LeO.ite ?_ ?_)
      | (with_reducible refine LeO.bind ?_ (fun _ => ?_))
      | exact ih0 _ _ _ _
      | exact LeO.none _
      | refine LeO.ite ?_ ?_
      | refine LeO.bind ?_ (fun _ => ?_)
theorem motleyref27_civil.mono : ∀ a0 a1 k, LeO (motleyref27_civil.f k a0 a1) (motleyref27_civil.f (k + 1) a0 a1) := by
  intro a0 a1 k
  have ih0 := motleyref27_civil.mono_l k
  unfold motleyref27_civil.f
  repeat' first
      | (with_reducible exact ih0 _ _ _ _)
      | (with_reducible exact LeO.refl _)
      | (with_reducible exact LeO.none _)
      | (with_reducible refine LeO.ite ?_ ?_)
      | (with_reducible refine LeO.bind ?_ (fun _ => ?_))
      | exact ih0 _ _ _ _
      | exact LeO.none _
      | refine LeO.ite ?_ ?_
      | refine LeO.bind ?_ (fun _ => ?_)
set_option maxHeartbeats 8000000 in
set_option maxRecDepth 100000 in
theorem motleyref27_civil.calls (k : Nat) (a0 : Int) (a1 : Int) (r : Int) (w : World) (h : motleyref27_civil.f k a0 a1 = some r) :
    Calls Tryd.prog 37 #[.int .i64 a0, .int .i64 a1] w fun e w' => e = .returned (.int .i64 r) ∧ Drawn0 w w' := by
  have H : (motleyref27_civil.l0 k a0 a1 (wrap64 ((wrap64 ((wrap64 ((wrap64 (365 * (wrap64 (a0 - 1)))) + (wrap64 (Int.tdiv (wrap64 (a0 - 1)) 4)))) - (wrap64 (Int.tdiv (wrap64 (a0 - 1)) 100)))) + (wrap64 (Int.tdiv (wrap64 (a0 - 1)) 400)))) 1) = some r := h
  clear h
  have H' := Aside0.mk H
  clear H
  go_enter Tryd.func37, Tryd.ntmps37
  go_wp2
  go_loopg [5, 7] k (fun kq v5 v7 w' => ∃ (x5_1 : Int) (x7_1 : Int), v5 = .int .i64 x5_1 ∧ v7 = .int .i64 x7_1 ∧ Aside0 (motleyref27_civil.l0 kq a0 a1 x5_1 x7_1 = some r) ∧ Aside0 (kq ≤ k) ∧ Drawn0 w w')
  case atStart => exact ⟨(wrap64 ((wrap64 ((wrap64 ((wrap64 (365 * (wrap64 (a0 - 1)))) + (wrap64 (Int.tdiv (wrap64 (a0 - 1)) 4)))) - (wrap64 (Int.tdiv (wrap64 (a0 - 1)) 100)))) + (wrap64 (Int.tdiv (wrap64 (a0 - 1)) 400)))), (1), (by first | rfl | (simp; done) | (simp [*]; done) | (simp; generalize ByteArray.toList _ = l_; cases l_ <;> rfl)), (by first | rfl | (simp; done) | (simp [*]; done) | (simp; generalize ByteArray.toList _ = l_; cases l_ <;> rfl)), H', ⟨Nat.le_refl _⟩, by repeat (first | exact Drawn0.refl _ | apply Drawn0.step)⟩
  case round =>
    clear H'
    try clear p2
    obtain ⟨x5_1, x7_1, rfl, rfl, HA, HK1, ⟨m1, rfl⟩⟩ := hrel
    cases gk with
    | zero => exact absurd HA.out (by simp [motleyref27_civil.l0])
    | succ k1 =>
      have H := HA.out
      clear HA
      simp only [motleyref27_civil.l0] at H
      by_cases c3 : x7_1 < a1
      · rw [if_pos c3] at H
        have c3b0 : decide (x7_1 < a1) = true := decide_eq_true c3
        clear c3
        replace H := Option.bind_eq_some_iff.mp H
        obtain ⟨t103, A40, H⟩ := H
        replace H : (motleyref27_civil.l0 k1 a0 a1 (wrap64 (x5_1 + t103)) (wrap64 (x7_1 + 1))) = some r := H
        have A4 := Aside0.mk A40
        clear A40
        have H' := Aside0.mk H
        clear H
        go_wp2_with (first | ((with_reducible refine gate_callee (f := 36) rfl ?_); refine goesL_ (some 29) rfl rfl Tryd.func36 (by kernel_rfl) rfl #[.int .i64 a0, .int .i64 x7_1] rfl (by (try simp only [List.map_toArray, List.map_cons, List.map_nil]); first | done | rfl | (simp only [List.length_drop, List.length_take]; rfl)) ?_; (with_reducible refine (motleyref27_length.calls a0 x7_1 t103 _ A4.out).mono ?_); rintro e w' ⟨rfl, ⟨nd, rfl⟩⟩; refine ⟨_, rfl, ?_⟩))
        go_roundg k1
        case measure => have := HK1.out; omega
        case rel => exact ⟨(wrap64 (x5_1 + t103)), (wrap64 (x7_1 + 1)), (by first | rfl | (simp; done) | (simp [*]; done) | (simp; generalize ByteArray.toList _ = l_; cases l_ <;> rfl)), (by first | rfl | (simp; done) | (simp [*]; done) | (simp; generalize ByteArray.toList _ = l_; cases l_ <;> rfl)), H', ⟨by have := HK1.out; omega⟩, by repeat (first | exact Drawn0.refl _ | apply Drawn0.step)⟩
      · rw [if_neg c3] at H
        have c3b0 : decide (x7_1 < a1) = false := decide_eq_false c3
        clear c3
        obtain rfl := Option.some.inj H
        go_wp2
        go_ret
        exact ⟨by first | rfl | (simp; done) | (simp [*]; done) | (simp; generalize ByteArray.toList _ = l_; cases l_ <;> rfl), by repeat (first | exact Drawn0.refl _ | apply Drawn0.step)⟩

/-! ### motleyref27_isDay: function 44 -/
def motleyref27_isDay.f (k : Nat) (a0 : Int) : Option (Bool) := (motleyref27_civil.f k 1 1).bind fun t104 => (if t104 ≤ a0 then ((motleyref27_civil.f k 10000 1).bind fun t105 => (some (decide (a0 < t105)))) else (some false))
theorem motleyref27_isDay.mono : ∀ a0 k, LeO (motleyref27_isDay.f k a0) (motleyref27_isDay.f (k + 1) a0) := by
  intro a0 k
  unfold motleyref27_isDay.f
  repeat' first
      | (with_reducible exact motleyref27_civil.mono _ _ _)
      | (with_reducible exact LeO.refl _)
      | (with_reducible exact LeO.none _)
      | (with_reducible refine LeO.ite ?_ ?_)
      | (with_reducible refine LeO.bind ?_ (fun _ => ?_))
      | exact motleyref27_civil.mono _ _ _
      | exact LeO.none _
      | refine LeO.ite ?_ ?_
      | refine LeO.bind ?_ (fun _ => ?_)
set_option maxHeartbeats 8000000 in
set_option maxRecDepth 100000 in
theorem motleyref27_isDay.calls (k : Nat) (a0 : Int) (r : Bool) (w : World) (h : motleyref27_isDay.f k a0 = some r) :
    Calls Tryd.prog 44 #[.int .i64 a0] w fun e w' => e = .returned (.bool r) ∧ Drawn0 w w' := by
  have H : ((motleyref27_civil.f k 1 1).bind fun t104 => (if t104 ≤ a0 then ((motleyref27_civil.f k 10000 1).bind fun t105 => (some (decide (a0 < t105)))) else (some false))) = some r := h
  clear h
  replace H := Option.bind_eq_some_iff.mp H
  obtain ⟨t104, A20, H⟩ := H
  replace H : (if t104 ≤ a0 then ((motleyref27_civil.f k 10000 1).bind fun t105 => (some (decide (a0 < t105)))) else (some false)) = some r := H
  have A2 := Aside0.mk A20
  clear A20
  by_cases c3 : t104 ≤ a0
  · rw [if_pos c3] at H
    have c3b0 : decide (t104 ≤ a0) = true := decide_eq_true c3
    clear c3
    replace H := Option.bind_eq_some_iff.mp H
    obtain ⟨t105, A40, H⟩ := H
    replace H : (some (decide (a0 < t105))) = some r := H
    have A4 := Aside0.mk A40
    clear A40
    obtain rfl := Option.some.inj H
    go_enter Tryd.func44, Tryd.ntmps44
    go_wp2_with (first | ((with_reducible refine gate_callee (f := 37) rfl ?_); refine goesL_ (some 3) rfl rfl Tryd.func37 (by kernel_rfl) rfl #[.int .i64 1, .int .i64 1] rfl (by (try simp only [List.map_toArray, List.map_cons, List.map_nil]); first | done | rfl | (simp only [List.length_drop, List.length_take]; rfl)) ?_; (with_reducible refine (motleyref27_civil.calls k 1 1 t104 _ A2.out).mono ?_); rintro e w' ⟨rfl, ⟨nd, rfl⟩⟩; refine ⟨_, rfl, ?_⟩) | (go_at_call 37; (with_reducible refine (motleyref27_civil.calls k 10000 1 t105 _ A4.out).mono ?_); rintro e w' ⟨rfl, ⟨nd, rfl⟩⟩))
    go_ret
    exact ⟨by first | rfl | (simp; done) | (simp [*]; done) | (simp; generalize ByteArray.toList _ = l_; cases l_ <;> rfl), by repeat (first | exact Drawn0.refl _ | apply Drawn0.step)⟩
  · rw [if_neg c3] at H
    have c3b0 : decide (t104 ≤ a0) = false := decide_eq_false c3
    clear c3
    obtain rfl := Option.some.inj H
    go_enter Tryd.func44, Tryd.ntmps44
    go_wp2_with (first | ((with_reducible refine gate_callee (f := 37) rfl ?_); refine goesL_ (some 3) rfl rfl Tryd.func37 (by kernel_rfl) rfl #[.int .i64 1, .int .i64 1] rfl (by (try simp only [List.map_toArray, List.map_cons, List.map_nil]); first | done | rfl | (simp only [List.length_drop, List.length_take]; rfl)) ?_; (with_reducible refine (motleyref27_civil.calls k 1 1 t104 _ A2.out).mono ?_); rintro e w' ⟨rfl, ⟨nd, rfl⟩⟩; refine ⟨_, rfl, ?_⟩))
    go_ret
    exact ⟨by first | rfl | (simp; done) | (simp [*]; done) | (simp; generalize ByteArray.toList _ = l_; cases l_ <;> rfl), by repeat (first | exact Drawn0.refl _ | apply Drawn0.step)⟩

/-! ### motleyref27_Date: function 16 -/
mutual
def motleyref27_Date.l0 : Nat → Int → Int → Int → Option (Int × Int × Int × Int)
  | 0, _, _, _ => none
  | k + 1, x0, x6, x7 => if x7 > 0 then (motleyref27_Date.l1 k x0 x6 x7) else (motleyref27_Date.l2 k x0 x6 1)
def motleyref27_Date.l1 : Nat → Int → Int → Int → Option (Int × Int × Int × Int)
  | 0, _, _, _ => none
  | k + 1, x0, x6, x7 => (motleyref27_isYear.f (wrap64 (x6 + x7))).bind fun t107 => (if t107 = true then ((motleyref27_civil.f k (wrap64 (x6 + x7)) 1).bind fun t108 => (if t108 ≤ x0 then (motleyref27_Date.l1 k x0 (wrap64 (x6 + x7)) x7) else (motleyref27_Date.l0 k x0 x6 (wrap64 (Int.tdiv x7 2))))) else (motleyref27_Date.l0 k x0 x6 (wrap64 (Int.tdiv x7 2))))
def motleyref27_Date.l2 : Nat → Int → Int → Int → Option (Int × Int × Int × Int)
  | 0, _, _, _ => none
  | k + 1, x0, x6, x8 => if x8 < 12 then ((motleyref27_civil.f k x6 (wrap64 (x8 + 1))).bind fun t109 => (if t109 ≤ x0 then (motleyref27_Date.l2 k x0 x6 (wrap64 (x8 + 1))) else ((motleyref27_civil.f k x6 x8).bind fun t110 => (some (x6, x8, wrap64 ((wrap64 (x0 - t110)) + 1), 0))))) else ((motleyref27_civil.f k x6 x8).bind fun t111 => (some (x6, x8, wrap64 ((wrap64 (x0 - t111)) + 1), 0)))
end
def motleyref27_Date.f (k : Nat) (a0 : Int) : Option (Int × Int × Int × Int) := (motleyref27_isDay.f k a0).bind fun t106 => (if t106 = true then (motleyref27_Date.l0 k a0 1 4096) else (some (0, 0, 0, 1)))
theorem motleyref27_Date.mono_l : ∀ k, (∀ y0 y1 y2, LeO (motleyref27_Date.l0 k y0 y1 y2) (motleyref27_Date.l0 (k + 1) y0 y1 y2)) ∧ (∀ y0 y1 y2, LeO (motleyref27_Date.l1 k y0 y1 y2) (motleyref27_Date.l1 (k + 1) y0 y1 y2)) ∧ (∀ y0 y1 y2, LeO (motleyref27_Date.l2 k y0 y1 y2) (motleyref27_Date.l2 (k + 1) y0 y1 y2))
  | 0 => ⟨fun _ _ _ r h => by simp [motleyref27_Date.l0] at h, fun _ _ _ r h => by simp [motleyref27_Date.l1] at h, fun _ _ _ r h => by simp [motleyref27_Date.l2] at h⟩
  | k + 1 => by
    obtain ⟨ih0, ih1, ih2⟩ := motleyref27_Date.mono_l k
    refine ⟨?_, ?_, ?_⟩
    · intro y0 y1 y2
      unfold motleyref27_Date.l0
      repeat' first
      | (with_reducible exact ih0 _ _ _)
      | (with_reducible exact ih1 _ _ _)
      | (with_reducible exact ih2 _ _ _)
      | (with_reducible exact motleyref27_civil.mono _ _ _)
      | (with_reducible exact motleyref27_isDay.mono _ _)
      | (with_reducible exact LeO.refl _)
      | (with_reducible exact LeO.none _)
      | (with_reducible refine LeO.ite ?_ ?_)
      | (with_reducible refine LeO.bind ?_ (fun _ => ?_))
      | exact ih0 _ _ _
      | exact ih1 _ _ _
      | exact ih2 _ _ _
      | exact motleyref27_civil.mono _ _ _
      | exact motleyref27_isDay.mono _ _
      | exact LeO.none _
      | refine LeO.ite ?_ ?_
      | refine LeO.bind ?_ (fun _ => ?_)
    · intro y0 y1 y2
      unfold motleyref27_Date.l1
      repeat' first
      | (with_reducible exact ih0 _ _ _)
      | (with_reducible exact ih1 _ _ _)
      | (with_reducible exact ih2 _ _ _)
      | (with_reducible exact motleyref27_civil.mono _ _ _)
      | (with_reducible exact motleyref27_isDay.mono _ _)
      | (with_reducible exact LeO.refl _)
      | (with_reducible exact LeO.none _)
      | (with_reducible refine LeO.ite ?_ ?_)
      | (with_reducible refine LeO.bind ?_ (fun _ => ?_))
      | exact ih0 _ _ _
      | exact ih1 _ _ _
      | exact ih2 _ _ _
      | exact motleyref27_civil.mono _ _ _
      | exact motleyref27_isDay.mono _ _
      | exact LeO.none _
      | refine LeO.ite ?_ ?_
      | refine LeO.bind ?_ (fun _ => ?_)
    · intro y0 y1 y2
      unfold motleyref27_Date.l2
      repeat' first
      | (with_reducible exact ih0 _ _ _)
      | (with_reducible exact ih1 _ _ _)
      | (with_reducible exact ih2 _ _ _)
      | (with_reducible exact motleyref27_civil.mono _ _ _)
      | (with_reducible exact motleyref27_isDay.mono _ _)
      | (with_reducible exact LeO.refl _)
      | (with_reducible exact LeO.none _)
      | (with_reducible refine LeO.ite ?_ ?_)
      | (with_reducible refine LeO.bind ?_ (fun _ => ?_))
      | exact ih0 _ _ _
      | exact ih1 _ _ _
      | exact ih2 _ _ _
      | exact motleyref27_civil.mono _ _ _
      | exact motleyref27_isDay.mono _ _
      | exact LeO.none _
      | refine LeO.ite ?_ ?_
      | refine LeO.bind ?_ (fun _ => ?_)
theorem motleyref27_Date.mono : ∀ a0 k, LeO (motleyref27_Date.f k a0) (motleyref27_Date.f (k + 1) a0) := by
  intro a0 k
  obtain ⟨ih0, ih1, ih2⟩ := motleyref27_Date.mono_l k
  unfold motleyref27_Date.f
  repeat' first
      | (with_reducible exact ih0 _ _ _)
      | (with_reducible exact ih1 _ _ _)
      | (with_reducible exact ih2 _ _ _)
      | (with_reducible exact motleyref27_civil.mono _ _ _)
      | (with_reducible exact motleyref27_isDay.mono _ _)
      | (with_reducible exact LeO.refl _)
      | (with_reducible exact LeO.none _)
      | (with_reducible refine LeO.ite ?_ ?_)
      | (with_reducible refine LeO.bind ?_ (fun _ => ?_))
      | exact ih0 _ _ _
      | exact ih1 _ _ _
      | exact ih2 _ _ _
      | exact motleyref27_civil.mono _ _ _
      | exact motleyref27_isDay.mono _ _
      | exact LeO.none _
      | refine LeO.ite ?_ ?_
      | refine LeO.bind ?_ (fun _ => ?_)
set_option maxHeartbeats 8000000 in
set_option maxRecDepth 100000 in
theorem motleyref27_Date.calls (k : Nat) (a0 : Int) (r1 : Int) (r2 : Int) (r3 : Int) (r4 : Int) (w : World) (h : motleyref27_Date.f k a0 = some (r1, r2, r3, r4)) :
    Calls Tryd.prog 16 #[.int .i64 a0] w fun e w' => e = .returned (.tuple #[.int .i64 r1, .int .i64 r2, .int .i64 r3, .int .i64 r4]) ∧ Drawn0 w w' := by
  have H : ((motleyref27_isDay.f k a0).bind fun t106 => (if t106 = true then (motleyref27_Date.l0 k a0 1 4096) else (some (0, 0, 0, 1)))) = some (r1, r2, r3, r4) := h
  clear h
  replace H := Option.bind_eq_some_iff.mp H
  obtain ⟨t106, A20, H⟩ := H
  replace H : (if t106 = true then (motleyref27_Date.l0 k a0 1 4096) else (some (0, 0, 0, 1))) = some (r1, r2, r3, r4) := H
  have A2 := Aside0.mk A20
  clear A20
  by_cases c3 : t106 = true
  · subst c3
    have H1 : (motleyref27_Date.l0 k a0 1 4096) = some (r1, r2, r3, r4) := by rw [if_pos rfl] at H; exact H
    clear H
    have H := H1
    clear H1
    have H' := Aside0.mk H
    clear H
    go_enter Tryd.func16, Tryd.ntmps16
    go_wp2_with (first | ((with_reducible refine gate_callee (f := 44) rfl ?_); refine goesL_ (some 10) rfl rfl Tryd.func44 (by kernel_rfl) rfl #[.int .i64 a0] rfl (by (try simp only [List.map_toArray, List.map_cons, List.map_nil]); first | done | rfl | (simp only [List.length_drop, List.length_take]; rfl)) ?_; (with_reducible refine (motleyref27_isDay.calls k a0 true _ A2.out).mono ?_); rintro e w' ⟨rfl, ⟨nd, rfl⟩⟩; refine ⟨_, rfl, ?_⟩))
    go_loopg [6, 7] k (fun kq v6 v7 w' => ∃ (x6_1 : Int) (x7_1 : Int), v6 = .int .i64 x6_1 ∧ v7 = .int .i64 x7_1 ∧ Aside0 (motleyref27_Date.l0 kq a0 x6_1 x7_1 = some (r1, r2, r3, r4)) ∧ Aside0 (kq ≤ k) ∧ Drawn0 w w')
    case atStart => exact ⟨(1), (4096), (by first | rfl | (simp; done) | (simp [*]; done) | (simp; generalize ByteArray.toList _ = l_; cases l_ <;> rfl)), (by first | rfl | (simp; done) | (simp [*]; done) | (simp; generalize ByteArray.toList _ = l_; cases l_ <;> rfl)), H', ⟨Nat.le_refl _⟩, by repeat (first | exact Drawn0.refl _ | apply Drawn0.step)⟩
    case round =>
      clear H'
      try clear c1
      try clear p2
      try clear c3
      obtain ⟨x6_1, x7_1, rfl, rfl, HA, HK1, ⟨m1, rfl⟩⟩ := hrel
      cases gk with
      | zero => exact absurd HA.out (by simp [motleyref27_Date.l0])
      | succ k1 =>
        have H := HA.out
        clear HA
        simp only [motleyref27_Date.l0] at H
        by_cases c4 : x7_1 > 0
        · rw [if_pos c4] at H
          have c4b0 : decide (0 < x7_1) = true := decide_eq_true c4
          clear c4
          have H' := Aside0.mk H
          clear H
          go_wp2
          go_loopg [6] k1 (fun kq v6 w' => ∃ (x6_2 : Int), v6 = .int .i64 x6_2 ∧ Aside0 (motleyref27_Date.l1 kq a0 x6_2 x7_1 = some (r1, r2, r3, r4)) ∧ Aside0 (kq ≤ k1) ∧ Drawn0 w w')
          case atStart => exact ⟨(x6_1), (by first | rfl | (simp; done) | (simp [*]; done) | (simp; generalize ByteArray.toList _ = l_; cases l_ <;> rfl)), H', ⟨Nat.le_refl _⟩, by repeat (first | exact Drawn0.refl _ | apply Drawn0.step)⟩
          case round =>
            clear H'
            try clear c1
            try clear p2
            try clear c3
            try clear c4
            try clear c4b0
            try clear p2
            obtain ⟨x6_2, rfl, HA, HK2, ⟨m2, rfl⟩⟩ := hrel
            cases gk with
            | zero => exact absurd HA.out (by simp [motleyref27_Date.l1])
            | succ k2 =>
              have H := HA.out
              clear HA
              simp only [motleyref27_Date.l1] at H
              replace H := Option.bind_eq_some_iff.mp H
              obtain ⟨t107, A50, H⟩ := H
              replace H : (if t107 = true then ((motleyref27_civil.f k2 (wrap64 (x6_2 + x7_1)) 1).bind fun t108 => (if t108 ≤ a0 then (motleyref27_Date.l1 k2 a0 (wrap64 (x6_2 + x7_1)) x7_1) else (motleyref27_Date.l0 k2 a0 x6_2 (wrap64 (Int.tdiv x7_1 2))))) else (motleyref27_Date.l0 k2 a0 x6_2 (wrap64 (Int.tdiv x7_1 2)))) = some (r1, r2, r3, r4) := H
              have A5 := Aside0.mk A50
              clear A50
              by_cases c6 : t107 = true
              · subst c6
                have H1 : ((motleyref27_civil.f k2 (wrap64 (x6_2 + x7_1)) 1).bind fun t108 => (if t108 ≤ a0 then (motleyref27_Date.l1 k2 a0 (wrap64 (x6_2 + x7_1)) x7_1) else (motleyref27_Date.l0 k2 a0 x6_2 (wrap64 (Int.tdiv x7_1 2))))) = some (r1, r2, r3, r4) := by rw [if_pos rfl] at H; exact H
                clear H
                have H := H1
                clear H1
                replace H := Option.bind_eq_some_iff.mp H
                obtain ⟨t108, A70, H⟩ := H
                replace H : (if t108 ≤ a0 then (motleyref27_Date.l1 k2 a0 (wrap64 (x6_2 + x7_1)) x7_1) else (motleyref27_Date.l0 k2 a0 x6_2 (wrap64 (Int.tdiv x7_1 2)))) = some (r1, r2, r3, r4) := H
                have A7 := Aside0.mk A70
                clear A70
                by_cases c8 : t108 ≤ a0
                · rw [if_pos c8] at H
                  have c8b0 : decide (t108 ≤ a0) = true := decide_eq_true c8
                  clear c8
                  have H' := Aside0.mk H
                  clear H
                  go_wp2_with (first | ((with_reducible refine gate_callee (f := 35) rfl ?_); refine goesL_ (some 19) rfl rfl Tryd.func35 (by kernel_rfl) rfl #[.int .i64 (wrap64 (x6_2 + x7_1))] rfl (by (try simp only [List.map_toArray, List.map_cons, List.map_nil]); first | done | rfl | (simp only [List.length_drop, List.length_take]; rfl)) ?_; (with_reducible refine (motleyref27_isYear.calls (wrap64 (x6_2 + x7_1)) true _ A5.out).mono ?_); rintro e w' ⟨rfl, ⟨nd, rfl⟩⟩; refine ⟨_, rfl, ?_⟩) | (go_at_call 37; (with_reducible refine (motleyref27_civil.calls k2 (wrap64 (x6_2 + x7_1)) 1 t108 _ A7.out).mono ?_); rintro e w' ⟨rfl, ⟨nd, rfl⟩⟩))
                  go_roundg k2
                  case measure => have := HK1.out; have := HK2.out; omega
                  case rel => exact ⟨(wrap64 (x6_2 + x7_1)), (by first | rfl | (simp; done) | (simp [*]; done) | (simp; generalize ByteArray.toList _ = l_; cases l_ <;> rfl)), H', ⟨by have := HK1.out; have := HK2.out; omega⟩, by repeat (first | exact Drawn0.refl _ | apply Drawn0.step)⟩
                · rw [if_neg c8] at H
                  have c8b0 : decide (t108 ≤ a0) = false := decide_eq_false c8
                  clear c8
                  have H' := Aside0.mk H
                  clear H
                  go_wp2_with (first | ((with_reducible refine gate_callee (f := 35) rfl ?_); refine goesL_ (some 19) rfl rfl Tryd.func35 (by kernel_rfl) rfl #[.int .i64 (wrap64 (x6_2 + x7_1))] rfl (by (try simp only [List.map_toArray, List.map_cons, List.map_nil]); first | done | rfl | (simp only [List.length_drop, List.length_take]; rfl)) ?_; (with_reducible refine (motleyref27_isYear.calls (wrap64 (x6_2 + x7_1)) true _ A5.out).mono ?_); rintro e w' ⟨rfl, ⟨nd, rfl⟩⟩; refine ⟨_, rfl, ?_⟩) | (go_at_call 37; (with_reducible refine (motleyref27_civil.calls k2 (wrap64 (x6_2 + x7_1)) 1 t108 _ A7.out).mono ?_); rintro e w' ⟨rfl, ⟨nd, rfl⟩⟩))
                  go_roundg k2
                  case measure => have := HK1.out; have := HK2.out; omega
                  case rel => exact ⟨(x6_2), (wrap64 (Int.tdiv x7_1 2)), (by first | rfl | (simp; done) | (simp [*]; done) | (simp; generalize ByteArray.toList _ = l_; cases l_ <;> rfl)), (by first | rfl | (simp; done) | (simp [*]; done) | (simp; generalize ByteArray.toList _ = l_; cases l_ <;> rfl)), H', ⟨by have := HK1.out; have := HK2.out; omega⟩, by repeat (first | exact Drawn0.refl _ | apply Drawn0.step)⟩
              · replace c6 := Bool.eq_false_iff.mpr c6
                subst c6
                have H1 : (motleyref27_Date.l0 k2 a0 x6_2 (wrap64 (Int.tdiv x7_1 2))) = some (r1, r2, r3, r4) := by rw [if_neg (show ¬ (false = true) by decide)] at H; exact H
                clear H
                have H := H1
                clear H1
                have H' := Aside0.mk H
                clear H
                go_wp2_with (first | ((with_reducible refine gate_callee (f := 35) rfl ?_); refine goesL_ (some 19) rfl rfl Tryd.func35 (by kernel_rfl) rfl #[.int .i64 (wrap64 (x6_2 + x7_1))] rfl (by (try simp only [List.map_toArray, List.map_cons, List.map_nil]); first | done | rfl | (simp only [List.length_drop, List.length_take]; rfl)) ?_; (with_reducible refine (motleyref27_isYear.calls (wrap64 (x6_2 + x7_1)) false _ A5.out).mono ?_); rintro e w' ⟨rfl, ⟨nd, rfl⟩⟩; refine ⟨_, rfl, ?_⟩))
                go_roundg k2
                case measure => have := HK1.out; have := HK2.out; omega
                case rel => exact ⟨(x6_2), (wrap64 (Int.tdiv x7_1 2)), (by first | rfl | (simp; done) | (simp [*]; done) | (simp; generalize ByteArray.toList _ = l_; cases l_ <;> rfl)), (by first | rfl | (simp; done) | (simp [*]; done) | (simp; generalize ByteArray.toList _ = l_; cases l_ <;> rfl)), H', ⟨by have := HK1.out; have := HK2.out; omega⟩, by repeat (first | exact Drawn0.refl _ | apply Drawn0.step)⟩
        · rw [if_neg c4] at H
          have c4b0 : decide (0 < x7_1) = false := decide_eq_false c4
          clear c4
          have H' := Aside0.mk H
          clear H
          go_wp2
          go_loopg [8] k1 (fun kq v8 w' => ∃ (x8_2 : Int), v8 = .int .i64 x8_2 ∧ Aside0 (motleyref27_Date.l2 kq a0 x6_1 x8_2 = some (r1, r2, r3, r4)) ∧ Aside0 (kq ≤ k1) ∧ Drawn0 w w')
          case atStart => exact ⟨(1), (by first | rfl | (simp; done) | (simp [*]; done) | (simp; generalize ByteArray.toList _ = l_; cases l_ <;> rfl)), H', ⟨Nat.le_refl _⟩, by repeat (first | exact Drawn0.refl _ | apply Drawn0.step)⟩
          case round =>
            clear H'
            try clear c1
            try clear p2
            try clear c3
            try clear c4
            try clear c4b0
            try clear c6
            try clear p6
            try clear c8
            try clear c8b0
            try clear p2
            obtain ⟨x8_2, rfl, HA, HK2, ⟨m2, rfl⟩⟩ := hrel
            cases gk with
            | zero => exact absurd HA.out (by simp [motleyref27_Date.l2])
            | succ k2 =>
              have H := HA.out
              clear HA
              simp only [motleyref27_Date.l2] at H
              by_cases c9 : x8_2 < 12
              · rw [if_pos c9] at H
                have c9b0 : decide (x8_2 < 12) = true := decide_eq_true c9
                clear c9
                replace H := Option.bind_eq_some_iff.mp H
                obtain ⟨t109, A100, H⟩ := H
                replace H : (if t109 ≤ a0 then (motleyref27_Date.l2 k2 a0 x6_1 (wrap64 (x8_2 + 1))) else ((motleyref27_civil.f k2 x6_1 x8_2).bind fun t110 => (some (x6_1, x8_2, wrap64 ((wrap64 (a0 - t110)) + 1), 0)))) = some (r1, r2, r3, r4) := H
                have A10 := Aside0.mk A100
                clear A100
                by_cases c11 : t109 ≤ a0
                · rw [if_pos c11] at H
                  have c11b0 : decide (t109 ≤ a0) = true := decide_eq_true c11
                  clear c11
                  have H' := Aside0.mk H
                  clear H
                  go_wp2_with (first | (go_at_call 37; (with_reducible refine (motleyref27_civil.calls k2 x6_1 (wrap64 (x8_2 + 1)) t109 _ A10.out).mono ?_); rintro e w' ⟨rfl, ⟨nd, rfl⟩⟩))
                  go_roundg k2
                  case measure => have := HK1.out; have := HK2.out; omega
                  case rel => exact ⟨(wrap64 (x8_2 + 1)), (by first | rfl | (simp; done) | (simp [*]; done) | (simp; generalize ByteArray.toList _ = l_; cases l_ <;> rfl)), H', ⟨by have := HK1.out; have := HK2.out; omega⟩, by repeat (first | exact Drawn0.refl _ | apply Drawn0.step)⟩
                · rw [if_neg c11] at H
                  have c11b0 : decide (t109 ≤ a0) = false := decide_eq_false c11
                  clear c11
                  replace H := Option.bind_eq_some_iff.mp H
                  obtain ⟨t110, A120, H⟩ := H
                  replace H : (some (x6_1, x8_2, wrap64 ((wrap64 (a0 - t110)) + 1), 0)) = some (r1, r2, r3, r4) := H
                  have A12 := Aside0.mk A120
                  clear A120
                  simp only [Option.some.injEq, Prod.mk.injEq] at H
                  obtain ⟨rfl, rfl, rfl, rfl⟩ := H
                  go_wp2_with (first | (go_at_call 37; (with_reducible refine (motleyref27_civil.calls k2 x6_1 (wrap64 (x8_2 + 1)) t109 _ A10.out).mono ?_); rintro e w' ⟨rfl, ⟨nd, rfl⟩⟩) | ((with_reducible refine gate_callee (f := 37) rfl ?_); refine goesL_ (some 48) rfl rfl Tryd.func37 (by kernel_rfl) rfl #[.int .i64 x6_1, .int .i64 x8_2] rfl (by (try simp only [List.map_toArray, List.map_cons, List.map_nil]); first | done | rfl | (simp only [List.length_drop, List.length_take]; rfl)) ?_; (with_reducible refine (motleyref27_civil.calls k2 x6_1 x8_2 t110 _ A12.out).mono ?_); rintro e w' ⟨rfl, ⟨nd, rfl⟩⟩; refine ⟨_, rfl, ?_⟩))
                  refine bodyPost_ret (results_list (rs := [.tmp 2, .tmp 3, .tmp 4, .tmp 5]) rfl (by simp) (.tmp (.tmp (.tmp (.tmp .nil))))) rfl ?_
                  exact ⟨by first | rfl | (simp; done) | (simp [*]; done) | (simp; generalize ByteArray.toList _ = l_; cases l_ <;> rfl), by repeat (first | exact Drawn0.refl _ | apply Drawn0.step)⟩
              · rw [if_neg c9] at H
                have c9b0 : decide (x8_2 < 12) = false := decide_eq_false c9
                clear c9
                replace H := Option.bind_eq_some_iff.mp H
                obtain ⟨t111, A130, H⟩ := H
                replace H : (some (x6_1, x8_2, wrap64 ((wrap64 (a0 - t111)) + 1), 0)) = some (r1, r2, r3, r4) := H
                have A13 := Aside0.mk A130
                clear A130
                simp only [Option.some.injEq, Prod.mk.injEq] at H
                obtain ⟨rfl, rfl, rfl, rfl⟩ := H
                go_wp2_with (first | ((with_reducible refine gate_callee (f := 37) rfl ?_); refine goesL_ (some 48) rfl rfl Tryd.func37 (by kernel_rfl) rfl #[.int .i64 x6_1, .int .i64 x8_2] rfl (by (try simp only [List.map_toArray, List.map_cons, List.map_nil]); first | done | rfl | (simp only [List.length_drop, List.length_take]; rfl)) ?_; (with_reducible refine (motleyref27_civil.calls k2 x6_1 x8_2 t111 _ A13.out).mono ?_); rintro e w' ⟨rfl, ⟨nd, rfl⟩⟩; refine ⟨_, rfl, ?_⟩))
                refine bodyPost_ret (results_list (rs := [.tmp 2, .tmp 3, .tmp 4, .tmp 5]) rfl (by simp) (.tmp (.tmp (.tmp (.tmp .nil))))) rfl ?_
                exact ⟨by first | rfl | (simp; done) | (simp [*]; done) | (simp; generalize ByteArray.toList _ = l_; cases l_ <;> rfl), by repeat (first | exact Drawn0.refl _ | apply Drawn0.step)⟩
  · replace c3 := Bool.eq_false_iff.mpr c3
    subst c3
    have H1 : (some (0, 0, 0, 1)) = some (r1, r2, r3, r4) := by rw [if_neg (show ¬ (false = true) by decide)] at H; exact H
    clear H
    have H := H1
    clear H1
    simp only [Option.some.injEq, Prod.mk.injEq] at H
    obtain ⟨rfl, rfl, rfl, rfl⟩ := H
    go_enter Tryd.func16, Tryd.ntmps16
    go_wp2_with (first | ((with_reducible refine gate_callee (f := 44) rfl ?_); refine goesL_ (some 10) rfl rfl Tryd.func44 (by kernel_rfl) rfl #[.int .i64 a0] rfl (by (try simp only [List.map_toArray, List.map_cons, List.map_nil]); first | done | rfl | (simp only [List.length_drop, List.length_take]; rfl)) ?_; (with_reducible refine (motleyref27_isDay.calls k a0 false _ A2.out).mono ?_); rintro e w' ⟨rfl, ⟨nd, rfl⟩⟩; refine ⟨_, rfl, ?_⟩))
    refine bodyPost_ret (results_list (rs := [.tmp 2, .tmp 3, .tmp 4, .tmp 5]) rfl (by simp) (.tmp (.tmp (.tmp (.tmp .nil))))) rfl ?_
    exact ⟨by first | rfl | (simp; done) | (simp [*]; done) | (simp; generalize ByteArray.toList _ = l_; cases l_ <;> rfl), by repeat (first | exact Drawn0.refl _ | apply Drawn0.step)⟩

/-! ### motleyref27_modulo: function 45 -/
def motleyref27_modulo.f (a0 : Int) (a1 : Int) : Option (Int) := if a1 = 0 then (none) else (some (Int.tmod (wrap64 ((Int.tmod a0 a1) + a1)) a1))
set_option maxHeartbeats 8000000 in
set_option maxRecDepth 100000 in
theorem motleyref27_modulo.calls (a0 : Int) (a1 : Int) (r : Int) (w : World) (h : motleyref27_modulo.f a0 a1 = some r) :
    Calls Tryd.prog 45 #[.int .i64 a0, .int .i64 a1] w fun e w' => e = .returned (.int .i64 r) ∧ Drawn0 w w' := by
  have H : (if a1 = 0 then (none) else (some (Int.tmod (wrap64 ((Int.tmod a0 a1) + a1)) a1))) = some r := h
  clear h
  by_cases c3 : a1 = 0
  · rw [if_pos c3] at H
    exact absurd H (by simp)
  · rw [if_neg c3] at H
    have c3b0 : (a1 == 0) = false := beq_eq_false_iff_ne.mpr c3
    have c3b1 : (a1 != 0) = true := bne_iff_ne.mpr c3
    obtain rfl := Option.some.inj H
    go_enter Tryd.func45, Tryd.ntmps45
    go_wp2
    go_ret
    exact ⟨by first | rfl | (simp; done) | (simp [*]; done) | (simp; generalize ByteArray.toList _ = l_; cases l_ <;> rfl), by repeat (first | exact Drawn0.refl _ | apply Drawn0.step)⟩

/-! ### motleyref27_Week: function 18 -/
def motleyref27_Week.f (k : Nat) (a0 : Int) : Option (Int × Int × Int) := (motleyref27_isDay.f k a0).bind fun t112 => (if t112 = true then ((motleyref27_modulo.f (wrap64 (a0 + 3)) 7).bind fun t113 => ((motleyref27_Date.f k (wrap64 ((wrap64 (a0 - t113)) + 3))).bind fun bt114 => (if bt114.2.2.2 = 0 then ((motleyref27_civil.f k bt114.1 1).bind fun t118 => (some (bt114.1, wrap64 ((wrap64 (Int.tdiv (wrap64 ((wrap64 ((wrap64 (a0 - t113)) + 3)) - t118)) 7)) + 1), 0))) else (some (0, 0, 1))))) else (some (0, 0, 1)))
theorem motleyref27_Week.mono : ∀ a0 k, LeO (motleyref27_Week.f k a0) (motleyref27_Week.f (k + 1) a0) := by
  intro a0 k
  unfold motleyref27_Week.f
  repeat' first
      | (with_reducible exact motleyref27_Date.mono _ _)
      | (with_reducible exact motleyref27_civil.mono _ _ _)
      | (with_reducible exact motleyref27_isDay.mono _ _)
      | (with_reducible exact LeO.refl _)
      | (with_reducible exact LeO.none _)
      | (with_reducible refine LeO.ite ?_ ?_)
      | (with_reducible refine LeO.bind ?_ (fun _ => ?_))
      | exact motleyref27_Date.mono _ _
      | exact motleyref27_civil.mono _ _ _
      | exact motleyref27_isDay.mono _ _
      | exact LeO.none _
      | refine LeO.ite ?_ ?_
      | refine LeO.bind ?_ (fun _ => ?_)
set_option maxHeartbeats 8000000 in
set_option maxRecDepth 100000 in
theorem motleyref27_Week.calls (k : Nat) (a0 : Int) (r1 : Int) (r2 : Int) (r3 : Int) (w : World) (h : motleyref27_Week.f k a0 = some (r1, r2, r3)) :
    Calls Tryd.prog 18 #[.int .i64 a0] w fun e w' => e = .returned (.tuple #[.int .i64 r1, .int .i64 r2, .int .i64 r3]) ∧ Drawn0 w w' := by
  have H : ((motleyref27_isDay.f k a0).bind fun t112 => (if t112 = true then ((motleyref27_modulo.f (wrap64 (a0 + 3)) 7).bind fun t113 => ((motleyref27_Date.f k (wrap64 ((wrap64 (a0 - t113)) + 3))).bind fun bt114 => (if bt114.2.2.2 = 0 then ((motleyref27_civil.f k bt114.1 1).bind fun t118 => (some (bt114.1, wrap64 ((wrap64 (Int.tdiv (wrap64 ((wrap64 ((wrap64 (a0 - t113)) + 3)) - t118)) 7)) + 1), 0))) else (some (0, 0, 1))))) else (some (0, 0, 1)))) = some (r1, r2, r3) := h
  clear h
  replace H := Option.bind_eq_some_iff.mp H
  obtain ⟨t112, A20, H⟩ := H
  replace H : (if t112 = true then ((motleyref27_modulo.f (wrap64 (a0 + 3)) 7).bind fun t113 => ((motleyref27_Date.f k (wrap64 ((wrap64 (a0 - t113)) + 3))).bind fun bt114 => (if bt114.2.2.2 = 0 then ((motleyref27_civil.f k bt114.1 1).bind fun t118 => (some (bt114.1, wrap64 ((wrap64 (Int.tdiv (wrap64 ((wrap64 ((wrap64 (a0 - t113)) + 3)) - t118)) 7)) + 1), 0))) else (some (0, 0, 1))))) else (some (0, 0, 1))) = some (r1, r2, r3) := H
  have A2 := Aside0.mk A20
  clear A20
  by_cases c3 : t112 = true
  · subst c3
    have H1 : ((motleyref27_modulo.f (wrap64 (a0 + 3)) 7).bind fun t113 => ((motleyref27_Date.f k (wrap64 ((wrap64 (a0 - t113)) + 3))).bind fun bt114 => (if bt114.2.2.2 = 0 then ((motleyref27_civil.f k bt114.1 1).bind fun t118 => (some (bt114.1, wrap64 ((wrap64 (Int.tdiv (wrap64 ((wrap64 ((wrap64 (a0 - t113)) + 3)) - t118)) 7)) + 1), 0))) else (some (0, 0, 1))))) = some (r1, r2, r3) := by rw [if_pos rfl] at H; exact H
    clear H
    have H := H1
    clear H1
    replace H := Option.bind_eq_some_iff.mp H
    obtain ⟨t113, A40, H⟩ := H
    replace H : ((motleyref27_Date.f k (wrap64 ((wrap64 (a0 - t113)) + 3))).bind fun bt114 => (if bt114.2.2.2 = 0 then ((motleyref27_civil.f k bt114.1 1).bind fun t118 => (some (bt114.1, wrap64 ((wrap64 (Int.tdiv (wrap64 ((wrap64 ((wrap64 (a0 - t113)) + 3)) - t118)) 7)) + 1), 0))) else (some (0, 0, 1)))) = some (r1, r2, r3) := H
    have A4 := Aside0.mk A40
    clear A40
    replace H := Option.bind_eq_some_iff.mp H
    obtain ⟨⟨t114, t115, t116, t117⟩, A50, H⟩ := H
    replace H : (if t117 = 0 then ((motleyref27_civil.f k t114 1).bind fun t118 => (some (t114, wrap64 ((wrap64 (Int.tdiv (wrap64 ((wrap64 ((wrap64 (a0 - t113)) + 3)) - t118)) 7)) + 1), 0))) else (some (0, 0, 1))) = some (r1, r2, r3) := H
    have A5 := Aside0.mk A50
    clear A50
    by_cases c6 : t117 = 0
    · rw [if_pos c6] at H
      have c6b0 : (t117 == 0) = true := beq_iff_eq.mpr c6
      have c6b1 : (t117 != 0) = false := bne_eq_false_iff_eq.mpr c6
      clear c6
      replace H := Option.bind_eq_some_iff.mp H
      obtain ⟨t118, A70, H⟩ := H
      replace H : (some (t114, wrap64 ((wrap64 (Int.tdiv (wrap64 ((wrap64 ((wrap64 (a0 - t113)) + 3)) - t118)) 7)) + 1), 0)) = some (r1, r2, r3) := H
      have A7 := Aside0.mk A70
      clear A70
      simp only [Option.some.injEq, Prod.mk.injEq] at H
      obtain ⟨rfl, rfl, rfl⟩ := H
      go_enter Tryd.func18, Tryd.ntmps18
      go_wp2_with (first | ((with_reducible refine gate_callee (f := 44) rfl ?_); refine goesL_ (some 11) rfl rfl Tryd.func44 (by kernel_rfl) rfl #[.int .i64 a0] rfl (by (try simp only [List.map_toArray, List.map_cons, List.map_nil]); first | done | rfl | (simp only [List.length_drop, List.length_take]; rfl)) ?_; (with_reducible refine (motleyref27_isDay.calls k a0 true _ A2.out).mono ?_); rintro e w' ⟨rfl, ⟨nd, rfl⟩⟩; refine ⟨_, rfl, ?_⟩) | ((with_reducible refine gate_callee (f := 45) rfl ?_); refine goesL_ (some 16) rfl rfl Tryd.func45 (by kernel_rfl) rfl #[.int .i64 (wrap64 (a0 + 3)), .int .i64 7] rfl (by (try simp only [List.map_toArray, List.map_cons, List.map_nil]); first | done | rfl | (simp only [List.length_drop, List.length_take]; rfl)) ?_; (with_reducible refine (motleyref27_modulo.calls (wrap64 (a0 + 3)) 7 t113 _ A4.out).mono ?_); rintro e w' ⟨rfl, ⟨nd, rfl⟩⟩; refine ⟨_, rfl, ?_⟩) | ((with_reducible refine gate_callee (f := 16) rfl ?_); refine goesL_ (some 21) rfl rfl Tryd.func16 (by kernel_rfl) rfl #[.int .i64 (wrap64 ((wrap64 (a0 - t113)) + 3))] rfl (by (try simp only [List.map_toArray, List.map_cons, List.map_nil]); first | done | rfl | (simp only [List.length_drop, List.length_take]; rfl)) ?_; (with_reducible refine (motleyref27_Date.calls k (wrap64 ((wrap64 (a0 - t113)) + 3)) t114 t115 t116 t117 _ A5.out).mono ?_); rintro e w' ⟨rfl, ⟨nd, rfl⟩⟩; refine ⟨_, rfl, ?_⟩) | ((with_reducible refine gate_callee (f := 37) rfl ?_); refine goesL_ (some 31) rfl rfl Tryd.func37 (by kernel_rfl) rfl #[.int .i64 t114, .int .i64 1] rfl (by (try simp only [List.map_toArray, List.map_cons, List.map_nil]); first | done | rfl | (simp only [List.length_drop, List.length_take]; rfl)) ?_; (with_reducible refine (motleyref27_civil.calls k t114 1 t118 _ A7.out).mono ?_); rintro e w' ⟨rfl, ⟨nd, rfl⟩⟩; refine ⟨_, rfl, ?_⟩))
      go_ret3
      exact ⟨by first | rfl | (simp; done) | (simp [*]; done) | (simp; generalize ByteArray.toList _ = l_; cases l_ <;> rfl), by repeat (first | exact Drawn0.refl _ | apply Drawn0.step)⟩
    · rw [if_neg c6] at H
      have c6b0 : (t117 == 0) = false := beq_eq_false_iff_ne.mpr c6
      have c6b1 : (t117 != 0) = true := bne_iff_ne.mpr c6
      simp only [Option.some.injEq, Prod.mk.injEq] at H
      obtain ⟨rfl, rfl, rfl⟩ := H
      go_enter Tryd.func18, Tryd.ntmps18
      go_wp2_with (first | ((with_reducible refine gate_callee (f := 44) rfl ?_); refine goesL_ (some 11) rfl rfl Tryd.func44 (by kernel_rfl) rfl #[.int .i64 a0] rfl (by (try simp only [List.map_toArray, List.map_cons, List.map_nil]); first | done | rfl | (simp only [List.length_drop, List.length_take]; rfl)) ?_; (with_reducible refine (motleyref27_isDay.calls k a0 true _ A2.out).mono ?_); rintro e w' ⟨rfl, ⟨nd, rfl⟩⟩; refine ⟨_, rfl, ?_⟩) | ((with_reducible refine gate_callee (f := 45) rfl ?_); refine goesL_ (some 16) rfl rfl Tryd.func45 (by kernel_rfl) rfl #[.int .i64 (wrap64 (a0 + 3)), .int .i64 7] rfl (by (try simp only [List.map_toArray, List.map_cons, List.map_nil]); first | done | rfl | (simp only [List.length_drop, List.length_take]; rfl)) ?_; (with_reducible refine (motleyref27_modulo.calls (wrap64 (a0 + 3)) 7 t113 _ A4.out).mono ?_); rintro e w' ⟨rfl, ⟨nd, rfl⟩⟩; refine ⟨_, rfl, ?_⟩) | ((with_reducible refine gate_callee (f := 16) rfl ?_); refine goesL_ (some 21) rfl rfl Tryd.func16 (by kernel_rfl) rfl #[.int .i64 (wrap64 ((wrap64 (a0 - t113)) + 3))] rfl (by (try simp only [List.map_toArray, List.map_cons, List.map_nil]); first | done | rfl | (simp only [List.length_drop, List.length_take]; rfl)) ?_; (with_reducible refine (motleyref27_Date.calls k (wrap64 ((wrap64 (a0 - t113)) + 3)) t114 t115 t116 t117 _ A5.out).mono ?_); rintro e w' ⟨rfl, ⟨nd, rfl⟩⟩; refine ⟨_, rfl, ?_⟩))
      go_ret3
      exact ⟨by first | rfl | (simp; done) | (simp [*]; done) | (simp; generalize ByteArray.toList _ = l_; cases l_ <;> rfl), by repeat (first | exact Drawn0.refl _ | apply Drawn0.step)⟩
  · replace c3 := Bool.eq_false_iff.mpr c3
    subst c3
    have H1 : (some (0, 0, 1)) = some (r1, r2, r3) := by rw [if_neg (show ¬ (false = true) by decide)] at H; exact H
    clear H
    have H := H1
    clear H1
    simp only [Option.some.injEq, Prod.mk.injEq] at H
    obtain ⟨rfl, rfl, rfl⟩ := H
    go_enter Tryd.func18, Tryd.ntmps18
    go_wp2_with (first | ((with_reducible refine gate_callee (f := 44) rfl ?_); refine goesL_ (some 11) rfl rfl Tryd.func44 (by kernel_rfl) rfl #[.int .i64 a0] rfl (by (try simp only [List.map_toArray, List.map_cons, List.map_nil]); first | done | rfl | (simp only [List.length_drop, List.length_take]; rfl)) ?_; (with_reducible refine (motleyref27_isDay.calls k a0 false _ A2.out).mono ?_); rintro e w' ⟨rfl, ⟨nd, rfl⟩⟩; refine ⟨_, rfl, ?_⟩))
    go_ret3
    exact ⟨by first | rfl | (simp; done) | (simp [*]; done) | (simp; generalize ByteArray.toList _ = l_; cases l_ <;> rfl), by repeat (first | exact Drawn0.refl _ | apply Drawn0.step)⟩

/-! ### motleyref27_in: function 46 -/
def motleyref27_in.l0 : Nat → ByteArray → Int → Int → Option (Bool)
  | 0, _, _, _ => none
  | k + 1, x0, x1, x5 => if x5 < (x0.size : Int) then (if 0 ≤ x5 then (if (bt x0 x5) = x1 then (some true) else (motleyref27_in.l0 k x0 x1 (wrap64 (x5 + 1)))) else (none)) else (some false)
def motleyref27_in.f (k : Nat) (a0 : ByteArray) (a1 : Int) : Option (Bool) := motleyref27_in.l0 k a0 a1 0
theorem motleyref27_in.mono_l : ∀ k, (∀ y0 y1 y2, LeO (motleyref27_in.l0 k y0 y1 y2) (motleyref27_in.l0 (k + 1) y0 y1 y2))
  | 0 => fun _ _ _ r h => by simp [motleyref27_in.l0] at h
  | k + 1 => by
    have ih0 := motleyref27_in.mono_l k
    · intro y0 y1 y2
      unfold motleyref27_in.l0
      repeat' first
      | (with_reducible exact ih0 _ _ _)
      | (with_reducible exact LeO.refl _)
      | (with_reducible exact LeO.none _)
      | (with_reducible refine LeO.ite ?_ ?_)
      | (with_reducible refine LeO.bind ?_ (fun _ => ?_))
      | exact ih0 _ _ _
      | exact LeO.none _
      | refine LeO.ite ?_ ?_
      | refine LeO.bind ?_ (fun _ => ?_)
theorem motleyref27_in.mono : ∀ a0 a1 k, LeO (motleyref27_in.f k a0 a1) (motleyref27_in.f (k + 1) a0 a1) := by
  intro a0 a1 k
  have ih0 := motleyref27_in.mono_l k
  unfold motleyref27_in.f
  repeat' first
      | (with_reducible exact ih0 _ _ _)
      | (with_reducible exact LeO.refl _)
      | (with_reducible exact LeO.none _)
      | (with_reducible refine LeO.ite ?_ ?_)
      | (with_reducible refine LeO.bind ?_ (fun _ => ?_))
      | exact ih0 _ _ _
      | exact LeO.none _
      | refine LeO.ite ?_ ?_
      | refine LeO.bind ?_ (fun _ => ?_)
set_option maxHeartbeats 8000000 in
set_option maxRecDepth 100000 in
theorem motleyref27_in.calls (k : Nat) (a0 : ByteArray) (a1 : Int) (r : Bool) (w : World) (h : motleyref27_in.f k a0 a1 = some r) :
    Calls Tryd.prog 46 #[.string a0, .int .u8 a1] w fun e w' => e = .returned (.bool r) ∧ Drawn0 w w' := by
  have H : (motleyref27_in.l0 k a0 a1 0) = some r := h
  clear h
  have H' := Aside0.mk H
  clear H
  go_enter Tryd.func46, Tryd.ntmps46
  go_wp2
  go_loopg [5] k (fun kq v5 w' => ∃ (x5_1 : Int), v5 = .int .i64 x5_1 ∧ Aside0 (motleyref27_in.l0 kq a0 a1 x5_1 = some r) ∧ Aside0 (kq ≤ k) ∧ Drawn0 w w')
  case atStart => exact ⟨(0), (by first | rfl | (simp; done) | (simp [*]; done) | (simp; generalize ByteArray.toList _ = l_; cases l_ <;> rfl)), H', ⟨Nat.le_refl _⟩, by repeat (first | exact Drawn0.refl _ | apply Drawn0.step)⟩
  case round =>
    clear H'
    try clear p2
    obtain ⟨x5_1, rfl, HA, HK1, ⟨m1, rfl⟩⟩ := hrel
    cases gk with
    | zero => exact absurd HA.out (by simp [motleyref27_in.l0])
    | succ k1 =>
      have H := HA.out
      clear HA
      simp only [motleyref27_in.l0] at H
      by_cases c3 : x5_1 < (a0.size : Int)
      · rw [if_pos c3] at H
        have c3b0 : decide (x5_1 < (a0.size : Int)) = true := decide_eq_true c3
        clear c3
        by_cases c4 : 0 ≤ x5_1
        · rw [if_pos c4] at H
          have c4b0 : decide (0 ≤ x5_1) = true := decide_eq_true c4
          clear c4
          by_cases c6 : (bt a0 x5_1) = a1
          · rw [if_pos c6] at H
            have c6b0 : ((bt a0 x5_1) == a1) = true := beq_iff_eq.mpr c6
            have c6b1 : ((bt a0 x5_1) != a1) = false := bne_eq_false_iff_eq.mpr c6
            clear c6
            obtain rfl := Option.some.inj H
            have p5 : 0 ≤ (x5_1 : Int) := of_decide_eq_true (by first | (with_reducible assumption) | assumption)
            have q5 : x5_1 < (a0.size : Int) := of_decide_eq_true (by first | (with_reducible assumption) | assumption)
            have hx5 := bt_at a0 x5_1
            replace p5 := eq_true p5
            replace q5 := eq_true q5
            go_wp2
            go_ret
            exact ⟨by first | rfl | (simp; done) | (simp [*]; done) | (simp; generalize ByteArray.toList _ = l_; cases l_ <;> rfl), by repeat (first | exact Drawn0.refl _ | apply Drawn0.step)⟩
          · rw [if_neg c6] at H
            have c6b0 : ((bt a0 x5_1) == a1) = false := beq_eq_false_iff_ne.mpr c6
            have c6b1 : ((bt a0 x5_1) != a1) = true := bne_iff_ne.mpr c6
            have H' := Aside0.mk H
            clear H
            have p5 : 0 ≤ (x5_1 : Int) := of_decide_eq_true (by first | (with_reducible assumption) | assumption)
            have q5 : x5_1 < (a0.size : Int) := of_decide_eq_true (by first | (with_reducible assumption) | assumption)
            have hx5 := bt_at a0 x5_1
            replace p5 := eq_true p5
            replace q5 := eq_true q5
            go_wp2
            go_roundg k1
            case measure => have := HK1.out; omega
            case rel => exact ⟨(wrap64 (x5_1 + 1)), (by first | rfl | (simp; done) | (simp [*]; done) | (simp; generalize ByteArray.toList _ = l_; cases l_ <;> rfl)), H', ⟨by have := HK1.out; omega⟩, by repeat (first | exact Drawn0.refl _ | apply Drawn0.step)⟩
        · rw [if_neg c4] at H
          exact absurd H (by simp)
      · rw [if_neg c3] at H
        have c3b0 : decide (x5_1 < (a0.size : Int)) = false := decide_eq_false c3
        clear c3
        obtain rfl := Option.some.inj H
        go_wp2
        go_ret
        exact ⟨by first | rfl | (simp; done) | (simp [*]; done) | (simp; generalize ByteArray.toList _ = l_; cases l_ <;> rfl), by repeat (first | exact Drawn0.refl _ | apply Drawn0.step)⟩

/-! ### motleyref27_day: function 48 -/
def motleyref27_day.f (a0 : Int) : Option (Int × Int) := (motleyref27_modulo.f a0 86400).bind fun t119 => (some (wrap64 (Int.tdiv (wrap64 (a0 - t119)) 86400), t119))
set_option maxHeartbeats 8000000 in
set_option maxRecDepth 100000 in
theorem motleyref27_day.calls (a0 : Int) (r1 : Int) (r2 : Int) (w : World) (h : motleyref27_day.f a0 = some (r1, r2)) :
    Calls Tryd.prog 48 #[.int .i64 a0] w fun e w' => e = .returned (.tuple #[.int .i64 r1, .int .i64 r2]) ∧ Drawn0 w w' := by
  have H : ((motleyref27_modulo.f a0 86400).bind fun t119 => (some (wrap64 (Int.tdiv (wrap64 (a0 - t119)) 86400), t119))) = some (r1, r2) := h
  clear h
  replace H := Option.bind_eq_some_iff.mp H
  obtain ⟨t119, A20, H⟩ := H
  replace H : (some (wrap64 (Int.tdiv (wrap64 (a0 - t119)) 86400), t119)) = some (r1, r2) := H
  have A2 := Aside0.mk A20
  clear A20
  simp only [Option.some.injEq, Prod.mk.injEq] at H
  obtain ⟨rfl, rfl⟩ := H
  go_enter Tryd.func48, Tryd.ntmps48
  go_wp2_with (first | ((with_reducible refine gate_callee (f := 45) rfl ?_); refine goesL_ (some 6) rfl rfl Tryd.func45 (by kernel_rfl) rfl #[.int .i64 a0, .int .i64 86400] rfl (by (try simp only [List.map_toArray, List.map_cons, List.map_nil]); first | done | rfl | (simp only [List.length_drop, List.length_take]; rfl)) ?_; (with_reducible refine (motleyref27_modulo.calls a0 86400 t119 _ A2.out).mono ?_); rintro e w' ⟨rfl, ⟨nd, rfl⟩⟩; refine ⟨_, rfl, ?_⟩))
  go_ret2
  exact ⟨by first | rfl | (simp; done) | (simp [*]; done) | (simp; generalize ByteArray.toList _ = l_; cases l_ <;> rfl), by repeat (first | exact Drawn0.refl _ | apply Drawn0.step)⟩

/-! ### motleyref27_padded: function 72 -/
def motleyref27_padded.l0 : Nat → Int → ByteArray → Option (ByteArray)
  | 0, _, _ => none
  | k + 1, x1, x5 => if (x5.size : Int) < x1 then (if 1 + x5.size ≤ 9223372036854775807 then (motleyref27_padded.l0 k x1 ((⟨#[48]⟩ : ByteArray) ++ x5)) else (none)) else (some x5)
def motleyref27_padded.f (k : Nat) (a0 : Int) (a1 : Int) : Option (ByteArray) := (motleyref01_Written.f a0).bind fun t120 => (motleyref27_padded.l0 k a1 t120)
theorem motleyref27_padded.mono_l : ∀ k, (∀ y0 y1, LeO (motleyref27_padded.l0 k y0 y1) (motleyref27_padded.l0 (k + 1) y0 y1))
  | 0 => fun _ _ r h => by simp [motleyref27_padded.l0] at h
  | k + 1 => by
    have ih0 := motleyref27_padded.mono_l k
    · intro y0 y1
      unfold motleyref27_padded.l0
      repeat' first
      | (with_reducible exact ih0 _ _)
      | (with_reducible exact LeO.refl _)
      | (with_reducible exact LeO.none _)
      | (with_reducible refine LeO.ite ?_ ?_)
      | (with_reducible refine LeO.bind ?_ (fun _ => ?_))
      | exact ih0 _ _
      | exact LeO.none _
      | refine LeO.ite ?_ ?_
      | refine LeO.bind ?_ (fun _ => ?_)
theorem motleyref27_padded.mono : ∀ a0 a1 k, LeO (motleyref27_padded.f k a0 a1) (motleyref27_padded.f (k + 1) a0 a1) := by
  intro a0 a1 k
  have ih0 := motleyref27_padded.mono_l k
  unfold motleyref27_padded.f
  repeat' first
      | (with_reducible exact ih0 _ _)
      | (with_reducible exact LeO.refl _)
      | (with_reducible exact LeO.none _)
      | (with_reducible refine LeO.ite ?_ ?_)
      | (with_reducible refine LeO.bind ?_ (fun _ => ?_))
      | exact ih0 _ _
      | exact LeO.none _
      | refine LeO.ite ?_ ?_
      | refine LeO.bind ?_ (fun _ => ?_)
set_option maxHeartbeats 8000000 in
set_option maxRecDepth 100000 in
theorem motleyref27_padded.calls (k : Nat) (a0 : Int) (a1 : Int) (r : ByteArray) (w : World) (h : motleyref27_padded.f k a0 a1 = some r) :
    Calls Tryd.prog 72 #[.int .i64 a0, .int .i64 a1] w fun e w' => e = .returned (.string r) ∧ Drawn0 w w' := by
  have H : ((motleyref01_Written.f a0).bind fun t120 => (motleyref27_padded.l0 k a1 t120)) = some r := h
  clear h
  replace H := Option.bind_eq_some_iff.mp H
  obtain ⟨t120, A30, H⟩ := H
  replace H : (motleyref27_padded.l0 k a1 t120) = some r := H
  have A3 := Aside0.mk A30
  clear A30
  have H' := Aside0.mk H
  clear H
  go_enter Tryd.func72, Tryd.ntmps72
  go_wp2_with (first | ((with_reducible refine gate_callee (f := 60) rfl ?_); refine goesL_ (some 7) rfl rfl Tryd.func60 (by kernel_rfl) rfl #[.int .i64 a0] rfl (by (try simp only [List.map_toArray, List.map_cons, List.map_nil]); first | done | rfl | (simp only [List.length_drop, List.length_take]; rfl)) ?_; (with_reducible refine (motleyref01_Written.calls a0 t120 _ A3.out).mono ?_); rintro e w' ⟨rfl, ⟨nd, rfl⟩⟩; refine ⟨_, rfl, ?_⟩))
  go_loopg [5] k (fun kq v5 w' => ∃ (x5_1 : ByteArray), v5 = .string x5_1 ∧ Aside0 (motleyref27_padded.l0 kq a1 x5_1 = some r) ∧ Aside0 (kq ≤ k) ∧ Drawn0 w w')
  case atStart => exact ⟨(t120), (by first | rfl | (simp; done) | (simp [*]; done) | (simp; generalize ByteArray.toList _ = l_; cases l_ <;> rfl)), H', ⟨Nat.le_refl _⟩, by repeat (first | exact Drawn0.refl _ | apply Drawn0.step)⟩
  case round =>
    clear H'
    try clear p2
    obtain ⟨x5_1, rfl, HA, HK1, ⟨m1, rfl⟩⟩ := hrel
    cases gk with
    | zero => exact absurd HA.out (by simp [motleyref27_padded.l0])
    | succ k1 =>
      have H := HA.out
      clear HA
      simp only [motleyref27_padded.l0] at H
      by_cases c4 : (x5_1.size : Int) < a1
      · rw [if_pos c4] at H
        have c4b0 : decide ((x5_1.size : Int) < a1) = true := decide_eq_true c4
        clear c4
        by_cases c5 : 1 + x5_1.size ≤ 9223372036854775807
        · rw [if_pos c5] at H
          have c5b0 := eq_true c5
          have c5b1 : decide (1 + x5_1.size ≤ 9223372036854775807) = true := decide_eq_true c5
          try have c5b2 : (9223372036854775807 < 1 + x5_1.size) = False := eq_false (Nat.not_lt.2 c5)
          have H' := Aside0.mk H
          clear H
          go_wp2
          go_roundg k1
          case measure => have := HK1.out; omega
          case rel => exact ⟨((⟨#[48]⟩ : ByteArray) ++ x5_1), (by first | rfl | (simp; done) | (simp [*]; done) | (simp; generalize ByteArray.toList _ = l_; cases l_ <;> rfl)), H', ⟨by have := HK1.out; omega⟩, by repeat (first | exact Drawn0.refl _ | apply Drawn0.step)⟩
        · rw [if_neg c5] at H
          exact absurd H (by simp)
      · rw [if_neg c4] at H
        have c4b0 : decide ((x5_1.size : Int) < a1) = false := decide_eq_false c4
        clear c4
        obtain rfl := Option.some.inj H
        go_wp2
        go_ret
        exact ⟨by first | rfl | (simp; done) | (simp [*]; done) | (simp; generalize ByteArray.toList _ = l_; cases l_ <;> rfl), by repeat (first | exact Drawn0.refl _ | apply Drawn0.step)⟩

/-! ### motleyref27_Stamp: function 47 -/
def motleyref27_Stamp.j0 : Nat → Int → Bool → Option (ByteArray × Int)
  | 0, _, _ => none
  | k + 1, x0, x15 => if x15 = true then (some ((⟨#[]⟩ : ByteArray), 1)) else ((motleyref27_day.f x0).bind fun bt121 => ((motleyref27_Date.f k bt121.1).bind fun bt123 => (if bt123.2.2.2 = 0 then ((motleyref27_padded.f k bt123.1 4).bind fun t127 => (if t127.size + 1 ≤ 9223372036854775807 then ((motleyref27_padded.f k bt123.2.1 2).bind fun t128 => (if (t127 ++ (⟨#[45]⟩ : ByteArray)).size + t128.size ≤ 9223372036854775807 then (if ((t127 ++ (⟨#[45]⟩ : ByteArray)) ++ t128).size + 1 ≤ 9223372036854775807 then ((motleyref27_padded.f k bt123.2.2.1 2).bind fun t129 => (if (((t127 ++ (⟨#[45]⟩ : ByteArray)) ++ t128) ++ (⟨#[45]⟩ : ByteArray)).size + t129.size ≤ 9223372036854775807 then (if ((((t127 ++ (⟨#[45]⟩ : ByteArray)) ++ t128) ++ (⟨#[45]⟩ : ByteArray)) ++ t129).size + 1 ≤ 9223372036854775807 then ((motleyref27_padded.f k (wrap64 (Int.tdiv bt121.2 3600)) 2).bind fun t130 => (if (((((t127 ++ (⟨#[45]⟩ : ByteArray)) ++ t128) ++ (⟨#[45]⟩ : ByteArray)) ++ t129) ++ (⟨#[84]⟩ : ByteArray)).size + t130.size ≤ 9223372036854775807 then (if ((((((t127 ++ (⟨#[45]⟩ : ByteArray)) ++ t128) ++ (⟨#[45]⟩ : ByteArray)) ++ t129) ++ (⟨#[84]⟩ : ByteArray)) ++ t130).size + 1 ≤ 9223372036854775807 then ((motleyref27_padded.f k (Int.tmod (wrap64 (Int.tdiv bt121.2 60)) 60) 2).bind fun t131 => (if (((((((t127 ++ (⟨#[45]⟩ : ByteArray)) ++ t128) ++ (⟨#[45]⟩ : ByteArray)) ++ t129) ++ (⟨#[84]⟩ : ByteArray)) ++ t130) ++ (⟨#[58]⟩ : ByteArray)).size + t131.size ≤ 9223372036854775807 then (if ((((((((t127 ++ (⟨#[45]⟩ : ByteArray)) ++ t128) ++ (⟨#[45]⟩ : ByteArray)) ++ t129) ++ (⟨#[84]⟩ : ByteArray)) ++ t130) ++ (⟨#[58]⟩ : ByteArray)) ++ t131).size + 1 ≤ 9223372036854775807 then ((motleyref27_padded.f k (Int.tmod bt121.2 60) 2).bind fun t132 => (if (((((((((t127 ++ (⟨#[45]⟩ : ByteArray)) ++ t128) ++ (⟨#[45]⟩ : ByteArray)) ++ t129) ++ (⟨#[84]⟩ : ByteArray)) ++ t130) ++ (⟨#[58]⟩ : ByteArray)) ++ t131) ++ (⟨#[58]⟩ : ByteArray)).size + t132.size ≤ 9223372036854775807 then (if ((((((((((t127 ++ (⟨#[45]⟩ : ByteArray)) ++ t128) ++ (⟨#[45]⟩ : ByteArray)) ++ t129) ++ (⟨#[84]⟩ : ByteArray)) ++ t130) ++ (⟨#[58]⟩ : ByteArray)) ++ t131) ++ (⟨#[58]⟩ : ByteArray)) ++ t132).size + 1 ≤ 9223372036854775807 then (some (((((((((((t127 ++ (⟨#[45]⟩ : ByteArray)) ++ t128) ++ (⟨#[45]⟩ : ByteArray)) ++ t129) ++ (⟨#[84]⟩ : ByteArray)) ++ t130) ++ (⟨#[58]⟩ : ByteArray)) ++ t131) ++ (⟨#[58]⟩ : ByteArray)) ++ t132) ++ (⟨#[90]⟩ : ByteArray), 0)) else (none)) else (none))) else (none)) else (none))) else (none)) else (none))) else (none)) else (none))) else (none)) else (none))) else (none))) else (some ((⟨#[]⟩ : ByteArray), bt123.2.2.2)))))
def motleyref27_Stamp.f (k : Nat) (a0 : Int) : Option (ByteArray × Int) := if a0 < (-1152921504606846976) then (motleyref27_Stamp.j0 k a0 true) else (motleyref27_Stamp.j0 k a0 (decide (a0 > 1152921504606846976)))
theorem motleyref27_Stamp.mono_l : ∀ k, (∀ y0 y1, LeO (motleyref27_Stamp.j0 k y0 y1) (motleyref27_Stamp.j0 (k + 1) y0 y1))
  | 0 => fun _ _ r h => by simp [motleyref27_Stamp.j0] at h
  | k + 1 => by
    have ih0 := motleyref27_Stamp.mono_l k
    · intro y0 y1
      unfold motleyref27_Stamp.j0
      repeat' first
      | (with_reducible exact ih0 _ _)
      | (with_reducible exact motleyref27_Date.mono _ _)
      | (with_reducible exact motleyref27_padded.mono _ _ _)
      | (with_reducible exact LeO.refl _)
      | (with_reducible exact LeO.none _)
      | (with_reducible refine LeO.ite ?_ ?_)
      | (with_reducible refine LeO.bind ?_ (fun _ => ?_))
      | exact ih0 _ _
      | exact motleyref27_Date.mono _ _
      | exact motleyref27_padded.mono _ _ _
      | exact LeO.none _
      | refine LeO.ite ?_ ?_
      | refine LeO.bind ?_ (fun _ => ?_)
theorem motleyref27_Stamp.mono : ∀ a0 k, LeO (motleyref27_Stamp.f k a0) (motleyref27_Stamp.f (k + 1) a0) := by
  intro a0 k
  have ih0 := motleyref27_Stamp.mono_l k
  unfold motleyref27_Stamp.f
  repeat' first
      | (with_reducible exact ih0 _ _)
      | (with_reducible exact motleyref27_Date.mono _ _)
      | (with_reducible exact motleyref27_padded.mono _ _ _)
      | (with_reducible exact LeO.refl _)
      | (with_reducible exact LeO.none _)
      | (with_reducible refine LeO.ite ?_ ?_)
      | (with_reducible refine LeO.bind ?_ (fun _ => ?_))
      | exact ih0 _ _
      | exact motleyref27_Date.mono _ _
      | exact motleyref27_padded.mono _ _ _
      | exact LeO.none _
      | refine LeO.ite ?_ ?_
      | refine LeO.bind ?_ (fun _ => ?_)
set_option maxHeartbeats 8000000 in
set_option maxRecDepth 100000 in
theorem motleyref27_Stamp.calls (k : Nat) (a0 : Int) (r1 : ByteArray) (r2 : Int) (w : World) (h : motleyref27_Stamp.f k a0 = some (r1, r2)) :
    Calls Tryd.prog 47 #[.int .i64 a0] w fun e w' => e = .returned (.tuple #[.string r1, .int .i64 r2]) ∧ Drawn0 w w' := by
  have H : (if a0 < (-1152921504606846976) then (motleyref27_Stamp.j0 k a0 true) else (motleyref27_Stamp.j0 k a0 (decide (a0 > 1152921504606846976)))) = some (r1, r2) := h
  clear h
  have HC2 := Aside0.mk H
  clear H
  go_enter Tryd.func47, Tryd.ntmps47
  go_upto_region 1 with (fail)
  go_cut [15] (fun v15 wc => ∃ (kq : Nat) (x15_1 : Bool), v15 = .bool x15_1 ∧ Aside0 (motleyref27_Stamp.j0 kq a0 x15_1 = some (r1, r2)) ∧ Aside0 (kq ≤ k) ∧ Drawn0 w wc)
  case first =>
    have H := HC2.out
    clear HC2
    by_cases c3 : a0 < (-1152921504606846976)
    · rw [if_pos c3] at H
      have c3b0 : decide (a0 < (-1152921504606846976)) = true := decide_eq_true c3
      clear c3
      (first | rw [c3b0] | (simp only [i64_w, i32_w]; rw [c3b0]) | skip)
      have H' := Aside0.mk H
      clear H
      go_wp2
      go_meet
      case rel => exact ⟨_, (true), (by first | rfl | (simp; done) | (simp [*]; done) | (simp; generalize ByteArray.toList _ = l_; cases l_ <;> rfl)), H', ⟨by first | omega | exact Nat.le_refl _⟩, by repeat (first | exact Drawn0.refl _ | apply Drawn0.step)⟩
    · rw [if_neg c3] at H
      have c3b0 : decide (a0 < (-1152921504606846976)) = false := decide_eq_false c3
      clear c3
      (first | rw [c3b0] | (simp only [i64_w, i32_w]; rw [c3b0]) | skip)
      have H' := Aside0.mk H
      clear H
      go_wp2
      go_meet
      case rel => exact ⟨_, (decide (a0 > 1152921504606846976)), (by first | rfl | (simp; done) | (simp [*]; done) | (simp; generalize ByteArray.toList _ = l_; cases l_ <;> rfl)), H', ⟨by first | omega | exact Nat.le_refl _⟩, by repeat (first | exact Drawn0.refl _ | apply Drawn0.step)⟩
  case rest =>
    clear HC2
    try clear p2
    try clear c3
    try clear c3b0
    obtain ⟨kq, x15_1, rfl, HA, HJ1, ⟨mc1, rfl⟩⟩ := hcut
    cases kq with
    | zero => exact absurd HA.out (by simp [motleyref27_Stamp.j0])
    | succ kj1 =>
      have H := HA.out
      clear HA
      simp only [motleyref27_Stamp.j0] at H
      by_cases c4 : x15_1 = true
      · subst c4
        have H1 : (some ((⟨#[]⟩ : ByteArray), 1)) = some (r1, r2) := by rw [if_pos rfl] at H; exact H
        clear H
        have H := H1
        clear H1
        simp only [Option.some.injEq, Prod.mk.injEq] at H
        obtain ⟨rfl, rfl⟩ := H
        go_wp2
        go_ret2
        exact ⟨by first | rfl | (simp; done) | (simp [*]; done) | (simp; generalize ByteArray.toList _ = l_; cases l_ <;> rfl), by repeat (first | exact Drawn0.refl _ | apply Drawn0.step)⟩
      · replace c4 := Bool.eq_false_iff.mpr c4
        subst c4
        have H1 : ((motleyref27_day.f a0).bind fun bt121 => ((motleyref27_Date.f kj1 bt121.1).bind fun bt123 => (if bt123.2.2.2 = 0 then ((motleyref27_padded.f kj1 bt123.1 4).bind fun t127 => (if t127.size + 1 ≤ 9223372036854775807 then ((motleyref27_padded.f kj1 bt123.2.1 2).bind fun t128 => (if (t127 ++ (⟨#[45]⟩ : ByteArray)).size + t128.size ≤ 9223372036854775807 then (if ((t127 ++ (⟨#[45]⟩ : ByteArray)) ++ t128).size + 1 ≤ 9223372036854775807 then ((motleyref27_padded.f kj1 bt123.2.2.1 2).bind fun t129 => (if (((t127 ++ (⟨#[45]⟩ : ByteArray)) ++ t128) ++ (⟨#[45]⟩ : ByteArray)).size + t129.size ≤ 9223372036854775807 then (if ((((t127 ++ (⟨#[45]⟩ : ByteArray)) ++ t128) ++ (⟨#[45]⟩ : ByteArray)) ++ t129).size + 1 ≤ 9223372036854775807 then ((motleyref27_padded.f kj1 (wrap64 (Int.tdiv bt121.2 3600)) 2).bind fun t130 => (if (((((t127 ++ (⟨#[45]⟩ : ByteArray)) ++ t128) ++ (⟨#[45]⟩ : ByteArray)) ++ t129) ++ (⟨#[84]⟩ : ByteArray)).size + t130.size ≤ 9223372036854775807 then (if ((((((t127 ++ (⟨#[45]⟩ : ByteArray)) ++ t128) ++ (⟨#[45]⟩ : ByteArray)) ++ t129) ++ (⟨#[84]⟩ : ByteArray)) ++ t130).size + 1 ≤ 9223372036854775807 then ((motleyref27_padded.f kj1 (Int.tmod (wrap64 (Int.tdiv bt121.2 60)) 60) 2).bind fun t131 => (if (((((((t127 ++ (⟨#[45]⟩ : ByteArray)) ++ t128) ++ (⟨#[45]⟩ : ByteArray)) ++ t129) ++ (⟨#[84]⟩ : ByteArray)) ++ t130) ++ (⟨#[58]⟩ : ByteArray)).size + t131.size ≤ 9223372036854775807 then (if ((((((((t127 ++ (⟨#[45]⟩ : ByteArray)) ++ t128) ++ (⟨#[45]⟩ : ByteArray)) ++ t129) ++ (⟨#[84]⟩ : ByteArray)) ++ t130) ++ (⟨#[58]⟩ : ByteArray)) ++ t131).size + 1 ≤ 9223372036854775807 then ((motleyref27_padded.f kj1 (Int.tmod bt121.2 60) 2).bind fun t132 => (if (((((((((t127 ++ (⟨#[45]⟩ : ByteArray)) ++ t128) ++ (⟨#[45]⟩ : ByteArray)) ++ t129) ++ (⟨#[84]⟩ : ByteArray)) ++ t130) ++ (⟨#[58]⟩ : ByteArray)) ++ t131) ++ (⟨#[58]⟩ : ByteArray)).size + t132.size ≤ 9223372036854775807 then (if ((((((((((t127 ++ (⟨#[45]⟩ : ByteArray)) ++ t128) ++ (⟨#[45]⟩ : ByteArray)) ++ t129) ++ (⟨#[84]⟩ : ByteArray)) ++ t130) ++ (⟨#[58]⟩ : ByteArray)) ++ t131) ++ (⟨#[58]⟩ : ByteArray)) ++ t132).size + 1 ≤ 9223372036854775807 then (some (((((((((((t127 ++ (⟨#[45]⟩ : ByteArray)) ++ t128) ++ (⟨#[45]⟩ : ByteArray)) ++ t129) ++ (⟨#[84]⟩ : ByteArray)) ++ t130) ++ (⟨#[58]⟩ : ByteArray)) ++ t131) ++ (⟨#[58]⟩ : ByteArray)) ++ t132) ++ (⟨#[90]⟩ : ByteArray), 0)) else (none)) else (none))) else (none)) else (none))) else (none)) else (none))) else (none)) else (none))) else (none)) else (none))) else (none))) else (some ((⟨#[]⟩ : ByteArray), bt123.2.2.2))))) = some (r1, r2) := by rw [if_neg (show ¬ (false = true) by decide)] at H; exact H
        clear H
        have H := H1
        clear H1
        replace H := Option.bind_eq_some_iff.mp H
        obtain ⟨⟨t121, t122⟩, A50, H⟩ := H
        replace H : ((motleyref27_Date.f kj1 t121).bind fun bt123 => (if bt123.2.2.2 = 0 then ((motleyref27_padded.f kj1 bt123.1 4).bind fun t127 => (if t127.size + 1 ≤ 9223372036854775807 then ((motleyref27_padded.f kj1 bt123.2.1 2).bind fun t128 => (if (t127 ++ (⟨#[45]⟩ : ByteArray)).size + t128.size ≤ 9223372036854775807 then (if ((t127 ++ (⟨#[45]⟩ : ByteArray)) ++ t128).size + 1 ≤ 9223372036854775807 then ((motleyref27_padded.f kj1 bt123.2.2.1 2).bind fun t129 => (if (((t127 ++ (⟨#[45]⟩ : ByteArray)) ++ t128) ++ (⟨#[45]⟩ : ByteArray)).size + t129.size ≤ 9223372036854775807 then (if ((((t127 ++ (⟨#[45]⟩ : ByteArray)) ++ t128) ++ (⟨#[45]⟩ : ByteArray)) ++ t129).size + 1 ≤ 9223372036854775807 then ((motleyref27_padded.f kj1 (wrap64 (Int.tdiv t122 3600)) 2).bind fun t130 => (if (((((t127 ++ (⟨#[45]⟩ : ByteArray)) ++ t128) ++ (⟨#[45]⟩ : ByteArray)) ++ t129) ++ (⟨#[84]⟩ : ByteArray)).size + t130.size ≤ 9223372036854775807 then (if ((((((t127 ++ (⟨#[45]⟩ : ByteArray)) ++ t128) ++ (⟨#[45]⟩ : ByteArray)) ++ t129) ++ (⟨#[84]⟩ : ByteArray)) ++ t130).size + 1 ≤ 9223372036854775807 then ((motleyref27_padded.f kj1 (Int.tmod (wrap64 (Int.tdiv t122 60)) 60) 2).bind fun t131 => (if (((((((t127 ++ (⟨#[45]⟩ : ByteArray)) ++ t128) ++ (⟨#[45]⟩ : ByteArray)) ++ t129) ++ (⟨#[84]⟩ : ByteArray)) ++ t130) ++ (⟨#[58]⟩ : ByteArray)).size + t131.size ≤ 9223372036854775807 then (if ((((((((t127 ++ (⟨#[45]⟩ : ByteArray)) ++ t128) ++ (⟨#[45]⟩ : ByteArray)) ++ t129) ++ (⟨#[84]⟩ : ByteArray)) ++ t130) ++ (⟨#[58]⟩ : ByteArray)) ++ t131).size + 1 ≤ 9223372036854775807 then ((motleyref27_padded.f kj1 (Int.tmod t122 60) 2).bind fun t132 => (if (((((((((t127 ++ (⟨#[45]⟩ : ByteArray)) ++ t128) ++ (⟨#[45]⟩ : ByteArray)) ++ t129) ++ (⟨#[84]⟩ : ByteArray)) ++ t130) ++ (⟨#[58]⟩ : ByteArray)) ++ t131) ++ (⟨#[58]⟩ : ByteArray)).size + t132.size ≤ 9223372036854775807 then (if ((((((((((t127 ++ (⟨#[45]⟩ : ByteArray)) ++ t128) ++ (⟨#[45]⟩ : ByteArray)) ++ t129) ++ (⟨#[84]⟩ : ByteArray)) ++ t130) ++ (⟨#[58]⟩ : ByteArray)) ++ t131) ++ (⟨#[58]⟩ : ByteArray)) ++ t132).size + 1 ≤ 9223372036854775807 then (some (((((((((((t127 ++ (⟨#[45]⟩ : ByteArray)) ++ t128) ++ (⟨#[45]⟩ : ByteArray)) ++ t129) ++ (⟨#[84]⟩ : ByteArray)) ++ t130) ++ (⟨#[58]⟩ : ByteArray)) ++ t131) ++ (⟨#[58]⟩ : ByteArray)) ++ t132) ++ (⟨#[90]⟩ : ByteArray), 0)) else (none)) else (none))) else (none)) else (none))) else (none)) else (none))) else (none)) else (none))) else (none)) else (none))) else (none))) else (some ((⟨#[]⟩ : ByteArray), bt123.2.2.2)))) = some (r1, r2) := H
        have A5 := Aside0.mk A50
        clear A50
        replace H := Option.bind_eq_some_iff.mp H
        obtain ⟨⟨t123, t124, t125, t126⟩, A60, H⟩ := H
        replace H : (if t126 = 0 then ((motleyref27_padded.f kj1 t123 4).bind fun t127 => (if t127.size + 1 ≤ 9223372036854775807 then ((motleyref27_padded.f kj1 t124 2).bind fun t128 => (if (t127 ++ (⟨#[45]⟩ : ByteArray)).size + t128.size ≤ 9223372036854775807 then (if ((t127 ++ (⟨#[45]⟩ : ByteArray)) ++ t128).size + 1 ≤ 9223372036854775807 then ((motleyref27_padded.f kj1 t125 2).bind fun t129 => (if (((t127 ++ (⟨#[45]⟩ : ByteArray)) ++ t128) ++ (⟨#[45]⟩ : ByteArray)).size + t129.size ≤ 9223372036854775807 then (if ((((t127 ++ (⟨#[45]⟩ : ByteArray)) ++ t128) ++ (⟨#[45]⟩ : ByteArray)) ++ t129).size + 1 ≤ 9223372036854775807 then ((motleyref27_padded.f kj1 (wrap64 (Int.tdiv t122 3600)) 2).bind fun t130 => (if (((((t127 ++ (⟨#[45]⟩ : ByteArray)) ++ t128) ++ (⟨#[45]⟩ : ByteArray)) ++ t129) ++ (⟨#[84]⟩ : ByteArray)).size + t130.size ≤ 9223372036854775807 then (if ((((((t127 ++ (⟨#[45]⟩ : ByteArray)) ++ t128) ++ (⟨#[45]⟩ : ByteArray)) ++ t129) ++ (⟨#[84]⟩ : ByteArray)) ++ t130).size + 1 ≤ 9223372036854775807 then ((motleyref27_padded.f kj1 (Int.tmod (wrap64 (Int.tdiv t122 60)) 60) 2).bind fun t131 => (if (((((((t127 ++ (⟨#[45]⟩ : ByteArray)) ++ t128) ++ (⟨#[45]⟩ : ByteArray)) ++ t129) ++ (⟨#[84]⟩ : ByteArray)) ++ t130) ++ (⟨#[58]⟩ : ByteArray)).size + t131.size ≤ 9223372036854775807 then (if ((((((((t127 ++ (⟨#[45]⟩ : ByteArray)) ++ t128) ++ (⟨#[45]⟩ : ByteArray)) ++ t129) ++ (⟨#[84]⟩ : ByteArray)) ++ t130) ++ (⟨#[58]⟩ : ByteArray)) ++ t131).size + 1 ≤ 9223372036854775807 then ((motleyref27_padded.f kj1 (Int.tmod t122 60) 2).bind fun t132 => (if (((((((((t127 ++ (⟨#[45]⟩ : ByteArray)) ++ t128) ++ (⟨#[45]⟩ : ByteArray)) ++ t129) ++ (⟨#[84]⟩ : ByteArray)) ++ t130) ++ (⟨#[58]⟩ : ByteArray)) ++ t131) ++ (⟨#[58]⟩ : ByteArray)).size + t132.size ≤ 9223372036854775807 then (if ((((((((((t127 ++ (⟨#[45]⟩ : ByteArray)) ++ t128) ++ (⟨#[45]⟩ : ByteArray)) ++ t129) ++ (⟨#[84]⟩ : ByteArray)) ++ t130) ++ (⟨#[58]⟩ : ByteArray)) ++ t131) ++ (⟨#[58]⟩ : ByteArray)) ++ t132).size + 1 ≤ 9223372036854775807 then (some (((((((((((t127 ++ (⟨#[45]⟩ : ByteArray)) ++ t128) ++ (⟨#[45]⟩ : ByteArray)) ++ t129) ++ (⟨#[84]⟩ : ByteArray)) ++ t130) ++ (⟨#[58]⟩ : ByteArray)) ++ t131) ++ (⟨#[58]⟩ : ByteArray)) ++ t132) ++ (⟨#[90]⟩ : ByteArray), 0)) else (none)) else (none))) else (none)) else (none))) else (none)) else (none))) else (none)) else (none))) else (none)) else (none))) else (none))) else (some ((⟨#[]⟩ : ByteArray), t126))) = some (r1, r2) := H
        have A6 := Aside0.mk A60
        clear A60
        by_cases c7 : t126 = 0
        · rw [if_pos c7] at H
          have c7b0 : (t126 == 0) = true := beq_iff_eq.mpr c7
          have c7b1 : (t126 != 0) = false := bne_eq_false_iff_eq.mpr c7
          clear c7
          replace H := Option.bind_eq_some_iff.mp H
          obtain ⟨t127, A80, H⟩ := H
          replace H : (if t127.size + 1 ≤ 9223372036854775807 then ((motleyref27_padded.f kj1 t124 2).bind fun t128 => (if (t127 ++ (⟨#[45]⟩ : ByteArray)).size + t128.size ≤ 9223372036854775807 then (if ((t127 ++ (⟨#[45]⟩ : ByteArray)) ++ t128).size + 1 ≤ 9223372036854775807 then ((motleyref27_padded.f kj1 t125 2).bind fun t129 => (if (((t127 ++ (⟨#[45]⟩ : ByteArray)) ++ t128) ++ (⟨#[45]⟩ : ByteArray)).size + t129.size ≤ 9223372036854775807 then (if ((((t127 ++ (⟨#[45]⟩ : ByteArray)) ++ t128) ++ (⟨#[45]⟩ : ByteArray)) ++ t129).size + 1 ≤ 9223372036854775807 then ((motleyref27_padded.f kj1 (wrap64 (Int.tdiv t122 3600)) 2).bind fun t130 => (if (((((t127 ++ (⟨#[45]⟩ : ByteArray)) ++ t128) ++ (⟨#[45]⟩ : ByteArray)) ++ t129) ++ (⟨#[84]⟩ : ByteArray)).size + t130.size ≤ 9223372036854775807 then (if ((((((t127 ++ (⟨#[45]⟩ : ByteArray)) ++ t128) ++ (⟨#[45]⟩ : ByteArray)) ++ t129) ++ (⟨#[84]⟩ : ByteArray)) ++ t130).size + 1 ≤ 9223372036854775807 then ((motleyref27_padded.f kj1 (Int.tmod (wrap64 (Int.tdiv t122 60)) 60) 2).bind fun t131 => (if (((((((t127 ++ (⟨#[45]⟩ : ByteArray)) ++ t128) ++ (⟨#[45]⟩ : ByteArray)) ++ t129) ++ (⟨#[84]⟩ : ByteArray)) ++ t130) ++ (⟨#[58]⟩ : ByteArray)).size + t131.size ≤ 9223372036854775807 then (if ((((((((t127 ++ (⟨#[45]⟩ : ByteArray)) ++ t128) ++ (⟨#[45]⟩ : ByteArray)) ++ t129) ++ (⟨#[84]⟩ : ByteArray)) ++ t130) ++ (⟨#[58]⟩ : ByteArray)) ++ t131).size + 1 ≤ 9223372036854775807 then ((motleyref27_padded.f kj1 (Int.tmod t122 60) 2).bind fun t132 => (if (((((((((t127 ++ (⟨#[45]⟩ : ByteArray)) ++ t128) ++ (⟨#[45]⟩ : ByteArray)) ++ t129) ++ (⟨#[84]⟩ : ByteArray)) ++ t130) ++ (⟨#[58]⟩ : ByteArray)) ++ t131) ++ (⟨#[58]⟩ : ByteArray)).size + t132.size ≤ 9223372036854775807 then (if ((((((((((t127 ++ (⟨#[45]⟩ : ByteArray)) ++ t128) ++ (⟨#[45]⟩ : ByteArray)) ++ t129) ++ (⟨#[84]⟩ : ByteArray)) ++ t130) ++ (⟨#[58]⟩ : ByteArray)) ++ t131) ++ (⟨#[58]⟩ : ByteArray)) ++ t132).size + 1 ≤ 9223372036854775807 then (some (((((((((((t127 ++ (⟨#[45]⟩ : ByteArray)) ++ t128) ++ (⟨#[45]⟩ : ByteArray)) ++ t129) ++ (⟨#[84]⟩ : ByteArray)) ++ t130) ++ (⟨#[58]⟩ : ByteArray)) ++ t131) ++ (⟨#[58]⟩ : ByteArray)) ++ t132) ++ (⟨#[90]⟩ : ByteArray), 0)) else (none)) else (none))) else (none)) else (none))) else (none)) else (none))) else (none)) else (none))) else (none)) else (none))) else (none)) = some (r1, r2) := H
          have A8 := Aside0.mk A80
          clear A80
          by_cases c9 : t127.size + 1 ≤ 9223372036854775807
          · rw [if_pos c9] at H
            have c9b0 := eq_true c9
            have c9b1 : decide (t127.size + 1 ≤ 9223372036854775807) = true := decide_eq_true c9
            try have c9b2 : (9223372036854775807 < t127.size + 1) = False := eq_false (Nat.not_lt.2 c9)
            replace H := Option.bind_eq_some_iff.mp H
            obtain ⟨t128, A100, H⟩ := H
            replace H : (if (t127 ++ (⟨#[45]⟩ : ByteArray)).size + t128.size ≤ 9223372036854775807 then (if ((t127 ++ (⟨#[45]⟩ : ByteArray)) ++ t128).size + 1 ≤ 9223372036854775807 then ((motleyref27_padded.f kj1 t125 2).bind fun t129 => (if (((t127 ++ (⟨#[45]⟩ : ByteArray)) ++ t128) ++ (⟨#[45]⟩ : ByteArray)).size + t129.size ≤ 9223372036854775807 then (if ((((t127 ++ (⟨#[45]⟩ : ByteArray)) ++ t128) ++ (⟨#[45]⟩ : ByteArray)) ++ t129).size + 1 ≤ 9223372036854775807 then ((motleyref27_padded.f kj1 (wrap64 (Int.tdiv t122 3600)) 2).bind fun t130 => (if (((((t127 ++ (⟨#[45]⟩ : ByteArray)) ++ t128) ++ (⟨#[45]⟩ : ByteArray)) ++ t129) ++ (⟨#[84]⟩ : ByteArray)).size + t130.size ≤ 9223372036854775807 then (if ((((((t127 ++ (⟨#[45]⟩ : ByteArray)) ++ t128) ++ (⟨#[45]⟩ : ByteArray)) ++ t129) ++ (⟨#[84]⟩ : ByteArray)) ++ t130).size + 1 ≤ 9223372036854775807 then ((motleyref27_padded.f kj1 (Int.tmod (wrap64 (Int.tdiv t122 60)) 60) 2).bind fun t131 => (if (((((((t127 ++ (⟨#[45]⟩ : ByteArray)) ++ t128) ++ (⟨#[45]⟩ : ByteArray)) ++ t129) ++ (⟨#[84]⟩ : ByteArray)) ++ t130) ++ (⟨#[58]⟩ : ByteArray)).size + t131.size ≤ 9223372036854775807 then (if ((((((((t127 ++ (⟨#[45]⟩ : ByteArray)) ++ t128) ++ (⟨#[45]⟩ : ByteArray)) ++ t129) ++ (⟨#[84]⟩ : ByteArray)) ++ t130) ++ (⟨#[58]⟩ : ByteArray)) ++ t131).size + 1 ≤ 9223372036854775807 then ((motleyref27_padded.f kj1 (Int.tmod t122 60) 2).bind fun t132 => (if (((((((((t127 ++ (⟨#[45]⟩ : ByteArray)) ++ t128) ++ (⟨#[45]⟩ : ByteArray)) ++ t129) ++ (⟨#[84]⟩ : ByteArray)) ++ t130) ++ (⟨#[58]⟩ : ByteArray)) ++ t131) ++ (⟨#[58]⟩ : ByteArray)).size + t132.size ≤ 9223372036854775807 then (if ((((((((((t127 ++ (⟨#[45]⟩ : ByteArray)) ++ t128) ++ (⟨#[45]⟩ : ByteArray)) ++ t129) ++ (⟨#[84]⟩ : ByteArray)) ++ t130) ++ (⟨#[58]⟩ : ByteArray)) ++ t131) ++ (⟨#[58]⟩ : ByteArray)) ++ t132).size + 1 ≤ 9223372036854775807 then (some (((((((((((t127 ++ (⟨#[45]⟩ : ByteArray)) ++ t128) ++ (⟨#[45]⟩ : ByteArray)) ++ t129) ++ (⟨#[84]⟩ : ByteArray)) ++ t130) ++ (⟨#[58]⟩ : ByteArray)) ++ t131) ++ (⟨#[58]⟩ : ByteArray)) ++ t132) ++ (⟨#[90]⟩ : ByteArray), 0)) else (none)) else (none))) else (none)) else (none))) else (none)) else (none))) else (none)) else (none))) else (none)) else (none)) = some (r1, r2) := H
            have A10 := Aside0.mk A100
            clear A100
            by_cases c11 : (t127 ++ (⟨#[45]⟩ : ByteArray)).size + t128.size ≤ 9223372036854775807
            · rw [if_pos c11] at H
              have c11b0 := eq_true c11
              have c11b1 : decide ((t127 ++ (⟨#[45]⟩ : ByteArray)).size + t128.size ≤ 9223372036854775807) = true := decide_eq_true c11
              try have c11b3 : (9223372036854775807 < t127.size + 1 + t128.size) = False := eq_false (by have h_ := c11; (first | simp only [ByteArray.size_append, ByteArray.size_extract, Nat.min_self] at h_ | simp only [ByteArray.size_append] at h_); exact Nat.not_lt.2 h_)
              try have c11b2 : (9223372036854775807 < (t127 ++ (⟨#[45]⟩ : ByteArray)).size + t128.size) = False := eq_false (Nat.not_lt.2 c11)
              by_cases c12 : ((t127 ++ (⟨#[45]⟩ : ByteArray)) ++ t128).size + 1 ≤ 9223372036854775807
              · rw [if_pos c12] at H
                have c12b0 := eq_true c12
                have c12b1 : decide (((t127 ++ (⟨#[45]⟩ : ByteArray)) ++ t128).size + 1 ≤ 9223372036854775807) = true := decide_eq_true c12
                try have c12b3 : (9223372036854775807 < t127.size + 1 + t128.size + 1) = False := eq_false (by have h_ := c12; (first | simp only [ByteArray.size_append, ByteArray.size_extract, Nat.min_self] at h_ | simp only [ByteArray.size_append] at h_); exact Nat.not_lt.2 h_)
                try have c12b2 : (9223372036854775807 < ((t127 ++ (⟨#[45]⟩ : ByteArray)) ++ t128).size + 1) = False := eq_false (Nat.not_lt.2 c12)
                replace H := Option.bind_eq_some_iff.mp H
                obtain ⟨t129, A130, H⟩ := H
                replace H : (if (((t127 ++ (⟨#[45]⟩ : ByteArray)) ++ t128) ++ (⟨#[45]⟩ : ByteArray)).size + t129.size ≤ 9223372036854775807 then (if ((((t127 ++ (⟨#[45]⟩ : ByteArray)) ++ t128) ++ (⟨#[45]⟩ : ByteArray)) ++ t129).size + 1 ≤ 9223372036854775807 then ((motleyref27_padded.f kj1 (wrap64 (Int.tdiv t122 3600)) 2).bind fun t130 => (if (((((t127 ++ (⟨#[45]⟩ : ByteArray)) ++ t128) ++ (⟨#[45]⟩ : ByteArray)) ++ t129) ++ (⟨#[84]⟩ : ByteArray)).size + t130.size ≤ 9223372036854775807 then (if ((((((t127 ++ (⟨#[45]⟩ : ByteArray)) ++ t128) ++ (⟨#[45]⟩ : ByteArray)) ++ t129) ++ (⟨#[84]⟩ : ByteArray)) ++ t130).size + 1 ≤ 9223372036854775807 then ((motleyref27_padded.f kj1 (Int.tmod (wrap64 (Int.tdiv t122 60)) 60) 2).bind fun t131 => (if (((((((t127 ++ (⟨#[45]⟩ : ByteArray)) ++ t128) ++ (⟨#[45]⟩ : ByteArray)) ++ t129) ++ (⟨#[84]⟩ : ByteArray)) ++ t130) ++ (⟨#[58]⟩ : ByteArray)).size + t131.size ≤ 9223372036854775807 then (if ((((((((t127 ++ (⟨#[45]⟩ : ByteArray)) ++ t128) ++ (⟨#[45]⟩ : ByteArray)) ++ t129) ++ (⟨#[84]⟩ : ByteArray)) ++ t130) ++ (⟨#[58]⟩ : ByteArray)) ++ t131).size + 1 ≤ 9223372036854775807 then ((motleyref27_padded.f kj1 (Int.tmod t122 60) 2).bind fun t132 => (if (((((((((t127 ++ (⟨#[45]⟩ : ByteArray)) ++ t128) ++ (⟨#[45]⟩ : ByteArray)) ++ t129) ++ (⟨#[84]⟩ : ByteArray)) ++ t130) ++ (⟨#[58]⟩ : ByteArray)) ++ t131) ++ (⟨#[58]⟩ : ByteArray)).size + t132.size ≤ 9223372036854775807 then (if ((((((((((t127 ++ (⟨#[45]⟩ : ByteArray)) ++ t128) ++ (⟨#[45]⟩ : ByteArray)) ++ t129) ++ (⟨#[84]⟩ : ByteArray)) ++ t130) ++ (⟨#[58]⟩ : ByteArray)) ++ t131) ++ (⟨#[58]⟩ : ByteArray)) ++ t132).size + 1 ≤ 9223372036854775807 then (some (((((((((((t127 ++ (⟨#[45]⟩ : ByteArray)) ++ t128) ++ (⟨#[45]⟩ : ByteArray)) ++ t129) ++ (⟨#[84]⟩ : ByteArray)) ++ t130) ++ (⟨#[58]⟩ : ByteArray)) ++ t131) ++ (⟨#[58]⟩ : ByteArray)) ++ t132) ++ (⟨#[90]⟩ : ByteArray), 0)) else (none)) else (none))) else (none)) else (none))) else (none)) else (none))) else (none)) else (none)) = some (r1, r2) := H
                have A13 := Aside0.mk A130
                clear A130
                by_cases c14 : (((t127 ++ (⟨#[45]⟩ : ByteArray)) ++ t128) ++ (⟨#[45]⟩ : ByteArray)).size + t129.size ≤ 9223372036854775807
                · rw [if_pos c14] at H
                  have c14b0 := eq_true c14
                  have c14b1 : decide ((((t127 ++ (⟨#[45]⟩ : ByteArray)) ++ t128) ++ (⟨#[45]⟩ : ByteArray)).size + t129.size ≤ 9223372036854775807) = true := decide_eq_true c14
                  try have c14b3 : (9223372036854775807 < t127.size + 1 + t128.size + 1 + t129.size) = False := eq_false (by have h_ := c14; (first | simp only [ByteArray.size_append, ByteArray.size_extract, Nat.min_self] at h_ | simp only [ByteArray.size_append] at h_); exact Nat.not_lt.2 h_)
                  try have c14b2 : (9223372036854775807 < (((t127 ++ (⟨#[45]⟩ : ByteArray)) ++ t128) ++ (⟨#[45]⟩ : ByteArray)).size + t129.size) = False := eq_false (Nat.not_lt.2 c14)
                  by_cases c15 : ((((t127 ++ (⟨#[45]⟩ : ByteArray)) ++ t128) ++ (⟨#[45]⟩ : ByteArray)) ++ t129).size + 1 ≤ 9223372036854775807
                  · rw [if_pos c15] at H
                    have c15b0 := eq_true c15
                    have c15b1 : decide (((((t127 ++ (⟨#[45]⟩ : ByteArray)) ++ t128) ++ (⟨#[45]⟩ : ByteArray)) ++ t129).size + 1 ≤ 9223372036854775807) = true := decide_eq_true c15
                    try have c15b3 : (9223372036854775807 < t127.size + 1 + t128.size + 1 + t129.size + 1) = False := eq_false (by have h_ := c15; (first | simp only [ByteArray.size_append, ByteArray.size_extract, Nat.min_self] at h_ | simp only [ByteArray.size_append] at h_); exact Nat.not_lt.2 h_)
                    try have c15b2 : (9223372036854775807 < ((((t127 ++ (⟨#[45]⟩ : ByteArray)) ++ t128) ++ (⟨#[45]⟩ : ByteArray)) ++ t129).size + 1) = False := eq_false (Nat.not_lt.2 c15)
                    replace H := Option.bind_eq_some_iff.mp H
                    obtain ⟨t130, A160, H⟩ := H
                    replace H : (if (((((t127 ++ (⟨#[45]⟩ : ByteArray)) ++ t128) ++ (⟨#[45]⟩ : ByteArray)) ++ t129) ++ (⟨#[84]⟩ : ByteArray)).size + t130.size ≤ 9223372036854775807 then (if ((((((t127 ++ (⟨#[45]⟩ : ByteArray)) ++ t128) ++ (⟨#[45]⟩ : ByteArray)) ++ t129) ++ (⟨#[84]⟩ : ByteArray)) ++ t130).size + 1 ≤ 9223372036854775807 then ((motleyref27_padded.f kj1 (Int.tmod (wrap64 (Int.tdiv t122 60)) 60) 2).bind fun t131 => (if (((((((t127 ++ (⟨#[45]⟩ : ByteArray)) ++ t128) ++ (⟨#[45]⟩ : ByteArray)) ++ t129) ++ (⟨#[84]⟩ : ByteArray)) ++ t130) ++ (⟨#[58]⟩ : ByteArray)).size + t131.size ≤ 9223372036854775807 then (if ((((((((t127 ++ (⟨#[45]⟩ : ByteArray)) ++ t128) ++ (⟨#[45]⟩ : ByteArray)) ++ t129) ++ (⟨#[84]⟩ : ByteArray)) ++ t130) ++ (⟨#[58]⟩ : ByteArray)) ++ t131).size + 1 ≤ 9223372036854775807 then ((motleyref27_padded.f kj1 (Int.tmod t122 60) 2).bind fun t132 => (if (((((((((t127 ++ (⟨#[45]⟩ : ByteArray)) ++ t128) ++ (⟨#[45]⟩ : ByteArray)) ++ t129) ++ (⟨#[84]⟩ : ByteArray)) ++ t130) ++ (⟨#[58]⟩ : ByteArray)) ++ t131) ++ (⟨#[58]⟩ : ByteArray)).size + t132.size ≤ 9223372036854775807 then (if ((((((((((t127 ++ (⟨#[45]⟩ : ByteArray)) ++ t128) ++ (⟨#[45]⟩ : ByteArray)) ++ t129) ++ (⟨#[84]⟩ : ByteArray)) ++ t130) ++ (⟨#[58]⟩ : ByteArray)) ++ t131) ++ (⟨#[58]⟩ : ByteArray)) ++ t132).size + 1 ≤ 9223372036854775807 then (some (((((((((((t127 ++ (⟨#[45]⟩ : ByteArray)) ++ t128) ++ (⟨#[45]⟩ : ByteArray)) ++ t129) ++ (⟨#[84]⟩ : ByteArray)) ++ t130) ++ (⟨#[58]⟩ : ByteArray)) ++ t131) ++ (⟨#[58]⟩ : ByteArray)) ++ t132) ++ (⟨#[90]⟩ : ByteArray), 0)) else (none)) else (none))) else (none)) else (none))) else (none)) else (none)) = some (r1, r2) := H
                    have A16 := Aside0.mk A160
                    clear A160
                    by_cases c17 : (((((t127 ++ (⟨#[45]⟩ : ByteArray)) ++ t128) ++ (⟨#[45]⟩ : ByteArray)) ++ t129) ++ (⟨#[84]⟩ : ByteArray)).size + t130.size ≤ 9223372036854775807
                    · rw [if_pos c17] at H
                      have c17b0 := eq_true c17
                      have c17b1 : decide ((((((t127 ++ (⟨#[45]⟩ : ByteArray)) ++ t128) ++ (⟨#[45]⟩ : ByteArray)) ++ t129) ++ (⟨#[84]⟩ : ByteArray)).size + t130.size ≤ 9223372036854775807) = true := decide_eq_true c17
                      try have c17b3 : (9223372036854775807 < t127.size + 1 + t128.size + 1 + t129.size + 1 + t130.size) = False := eq_false (by have h_ := c17; (first | simp only [ByteArray.size_append, ByteArray.size_extract, Nat.min_self] at h_ | simp only [ByteArray.size_append] at h_); exact Nat.not_lt.2 h_)
                      try have c17b2 : (9223372036854775807 < (((((t127 ++ (⟨#[45]⟩ : ByteArray)) ++ t128) ++ (⟨#[45]⟩ : ByteArray)) ++ t129) ++ (⟨#[84]⟩ : ByteArray)).size + t130.size) = False := eq_false (Nat.not_lt.2 c17)
                      by_cases c18 : ((((((t127 ++ (⟨#[45]⟩ : ByteArray)) ++ t128) ++ (⟨#[45]⟩ : ByteArray)) ++ t129) ++ (⟨#[84]⟩ : ByteArray)) ++ t130).size + 1 ≤ 9223372036854775807
                      · rw [if_pos c18] at H
                        have c18b0 := eq_true c18
                        have c18b1 : decide (((((((t127 ++ (⟨#[45]⟩ : ByteArray)) ++ t128) ++ (⟨#[45]⟩ : ByteArray)) ++ t129) ++ (⟨#[84]⟩ : ByteArray)) ++ t130).size + 1 ≤ 9223372036854775807) = true := decide_eq_true c18
                        try have c18b3 : (9223372036854775807 < t127.size + 1 + t128.size + 1 + t129.size + 1 + t130.size + 1) = False := eq_false (by have h_ := c18; (first | simp only [ByteArray.size_append, ByteArray.size_extract, Nat.min_self] at h_ | simp only [ByteArray.size_append] at h_); exact Nat.not_lt.2 h_)
                        try have c18b2 : (9223372036854775807 < ((((((t127 ++ (⟨#[45]⟩ : ByteArray)) ++ t128) ++ (⟨#[45]⟩ : ByteArray)) ++ t129) ++ (⟨#[84]⟩ : ByteArray)) ++ t130).size + 1) = False := eq_false (Nat.not_lt.2 c18)
                        replace H := Option.bind_eq_some_iff.mp H
                        obtain ⟨t131, A190, H⟩ := H
                        replace H : (if (((((((t127 ++ (⟨#[45]⟩ : ByteArray)) ++ t128) ++ (⟨#[45]⟩ : ByteArray)) ++ t129) ++ (⟨#[84]⟩ : ByteArray)) ++ t130) ++ (⟨#[58]⟩ : ByteArray)).size + t131.size ≤ 9223372036854775807 then (if ((((((((t127 ++ (⟨#[45]⟩ : ByteArray)) ++ t128) ++ (⟨#[45]⟩ : ByteArray)) ++ t129) ++ (⟨#[84]⟩ : ByteArray)) ++ t130) ++ (⟨#[58]⟩ : ByteArray)) ++ t131).size + 1 ≤ 9223372036854775807 then ((motleyref27_padded.f kj1 (Int.tmod t122 60) 2).bind fun t132 => (if (((((((((t127 ++ (⟨#[45]⟩ : ByteArray)) ++ t128) ++ (⟨#[45]⟩ : ByteArray)) ++ t129) ++ (⟨#[84]⟩ : ByteArray)) ++ t130) ++ (⟨#[58]⟩ : ByteArray)) ++ t131) ++ (⟨#[58]⟩ : ByteArray)).size + t132.size ≤ 9223372036854775807 then (if ((((((((((t127 ++ (⟨#[45]⟩ : ByteArray)) ++ t128) ++ (⟨#[45]⟩ : ByteArray)) ++ t129) ++ (⟨#[84]⟩ : ByteArray)) ++ t130) ++ (⟨#[58]⟩ : ByteArray)) ++ t131) ++ (⟨#[58]⟩ : ByteArray)) ++ t132).size + 1 ≤ 9223372036854775807 then (some (((((((((((t127 ++ (⟨#[45]⟩ : ByteArray)) ++ t128) ++ (⟨#[45]⟩ : ByteArray)) ++ t129) ++ (⟨#[84]⟩ : ByteArray)) ++ t130) ++ (⟨#[58]⟩ : ByteArray)) ++ t131) ++ (⟨#[58]⟩ : ByteArray)) ++ t132) ++ (⟨#[90]⟩ : ByteArray), 0)) else (none)) else (none))) else (none)) else (none)) = some (r1, r2) := H
                        have A19 := Aside0.mk A190
                        clear A190
                        by_cases c20 : (((((((t127 ++ (⟨#[45]⟩ : ByteArray)) ++ t128) ++ (⟨#[45]⟩ : ByteArray)) ++ t129) ++ (⟨#[84]⟩ : ByteArray)) ++ t130) ++ (⟨#[58]⟩ : ByteArray)).size + t131.size ≤ 9223372036854775807
                        · rw [if_pos c20] at H
                          have c20b0 := eq_true c20
                          have c20b1 : decide ((((((((t127 ++ (⟨#[45]⟩ : ByteArray)) ++ t128) ++ (⟨#[45]⟩ : ByteArray)) ++ t129) ++ (⟨#[84]⟩ : ByteArray)) ++ t130) ++ (⟨#[58]⟩ : ByteArray)).size + t131.size ≤ 9223372036854775807) = true := decide_eq_true c20
                          try have c20b3 : (9223372036854775807 < t127.size + 1 + t128.size + 1 + t129.size + 1 + t130.size + 1 + t131.size) = False := eq_false (by have h_ := c20; (first | simp only [ByteArray.size_append, ByteArray.size_extract, Nat.min_self] at h_ | simp only [ByteArray.size_append] at h_); exact Nat.not_lt.2 h_)
                          try have c20b2 : (9223372036854775807 < (((((((t127 ++ (⟨#[45]⟩ : ByteArray)) ++ t128) ++ (⟨#[45]⟩ : ByteArray)) ++ t129) ++ (⟨#[84]⟩ : ByteArray)) ++ t130) ++ (⟨#[58]⟩ : ByteArray)).size + t131.size) = False := eq_false (Nat.not_lt.2 c20)
                          by_cases c21 : ((((((((t127 ++ (⟨#[45]⟩ : ByteArray)) ++ t128) ++ (⟨#[45]⟩ : ByteArray)) ++ t129) ++ (⟨#[84]⟩ : ByteArray)) ++ t130) ++ (⟨#[58]⟩ : ByteArray)) ++ t131).size + 1 ≤ 9223372036854775807
                          · rw [if_pos c21] at H
                            have c21b0 := eq_true c21
                            have c21b1 : decide (((((((((t127 ++ (⟨#[45]⟩ : ByteArray)) ++ t128) ++ (⟨#[45]⟩ : ByteArray)) ++ t129) ++ (⟨#[84]⟩ : ByteArray)) ++ t130) ++ (⟨#[58]⟩ : ByteArray)) ++ t131).size + 1 ≤ 9223372036854775807) = true := decide_eq_true c21
                            try have c21b3 : (9223372036854775807 < t127.size + 1 + t128.size + 1 + t129.size + 1 + t130.size + 1 + t131.size + 1) = False := eq_false (by have h_ := c21; (first | simp only [ByteArray.size_append, ByteArray.size_extract, Nat.min_self] at h_ | simp only [ByteArray.size_append] at h_); exact Nat.not_lt.2 h_)
                            try have c21b2 : (9223372036854775807 < ((((((((t127 ++ (⟨#[45]⟩ : ByteArray)) ++ t128) ++ (⟨#[45]⟩ : ByteArray)) ++ t129) ++ (⟨#[84]⟩ : ByteArray)) ++ t130) ++ (⟨#[58]⟩ : ByteArray)) ++ t131).size + 1) = False := eq_false (Nat.not_lt.2 c21)
                            replace H := Option.bind_eq_some_iff.mp H
                            obtain ⟨t132, A220, H⟩ := H
                            replace H : (if (((((((((t127 ++ (⟨#[45]⟩ : ByteArray)) ++ t128) ++ (⟨#[45]⟩ : ByteArray)) ++ t129) ++ (⟨#[84]⟩ : ByteArray)) ++ t130) ++ (⟨#[58]⟩ : ByteArray)) ++ t131) ++ (⟨#[58]⟩ : ByteArray)).size + t132.size ≤ 9223372036854775807 then (if ((((((((((t127 ++ (⟨#[45]⟩ : ByteArray)) ++ t128) ++ (⟨#[45]⟩ : ByteArray)) ++ t129) ++ (⟨#[84]⟩ : ByteArray)) ++ t130) ++ (⟨#[58]⟩ : ByteArray)) ++ t131) ++ (⟨#[58]⟩ : ByteArray)) ++ t132).size + 1 ≤ 9223372036854775807 then (some (((((((((((t127 ++ (⟨#[45]⟩ : ByteArray)) ++ t128) ++ (⟨#[45]⟩ : ByteArray)) ++ t129) ++ (⟨#[84]⟩ : ByteArray)) ++ t130) ++ (⟨#[58]⟩ : ByteArray)) ++ t131) ++ (⟨#[58]⟩ : ByteArray)) ++ t132) ++ (⟨#[90]⟩ : ByteArray), 0)) else (none)) else (none)) = some (r1, r2) := H
                            have A22 := Aside0.mk A220
                            clear A220
                            by_cases c23 : (((((((((t127 ++ (⟨#[45]⟩ : ByteArray)) ++ t128) ++ (⟨#[45]⟩ : ByteArray)) ++ t129) ++ (⟨#[84]⟩ : ByteArray)) ++ t130) ++ (⟨#[58]⟩ : ByteArray)) ++ t131) ++ (⟨#[58]⟩ : ByteArray)).size + t132.size ≤ 9223372036854775807
                            · rw [if_pos c23] at H
                              have c23b0 := eq_true c23
                              have c23b1 : decide ((((((((((t127 ++ (⟨#[45]⟩ : ByteArray)) ++ t128) ++ (⟨#[45]⟩ : ByteArray)) ++ t129) ++ (⟨#[84]⟩ : ByteArray)) ++ t130) ++ (⟨#[58]⟩ : ByteArray)) ++ t131) ++ (⟨#[58]⟩ : ByteArray)).size + t132.size ≤ 9223372036854775807) = true := decide_eq_true c23
                              try have c23b3 : (9223372036854775807 < t127.size + 1 + t128.size + 1 + t129.size + 1 + t130.size + 1 + t131.size + 1 + t132.size) = False := eq_false (by have h_ := c23; (first | simp only [ByteArray.size_append, ByteArray.size_extract, Nat.min_self] at h_ | simp only [ByteArray.size_append] at h_); exact Nat.not_lt.2 h_)
                              try have c23b2 : (9223372036854775807 < (((((((((t127 ++ (⟨#[45]⟩ : ByteArray)) ++ t128) ++ (⟨#[45]⟩ : ByteArray)) ++ t129) ++ (⟨#[84]⟩ : ByteArray)) ++ t130) ++ (⟨#[58]⟩ : ByteArray)) ++ t131) ++ (⟨#[58]⟩ : ByteArray)).size + t132.size) = False := eq_false (Nat.not_lt.2 c23)
                              by_cases c24 : ((((((((((t127 ++ (⟨#[45]⟩ : ByteArray)) ++ t128) ++ (⟨#[45]⟩ : ByteArray)) ++ t129) ++ (⟨#[84]⟩ : ByteArray)) ++ t130) ++ (⟨#[58]⟩ : ByteArray)) ++ t131) ++ (⟨#[58]⟩ : ByteArray)) ++ t132).size + 1 ≤ 9223372036854775807
                              · rw [if_pos c24] at H
                                have c24b0 := eq_true c24
                                have c24b1 : decide (((((((((((t127 ++ (⟨#[45]⟩ : ByteArray)) ++ t128) ++ (⟨#[45]⟩ : ByteArray)) ++ t129) ++ (⟨#[84]⟩ : ByteArray)) ++ t130) ++ (⟨#[58]⟩ : ByteArray)) ++ t131) ++ (⟨#[58]⟩ : ByteArray)) ++ t132).size + 1 ≤ 9223372036854775807) = true := decide_eq_true c24
                                try have c24b3 : (9223372036854775807 < t127.size + 1 + t128.size + 1 + t129.size + 1 + t130.size + 1 + t131.size + 1 + t132.size + 1) = False := eq_false (by have h_ := c24; (first | simp only [ByteArray.size_append, ByteArray.size_extract, Nat.min_self] at h_ | simp only [ByteArray.size_append] at h_); exact Nat.not_lt.2 h_)
                                try have c24b2 : (9223372036854775807 < ((((((((((t127 ++ (⟨#[45]⟩ : ByteArray)) ++ t128) ++ (⟨#[45]⟩ : ByteArray)) ++ t129) ++ (⟨#[84]⟩ : ByteArray)) ++ t130) ++ (⟨#[58]⟩ : ByteArray)) ++ t131) ++ (⟨#[58]⟩ : ByteArray)) ++ t132).size + 1) = False := eq_false (Nat.not_lt.2 c24)
                                simp only [Option.some.injEq, Prod.mk.injEq] at H
                                obtain ⟨rfl, rfl⟩ := H
                                go_wp2_with (first | ((with_reducible refine gate_callee (f := 48) rfl ?_); refine goesL_ (some 18) rfl rfl Tryd.func48 (by kernel_rfl) rfl #[.int .i64 a0] rfl (by (try simp only [List.map_toArray, List.map_cons, List.map_nil]); first | done | rfl | (simp only [List.length_drop, List.length_take]; rfl)) ?_; (with_reducible refine (motleyref27_day.calls a0 t121 t122 _ A5.out).mono ?_); rintro e w' ⟨rfl, ⟨nd, rfl⟩⟩; refine ⟨_, rfl, ?_⟩) | ((with_reducible refine gate_callee (f := 16) rfl ?_); refine goesL_ (some 23) rfl rfl Tryd.func16 (by kernel_rfl) rfl #[.int .i64 t121] rfl (by (try simp only [List.map_toArray, List.map_cons, List.map_nil]); first | done | rfl | (simp only [List.length_drop, List.length_take]; rfl)) ?_; (with_reducible refine (motleyref27_Date.calls kj1 t121 t123 t124 t125 t126 _ A6.out).mono ?_); rintro e w' ⟨rfl, ⟨nd, rfl⟩⟩; refine ⟨_, rfl, ?_⟩) | ((with_reducible refine gate_callee (f := 72) rfl ?_); refine goesL_ (some 32) rfl rfl Tryd.func72 (by kernel_rfl) rfl #[.int .i64 t123, .int .i64 4] rfl (by (try simp only [List.map_toArray, List.map_cons, List.map_nil]); first | done | rfl | (simp only [List.length_drop, List.length_take]; rfl)) ?_; (with_reducible refine (motleyref27_padded.calls kj1 t123 4 t127 _ A8.out).mono ?_); rintro e w' ⟨rfl, ⟨nd, rfl⟩⟩; refine ⟨_, rfl, ?_⟩) | ((with_reducible refine gate_callee (f := 72) rfl ?_); refine goesL_ (some 35) rfl rfl Tryd.func72 (by kernel_rfl) rfl #[.int .i64 t124, .int .i64 2] rfl (by (try simp only [List.map_toArray, List.map_cons, List.map_nil]); first | done | rfl | (simp only [List.length_drop, List.length_take]; rfl)) ?_; (with_reducible refine (motleyref27_padded.calls kj1 t124 2 t128 _ A10.out).mono ?_); rintro e w' ⟨rfl, ⟨nd, rfl⟩⟩; refine ⟨_, rfl, ?_⟩) | ((with_reducible refine gate_callee (f := 72) rfl ?_); refine goesL_ (some 39) rfl rfl Tryd.func72 (by kernel_rfl) rfl #[.int .i64 t125, .int .i64 2] rfl (by (try simp only [List.map_toArray, List.map_cons, List.map_nil]); first | done | rfl | (simp only [List.length_drop, List.length_take]; rfl)) ?_; (with_reducible refine (motleyref27_padded.calls kj1 t125 2 t129 _ A13.out).mono ?_); rintro e w' ⟨rfl, ⟨nd, rfl⟩⟩; refine ⟨_, rfl, ?_⟩) | ((with_reducible refine gate_callee (f := 72) rfl ?_); refine goesL_ (some 44) rfl rfl Tryd.func72 (by kernel_rfl) rfl #[.int .i64 (wrap64 (Int.tdiv t122 3600)), .int .i64 2] rfl (by (try simp only [List.map_toArray, List.map_cons, List.map_nil]); first | done | rfl | (simp only [List.length_drop, List.length_take]; rfl)) ?_; (with_reducible refine (motleyref27_padded.calls kj1 (wrap64 (Int.tdiv t122 3600)) 2 t130 _ A16.out).mono ?_); rintro e w' ⟨rfl, ⟨nd, rfl⟩⟩; refine ⟨_, rfl, ?_⟩) | ((with_reducible refine gate_callee (f := 72) rfl ?_); refine goesL_ (some 50) rfl rfl Tryd.func72 (by kernel_rfl) rfl #[.int .i64 (Int.tmod (wrap64 (Int.tdiv t122 60)) 60), .int .i64 2] rfl (by (try simp only [List.map_toArray, List.map_cons, List.map_nil]); first | done | rfl | (simp only [List.length_drop, List.length_take]; rfl)) ?_; (with_reducible refine (motleyref27_padded.calls kj1 (Int.tmod (wrap64 (Int.tdiv t122 60)) 60) 2 t131 _ A19.out).mono ?_); rintro e w' ⟨rfl, ⟨nd, rfl⟩⟩; refine ⟨_, rfl, ?_⟩) | ((with_reducible refine gate_callee (f := 72) rfl ?_); refine goesL_ (some 55) rfl rfl Tryd.func72 (by kernel_rfl) rfl #[.int .i64 (Int.tmod t122 60), .int .i64 2] rfl (by (try simp only [List.map_toArray, List.map_cons, List.map_nil]); first | done | rfl | (simp only [List.length_drop, List.length_take]; rfl)) ?_; (with_reducible refine (motleyref27_padded.calls kj1 (Int.tmod t122 60) 2 t132 _ A22.out).mono ?_); rintro e w' ⟨rfl, ⟨nd, rfl⟩⟩; refine ⟨_, rfl, ?_⟩))
                                go_ret2
                                exact ⟨by first | rfl | (simp; done) | (simp [*]; done) | (simp; generalize ByteArray.toList _ = l_; cases l_ <;> rfl), by repeat (first | exact Drawn0.refl _ | apply Drawn0.step)⟩
                              · rw [if_neg c24] at H
                                exact absurd H (by simp)
                            · rw [if_neg c23] at H
                              exact absurd H (by simp)
                          · rw [if_neg c21] at H
                            exact absurd H (by simp)
                        · rw [if_neg c20] at H
                          exact absurd H (by simp)
                      · rw [if_neg c18] at H
                        exact absurd H (by simp)
                    · rw [if_neg c17] at H
                      exact absurd H (by simp)
                  · rw [if_neg c15] at H
                    exact absurd H (by simp)
                · rw [if_neg c14] at H
                  exact absurd H (by simp)
              · rw [if_neg c12] at H
                exact absurd H (by simp)
            · rw [if_neg c11] at H
              exact absurd H (by simp)
          · rw [if_neg c9] at H
            exact absurd H (by simp)
        · rw [if_neg c7] at H
          have c7b0 : (t126 == 0) = false := beq_eq_false_iff_ne.mpr c7
          have c7b1 : (t126 != 0) = true := bne_iff_ne.mpr c7
          simp only [Option.some.injEq, Prod.mk.injEq] at H
          obtain ⟨rfl, rfl⟩ := H
          go_wp2_with (first | ((with_reducible refine gate_callee (f := 48) rfl ?_); refine goesL_ (some 18) rfl rfl Tryd.func48 (by kernel_rfl) rfl #[.int .i64 a0] rfl (by (try simp only [List.map_toArray, List.map_cons, List.map_nil]); first | done | rfl | (simp only [List.length_drop, List.length_take]; rfl)) ?_; (with_reducible refine (motleyref27_day.calls a0 t121 t122 _ A5.out).mono ?_); rintro e w' ⟨rfl, ⟨nd, rfl⟩⟩; refine ⟨_, rfl, ?_⟩) | ((with_reducible refine gate_callee (f := 16) rfl ?_); refine goesL_ (some 23) rfl rfl Tryd.func16 (by kernel_rfl) rfl #[.int .i64 t121] rfl (by (try simp only [List.map_toArray, List.map_cons, List.map_nil]); first | done | rfl | (simp only [List.length_drop, List.length_take]; rfl)) ?_; (with_reducible refine (motleyref27_Date.calls kj1 t121 t123 t124 t125 t126 _ A6.out).mono ?_); rintro e w' ⟨rfl, ⟨nd, rfl⟩⟩; refine ⟨_, rfl, ?_⟩))
          go_ret2
          exact ⟨by first | rfl | (simp; done) | (simp [*]; done) | (simp; generalize ByteArray.toList _ = l_; cases l_ <;> rfl), by repeat (first | exact Drawn0.refl _ | apply Drawn0.step)⟩

end Go.Proofs.YtallfkecjibpmaaDoor.M
