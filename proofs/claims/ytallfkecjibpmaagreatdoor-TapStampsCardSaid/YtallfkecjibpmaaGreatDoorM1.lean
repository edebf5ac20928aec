/- What the Go functions of this seat give, as Lean functions, and that each call comes to it. Written by the session's own program (wip/tools/mprint.py). -/
import Derived.Test.YtallfkecjibpmaaGreatDoorM0
namespace Go.Proofs.YtallfkecjibpmaaGreatDoor.M
open Go.RowKit Go.Proofs.YtallfkecjibpmaaGreatDoor.G Go.Proofs.YtallfkecjibpmaaGreatDoorW.PrintWords Go.Proofs.YtallfkecjibpmaaGreatDoorW.PrintLast Go.Proofs.YtallfkecjibpmaaGreatDoorW.PrintMore
attribute [local go_sem] max2_int min2_int max_two min_two max_three min_three max_four min_four   -- for this text's walks alone
set_option linter.unusedVariables false
set_option linter.unusedSimpArgs false

/-! ### tap_isLeap: function 61 -/
def tap_isLeap.f (a0 : Int) : Option (Bool) := if (Int.tmod a0 4) = 0 then (if (Int.tmod a0 100) = 0 then (some ((Int.tmod a0 400) == 0)) else (some true)) else (some false)
set_option maxHeartbeats 8000000 in
set_option maxRecDepth 100000 in
theorem tap_isLeap.calls (a0 : Int) (r : Bool) (w : World) (h : tap_isLeap.f a0 = some r) :
    Calls Tryz.prog 61 #[.int .i64 a0] w fun e w' => e = .returned (.bool r) ∧ Drawn0 w w' := by
  have H : (if (Int.tmod a0 4) = 0 then (if (Int.tmod a0 100) = 0 then (some ((Int.tmod a0 400) == 0)) else (some true)) else (some false)) = some r := h
  clear h
  by_cases c2 : (Int.tmod a0 4) = 0
  · rw [if_pos c2] at H
    have c2b0 : ((Int.tmod a0 4) == 0) = true := beq_iff_eq.mpr c2
    have c2b1 : ((Int.tmod a0 4) != 0) = false := bne_eq_false_iff_eq.mpr c2
    clear c2
    by_cases c3 : (Int.tmod a0 100) = 0
    · rw [if_pos c3] at H
      have c3b0 : ((Int.tmod a0 100) == 0) = true := beq_iff_eq.mpr c3
      have c3b1 : ((Int.tmod a0 100) != 0) = false := bne_eq_false_iff_eq.mpr c3
      clear c3
      obtain rfl := Option.some.inj H
      go_enter Tryz.func61, Tryz.ntmps61
      go_wp2
      go_ret
      exact ⟨by first | rfl | (simp; done) | (simp [*]; done) | (simp; generalize ByteArray.toList _ = l_; cases l_ <;> rfl), by repeat (first | exact Drawn0.refl _ | apply Drawn0.step)⟩
    · rw [if_neg c3] at H
      have c3b0 : ((Int.tmod a0 100) == 0) = false := beq_eq_false_iff_ne.mpr c3
      have c3b1 : ((Int.tmod a0 100) != 0) = true := bne_iff_ne.mpr c3
      obtain rfl := Option.some.inj H
      go_enter Tryz.func61, Tryz.ntmps61
      go_wp2
      go_ret
      exact ⟨by first | rfl | (simp; done) | (simp [*]; done) | (simp; generalize ByteArray.toList _ = l_; cases l_ <;> rfl), by repeat (first | exact Drawn0.refl _ | apply Drawn0.step)⟩
  · rw [if_neg c2] at H
    have c2b0 : ((Int.tmod a0 4) == 0) = false := beq_eq_false_iff_ne.mpr c2
    have c2b1 : ((Int.tmod a0 4) != 0) = true := bne_iff_ne.mpr c2
    obtain rfl := Option.some.inj H
    go_enter Tryz.func61, Tryz.ntmps61
    go_wp2
    go_ret
    exact ⟨by first | rfl | (simp; done) | (simp [*]; done) | (simp; generalize ByteArray.toList _ = l_; cases l_ <;> rfl), by repeat (first | exact Drawn0.refl _ | apply Drawn0.step)⟩

/-! ### tap_before: function 38 -/
def tap_before.f (a0 : Int) : Option (Int) := some (wrap64 ((wrap64 ((wrap64 ((wrap64 (365 * (wrap64 (a0 - 1)))) + (wrap64 (Int.tdiv (wrap64 (a0 - 1)) 4)))) - (wrap64 (Int.tdiv (wrap64 (a0 - 1)) 100)))) + (wrap64 (Int.tdiv (wrap64 (a0 - 1)) 400))))
set_option maxHeartbeats 8000000 in
set_option maxRecDepth 100000 in
theorem tap_before.calls (a0 : Int) (r : Int) (w : World) (h : tap_before.f a0 = some r) :
    Calls Tryz.prog 38 #[.int .i64 a0] w fun e w' => e = .returned (.int .i64 r) ∧ Drawn0 w w' := by
  have H : (some (wrap64 ((wrap64 ((wrap64 ((wrap64 (365 * (wrap64 (a0 - 1)))) + (wrap64 (Int.tdiv (wrap64 (a0 - 1)) 4)))) - (wrap64 (Int.tdiv (wrap64 (a0 - 1)) 100)))) + (wrap64 (Int.tdiv (wrap64 (a0 - 1)) 400))))) = some r := h
  clear h
  obtain rfl := Option.some.inj H
  go_enter Tryz.func38, Tryz.ntmps38
  go_wp2
  go_ret
  exact ⟨by first | rfl | (simp; done) | (simp [*]; done) | (simp; generalize ByteArray.toList _ = l_; cases l_ <;> rfl), by repeat (first | exact Drawn0.refl _ | apply Drawn0.step)⟩

/-! ### tap_epoch: function 39 -/
def tap_epoch.f  : Option (Int) := (tap_before.f 1970).bind fun t101 => (some t101)
set_option maxHeartbeats 8000000 in
set_option maxRecDepth 100000 in
theorem tap_epoch.calls  (r : Int) (w : World) (h : tap_epoch.f  = some r) :
    Calls Tryz.prog 39 #[] w fun e w' => e = .returned (.int .i64 r) ∧ Drawn0 w w' := by
  have H : ((tap_before.f 1970).bind fun t101 => (some t101)) = some r := h
  clear h
  replace H := Option.bind_eq_some_iff.mp H
  obtain ⟨t101, A10, H⟩ := H
  replace H : (some t101) = some r := H
  have A1 := Aside0.mk A10
  clear A10
  obtain rfl := Option.some.inj H
  go_enter Tryz.func39, Tryz.ntmps39
  go_wp2_with (first | ((with_reducible refine gate_callee (f := 38) rfl ?_); refine goesL_ (some 1) rfl rfl Tryz.func38 (by kernel_rfl) rfl #[.int .i64 1970] rfl (by (try simp only [List.map_toArray, List.map_cons, List.map_nil]); first | done | rfl | (simp only [List.length_drop, List.length_take]; rfl)) ?_; (with_reducible refine (tap_before.calls 1970 t101 _ A1.out).mono ?_); rintro e w' ⟨rfl, ⟨nd, rfl⟩⟩; refine ⟨_, rfl, ?_⟩))
  go_ret
  exact ⟨by first | rfl | (simp; done) | (simp [*]; done) | (simp; generalize ByteArray.toList _ = l_; cases l_ <;> rfl), by repeat (first | exact Drawn0.refl _ | apply Drawn0.step)⟩

/-! ### tap_Easter: function 22 -/
def tap_Easter.f (a0 : Int) : Option (Int × Int × Int) := if a0 < 1583 then (some (0, 0, 1)) else (if a0 > 9999 then (some (0, 0, 1)) else (some (wrap64 (Int.tdiv (wrap64 ((wrap64 ((wrap64 ((Int.tmod (wrap64 ((wrap64 ((wrap64 ((wrap64 ((wrap64 (19 * (Int.tmod a0 19))) + (wrap64 (Int.tdiv a0 100)))) - (wrap64 (Int.tdiv (wrap64 (Int.tdiv a0 100)) 4)))) - (wrap64 (Int.tdiv (wrap64 ((wrap64 ((wrap64 (Int.tdiv a0 100)) - (wrap64 (Int.tdiv (wrap64 ((wrap64 (Int.tdiv a0 100)) + 8)) 25)))) + 1)) 3)))) + 15)) 30) + (Int.tmod (wrap64 ((wrap64 ((wrap64 ((wrap64 (32 + (wrap64 (2 * (Int.tmod (wrap64 (Int.tdiv a0 100)) 4))))) + (wrap64 (2 * (wrap64 (Int.tdiv (Int.tmod a0 100) 4)))))) - (Int.tmod (wrap64 ((wrap64 ((wrap64 ((wrap64 ((wrap64 (19 * (Int.tmod a0 19))) + (wrap64 (Int.tdiv a0 100)))) - (wrap64 (Int.tdiv (wrap64 (Int.tdiv a0 100)) 4)))) - (wrap64 (Int.tdiv (wrap64 ((wrap64 ((wrap64 (Int.tdiv a0 100)) - (wrap64 (Int.tdiv (wrap64 ((wrap64 (Int.tdiv a0 100)) + 8)) 25)))) + 1)) 3)))) + 15)) 30))) - (Int.tmod (Int.tmod a0 100) 4))) 7))) - (wrap64 (7 * (wrap64 (Int.tdiv (wrap64 ((wrap64 ((Int.tmod a0 19) + (wrap64 (11 * (Int.tmod (wrap64 ((wrap64 ((wrap64 ((wrap64 ((wrap64 (19 * (Int.tmod a0 19))) + (wrap64 (Int.tdiv a0 100)))) - (wrap64 (Int.tdiv (wrap64 (Int.tdiv a0 100)) 4)))) - (wrap64 (Int.tdiv (wrap64 ((wrap64 ((wrap64 (Int.tdiv a0 100)) - (wrap64 (Int.tdiv (wrap64 ((wrap64 (Int.tdiv a0 100)) + 8)) 25)))) + 1)) 3)))) + 15)) 30))))) + (wrap64 (22 * (Int.tmod (wrap64 ((wrap64 ((wrap64 ((wrap64 (32 + (wrap64 (2 * (Int.tmod (wrap64 (Int.tdiv a0 100)) 4))))) + (wrap64 (2 * (wrap64 (Int.tdiv (Int.tmod a0 100) 4)))))) - (Int.tmod (wrap64 ((wrap64 ((wrap64 ((wrap64 ((wrap64 (19 * (Int.tmod a0 19))) + (wrap64 (Int.tdiv a0 100)))) - (wrap64 (Int.tdiv (wrap64 (Int.tdiv a0 100)) 4)))) - (wrap64 (Int.tdiv (wrap64 ((wrap64 ((wrap64 (Int.tdiv a0 100)) - (wrap64 (Int.tdiv (wrap64 ((wrap64 (Int.tdiv a0 100)) + 8)) 25)))) + 1)) 3)))) + 15)) 30))) - (Int.tmod (Int.tmod a0 100) 4))) 7))))) 451)))))) + 114)) 31), wrap64 ((Int.tmod (wrap64 ((wrap64 ((wrap64 ((Int.tmod (wrap64 ((wrap64 ((wrap64 ((wrap64 ((wrap64 (19 * (Int.tmod a0 19))) + (wrap64 (Int.tdiv a0 100)))) - (wrap64 (Int.tdiv (wrap64 (Int.tdiv a0 100)) 4)))) - (wrap64 (Int.tdiv (wrap64 ((wrap64 ((wrap64 (Int.tdiv a0 100)) - (wrap64 (Int.tdiv (wrap64 ((wrap64 (Int.tdiv a0 100)) + 8)) 25)))) + 1)) 3)))) + 15)) 30) + (Int.tmod (wrap64 ((wrap64 ((wrap64 ((wrap64 (32 + (wrap64 (2 * (Int.tmod (wrap64 (Int.tdiv a0 100)) 4))))) + (wrap64 (2 * (wrap64 (Int.tdiv (Int.tmod a0 100) 4)))))) - (Int.tmod (wrap64 ((wrap64 ((wrap64 ((wrap64 ((wrap64 (19 * (Int.tmod a0 19))) + (wrap64 (Int.tdiv a0 100)))) - (wrap64 (Int.tdiv (wrap64 (Int.tdiv a0 100)) 4)))) - (wrap64 (Int.tdiv (wrap64 ((wrap64 ((wrap64 (Int.tdiv a0 100)) - (wrap64 (Int.tdiv (wrap64 ((wrap64 (Int.tdiv a0 100)) + 8)) 25)))) + 1)) 3)))) + 15)) 30))) - (Int.tmod (Int.tmod a0 100) 4))) 7))) - (wrap64 (7 * (wrap64 (Int.tdiv (wrap64 ((wrap64 ((Int.tmod a0 19) + (wrap64 (11 * (Int.tmod (wrap64 ((wrap64 ((wrap64 ((wrap64 ((wrap64 (19 * (Int.tmod a0 19))) + (wrap64 (Int.tdiv a0 100)))) - (wrap64 (Int.tdiv (wrap64 (Int.tdiv a0 100)) 4)))) - (wrap64 (Int.tdiv (wrap64 ((wrap64 ((wrap64 (Int.tdiv a0 100)) - (wrap64 (Int.tdiv (wrap64 ((wrap64 (Int.tdiv a0 100)) + 8)) 25)))) + 1)) 3)))) + 15)) 30))))) + (wrap64 (22 * (Int.tmod (wrap64 ((wrap64 ((wrap64 ((wrap64 (32 + (wrap64 (2 * (Int.tmod (wrap64 (Int.tdiv a0 100)) 4))))) + (wrap64 (2 * (wrap64 (Int.tdiv (Int.tmod a0 100) 4)))))) - (Int.tmod (wrap64 ((wrap64 ((wrap64 ((wrap64 ((wrap64 (19 * (Int.tmod a0 19))) + (wrap64 (Int.tdiv a0 100)))) - (wrap64 (Int.tdiv (wrap64 (Int.tdiv a0 100)) 4)))) - (wrap64 (Int.tdiv (wrap64 ((wrap64 ((wrap64 (Int.tdiv a0 100)) - (wrap64 (Int.tdiv (wrap64 ((wrap64 (Int.tdiv a0 100)) + 8)) 25)))) + 1)) 3)))) + 15)) 30))) - (Int.tmod (Int.tmod a0 100) 4))) 7))))) 451)))))) + 114)) 31) + 1), 0)))
set_option maxHeartbeats 8000000 in
set_option maxRecDepth 100000 in
theorem tap_Easter.calls (a0 : Int) (r1 : Int) (r2 : Int) (r3 : Int) (w : World) (h : tap_Easter.f a0 = some (r1, r2, r3)) :
    Calls Tryz.prog 22 #[.int .i64 a0] w fun e w' => e = .returned (.tuple #[.int .i64 r1, .int .i64 r2, .int .i64 r3]) ∧ Drawn0 w w' := by
  have H : (if a0 < 1583 then (some (0, 0, 1)) else (if a0 > 9999 then (some (0, 0, 1)) else (some (wrap64 (Int.tdiv (wrap64 ((wrap64 ((wrap64 ((Int.tmod (wrap64 ((wrap64 ((wrap64 ((wrap64 ((wrap64 (19 * (Int.tmod a0 19))) + (wrap64 (Int.tdiv a0 100)))) - (wrap64 (Int.tdiv (wrap64 (Int.tdiv a0 100)) 4)))) - (wrap64 (Int.tdiv (wrap64 ((wrap64 ((wrap64 (Int.tdiv a0 100)) - (wrap64 (Int.tdiv (wrap64 ((wrap64 (Int.tdiv a0 100)) + 8)) 25)))) + 1)) 3)))) + 15)) 30) + (Int.tmod (wrap64 ((wrap64 ((wrap64 ((wrap64 (32 + (wrap64 (2 * (Int.tmod (wrap64 (Int.tdiv a0 100)) 4))))) + (wrap64 (2 * (wrap64 (Int.tdiv (Int.tmod a0 100) 4)))))) - (Int.tmod (wrap64 ((wrap64 ((wrap64 ((wrap64 ((wrap64 (19 * (Int.tmod a0 19))) + (wrap64 (Int.tdiv a0 100)))) - (wrap64 (Int.tdiv (wrap64 (Int.tdiv a0 100)) 4)))) - (wrap64 (Int.tdiv (wrap64 ((wrap64 ((wrap64 (Int.tdiv a0 100)) - (wrap64 (Int.tdiv (wrap64 ((wrap64 (Int.tdiv a0 100)) + 8)) 25)))) + 1)) 3)))) + 15)) 30))) - (Int.tmod (Int.tmod a0 100) 4))) 7))) - (wrap64 (7 * (wrap64 (Int.tdiv (wrap64 ((wrap64 ((Int.tmod a0 19) + (wrap64 (11 * (Int.tmod (wrap64 ((wrap64 ((wrap64 ((wrap64 ((wrap64 (19 * (Int.tmod a0 19))) + (wrap64 (Int.tdiv a0 100)))) - (wrap64 (Int.tdiv (wrap64 (Int.tdiv a0 100)) 4)))) - (wrap64 (Int.tdiv (wrap64 ((wrap64 ((wrap64 (Int.tdiv a0 100)) - (wrap64 (Int.tdiv (wrap64 ((wrap64 (Int.tdiv a0 100)) + 8)) 25)))) + 1)) 3)))) + 15)) 30))))) + (wrap64 (22 * (Int.tmod (wrap64 ((wrap64 ((wrap64 ((wrap64 (32 + (wrap64 (2 * (Int.tmod (wrap64 (Int.tdiv a0 100)) 4))))) + (wrap64 (2 * (wrap64 (Int.tdiv (Int.tmod a0 100) 4)))))) - (Int.tmod (wrap64 ((wrap64 ((wrap64 ((wrap64 ((wrap64 (19 * (Int.tmod a0 19))) + (wrap64 (Int.tdiv a0 100)))) - (wrap64 (Int.tdiv (wrap64 (Int.tdiv a0 100)) 4)))) - (wrap64 (Int.tdiv (wrap64 ((wrap64 ((wrap64 (Int.tdiv a0 100)) - (wrap64 (Int.tdiv (wrap64 ((wrap64 (Int.tdiv a0 100)) + 8)) 25)))) + 1)) 3)))) + 15)) 30))) - (Int.tmod (Int.tmod a0 100) 4))) 7))))) 451)))))) + 114)) 31), wrap64 ((Int.tmod (wrap64 ((wrap64 ((wrap64 ((Int.tmod (wrap64 ((wrap64 ((wrap64 ((wrap64 ((wrap64 (19 * (Int.tmod a0 19))) + (wrap64 (Int.tdiv a0 100)))) - (wrap64 (Int.tdiv (wrap64 (Int.tdiv a0 100)) 4)))) - (wrap64 (Int.tdiv (wrap64 ((wrap64 ((wrap64 (Int.tdiv a0 100)) - (wrap64 (Int.tdiv (wrap64 ((wrap64 (Int.tdiv a0 100)) + 8)) 25)))) + 1)) 3)))) + 15)) 30) + (Int.tmod (wrap64 ((wrap64 ((wrap64 ((wrap64 (32 + (wrap64 (2 * (Int.tmod (wrap64 (Int.tdiv a0 100)) 4))))) + (wrap64 (2 * (wrap64 (Int.tdiv (Int.tmod a0 100) 4)))))) - (Int.tmod (wrap64 ((wrap64 ((wrap64 ((wrap64 ((wrap64 (19 * (Int.tmod a0 19))) + (wrap64 (Int.tdiv a0 100)))) - (wrap64 (Int.tdiv (wrap64 (Int.tdiv a0 100)) 4)))) - (wrap64 (Int.tdiv (wrap64 ((wrap64 ((wrap64 (Int.tdiv a0 100)) - (wrap64 (Int.tdiv (wrap64 ((wrap64 (Int.tdiv a0 100)) + 8)) 25)))) + 1)) 3)))) + 15)) 30))) - (Int.tmod (Int.tmod a0 100) 4))) 7))) - (wrap64 (7 * (wrap64 (Int.tdiv (wrap64 ((wrap64 ((Int.tmod a0 19) + (wrap64 (11 * (Int.tmod (wrap64 ((wrap64 ((wrap64 ((wrap64 ((wrap64 (19 * (Int.tmod a0 19))) + (wrap64 (Int.tdiv a0 100)))) - (wrap64 (Int.tdiv (wrap64 (Int.tdiv a0 100)) 4)))) - (wrap64 (Int.tdiv (wrap64 ((wrap64 ((wrap64 (Int.tdiv a0 100)) - (wrap64 (Int.tdiv (wrap64 ((wrap64 (Int.tdiv a0 100)) + 8)) 25)))) + 1)) 3)))) + 15)) 30))))) + (wrap64 (22 * (Int.tmod (wrap64 ((wrap64 ((wrap64 ((wrap64 (32 + (wrap64 (2 * (Int.tmod (wrap64 (Int.tdiv a0 100)) 4))))) + (wrap64 (2 * (wrap64 (Int.tdiv (Int.tmod a0 100) 4)))))) - (Int.tmod (wrap64 ((wrap64 ((wrap64 ((wrap64 ((wrap64 (19 * (Int.tmod a0 19))) + (wrap64 (Int.tdiv a0 100)))) - (wrap64 (Int.tdiv (wrap64 (Int.tdiv a0 100)) 4)))) - (wrap64 (Int.tdiv (wrap64 ((wrap64 ((wrap64 (Int.tdiv a0 100)) - (wrap64 (Int.tdiv (wrap64 ((wrap64 (Int.tdiv a0 100)) + 8)) 25)))) + 1)) 3)))) + 15)) 30))) - (Int.tmod (Int.tmod a0 100) 4))) 7))))) 451)))))) + 114)) 31) + 1), 0)))) = some (r1, r2, r3) := h
  clear h
  by_cases c2 : a0 < 1583
  · rw [if_pos c2] at H
    have c2b0 : decide (a0 < 1583) = true := decide_eq_true c2
    clear c2
    simp only [Option.some.injEq, Prod.mk.injEq] at H
    obtain ⟨rfl, rfl, rfl⟩ := H
    go_enter Tryz.func22, Tryz.ntmps22
    go_wp2
    go_ret3
    exact ⟨by first | rfl | (simp; done) | (simp [*]; done) | (simp; generalize ByteArray.toList _ = l_; cases l_ <;> rfl), by repeat (first | exact Drawn0.refl _ | apply Drawn0.step)⟩
  · rw [if_neg c2] at H
    have c2b0 : decide (a0 < 1583) = false := decide_eq_false c2
    clear c2
    by_cases c3 : a0 > 9999
    · rw [if_pos c3] at H
      have c3b0 : decide (9999 < a0) = true := decide_eq_true c3
      clear c3
      simp only [Option.some.injEq, Prod.mk.injEq] at H
      obtain ⟨rfl, rfl, rfl⟩ := H
      go_enter Tryz.func22, Tryz.ntmps22
      go_wp2
      go_ret3
      exact ⟨by first | rfl | (simp; done) | (simp [*]; done) | (simp; generalize ByteArray.toList _ = l_; cases l_ <;> rfl), by repeat (first | exact Drawn0.refl _ | apply Drawn0.step)⟩
    · rw [if_neg c3] at H
      have c3b0 : decide (9999 < a0) = false := decide_eq_false c3
      clear c3
      simp only [Option.some.injEq, Prod.mk.injEq] at H
      obtain ⟨rfl, rfl, rfl⟩ := H
      go_enter Tryz.func22, Tryz.ntmps22
      go_wp2
      go_ret3
      exact ⟨by first | rfl | (simp; done) | (simp [*]; done) | (simp; generalize ByteArray.toList _ = l_; cases l_ <;> rfl), by repeat (first | exact Drawn0.refl _ | apply Drawn0.step)⟩

/-! ### motleyref27_modulo: function 51 -/
def motleyref27_modulo.f (a0 : Int) (a1 : Int) : Option (Int) := if a1 = 0 then (none) else (some (Int.tmod (wrap64 ((Int.tmod a0 a1) + a1)) a1))
set_option maxHeartbeats 8000000 in
set_option maxRecDepth 100000 in
theorem motleyref27_modulo.calls (a0 : Int) (a1 : Int) (r : Int) (w : World) (h : motleyref27_modulo.f a0 a1 = some r) :
    Calls Tryz.prog 51 #[.int .i64 a0, .int .i64 a1] w fun e w' => e = .returned (.int .i64 r) ∧ Drawn0 w w' := by
  have H : (if a1 = 0 then (none) else (some (Int.tmod (wrap64 ((Int.tmod a0 a1) + a1)) a1))) = some r := h
  clear h
  by_cases c3 : a1 = 0
  · rw [if_pos c3] at H
    exact absurd H (by simp)
  · rw [if_neg c3] at H
    have c3b0 : (a1 == 0) = false := beq_eq_false_iff_ne.mpr c3
    have c3b1 : (a1 != 0) = true := bne_iff_ne.mpr c3
    obtain rfl := Option.some.inj H
    go_enter Tryz.func51, Tryz.ntmps51
    go_wp2
    go_ret
    exact ⟨by first | rfl | (simp; done) | (simp [*]; done) | (simp; generalize ByteArray.toList _ = l_; cases l_ <;> rfl), by repeat (first | exact Drawn0.refl _ | apply Drawn0.step)⟩

/-! ### motleyref27_day: function 28 -/
def motleyref27_day.f (a0 : Int) : Option (Int × Int) := (motleyref27_modulo.f a0 86400).bind fun t102 => (some (wrap64 (Int.tdiv (wrap64 (a0 - t102)) 86400), t102))
set_option maxHeartbeats 8000000 in
set_option maxRecDepth 100000 in
theorem motleyref27_day.calls (a0 : Int) (r1 : Int) (r2 : Int) (w : World) (h : motleyref27_day.f a0 = some (r1, r2)) :
    Calls Tryz.prog 28 #[.int .i64 a0] w fun e w' => e = .returned (.tuple #[.int .i64 r1, .int .i64 r2]) ∧ Drawn0 w w' := by
  have H : ((motleyref27_modulo.f a0 86400).bind fun t102 => (some (wrap64 (Int.tdiv (wrap64 (a0 - t102)) 86400), t102))) = some (r1, r2) := h
  clear h
  replace H := Option.bind_eq_some_iff.mp H
  obtain ⟨t102, A20, H⟩ := H
  replace H : (some (wrap64 (Int.tdiv (wrap64 (a0 - t102)) 86400), t102)) = some (r1, r2) := H
  have A2 := Aside0.mk A20
  clear A20
  simp only [Option.some.injEq, Prod.mk.injEq] at H
  obtain ⟨rfl, rfl⟩ := H
  go_enter Tryz.func28, Tryz.ntmps28
  go_wp2_with (first | ((with_reducible refine gate_callee (f := 51) rfl ?_); refine goesL_ (some 6) rfl rfl Tryz.func51 (by kernel_rfl) rfl #[.int .i64 a0, .int .i64 86400] rfl (by (try simp only [List.map_toArray, List.map_cons, List.map_nil]); first | done | rfl | (simp only [List.length_drop, List.length_take]; rfl)) ?_; (with_reducible refine (motleyref27_modulo.calls a0 86400 t102 _ A2.out).mono ?_); rintro e w' ⟨rfl, ⟨nd, rfl⟩⟩; refine ⟨_, rfl, ?_⟩))
  go_ret2
  exact ⟨by first | rfl | (simp; done) | (simp [*]; done) | (simp; generalize ByteArray.toList _ = l_; cases l_ <;> rfl), by repeat (first | exact Drawn0.refl _ | apply Drawn0.step)⟩

/-! ### motleyref27_leap: function 95 -/
def motleyref27_leap.f (a0 : Int) : Option (Bool) := if (Int.tmod a0 4) = 0 then (if (Int.tmod a0 100) = 0 then (some ((Int.tmod a0 400) == 0)) else (some true)) else (some false)
set_option maxHeartbeats 8000000 in
set_option maxRecDepth 100000 in
theorem motleyref27_leap.calls (a0 : Int) (r : Bool) (w : World) (h : motleyref27_leap.f a0 = some r) :
    Calls Tryz.prog 95 #[.int .i64 a0] w fun e w' => e = .returned (.bool r) ∧ Drawn0 w w' := by
  have H : (if (Int.tmod a0 4) = 0 then (if (Int.tmod a0 100) = 0 then (some ((Int.tmod a0 400) == 0)) else (some true)) else (some false)) = some r := h
  clear h
  by_cases c2 : (Int.tmod a0 4) = 0
  · rw [if_pos c2] at H
    have c2b0 : ((Int.tmod a0 4) == 0) = true := beq_iff_eq.mpr c2
    have c2b1 : ((Int.tmod a0 4) != 0) = false := bne_eq_false_iff_eq.mpr c2
    clear c2
    by_cases c3 : (Int.tmod a0 100) = 0
    · rw [if_pos c3] at H
      have c3b0 : ((Int.tmod a0 100) == 0) = true := beq_iff_eq.mpr c3
      have c3b1 : ((Int.tmod a0 100) != 0) = false := bne_eq_false_iff_eq.mpr c3
      clear c3
      obtain rfl := Option.some.inj H
      go_enter Tryz.func95, Tryz.ntmps95
      go_wp2
      go_ret
      exact ⟨by first | rfl | (simp; done) | (simp [*]; done) | (simp; generalize ByteArray.toList _ = l_; cases l_ <;> rfl), by repeat (first | exact Drawn0.refl _ | apply Drawn0.step)⟩
    · rw [if_neg c3] at H
      have c3b0 : ((Int.tmod a0 100) == 0) = false := beq_eq_false_iff_ne.mpr c3
      have c3b1 : ((Int.tmod a0 100) != 0) = true := bne_iff_ne.mpr c3
      obtain rfl := Option.some.inj H
      go_enter Tryz.func95, Tryz.ntmps95
      go_wp2
      go_ret
      exact ⟨by first | rfl | (simp; done) | (simp [*]; done) | (simp; generalize ByteArray.toList _ = l_; cases l_ <;> rfl), by repeat (first | exact Drawn0.refl _ | apply Drawn0.step)⟩
  · rw [if_neg c2] at H
    have c2b0 : ((Int.tmod a0 4) == 0) = false := beq_eq_false_iff_ne.mpr c2
    have c2b1 : ((Int.tmod a0 4) != 0) = true := bne_iff_ne.mpr c2
    obtain rfl := Option.some.inj H
    go_enter Tryz.func95, Tryz.ntmps95
    go_wp2
    go_ret
    exact ⟨by first | rfl | (simp; done) | (simp [*]; done) | (simp; generalize ByteArray.toList _ = l_; cases l_ <;> rfl), by repeat (first | exact Drawn0.refl _ | apply Drawn0.step)⟩

/-! ### motleyref27_length: function 72 -/
def motleyref27_length.f (a0 : Int) (a1 : Int) : Option (Int) := if a1 = 2 then ((motleyref27_leap.f a0).bind fun t103 => (if t103 = true then (some 29) else (some 28))) else (if a1 = 4 then (some 30) else (if a1 = 6 then (some 30) else (if a1 = 9 then (some 30) else (if a1 = 11 then (some 30) else (some 31)))))
set_option maxHeartbeats 8000000 in
set_option maxRecDepth 100000 in
theorem motleyref27_length.calls (a0 : Int) (a1 : Int) (r : Int) (w : World) (h : motleyref27_length.f a0 a1 = some r) :
    Calls Tryz.prog 72 #[.int .i64 a0, .int .i64 a1] w fun e w' => e = .returned (.int .i64 r) ∧ Drawn0 w w' := by
  have H : (if a1 = 2 then ((motleyref27_leap.f a0).bind fun t103 => (if t103 = true then (some 29) else (some 28))) else (if a1 = 4 then (some 30) else (if a1 = 6 then (some 30) else (if a1 = 9 then (some 30) else (if a1 = 11 then (some 30) else (some 31)))))) = some r := h
  clear h
  by_cases c3 : a1 = 2
  · rw [if_pos c3] at H
    have c3b0 : (a1 == 2) = true := beq_iff_eq.mpr c3
    have c3b1 : (a1 != 2) = false := bne_eq_false_iff_eq.mpr c3
    clear c3
    replace H := Option.bind_eq_some_iff.mp H
    obtain ⟨t103, A40, H⟩ := H
    replace H : (if t103 = true then (some 29) else (some 28)) = some r := H
    have A4 := Aside0.mk A40
    clear A40
    by_cases c5 : t103 = true
    · subst c5
      have H1 : (some 29) = some r := by rw [if_pos rfl] at H; exact H
      clear H
      have H := H1
      clear H1
      obtain rfl := Option.some.inj H
      go_enter Tryz.func72, Tryz.ntmps72
      go_wp2_with (first | ((with_reducible refine gate_callee (f := 95) rfl ?_); refine goesL_ (some 9) rfl rfl Tryz.func95 (by kernel_rfl) rfl #[.int .i64 a0] rfl (by (try simp only [List.map_toArray, List.map_cons, List.map_nil]); first | done | rfl | (simp only [List.length_drop, List.length_take]; rfl)) ?_; (with_reducible refine (motleyref27_leap.calls a0 true _ A4.out).mono ?_); rintro e w' ⟨rfl, ⟨nd, rfl⟩⟩; refine ⟨_, rfl, ?_⟩))
      go_ret
      exact ⟨by first | rfl | (simp; done) | (simp [*]; done) | (simp; generalize ByteArray.toList _ = l_; cases l_ <;> rfl), by repeat (first | exact Drawn0.refl _ | apply Drawn0.step)⟩
    · replace c5 := Bool.eq_false_iff.mpr c5
      subst c5
      have H1 : (some 28) = some r := by rw [if_neg (show ¬ (false = true) by decide)] at H; exact H
      clear H
      have H := H1
      clear H1
      obtain rfl := Option.some.inj H
      go_enter Tryz.func72, Tryz.ntmps72
      go_wp2_with (first | ((with_reducible refine gate_callee (f := 95) rfl ?_); refine goesL_ (some 9) rfl rfl Tryz.func95 (by kernel_rfl) rfl #[.int .i64 a0] rfl (by (try simp only [List.map_toArray, List.map_cons, List.map_nil]); first | done | rfl | (simp only [List.length_drop, List.length_take]; rfl)) ?_; (with_reducible refine (motleyref27_leap.calls a0 false _ A4.out).mono ?_); rintro e w' ⟨rfl, ⟨nd, rfl⟩⟩; refine ⟨_, rfl, ?_⟩))
      go_ret
      exact ⟨by first | rfl | (simp; done) | (simp [*]; done) | (simp; generalize ByteArray.toList _ = l_; cases l_ <;> rfl), by repeat (first | exact Drawn0.refl _ | apply Drawn0.step)⟩
  · rw [if_neg c3] at H
    have c3b0 : (a1 == 2) = false := beq_eq_false_iff_ne.mpr c3
    have c3b1 : (a1 != 2) = true := bne_iff_ne.mpr c3
    by_cases c6 : a1 = 4
    · rw [if_pos c6] at H
      have c6b0 : (a1 == 4) = true := beq_iff_eq.mpr c6
      have c6b1 : (a1 != 4) = false := bne_eq_false_iff_eq.mpr c6
      clear c6
      obtain rfl := Option.some.inj H
      go_enter Tryz.func72, Tryz.ntmps72
      go_wp2
      go_ret
      exact ⟨by first | rfl | (simp; done) | (simp [*]; done) | (simp; generalize ByteArray.toList _ = l_; cases l_ <;> rfl), by repeat (first | exact Drawn0.refl _ | apply Drawn0.step)⟩
    · rw [if_neg c6] at H
      have c6b0 : (a1 == 4) = false := beq_eq_false_iff_ne.mpr c6
      have c6b1 : (a1 != 4) = true := bne_iff_ne.mpr c6
      by_cases c7 : a1 = 6
      · rw [if_pos c7] at H
        have c7b0 : (a1 == 6) = true := beq_iff_eq.mpr c7
        have c7b1 : (a1 != 6) = false := bne_eq_false_iff_eq.mpr c7
        clear c7
        obtain rfl := Option.some.inj H
        go_enter Tryz.func72, Tryz.ntmps72
        go_wp2
        go_ret
        exact ⟨by first | rfl | (simp; done) | (simp [*]; done) | (simp; generalize ByteArray.toList _ = l_; cases l_ <;> rfl), by repeat (first | exact Drawn0.refl _ | apply Drawn0.step)⟩
      · rw [if_neg c7] at H
        have c7b0 : (a1 == 6) = false := beq_eq_false_iff_ne.mpr c7
        have c7b1 : (a1 != 6) = true := bne_iff_ne.mpr c7
        by_cases c8 : a1 = 9
        · rw [if_pos c8] at H
          have c8b0 : (a1 == 9) = true := beq_iff_eq.mpr c8
          have c8b1 : (a1 != 9) = false := bne_eq_false_iff_eq.mpr c8
          clear c8
          obtain rfl := Option.some.inj H
          go_enter Tryz.func72, Tryz.ntmps72
          go_wp2
          go_ret
          exact ⟨by first | rfl | (simp; done) | (simp [*]; done) | (simp; generalize ByteArray.toList _ = l_; cases l_ <;> rfl), by repeat (first | exact Drawn0.refl _ | apply Drawn0.step)⟩
        · rw [if_neg c8] at H
          have c8b0 : (a1 == 9) = false := beq_eq_false_iff_ne.mpr c8
          have c8b1 : (a1 != 9) = true := bne_iff_ne.mpr c8
          by_cases c9 : a1 = 11
          · rw [if_pos c9] at H
            have c9b0 : (a1 == 11) = true := beq_iff_eq.mpr c9
            have c9b1 : (a1 != 11) = false := bne_eq_false_iff_eq.mpr c9
            clear c9
            obtain rfl := Option.some.inj H
            go_enter Tryz.func72, Tryz.ntmps72
            go_wp2
            go_ret
            exact ⟨by first | rfl | (simp; done) | (simp [*]; done) | (simp; generalize ByteArray.toList _ = l_; cases l_ <;> rfl), by repeat (first | exact Drawn0.refl _ | apply Drawn0.step)⟩
          · rw [if_neg c9] at H
            have c9b0 : (a1 == 11) = false := beq_eq_false_iff_ne.mpr c9
            have c9b1 : (a1 != 11) = true := bne_iff_ne.mpr c9
            obtain rfl := Option.some.inj H
            go_enter Tryz.func72, Tryz.ntmps72
            go_wp2
            go_ret
            exact ⟨by first | rfl | (simp; done) | (simp [*]; done) | (simp; generalize ByteArray.toList _ = l_; cases l_ <;> rfl), by repeat (first | exact Drawn0.refl _ | apply Drawn0.step)⟩

/-! ### motleyref27_civil: function 54 -/
def motleyref27_civil.l0 : Nat → Int → Int → Int → Int → Option (Int)
  | 0, _, _, _, _ => none
  | k + 1, x0, x1, x5, x7 => if x7 < x1 then ((motleyref27_length.f x0 x7).bind fun t104 => (motleyref27_civil.l0 k x0 x1 (wrap64 (x5 + t104)) (wrap64 (x7 + 1)))) else (some (wrap64 (x5 - 719162)))
def motleyref27_civil.f (k : Nat) (a0 : Int) (a1 : Int) : Option (Int) := motleyref27_civil.l0 k a0 a1 (wrap64 ((wrap64 ((wrap64 ((wrap64 (365 * (wrap64 (a0 - 1)))) + (wrap64 (Int.tdiv (wrap64 (a0 - 1)) 4)))) - (wrap64 (Int.tdiv (wrap64 (a0 - 1)) 100)))) + (wrap64 (Int.tdiv (wrap64 (a0 - 1)) 400)))) 1
theorem motleyref27_civil.mono_l : ∀ k, (∀ y0 y1 y2 y3, LeO (motleyref27_civil.l0 k y0 y1 y2 y3) (motleyref27_civil.l0 (k + 1) y0 y1 y2 y3))
  | 0 => fun _ _ _ _ r h => by simp [motleyref27_civil.l0] at h
  | k + 1 => by
    have ih0 := motleyref27_civil.mono_l k
    · intro y0 y1 y2 y3
      unfold motleyref27_civil.l0
      repeat' first
      | (with_reducible exact ih0 _ _ _ _)
      | (with_reducible exact LeO.refl _)
      | (with_reducible exact LeO.none _)
      | (with_reducible refine LeO.ite ?_ ?_)
      | (with_reducible refine LeO.bind ?_ (fun _ => ?_))
      | exact ih0 _ _ _ _
      | exact LeO.none _
      | refine LeO.ite ?_ ?_
      | refine LeO.bind ?_ (fun _ => ?_)
theorem motleyref27_civil.mono : ∀ a0 a1 k, LeO (motleyref27_civil.f k a0 a1) (motleyref27_civil.f (k + 1) a0 a1) := by
  intro a0 a1 k
  have ih0 := motleyref27_civil.mono_l k
  unfold motleyref27_civil.f
  repeat' first
      | (with_reducible exact ih0 _ _ _ _)
      | (with_reducible exact LeO.refl _)
      | (with_reducible exact LeO.none _)
      | (with_reducible refine LeO.ite ?_ ?_)
      | (with_reducible refine LeO.bind ?_ (fun _ => ?_))
      | exact ih0 _ _ _ _
      | exact LeO.none _
      | refine LeO.ite ?_ ?_
      | refine LeO.bind ?_ (fun _ => ?_)
set_option maxHeartbeats 8000000 in
set_option maxRecDepth 100000 in
theorem motleyref27_civil.calls (k : Nat) (a0 : Int) (a1 : Int) (r : Int) (w : World) (h : motleyref27_civil.f k a0 a1 = some r) :
    Calls Tryz.prog 54 #[.int .i64 a0, .int .i64 a1] w fun e w' => e = .returned (.int .i64 r) ∧ Drawn0 w w' := by
  have H : (motleyref27_civil.l0 k a0 a1 (wrap64 ((wrap64 ((wrap64 ((wrap64 (365 * (wrap64 (a0 - 1)))) + (wrap64 (Int.tdiv (wrap64 (a0 - 1)) 4)))) - (wrap64 (Int.tdiv (wrap64 (a0 - 1)) 100)))) + (wrap64 (Int.tdiv (wrap64 (a0 - 1)) 400)))) 1) = some r := h
  clear h
  have H' := Aside0.mk H
  clear H
  go_enter Tryz.func54, Tryz.ntmps54
  go_wp2
  go_loopg [5, 7] k (fun kq v5 v7 w' => ∃ (x5_1 : Int) (x7_1 : Int), v5 = .int .i64 x5_1 ∧ v7 = .int .i64 x7_1 ∧ Aside0 (motleyref27_civil.l0 kq a0 a1 x5_1 x7_1 = some r) ∧ Aside0 (kq ≤ k) ∧ Drawn0 w w')
  case atStart => exact ⟨(wrap64 ((wrap64 ((wrap64 ((wrap64 (365 * (wrap64 (a0 - 1)))) + (wrap64 (Int.tdiv (wrap64 (a0 - 1)) 4)))) - (wrap64 (Int.tdiv (wrap64 (a0 - 1)) 100)))) + (wrap64 (Int.tdiv (wrap64 (a0 - 1)) 400)))), (1), (by first | rfl | (simp; done) | (simp [*]; done) | (simp; generalize ByteArray.toList _ = l_; cases l_ <;> rfl)), (by first | rfl | (simp; done) | (simp [*]; done) | (simp; generalize ByteArray.toList _ = l_; cases l_ <;> rfl)), H', ⟨Nat.le_refl _⟩, by repeat (first | exact Drawn0.refl _ | apply Drawn0.step)⟩
  case round =>
    clear H'
    try clear p2
    obtain ⟨x5_1, x7_1, rfl, rfl, HA, HK1, ⟨m1, rfl⟩⟩ := hrel
    cases gk with
    | zero => exact absurd HA.out (by simp [motleyref27_civil.l0])
    | succ k1 =>
      have H := HA.out
      clear HA
      simp only [motleyref27_civil.l0] at H
      by_cases c3 : x7_1 < a1
      · rw [if_pos c3] at H
        have c3b0 : decide (x7_1 < a1) = true := decide_eq_true c3
        clear c3
        replace H := Option.bind_eq_some_iff.mp H
        obtain ⟨t104, A40, H⟩ := H
        replace H : (motleyref27_civil.l0 k1 a0 a1 (wrap64 (x5_1 + t104)) (wrap64 (x7_1 + 1))) = some r := H
        have A4 := Aside0.mk A40
        clear A40
        have H' := Aside0.mk H
        clear H
        go_wp2_with (first | ((with_reducible refine gate_callee (f := 72) rfl ?_); refine goesL_ (some 29) rfl rfl Tryz.func72 (by kernel_rfl) rfl #[.int .i64 a0, .int .i64 x7_1] rfl (by (try simp only [List.map_toArray, List.map_cons, List.map_nil]); first | done | rfl | (simp only [List.length_drop, List.length_take]; rfl)) ?_; (with_reducible refine (motleyref27_length.calls a0 x7_1 t104 _ A4.out).mono ?_); rintro e w' ⟨rfl, ⟨nd, rfl⟩⟩; refine ⟨_, rfl, ?_⟩))
        go_roundg k1
        case measure => have := HK1.out; omega
        case rel => exact ⟨(wrap64 (x5_1 + t104)), (wrap64 (x7_1 + 1)), (by first | rfl | (simp; done) | (simp [*]; done) | (simp; generalize ByteArray.toList _ = l_; cases l_ <;> rfl)), (by first | rfl | (simp; done) | (simp [*]; done) | (simp; generalize ByteArray.toList _ = l_; cases l_ <;> rfl)), H', ⟨by have := HK1.out; omega⟩, by repeat (first | exact Drawn0.refl _ | apply Drawn0.step)⟩
      · rw [if_neg c3] at H
        have c3b0 : decide (x7_1 < a1) = false := decide_eq_false c3
        clear c3
        obtain rfl := Option.some.inj H
        go_wp2
        go_ret
        exact ⟨by first | rfl | (simp; done) | (simp [*]; done) | (simp; generalize ByteArray.toList _ = l_; cases l_ <;> rfl), by repeat (first | exact Drawn0.refl _ | apply Drawn0.step)⟩

/-! ### motleyref27_isDay: function 52 -/
def motleyref27_isDay.f (k : Nat) (a0 : Int) : Option (Bool) := (motleyref27_civil.f k 1 1).bind fun t105 => (if t105 ≤ a0 then ((motleyref27_civil.f k 10000 1).bind fun t106 => (some (decide (a0 < t106)))) else (some false))
theorem motleyref27_isDay.mono : ∀ a0 k, LeO (motleyref27_isDay.f k a0) (motleyref27_isDay.f (k + 1) a0) := by
  intro a0 k
  unfold motleyref27_isDay.f
  repeat' first
      | (with_reducible exact motleyref27_civil.mono _ _ _)
      | (with_reducible exact LeO.refl _)
      | (with_reducible exact LeO.none _)
      | (with_reducible refine LeO.ite ?_ ?_)
      | (with_reducible refine LeO.bind ?_ (fun _ => ?_))
      | exact motleyref27_civil.mono _ _ _
      | exact LeO.none _
      | refine LeO.ite ?_ ?_
      | refine LeO.bind ?_ (fun _ => ?_)
set_option maxHeartbeats 8000000 in
set_option maxRecDepth 100000 in
theorem motleyref27_isDay.calls (k : Nat) (a0 : Int) (r : Bool) (w : World) (h : motleyref27_isDay.f k a0 = some r) :
    Calls Tryz.prog 52 #[.int .i64 a0] w fun e w' => e = .returned (.bool r) ∧ Drawn0 w w' := by
  have H : ((motleyref27_civil.f k 1 1).bind fun t105 => (if t105 ≤ a0 then ((motleyref27_civil.f k 10000 1).bind fun t106 => (some (decide (a0 < t106)))) else (some false))) = some r := h
  clear h
  replace H := Option.bind_eq_some_iff.mp H
  obtain ⟨t105, A20, H⟩ := H
  replace H : (if t105 ≤ a0 then ((motleyref27_civil.f k 10000 1).bind fun t106 => (some (decide (a0 < t106)))) else (some false)) = some r := H
  have A2 := Aside0.mk A20
  clear A20
  by_cases c3 : t105 ≤ a0
  · rw [if_pos c3] at H
    have c3b0 : decide (t105 ≤ a0) = true := decide_eq_true c3
    clear c3
    replace H := Option.bind_eq_some_iff.mp H
    obtain ⟨t106, A40, H⟩ := H
    replace H : (some (decide (a0 < t106))) = some r := H
    have A4 := Aside0.mk A40
    clear A40
    obtain rfl := Option.some.inj H
    go_enter Tryz.func52, Tryz.ntmps52
    go_wp2_with (first | ((with_reducible refine gate_callee (f := 54) rfl ?_); refine goesL_ (some 3) rfl rfl Tryz.func54 (by kernel_rfl) rfl #[.int .i64 1, .int .i64 1] rfl (by (try simp only [List.map_toArray, List.map_cons, List.map_nil]); first | done | rfl | (simp only [List.length_drop, List.length_take]; rfl)) ?_; (with_reducible refine (motleyref27_civil.calls k 1 1 t105 _ A2.out).mono ?_); rintro e w' ⟨rfl, ⟨nd, rfl⟩⟩; refine ⟨_, rfl, ?_⟩) | (go_at_call 54; (with_reducible refine (motleyref27_civil.calls k 10000 1 t106 _ A4.out).mono ?_); rintro e w' ⟨rfl, ⟨nd, rfl⟩⟩))
    go_ret
    exact ⟨by first | rfl | (simp; done) | (simp [*]; done) | (simp; generalize ByteArray.toList _ = l_; cases l_ <;> rfl), by repeat (first | exact Drawn0.refl _ | apply Drawn0.step)⟩
  · rw [if_neg c3] at H
    have c3b0 : decide (t105 ≤ a0) = false := decide_eq_false c3
    clear c3
    obtain rfl := Option.some.inj H
    go_enter Tryz.func52, Tryz.ntmps52
    go_wp2_with (first | ((with_reducible refine gate_callee (f := 54) rfl ?_); refine goesL_ (some 3) rfl rfl Tryz.func54 (by kernel_rfl) rfl #[.int .i64 1, .int .i64 1] rfl (by (try simp only [List.map_toArray, List.map_cons, List.map_nil]); first | done | rfl | (simp only [List.length_drop, List.length_take]; rfl)) ?_; (with_reducible refine (motleyref27_civil.calls k 1 1 t105 _ A2.out).mono ?_); rintro e w' ⟨rfl, ⟨nd, rfl⟩⟩; refine ⟨_, rfl, ?_⟩))
    go_ret
    exact ⟨by first | rfl | (simp; done) | (simp [*]; done) | (simp; generalize ByteArray.toList _ = l_; cases l_ <;> rfl), by repeat (first | exact Drawn0.refl _ | apply Drawn0.step)⟩

/-! ### motleyref27_isYear: function 53 -/
def motleyref27_isYear.f (a0 : Int) : Option (Bool) := if 1 ≤ a0 then (some (decide (a0 ≤ 9999))) else (some false)
set_option maxHeartbeats 8000000 in
set_option maxRecDepth 100000 in
theorem motleyref27_isYear.calls (a0 : Int) (r : Bool) (w : World) (h : motleyref27_isYear.f a0 = some r) :
    Calls Tryz.prog 53 #[.int .i64 a0] w fun e w' => e = .returned (.bool r) ∧ Drawn0 w w' := by
  have H : (if 1 ≤ a0 then (some (decide (a0 ≤ 9999))) else (some false)) = some r := h
  clear h
  by_cases c2 : 1 ≤ a0
  · rw [if_pos c2] at H
    have c2b0 : decide (1 ≤ a0) = true := decide_eq_true c2
    clear c2
    obtain rfl := Option.some.inj H
    go_enter Tryz.func53, Tryz.ntmps53
    go_wp2
    go_ret
    exact ⟨by first | rfl | (simp; done) | (simp [*]; done) | (simp; generalize ByteArray.toList _ = l_; cases l_ <;> rfl), by repeat (first | exact Drawn0.refl _ | apply Drawn0.step)⟩
  · rw [if_neg c2] at H
    have c2b0 : decide (1 ≤ a0) = false := decide_eq_false c2
    clear c2
    obtain rfl := Option.some.inj H
    go_enter Tryz.func53, Tryz.ntmps53
    go_wp2
    go_ret
    exact ⟨by first | rfl | (simp; done) | (simp [*]; done) | (simp; generalize ByteArray.toList _ = l_; cases l_ <;> rfl), by repeat (first | exact Drawn0.refl _ | apply Drawn0.step)⟩

/-! ### motleyref27_Date: function 29 -/
mutual
def motleyref27_Date.l0 : Nat → Int → Int → Int → Option (Int × Int × Int × Int)
  | 0, _, _, _ => none
  | k + 1, x0, x6, x7 => if x7 > 0 then (motleyref27_Date.l1 k x0 x6 x7) else (motleyref27_Date.l2 k x0 x6 1)
def motleyref27_Date.l1 : Nat → Int → Int → Int → Option (Int × Int × Int × Int)
  | 0, _, _, _ => none
  | k + 1, x0, x6, x7 => (motleyref27_isYear.f (wrap64 (x6 + x7))).bind fun t108 => (if t108 = true then ((motleyref27_civil.f k (wrap64 (x6 + x7)) 1).bind fun t109 => (if t109 ≤ x0 then (motleyref27_Date.l1 k x0 (wrap64 (x6 + x7)) x7) else (motleyref27_Date.l0 k x0 x6 (wrap64 (Int.tdiv x7 2))))) else (motleyref27_Date.l0 k x0 x6 (wrap64 (Int.tdiv x7 2))))
def motleyref27_Date.l2 : Nat → Int → Int → Int → Option (Int × Int × Int × Int)
  | 0, _, _, _ => none
  | k + 1, x0, x6, x8 => if x8 < 12 then ((motleyref27_civil.f k x6 (wrap64 (x8 + 1))).bind fun t110 => (if t110 ≤ x0 then (motleyref27_Date.l2 k x0 x6 (wrap64 (x8 + 1))) else ((motleyref27_civil.f k x6 x8).bind fun t111 => (some (x6, x8, wrap64 ((wrap64 (x0 - t111)) + 1), 0))))) else ((motleyref27_civil.f k x6 x8).bind fun t112 => (some (x6, x8, wrap64 ((wrap64 (x0 - t112)) + 1), 0)))
end
def motleyref27_Date.f (k : Nat) (a0 : Int) : Option (Int × Int × Int × Int) := (motleyref27_isDay.f k a0).bind fun t107 => (if t107 = true then (motleyref27_Date.l0 k a0 1 4096) else (some (0, 0, 0, 1)))
theorem motleyref27_Date.mono_l : ∀ k, (∀ y0 y1 y2, LeO (motleyref27_Date.l0 k y0 y1 y2) (motleyref27_Date.l0 (k + 1) y0 y1 y2)) ∧ (∀ y0 y1 y2, LeO (motleyref27_Date.l1 k y0 y1 y2) (motleyref27_Date.l1 (k + 1) y0 y1 y2)) ∧ (∀ y0 y1 y2, LeO (motleyref27_Date.l2 k y0 y1 y2) (motleyref27_Date.l2 (k + 1) y0 y1 y2))
  | 0 => ⟨fun _ _ _ r h => by simp [motleyref27_Date.l0] at h, fun _ _ _ r h => by simp [motleyref27_Date.l1] at h, fun _ _ _ r h => by simp [motleyref27_Date.l2] at h⟩
  | k + 1 => by
    obtain ⟨ih0, ih1, ih2⟩ := motleyref27_Date.mono_l k
    refine ⟨?_, ?_, ?_⟩
    · intro y0 y1 y2
      unfold motleyref27_Date.l0
      repeat' first
      | (with_reducible exact ih0 _ _ _)
      | (with_reducible exact ih1 _ _ _)
      | (with_reducible exact ih2 _ _ _)
      | (with_reducible exact motleyref27_civil.mono _ _ _)
      | (with_reducible exact motleyref27_isDay.mono _ _)
      | (with_reducible exact LeO.refl _)
      | (with_reducible exact LeO.none _)
      | (with_reducible refine LeO.ite ?_ ?_)
      | (with_reducible refine LeO.bind ?_ (fun _ => ?_))
      | exact ih0 _ _ _
      | exact ih1 _ _ _
      | exact ih2 _ _ _
      | exact motleyref27_civil.mono _ _ _
      | exact motleyref27_isDay.mono _ _
      | exact LeO.none _
      | refine LeO.ite ?_ ?_
      | refine LeO.bind ?_ (fun _ => ?_)
    · intro y0 y1 y2
      unfold motleyref27_Date.l1
      repeat' first
      | (with_reducible exact ih0 _ _ _)
      | (with_reducible exact ih1 _ _ _)
      | (with_reducible exact ih2 _ _ _)
      | (with_reducible exact motleyref27_civil.mono _ _ _)
      | (with_reducible exact motleyref27_isDay.mono _ _)
      | (with_reducible exact LeO.refl _)
      | (with_reducible exact LeO.none _)
      | (with_reducible refine LeO.ite ?_ ?_)
      | (with_reducible refine LeO.bind ?_ (fun _ => ?_))
      | exact ih0 _ _ _
      | exact ih1 _ _ _
      | exact ih2 _ _ _
      | exact motleyref27_civil.mono _ _ _
      | exact motleyref27_isDay.mono _ _
      | exact LeO.none _
      | refine LeO.ite ?_ ?_
      | refine LeO.bind ?_ (fun _ => ?_)
    · intro y0 y1 y2
      unfold motleyref27_Date.l2
      repeat' first
      | (with_reducible exact ih0 _ _ _)
      | (with_reducible exact ih1 _ _ _)
      | (with_reducible exact ih2 _ _ _)
      | (with_reducible exact motleyref27_civil.mono _ _ _)
      | (with_reducible exact motleyref27_isDay.mono _ _)
      | (with_reducible exact LeO.refl _)
      | (with_reducible exact LeO.none _)
      | (with_reducible refine LeO.ite ?_ ?_)
      | (with_reducible refine LeO.bind ?_ (fun _ => ?_))
      | exact ih0 _ _ _
      | exact ih1 _ _ _
      | exact ih2 _ _ _
      | exact motleyref27_civil.mono _ _ _
      | exact motleyref27_isDay.mono _ _
      | exact LeO.none _
      | refine LeO.ite ?_ ?_
      | refine LeO.bind ?_ (fun _ => ?_)
theorem motleyref27_Date.mono : ∀ a0 k, LeO (motleyref27_Date.f k a0) (motleyref27_Date.f (k + 1) a0) := by
  intro a0 k
  obtain ⟨ih0, ih1, ih2⟩ := motleyref27_Date.mono_l k
  unfold motleyref27_Date.f
  repeat' first
      | (with_reducible exact ih0 _ _ _)
      | (with_reducible exact ih1 _ _ _)
      | (with_reducible exact ih2 _ _ _)
      | (with_reducible exact motleyref27_civil.mono _ _ _)
      | (with_reducible exact motleyref27_isDay.mono _ _)
      | (with_reducible exact LeO.refl _)
      | (with_reducible exact LeO.none _)
      | (with_reducible refine LeO.ite ?_ ?_)
      | (with_reducible refine LeO.bind ?_ (fun _ => ?_))
      | exact ih0 _ _ _
      | exact ih1 _ _ _
      | exact ih2 _ _ _
      | exact motleyref27_civil.mono _ _ _
      | exact motleyref27_isDay.mono _ _
      | exact LeO.none _
      | refine LeO.ite ?_ ?_
      | refine LeO.bind ?_ (fun _ => ?_)
set_option maxHeartbeats 8000000 in
set_option maxRecDepth 100000 in
theorem motleyref27_Date.calls (k : Nat) (a0 : Int) (r1 : Int) (r2 : Int) (r3 : Int) (r4 : Int) (w : World) (h : motleyref27_Date.f k a0 = some (r1, r2, r3, r4)) :
    Calls Tryz.prog 29 #[.int .i64 a0] w fun e w' => e = .returned (.tuple #[.int .i64 r1, .int .i64 r2, .int .i64 r3, .int .i64 r4]) ∧ Drawn0 w w' := by
  have H : ((motleyref27_isDay.f k a0).bind fun t107 => (if t107 = true then (motleyref27_Date.l0 k a0 1 4096) else (some (0, 0, 0, 1)))) = some (r1, r2, r3, r4) := h
  clear h
  replace H := Option.bind_eq_some_iff.mp H
  obtain ⟨t107, A20, H⟩ := H
  replace H : (if t107 = true then (motleyref27_Date.l0 k a0 1 4096) else (some (0, 0, 0, 1))) = some (r1, r2, r3, r4) := H
  have A2 := Aside0.mk A20
  clear A20
  by_cases c3 : t107 = true
  · subst c3
    have H1 : (motleyref27_Date.l0 k a0 1 4096) = some (r1, r2, r3, r4) := by rw [if_pos rfl] at H; exact H
    clear H
    have H := H1
    clear H1
    have H' := Aside0.mk H
    clear H
    go_enter Tryz.func29, Tryz.ntmps29
    go_wp2_with (first | ((with_reducible refine gate_callee (f := 52) rfl ?_); refine goesL_ (some 10) rfl rfl Tryz.func52 (by kernel_rfl) rfl #[.int .i64 a0] rfl (by (try simp only [List.map_toArray, List.map_cons, List.map_nil]); first | done | rfl | (simp only [List.length_drop, List.length_take]; rfl)) ?_; (with_reducible refine (motleyref27_isDay.calls k a0 true _ A2.out).mono ?_); rintro e w' ⟨rfl, ⟨nd, rfl⟩⟩; refine ⟨_, rfl, ?_⟩))
    go_loopg [6, 7] k (fun kq v6 v7 w' => ∃ (x6_1 : Int) (x7_1 : Int), v6 = .int .i64 x6_1 ∧ v7 = .int .i64 x7_1 ∧ Aside0 (motleyref27_Date.l0 kq a0 x6_1 x7_1 = some (r1, r2, r3, r4)) ∧ Aside0 (kq ≤ k) ∧ Drawn0 w w')
    case atStart => exact ⟨(1), (4096), (by first | rfl | (simp; done) | (simp [*]; done) | (simp; generalize ByteArray.toList _ = l_; cases l_ <;> rfl)), (by first | rfl | (simp; done) | (simp [*]; done) | (simp; generalize ByteArray.toList _ = l_; cases l_ <;> rfl)), H', ⟨Nat.le_refl _⟩, by repeat (first | exact Drawn0.refl _ | apply Drawn0.step)⟩
    case round =>
      clear H'
      try clear c2
      try clear p2
      try clear c3
      obtain ⟨x6_1, x7_1, rfl, rfl, HA, HK1, ⟨m1, rfl⟩⟩ := hrel
      cases gk with
      | zero => exact absurd HA.out (by simp [motleyref27_Date.l0])
      | succ k1 =>
        have H := HA.out
        clear HA
        simp only [motleyref27_Date.l0] at H
        by_cases c4 : x7_1 > 0
        · rw [if_pos c4] at H
          have c4b0 : decide (0 < x7_1) = true := decide_eq_true c4
          clear c4
          have H' := Aside0.mk H
          clear H
          go_wp2
          go_loopg [6] k1 (fun kq v6 w' => ∃ (x6_2 : Int), v6 = .int .i64 x6_2 ∧ Aside0 (motleyref27_Date.l1 kq a0 x6_2 x7_1 = some (r1, r2, r3, r4)) ∧ Aside0 (kq ≤ k1) ∧ Drawn0 w w')
          case atStart => exact ⟨(x6_1), (by first | rfl | (simp; done) | (simp [*]; done) | (simp; generalize ByteArray.toList _ = l_; cases l_ <;> rfl)), H', ⟨Nat.le_refl _⟩, by repeat (first | exact Drawn0.refl _ | apply Drawn0.step)⟩
          case round =>
            clear H'
            try clear c2
            try clear p2
            try clear c3
            try clear c4
            try clear c4b0
            try clear p2
            obtain ⟨x6_2, rfl, HA, HK2, ⟨m2, rfl⟩⟩ := hrel
            cases gk with
            | zero => exact absurd HA.out (by simp [motleyref27_Date.l1])
            | succ k2 =>
              have H := HA.out
              clear HA
              simp only [motleyref27_Date.l1] at H
              replace H := Option.bind_eq_some_iff.mp H
              obtain ⟨t108, A50, H⟩ := H
              replace H : (if t108 = true then ((motleyref27_civil.f k2 (wrap64 (x6_2 + x7_1)) 1).bind fun t109 => (if t109 ≤ a0 then (motleyref27_Date.l1 k2 a0 (wrap64 (x6_2 + x7_1)) x7_1) else (motleyref27_Date.l0 k2 a0 x6_2 (wrap64 (Int.tdiv x7_1 2))))) else (motleyref27_Date.l0 k2 a0 x6_2 (wrap64 (Int.tdiv x7_1 2)))) = some (r1, r2, r3, r4) := H
              have A5 := Aside0.mk A50
              clear A50
              by_cases c6 : t108 = true
              · subst c6
                have H1 : ((motleyref27_civil.f k2 (wrap64 (x6_2 + x7_1)) 1).bind fun t109 => (if t109 ≤ a0 then (motleyref27_Date.l1 k2 a0 (wrap64 (x6_2 + x7_1)) x7_1) else (motleyref27_Date.l0 k2 a0 x6_2 (wrap64 (Int.tdiv x7_1 2))))) = some (r1, r2, r3, r4) := by rw [if_pos rfl] at H; exact H
                clear H
                have H := H1
                clear H1
                replace H := Option.bind_eq_some_iff.mp H
                obtain ⟨t109, A70, H⟩ := H
                replace H : (if t109 ≤ a0 then (motleyref27_Date.l1 k2 a0 (wrap64 (x6_2 + x7_1)) x7_1) else (motleyref27_Date.l0 k2 a0 x6_2 (wrap64 (Int.tdiv x7_1 2)))) = some (r1, r2, r3, r4) := H
                have A7 := Aside0.mk A70
                clear A70
                by_cases c8 : t109 ≤ a0
                · rw [if_pos c8] at H
                  have c8b0 : decide (t109 ≤ a0) = true := decide_eq_true c8
                  clear c8
                  have H' := Aside0.mk H
                  clear H
                  go_wp2_with (first | ((with_reducible refine gate_callee (f := 53) rfl ?_); refine goesL_ (some 19) rfl rfl Tryz.func53 (by kernel_rfl) rfl #[.int .i64 (wrap64 (x6_2 + x7_1))] rfl (by (try simp only [List.map_toArray, List.map_cons, List.map_nil]); first | done | rfl | (simp only [List.length_drop, List.length_take]; rfl)) ?_; (with_reducible refine (motleyref27_isYear.calls (wrap64 (x6_2 + x7_1)) true _ A5.out).mono ?_); rintro e w' ⟨rfl, ⟨nd, rfl⟩⟩; refine ⟨_, rfl, ?_⟩) | (go_at_call 54; (with_reducible refine (motleyref27_civil.calls k2 (wrap64 (x6_2 + x7_1)) 1 t109 _ A7.out).mono ?_); rintro e w' ⟨rfl, ⟨nd, rfl⟩⟩))
                  go_roundg k2
                  case measure => have := HK1.out; have := HK2.out; omega
                  case rel => exact ⟨(wrap64 (x6_2 + x7_1)), (by first | rfl | (simp; done) | (simp [*]; done) | (simp; generalize ByteArray.toList _ = l_; cases l_ <;> rfl)), H', ⟨by have := HK1.out; have := HK2.out; omega⟩, by repeat (first | exact Drawn0.refl _ | apply Drawn0.step)⟩
                · rw [if_neg c8] at H
                  have c8b0 : decide (t109 ≤ a0) = false := decide_eq_false c8
                  clear c8
                  have H' := Aside0.mk H
                  clear H
                  go_wp2_with (first | ((with_reducible refine gate_callee (f := 53) rfl ?_); refine goesL_ (some 19) rfl rfl Tryz.func53 (by kernel_rfl) rfl #[.int .i64 (wrap64 (x6_2 + x7_1))] rfl (by (try simp only [List.map_toArray, List.map_cons, List.map_nil]); first | done | rfl | (simp only [List.length_drop, List.length_take]; rfl)) ?_; (with_reducible refine (motleyref27_isYear.calls (wrap64 (x6_2 + x7_1)) true _ A5.out).mono ?_); rintro e w' ⟨rfl, ⟨nd, rfl⟩⟩; refine ⟨_, rfl, ?_⟩) | (go_at_call 54; (with_reducible refine (motleyref27_civil.calls k2 (wrap64 (x6_2 + x7_1)) 1 t109 _ A7.out).mono ?_); rintro e w' ⟨rfl, ⟨nd, rfl⟩⟩))
                  go_roundg k2
                  case measure => have := HK1.out; have := HK2.out; omega
                  case rel => exact ⟨(x6_2), (wrap64 (Int.tdiv x7_1 2)), (by first | rfl | (simp; done) | (simp [*]; done) | (simp; generalize ByteArray.toList _ = l_; cases l_ <;> rfl)), (by first | rfl | (simp; done) | (simp [*]; done) | (simp; generalize ByteArray.toList _ = l_; cases l_ <;> rfl)), H', ⟨by have := HK1.out; have := HK2.out; omega⟩, by repeat (first | exact Drawn0.refl _ | apply Drawn0.step)⟩
              · replace c6 := Bool.eq_false_iff.mpr c6
                subst c6
                have H1 : (motleyref27_Date.l0 k2 a0 x6_2 (wrap64 (Int.tdiv x7_1 2))) = some (r1, r2, r3, r4) := by rw [if_neg (show ¬ (false = true) by decide)] at H; exact H
                clear H
                have H := H1
                clear H1
                have H' := Aside0.mk H
                clear H
                go_wp2_with (first | ((with_reducible refine gate_callee (f := 53) rfl ?_); refine goesL_ (some 19) rfl rfl Tryz.func53 (by kernel_rfl) rfl #[.int .i64 (wrap64 (x6_2 + x7_1))] rfl (by (try simp only [List.map_toArray, List.map_cons, List.map_nil]); first | done | rfl | (simp only [List.length_drop, List.length_take]; rfl)) ?_; (with_reducible refine (motleyref27_isYear.calls (wrap64 (x6_2 + x7_1)) false _ A5.out).mono ?_); rintro e w' ⟨rfl, ⟨nd, rfl⟩⟩; refine ⟨_, rfl, ?_⟩))
                go_roundg k2
                case measure => have := HK1.out; have := HK2.out; omega
                case rel => exact ⟨(x6_2), (wrap64 (Int.tdiv x7_1 2)), (by first | rfl | (simp; done) | (simp [*]; done) | (simp; generalize ByteArray.toList _ = l_; cases l_ <;> rfl)), (by first | rfl | (simp; done) | (simp [*]; done) | (simp; generalize ByteArray.toList _ = l_; cases l_ <;> rfl)), H', ⟨by have := HK1.out; have := HK2.out; omega⟩, by repeat (first | exact Drawn0.refl _ | apply Drawn0.step)⟩
        · rw [if_neg c4] at H
          have c4b0 : decide (0 < x7_1) = false := decide_eq_false c4
          clear c4
          have H' := Aside0.mk H
          clear H
          go_wp2
          go_loopg [8] k1 (fun kq v8 w' => ∃ (x8_2 : Int), v8 = .int .i64 x8_2 ∧ Aside0 (motleyref27_Date.l2 kq a0 x6_1 x8_2 = some (r1, r2, r3, r4)) ∧ Aside0 (kq ≤ k1) ∧ Drawn0 w w')
          case atStart => exact ⟨(1), (by first | rfl | (simp; done) | (simp [*]; done) | (simp; generalize ByteArray.toList _ = l_; cases l_ <;> rfl)), H', ⟨Nat.le_refl _⟩, by repeat (first | exact Drawn0.refl _ | apply Drawn0.step)⟩
          case round =>
            clear H'
            try clear c2
            try clear p2
            try clear c3
            try clear c4
            try clear c4b0
            try clear c5
            try clear c6
            try clear p6
            try clear c8
            try clear c8b0
            try clear p2
            obtain ⟨x8_2, rfl, HA, HK2, ⟨m2, rfl⟩⟩ := hrel
            cases gk with
            | zero => exact absurd HA.out (by simp [motleyref27_Date.l2])
            | succ k2 =>
              have H := HA.out
              clear HA
              simp only [motleyref27_Date.l2] at H
              by_cases c9 : x8_2 < 12
              · rw [if_pos c9] at H
                have c9b0 : decide (x8_2 < 12) = true := decide_eq_true c9
                clear c9
                replace H := Option.bind_eq_some_iff.mp H
                obtain ⟨t110, A100, H⟩ := H
                replace H : (if t110 ≤ a0 then (motleyref27_Date.l2 k2 a0 x6_1 (wrap64 (x8_2 + 1))) else ((motleyref27_civil.f k2 x6_1 x8_2).bind fun t111 => (some (x6_1, x8_2, wrap64 ((wrap64 (a0 - t111)) + 1), 0)))) = some (r1, r2, r3, r4) := H
                have A10 := Aside0.mk A100
                clear A100
                by_cases c11 : t110 ≤ a0
                · rw [if_pos c11] at H
                  have c11b0 : decide (t110 ≤ a0) = true := decide_eq_true c11
                  clear c11
                  have H' := Aside0.mk H
                  clear H
                  go_wp2_with (first | (go_at_call 54; (with_reducible refine (motleyref27_civil.calls k2 x6_1 (wrap64 (x8_2 + 1)) t110 _ A10.out).mono ?_); rintro e w' ⟨rfl, ⟨nd, rfl⟩⟩))
                  go_roundg k2
                  case measure => have := HK1.out; have := HK2.out; omega
                  case rel => exact ⟨(wrap64 (x8_2 + 1)), (by first | rfl | (simp; done) | (simp [*]; done) | (simp; generalize ByteArray.toList _ = l_; cases l_ <;> rfl)), H', ⟨by have := HK1.out; have := HK2.out; omega⟩, by repeat (first | exact Drawn0.refl _ | apply Drawn0.step)⟩
                · rw [if_neg c11] at H
                  have c11b0 : decide (t110 ≤ a0) = false := decide_eq_false c11
                  clear c11
                  replace H := Option.bind_eq_some_iff.mp H
                  obtain ⟨t111, A120, H⟩ := H
                  replace H : (some (x6_1, x8_2, wrap64 ((wrap64 (a0 - t111)) + 1), 0)) = some (r1, r2, r3, r4) := H
                  have A12 := Aside0.mk A120
                  clear A120
                  simp only [Option.some.injEq, Prod.mk.injEq] at H
                  obtain ⟨rfl, rfl, rfl, rfl⟩ := H
                  go_wp2_with (first | (go_at_call 54; (with_reducible refine (motleyref27_civil.calls k2 x6_1 (wrap64 (x8_2 + 1)) t110 _ A10.out).mono ?_); rintro e w' ⟨rfl, ⟨nd, rfl⟩⟩) | ((with_reducible refine gate_callee (f := 54) rfl ?_); refine goesL_ (some 48) rfl rfl Tryz.func54 (by kernel_rfl) rfl #[.int .i64 x6_1, .int .i64 x8_2] rfl (by (try simp only [List.map_toArray, List.map_cons, List.map_nil]); first | done | rfl | (simp only [List.length_drop, List.length_take]; rfl)) ?_; (with_reducible refine (motleyref27_civil.calls k2 x6_1 x8_2 t111 _ A12.out).mono ?_); rintro e w' ⟨rfl, ⟨nd, rfl⟩⟩; refine ⟨_, rfl, ?_⟩))
                  refine bodyPost_ret (results_list (rs := [.tmp 2, .tmp 3, .tmp 4, .tmp 5]) rfl (by simp) (.tmp (.tmp (.tmp (.tmp .nil))))) rfl ?_
                  exact ⟨by first | rfl | (simp; done) | (simp [*]; done) | (simp; generalize ByteArray.toList _ = l_; cases l_ <;> rfl), by repeat (first | exact Drawn0.refl _ | apply Drawn0.step)⟩
              · rw [if_neg c9] at H
                have c9b0 : decide (x8_2 < 12) = false := decide_eq_false c9
                clear c9
                replace H := Option.bind_eq_some_iff.mp H
                obtain ⟨t112, A130, H⟩ := H
                replace H : (some (x6_1, x8_2, wrap64 ((wrap64 (a0 - t112)) + 1), 0)) = some (r1, r2, r3, r4) := H
                have A13 := Aside0.mk A130
                clear A130
                simp only [Option.some.injEq, Prod.mk.injEq] at H
                obtain ⟨rfl, rfl, rfl, rfl⟩ := H
                go_wp2_with (first | ((with_reducible refine gate_callee (f := 54) rfl ?_); refine goesL_ (some 48) rfl rfl Tryz.func54 (by kernel_rfl) rfl #[.int .i64 x6_1, .int .i64 x8_2] rfl (by (try simp only [List.map_toArray, List.map_cons, List.map_nil]); first | done | rfl | (simp only [List.length_drop, List.length_take]; rfl)) ?_; (with_reducible refine (motleyref27_civil.calls k2 x6_1 x8_2 t112 _ A13.out).mono ?_); rintro e w' ⟨rfl, ⟨nd, rfl⟩⟩; refine ⟨_, rfl, ?_⟩))
                refine bodyPost_ret (results_list (rs := [.tmp 2, .tmp 3, .tmp 4, .tmp 5]) rfl (by simp) (.tmp (.tmp (.tmp (.tmp .nil))))) rfl ?_
                exact ⟨by first | rfl | (simp; done) | (simp [*]; done) | (simp; generalize ByteArray.toList _ = l_; cases l_ <;> rfl), by repeat (first | exact Drawn0.refl _ | apply Drawn0.step)⟩
  · replace c3 := Bool.eq_false_iff.mpr c3
    subst c3
    have H1 : (some (0, 0, 0, 1)) = some (r1, r2, r3, r4) := by rw [if_neg (show ¬ (false = true) by decide)] at H; exact H
    clear H
    have H := H1
    clear H1
    simp only [Option.some.injEq, Prod.mk.injEq] at H
    obtain ⟨rfl, rfl, rfl, rfl⟩ := H
    go_enter Tryz.func29, Tryz.ntmps29
    go_wp2_with (first | ((with_reducible refine gate_callee (f := 52) rfl ?_); refine goesL_ (some 10) rfl rfl Tryz.func52 (by kernel_rfl) rfl #[.int .i64 a0] rfl (by (try simp only [List.map_toArray, List.map_cons, List.map_nil]); first | done | rfl | (simp only [List.length_drop, List.length_take]; rfl)) ?_; (with_reducible refine (motleyref27_isDay.calls k a0 false _ A2.out).mono ?_); rintro e w' ⟨rfl, ⟨nd, rfl⟩⟩; refine ⟨_, rfl, ?_⟩))
    refine bodyPost_ret (results_list (rs := [.tmp 2, .tmp 3, .tmp 4, .tmp 5]) rfl (by simp) (.tmp (.tmp (.tmp (.tmp .nil))))) rfl ?_
    exact ⟨by first | rfl | (simp; done) | (simp [*]; done) | (simp; generalize ByteArray.toList _ = l_; cases l_ <;> rfl), by repeat (first | exact Drawn0.refl _ | apply Drawn0.step)⟩

/-! ### motleyref27_padded: function 30 -/
def motleyref27_padded.l0 : Nat → Int → ByteArray → Option (ByteArray)
  | 0, _, _ => none
  | k + 1, x1, x5 => if (x5.size : Int) < x1 then (if 1 + x5.size ≤ 9223372036854775807 then (motleyref27_padded.l0 k x1 ((⟨#[48]⟩ : ByteArray) ++ x5)) else (none)) else (some x5)
def motleyref27_padded.f (k : Nat) (a0 : Int) (a1 : Int) : Option (ByteArray) := (motleyref01_Written.f a0).bind fun t113 => (motleyref27_padded.l0 k a1 t113)
theorem motleyref27_padded.mono_l : ∀ k, (∀ y0 y1, LeO (motleyref27_padded.l0 k y0 y1) (motleyref27_padded.l0 (k + 1) y0 y1))
  | 0 => fun _ _ r h => by simp [motleyref27_padded.l0] at h
  | k + 1 => by
    have ih0 := motleyref27_padded.mono_l k
    · intro y0 y1
      unfold motleyref27_padded.l0
      repeat' first
      | (with_reducible exact ih0 _ _)
      | (with_reducible exact LeO.refl _)
      | (with_reducible exact LeO.none _)
      | (with_reducible refine LeO.ite ?_ ?_)
      | (with_reducible refine LeO.bind ?_ (fun _ => ?_))
      | exact ih0 _ _
      | exact LeO.none _
      | refine LeO.ite ?_ ?_
      | refine LeO.bind ?_ (fun _ => ?_)
theorem motleyref27_padded.mono : ∀ a0 a1 k, LeO (motleyref27_padded.f k a0 a1) (motleyref27_padded.f (k + 1) a0 a1) := by
  intro a0 a1 k
  have ih0 := motleyref27_padded.mono_l k
  unfold motleyref27_padded.f
  repeat' first
      | (with_reducible exact ih0 _ _)
      | (with_reducible exact LeO.refl _)
      | (with_reducible exact LeO.none _)
      | (with_reducible refine LeO.ite ?_ ?_)
      | (with_reducible refine LeO.bind ?_ (fun _ => ?_))
      | exact ih0 _ _
      | exact LeO.none _
      | refine LeO.ite ?_ ?_
      | refine LeO.bind ?_ (fun _ => ?_)
set_option maxHeartbeats 8000000 in
set_option maxRecDepth 100000 in
theorem motleyref27_padded.calls (k : Nat) (a0 : Int) (a1 : Int) (r : ByteArray) (w : World) (h : motleyref27_padded.f k a0 a1 = some r) :
    Calls Tryz.prog 30 #[.int .i64 a0, .int .i64 a1] w fun e w' => e = .returned (.string r) ∧ Drawn0 w w' := by
  have H : ((motleyref01_Written.f a0).bind fun t113 => (motleyref27_padded.l0 k a1 t113)) = some r := h
  clear h
  replace H := Option.bind_eq_some_iff.mp H
  obtain ⟨t113, A30, H⟩ := H
  replace H : (motleyref27_padded.l0 k a1 t113) = some r := H
  have A3 := Aside0.mk A30
  clear A30
  have H' := Aside0.mk H
  clear H
  go_enter Tryz.func30, Tryz.ntmps30
  go_wp2_with (first | ((with_reducible refine gate_callee (f := 47) rfl ?_); refine goesL_ (some 7) rfl rfl Tryz.func47 (by kernel_rfl) rfl #[.int .i64 a0] rfl (by (try simp only [List.map_toArray, List.map_cons, List.map_nil]); first | done | rfl | (simp only [List.length_drop, List.length_take]; rfl)) ?_; (with_reducible refine (motleyref01_Written.calls a0 t113 _ A3.out).mono ?_); rintro e w' ⟨rfl, ⟨nd, rfl⟩⟩; refine ⟨_, rfl, ?_⟩))
  go_loopg [5] k (fun kq v5 w' => ∃ (x5_1 : ByteArray), v5 = .string x5_1 ∧ Aside0 (motleyref27_padded.l0 kq a1 x5_1 = some r) ∧ Aside0 (kq ≤ k) ∧ Drawn0 w w')
  case atStart => exact ⟨(t113), (by first | rfl | (simp; done) | (simp [*]; done) | (simp; generalize ByteArray.toList _ = l_; cases l_ <;> rfl)), H', ⟨Nat.le_refl _⟩, by repeat (first | exact Drawn0.refl _ | apply Drawn0.step)⟩
  case round =>
    clear H'
    try clear p2
    try clear c3
    obtain ⟨x5_1, rfl, HA, HK1, ⟨m1, rfl⟩⟩ := hrel
    cases gk with
    | zero => exact absurd HA.out (by simp [motleyref27_padded.l0])
    | succ k1 =>
      have H := HA.out
      clear HA
      simp only [motleyref27_padded.l0] at H
      by_cases c4 : (x5_1.size : Int) < a1
      · rw [if_pos c4] at H
        have c4b0 : decide ((x5_1.size : Int) < a1) = true := decide_eq_true c4
        clear c4
        by_cases c5 : 1 + x5_1.size ≤ 9223372036854775807
        · rw [if_pos c5] at H
          have c5b0 := eq_true c5
          have c5b1 : decide (1 + x5_1.size ≤ 9223372036854775807) = true := decide_eq_true c5
          try have c5b2 : (9223372036854775807 < 1 + x5_1.size) = False := eq_false (Nat.not_lt.2 c5)
          have H' := Aside0.mk H
          clear H
          go_wp2
          go_roundg k1
          case measure => have := HK1.out; omega
          case rel => exact ⟨((⟨#[48]⟩ : ByteArray) ++ x5_1), (by first | rfl | (simp; done) | (simp [*]; done) | (simp; generalize ByteArray.toList _ = l_; cases l_ <;> rfl)), H', ⟨by have := HK1.out; omega⟩, by repeat (first | exact Drawn0.refl _ | apply Drawn0.step)⟩
        · rw [if_neg c5] at H
          exact absurd H (by simp)
      · rw [if_neg c4] at H
        have c4b0 : decide ((x5_1.size : Int) < a1) = false := decide_eq_false c4
        clear c4
        obtain rfl := Option.some.inj H
        go_wp2
        go_ret
        exact ⟨by first | rfl | (simp; done) | (simp [*]; done) | (simp; generalize ByteArray.toList _ = l_; cases l_ <;> rfl), by repeat (first | exact Drawn0.refl _ | apply Drawn0.step)⟩

/-! ### motleyref27_Stamp: function 17 -/
def motleyref27_Stamp.j0 : Nat → Int → Bool → Option (ByteArray × Int)
  | 0, _, _ => none
  | k + 1, x0, x15 => if x15 = true then (some ((⟨#[]⟩ : ByteArray), 1)) else ((motleyref27_day.f x0).bind fun bt114 => ((motleyref27_Date.f k bt114.1).bind fun bt116 => (if bt116.2.2.2 = 0 then ((motleyref27_padded.f k bt116.1 4).bind fun t120 => (if t120.size + 1 ≤ 9223372036854775807 then ((motleyref27_padded.f k bt116.2.1 2).bind fun t121 => (if (t120 ++ (⟨#[45]⟩ : ByteArray)).size + t121.size ≤ 9223372036854775807 then (if ((t120 ++ (⟨#[45]⟩ : ByteArray)) ++ t121).size + 1 ≤ 9223372036854775807 then ((motleyref27_padded.f k bt116.2.2.1 2).bind fun t122 => (if (((t120 ++ (⟨#[45]⟩ : ByteArray)) ++ t121) ++ (⟨#[45]⟩ : ByteArray)).size + t122.size ≤ 9223372036854775807 then (if ((((t120 ++ (⟨#[45]⟩ : ByteArray)) ++ t121) ++ (⟨#[45]⟩ : ByteArray)) ++ t122).size + 1 ≤ 9223372036854775807 then ((motleyref27_padded.f k (wrap64 (Int.tdiv bt114.2 3600)) 2).bind fun t123 => (if (((((t120 ++ (⟨#[45]⟩ : ByteArray)) ++ t121) ++ (⟨#[45]⟩ : ByteArray)) ++ t122) ++ (⟨#[84]⟩ : ByteArray)).size + t123.size ≤ 9223372036854775807 then (if ((((((t120 ++ (⟨#[45]⟩ : ByteArray)) ++ t121) ++ (⟨#[45]⟩ : ByteArray)) ++ t122) ++ (⟨#[84]⟩ : ByteArray)) ++ t123).size + 1 ≤ 9223372036854775807 then ((motleyref27_padded.f k (Int.tmod (wrap64 (Int.tdiv bt114.2 60)) 60) 2).bind fun t124 => (if (((((((t120 ++ (⟨#[45]⟩ : ByteArray)) ++ t121) ++ (⟨#[45]⟩ : ByteArray)) ++ t122) ++ (⟨#[84]⟩ : ByteArray)) ++ t123) ++ (⟨#[58]⟩ : ByteArray)).size + t124.size ≤ 9223372036854775807 then (if ((((((((t120 ++ (⟨#[45]⟩ : ByteArray)) ++ t121) ++ (⟨#[45]⟩ : ByteArray)) ++ t122) ++ (⟨#[84]⟩ : ByteArray)) ++ t123) ++ (⟨#[58]⟩ : ByteArray)) ++ t124).size + 1 ≤ 9223372036854775807 then ((motleyref27_padded.f k (Int.tmod bt114.2 60) 2).bind fun t125 => (if (((((((((t120 ++ (⟨#[45]⟩ : ByteArray)) ++ t121) ++ (⟨#[45]⟩ : ByteArray)) ++ t122) ++ (⟨#[84]⟩ : ByteArray)) ++ t123) ++ (⟨#[58]⟩ : ByteArray)) ++ t124) ++ (⟨#[58]⟩ : ByteArray)).size + t125.size ≤ 9223372036854775807 then (if ((((((((((t120 ++ (⟨#[45]⟩ : ByteArray)) ++ t121) ++ (⟨#[45]⟩ : ByteArray)) ++ t122) ++ (⟨#[84]⟩ : ByteArray)) ++ t123) ++ (⟨#[58]⟩ : ByteArray)) ++ t124) ++ (⟨#[58]⟩ : ByteArray)) ++ t125).size + 1 ≤ 9223372036854775807 then (some (((((((((((t120 ++ (⟨#[45]⟩ : ByteArray)) ++ t121) ++ (⟨#[45]⟩ : ByteArray)) ++ t122) ++ (⟨#[84]⟩ : ByteArray)) ++ t123) ++ (⟨#[58]⟩ : ByteArray)) ++ t124) ++ (⟨#[58]⟩ : ByteArray)) ++ t125) ++ (⟨#[90]⟩ : ByteArray), 0)) else (none)) else (none))) else (none)) else (none))) else (none)) else (none))) else (none)) else (none))) else (none)) else (none))) else (none))) else (some ((⟨#[]⟩ : ByteArray), bt116.2.2.2)))))
def motleyref27_Stamp.f (k : Nat) (a0 : Int) : Option (ByteArray × Int) := if a0 < (-1152921504606846976) then (motleyref27_Stamp.j0 k a0 true) else (motleyref27_Stamp.j0 k a0 (decide (a0 > 1152921504606846976)))
theorem motleyref27_Stamp.mono_l : ∀ k, (∀ y0 y1, LeO (motleyref27_Stamp.j0 k y0 y1) (motleyref27_Stamp.j0 (k + 1) y0 y1))
  | 0 => fun _ _ r h => by simp [motleyref27_Stamp.j0] at h
  | k + 1 => by
    have ih0 := motleyref27_Stamp.mono_l k
    · intro y0 y1
      unfold motleyref27_Stamp.j0
      repeat' first
      | (with_reducible exact ih0 _ _)
      | (with_reducible exact motleyref27_Date.mono _ _)
      | (with_reducible exact motleyref27_padded.mono _ _ _)
      | (with_reducible exact LeO.refl _)
      | (with_reducible exact LeO.none _)
      | (with_reducible refine LeO.ite ?_ ?_)
      | (with_reducible refine LeO.bind ?_ (fun _ => ?_))
      | exact ih0 _ _
      | exact motleyref27_Date.mono _ _
      | exact motleyref27_padded.mono _ _ _
      | exact LeO.none _
      | refine LeO.ite ?_ ?_
      | refine LeO.bind ?_ (fun _ => ?_)
theorem motleyref27_Stamp.mono : ∀ a0 k, LeO (motleyref27_Stamp.f k a0) (motleyref27_Stamp.f (k + 1) a0) := by
  intro a0 k
  have ih0 := motleyref27_Stamp.mono_l k
  unfold motleyref27_Stamp.f
  repeat' first
      | (with_reducible exact ih0 _ _)
      | (with_reducible exact motleyref27_Date.mono _ _)
      | (with_reducible exact motleyref27_padded.mono _ _ _)
      | (with_reducible exact LeO.refl _)
      | (with_reducible exact LeO.none _)
      | (with_reducible refine LeO.ite ?_ ?_)
      | (with_reducible refine LeO.bind ?_ (fun _ => ?_))
      | exact ih0 _ _
      | exact motleyref27_Date.mono _ _
      | exact motleyref27_padded.mono _ _ _
      | exact LeO.none _
      | refine LeO.ite ?_ ?_
      | refine LeO.bind ?_ (fun _ => ?_)
set_option maxHeartbeats 8000000 in
set_option maxRecDepth 100000 in
theorem motleyref27_Stamp.calls (k : Nat) (a0 : Int) (r1 : ByteArray) (r2 : Int) (w : World) (h : motleyref27_Stamp.f k a0 = some (r1, r2)) :
    Calls Tryz.prog 17 #[.int .i64 a0] w fun e w' => e = .returned (.tuple #[.string r1, .int .i64 r2]) ∧ Drawn0 w w' := by
  have H : (if a0 < (-1152921504606846976) then (motleyref27_Stamp.j0 k a0 true) else (motleyref27_Stamp.j0 k a0 (decide (a0 > 1152921504606846976)))) = some (r1, r2) := h
  clear h
  have HC2 := Aside0.mk H
  clear H
  go_enter Tryz.func17, Tryz.ntmps17
  go_upto_region 1 with (fail)
  go_cut [15] (fun v15 wc => ∃ (kq : Nat) (x15_1 : Bool), v15 = .bool x15_1 ∧ Aside0 (motleyref27_Stamp.j0 kq a0 x15_1 = some (r1, r2)) ∧ Aside0 (kq ≤ k) ∧ Drawn0 w wc)
  case first =>
    have H := HC2.out
    clear HC2
    by_cases c3 : a0 < (-1152921504606846976)
    · rw [if_pos c3] at H
      have c3b0 : decide (a0 < (-1152921504606846976)) = true := decide_eq_true c3
      clear c3
      (first | rw [c3b0] | (simp only [i64_w, i32_w]; rw [c3b0]) | skip)
      have H' := Aside0.mk H
      clear H
      go_wp2
      go_meet
      case rel => exact ⟨_, (true), (by first | rfl | (simp; done) | (simp [*]; done) | (simp; generalize ByteArray.toList _ = l_; cases l_ <;> rfl)), H', ⟨by first | omega | exact Nat.le_refl _⟩, by repeat (first | exact Drawn0.refl _ | apply Drawn0.step)⟩
    · rw [if_neg c3] at H
      have c3b0 : decide (a0 < (-1152921504606846976)) = false := decide_eq_false c3
      clear c3
      (first | rw [c3b0] | (simp only [i64_w, i32_w]; rw [c3b0]) | skip)
      have H' := Aside0.mk H
      clear H
      go_wp2
      go_meet
      case rel => exact ⟨_, (decide (a0 > 1152921504606846976)), (by first | rfl | (simp; done) | (simp [*]; done) | (simp; generalize ByteArray.toList _ = l_; cases l_ <;> rfl)), H', ⟨by first | omega | exact Nat.le_refl _⟩, by repeat (first | exact Drawn0.refl _ | apply Drawn0.step)⟩
  case rest =>
    clear HC2
    try clear c1
    try clear p2
    try clear c3
    try clear c3b0
    obtain ⟨kq, x15_1, rfl, HA, HJ1, ⟨mc1, rfl⟩⟩ := hcut
    cases kq with
    | zero => exact absurd HA.out (by simp [motleyref27_Stamp.j0])
    | succ kj1 =>
      have H := HA.out
      clear HA
      simp only [motleyref27_Stamp.j0] at H
      by_cases c4 : x15_1 = true
      · subst c4
        have H1 : (some ((⟨#[]⟩ : ByteArray), 1)) = some (r1, r2) := by rw [if_pos rfl] at H; exact H
        clear H
        have H := H1
        clear H1
        simp only [Option.some.injEq, Prod.mk.injEq] at H
        obtain ⟨rfl, rfl⟩ := H
        go_wp2
        go_ret2
        exact ⟨by first | rfl | (simp; done) | (simp [*]; done) | (simp; generalize ByteArray.toList _ = l_; cases l_ <;> rfl), by repeat (first | exact Drawn0.refl _ | apply Drawn0.step)⟩
      · replace c4 := Bool.eq_false_iff.mpr c4
        subst c4
        have H1 : ((motleyref27_day.f a0).bind fun bt114 => ((motleyref27_Date.f kj1 bt114.1).bind fun bt116 => (if bt116.2.2.2 = 0 then ((motleyref27_padded.f kj1 bt116.1 4).bind fun t120 => (if t120.size + 1 ≤ 9223372036854775807 then ((motleyref27_padded.f kj1 bt116.2.1 2).bind fun t121 => (if (t120 ++ (⟨#[45]⟩ : ByteArray)).size + t121.size ≤ 9223372036854775807 then (if ((t120 ++ (⟨#[45]⟩ : ByteArray)) ++ t121).size + 1 ≤ 9223372036854775807 then ((motleyref27_padded.f kj1 bt116.2.2.1 2).bind fun t122 => (if (((t120 ++ (⟨#[45]⟩ : ByteArray)) ++ t121) ++ (⟨#[45]⟩ : ByteArray)).size + t122.size ≤ 9223372036854775807 then (if ((((t120 ++ (⟨#[45]⟩ : ByteArray)) ++ t121) ++ (⟨#[45]⟩ : ByteArray)) ++ t122).size + 1 ≤ 9223372036854775807 then ((motleyref27_padded.f kj1 (wrap64 (Int.tdiv bt114.2 3600)) 2).bind fun t123 => (if (((((t120 ++ (⟨#[45]⟩ : ByteArray)) ++ t121) ++ (⟨#[45]⟩ : ByteArray)) ++ t122) ++ (⟨#[84]⟩ : ByteArray)).size + t123.size ≤ 9223372036854775807 then (if ((((((t120 ++ (⟨#[45]⟩ : ByteArray)) ++ t121) ++ (⟨#[45]⟩ : ByteArray)) ++ t122) ++ (⟨#[84]⟩ : ByteArray)) ++ t123).size + 1 ≤ 9223372036854775807 then ((motleyref27_padded.f kj1 (Int.tmod (wrap64 (Int.tdiv bt114.2 60)) 60) 2).bind fun t124 => (if (((((((t120 ++ (⟨#[45]⟩ : ByteArray)) ++ t121) ++ (⟨#[45]⟩ : ByteArray)) ++ t122) ++ (⟨#[84]⟩ : ByteArray)) ++ t123) ++ (⟨#[58]⟩ : ByteArray)).size + t124.size ≤ 9223372036854775807 then (if ((((((((t120 ++ (⟨#[45]⟩ : ByteArray)) ++ t121) ++ (⟨#[45]⟩ : ByteArray)) ++ t122) ++ (⟨#[84]⟩ : ByteArray)) ++ t123) ++ (⟨#[58]⟩ : ByteArray)) ++ t124).size + 1 ≤ 9223372036854775807 then ((motleyref27_padded.f kj1 (Int.tmod bt114.2 60) 2).bind fun t125 => (if (((((((((t120 ++ (⟨#[45]⟩ : ByteArray)) ++ t121) ++ (⟨#[45]⟩ : ByteArray)) ++ t122) ++ (⟨#[84]⟩ : ByteArray)) ++ t123) ++ (⟨#[58]⟩ : ByteArray)) ++ t124) ++ (⟨#[58]⟩ : ByteArray)).size + t125.size ≤ 9223372036854775807 then (if ((((((((((t120 ++ (⟨#[45]⟩ : ByteArray)) ++ t121) ++ (⟨#[45]⟩ : ByteArray)) ++ t122) ++ (⟨#[84]⟩ : ByteArray)) ++ t123) ++ (⟨#[58]⟩ : ByteArray)) ++ t124) ++ (⟨#[58]⟩ : ByteArray)) ++ t125).size + 1 ≤ 9223372036854775807 then (some (((((((((((t120 ++ (⟨#[45]⟩ : ByteArray)) ++ t121) ++ (⟨#[45]⟩ : ByteArray)) ++ t122) ++ (⟨#[84]⟩ : ByteArray)) ++ t123) ++ (⟨#[58]⟩ : ByteArray)) ++ t124) ++ (⟨#[58]⟩ : ByteArray)) ++ t125) ++ (⟨#[90]⟩ : ByteArray), 0)) else (none)) else (none))) else (none)) else (none))) else (none)) else (none))) else (none)) else (none))) else (none)) else (none))) else (none))) else (some ((⟨#[]⟩ : ByteArray), bt116.2.2.2))))) = some (r1, r2) := by rw [if_neg (show ¬ (false = true) by decide)] at H; exact H
        clear H
        have H := H1
        clear H1
        replace H := Option.bind_eq_some_iff.mp H
        obtain ⟨⟨t114, t115⟩, A50, H⟩ := H
        replace H : ((motleyref27_Date.f kj1 t114).bind fun bt116 => (if bt116.2.2.2 = 0 then ((motleyref27_padded.f kj1 bt116.1 4).bind fun t120 => (if t120.size + 1 ≤ 9223372036854775807 then ((motleyref27_padded.f kj1 bt116.2.1 2).bind fun t121 => (if (t120 ++ (⟨#[45]⟩ : ByteArray)).size + t121.size ≤ 9223372036854775807 then (if ((t120 ++ (⟨#[45]⟩ : ByteArray)) ++ t121).size + 1 ≤ 9223372036854775807 then ((motleyref27_padded.f kj1 bt116.2.2.1 2).bind fun t122 => (if (((t120 ++ (⟨#[45]⟩ : ByteArray)) ++ t121) ++ (⟨#[45]⟩ : ByteArray)).size + t122.size ≤ 9223372036854775807 then (if ((((t120 ++ (⟨#[45]⟩ : ByteArray)) ++ t121) ++ (⟨#[45]⟩ : ByteArray)) ++ t122).size + 1 ≤ 9223372036854775807 then ((motleyref27_padded.f kj1 (wrap64 (Int.tdiv t115 3600)) 2).bind fun t123 => (if (((((t120 ++ (⟨#[45]⟩ : ByteArray)) ++ t121) ++ (⟨#[45]⟩ : ByteArray)) ++ t122) ++ (⟨#[84]⟩ : ByteArray)).size + t123.size ≤ 9223372036854775807 then (if ((((((t120 ++ (⟨#[45]⟩ : ByteArray)) ++ t121) ++ (⟨#[45]⟩ : ByteArray)) ++ t122) ++ (⟨#[84]⟩ : ByteArray)) ++ t123).size + 1 ≤ 9223372036854775807 then ((motleyref27_padded.f kj1 (Int.tmod (wrap64 (Int.tdiv t115 60)) 60) 2).bind fun t124 => (if (((((((t120 ++ (⟨#[45]⟩ : ByteArray)) ++ t121) ++ (⟨#[45]⟩ : ByteArray)) ++ t122) ++ (⟨#[84]⟩ : ByteArray)) ++ t123) ++ (⟨#[58]⟩ : ByteArray)).size + t124.size ≤ 9223372036854775807 then (if ((((((((t120 ++ (⟨#[45]⟩ : ByteArray)) ++ t121) ++ (⟨#[45]⟩ : ByteArray)) ++ t122) ++ (⟨#[84]⟩ : ByteArray)) ++ t123) ++ (⟨#[58]⟩ : ByteArray)) ++ t124).size + 1 ≤ 9223372036854775807 then ((motleyref27_padded.f kj1 (Int.tmod t115 60) 2).bind fun t125 => (if (((((((((t120 ++ (⟨#[45]⟩ : ByteArray)) ++ t121) ++ (⟨#[45]⟩ : ByteArray)) ++ t122) ++ (⟨#[84]⟩ : ByteArray)) ++ t123) ++ (⟨#[58]⟩ : ByteArray)) ++ t124) ++ (⟨#[58]⟩ : ByteArray)).size + t125.size ≤ 9223372036854775807 then (if ((((((((((t120 ++ (⟨#[45]⟩ : ByteArray)) ++ t121) ++ (⟨#[45]⟩ : ByteArray)) ++ t122) ++ (⟨#[84]⟩ : ByteArray)) ++ t123) ++ (⟨#[58]⟩ : ByteArray)) ++ t124) ++ (⟨#[58]⟩ : ByteArray)) ++ t125).size + 1 ≤ 9223372036854775807 then (some (((((((((((t120 ++ (⟨#[45]⟩ : ByteArray)) ++ t121) ++ (⟨#[45]⟩ : ByteArray)) ++ t122) ++ (⟨#[84]⟩ : ByteArray)) ++ t123) ++ (⟨#[58]⟩ : ByteArray)) ++ t124) ++ (⟨#[58]⟩ : ByteArray)) ++ t125) ++ (⟨#[90]⟩ : ByteArray), 0)) else (none)) else (none))) else (none)) else (none))) else (none)) else (none))) else (none)) else (none))) else (none)) else (none))) else (none))) else (some ((⟨#[]⟩ : ByteArray), bt116.2.2.2)))) = some (r1, r2) := H
        have A5 := Aside0.mk A50
        clear A50
        replace H := Option.bind_eq_some_iff.mp H
        obtain ⟨⟨t116, t117, t118, t119⟩, A60, H⟩ := H
        replace H : (if t119 = 0 then ((motleyref27_padded.f kj1 t116 4).bind fun t120 => (if t120.size + 1 ≤ 9223372036854775807 then ((motleyref27_padded.f kj1 t117 2).bind fun t121 => (if (t120 ++ (⟨#[45]⟩ : ByteArray)).size + t121.size ≤ 9223372036854775807 then (if ((t120 ++ (⟨#[45]⟩ : ByteArray)) ++ t121).size + 1 ≤ 9223372036854775807 then ((motleyref27_padded.f kj1 t118 2).bind fun t122 => (if (((t120 ++ (⟨#[45]⟩ : ByteArray)) ++ t121) ++ (⟨#[45]⟩ : ByteArray)).size + t122.size ≤ 9223372036854775807 then (if ((((t120 ++ (⟨#[45]⟩ : ByteArray)) ++ t121) ++ (⟨#[45]⟩ : ByteArray)) ++ t122).size + 1 ≤ 9223372036854775807 then ((motleyref27_padded.f kj1 (wrap64 (Int.tdiv t115 3600)) 2).bind fun t123 => (if (((((t120 ++ (⟨#[45]⟩ : ByteArray)) ++ t121) ++ (⟨#[45]⟩ : ByteArray)) ++ t122) ++ (⟨#[84]⟩ : ByteArray)).size + t123.size ≤ 9223372036854775807 then (if ((((((t120 ++ (⟨#[45]⟩ : ByteArray)) ++ t121) ++ (⟨#[45]⟩ : ByteArray)) ++ t122) ++ (⟨#[84]⟩ : ByteArray)) ++ t123).size + 1 ≤ 9223372036854775807 then ((motleyref27_padded.f kj1 (Int.tmod (wrap64 (Int.tdiv t115 60)) 60) 2).bind fun t124 => (if (((((((t120 ++ (⟨#[45]⟩ : ByteArray)) ++ t121) ++ (⟨#[45]⟩ : ByteArray)) ++ t122) ++ (⟨#[84]⟩ : ByteArray)) ++ t123) ++ (⟨#[58]⟩ : ByteArray)).size + t124.size ≤ 9223372036854775807 then (if ((((((((t120 ++ (⟨#[45]⟩ : ByteArray)) ++ t121) ++ (⟨#[45]⟩ : ByteArray)) ++ t122) ++ (⟨#[84]⟩ : ByteArray)) ++ t123) ++ (⟨#[58]⟩ : ByteArray)) ++ t124).size + 1 ≤ 9223372036854775807 then ((motleyref27_padded.f kj1 (Int.tmod t115 60) 2).bind fun t125 => (if (((((((((t120 ++ (⟨#[45]⟩ : ByteArray)) ++ t121) ++ (⟨#[45]⟩ : ByteArray)) ++ t122) ++ (⟨#[84]⟩ : ByteArray)) ++ t123) ++ (⟨#[58]⟩ : ByteArray)) ++ t124) ++ (⟨#[58]⟩ : ByteArray)).size + t125.size ≤ 9223372036854775807 then (if ((((((((((t120 ++ (⟨#[45]⟩ : ByteArray)) ++ t121) ++ (⟨#[45]⟩ : ByteArray)) ++ t122) ++ (⟨#[84]⟩ : ByteArray)) ++ t123) ++ (⟨#[58]⟩ : ByteArray)) ++ t124) ++ (⟨#[58]⟩ : ByteArray)) ++ t125).size + 1 ≤ 9223372036854775807 then (some (((((((((((t120 ++ (⟨#[45]⟩ : ByteArray)) ++ t121) ++ (⟨#[45]⟩ : ByteArray)) ++ t122) ++ (⟨#[84]⟩ : ByteArray)) ++ t123) ++ (⟨#[58]⟩ : ByteArray)) ++ t124) ++ (⟨#[58]⟩ : ByteArray)) ++ t125) ++ (⟨#[90]⟩ : ByteArray), 0)) else (none)) else (none))) else (none)) else (none))) else (none)) else (none))) else (none)) else (none))) else (none)) else (none))) else (none))) else (some ((⟨#[]⟩ : ByteArray), t119))) = some (r1, r2) := H
        have A6 := Aside0.mk A60
        clear A60
        by_cases c7 : t119 = 0
        · rw [if_pos c7] at H
          have c7b0 : (t119 == 0) = true := beq_iff_eq.mpr c7
          have c7b1 : (t119 != 0) = false := bne_eq_false_iff_eq.mpr c7
          clear c7
          replace H := Option.bind_eq_some_iff.mp H
          obtain ⟨t120, A80, H⟩ := H
          replace H : (if t120.size + 1 ≤ 9223372036854775807 then ((motleyref27_padded.f kj1 t117 2).bind fun t121 => (if (t120 ++ (⟨#[45]⟩ : ByteArray)).size + t121.size ≤ 9223372036854775807 then (if ((t120 ++ (⟨#[45]⟩ : ByteArray)) ++ t121).size + 1 ≤ 9223372036854775807 then ((motleyref27_padded.f kj1 t118 2).bind fun t122 => (if (((t120 ++ (⟨#[45]⟩ : ByteArray)) ++ t121) ++ (⟨#[45]⟩ : ByteArray)).size + t122.size ≤ 9223372036854775807 then (if ((((t120 ++ (⟨#[45]⟩ : ByteArray)) ++ t121) ++ (⟨#[45]⟩ : ByteArray)) ++ t122).size + 1 ≤ 9223372036854775807 then ((motleyref27_padded.f kj1 (wrap64 (Int.tdiv t115 3600)) 2).bind fun t123 => (if (((((t120 ++ (⟨#[45]⟩ : ByteArray)) ++ t121) ++ (⟨#[45]⟩ : ByteArray)) ++ t122) ++ (⟨#[84]⟩ : ByteArray)).size + t123.size ≤ 9223372036854775807 then (if ((((((t120 ++ (⟨#[45]⟩ : ByteArray)) ++ t121) ++ (⟨#[45]⟩ : ByteArray)) ++ t122) ++ (⟨#[84]⟩ : ByteArray)) ++ t123).size + 1 ≤ 9223372036854775807 then ((motleyref27_padded.f kj1 (Int.tmod (wrap64 (Int.tdiv t115 60)) 60) 2).bind fun t124 => (if (((((((t120 ++ (⟨#[45]⟩ : ByteArray)) ++ t121) ++ (⟨#[45]⟩ : ByteArray)) ++ t122) ++ (⟨#[84]⟩ : ByteArray)) ++ t123) ++ (⟨#[58]⟩ : ByteArray)).size + t124.size ≤ 9223372036854775807 then (if ((((((((t120 ++ (⟨#[45]⟩ : ByteArray)) ++ t121) ++ (⟨#[45]⟩ : ByteArray)) ++ t122) ++ (⟨#[84]⟩ : ByteArray)) ++ t123) ++ (⟨#[58]⟩ : ByteArray)) ++ t124).size + 1 ≤ 9223372036854775807 then ((motleyref27_padded.f kj1 (Int.tmod t115 60) 2).bind fun t125 => (if (((((((((t120 ++ (⟨#[45]⟩ : ByteArray)) ++ t121) ++ (⟨#[45]⟩ : ByteArray)) ++ t122) ++ (⟨#[84]⟩ : ByteArray)) ++ t123) ++ (⟨#[58]⟩ : ByteArray)) ++ t124) ++ (⟨#[58]⟩ : ByteArray)).size + t125.size ≤ 9223372036854775807 then (if ((((((((((t120 ++ (⟨#[45]⟩ : ByteArray)) ++ t121) ++ (⟨#[45]⟩ : ByteArray)) ++ t122) ++ (⟨#[84]⟩ : ByteArray)) ++ t123) ++ (⟨#[58]⟩ : ByteArray)) ++ t124) ++ (⟨#[58]⟩ : ByteArray)) ++ t125).size + 1 ≤ 9223372036854775807 then (some (((((((((((t120 ++ (⟨#[45]⟩ : ByteArray)) ++ t121) ++ (⟨#[45]⟩ : ByteArray)) ++ t122) ++ (⟨#[84]⟩ : ByteArray)) ++ t123) ++ (⟨#[58]⟩ : ByteArray)) ++ t124) ++ (⟨#[58]⟩ : ByteArray)) ++ t125) ++ (⟨#[90]⟩ : ByteArray), 0)) else (none)) else (none))) else (none)) else (none))) else (none)) else (none))) else (none)) else (none))) else (none)) else (none))) else (none)) = some (r1, r2) := H
          have A8 := Aside0.mk A80
          clear A80
          by_cases c9 : t120.size + 1 ≤ 9223372036854775807
          · rw [if_pos c9] at H
            have c9b0 := eq_true c9
            have c9b1 : decide (t120.size + 1 ≤ 9223372036854775807) = true := decide_eq_true c9
            try have c9b2 : (9223372036854775807 < t120.size + 1) = False := eq_false (Nat.not_lt.2 c9)
            replace H := Option.bind_eq_some_iff.mp H
            obtain ⟨t121, A100, H⟩ := H
            replace H : (if (t120 ++ (⟨#[45]⟩ : ByteArray)).size + t121.size ≤ 9223372036854775807 then (if ((t120 ++ (⟨#[45]⟩ : ByteArray)) ++ t121).size + 1 ≤ 9223372036854775807 then ((motleyref27_padded.f kj1 t118 2).bind fun t122 => (if (((t120 ++ (⟨#[45]⟩ : ByteArray)) ++ t121) ++ (⟨#[45]⟩ : ByteArray)).size + t122.size ≤ 9223372036854775807 then (if ((((t120 ++ (⟨#[45]⟩ : ByteArray)) ++ t121) ++ (⟨#[45]⟩ : ByteArray)) ++ t122).size + 1 ≤ 9223372036854775807 then ((motleyref27_padded.f kj1 (wrap64 (Int.tdiv t115 3600)) 2).bind fun t123 => (if (((((t120 ++ (⟨#[45]⟩ : ByteArray)) ++ t121) ++ (⟨#[45]⟩ : ByteArray)) ++ t122) ++ (⟨#[84]⟩ : ByteArray)).size + t123.size ≤ 9223372036854775807 then (if ((((((t120 ++ (⟨#[45]⟩ : ByteArray)) ++ t121) ++ (⟨#[45]⟩ : ByteArray)) ++ t122) ++ (⟨#[84]⟩ : ByteArray)) ++ t123).size + 1 ≤ 9223372036854775807 then ((motleyref27_padded.f kj1 (Int.tmod (wrap64 (Int.tdiv t115 60)) 60) 2).bind fun t124 => (if (((((((t120 ++ (⟨#[45]⟩ : ByteArray)) ++ t121) ++ (⟨#[45]⟩ : ByteArray)) ++ t122) ++ (⟨#[84]⟩ : ByteArray)) ++ t123) ++ (⟨#[58]⟩ : ByteArray)).size + t124.size ≤ 9223372036854775807 then (if ((((((((t120 ++ (⟨#[45]⟩ : ByteArray)) ++ t121) ++ (⟨#[45]⟩ : ByteArray)) ++ t122) ++ (⟨#[84]⟩ : ByteArray)) ++ t123) ++ (⟨#[58]⟩ : ByteArray)) ++ t124).size + 1 ≤ 9223372036854775807 then ((motleyref27_padded.f kj1 (Int.tmod t115 60) 2).bind fun t125 => (if (((((((((t120 ++ (⟨#[45]⟩ : ByteArray)) ++ t121) ++ (⟨#[45]⟩ : ByteArray)) ++ t122) ++ (⟨#[84]⟩ : ByteArray)) ++ t123) ++ (⟨#[58]⟩ : ByteArray)) ++ t124) ++ (⟨#[58]⟩ : ByteArray)).size + t125.size ≤ 9223372036854775807 then (if ((((((((((t120 ++ (⟨#[45]⟩ : ByteArray)) ++ t121) ++ (⟨#[45]⟩ : ByteArray)) ++ t122) ++ (⟨#[84]⟩ : ByteArray)) ++ t123) ++ (⟨#[58]⟩ : ByteArray)) ++ t124) ++ (⟨#[58]⟩ : ByteArray)) ++ t125).size + 1 ≤ 9223372036854775807 then (some (((((((((((t120 ++ (⟨#[45]⟩ : ByteArray)) ++ t121) ++ (⟨#[45]⟩ : ByteArray)) ++ t122) ++ (⟨#[84]⟩ : ByteArray)) ++ t123) ++ (⟨#[58]⟩ : ByteArray)) ++ t124) ++ (⟨#[58]⟩ : ByteArray)) ++ t125) ++ (⟨#[90]⟩ : ByteArray), 0)) else (none)) else (none))) else (none)) else (none))) else (none)) else (none))) else (none)) else (none))) else (none)) else (none)) = some (r1, r2) := H
            have A10 := Aside0.mk A100
            clear A100
            by_cases c11 : (t120 ++ (⟨#[45]⟩ : ByteArray)).size + t121.size ≤ 9223372036854775807
            · rw [if_pos c11] at H
              have c11b0 := eq_true c11
              have c11b1 : decide ((t120 ++ (⟨#[45]⟩ : ByteArray)).size + t121.size ≤ 9223372036854775807) = true := decide_eq_true c11
              try have c11b3 : (9223372036854775807 < t120.size + 1 + t121.size) = False := eq_false (by have h_ := c11; (first | simp only [ByteArray.size_append, ByteArray.size_extract, Nat.min_self] at h_ | simp only [ByteArray.size_append] at h_); exact Nat.not_lt.2 h_)
              try have c11b2 : (9223372036854775807 < (t120 ++ (⟨#[45]⟩ : ByteArray)).size + t121.size) = False := eq_false (Nat.not_lt.2 c11)
              by_cases c12 : ((t120 ++ (⟨#[45]⟩ : ByteArray)) ++ t121).size + 1 ≤ 9223372036854775807
              · rw [if_pos c12] at H
                have c12b0 := eq_true c12
                have c12b1 : decide (((t120 ++ (⟨#[45]⟩ : ByteArray)) ++ t121).size + 1 ≤ 9223372036854775807) = true := decide_eq_true c12
                try have c12b3 : (9223372036854775807 < t120.size + 1 + t121.size + 1) = False := eq_false (by have h_ := c12; (first | simp only [ByteArray.size_append, ByteArray.size_extract, Nat.min_self] at h_ | simp only [ByteArray.size_append] at h_); exact Nat.not_lt.2 h_)
                try have c12b2 : (9223372036854775807 < ((t120 ++ (⟨#[45]⟩ : ByteArray)) ++ t121).size + 1) = False := eq_false (Nat.not_lt.2 c12)
                replace H := Option.bind_eq_some_iff.mp H
                obtain ⟨t122, A130, H⟩ := H
                replace H : (if (((t120 ++ (⟨#[45]⟩ : ByteArray)) ++ t121) ++ (⟨#[45]⟩ : ByteArray)).size + t122.size ≤ 9223372036854775807 then (if ((((t120 ++ (⟨#[45]⟩ : ByteArray)) ++ t121) ++ (⟨#[45]⟩ : ByteArray)) ++ t122).size + 1 ≤ 9223372036854775807 then ((motleyref27_padded.f kj1 (wrap64 (Int.tdiv t115 3600)) 2).bind fun t123 => (if (((((t120 ++ (⟨#[45]⟩ : ByteArray)) ++ t121) ++ (⟨#[45]⟩ : ByteArray)) ++ t122) ++ (⟨#[84]⟩ : ByteArray)).size + t123.size ≤ 9223372036854775807 then (if ((((((t120 ++ (⟨#[45]⟩ : ByteArray)) ++ t121) ++ (⟨#[45]⟩ : ByteArray)) ++ t122) ++ (⟨#[84]⟩ : ByteArray)) ++ t123).size + 1 ≤ 9223372036854775807 then ((motleyref27_padded.f kj1 (Int.tmod (wrap64 (Int.tdiv t115 60)) 60) 2).bind fun t124 => (if (((((((t120 ++ (⟨#[45]⟩ : ByteArray)) ++ t121) ++ (⟨#[45]⟩ : ByteArray)) ++ t122) ++ (⟨#[84]⟩ : ByteArray)) ++ t123) ++ (⟨#[58]⟩ : ByteArray)).size + t124.size ≤ 9223372036854775807 then (if ((((((((t120 ++ (⟨#[45]⟩ : ByteArray)) ++ t121) ++ (⟨#[45]⟩ : ByteArray)) ++ t122) ++ (⟨#[84]⟩ : ByteArray)) ++ t123) ++ (⟨#[58]⟩ : ByteArray)) ++ t124).size + 1 ≤ 9223372036854775807 then ((motleyref27_padded.f kj1 (Int.tmod t115 60) 2).bind fun t125 => (if (((((((((t120 ++ (⟨#[45]⟩ : ByteArray)) ++ t121) ++ (⟨#[45]⟩ : ByteArray)) ++ t122) ++ (⟨#[84]⟩ : ByteArray)) ++ t123) ++ (⟨#[58]⟩ : ByteArray)) ++ t124) ++ (⟨#[58]⟩ : ByteArray)).size + t125.size ≤ 9223372036854775807 then (if ((((((((((t120 ++ (⟨#[45]⟩ : ByteArray)) ++ t121) ++ (⟨#[45]⟩ : ByteArray)) ++ t122) ++ (⟨#[84]⟩ : ByteArray)) ++ t123) ++ (⟨#[58]⟩ : ByteArray)) ++ t124) ++ (⟨#[58]⟩ : ByteArray)) ++ t125).size + 1 ≤ 9223372036854775807 then (some (((((((((((t120 ++ (⟨#[45]⟩ : ByteArray)) ++ t121) ++ (⟨#[45]⟩ : ByteArray)) ++ t122) ++ (⟨#[84]⟩ : ByteArray)) ++ t123) ++ (⟨#[58]⟩ : ByteArray)) ++ t124) ++ (⟨#[58]⟩ : ByteArray)) ++ t125) ++ (⟨#[90]⟩ : ByteArray), 0)) else (none)) else (none))) else (none)) else (none))) else (none)) else (none))) else (none)) else (none)) = some (r1, r2) := H
                have A13 := Aside0.mk A130
                clear A130
                by_cases c14 : (((t120 ++ (⟨#[45]⟩ : ByteArray)) ++ t121) ++ (⟨#[45]⟩ : ByteArray)).size + t122.size ≤ 9223372036854775807
                · rw [if_pos c14] at H
                  have c14b0 := eq_true c14
                  have c14b1 : decide ((((t120 ++ (⟨#[45]⟩ : ByteArray)) ++ t121) ++ (⟨#[45]⟩ : ByteArray)).size + t122.size ≤ 9223372036854775807) = true := decide_eq_true c14
                  try have c14b3 : (9223372036854775807 < t120.size + 1 + t121.size + 1 + t122.size) = False := eq_false (by have h_ := c14; (first | simp only [ByteArray.size_append, ByteArray.size_extract, Nat.min_self] at h_ | simp only [ByteArray.size_append] at h_); exact Nat.not_lt.2 h_)
                  try have c14b2 : (9223372036854775807 < (((t120 ++ (⟨#[45]⟩ : ByteArray)) ++ t121) ++ (⟨#[45]⟩ : ByteArray)).size + t122.size) = False := eq_false (Nat.not_lt.2 c14)
                  by_cases c15 : ((((t120 ++ (⟨#[45]⟩ : ByteArray)) ++ t121) ++ (⟨#[45]⟩ : ByteArray)) ++ t122).size + 1 ≤ 9223372036854775807
                  · rw [if_pos c15] at H
                    have c15b0 := eq_true c15
                    have c15b1 : decide (((((t120 ++ (⟨#[45]⟩ : ByteArray)) ++ t121) ++ (⟨#[45]⟩ : ByteArray)) ++ t122).size + 1 ≤ 9223372036854775807) = true := decide_eq_true c15
                    try have c15b3 : (9223372036854775807 < t120.size + 1 + t121.size + 1 + t122.size + 1) = False := eq_false (by have h_ := c15; (first | simp only [ByteArray.size_append, ByteArray.size_extract, Nat.min_self] at h_ | simp only [ByteArray.size_append] at h_); exact Nat.not_lt.2 h_)
                    try have c15b2 : (9223372036854775807 < ((((t120 ++ (⟨#[45]⟩ : ByteArray)) ++ t121) ++ (⟨#[45]⟩ : ByteArray)) ++ t122).size + 1) = False := eq_false (Nat.not_lt.2 c15)
                    replace H := Option.bind_eq_some_iff.mp H
                    obtain ⟨t123, A160, H⟩ := H
                    replace H : (if (((((t120 ++ (⟨#[45]⟩ : ByteArray)) ++ t121) ++ (⟨#[45]⟩ : ByteArray)) ++ t122) ++ (⟨#[84]⟩ : ByteArray)).size + t123.size ≤ 9223372036854775807 then (if ((((((t120 ++ (⟨#[45]⟩ : ByteArray)) ++ t121) ++ (⟨#[45]⟩ : ByteArray)) ++ t122) ++ (⟨#[84]⟩ : ByteArray)) ++ t123).size + 1 ≤ 9223372036854775807 then ((motleyref27_padded.f kj1 (Int.tmod (wrap64 (Int.tdiv t115 60)) 60) 2).bind fun t124 => (if (((((((t120 ++ (⟨#[45]⟩ : ByteArray)) ++ t121) ++ (⟨#[45]⟩ : ByteArray)) ++ t122) ++ (⟨#[84]⟩ : ByteArray)) ++ t123) ++ (⟨#[58]⟩ : ByteArray)).size + t124.size ≤ 9223372036854775807 then (if ((((((((t120 ++ (⟨#[45]⟩ : ByteArray)) ++ t121) ++ (⟨#[45]⟩ : ByteArray)) ++ t122) ++ (⟨#[84]⟩ : ByteArray)) ++ t123) ++ (⟨#[58]⟩ : ByteArray)) ++ t124).size + 1 ≤ 9223372036854775807 then ((motleyref27_padded.f kj1 (Int.tmod t115 60) 2).bind fun t125 => (if (((((((((t120 ++ (⟨#[45]⟩ : ByteArray)) ++ t121) ++ (⟨#[45]⟩ : ByteArray)) ++ t122) ++ (⟨#[84]⟩ : ByteArray)) ++ t123) ++ (⟨#[58]⟩ : ByteArray)) ++ t124) ++ (⟨#[58]⟩ : ByteArray)).size + t125.size ≤ 9223372036854775807 then (if ((((((((((t120 ++ (⟨#[45]⟩ : ByteArray)) ++ t121) ++ (⟨#[45]⟩ : ByteArray)) ++ t122) ++ (⟨#[84]⟩ : ByteArray)) ++ t123) ++ (⟨#[58]⟩ : ByteArray)) ++ t124) ++ (⟨#[58]⟩ : ByteArray)) ++ t125).size + 1 ≤ 9223372036854775807 then (some (((((((((((t120 ++ (⟨#[45]⟩ : ByteArray)) ++ t121) ++ (⟨#[45]⟩ : ByteArray)) ++ t122) ++ (⟨#[84]⟩ : ByteArray)) ++ t123) ++ (⟨#[58]⟩ : ByteArray)) ++ t124) ++ (⟨#[58]⟩ : ByteArray)) ++ t125) ++ (⟨#[90]⟩ : ByteArray), 0)) else (none)) else (none))) else (none)) else (none))) else (none)) else (none)) = some (r1, r2) := H
                    have A16 := Aside0.mk A160
                    clear A160
                    by_cases c17 : (((((t120 ++ (⟨#[45]⟩ : ByteArray)) ++ t121) ++ (⟨#[45]⟩ : ByteArray)) ++ t122) ++ (⟨#[84]⟩ : ByteArray)).size + t123.size ≤ 9223372036854775807
                    · rw [if_pos c17] at H
                      have c17b0 := eq_true c17
                      have c17b1 : decide ((((((t120 ++ (⟨#[45]⟩ : ByteArray)) ++ t121) ++ (⟨#[45]⟩ : ByteArray)) ++ t122) ++ (⟨#[84]⟩ : ByteArray)).size + t123.size ≤ 9223372036854775807) = true := decide_eq_true c17
                      try have c17b3 : (9223372036854775807 < t120.size + 1 + t121.size + 1 + t122.size + 1 + t123.size) = False := eq_false (by have h_ := c17; (first | simp only [ByteArray.size_append, ByteArray.size_extract, Nat.min_self] at h_ | simp only [ByteArray.size_append] at h_); exact Nat.not_lt.2 h_)
                      try have c17b2 : (9223372036854775807 < (((((t120 ++ (⟨#[45]⟩ : ByteArray)) ++ t121) ++ (⟨#[45]⟩ : ByteArray)) ++ t122) ++ (⟨#[84]⟩ : ByteArray)).size + t123.size) = False := eq_false (Nat.not_lt.2 c17)
                      by_cases c18 : ((((((t120 ++ (⟨#[45]⟩ : ByteArray)) ++ t121) ++ (⟨#[45]⟩ : ByteArray)) ++ t122) ++ (⟨#[84]⟩ : ByteArray)) ++ t123).size + 1 ≤ 9223372036854775807
                      · rw [if_pos c18] at H
                        have c18b0 := eq_true c18
                        have c18b1 : decide (((((((t120 ++ (⟨#[45]⟩ : ByteArray)) ++ t121) ++ (⟨#[45]⟩ : ByteArray)) ++ t122) ++ (⟨#[84]⟩ : ByteArray)) ++ t123).size + 1 ≤ 9223372036854775807) = true := decide_eq_true c18
                        try have c18b3 : (9223372036854775807 < t120.size + 1 + t121.size + 1 + t122.size + 1 + t123.size + 1) = False := eq_false (by have h_ := c18; (first | simp only [ByteArray.size_append, ByteArray.size_extract, Nat.min_self] at h_ | simp only [ByteArray.size_append] at h_); exact Nat.not_lt.2 h_)
                        try have c18b2 : (9223372036854775807 < ((((((t120 ++ (⟨#[45]⟩ : ByteArray)) ++ t121) ++ (⟨#[45]⟩ : ByteArray)) ++ t122) ++ (⟨#[84]⟩ : ByteArray)) ++ t123).size + 1) = False := eq_false (Nat.not_lt.2 c18)
                        replace H := Option.bind_eq_some_iff.mp H
                        obtain ⟨t124, A190, H⟩ := H
                        replace H : (if (((((((t120 ++ (⟨#[45]⟩ : ByteArray)) ++ t121) ++ (⟨#[45]⟩ : ByteArray)) ++ t122) ++ (⟨#[84]⟩ : ByteArray)) ++ t123) ++ (⟨#[58]⟩ : ByteArray)).size + t124.size ≤ 9223372036854775807 then (if ((((((((t120 ++ (⟨#[45]⟩ : ByteArray)) ++ t121) ++ (⟨#[45]⟩ : ByteArray)) ++ t122) ++ (⟨#[84]⟩ : ByteArray)) ++ t123) ++ (⟨#[58]⟩ : ByteArray)) ++ t124).size + 1 ≤ 9223372036854775807 then ((motleyref27_padded.f kj1 (Int.tmod t115 60) 2).bind fun t125 => (if (((((((((t120 ++ (⟨#[45]⟩ : ByteArray)) ++ t121) ++ (⟨#[45]⟩ : ByteArray)) ++ t122) ++ (⟨#[84]⟩ : ByteArray)) ++ t123) ++ (⟨#[58]⟩ : ByteArray)) ++ t124) ++ (⟨#[58]⟩ : ByteArray)).size + t125.size ≤ 9223372036854775807 then (if ((((((((((t120 ++ (⟨#[45]⟩ : ByteArray)) ++ t121) ++ (⟨#[45]⟩ : ByteArray)) ++ t122) ++ (⟨#[84]⟩ : ByteArray)) ++ t123) ++ (⟨#[58]⟩ : ByteArray)) ++ t124) ++ (⟨#[58]⟩ : ByteArray)) ++ t125).size + 1 ≤ 9223372036854775807 then (some (((((((((((t120 ++ (⟨#[45]⟩ : ByteArray)) ++ t121) ++ (⟨#[45]⟩ : ByteArray)) ++ t122) ++ (⟨#[84]⟩ : ByteArray)) ++ t123) ++ (⟨#[58]⟩ : ByteArray)) ++ t124) ++ (⟨#[58]⟩ : ByteArray)) ++ t125) ++ (⟨#[90]⟩ : ByteArray), 0)) else (none)) else (none))) else (none)) else (none)) = some (r1, r2) := H
                        have A19 := Aside0.mk A190
                        clear A190
                        by_cases c20 : (((((((t120 ++ (⟨#[45]⟩ : ByteArray)) ++ t121) ++ (⟨#[45]⟩ : ByteArray)) ++ t122) ++ (⟨#[84]⟩ : ByteArray)) ++ t123) ++ (⟨#[58]⟩ : ByteArray)).size + t124.size ≤ 9223372036854775807
                        · rw [if_pos c20] at H
                          have c20b0 := eq_true c20
                          have c20b1 : decide ((((((((t120 ++ (⟨#[45]⟩ : ByteArray)) ++ t121) ++ (⟨#[45]⟩ : ByteArray)) ++ t122) ++ (⟨#[84]⟩ : ByteArray)) ++ t123) ++ (⟨#[58]⟩ : ByteArray)).size + t124.size ≤ 9223372036854775807) = true := decide_eq_true c20
                          try have c20b3 : (9223372036854775807 < t120.size + 1 + t121.size + 1 + t122.size + 1 + t123.size + 1 + t124.size) = False := eq_false (by have h_ := c20; (first | simp only [ByteArray.size_append, ByteArray.size_extract, Nat.min_self] at h_ | simp only [ByteArray.size_append] at h_); exact Nat.not_lt.2 h_)
                          try have c20b2 : (9223372036854775807 < (((((((t120 ++ (⟨#[45]⟩ : ByteArray)) ++ t121) ++ (⟨#[45]⟩ : ByteArray)) ++ t122) ++ (⟨#[84]⟩ : ByteArray)) ++ t123) ++ (⟨#[58]⟩ : ByteArray)).size + t124.size) = False := eq_false (Nat.not_lt.2 c20)
                          by_cases c21 : ((((((((t120 ++ (⟨#[45]⟩ : ByteArray)) ++ t121) ++ (⟨#[45]⟩ : ByteArray)) ++ t122) ++ (⟨#[84]⟩ : ByteArray)) ++ t123) ++ (⟨#[58]⟩ : ByteArray)) ++ t124).size + 1 ≤ 9223372036854775807
                          · rw [if_pos c21] at H
                            have c21b0 := eq_true c21
                            have c21b1 : decide (((((((((t120 ++ (⟨#[45]⟩ : ByteArray)) ++ t121) ++ (⟨#[45]⟩ : ByteArray)) ++ t122) ++ (⟨#[84]⟩ : ByteArray)) ++ t123) ++ (⟨#[58]⟩ : ByteArray)) ++ t124).size + 1 ≤ 9223372036854775807) = true := decide_eq_true c21
                            try have c21b3 : (9223372036854775807 < t120.size + 1 + t121.size + 1 + t122.size + 1 + t123.size + 1 + t124.size + 1) = False := eq_false (by have h_ := c21; (first | simp only [ByteArray.size_append, ByteArray.size_extract, Nat.min_self] at h_ | simp only [ByteArray.size_append] at h_); exact Nat.not_lt.2 h_)
                            try have c21b2 : (9223372036854775807 < ((((((((t120 ++ (⟨#[45]⟩ : ByteArray)) ++ t121) ++ (⟨#[45]⟩ : ByteArray)) ++ t122) ++ (⟨#[84]⟩ : ByteArray)) ++ t123) ++ (⟨#[58]⟩ : ByteArray)) ++ t124).size + 1) = False := eq_false (Nat.not_lt.2 c21)
                            replace H := Option.bind_eq_some_iff.mp H
                            obtain ⟨t125, A220, H⟩ := H
                            replace H : (if (((((((((t120 ++ (⟨#[45]⟩ : ByteArray)) ++ t121) ++ (⟨#[45]⟩ : ByteArray)) ++ t122) ++ (⟨#[84]⟩ : ByteArray)) ++ t123) ++ (⟨#[58]⟩ : ByteArray)) ++ t124) ++ (⟨#[58]⟩ : ByteArray)).size + t125.size ≤ 9223372036854775807 then (if ((((((((((t120 ++ (⟨#[45]⟩ : ByteArray)) ++ t121) ++ (⟨#[45]⟩ : ByteArray)) ++ t122) ++ (⟨#[84]⟩ : ByteArray)) ++ t123) ++ (⟨#[58]⟩ : ByteArray)) ++ t124) ++ (⟨#[58]⟩ : ByteArray)) ++ t125).size + 1 ≤ 9223372036854775807 then (some (((((((((((t120 ++ (⟨#[45]⟩ : ByteArray)) ++ t121) ++ (⟨#[45]⟩ : ByteArray)) ++ t122) ++ (⟨#[84]⟩ : ByteArray)) ++ t123) ++ (⟨#[58]⟩ : ByteArray)) ++ t124) ++ (⟨#[58]⟩ : ByteArray)) ++ t125) ++ (⟨#[90]⟩ : ByteArray), 0)) else (none)) else (none)) = some (r1, r2) := H
                            have A22 := Aside0.mk A220
                            clear A220
                            by_cases c23 : (((((((((t120 ++ (⟨#[45]⟩ : ByteArray)) ++ t121) ++ (⟨#[45]⟩ : ByteArray)) ++ t122) ++ (⟨#[84]⟩ : ByteArray)) ++ t123) ++ (⟨#[58]⟩ : ByteArray)) ++ t124) ++ (⟨#[58]⟩ : ByteArray)).size + t125.size ≤ 9223372036854775807
                            · rw [if_pos c23] at H
                              have c23b0 := eq_true c23
                              have c23b1 : decide ((((((((((t120 ++ (⟨#[45]⟩ : ByteArray)) ++ t121) ++ (⟨#[45]⟩ : ByteArray)) ++ t122) ++ (⟨#[84]⟩ : ByteArray)) ++ t123) ++ (⟨#[58]⟩ : ByteArray)) ++ t124) ++ (⟨#[58]⟩ : ByteArray)).size + t125.size ≤ 9223372036854775807) = true := decide_eq_true c23
                              try have c23b3 : (9223372036854775807 < t120.size + 1 + t121.size + 1 + t122.size + 1 + t123.size + 1 + t124.size + 1 + t125.size) = False := eq_false (by have h_ := c23; (first | simp only [ByteArray.size_append, ByteArray.size_extract, Nat.min_self] at h_ | simp only [ByteArray.size_append] at h_); exact Nat.not_lt.2 h_)
                              try have c23b2 : (9223372036854775807 < (((((((((t120 ++ (⟨#[45]⟩ : ByteArray)) ++ t121) ++ (⟨#[45]⟩ : ByteArray)) ++ t122) ++ (⟨#[84]⟩ : ByteArray)) ++ t123) ++ (⟨#[58]⟩ : ByteArray)) ++ t124) ++ (⟨#[58]⟩ : ByteArray)).size + t125.size) = False := eq_false (Nat.not_lt.2 c23)
                              by_cases c24 : ((((((((((t120 ++ (⟨#[45]⟩ : ByteArray)) ++ t121) ++ (⟨#[45]⟩ : ByteArray)) ++ t122) ++ (⟨#[84]⟩ : ByteArray)) ++ t123) ++ (⟨#[58]⟩ : ByteArray)) ++ t124) ++ (⟨#[58]⟩ : ByteArray)) ++ t125).size + 1 ≤ 9223372036854775807
                              · rw [if_pos c24] at H
                                have c24b0 := eq_true c24
                                have c24b1 : decide (((((((((((t120 ++ (⟨#[45]⟩ : ByteArray)) ++ t121) ++ (⟨#[45]⟩ : ByteArray)) ++ t122) ++ (⟨#[84]⟩ : ByteArray)) ++ t123) ++ (⟨#[58]⟩ : ByteArray)) ++ t124) ++ (⟨#[58]⟩ : ByteArray)) ++ t125).size + 1 ≤ 9223372036854775807) = true := decide_eq_true c24
                                try have c24b3 : (9223372036854775807 < t120.size + 1 + t121.size + 1 + t122.size + 1 + t123.size + 1 + t124.size + 1 + t125.size + 1) = False := eq_false (by have h_ := c24; (first | simp only [ByteArray.size_append, ByteArray.size_extract, Nat.min_self] at h_ | simp only [ByteArray.size_append] at h_); exact Nat.not_lt.2 h_)
                                try have c24b2 : (9223372036854775807 < ((((((((((t120 ++ (⟨#[45]⟩ : ByteArray)) ++ t121) ++ (⟨#[45]⟩ : ByteArray)) ++ t122) ++ (⟨#[84]⟩ : ByteArray)) ++ t123) ++ (⟨#[58]⟩ : ByteArray)) ++ t124) ++ (⟨#[58]⟩ : ByteArray)) ++ t125).size + 1) = False := eq_false (Nat.not_lt.2 c24)
                                simp only [Option.some.injEq, Prod.mk.injEq] at H
                                obtain ⟨rfl, rfl⟩ := H
                                go_wp2_with (first | ((with_reducible refine gate_callee (f := 28) rfl ?_); refine goesL_ (some 18) rfl rfl Tryz.func28 (by kernel_rfl) rfl #[.int .i64 a0] rfl (by (try simp only [List.map_toArray, List.map_cons, List.map_nil]); first | done | rfl | (simp only [List.length_drop, List.length_take]; rfl)) ?_; (with_reducible refine (motleyref27_day.calls a0 t114 t115 _ A5.out).mono ?_); rintro e w' ⟨rfl, ⟨nd, rfl⟩⟩; refine ⟨_, rfl, ?_⟩) | ((with_reducible refine gate_callee (f := 29) rfl ?_); refine goesL_ (some 23) rfl rfl Tryz.func29 (by kernel_rfl) rfl #[.int .i64 t114] rfl (by (try simp only [List.map_toArray, List.map_cons, List.map_nil]); first | done | rfl | (simp only [List.length_drop, List.length_take]; rfl)) ?_; (with_reducible refine (motleyref27_Date.calls kj1 t114 t116 t117 t118 t119 _ A6.out).mono ?_); rintro e w' ⟨rfl, ⟨nd, rfl⟩⟩; refine ⟨_, rfl, ?_⟩) | ((with_reducible refine gate_callee (f := 30) rfl ?_); refine goesL_ (some 32) rfl rfl Tryz.func30 (by kernel_rfl) rfl #[.int .i64 t116, .int .i64 4] rfl (by (try simp only [List.map_toArray, List.map_cons, List.map_nil]); first | done | rfl | (simp only [List.length_drop, List.length_take]; rfl)) ?_; (with_reducible refine (motleyref27_padded.calls kj1 t116 4 t120 _ A8.out).mono ?_); rintro e w' ⟨rfl, ⟨nd, rfl⟩⟩; refine ⟨_, rfl, ?_⟩) | ((with_reducible refine gate_callee (f := 30) rfl ?_); refine goesL_ (some 35) rfl rfl Tryz.func30 (by kernel_rfl) rfl #[.int .i64 t117, .int .i64 2] rfl (by (try simp only [List.map_toArray, List.map_cons, List.map_nil]); first | done | rfl | (simp only [List.length_drop, List.length_take]; rfl)) ?_; (with_reducible refine (motleyref27_padded.calls kj1 t117 2 t121 _ A10.out).mono ?_); rintro e w' ⟨rfl, ⟨nd, rfl⟩⟩; refine ⟨_, rfl, ?_⟩) | ((with_reducible refine gate_callee (f := 30) rfl ?_); refine goesL_ (some 39) rfl rfl Tryz.func30 (by kernel_rfl) rfl #[.int .i64 t118, .int .i64 2] rfl (by (try simp only [List.map_toArray, List.map_cons, List.map_nil]); first | done | rfl | (simp only [List.length_drop, List.length_take]; rfl)) ?_; (with_reducible refine (motleyref27_padded.calls kj1 t118 2 t122 _ A13.out).mono ?_); rintro e w' ⟨rfl, ⟨nd, rfl⟩⟩; refine ⟨_, rfl, ?_⟩) | ((with_reducible refine gate_callee (f := 30) rfl ?_); refine goesL_ (some 44) rfl rfl Tryz.func30 (by kernel_rfl) rfl #[.int .i64 (wrap64 (Int.tdiv t115 3600)), .int .i64 2] rfl (by (try simp only [List.map_toArray, List.map_cons, List.map_nil]); first | done | rfl | (simp only [List.length_drop, List.length_take]; rfl)) ?_; (with_reducible refine (motleyref27_padded.calls kj1 (wrap64 (Int.tdiv t115 3600)) 2 t123 _ A16.out).mono ?_); rintro e w' ⟨rfl, ⟨nd, rfl⟩⟩; refine ⟨_, rfl, ?_⟩) | ((with_reducible refine gate_callee (f := 30) rfl ?_); refine goesL_ (some 50) rfl rfl Tryz.func30 (by kernel_rfl) rfl #[.int .i64 (Int.tmod (wrap64 (Int.tdiv t115 60)) 60), .int .i64 2] rfl (by (try simp only [List.map_toArray, List.map_cons, List.map_nil]); first | done | rfl | (simp only [List.length_drop, List.length_take]; rfl)) ?_; (with_reducible refine (motleyref27_padded.calls kj1 (Int.tmod (wrap64 (Int.tdiv t115 60)) 60) 2 t124 _ A19.out).mono ?_); rintro e w' ⟨rfl, ⟨nd, rfl⟩⟩; refine ⟨_, rfl, ?_⟩) | ((with_reducible refine gate_callee (f := 30) rfl ?_); refine goesL_ (some 55) rfl rfl Tryz.func30 (by kernel_rfl) rfl #[.int .i64 (Int.tmod t115 60), .int .i64 2] rfl (by (try simp only [List.map_toArray, List.map_cons, List.map_nil]); first | done | rfl | (simp only [List.length_drop, List.length_take]; rfl)) ?_; (with_reducible refine (motleyref27_padded.calls kj1 (Int.tmod t115 60) 2 t125 _ A22.out).mono ?_); rintro e w' ⟨rfl, ⟨nd, rfl⟩⟩; refine ⟨_, rfl, ?_⟩))
                                go_ret2
                                exact ⟨by first | rfl | (simp; done) | (simp [*]; done) | (simp; generalize ByteArray.toList _ = l_; cases l_ <;> rfl), by repeat (first | exact Drawn0.refl _ | apply Drawn0.step)⟩
                              · rw [if_neg c24] at H
                                exact absurd H (by simp)
                            · rw [if_neg c23] at H
                              exact absurd H (by simp)
                          · rw [if_neg c21] at H
                            exact absurd H (by simp)
                        · rw [if_neg c20] at H
                          exact absurd H (by simp)
                      · rw [if_neg c18] at H
                        exact absurd H (by simp)
                    · rw [if_neg c17] at H
                      exact absurd H (by simp)
                  · rw [if_neg c15] at H
                    exact absurd H (by simp)
                · rw [if_neg c14] at H
                  exact absurd H (by simp)
              · rw [if_neg c12] at H
                exact absurd H (by simp)
            · rw [if_neg c11] at H
              exact absurd H (by simp)
          · rw [if_neg c9] at H
            exact absurd H (by simp)
        · rw [if_neg c7] at H
          have c7b0 : (t119 == 0) = false := beq_eq_false_iff_ne.mpr c7
          have c7b1 : (t119 != 0) = true := bne_iff_ne.mpr c7
          simp only [Option.some.injEq, Prod.mk.injEq] at H
          obtain ⟨rfl, rfl⟩ := H
          go_wp2_with (first | ((with_reducible refine gate_callee (f := 28) rfl ?_); refine goesL_ (some 18) rfl rfl Tryz.func28 (by kernel_rfl) rfl #[.int .i64 a0] rfl (by (try simp only [List.map_toArray, List.map_cons, List.map_nil]); first | done | rfl | (simp only [List.length_drop, List.length_take]; rfl)) ?_; (with_reducible refine (motleyref27_day.calls a0 t114 t115 _ A5.out).mono ?_); rintro e w' ⟨rfl, ⟨nd, rfl⟩⟩; refine ⟨_, rfl, ?_⟩) | ((with_reducible refine gate_callee (f := 29) rfl ?_); refine goesL_ (some 23) rfl rfl Tryz.func29 (by kernel_rfl) rfl #[.int .i64 t114] rfl (by (try simp only [List.map_toArray, List.map_cons, List.map_nil]); first | done | rfl | (simp only [List.length_drop, List.length_take]; rfl)) ?_; (with_reducible refine (motleyref27_Date.calls kj1 t114 t116 t117 t118 t119 _ A6.out).mono ?_); rintro e w' ⟨rfl, ⟨nd, rfl⟩⟩; refine ⟨_, rfl, ?_⟩))
          go_ret2
          exact ⟨by first | rfl | (simp; done) | (simp [*]; done) | (simp; generalize ByteArray.toList _ = l_; cases l_ <;> rfl), by repeat (first | exact Drawn0.refl _ | apply Drawn0.step)⟩

/-! ### tap_floor: function 55 -/
def tap_floor.f (a0 : Int) (a1 : Int) : Option (Int × Int) := if a1 = 0 then (none) else (if (Int.tmod a0 a1) < 0 then (some (wrap64 ((wrap64 (Int.tdiv a0 a1)) - 1), wrap64 ((Int.tmod a0 a1) + a1))) else (some (wrap64 (Int.tdiv a0 a1), Int.tmod a0 a1)))
set_option maxHeartbeats 8000000 in
set_option maxRecDepth 100000 in
theorem tap_floor.calls (a0 : Int) (a1 : Int) (r1 : Int) (r2 : Int) (w : World) (h : tap_floor.f a0 a1 = some (r1, r2)) :
    Calls Tryz.prog 55 #[.int .i64 a0, .int .i64 a1] w fun e w' => e = .returned (.tuple #[.int .i64 r1, .int .i64 r2]) ∧ Drawn0 w w' := by
  have H : (if a1 = 0 then (none) else (if (Int.tmod a0 a1) < 0 then (some (wrap64 ((wrap64 (Int.tdiv a0 a1)) - 1), wrap64 ((Int.tmod a0 a1) + a1))) else (some (wrap64 (Int.tdiv a0 a1), Int.tmod a0 a1)))) = some (r1, r2) := h
  clear h
  by_cases c3 : a1 = 0
  · rw [if_pos c3] at H
    exact absurd H (by simp)
  · rw [if_neg c3] at H
    have c3b0 : (a1 == 0) = false := beq_eq_false_iff_ne.mpr c3
    have c3b1 : (a1 != 0) = true := bne_iff_ne.mpr c3
    by_cases c4 : (Int.tmod a0 a1) < 0
    · rw [if_pos c4] at H
      have c4b0 : decide ((Int.tmod a0 a1) < 0) = true := decide_eq_true c4
      clear c4
      simp only [Option.some.injEq, Prod.mk.injEq] at H
      obtain ⟨rfl, rfl⟩ := H
      go_enter Tryz.func55, Tryz.ntmps55
      go_wp2
      repeat (go_quiet (fail); try go_wp2)
      go_ret2
      exact ⟨by first | rfl | (simp; done) | (simp [*]; done) | (simp; generalize ByteArray.toList _ = l_; cases l_ <;> rfl), by repeat (first | exact Drawn0.refl _ | apply Drawn0.step)⟩
    · rw [if_neg c4] at H
      have c4b0 : decide ((Int.tmod a0 a1) < 0) = false := decide_eq_false c4
      clear c4
      simp only [Option.some.injEq, Prod.mk.injEq] at H
      obtain ⟨rfl, rfl⟩ := H
      go_enter Tryz.func55, Tryz.ntmps55
      go_wp2
      repeat (go_quiet (fail); try go_wp2)
      go_ret2
      exact ⟨by first | rfl | (simp; done) | (simp [*]; done) | (simp; generalize ByteArray.toList _ = l_; cases l_ <;> rfl), by repeat (first | exact Drawn0.refl _ | apply Drawn0.step)⟩

/-! ### tap_inYears: function 56 -/
def tap_inYears.f (a0 : Int) : Option (Bool) := (tap_epoch.f).bind fun t126 => (if a0 ≥ (wrap64 (-t126)) then ((tap_before.f 10000).bind fun t127 => ((tap_epoch.f).bind fun t128 => (some (decide (a0 < (wrap64 (t127 - t128))))))) else (some false))
set_option maxHeartbeats 8000000 in
set_option maxRecDepth 100000 in
theorem tap_inYears.calls (a0 : Int) (r : Bool) (w : World) (h : tap_inYears.f a0 = some r) :
    Calls Tryz.prog 56 #[.int .i64 a0] w fun e w' => e = .returned (.bool r) ∧ Drawn0 w w' := by
  have H : ((tap_epoch.f).bind fun t126 => (if a0 ≥ (wrap64 (-t126)) then ((tap_before.f 10000).bind fun t127 => ((tap_epoch.f).bind fun t128 => (some (decide (a0 < (wrap64 (t127 - t128))))))) else (some false))) = some r := h
  clear h
  replace H := Option.bind_eq_some_iff.mp H
  obtain ⟨t126, A20, H⟩ := H
  replace H : (if a0 ≥ (wrap64 (-t126)) then ((tap_before.f 10000).bind fun t127 => ((tap_epoch.f).bind fun t128 => (some (decide (a0 < (wrap64 (t127 - t128))))))) else (some false)) = some r := H
  have A2 := Aside0.mk A20
  clear A20
  by_cases c3 : a0 ≥ (wrap64 (-t126))
  · rw [if_pos c3] at H
    have c3b0 : decide ((wrap64 (-t126)) ≤ a0) = true := decide_eq_true c3
    clear c3
    replace H := Option.bind_eq_some_iff.mp H
    obtain ⟨t127, A40, H⟩ := H
    replace H : ((tap_epoch.f).bind fun t128 => (some (decide (a0 < (wrap64 (t127 - t128)))))) = some r := H
    have A4 := Aside0.mk A40
    clear A40
    replace H := Option.bind_eq_some_iff.mp H
    obtain ⟨t128, A50, H⟩ := H
    replace H : (some (decide (a0 < (wrap64 (t127 - t128))))) = some r := H
    have A5 := Aside0.mk A50
    clear A50
    obtain rfl := Option.some.inj H
    go_enter Tryz.func56, Tryz.ntmps56
    go_wp2_with (first | ((with_reducible refine gate_callee (f := 39) rfl ?_); refine goesL_ (some 4) rfl rfl Tryz.func39 (by kernel_rfl) rfl #[] rfl (by (try simp only [List.map_toArray, List.map_cons, List.map_nil]); first | done | rfl | (simp only [List.length_drop, List.length_take]; rfl)) ?_; (with_reducible refine (tap_epoch.calls  t126 _ A2.out).mono ?_); rintro e w' ⟨rfl, ⟨nd, rfl⟩⟩; refine ⟨_, rfl, ?_⟩) | (go_at_call 38; (with_reducible refine (tap_before.calls 10000 t127 _ A4.out).mono ?_); rintro e w' ⟨rfl, ⟨nd, rfl⟩⟩) | (go_at_call 39; (with_reducible refine (tap_epoch.calls  t128 _ A5.out).mono ?_); rintro e w' ⟨rfl, ⟨nd, rfl⟩⟩))
    go_ret
    exact ⟨by first | rfl | (simp; done) | (simp [*]; done) | (simp; generalize ByteArray.toList _ = l_; cases l_ <;> rfl), by repeat (first | exact Drawn0.refl _ | apply Drawn0.step)⟩
  · rw [if_neg c3] at H
    have c3b0 : decide ((wrap64 (-t126)) ≤ a0) = false := decide_eq_false c3
    clear c3
    obtain rfl := Option.some.inj H
    go_enter Tryz.func56, Tryz.ntmps56
    go_wp2_with (first | ((with_reducible refine gate_callee (f := 39) rfl ?_); refine goesL_ (some 4) rfl rfl Tryz.func39 (by kernel_rfl) rfl #[] rfl (by (try simp only [List.map_toArray, List.map_cons, List.map_nil]); first | done | rfl | (simp only [List.length_drop, List.length_take]; rfl)) ?_; (with_reducible refine (tap_epoch.calls  t126 _ A2.out).mono ?_); rintro e w' ⟨rfl, ⟨nd, rfl⟩⟩; refine ⟨_, rfl, ?_⟩))
    go_ret
    exact ⟨by first | rfl | (simp; done) | (simp [*]; done) | (simp; generalize ByteArray.toList _ = l_; cases l_ <;> rfl), by repeat (first | exact Drawn0.refl _ | apply Drawn0.step)⟩

/-! ### tap_clock: function 31 -/
def tap_clock.f (a0 : Int) : Option (Int × Int × Int × Int × Bool) := (tap_floor.f a0 86400).bind fun bt130 => ((tap_inYears.f bt130.1).bind fun t132 => (some (bt130.1, wrap64 (Int.tdiv bt130.2 3600), Int.tmod (wrap64 (Int.tdiv bt130.2 60)) 60, Int.tmod bt130.2 60, t132)))
set_option maxHeartbeats 8000000 in
set_option maxRecDepth 100000 in
theorem tap_clock.calls (a0 : Int) (r1 : Int) (r2 : Int) (r3 : Int) (r4 : Int) (r5 : Bool) (w : World) (h : tap_clock.f a0 = some (r1, r2, r3, r4, r5)) :
    Calls Tryz.prog 31 #[.int .i64 a0] w fun e w' => e = .returned (.tuple #[.int .i64 r1, .agg #[.int .i64 r2, .int .i64 r3, .int .i64 r4], .bool r5]) ∧ Below w.heap.size w w' := by
  have hu70 := Tryz.underlying70
  have HB := Aside0.mk (Below.refl w.heap.size w)
  have H : ((tap_floor.f a0 86400).bind fun bt130 => ((tap_inYears.f bt130.1).bind fun t132 => (some (bt130.1, wrap64 (Int.tdiv bt130.2 3600), Int.tmod (wrap64 (Int.tdiv bt130.2 60)) 60, Int.tmod bt130.2 60, t132)))) = some (r1, r2, r3, r4, r5) := h
  clear h
  replace H := Option.bind_eq_some_iff.mp H
  obtain ⟨⟨t130, t131⟩, A20, H⟩ := H
  replace H : ((tap_inYears.f t130).bind fun t132 => (some (t130, wrap64 (Int.tdiv t131 3600), Int.tmod (wrap64 (Int.tdiv t131 60)) 60, Int.tmod t131 60, t132))) = some (r1, r2, r3, r4, r5) := H
  have A2 := Aside0.mk A20
  clear A20
  replace H := Option.bind_eq_some_iff.mp H
  obtain ⟨t132, A30, H⟩ := H
  replace H : (some (t130, wrap64 (Int.tdiv t131 3600), Int.tmod (wrap64 (Int.tdiv t131 60)) 60, Int.tmod t131 60, t132)) = some (r1, r2, r3, r4, r5) := H
  have A3 := Aside0.mk A30
  clear A30
  simp only [Option.some.injEq, Prod.mk.injEq] at H
  obtain ⟨rfl, rfl, rfl, rfl, rfl⟩ := H
  go_enter Tryz.func31, Tryz.ntmps31
  go_wp2_with (first | ((with_reducible refine gate_dst (N := 3) rfl ?_); refine box_event ?hg (N := 3) ?hd (cs := #[.int .i64 0, .int .i64 0, .int .i64 0]) (t := 70) ?hr ?_; (case hd => rfl); (case hg => rfl); (case hr => first | (go_simp; done) | (go_simp; rfl)); intro gb129 hg w4 hbox hb; have n0_ := Aside0.mk (below_step (by repeat (first | (with_reducible first | exact HB.out | apply below_alloc | apply pw_below_drewN | apply below_drew1) | exact HB.out)) hb); have n1_ := Aside0.mk (hbox); have n2_ := Aside0.mk ((by rw [hg]; exact (below_size (by repeat (first | (with_reducible first | exact HB.out | apply below_alloc | apply pw_below_drewN | apply below_drew1) | exact HB.out))) : w.heap.size ≤ gb129)); have n3_ := Aside0.mk ((by rw [hg]; exact (below_size (by repeat (first | (with_reducible first | exact HB.out | apply below_alloc | apply pw_below_drewN | apply below_drew1) | exact HB.out))) : w.heap.size ≤ gb129)); clear HB; have HB := n0_; have BK129 := n1_; have GW129 := n2_; have GE129 := n3_; clear n0_ n1_ n2_ n3_; clear hb hbox hg) | ((with_reducible refine gate_callee (f := 55) rfl ?_); refine goesL_ (some 9) rfl rfl Tryz.func55 (by kernel_rfl) rfl #[.int .i64 a0, .int .i64 86400] rfl (by (try simp only [List.map_toArray, List.map_cons, List.map_nil]); first | done | rfl | (simp only [List.length_drop, List.length_take]; rfl)) ?_; (with_reducible refine (tap_floor.calls a0 86400 t130 t131 _ A2.out).mono ?_); rintro e w' ⟨rfl, ⟨nd, rfl⟩⟩; refine ⟨_, rfl, ?_⟩; (try (rw [drewN_self w4]; generalize hq_ : World.drewN w4 _ = w4; have n0_ : Aside0 (w4.heap[gb129]? = some (.cells #[.int .i64 0, .int .i64 0, .int .i64 0] 70 (0, 0))) := ⟨by rw [← hq_]; exact (by (with_reducible repeat (first | refine blk_drewN ?_ _ | refine blk_drew ?_ | refine blk_alloc ?_ _)); exact BK129.out)⟩; have n1_ : Aside0 (Below w.heap.size w w4) := ⟨by rw [← hq_]; exact (by repeat (first | (with_reducible first | exact HB.out | apply below_alloc | apply pw_below_drewN | apply below_drew1 | refine below_set ?_ GE129.out) | exact HB.out))⟩; clear BK129 HB hq_; have BK129 := n0_; have HB := n1_; clear n0_ n1_))) | ((with_reducible refine gate_callee (f := 56) rfl ?_); refine goesL_ (some 22) rfl rfl Tryz.func56 (by kernel_rfl) rfl #[.int .i64 t130] rfl (by (try simp only [List.map_toArray, List.map_cons, List.map_nil]); first | done | rfl | (simp only [List.length_drop, List.length_take]; rfl)) ?_; (with_reducible refine (tap_inYears.calls t130 t132 _ A3.out).mono ?_); rintro e w' ⟨rfl, ⟨nd, rfl⟩⟩; refine ⟨_, rfl, ?_⟩; (try (rw [drewN_self w4]; generalize hq_ : World.drewN w4 _ = w4; have n0_ : Aside0 (w4.heap[gb129]? = some (.cells #[.int .i64 0, .int .i64 0, .int .i64 0] 70 (0, 0))) := ⟨by rw [← hq_]; exact (by (with_reducible repeat (first | refine blk_drewN ?_ _ | refine blk_drew ?_ | refine blk_alloc ?_ _)); exact BK129.out)⟩; have n1_ : Aside0 (Below w.heap.size w w4) := ⟨by rw [← hq_]; exact (by repeat (first | (with_reducible first | exact HB.out | apply below_alloc | apply pw_below_drewN | apply below_drew1 | refine below_set ?_ GE129.out) | exact HB.out))⟩; clear BK129 HB hq_; have BK129 := n0_; have HB := n1_; clear n0_ n1_)); have hcz5_0 : w4.cell? ⟨gb129, 0, none⟩ = some (.int .i64 0) := (blk_cell BK129.out 0).trans rfl; have hcz5_1 : w4.cell? ⟨gb129, 1, none⟩ = some (.int .i64 0) := (blk_cell BK129.out 1).trans rfl; have hcz5_2 : w4.cell? ⟨gb129, 2, none⟩ = some (.int .i64 0) := (blk_cell BK129.out 2).trans rfl; have hfz5_0 := blk_frozen BK129.out 0; have hfz5_1 := blk_frozen BK129.out 1; have hfz5_2 := blk_frozen BK129.out 2))
  refine bodyPost_ret (results_list (rs := [.tmp 2, .cell 3 70, .tmp 4]) rfl (by simp) (.tmp (.cell gb129 70 #[.int .i64 (wrap64 (Int.tdiv t131 3600)), .int .i64 (Int.tmod (wrap64 (Int.tdiv t131 60)) 60), .int .i64 (Int.tmod t131 60)] (0, 0) _ rfl (by (with_reducible repeat (first | refine blk_drewN ?_ _ | refine blk_drew ?_ | refine blk_alloc ?_ _)); refine blk_put (cs := #[.int .i64 (wrap64 (Int.tdiv t131 3600)), .int .i64 (Int.tmod (wrap64 (Int.tdiv t131 60)) 60), .int .i64 0]) ?_ 2 _ rfl; (with_reducible repeat (first | refine blk_drewN ?_ _ | refine blk_drew ?_ | refine blk_alloc ?_ _)); refine blk_put (cs := #[.int .i64 (wrap64 (Int.tdiv t131 3600)), .int .i64 0, .int .i64 0]) ?_ 1 _ rfl; (with_reducible repeat (first | refine blk_drewN ?_ _ | refine blk_drew ?_ | refine blk_alloc ?_ _)); refine blk_put (cs := #[.int .i64 0, .int .i64 0, .int .i64 0]) ?_ 0 _ rfl; (with_reducible repeat (first | refine blk_drewN ?_ _ | refine blk_drew ?_ | refine blk_alloc ?_ _)); exact BK129.out) Tryz.underlying70 rfl (by kernel_rfl) (.tmp .nil)))) rfl ?_
  exact ⟨by first | rfl | (simp [errW_none, errW_some] <;> rfl) | (simp [*, errW_none, errW_some] <;> rfl), by repeat (first | (with_reducible first | exact HB.out | apply below_alloc | apply pw_below_drewN | apply below_drew1 | refine below_set ?_ GE129.out) | exact HB.out)⟩

/-! ### tap_pad: function 33 -/
def tap_pad.f (a0 : Int) (a1 : Int) : Option (ByteArray) := (strconv_Itoa.f a0).bind fun t133 => ((strings_Repeat.f (⟨#[48]⟩ : ByteArray) (mx 0 (wrap64 (a1 - (t133.size : Int))))).bind fun t134 => (if t134.size + t133.size ≤ 9223372036854775807 then (some (t134 ++ t133)) else (none)))
set_option maxHeartbeats 8000000 in
set_option maxRecDepth 100000 in
theorem tap_pad.calls (a0 : Int) (a1 : Int) (r : ByteArray) (w : World) (hL : LaidW w) (h : tap_pad.f a0 a1 = some r) :
    Calls Tryz.prog 33 #[.int .i64 a0, .int .i64 a1] w fun e w' => e = .returned (.string r) ∧ Below w.heap.size w w' := by
  have HB := Aside0.mk (Below.refl w.heap.size w)
  have H : ((strconv_Itoa.f a0).bind fun t133 => ((strings_Repeat.f (⟨#[48]⟩ : ByteArray) (mx 0 (wrap64 (a1 - (t133.size : Int))))).bind fun t134 => (if t134.size + t133.size ≤ 9223372036854775807 then (some (t134 ++ t133)) else (none)))) = some r := h
  clear h
  replace H := Option.bind_eq_some_iff.mp H
  obtain ⟨t133, A30, H⟩ := H
  replace H : ((strings_Repeat.f (⟨#[48]⟩ : ByteArray) (mx 0 (wrap64 (a1 - (t133.size : Int))))).bind fun t134 => (if t134.size + t133.size ≤ 9223372036854775807 then (some (t134 ++ t133)) else (none))) = some r := H
  have A3 := Aside0.mk A30
  clear A30
  obtain ⟨ji4, hji4⟩ : ∃ j_ : Int, (mx 0 (wrap64 (a1 - (t133.size : Int)))) = j_ := ⟨_, rfl⟩
  replace H : ((strings_Repeat.f (⟨#[48]⟩ : ByteArray) (ji4)).bind fun t134 => (if t134.size + t133.size ≤ 9223372036854775807 then (some (t134 ++ t133)) else (none))) = some r := by first | (rw [hji4] at H; exact H) | (simp only [hji4] at H ⊢; exact H)
  (try rw [hji4] at A3)
  (try (have hji4l : 0 ≤ ji4 := by (rw [← hji4]; unfold mx; (repeat' split) <;> omega)))
  (try (have hji4m : 0 ≤ ji4 := by omega))
  have hji4_ : (if 0 < (wrap64 (a1 - (t133.size : Int))) then (wrap64 (a1 - (t133.size : Int))) else 0) = ji4 := hji4
  replace H := Option.bind_eq_some_iff.mp H
  obtain ⟨t134, A50, H⟩ := H
  replace H : (if t134.size + t133.size ≤ 9223372036854775807 then (some (t134 ++ t133)) else (none)) = some r := H
  have A5 := Aside0.mk A50
  clear A50
  by_cases c6 : t134.size + t133.size ≤ 9223372036854775807
  · rw [if_pos c6] at H
    have c6b0 := eq_true c6
    have c6b1 : decide (t134.size + t133.size ≤ 9223372036854775807) = true := decide_eq_true c6
    try have c6b2 : (9223372036854775807 < t134.size + t133.size) = False := eq_false (Nat.not_lt.2 c6)
    obtain rfl := Option.some.inj H
    go_enter Tryz.func33, Tryz.ntmps33
    go_wp2_with (first | ((with_reducible refine gate_callee (f := 49) rfl ?_); refine goesL_ (some 7) rfl rfl Tryz.func49 (by kernel_rfl) rfl #[.int .i64 a0] rfl (by (try simp only [List.map_toArray, List.map_cons, List.map_nil]); first | done | rfl | (simp only [List.length_drop, List.length_take]; rfl)) ?_; (with_reducible refine (strconv_Itoa.calls a0 t133 _ ?side1 A3.out).mono ?_); (case side1 => first | exact hL | exact LaidW.below hL (by repeat (first | (with_reducible first | exact HB.out | apply below_alloc | apply pw_below_drewN | apply below_drew1) | exact HB.out))); rintro e w7 ⟨rfl, hb⟩; refine ⟨_, rfl, ?_⟩; have n0_ := Aside0.mk (below_step (by repeat (first | (with_reducible first | exact HB.out | apply below_alloc | apply pw_below_drewN | apply below_drew1) | exact HB.out)) hb); clear HB; have HB := n0_; clear n0_; (try clear hb); (try clear hb2); (try clear hk); (try clear hi)) | ((with_reducible refine gate_callee (f := 57) rfl ?_); refine goesL_ (some 13) rfl rfl Tryz.func57 (by kernel_rfl) rfl #[.string (⟨#[48]⟩ : ByteArray), .int .i64 ji4] rfl (by (try simp only [List.map_toArray, List.map_cons, List.map_nil]); first | done | (simp only [hji4]; rfl) | rfl | (simp only [List.length_drop, List.length_take]; rfl)) ?_; (with_reducible refine (strings_Repeat.calls (⟨#[48]⟩ : ByteArray) ji4 t134 _ A5.out).mono ?_); rintro e w8 ⟨rfl, hb⟩; refine ⟨_, rfl, ?_⟩; have n0_ := Aside0.mk (below_step (by repeat (first | (with_reducible first | exact HB.out | apply below_alloc | apply pw_below_drewN | apply below_drew1) | exact HB.out)) hb); clear HB; have HB := n0_; clear n0_; (try clear hb); (try clear hb2); (try clear hk); (try clear hi)))
    go_ret
    exact ⟨by first | rfl | (simp [errW_none, errW_some] <;> rfl) | (simp only [← hji4]; first | rfl | (simp [errW_none, errW_some] <;> rfl)) | (simp [*, errW_none, errW_some] <;> rfl), by repeat (first | (with_reducible first | exact HB.out | apply below_alloc | apply pw_below_drewN | apply below_drew1) | exact HB.out)⟩
  · rw [if_neg c6] at H
    exact absurd H (by simp)

end Go.Proofs.YtallfkecjibpmaaGreatDoor.M
