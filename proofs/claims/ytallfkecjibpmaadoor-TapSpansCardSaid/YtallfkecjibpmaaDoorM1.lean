/- What the Go functions of this seat give, as Lean functions, and that each call comes to it. Written by the session's own program (wip/tools/mprint.py). -/
import Derived.Test.YtallfkecjibpmaaDoorM0
namespace Go.Proofs.YtallfkecjibpmaaDoor.M
open Go.RowKit Go.Proofs.YtallfkecjibpmaaDoor.G Go.Proofs.YtallfkecjibpmaaDoorW.PrintWords Go.Proofs.YtallfkecjibpmaaDoorW.PrintLast Go.Proofs.YtallfkecjibpmaaDoorW.PrintMore
attribute [local go_sem] max2_int min2_int max_two min_two max_three min_three max_four min_four   -- for this text's walks alone
set_option linter.unusedVariables false
set_option linter.unusedSimpArgs false

/-! ### tap_isLeap: function 70 -/
def tap_isLeap.f (a0 : Int) : Option (Bool) := if (Int.tmod a0 4) = 0 then (if (Int.tmod a0 100) = 0 then (some ((Int.tmod a0 400) == 0)) else (some true)) else (some false)
set_option maxHeartbeats 8000000 in
set_option maxRecDepth 100000 in
theorem tap_isLeap.calls (a0 : Int) (r : Bool) (w : World) (h : tap_isLeap.f a0 = some r) :
    Calls Tryd.prog 70 #[.int .i64 a0] w fun e w' => e = .returned (.bool r) ∧ Drawn0 w w' := by
  have H : (if (Int.tmod a0 4) = 0 then (if (Int.tmod a0 100) = 0 then (some ((Int.tmod a0 400) == 0)) else (some true)) else (some false)) = some r := h
  clear h
  by_cases c2 : (Int.tmod a0 4) = 0
  · rw [if_pos c2] at H
    have c2b0 : ((Int.tmod a0 4) == 0) = true := beq_iff_eq.mpr c2
    have c2b1 : ((Int.tmod a0 4) != 0) = false := bne_eq_false_iff_eq.mpr c2
    clear c2
    by_cases c3 : (Int.tmod a0 100) = 0
    · rw [if_pos c3] at H
      have c3b0 : ((Int.tmod a0 100) == 0) = true := beq_iff_eq.mpr c3
      have c3b1 : ((Int.tmod a0 100) != 0) = false := bne_eq_false_iff_eq.mpr c3
      clear c3
      obtain rfl := Option.some.inj H
      go_enter Tryd.func70, Tryd.ntmps70
      go_wp2
      go_ret
      exact ⟨by first | rfl | (simp; done) | (simp [*]; done) | (simp; generalize ByteArray.toList _ = l_; cases l_ <;> rfl), by repeat (first | exact Drawn0.refl _ | apply Drawn0.step)⟩
    · rw [if_neg c3] at H
      have c3b0 : ((Int.tmod a0 100) == 0) = false := beq_eq_false_iff_ne.mpr c3
      have c3b1 : ((Int.tmod a0 100) != 0) = true := bne_iff_ne.mpr c3
      obtain rfl := Option.some.inj H
      go_enter Tryd.func70, Tryd.ntmps70
      go_wp2
      go_ret
      exact ⟨by first | rfl | (simp; done) | (simp [*]; done) | (simp; generalize ByteArray.toList _ = l_; cases l_ <;> rfl), by repeat (first | exact Drawn0.refl _ | apply Drawn0.step)⟩
  · rw [if_neg c2] at H
    have c2b0 : ((Int.tmod a0 4) == 0) = false := beq_eq_false_iff_ne.mpr c2
    have c2b1 : ((Int.tmod a0 4) != 0) = true := bne_iff_ne.mpr c2
    obtain rfl := Option.some.inj H
    go_enter Tryd.func70, Tryd.ntmps70
    go_wp2
    go_ret
    exact ⟨by first | rfl | (simp; done) | (simp [*]; done) | (simp; generalize ByteArray.toList _ = l_; cases l_ <;> rfl), by repeat (first | exact Drawn0.refl _ | apply Drawn0.step)⟩

/-! ### tap_before: function 39 -/
def tap_before.f (a0 : Int) : Option (Int) := some (wrap64 ((wrap64 ((wrap64 ((wrap64 (365 * (wrap64 (a0 - 1)))) + (wrap64 (Int.tdiv (wrap64 (a0 - 1)) 4)))) - (wrap64 (Int.tdiv (wrap64 (a0 - 1)) 100)))) + (wrap64 (Int.tdiv (wrap64 (a0 - 1)) 400))))
set_option maxHeartbeats 8000000 in
set_option maxRecDepth 100000 in
theorem tap_before.calls (a0 : Int) (r : Int) (w : World) (h : tap_before.f a0 = some r) :
    Calls Tryd.prog 39 #[.int .i64 a0] w fun e w' => e = .returned (.int .i64 r) ∧ Drawn0 w w' := by
  have H : (some (wrap64 ((wrap64 ((wrap64 ((wrap64 (365 * (wrap64 (a0 - 1)))) + (wrap64 (Int.tdiv (wrap64 (a0 - 1)) 4)))) - (wrap64 (Int.tdiv (wrap64 (a0 - 1)) 100)))) + (wrap64 (Int.tdiv (wrap64 (a0 - 1)) 400))))) = some r := h
  clear h
  obtain rfl := Option.some.inj H
  go_enter Tryd.func39, Tryd.ntmps39
  go_wp2
  go_ret
  exact ⟨by first | rfl | (simp; done) | (simp [*]; done) | (simp; generalize ByteArray.toList _ = l_; cases l_ <;> rfl), by repeat (first | exact Drawn0.refl _ | apply Drawn0.step)⟩

/-! ### tap_epoch: function 40 -/
def tap_epoch.f  : Option (Int) := (tap_before.f 1970).bind fun t101 => (some t101)
set_option maxHeartbeats 8000000 in
set_option maxRecDepth 100000 in
theorem tap_epoch.calls  (r : Int) (w : World) (h : tap_epoch.f  = some r) :
    Calls Tryd.prog 40 #[] w fun e w' => e = .returned (.int .i64 r) ∧ Drawn0 w w' := by
  have H : ((tap_before.f 1970).bind fun t101 => (some t101)) = some r := h
  clear h
  replace H := Option.bind_eq_some_iff.mp H
  obtain ⟨t101, A10, H⟩ := H
  replace H : (some t101) = some r := H
  have A1 := Aside0.mk A10
  clear A10
  obtain rfl := Option.some.inj H
  go_enter Tryd.func40, Tryd.ntmps40
  go_wp2_with (first | ((with_reducible refine gate_callee (f := 39) rfl ?_); refine goesL_ (some 1) rfl rfl Tryd.func39 (by kernel_rfl) rfl #[.int .i64 1970] rfl (by (try simp only [List.map_toArray, List.map_cons, List.map_nil]); first | done | rfl | (simp only [List.length_drop, List.length_take]; rfl)) ?_; (with_reducible refine (tap_before.calls 1970 t101 _ A1.out).mono ?_); rintro e w' ⟨rfl, ⟨nd, rfl⟩⟩; refine ⟨_, rfl, ?_⟩))
  go_ret
  exact ⟨by first | rfl | (simp; done) | (simp [*]; done) | (simp; generalize ByteArray.toList _ = l_; cases l_ <;> rfl), by repeat (first | exact Drawn0.refl _ | apply Drawn0.step)⟩

/-! ### tap_Easter: function 14 -/
def tap_Easter.f (a0 : Int) : Option (Int × Int × Int) := if a0 < 1583 then (some (0, 0, 1)) else (if a0 > 9999 then (some (0, 0, 1)) else (some (wrap64 (Int.tdiv (wrap64 ((wrap64 ((wrap64 ((Int.tmod (wrap64 ((wrap64 ((wrap64 ((wrap64 ((wrap64 (19 * (Int.tmod a0 19))) + (wrap64 (Int.tdiv a0 100)))) - (wrap64 (Int.tdiv (wrap64 (Int.tdiv a0 100)) 4)))) - (wrap64 (Int.tdiv (wrap64 ((wrap64 ((wrap64 (Int.tdiv a0 100)) - (wrap64 (Int.tdiv (wrap64 ((wrap64 (Int.tdiv a0 100)) + 8)) 25)))) + 1)) 3)))) + 15)) 30) + (Int.tmod (wrap64 ((wrap64 ((wrap64 ((wrap64 (32 + (wrap64 (2 * (Int.tmod (wrap64 (Int.tdiv a0 100)) 4))))) + (wrap64 (2 * (wrap64 (Int.tdiv (Int.tmod a0 100) 4)))))) - (Int.tmod (wrap64 ((wrap64 ((wrap64 ((wrap64 ((wrap64 (19 * (Int.tmod a0 19))) + (wrap64 (Int.tdiv a0 100)))) - (wrap64 (Int.tdiv (wrap64 (Int.tdiv a0 100)) 4)))) - (wrap64 (Int.tdiv (wrap64 ((wrap64 ((wrap64 (Int.tdiv a0 100)) - (wrap64 (Int.tdiv (wrap64 ((wrap64 (Int.tdiv a0 100)) + 8)) 25)))) + 1)) 3)))) + 15)) 30))) - (Int.tmod (Int.tmod a0 100) 4))) 7))) - (wrap64 (7 * (wrap64 (Int.tdiv (wrap64 ((wrap64 ((Int.tmod a0 19) + (wrap64 (11 * (Int.tmod (wrap64 ((wrap64 ((wrap64 ((wrap64 ((wrap64 (19 * (Int.tmod a0 19))) + (wrap64 (Int.tdiv a0 100)))) - (wrap64 (Int.tdiv (wrap64 (Int.tdiv a0 100)) 4)))) - (wrap64 (Int.tdiv (wrap64 ((wrap64 ((wrap64 (Int.tdiv a0 100)) - (wrap64 (Int.tdiv (wrap64 ((wrap64 (Int.tdiv a0 100)) + 8)) 25)))) + 1)) 3)))) + 15)) 30))))) + (wrap64 (22 * (Int.tmod (wrap64 ((wrap64 ((wrap64 ((wrap64 (32 + (wrap64 (2 * (Int.tmod (wrap64 (Int.tdiv a0 100)) 4))))) + (wrap64 (2 * (wrap64 (Int.tdiv (Int.tmod a0 100) 4)))))) - (Int.tmod (wrap64 ((wrap64 ((wrap64 ((wrap64 ((wrap64 (19 * (Int.tmod a0 19))) + (wrap64 (Int.tdiv a0 100)))) - (wrap64 (Int.tdiv (wrap64 (Int.tdiv a0 100)) 4)))) - (wrap64 (Int.tdiv (wrap64 ((wrap64 ((wrap64 (Int.tdiv a0 100)) - (wrap64 (Int.tdiv (wrap64 ((wrap64 (Int.tdiv a0 100)) + 8)) 25)))) + 1)) 3)))) + 15)) 30))) - (Int.tmod (Int.tmod a0 100) 4))) 7))))) 451)))))) + 114)) 31), wrap64 ((Int.tmod (wrap64 ((wrap64 ((wrap64 ((Int.tmod (wrap64 ((wrap64 ((wrap64 ((wrap64 ((wrap64 (19 * (Int.tmod a0 19))) + (wrap64 (Int.tdiv a0 100)))) - (wrap64 (Int.tdiv (wrap64 (Int.tdiv a0 100)) 4)))) - (wrap64 (Int.tdiv (wrap64 ((wrap64 ((wrap64 (Int.tdiv a0 100)) - (wrap64 (Int.tdiv (wrap64 ((wrap64 (Int.tdiv a0 100)) + 8)) 25)))) + 1)) 3)))) + 15)) 30) + (Int.tmod (wrap64 ((wrap64 ((wrap64 ((wrap64 (32 + (wrap64 (2 * (Int.tmod (wrap64 (Int.tdiv a0 100)) 4))))) + (wrap64 (2 * (wrap64 (Int.tdiv (Int.tmod a0 100) 4)))))) - (Int.tmod (wrap64 ((wrap64 ((wrap64 ((wrap64 ((wrap64 (19 * (Int.tmod a0 19))) + (wrap64 (Int.tdiv a0 100)))) - (wrap64 (Int.tdiv (wrap64 (Int.tdiv a0 100)) 4)))) - (wrap64 (Int.tdiv (wrap64 ((wrap64 ((wrap64 (Int.tdiv a0 100)) - (wrap64 (Int.tdiv (wrap64 ((wrap64 (Int.tdiv a0 100)) + 8)) 25)))) + 1)) 3)))) + 15)) 30))) - (Int.tmod (Int.tmod a0 100) 4))) 7))) - (wrap64 (7 * (wrap64 (Int.tdiv (wrap64 ((wrap64 ((Int.tmod a0 19) + (wrap64 (11 * (Int.tmod (wrap64 ((wrap64 ((wrap64 ((wrap64 ((wrap64 (19 * (Int.tmod a0 19))) + (wrap64 (Int.tdiv a0 100)))) - (wrap64 (Int.tdiv (wrap64 (Int.tdiv a0 100)) 4)))) - (wrap64 (Int.tdiv (wrap64 ((wrap64 ((wrap64 (Int.tdiv a0 100)) - (wrap64 (Int.tdiv (wrap64 ((wrap64 (Int.tdiv a0 100)) + 8)) 25)))) + 1)) 3)))) + 15)) 30))))) + (wrap64 (22 * (Int.tmod (wrap64 ((wrap64 ((wrap64 ((wrap64 (32 + (wrap64 (2 * (Int.tmod (wrap64 (Int.tdiv a0 100)) 4))))) + (wrap64 (2 * (wrap64 (Int.tdiv (Int.tmod a0 100) 4)))))) - (Int.tmod (wrap64 ((wrap64 ((wrap64 ((wrap64 ((wrap64 (19 * (Int.tmod a0 19))) + (wrap64 (Int.tdiv a0 100)))) - (wrap64 (Int.tdiv (wrap64 (Int.tdiv a0 100)) 4)))) - (wrap64 (Int.tdiv (wrap64 ((wrap64 ((wrap64 (Int.tdiv a0 100)) - (wrap64 (Int.tdiv (wrap64 ((wrap64 (Int.tdiv a0 100)) + 8)) 25)))) + 1)) 3)))) + 15)) 30))) - (Int.tmod (Int.tmod a0 100) 4))) 7))))) 451)))))) + 114)) 31) + 1), 0)))
set_option maxHeartbeats 8000000 in
set_option maxRecDepth 100000 in
theorem tap_Easter.calls (a0 : Int) (r1 : Int) (r2 : Int) (r3 : Int) (w : World) (h : tap_Easter.f a0 = some (r1, r2, r3)) :
    Calls Tryd.prog 14 #[.int .i64 a0] w fun e w' => e = .returned (.tuple #[.int .i64 r1, .int .i64 r2, .int .i64 r3]) ∧ Drawn0 w w' := by
  have H : (if a0 < 1583 then (some (0, 0, 1)) else (if a0 > 9999 then (some (0, 0, 1)) else (some (wrap64 (Int.tdiv (wrap64 ((wrap64 ((wrap64 ((Int.tmod (wrap64 ((wrap64 ((wrap64 ((wrap64 ((wrap64 (19 * (Int.tmod a0 19))) + (wrap64 (Int.tdiv a0 100)))) - (wrap64 (Int.tdiv (wrap64 (Int.tdiv a0 100)) 4)))) - (wrap64 (Int.tdiv (wrap64 ((wrap64 ((wrap64 (Int.tdiv a0 100)) - (wrap64 (Int.tdiv (wrap64 ((wrap64 (Int.tdiv a0 100)) + 8)) 25)))) + 1)) 3)))) + 15)) 30) + (Int.tmod (wrap64 ((wrap64 ((wrap64 ((wrap64 (32 + (wrap64 (2 * (Int.tmod (wrap64 (Int.tdiv a0 100)) 4))))) + (wrap64 (2 * (wrap64 (Int.tdiv (Int.tmod a0 100) 4)))))) - (Int.tmod (wrap64 ((wrap64 ((wrap64 ((wrap64 ((wrap64 (19 * (Int.tmod a0 19))) + (wrap64 (Int.tdiv a0 100)))) - (wrap64 (Int.tdiv (wrap64 (Int.tdiv a0 100)) 4)))) - (wrap64 (Int.tdiv (wrap64 ((wrap64 ((wrap64 (Int.tdiv a0 100)) - (wrap64 (Int.tdiv (wrap64 ((wrap64 (Int.tdiv a0 100)) + 8)) 25)))) + 1)) 3)))) + 15)) 30))) - (Int.tmod (Int.tmod a0 100) 4))) 7))) - (wrap64 (7 * (wrap64 (Int.tdiv (wrap64 ((wrap64 ((Int.tmod a0 19) + (wrap64 (11 * (Int.tmod (wrap64 ((wrap64 ((wrap64 ((wrap64 ((wrap64 (19 * (Int.tmod a0 19))) + (wrap64 (Int.tdiv a0 100)))) - (wrap64 (Int.tdiv (wrap64 (Int.tdiv a0 100)) 4)))) - (wrap64 (Int.tdiv (wrap64 ((wrap64 ((wrap64 (Int.tdiv a0 100)) - (wrap64 (Int.tdiv (wrap64 ((wrap64 (Int.tdiv a0 100)) + 8)) 25)))) + 1)) 3)))) + 15)) 30))))) + (wrap64 (22 * (Int.tmod (wrap64 ((wrap64 ((wrap64 ((wrap64 (32 + (wrap64 (2 * (Int.tmod (wrap64 (Int.tdiv a0 100)) 4))))) + (wrap64 (2 * (wrap64 (Int.tdiv (Int.tmod a0 100) 4)))))) - (Int.tmod (wrap64 ((wrap64 ((wrap64 ((wrap64 ((wrap64 (19 * (Int.tmod a0 19))) + (wrap64 (Int.tdiv a0 100)))) - (wrap64 (Int.tdiv (wrap64 (Int.tdiv a0 100)) 4)))) - (wrap64 (Int.tdiv (wrap64 ((wrap64 ((wrap64 (Int.tdiv a0 100)) - (wrap64 (Int.tdiv (wrap64 ((wrap64 (Int.tdiv a0 100)) + 8)) 25)))) + 1)) 3)))) + 15)) 30))) - (Int.tmod (Int.tmod a0 100) 4))) 7))))) 451)))))) + 114)) 31), wrap64 ((Int.tmod (wrap64 ((wrap64 ((wrap64 ((Int.tmod (wrap64 ((wrap64 ((wrap64 ((wrap64 ((wrap64 (19 * (Int.tmod a0 19))) + (wrap64 (Int.tdiv a0 100)))) - (wrap64 (Int.tdiv (wrap64 (Int.tdiv a0 100)) 4)))) - (wrap64 (Int.tdiv (wrap64 ((wrap64 ((wrap64 (Int.tdiv a0 100)) - (wrap64 (Int.tdiv (wrap64 ((wrap64 (Int.tdiv a0 100)) + 8)) 25)))) + 1)) 3)))) + 15)) 30) + (Int.tmod (wrap64 ((wrap64 ((wrap64 ((wrap64 (32 + (wrap64 (2 * (Int.tmod (wrap64 (Int.tdiv a0 100)) 4))))) + (wrap64 (2 * (wrap64 (Int.tdiv (Int.tmod a0 100) 4)))))) - (Int.tmod (wrap64 ((wrap64 ((wrap64 ((wrap64 ((wrap64 (19 * (Int.tmod a0 19))) + (wrap64 (Int.tdiv a0 100)))) - (wrap64 (Int.tdiv (wrap64 (Int.tdiv a0 100)) 4)))) - (wrap64 (Int.tdiv (wrap64 ((wrap64 ((wrap64 (Int.tdiv a0 100)) - (wrap64 (Int.tdiv (wrap64 ((wrap64 (Int.tdiv a0 100)) + 8)) 25)))) + 1)) 3)))) + 15)) 30))) - (Int.tmod (Int.tmod a0 100) 4))) 7))) - (wrap64 (7 * (wrap64 (Int.tdiv (wrap64 ((wrap64 ((Int.tmod a0 19) + (wrap64 (11 * (Int.tmod (wrap64 ((wrap64 ((wrap64 ((wrap64 ((wrap64 (19 * (Int.tmod a0 19))) + (wrap64 (Int.tdiv a0 100)))) - (wrap64 (Int.tdiv (wrap64 (Int.tdiv a0 100)) 4)))) - (wrap64 (Int.tdiv (wrap64 ((wrap64 ((wrap64 (Int.tdiv a0 100)) - (wrap64 (Int.tdiv (wrap64 ((wrap64 (Int.tdiv a0 100)) + 8)) 25)))) + 1)) 3)))) + 15)) 30))))) + (wrap64 (22 * (Int.tmod (wrap64 ((wrap64 ((wrap64 ((wrap64 (32 + (wrap64 (2 * (Int.tmod (wrap64 (Int.tdiv a0 100)) 4))))) + (wrap64 (2 * (wrap64 (Int.tdiv (Int.tmod a0 100) 4)))))) - (Int.tmod (wrap64 ((wrap64 ((wrap64 ((wrap64 ((wrap64 (19 * (Int.tmod a0 19))) + (wrap64 (Int.tdiv a0 100)))) - (wrap64 (Int.tdiv (wrap64 (Int.tdiv a0 100)) 4)))) - (wrap64 (Int.tdiv (wrap64 ((wrap64 ((wrap64 (Int.tdiv a0 100)) - (wrap64 (Int.tdiv (wrap64 ((wrap64 (Int.tdiv a0 100)) + 8)) 25)))) + 1)) 3)))) + 15)) 30))) - (Int.tmod (Int.tmod a0 100) 4))) 7))))) 451)))))) + 114)) 31) + 1), 0)))) = some (r1, r2, r3) := h
  clear h
  by_cases c2 : a0 < 1583
  · rw [if_pos c2] at H
    have c2b0 : decide (a0 < 1583) = true := decide_eq_true c2
    clear c2
    simp only [Option.some.injEq, Prod.mk.injEq] at H
    obtain ⟨rfl, rfl, rfl⟩ := H
    go_enter Tryd.func14, Tryd.ntmps14
    go_wp2
    go_ret3
    exact ⟨by first | rfl | (simp; done) | (simp [*]; done) | (simp; generalize ByteArray.toList _ = l_; cases l_ <;> rfl), by repeat (first | exact Drawn0.refl _ | apply Drawn0.step)⟩
  · rw [if_neg c2] at H
    have c2b0 : decide (a0 < 1583) = false := decide_eq_false c2
    clear c2
    by_cases c3 : a0 > 9999
    · rw [if_pos c3] at H
      have c3b0 : decide (9999 < a0) = true := decide_eq_true c3
      clear c3
      simp only [Option.some.injEq, Prod.mk.injEq] at H
      obtain ⟨rfl, rfl, rfl⟩ := H
      go_enter Tryd.func14, Tryd.ntmps14
      go_wp2
      go_ret3
      exact ⟨by first | rfl | (simp; done) | (simp [*]; done) | (simp; generalize ByteArray.toList _ = l_; cases l_ <;> rfl), by repeat (first | exact Drawn0.refl _ | apply Drawn0.step)⟩
    · rw [if_neg c3] at H
      have c3b0 : decide (9999 < a0) = false := decide_eq_false c3
      clear c3
      simp only [Option.some.injEq, Prod.mk.injEq] at H
      obtain ⟨rfl, rfl, rfl⟩ := H
      go_enter Tryd.func14, Tryd.ntmps14
      go_wp2
      go_ret3
      exact ⟨by first | rfl | (simp; done) | (simp [*]; done) | (simp; generalize ByteArray.toList _ = l_; cases l_ <;> rfl), by repeat (first | exact Drawn0.refl _ | apply Drawn0.step)⟩

/-! ### motleyref27_Span: function 27 -/
mutual
def motleyref27_Span.j0 : Nat → Int → Bool → Option (ByteArray × Int)
  | 0, _, _ => none
  | k + 1, x0, x12 => if x12 = true then (some ((⟨#[]⟩ : ByteArray), 1)) else (motleyref27_Span.l0 k (([wrap64 (Int.tdiv x0 86400), Int.tmod (wrap64 (Int.tdiv x0 3600)) 24, Int.tmod (wrap64 (Int.tdiv x0 60)) 60, Int.tmod x0 60] : List Int)) (⟨#[]⟩ : ByteArray) 0)
def motleyref27_Span.l0 : Nat → List Int → ByteArray → Int → Option (ByteArray × Int)
  | 0, _, _, _ => none
  | k + 1, x4, x5, x6 => if x6 < 4 then (if 0 ≤ x6 then (if x6 < (x4.length : Int) then (if (rd x4 x6) = 0 then (motleyref27_Span.l0 k x4 x5 (wrap64 (x6 + 1))) else (if x5.toList = ([] : List UInt8) then ((motleyref01_Written.f (rd x4 x6)).bind fun t107 => (if x6 ≤ (wrap64 (x6 + 1)) then (if (wrap64 (x6 + 1)) ≤ 4 then (if t107.size + ((⟨#[100, 104, 109, 115]⟩ : ByteArray).extract (x6 : Int).toNat ((wrap64 (x6 + 1)) : Int).toNat).size ≤ 9223372036854775807 then (if x5.size + (t107 ++ ((⟨#[100, 104, 109, 115]⟩ : ByteArray).extract (x6 : Int).toNat ((wrap64 (x6 + 1)) : Int).toNat)).size ≤ 9223372036854775807 then (motleyref27_Span.l0 k x4 (x5 ++ (t107 ++ ((⟨#[100, 104, 109, 115]⟩ : ByteArray).extract (x6 : Int).toNat ((wrap64 (x6 + 1)) : Int).toNat))) (wrap64 (x6 + 1))) else (none)) else (none)) else (none)) else (none))) else (if x5.size + 1 ≤ 9223372036854775807 then ((motleyref01_Written.f (rd x4 x6)).bind fun t109 => (if x6 ≤ (wrap64 (x6 + 1)) then (if (wrap64 (x6 + 1)) ≤ 4 then (if t109.size + ((⟨#[100, 104, 109, 115]⟩ : ByteArray).extract (x6 : Int).toNat ((wrap64 (x6 + 1)) : Int).toNat).size ≤ 9223372036854775807 then (if (x5 ++ (⟨#[32]⟩ : ByteArray)).size + (t109 ++ ((⟨#[100, 104, 109, 115]⟩ : ByteArray).extract (x6 : Int).toNat ((wrap64 (x6 + 1)) : Int).toNat)).size ≤ 9223372036854775807 then (motleyref27_Span.l0 k x4 ((x5 ++ (⟨#[32]⟩ : ByteArray)) ++ (t109 ++ ((⟨#[100, 104, 109, 115]⟩ : ByteArray).extract (x6 : Int).toNat ((wrap64 (x6 + 1)) : Int).toNat))) (wrap64 (x6 + 1))) else (none)) else (none)) else (none)) else (none))) else (none)))) else (none)) else (none)) else (if x5.toList = ([] : List UInt8) then (some ((⟨#[48, 115]⟩ : ByteArray), 0)) else (some (x5, 0)))
end
def motleyref27_Span.f (k : Nat) (a0 : Int) : Option (ByteArray × Int) := if a0 < 0 then (motleyref27_Span.j0 k a0 true) else (motleyref27_Span.j0 k a0 (decide (a0 > 1000000000)))
theorem motleyref27_Span.mono_l : ∀ k, (∀ y0 y1, LeO (motleyref27_Span.j0 k y0 y1) (motleyref27_Span.j0 (k + 1) y0 y1)) ∧ (∀ y0 y1 y2, LeO (motleyref27_Span.l0 k y0 y1 y2) (motleyref27_Span.l0 (k + 1) y0 y1 y2))
  | 0 => ⟨fun _ _ r h => by simp [motleyref27_Span.j0] at h, fun _ _ _ r h => by simp [motleyref27_Span.l0] at h⟩
  | k + 1 => by
    obtain ⟨ih0, ih1⟩ := motleyref27_Span.mono_l k
    refine ⟨?_, ?_⟩
    · intro y0 y1
      unfold motleyref27_Span.j0
      repeat' first
      | (with_reducible exact ih0 _ _)
      | (with_reducible exact ih1 _ _ _)
      | (with_reducible exact LeO.refl _)
      | (with_reducible exact LeO.none _)
      | (with_reducible refine LeO.ite ?_ ?_)
      | (with_reducible refine LeO.bind ?_ (fun _ => ?_))
      | exact ih0 _ _
      | exact ih1 _ _ _
      | exact LeO.none _
      | refine LeO.ite ?_ ?_
      | refine LeO.bind ?_ (fun _ => ?_)
    · intro y0 y1 y2
      unfold motleyref27_Span.l0
      repeat' first
      | (with_reducible exact ih0 _ _)
      | (with_reducible exact ih1 _ _ _)
      | (with_reducible exact LeO.refl _)
      | (with_reducible exact LeO.none _)
      | (with_reducible refine LeO.ite ?_ ?_)
      | (with_reducible refine LeO.bind ?_ (fun _ => ?_))
      | exact ih0 _ _
      | exact ih1 _ _ _
      | exact LeO.none _
      | refine LeO.ite ?_ ?_
      | refine LeO.bind ?_ (fun _ => ?_)
theorem motleyref27_Span.mono : ∀ a0 k, LeO (motleyref27_Span.f k a0) (motleyref27_Span.f (k + 1) a0) := by
  intro a0 k
  obtain ⟨ih0, ih1⟩ := motleyref27_Span.mono_l k
  unfold motleyref27_Span.f
  repeat' first
      | (with_reducible exact ih0 _ _)
      | (with_reducible exact ih1 _ _ _)
      | (with_reducible exact LeO.refl _)
      | (with_reducible exact LeO.none _)
      | (with_reducible refine LeO.ite ?_ ?_)
      | (with_reducible refine LeO.bind ?_ (fun _ => ?_))
      | exact ih0 _ _
      | exact ih1 _ _ _
      | exact LeO.none _
      | refine LeO.ite ?_ ?_
      | refine LeO.bind ?_ (fun _ => ?_)
set_option maxHeartbeats 8000000 in
set_option maxRecDepth 100000 in
theorem motleyref27_Span.calls (k : Nat) (a0 : Int) (r1 : ByteArray) (r2 : Int) (w : World) (h : motleyref27_Span.f k a0 = some (r1, r2)) :
    Calls Tryd.prog 27 #[.int .i64 a0] w fun e w' => e = .returned (.tuple #[.string r1, .int .i64 r2]) ∧ Below w.heap.size w w' := by
  have HB := Aside0.mk (Below.refl w.heap.size w)
  have H : (if a0 < 0 then (motleyref27_Span.j0 k a0 true) else (motleyref27_Span.j0 k a0 (decide (a0 > 1000000000)))) = some (r1, r2) := h
  clear h
  have HC2 := Aside0.mk H
  clear H
  go_enter Tryd.func27, Tryd.ntmps27
  go_upto_region 1 with (fail)
  repeat (go_quiet (fail); go_upto_region 1 with (fail))
  go_cut [12] (fun v12 wc => ∃ (kq : Nat) (x12_1 : Bool), v12 = .bool x12_1 ∧ Aside0 (motleyref27_Span.j0 kq a0 x12_1 = some (r1, r2)) ∧ Aside0 (kq ≤ k) ∧ Aside0 (Below w.heap.size w wc))
  case first =>
    have H := HC2.out
    clear HC2
    by_cases c3 : a0 < 0
    · rw [if_pos c3] at H
      have c3b0 : decide (a0 < 0) = true := decide_eq_true c3
      clear c3
      (first | rw [c3b0] | (simp only [i64_w, i32_w]; rw [c3b0]) | skip)
      have H' := Aside0.mk H
      clear H
      go_wp2
      repeat (go_quiet (fail); try go_wp2)
      go_meet
      case rel => exact ⟨_, (true), (by first | rfl | (simp; done) | (simp [*]; done) | (simp; generalize ByteArray.toList _ = l_; cases l_ <;> rfl)), H', ⟨by first | omega | exact Nat.le_refl _⟩, ⟨by repeat (first | (with_reducible first | exact HB.out | apply below_alloc | apply pw_below_drewN | apply below_drew1) | exact HB.out)⟩⟩
    · rw [if_neg c3] at H
      have c3b0 : decide (a0 < 0) = false := decide_eq_false c3
      clear c3
      (first | rw [c3b0] | (simp only [i64_w, i32_w]; rw [c3b0]) | skip)
      have H' := Aside0.mk H
      clear H
      go_wp2
      repeat (go_quiet (fail); try go_wp2)
      go_meet
      case rel => exact ⟨_, (decide (a0 > 1000000000)), (by first | rfl | (simp; done) | (simp [*]; done) | (simp; generalize ByteArray.toList _ = l_; cases l_ <;> rfl)), H', ⟨by first | omega | exact Nat.le_refl _⟩, ⟨by repeat (first | (with_reducible first | exact HB.out | apply below_alloc | apply pw_below_drewN | apply below_drew1) | exact HB.out)⟩⟩
  case rest =>
    clear HC2
    try clear c2
    try clear p2
    try clear c3
    try clear c3b0
    obtain ⟨kq, x12_1, rfl, HA, HJ1, HB⟩ := hcut
    cases kq with
    | zero => exact absurd HA.out (by simp [motleyref27_Span.j0])
    | succ kj1 =>
      have H := HA.out
      clear HA
      simp only [motleyref27_Span.j0] at H
      by_cases c4 : x12_1 = true
      · subst c4
        have H1 : (some ((⟨#[]⟩ : ByteArray), 1)) = some (r1, r2) := by rw [if_pos rfl] at H; exact H
        clear H
        have H := H1
        clear H1
        simp only [Option.some.injEq, Prod.mk.injEq] at H
        obtain ⟨rfl, rfl⟩ := H
        go_wp2
        repeat (go_quiet (fail); try go_wp2)
        go_ret2
        exact ⟨by first | rfl | (simp [errW_none, errW_some] <;> rfl) | (simp [*, errW_none, errW_some] <;> rfl), by repeat (first | (with_reducible first | exact HB.out | apply below_alloc | apply pw_below_drewN | apply below_drew1) | exact HB.out)⟩
      · replace c4 := Bool.eq_false_iff.mpr c4
        subst c4
        have H1 : (motleyref27_Span.l0 kj1 (([wrap64 (Int.tdiv a0 86400), Int.tmod (wrap64 (Int.tdiv a0 3600)) 24, Int.tmod (wrap64 (Int.tdiv a0 60)) 60, Int.tmod a0 60] : List Int)) (⟨#[]⟩ : ByteArray) 0) = some (r1, r2) := by rw [if_neg (show ¬ (false = true) by decide)] at H; exact H
        clear H
        have H := H1
        clear H1
        obtain ⟨y102, hy102⟩ : ∃ y_ : List Int, y_ = (([wrap64 (Int.tdiv a0 86400), Int.tmod (wrap64 (Int.tdiv a0 3600)) 24, Int.tmod (wrap64 (Int.tdiv a0 60)) 60, Int.tmod a0 60] : List Int)) := ⟨_, rfl⟩
        replace H : (motleyref27_Span.l0 kj1 y102 (⟨#[]⟩ : ByteArray) 0) = some (r1, r2) := by first | (rw [hy102]; with_reducible exact H) | (have H2_ := (Option.bind_some _ _).symm.trans H; rw [hy102]; with_reducible exact H2_) | (have H2_ := (Option.bind_some _ _).symm.trans H; with_reducible exact H2_) | with_reducible exact H | (rw [hy102]; exact H) | exact H
        have Ny102 := Aside0.mk hy102
        clear hy102
        have H' := Aside0.mk H
        clear H
        go_wp2_with (first | ((with_reducible refine gate_dst (N := 23) rfl ?_); refine Kd.R_lit (Kd.int .i64) _ 3 ?hg (N := 23) ?hd (xs := ([wrap64 (Int.tdiv a0 86400), Int.tmod (wrap64 (Int.tdiv a0 3600)) 24, Int.tmod (wrap64 (Int.tdiv a0 60)) 60, Int.tmod a0 60] : List Int)) (inner := [.int .i64 (wrap64 (Int.tdiv a0 86400)), .int .i64 (Int.tmod (wrap64 (Int.tdiv a0 3600)) 24), .int .i64 (Int.tmod (wrap64 (Int.tdiv a0 60)) 60), .int .i64 (Int.tmod a0 60)]) (ok := fun _ => True) (okp := fun _ => True) ?hr ?hp (fun _ hk => hk) trivial (Below.refl _ _) (Nat.le_refl _) (by simp) ?_; (case hd => rfl); (case hg => rfl); (case hr => first | (go_simp; done) | (go_simp; rfl)); (case hp => exact (Reps.one (show Kd.M (Kd.int .i64) _ _ _ (wrap64 (Int.tdiv a0 86400)) [.int .i64 (wrap64 (Int.tdiv a0 86400))] from rfl) (Reps.one (show Kd.M (Kd.int .i64) _ _ _ (Int.tmod (wrap64 (Int.tdiv a0 3600)) 24) [.int .i64 (Int.tmod (wrap64 (Int.tdiv a0 3600)) 24)] from rfl) (Reps.one (show Kd.M (Kd.int .i64) _ _ _ (Int.tmod (wrap64 (Int.tdiv a0 60)) 60) [.int .i64 (Int.tmod (wrap64 (Int.tdiv a0 60)) 60)] from rfl) (Reps.one (show Kd.M (Kd.int .i64) _ _ _ (Int.tmod a0 60) [.int .i64 (Int.tmod a0 60)] from rfl) (Reps.none _ _)))))); intro v103 w5 ho6 hb hg_ hnew_; clear hg_ hnew_; (first | rw [← Ny102.out] at ho6 | (simp only [Int.reduceToNat] at ho6; rw [← Ny102.out] at ho6)); have n0_ := Aside0.mk (Kd.R_lower ho6 (below_size (by repeat (first | (with_reducible first | exact HB.out | apply below_alloc | apply pw_below_drewN | apply below_drew1) | exact HB.out)))); have n1_ := Aside0.mk (below_step (by repeat (first | (with_reducible first | exact HB.out | apply below_alloc | apply pw_below_drewN | apply below_drew1) | exact HB.out)) hb); clear HB; have HO104 := n0_; have HB := n1_; clear n0_ n1_; clear hb ho6))
        repeat (go_quiet (first | ((with_reducible refine gate_dst (N := 23) rfl ?_); refine Kd.R_lit (Kd.int .i64) _ 3 ?hg (N := 23) ?hd (xs := ([wrap64 (Int.tdiv a0 86400), Int.tmod (wrap64 (Int.tdiv a0 3600)) 24, Int.tmod (wrap64 (Int.tdiv a0 60)) 60, Int.tmod a0 60] : List Int)) (inner := [.int .i64 (wrap64 (Int.tdiv a0 86400)), .int .i64 (Int.tmod (wrap64 (Int.tdiv a0 3600)) 24), .int .i64 (Int.tmod (wrap64 (Int.tdiv a0 60)) 60), .int .i64 (Int.tmod a0 60)]) (ok := fun _ => True) (okp := fun _ => True) ?hr ?hp (fun _ hk => hk) trivial (Below.refl _ _) (Nat.le_refl _) (by simp) ?_; (case hd => rfl); (case hg => rfl); (case hr => first | (go_simp; done) | (go_simp; rfl)); (case hp => exact (Reps.one (show Kd.M (Kd.int .i64) _ _ _ (wrap64 (Int.tdiv a0 86400)) [.int .i64 (wrap64 (Int.tdiv a0 86400))] from rfl) (Reps.one (show Kd.M (Kd.int .i64) _ _ _ (Int.tmod (wrap64 (Int.tdiv a0 3600)) 24) [.int .i64 (Int.tmod (wrap64 (Int.tdiv a0 3600)) 24)] from rfl) (Reps.one (show Kd.M (Kd.int .i64) _ _ _ (Int.tmod (wrap64 (Int.tdiv a0 60)) 60) [.int .i64 (Int.tmod (wrap64 (Int.tdiv a0 60)) 60)] from rfl) (Reps.one (show Kd.M (Kd.int .i64) _ _ _ (Int.tmod a0 60) [.int .i64 (Int.tmod a0 60)] from rfl) (Reps.none _ _)))))); intro v103 w5 ho6 hb hg_ hnew_; clear hg_ hnew_; (first | rw [← Ny102.out] at ho6 | (simp only [Int.reduceToNat] at ho6; rw [← Ny102.out] at ho6)); have n0_ := Aside0.mk (Kd.R_lower ho6 (below_size (by repeat (first | (with_reducible first | exact HB.out | apply below_alloc | apply pw_below_drewN | apply below_drew1) | exact HB.out)))); have n1_ := Aside0.mk (below_step (by repeat (first | (with_reducible first | exact HB.out | apply below_alloc | apply pw_below_drewN | apply below_drew1) | exact HB.out)) hb); clear HB; have HO104 := n0_; have HB := n1_; clear n0_ n1_; clear hb ho6)); try go_wp2_with (first | ((with_reducible refine gate_dst (N := 23) rfl ?_); refine Kd.R_lit (Kd.int .i64) _ 3 ?hg (N := 23) ?hd (xs := ([wrap64 (Int.tdiv a0 86400), Int.tmod (wrap64 (Int.tdiv a0 3600)) 24, Int.tmod (wrap64 (Int.tdiv a0 60)) 60, Int.tmod a0 60] : List Int)) (inner := [.int .i64 (wrap64 (Int.tdiv a0 86400)), .int .i64 (Int.tmod (wrap64 (Int.tdiv a0 3600)) 24), .int .i64 (Int.tmod (wrap64 (Int.tdiv a0 60)) 60), .int .i64 (Int.tmod a0 60)]) (ok := fun _ => True) (okp := fun _ => True) ?hr ?hp (fun _ hk => hk) trivial (Below.refl _ _) (Nat.le_refl _) (by simp) ?_; (case hd => rfl); (case hg => rfl); (case hr => first | (go_simp; done) | (go_simp; rfl)); (case hp => exact (Reps.one (show Kd.M (Kd.int .i64) _ _ _ (wrap64 (Int.tdiv a0 86400)) [.int .i64 (wrap64 (Int.tdiv a0 86400))] from rfl) (Reps.one (show Kd.M (Kd.int .i64) _ _ _ (Int.tmod (wrap64 (Int.tdiv a0 3600)) 24) [.int .i64 (Int.tmod (wrap64 (Int.tdiv a0 3600)) 24)] from rfl) (Reps.one (show Kd.M (Kd.int .i64) _ _ _ (Int.tmod (wrap64 (Int.tdiv a0 60)) 60) [.int .i64 (Int.tmod (wrap64 (Int.tdiv a0 60)) 60)] from rfl) (Reps.one (show Kd.M (Kd.int .i64) _ _ _ (Int.tmod a0 60) [.int .i64 (Int.tmod a0 60)] from rfl) (Reps.none _ _)))))); intro v103 w5 ho6 hb hg_ hnew_; clear hg_ hnew_; (first | rw [← Ny102.out] at ho6 | (simp only [Int.reduceToNat] at ho6; rw [← Ny102.out] at ho6)); have n0_ := Aside0.mk (Kd.R_lower ho6 (below_size (by repeat (first | (with_reducible first | exact HB.out | apply below_alloc | apply pw_below_drewN | apply below_drew1) | exact HB.out)))); have n1_ := Aside0.mk (below_step (by repeat (first | (with_reducible first | exact HB.out | apply below_alloc | apply pw_below_drewN | apply below_drew1) | exact HB.out)) hb); clear HB; have HO104 := n0_; have HB := n1_; clear n0_ n1_; clear hb ho6)))
        go_loopg [5, 6] kj1 (fun kq v5 v6 w' => ∃ (x5_2 : ByteArray) (x6_2 : Int), v5 = .string x5_2 ∧ v6 = .int .i64 x6_2 ∧ Aside0 (motleyref27_Span.l0 kq y102 x5_2 x6_2 = some (r1, r2)) ∧ Aside0 (kq ≤ kj1) ∧ Aside0 (Kd.R (Kd.int .i64) 3 w' w.heap.size (fun _ => True) v103 y102) ∧ Aside0 (Below w.heap.size w w'))
        case atStart => exact ⟨((⟨#[]⟩ : ByteArray)), (0), (by first | rfl | (simp; done) | (simp [*]; done) | (simp; generalize ByteArray.toList _ = l_; cases l_ <;> rfl)), (by first | rfl | (simp; done) | (simp [*]; done) | (simp; generalize ByteArray.toList _ = l_; cases l_ <;> rfl)), H', ⟨Nat.le_refl _⟩, ⟨by (with_reducible repeat (first | apply Kd.R_alloc | apply Kd.R_drewN | apply Kd.R_drew)); exact HO104.out⟩, ⟨by repeat (first | (with_reducible first | exact HB.out | apply below_alloc | apply pw_below_drewN | apply below_drew1) | exact HB.out)⟩⟩
        case round =>
          clear H'
          try clear c2
          try clear p2
          try clear c3
          try clear c3b0
          try clear c4
          try clear p6
          try clear p2
          obtain ⟨x5_2, x6_2, rfl, rfl, HA, HK2, HO_4, HB⟩ := hrel
          cases gk with
          | zero => exact absurd HA.out (by simp [motleyref27_Span.l0])
          | succ k2 =>
            have H := HA.out
            clear HA
            simp only [motleyref27_Span.l0] at H
            by_cases c7 : x6_2 < 4
            · rw [if_pos c7] at H
              have c7b0 : decide (x6_2 < 4) = true := decide_eq_true c7
              clear c7
              by_cases c8 : 0 ≤ x6_2
              · rw [if_pos c8] at H
                have c8b0 : decide (0 ≤ x6_2) = true := decide_eq_true c8
                clear c8
                by_cases c9 : x6_2 < (y102.length : Int)
                · rw [if_pos c9] at H
                  have c9b0 : decide (x6_2 < (y102.length : Int)) = true := decide_eq_true c9
                  clear c9
                  by_cases c10 : (rd y102 x6_2) = 0
                  · rw [if_pos c10] at H
                    have c10b0 : ((rd y102 x6_2) == 0) = true := beq_iff_eq.mpr c10
                    have c10b1 : ((rd y102 x6_2) != 0) = false := bne_eq_false_iff_eq.mpr c10
                    clear c10
                    have H' := Aside0.mk H
                    clear H
                    obtain ⟨Ao11, co11, eo11⟩ := Kd.R_slice HO_4.out
                    subst eo11
                    have p105 : 0 ≤ (x6_2 : Int) := of_decide_eq_true (by first | (with_reducible assumption) | assumption)
                    have q105 : x6_2 < (y102.length : Int) := of_decide_eq_true (by first | (with_reducible assumption) | assumption)
                    obtain ⟨ad105, e105, hx105_0⟩ := Kd.at_int (Kd.R_reads' HO_4.out).2.2 x6_2 p105 q105
                    cases e105
                    replace p105 := eq_true p105
                    replace q105 := eq_true q105
                    go_wp2
                    repeat (go_quiet (fail); try go_wp2)
                    go_roundg k2
                    case measure => have := HJ1.out; have := HK2.out; omega
                    case rel => exact ⟨(x5_2), (wrap64 (x6_2 + 1)), (by first | rfl | (simp; done) | (simp [*]; done) | (simp; generalize ByteArray.toList _ = l_; cases l_ <;> rfl)), (by first | rfl | (simp; done) | (simp [*]; done) | (simp; generalize ByteArray.toList _ = l_; cases l_ <;> rfl)), H', ⟨by have := HJ1.out; have := HK2.out; omega⟩, ⟨by (with_reducible repeat (first | apply Kd.R_alloc | apply Kd.R_drewN | apply Kd.R_drew)); exact HO_4.out⟩, ⟨by repeat (first | (with_reducible first | exact HB.out | apply below_alloc | apply pw_below_drewN | apply below_drew1) | exact HB.out)⟩⟩
                  · rw [if_neg c10] at H
                    have c10b0 : ((rd y102 x6_2) == 0) = false := beq_eq_false_iff_ne.mpr c10
                    have c10b1 : ((rd y102 x6_2) != 0) = true := bne_iff_ne.mpr c10
                    by_cases c12 : x5_2.toList = ([] : List UInt8)
                    · rw [if_pos c12] at H
                      have c12b0 : (x5_2.toList == ([] : List UInt8)) = true := beq_iff_eq.mpr c12
                      have c12b1 : (x5_2.toList != ([] : List UInt8)) = false := bne_eq_false_iff_eq.mpr c12
                      (try (have c12b2 : x5_2.toList.isEmpty = true := by simpa using c12))
                      (try (have c12b3 : List.isEmpty x5_2.toList = true := by simpa using c12))
                      clear c12
                      replace H := Option.bind_eq_some_iff.mp H
                      obtain ⟨t107, A130, H⟩ := H
                      replace H : (if x6_2 ≤ (wrap64 (x6_2 + 1)) then (if (wrap64 (x6_2 + 1)) ≤ 4 then (if t107.size + ((⟨#[100, 104, 109, 115]⟩ : ByteArray).extract (x6_2 : Int).toNat ((wrap64 (x6_2 + 1)) : Int).toNat).size ≤ 9223372036854775807 then (if x5_2.size + (t107 ++ ((⟨#[100, 104, 109, 115]⟩ : ByteArray).extract (x6_2 : Int).toNat ((wrap64 (x6_2 + 1)) : Int).toNat)).size ≤ 9223372036854775807 then (motleyref27_Span.l0 k2 y102 (x5_2 ++ (t107 ++ ((⟨#[100, 104, 109, 115]⟩ : ByteArray).extract (x6_2 : Int).toNat ((wrap64 (x6_2 + 1)) : Int).toNat))) (wrap64 (x6_2 + 1))) else (none)) else (none)) else (none)) else (none)) = some (r1, r2) := H
                      have A13 := Aside0.mk A130
                      clear A130
                      have c14b0 := eq_true (of_decide_eq_true (by first | (with_reducible assumption) | assumption) : 0 ≤ x6_2)
                      by_cases c15 : x6_2 ≤ (wrap64 (x6_2 + 1))
                      · rw [if_pos c15] at H
                        have c15b0 := eq_true c15
                        have c15b1 : decide (x6_2 ≤ (wrap64 (x6_2 + 1))) = true := decide_eq_true c15
                        by_cases c16 : (wrap64 (x6_2 + 1)) ≤ 4
                        · rw [if_pos c16] at H
                          have c16b0 := eq_true c16
                          have c16b1 : decide ((wrap64 (x6_2 + 1)) ≤ 4) = true := decide_eq_true c16
                          by_cases c17 : t107.size + ((⟨#[100, 104, 109, 115]⟩ : ByteArray).extract (x6_2 : Int).toNat ((wrap64 (x6_2 + 1)) : Int).toNat).size ≤ 9223372036854775807
                          · rw [if_pos c17] at H
                            have c17b0 := eq_true c17
                            have c17b1 : decide (t107.size + ((⟨#[100, 104, 109, 115]⟩ : ByteArray).extract (x6_2 : Int).toNat ((wrap64 (x6_2 + 1)) : Int).toNat).size ≤ 9223372036854775807) = true := decide_eq_true c17
                            try have c17b3 : (9223372036854775807 < t107.size + (((⟨#[100, 104, 109, 115]⟩ : ByteArray).extract (x6_2 : Int).toNat ((wrap64 (x6_2 + 1)) : Int).toNat).size)) = False := eq_false (by have h_ := c17; (first | simp only [ByteArray.size_append, ByteArray.size_extract, Nat.min_self] at h_ | simp only [ByteArray.size_append] at h_); exact Nat.not_lt.2 h_)
                            try have c17b2 : (9223372036854775807 < t107.size + ((⟨#[100, 104, 109, 115]⟩ : ByteArray).extract (x6_2 : Int).toNat ((wrap64 (x6_2 + 1)) : Int).toNat).size) = False := eq_false (Nat.not_lt.2 c17)
                            by_cases c18 : x5_2.size + (t107 ++ ((⟨#[100, 104, 109, 115]⟩ : ByteArray).extract (x6_2 : Int).toNat ((wrap64 (x6_2 + 1)) : Int).toNat)).size ≤ 9223372036854775807
                            · rw [if_pos c18] at H
                              have c18b0 := eq_true c18
                              have c18b1 : decide (x5_2.size + (t107 ++ ((⟨#[100, 104, 109, 115]⟩ : ByteArray).extract (x6_2 : Int).toNat ((wrap64 (x6_2 + 1)) : Int).toNat)).size ≤ 9223372036854775807) = true := decide_eq_true c18
                              try have c18b3 : (9223372036854775807 < x5_2.size + (t107.size + (((⟨#[100, 104, 109, 115]⟩ : ByteArray).extract (x6_2 : Int).toNat ((wrap64 (x6_2 + 1)) : Int).toNat).size))) = False := eq_false (by have h_ := c18; (first | simp only [ByteArray.size_append, ByteArray.size_extract, Nat.min_self] at h_ | simp only [ByteArray.size_append] at h_); exact Nat.not_lt.2 h_)
                              try have c18b2 : (9223372036854775807 < x5_2.size + (t107 ++ ((⟨#[100, 104, 109, 115]⟩ : ByteArray).extract (x6_2 : Int).toNat ((wrap64 (x6_2 + 1)) : Int).toNat)).size) = False := eq_false (Nat.not_lt.2 c18)
                              have H' := Aside0.mk H
                              clear H
                              obtain ⟨Ao19, co19, eo19⟩ := Kd.R_slice HO_4.out
                              subst eo19
                              have p105 : 0 ≤ (x6_2 : Int) := of_decide_eq_true (by first | (with_reducible assumption) | assumption)
                              have q105 : x6_2 < (y102.length : Int) := of_decide_eq_true (by first | (with_reducible assumption) | assumption)
                              obtain ⟨ad105, e105, hx105_0⟩ := Kd.at_int (Kd.R_reads' HO_4.out).2.2 x6_2 p105 q105
                              cases e105
                              replace p105 := eq_true p105
                              replace q105 := eq_true q105
                              have p106 : 0 ≤ (x6_2 : Int) := of_decide_eq_true (by first | (with_reducible assumption) | assumption)
                              have q106 : x6_2 < (y102.length : Int) := of_decide_eq_true (by first | (with_reducible assumption) | assumption)
                              obtain ⟨ad106, e106, hx106_0⟩ := Kd.at_int (Kd.R_reads' HO_4.out).2.2 x6_2 p106 q106
                              obtain rfl : ad105 = ad106 := (by injection e106)
                              replace p106 := eq_true p106
                              replace q106 := eq_true q106
                              go_wp2_with (first | (go_at_call 60; (with_reducible refine (motleyref01_Written.calls (rd y102 x6_2) t107 _ A13.out).mono ?_); rintro e w' ⟨rfl, ⟨nd, rfl⟩⟩; (try first | exact ⟨rfl, _, World.drewN_drewN _ _ _⟩ | exact ⟨rfl, _, Eq.trans (World.drewN_drewN _ _ _) (congrArg (World.drewN _) (Nat.add_assoc _ _ _))⟩)))
                              repeat (go_quiet (first | (go_at_call 60; (with_reducible refine (motleyref01_Written.calls (rd y102 x6_2) t107 _ A13.out).mono ?_); rintro e w' ⟨rfl, ⟨nd, rfl⟩⟩; (try first | exact ⟨rfl, _, World.drewN_drewN _ _ _⟩ | exact ⟨rfl, _, Eq.trans (World.drewN_drewN _ _ _) (congrArg (World.drewN _) (Nat.add_assoc _ _ _))⟩))); try go_wp2_with (first | (go_at_call 60; (with_reducible refine (motleyref01_Written.calls (rd y102 x6_2) t107 _ A13.out).mono ?_); rintro e w' ⟨rfl, ⟨nd, rfl⟩⟩; (try first | exact ⟨rfl, _, World.drewN_drewN _ _ _⟩ | exact ⟨rfl, _, Eq.trans (World.drewN_drewN _ _ _) (congrArg (World.drewN _) (Nat.add_assoc _ _ _))⟩))))
                              go_roundg k2
                              case measure => have := HJ1.out; have := HK2.out; omega
                              case rel => exact ⟨(x5_2 ++ (t107 ++ ((⟨#[100, 104, 109, 115]⟩ : ByteArray).extract (x6_2 : Int).toNat ((wrap64 (x6_2 + 1)) : Int).toNat))), (wrap64 (x6_2 + 1)), (by first | rfl | (simp; done) | (simp [*]; done) | (simp; generalize ByteArray.toList _ = l_; cases l_ <;> rfl)), (by first | rfl | (simp; done) | (simp [*]; done) | (simp; generalize ByteArray.toList _ = l_; cases l_ <;> rfl)), H', ⟨by have := HJ1.out; have := HK2.out; omega⟩, ⟨by (with_reducible repeat (first | apply Kd.R_alloc | apply Kd.R_drewN | apply Kd.R_drew)); exact HO_4.out⟩, ⟨by repeat (first | (with_reducible first | exact HB.out | apply below_alloc | apply pw_below_drewN | apply below_drew1) | exact HB.out)⟩⟩
                            · rw [if_neg c18] at H
                              exact absurd H (by simp)
                          · rw [if_neg c17] at H
                            exact absurd H (by simp)
                        · rw [if_neg c16] at H
                          exact absurd H (by simp)
                      · rw [if_neg c15] at H
                        exact absurd H (by simp)
                    · rw [if_neg c12] at H
                      have c12b0 : (x5_2.toList == ([] : List UInt8)) = false := beq_eq_false_iff_ne.mpr c12
                      have c12b1 : (x5_2.toList != ([] : List UInt8)) = true := bne_iff_ne.mpr c12
                      (try (have c12b2 : x5_2.toList.isEmpty = false := by simpa using c12))
                      (try (have c12b3 : List.isEmpty x5_2.toList = false := by simpa using c12))
                      by_cases c20 : x5_2.size + 1 ≤ 9223372036854775807
                      · rw [if_pos c20] at H
                        have c20b0 := eq_true c20
                        have c20b1 : decide (x5_2.size + 1 ≤ 9223372036854775807) = true := decide_eq_true c20
                        try have c20b2 : (9223372036854775807 < x5_2.size + 1) = False := eq_false (Nat.not_lt.2 c20)
                        replace H := Option.bind_eq_some_iff.mp H
                        obtain ⟨t109, A210, H⟩ := H
                        replace H : (if x6_2 ≤ (wrap64 (x6_2 + 1)) then (if (wrap64 (x6_2 + 1)) ≤ 4 then (if t109.size + ((⟨#[100, 104, 109, 115]⟩ : ByteArray).extract (x6_2 : Int).toNat ((wrap64 (x6_2 + 1)) : Int).toNat).size ≤ 9223372036854775807 then (if (x5_2 ++ (⟨#[32]⟩ : ByteArray)).size + (t109 ++ ((⟨#[100, 104, 109, 115]⟩ : ByteArray).extract (x6_2 : Int).toNat ((wrap64 (x6_2 + 1)) : Int).toNat)).size ≤ 9223372036854775807 then (motleyref27_Span.l0 k2 y102 ((x5_2 ++ (⟨#[32]⟩ : ByteArray)) ++ (t109 ++ ((⟨#[100, 104, 109, 115]⟩ : ByteArray).extract (x6_2 : Int).toNat ((wrap64 (x6_2 + 1)) : Int).toNat))) (wrap64 (x6_2 + 1))) else (none)) else (none)) else (none)) else (none)) = some (r1, r2) := H
                        have A21 := Aside0.mk A210
                        clear A210
                        have c22b0 := eq_true (of_decide_eq_true (by first | (with_reducible assumption) | assumption) : 0 ≤ x6_2)
                        by_cases c23 : x6_2 ≤ (wrap64 (x6_2 + 1))
                        · rw [if_pos c23] at H
                          have c23b0 := eq_true c23
                          have c23b1 : decide (x6_2 ≤ (wrap64 (x6_2 + 1))) = true := decide_eq_true c23
                          by_cases c24 : (wrap64 (x6_2 + 1)) ≤ 4
                          · rw [if_pos c24] at H
                            have c24b0 := eq_true c24
                            have c24b1 : decide ((wrap64 (x6_2 + 1)) ≤ 4) = true := decide_eq_true c24
                            by_cases c25 : t109.size + ((⟨#[100, 104, 109, 115]⟩ : ByteArray).extract (x6_2 : Int).toNat ((wrap64 (x6_2 + 1)) : Int).toNat).size ≤ 9223372036854775807
                            · rw [if_pos c25] at H
                              have c25b0 := eq_true c25
                              have c25b1 : decide (t109.size + ((⟨#[100, 104, 109, 115]⟩ : ByteArray).extract (x6_2 : Int).toNat ((wrap64 (x6_2 + 1)) : Int).toNat).size ≤ 9223372036854775807) = true := decide_eq_true c25
                              try have c25b3 : (9223372036854775807 < t109.size + (((⟨#[100, 104, 109, 115]⟩ : ByteArray).extract (x6_2 : Int).toNat ((wrap64 (x6_2 + 1)) : Int).toNat).size)) = False := eq_false (by have h_ := c25; (first | simp only [ByteArray.size_append, ByteArray.size_extract, Nat.min_self] at h_ | simp only [ByteArray.size_append] at h_); exact Nat.not_lt.2 h_)
                              try have c25b2 : (9223372036854775807 < t109.size + ((⟨#[100, 104, 109, 115]⟩ : ByteArray).extract (x6_2 : Int).toNat ((wrap64 (x6_2 + 1)) : Int).toNat).size) = False := eq_false (Nat.not_lt.2 c25)
                              by_cases c26 : (x5_2 ++ (⟨#[32]⟩ : ByteArray)).size + (t109 ++ ((⟨#[100, 104, 109, 115]⟩ : ByteArray).extract (x6_2 : Int).toNat ((wrap64 (x6_2 + 1)) : Int).toNat)).size ≤ 9223372036854775807
                              · rw [if_pos c26] at H
                                have c26b0 := eq_true c26
                                have c26b1 : decide ((x5_2 ++ (⟨#[32]⟩ : ByteArray)).size + (t109 ++ ((⟨#[100, 104, 109, 115]⟩ : ByteArray).extract (x6_2 : Int).toNat ((wrap64 (x6_2 + 1)) : Int).toNat)).size ≤ 9223372036854775807) = true := decide_eq_true c26
                                try have c26b3 : (9223372036854775807 < x5_2.size + 1 + (t109.size + (((⟨#[100, 104, 109, 115]⟩ : ByteArray).extract (x6_2 : Int).toNat ((wrap64 (x6_2 + 1)) : Int).toNat).size))) = False := eq_false (by have h_ := c26; (first | simp only [ByteArray.size_append, ByteArray.size_extract, Nat.min_self] at h_ | simp only [ByteArray.size_append] at h_); exact Nat.not_lt.2 h_)
                                try have c26b2 : (9223372036854775807 < (x5_2 ++ (⟨#[32]⟩ : ByteArray)).size + (t109 ++ ((⟨#[100, 104, 109, 115]⟩ : ByteArray).extract (x6_2 : Int).toNat ((wrap64 (x6_2 + 1)) : Int).toNat)).size) = False := eq_false (Nat.not_lt.2 c26)
                                have H' := Aside0.mk H
                                clear H
                                obtain ⟨Ao27, co27, eo27⟩ := Kd.R_slice HO_4.out
                                subst eo27
                                have p105 : 0 ≤ (x6_2 : Int) := of_decide_eq_true (by first | (with_reducible assumption) | assumption)
                                have q105 : x6_2 < (y102.length : Int) := of_decide_eq_true (by first | (with_reducible assumption) | assumption)
                                obtain ⟨ad105, e105, hx105_0⟩ := Kd.at_int (Kd.R_reads' HO_4.out).2.2 x6_2 p105 q105
                                cases e105
                                replace p105 := eq_true p105
                                replace q105 := eq_true q105
                                have p108 : 0 ≤ (x6_2 : Int) := of_decide_eq_true (by first | (with_reducible assumption) | assumption)
                                have q108 : x6_2 < (y102.length : Int) := of_decide_eq_true (by first | (with_reducible assumption) | assumption)
                                obtain ⟨ad108, e108, hx108_0⟩ := Kd.at_int (Kd.R_reads' HO_4.out).2.2 x6_2 p108 q108
                                obtain rfl : ad105 = ad108 := (by injection e108)
                                replace p108 := eq_true p108
                                replace q108 := eq_true q108
                                go_wp2_with (first | (go_at_call 60; (with_reducible refine (motleyref01_Written.calls (rd y102 x6_2) t109 _ A21.out).mono ?_); rintro e w' ⟨rfl, ⟨nd, rfl⟩⟩; (try first | exact ⟨rfl, _, World.drewN_drewN _ _ _⟩ | exact ⟨rfl, _, Eq.trans (World.drewN_drewN _ _ _) (congrArg (World.drewN _) (Nat.add_assoc _ _ _))⟩)))
                                repeat (go_quiet (first | (go_at_call 60; (with_reducible refine (motleyref01_Written.calls (rd y102 x6_2) t109 _ A21.out).mono ?_); rintro e w' ⟨rfl, ⟨nd, rfl⟩⟩; (try first | exact ⟨rfl, _, World.drewN_drewN _ _ _⟩ | exact ⟨rfl, _, Eq.trans (World.drewN_drewN _ _ _) (congrArg (World.drewN _) (Nat.add_assoc _ _ _))⟩))); try go_wp2_with (first | (go_at_call 60; (with_reducible refine (motleyref01_Written.calls (rd y102 x6_2) t109 _ A21.out).mono ?_); rintro e w' ⟨rfl, ⟨nd, rfl⟩⟩; (try first | exact ⟨rfl, _, World.drewN_drewN _ _ _⟩ | exact ⟨rfl, _, Eq.trans (World.drewN_drewN _ _ _) (congrArg (World.drewN _) (Nat.add_assoc _ _ _))⟩))))
                                go_roundg k2
                                case measure => have := HJ1.out; have := HK2.out; omega
                                case rel => exact ⟨((x5_2 ++ (⟨#[32]⟩ : ByteArray)) ++ (t109 ++ ((⟨#[100, 104, 109, 115]⟩ : ByteArray).extract (x6_2 : Int).toNat ((wrap64 (x6_2 + 1)) : Int).toNat))), (wrap64 (x6_2 + 1)), (by first | rfl | (simp; done) | (simp [*]; done) | (simp; generalize ByteArray.toList _ = l_; cases l_ <;> rfl)), (by first | rfl | (simp; done) | (simp [*]; done) | (simp; generalize ByteArray.toList _ = l_; cases l_ <;> rfl)), H', ⟨by have := HJ1.out; have := HK2.out; omega⟩, ⟨by (with_reducible repeat (first | apply Kd.R_alloc | apply Kd.R_drewN | apply Kd.R_drew)); exact HO_4.out⟩, ⟨by repeat (first | (with_reducible first | exact HB.out | apply below_alloc | apply pw_below_drewN | apply below_drew1) | exact HB.out)⟩⟩
                              · rw [if_neg c26] at H
                                exact absurd H (by simp)
                            · rw [if_neg c25] at H
                              exact absurd H (by simp)
                          · rw [if_neg c24] at H
                            exact absurd H (by simp)
                        · rw [if_neg c23] at H
                          exact absurd H (by simp)
                      · rw [if_neg c20] at H
                        exact absurd H (by simp)
                · rw [if_neg c9] at H
                  exact absurd H (by simp)
              · rw [if_neg c8] at H
                exact absurd H (by simp)
            · rw [if_neg c7] at H
              have c7b0 : decide (x6_2 < 4) = false := decide_eq_false c7
              clear c7
              by_cases c28 : x5_2.toList = ([] : List UInt8)
              · rw [if_pos c28] at H
                have c28b0 : (x5_2.toList == ([] : List UInt8)) = true := beq_iff_eq.mpr c28
                have c28b1 : (x5_2.toList != ([] : List UInt8)) = false := bne_eq_false_iff_eq.mpr c28
                (try (have c28b2 : x5_2.toList.isEmpty = true := by simpa using c28))
                (try (have c28b3 : List.isEmpty x5_2.toList = true := by simpa using c28))
                clear c28
                simp only [Option.some.injEq, Prod.mk.injEq] at H
                obtain ⟨rfl, rfl⟩ := H
                go_wp2
                repeat (go_quiet (fail); try go_wp2)
                go_ret2
                exact ⟨by first | rfl | (simp [errW_none, errW_some] <;> rfl) | (simp [*, errW_none, errW_some] <;> rfl), by repeat (first | (with_reducible first | exact HB.out | apply below_alloc | apply pw_below_drewN | apply below_drew1) | exact HB.out)⟩
              · rw [if_neg c28] at H
                have c28b0 : (x5_2.toList == ([] : List UInt8)) = false := beq_eq_false_iff_ne.mpr c28
                have c28b1 : (x5_2.toList != ([] : List UInt8)) = true := bne_iff_ne.mpr c28
                (try (have c28b2 : x5_2.toList.isEmpty = false := by simpa using c28))
                (try (have c28b3 : List.isEmpty x5_2.toList = false := by simpa using c28))
                simp only [Option.some.injEq, Prod.mk.injEq] at H
                obtain ⟨rfl, rfl⟩ := H
                go_wp2
                repeat (go_quiet (fail); try go_wp2)
                go_ret2
                exact ⟨by first | rfl | (simp [errW_none, errW_some] <;> rfl) | (simp [*, errW_none, errW_some] <;> rfl), by repeat (first | (with_reducible first | exact HB.out | apply below_alloc | apply pw_below_drewN | apply below_drew1) | exact HB.out)⟩

/-! ### motleylaw27_TapSpans: function 8 -/
def motleylaw27_TapSpans.j0 : Nat → Int → ByteArray → Int → Bool → Option (Bool)
  | 0, _, _, _, _ => none
  | k + 1, x0, x5, x6, x26 => if x26 = true then (some false) else (if x6 = 0 then ((tap_ParseSpan.f x5).bind fun bt114 => (if bt114.1 = x0 then (if bt114.2 = 0 then ((motleylaw27_known.f).bind fun t116 => (some t116)) else (some false)) else (some false))) else ((motleylaw27_known.f).bind fun t117 => (some t117)))
def motleylaw27_TapSpans.f (k : Nat) (a0 : Int) : Option (Bool) := (motleyref27_Span.f k a0).bind fun bt110 => ((tap_Span.f a0).bind fun bt112 => (if bt112.1.toList = bt110.1.toList then (motleylaw27_TapSpans.j0 k a0 bt112.1 bt112.2 (bt112.2 != bt110.2)) else (motleylaw27_TapSpans.j0 k a0 bt112.1 bt112.2 true)))
theorem motleylaw27_TapSpans.mono_l : ∀ k, (∀ y0 y1 y2 y3, LeO (motleylaw27_TapSpans.j0 k y0 y1 y2 y3) (motleylaw27_TapSpans.j0 (k + 1) y0 y1 y2 y3))
  | 0 => fun _ _ _ _ r h => by simp [motleylaw27_TapSpans.j0] at h
  | k + 1 => by
    have ih0 := motleylaw27_TapSpans.mono_l k
    · intro y0 y1 y2 y3
      unfold motleylaw27_TapSpans.j0
      repeat' first
      | (with_reducible exact ih0 _ _ _ _)
      | (with_reducible exact motleyref27_Span.mono _ _)
      | (with_reducible exact LeO.refl _)
      | (with_reducible exact LeO.none _)
      | (with_reducible refine LeO.ite ?_ ?_)
      | (with_reducible refine LeO.bind ?_ (fun _ => ?_))
      | exact ih0 _ _ _ _
      | exact motleyref27_Span.mono _ _
      | exact LeO.none _
      | refine LeO.ite ?_ ?_
      | refine LeO.bind ?_ (fun _ => ?_)
theorem motleylaw27_TapSpans.mono : ∀ a0 k, LeO (motleylaw27_TapSpans.f k a0) (motleylaw27_TapSpans.f (k + 1) a0) := by
  intro a0 k
  have ih0 := motleylaw27_TapSpans.mono_l k
  unfold motleylaw27_TapSpans.f
  repeat' first
      | (with_reducible exact ih0 _ _ _ _)
      | (with_reducible exact motleyref27_Span.mono _ _)
      | (with_reducible exact LeO.refl _)
      | (with_reducible exact LeO.none _)
      | (with_reducible refine LeO.ite ?_ ?_)
      | (with_reducible refine LeO.bind ?_ (fun _ => ?_))
      | exact ih0 _ _ _ _
      | exact motleyref27_Span.mono _ _
      | exact LeO.none _
      | refine LeO.ite ?_ ?_
      | refine LeO.bind ?_ (fun _ => ?_)
set_option maxHeartbeats 8000000 in
set_option maxRecDepth 100000 in
theorem motleylaw27_TapSpans.calls (k : Nat) (a0 : Int) (r : Bool) (w : World) (hL : LaidW w) (h : motleylaw27_TapSpans.f k a0 = some r) :
    Calls Tryd.prog 8 #[.int .i64 a0] w fun e w' => e = .returned (.bool r) ∧ Below w.heap.size w w' := by
  have HB := Aside0.mk (Below.refl w.heap.size w)
  have H : ((motleyref27_Span.f k a0).bind fun bt110 => ((tap_Span.f a0).bind fun bt112 => (if bt112.1.toList = bt110.1.toList then (motleylaw27_TapSpans.j0 k a0 bt112.1 bt112.2 (bt112.2 != bt110.2)) else (motleylaw27_TapSpans.j0 k a0 bt112.1 bt112.2 true)))) = some r := h
  clear h
  replace H := Option.bind_eq_some_iff.mp H
  obtain ⟨⟨t110, t111⟩, A20, H⟩ := H
  replace H : ((tap_Span.f a0).bind fun bt112 => (if bt112.1.toList = t110.toList then (motleylaw27_TapSpans.j0 k a0 bt112.1 bt112.2 (bt112.2 != t111)) else (motleylaw27_TapSpans.j0 k a0 bt112.1 bt112.2 true))) = some r := H
  have A2 := Aside0.mk A20
  clear A20
  replace H := Option.bind_eq_some_iff.mp H
  obtain ⟨⟨t112, t113⟩, A30, H⟩ := H
  replace H : (if t112.toList = t110.toList then (motleylaw27_TapSpans.j0 k a0 t112 t113 (t113 != t111)) else (motleylaw27_TapSpans.j0 k a0 t112 t113 true)) = some r := H
  have A3 := Aside0.mk A30
  clear A30
  have HC4 := Aside0.mk H
  clear H
  go_enter Tryd.func8, Tryd.ntmps8
  go_upto_region 3 with (first | ((with_reducible refine gate_callee (f := 27) rfl ?_); refine goesL_ (some 11) rfl rfl Tryd.func27 (by kernel_rfl) rfl #[.int .i64 a0] rfl (by (try simp only [List.map_toArray, List.map_cons, List.map_nil]); first | done | rfl | (simp only [List.length_drop, List.length_take]; rfl)) ?_; (with_reducible refine (motleyref27_Span.calls k a0 t110 t111 _ A2.out).mono ?_); rintro e w5 ⟨rfl, hb⟩; refine ⟨_, rfl, ?_⟩; have n0_ := Aside0.mk (below_step (by repeat (first | (with_reducible first | exact HB.out | apply below_alloc | apply pw_below_drewN | apply below_drew1) | exact HB.out)) hb); clear HB; have HB := n0_; clear n0_; (try clear hb); (try clear hb2); (try clear hk); (try clear hi)) | ((with_reducible refine gate_callee (f := 28) rfl ?_); refine goesL_ (some 16) rfl rfl Tryd.func28 (by kernel_rfl) rfl #[.int .i64 a0] rfl (by (try simp only [List.map_toArray, List.map_cons, List.map_nil]); first | done | rfl | (simp only [List.length_drop, List.length_take]; rfl)) ?_; (with_reducible refine (tap_Span.calls a0 t112 t113 _ ?side1 A3.out).mono ?_); (case side1 => first | exact hL | exact LaidW.below hL (by repeat (first | (with_reducible first | exact HB.out | apply below_alloc | apply pw_below_drewN | apply below_drew1) | exact HB.out))); rintro e w6 ⟨rfl, hb⟩; refine ⟨_, rfl, ?_⟩; have n0_ := Aside0.mk (below_step (by repeat (first | (with_reducible first | exact HB.out | apply below_alloc | apply pw_below_drewN | apply below_drew1) | exact HB.out)) hb); clear HB; have HB := n0_; clear n0_; (try clear hb); (try clear hb2); (try clear hk); (try clear hi)))
  (try simp only [Act.put, List.setIfInBounds_toArray, List.set_cons_zero, List.set_cons_succ])
  go_cut [26] (fun v26 wc => ∃ (kq : Nat) (x26_3 : Bool), v26 = .bool x26_3 ∧ Aside0 (motleylaw27_TapSpans.j0 kq a0 t112 t113 x26_3 = some r) ∧ Aside0 (kq ≤ k) ∧ Aside0 (Below w.heap.size w wc))
  case first =>
    have H := HC4.out
    clear HC4
    by_cases c7 : t112.toList = t110.toList
    · rw [if_pos c7] at H
      have c7b0 : (t112.toList == t110.toList) = true := beq_iff_eq.mpr c7
      have c7b1 : (t112.toList != t110.toList) = false := bne_eq_false_iff_eq.mpr c7
      clear c7
      (first | rw [c7b0] | (simp only [i64_w, i32_w]; rw [c7b0]) | skip)
      have H' := Aside0.mk H
      clear H
      go_wp2
      go_meet
      case rel => exact ⟨_, ((t113 != t111)), (by first | rfl | (simp; done) | (simp [*]; done) | (simp; generalize ByteArray.toList _ = l_; cases l_ <;> rfl)), H', ⟨by first | omega | exact Nat.le_refl _⟩, ⟨by repeat (first | (with_reducible first | exact HB.out | apply below_alloc | apply pw_below_drewN | apply below_drew1) | exact HB.out)⟩⟩
    · rw [if_neg c7] at H
      have c7b0 : (t112.toList == t110.toList) = false := beq_eq_false_iff_ne.mpr c7
      have c7b1 : (t112.toList != t110.toList) = true := bne_iff_ne.mpr c7
      (first | rw [c7b0] | (simp only [i64_w, i32_w]; rw [c7b0]) | skip)
      have H' := Aside0.mk H
      clear H
      go_wp2
      go_meet
      case rel => exact ⟨_, (true), (by first | rfl | (simp; done) | (simp [*]; done) | (simp; generalize ByteArray.toList _ = l_; cases l_ <;> rfl)), H', ⟨by first | omega | exact Nat.le_refl _⟩, ⟨by repeat (first | (with_reducible first | exact HB.out | apply below_alloc | apply pw_below_drewN | apply below_drew1) | exact HB.out)⟩⟩
  case rest =>
    clear HC4
    try clear c2
    try clear p2
    try clear c7
    try clear c7b0
    try clear c7b1
    obtain ⟨kq, x26_3, rfl, HA, HJ3, HB⟩ := hcut
    cases kq with
    | zero => exact absurd HA.out (by simp [motleylaw27_TapSpans.j0])
    | succ kj3 =>
      have H := HA.out
      clear HA
      simp only [motleylaw27_TapSpans.j0] at H
      by_cases c8 : x26_3 = true
      · subst c8
        have H1 : (some false) = some r := by rw [if_pos rfl] at H; exact H
        clear H
        have H := H1
        clear H1
        obtain rfl := Option.some.inj H
        go_wp2
        go_ret
        exact ⟨by first | rfl | (simp [errW_none, errW_some] <;> rfl) | (simp [*, errW_none, errW_some] <;> rfl), by repeat (first | (with_reducible first | exact HB.out | apply below_alloc | apply pw_below_drewN | apply below_drew1) | exact HB.out)⟩
      · replace c8 := Bool.eq_false_iff.mpr c8
        subst c8
        have H1 : (if t113 = 0 then ((tap_ParseSpan.f t112).bind fun bt114 => (if bt114.1 = a0 then (if bt114.2 = 0 then ((motleylaw27_known.f).bind fun t116 => (some t116)) else (some false)) else (some false))) else ((motleylaw27_known.f).bind fun t117 => (some t117))) = some r := by rw [if_neg (show ¬ (false = true) by decide)] at H; exact H
        clear H
        have H := H1
        clear H1
        by_cases c9 : t113 = 0
        · rw [if_pos c9] at H
          have c9b0 : (t113 == 0) = true := beq_iff_eq.mpr c9
          have c9b1 : (t113 != 0) = false := bne_eq_false_iff_eq.mpr c9
          clear c9
          replace H := Option.bind_eq_some_iff.mp H
          obtain ⟨⟨t114, t115⟩, A100, H⟩ := H
          replace H : (if t114 = a0 then (if t115 = 0 then ((motleylaw27_known.f).bind fun t116 => (some t116)) else (some false)) else (some false)) = some r := H
          have A10 := Aside0.mk A100
          clear A100
          by_cases c11 : t114 = a0
          · rw [if_pos c11] at H
            have c11b0 : (t114 == a0) = true := beq_iff_eq.mpr c11
            have c11b1 : (t114 != a0) = false := bne_eq_false_iff_eq.mpr c11
            clear c11
            by_cases c12 : t115 = 0
            · rw [if_pos c12] at H
              have c12b0 : (t115 == 0) = true := beq_iff_eq.mpr c12
              have c12b1 : (t115 != 0) = false := bne_eq_false_iff_eq.mpr c12
              clear c12
              replace H := Option.bind_eq_some_iff.mp H
              obtain ⟨t116, A130, H⟩ := H
              replace H : (some t116) = some r := H
              have A13 := Aside0.mk A130
              clear A130
              obtain rfl := Option.some.inj H
              go_wp2_with (first | ((with_reducible refine gate_callee (f := 26) rfl ?_); refine goesL_ (some 32) rfl rfl Tryd.func26 (by kernel_rfl) rfl #[.string t112] rfl (by (try simp only [List.map_toArray, List.map_cons, List.map_nil]); first | done | rfl | (simp only [List.length_drop, List.length_take]; rfl)) ?_; (with_reducible refine (tap_ParseSpan.calls t112 t114 t115 _ A10.out).mono ?_); rintro e w14 ⟨rfl, hb⟩; refine ⟨_, rfl, ?_⟩; have n0_ := Aside0.mk (below_step (by repeat (first | (with_reducible first | exact HB.out | apply below_alloc | apply pw_below_drewN | apply below_drew1) | exact HB.out)) hb); clear HB; have HB := n0_; clear n0_; (try clear hb); (try clear hb2); (try clear hk); (try clear hi)) | (go_at_call 12; (with_reducible refine (motleylaw27_known.calls  t116 _ ?side1 A13.out).mono ?_); (case side1 => first | exact hL | exact LaidW.below hL (by repeat (first | (with_reducible first | exact HB.out | apply below_alloc | apply pw_below_drewN | apply below_drew1) | exact HB.out))); rintro e w15 ⟨rfl, hb⟩; have n0_ := Aside0.mk (below_step (by repeat (first | (with_reducible first | exact HB.out | apply below_alloc | apply pw_below_drewN | apply below_drew1) | exact HB.out)) hb); clear HB; have HB := n0_; clear n0_; (try clear hb); (try clear hb2); (try clear hk); (try clear hi)))
              go_ret
              exact ⟨by first | rfl | (simp [errW_none, errW_some] <;> rfl) | (simp [*, errW_none, errW_some] <;> rfl), by repeat (first | (with_reducible first | exact HB.out | apply below_alloc | apply pw_below_drewN | apply below_drew1) | exact HB.out)⟩
            · rw [if_neg c12] at H
              have c12b0 : (t115 == 0) = false := beq_eq_false_iff_ne.mpr c12
              have c12b1 : (t115 != 0) = true := bne_iff_ne.mpr c12
              obtain rfl := Option.some.inj H
              go_wp2_with (first | ((with_reducible refine gate_callee (f := 26) rfl ?_); refine goesL_ (some 32) rfl rfl Tryd.func26 (by kernel_rfl) rfl #[.string t112] rfl (by (try simp only [List.map_toArray, List.map_cons, List.map_nil]); first | done | rfl | (simp only [List.length_drop, List.length_take]; rfl)) ?_; (with_reducible refine (tap_ParseSpan.calls t112 t114 t115 _ A10.out).mono ?_); rintro e w16 ⟨rfl, hb⟩; refine ⟨_, rfl, ?_⟩; have n0_ := Aside0.mk (below_step (by repeat (first | (with_reducible first | exact HB.out | apply below_alloc | apply pw_below_drewN | apply below_drew1) | exact HB.out)) hb); clear HB; have HB := n0_; clear n0_; (try clear hb); (try clear hb2); (try clear hk); (try clear hi)))
              go_ret
              exact ⟨by first | rfl | (simp [errW_none, errW_some] <;> rfl) | (simp [*, errW_none, errW_some] <;> rfl), by repeat (first | (with_reducible first | exact HB.out | apply below_alloc | apply pw_below_drewN | apply below_drew1) | exact HB.out)⟩
          · rw [if_neg c11] at H
            have c11b0 : (t114 == a0) = false := beq_eq_false_iff_ne.mpr c11
            have c11b1 : (t114 != a0) = true := bne_iff_ne.mpr c11
            obtain rfl := Option.some.inj H
            go_wp2_with (first | ((with_reducible refine gate_callee (f := 26) rfl ?_); refine goesL_ (some 32) rfl rfl Tryd.func26 (by kernel_rfl) rfl #[.string t112] rfl (by (try simp only [List.map_toArray, List.map_cons, List.map_nil]); first | done | rfl | (simp only [List.length_drop, List.length_take]; rfl)) ?_; (with_reducible refine (tap_ParseSpan.calls t112 t114 t115 _ A10.out).mono ?_); rintro e w17 ⟨rfl, hb⟩; refine ⟨_, rfl, ?_⟩; have n0_ := Aside0.mk (below_step (by repeat (first | (with_reducible first | exact HB.out | apply below_alloc | apply pw_below_drewN | apply below_drew1) | exact HB.out)) hb); clear HB; have HB := n0_; clear n0_; (try clear hb); (try clear hb2); (try clear hk); (try clear hi)))
            go_ret
            exact ⟨by first | rfl | (simp [errW_none, errW_some] <;> rfl) | (simp [*, errW_none, errW_some] <;> rfl), by repeat (first | (with_reducible first | exact HB.out | apply below_alloc | apply pw_below_drewN | apply below_drew1) | exact HB.out)⟩
        · rw [if_neg c9] at H
          have c9b0 : (t113 == 0) = false := beq_eq_false_iff_ne.mpr c9
          have c9b1 : (t113 != 0) = true := bne_iff_ne.mpr c9
          replace H := Option.bind_eq_some_iff.mp H
          obtain ⟨t117, A180, H⟩ := H
          replace H : (some t117) = some r := H
          have A18 := Aside0.mk A180
          clear A180
          obtain rfl := Option.some.inj H
          go_wp2_with (first | ((with_reducible refine gate_callee (f := 12) rfl ?_); refine goesL_ (some 29) rfl rfl Tryd.func12 (by kernel_rfl) rfl #[] rfl (by (try simp only [List.map_toArray, List.map_cons, List.map_nil]); first | done | rfl | (simp only [List.length_drop, List.length_take]; rfl)) ?_; (with_reducible refine (motleylaw27_known.calls  t117 _ ?side1 A18.out).mono ?_); (case side1 => first | exact hL | exact LaidW.below hL (by repeat (first | (with_reducible first | exact HB.out | apply below_alloc | apply pw_below_drewN | apply below_drew1) | exact HB.out))); rintro e w19 ⟨rfl, hb⟩; refine ⟨_, rfl, ?_⟩; have n0_ := Aside0.mk (below_step (by repeat (first | (with_reducible first | exact HB.out | apply below_alloc | apply pw_below_drewN | apply below_drew1) | exact HB.out)) hb); clear HB; have HB := n0_; clear n0_; (try clear hb); (try clear hb2); (try clear hk); (try clear hi)))
          go_ret
          exact ⟨by first | rfl | (simp [errW_none, errW_some] <;> rfl) | (simp [*, errW_none, errW_some] <;> rfl), by repeat (first | (with_reducible first | exact HB.out | apply below_alloc | apply pw_below_drewN | apply below_drew1) | exact HB.out)⟩

/-- THE ONE PURE STATEMENT of motleylaw27_TapSpans: yours. -/
def motleylaw27_TapSpans.Pure : Prop := ∀ (a0 : Int), (Lit.int .i64 a0).wf = true → ∃ k, motleylaw27_TapSpans.f k a0 = some true
theorem motleylaw27_TapSpans.walk (P : motleylaw27_TapSpans.Pure) (a0 : Int) (w : World) (hL : LaidW w) (w0 : (Lit.int .i64 a0).wf = true) :
    Calls Tryd.prog 8 #[.int .i64 a0] w fun e w' => e = .returned (.bool true) ∧ Below w.heap.size w w' := by
  obtain ⟨k, h⟩ := P a0 w0
  refine (motleylaw27_TapSpans.calls k a0 true w hL h).mono ?_
  rintro e w' ⟨rfl, hd⟩
  exact ⟨rfl, hd⟩

end Go.Proofs.YtallfkecjibpmaaDoor.M
