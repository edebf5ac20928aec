/- What the Go functions of this seat give, as Lean functions, and that each call comes to it. Written by the session's own program (wip/tools/mprint.py). -/
import Derived.Test.YtallfkecjibpmaaDoorM0
import Derived.Test.YtallfkecjibpmaaDoorM1
import Derived.Test.YtallfkecjibpmaaDoorM3
namespace Go.Proofs.YtallfkecjibpmaaDoor.M
open Go.RowKit Go.Proofs.YtallfkecjibpmaaDoor.G Go.Proofs.YtallfkecjibpmaaDoorW.PrintWords Go.Proofs.YtallfkecjibpmaaDoorW.PrintLast Go.Proofs.YtallfkecjibpmaaDoorW.PrintMore
attribute [local go_sem] max2_int min2_int max_two min_two max_three min_three max_four min_four   -- for this text's walks alone
set_option linter.unusedVariables false
set_option linter.unusedSimpArgs false

/-! ### motleyref27_Easter: function 13 -/
def motleyref27_Easter.f (a0 : Int) : Option (Int × Int × Int) := if a0 < 1583 then (some (0, 0, 1)) else (if a0 > 9999 then (some (0, 0, 1)) else (some (wrap64 (Int.tdiv (wrap64 ((wrap64 ((wrap64 ((Int.tmod (wrap64 ((wrap64 ((wrap64 ((wrap64 ((wrap64 (19 * (Int.tmod a0 19))) + (wrap64 (Int.tdiv a0 100)))) - (wrap64 (Int.tdiv (wrap64 (Int.tdiv a0 100)) 4)))) - (wrap64 (Int.tdiv (wrap64 ((wrap64 ((wrap64 (Int.tdiv a0 100)) - (wrap64 (Int.tdiv (wrap64 ((wrap64 (Int.tdiv a0 100)) + 8)) 25)))) + 1)) 3)))) + 15)) 30) + (Int.tmod (wrap64 ((wrap64 ((wrap64 ((wrap64 (32 + (wrap64 (2 * (Int.tmod (wrap64 (Int.tdiv a0 100)) 4))))) + (wrap64 (2 * (wrap64 (Int.tdiv (Int.tmod a0 100) 4)))))) - (Int.tmod (wrap64 ((wrap64 ((wrap64 ((wrap64 ((wrap64 (19 * (Int.tmod a0 19))) + (wrap64 (Int.tdiv a0 100)))) - (wrap64 (Int.tdiv (wrap64 (Int.tdiv a0 100)) 4)))) - (wrap64 (Int.tdiv (wrap64 ((wrap64 ((wrap64 (Int.tdiv a0 100)) - (wrap64 (Int.tdiv (wrap64 ((wrap64 (Int.tdiv a0 100)) + 8)) 25)))) + 1)) 3)))) + 15)) 30))) - (Int.tmod (Int.tmod a0 100) 4))) 7))) - (wrap64 (7 * (wrap64 (Int.tdiv (wrap64 ((wrap64 ((Int.tmod a0 19) + (wrap64 (11 * (Int.tmod (wrap64 ((wrap64 ((wrap64 ((wrap64 ((wrap64 (19 * (Int.tmod a0 19))) + (wrap64 (Int.tdiv a0 100)))) - (wrap64 (Int.tdiv (wrap64 (Int.tdiv a0 100)) 4)))) - (wrap64 (Int.tdiv (wrap64 ((wrap64 ((wrap64 (Int.tdiv a0 100)) - (wrap64 (Int.tdiv (wrap64 ((wrap64 (Int.tdiv a0 100)) + 8)) 25)))) + 1)) 3)))) + 15)) 30))))) + (wrap64 (22 * (Int.tmod (wrap64 ((wrap64 ((wrap64 ((wrap64 (32 + (wrap64 (2 * (Int.tmod (wrap64 (Int.tdiv a0 100)) 4))))) + (wrap64 (2 * (wrap64 (Int.tdiv (Int.tmod a0 100) 4)))))) - (Int.tmod (wrap64 ((wrap64 ((wrap64 ((wrap64 ((wrap64 (19 * (Int.tmod a0 19))) + (wrap64 (Int.tdiv a0 100)))) - (wrap64 (Int.tdiv (wrap64 (Int.tdiv a0 100)) 4)))) - (wrap64 (Int.tdiv (wrap64 ((wrap64 ((wrap64 (Int.tdiv a0 100)) - (wrap64 (Int.tdiv (wrap64 ((wrap64 (Int.tdiv a0 100)) + 8)) 25)))) + 1)) 3)))) + 15)) 30))) - (Int.tmod (Int.tmod a0 100) 4))) 7))))) 451)))))) + 114)) 31), wrap64 ((Int.tmod (wrap64 ((wrap64 ((wrap64 ((Int.tmod (wrap64 ((wrap64 ((wrap64 ((wrap64 ((wrap64 (19 * (Int.tmod a0 19))) + (wrap64 (Int.tdiv a0 100)))) - (wrap64 (Int.tdiv (wrap64 (Int.tdiv a0 100)) 4)))) - (wrap64 (Int.tdiv (wrap64 ((wrap64 ((wrap64 (Int.tdiv a0 100)) - (wrap64 (Int.tdiv (wrap64 ((wrap64 (Int.tdiv a0 100)) + 8)) 25)))) + 1)) 3)))) + 15)) 30) + (Int.tmod (wrap64 ((wrap64 ((wrap64 ((wrap64 (32 + (wrap64 (2 * (Int.tmod (wrap64 (Int.tdiv a0 100)) 4))))) + (wrap64 (2 * (wrap64 (Int.tdiv (Int.tmod a0 100) 4)))))) - (Int.tmod (wrap64 ((wrap64 ((wrap64 ((wrap64 ((wrap64 (19 * (Int.tmod a0 19))) + (wrap64 (Int.tdiv a0 100)))) - (wrap64 (Int.tdiv (wrap64 (Int.tdiv a0 100)) 4)))) - (wrap64 (Int.tdiv (wrap64 ((wrap64 ((wrap64 (Int.tdiv a0 100)) - (wrap64 (Int.tdiv (wrap64 ((wrap64 (Int.tdiv a0 100)) + 8)) 25)))) + 1)) 3)))) + 15)) 30))) - (Int.tmod (Int.tmod a0 100) 4))) 7))) - (wrap64 (7 * (wrap64 (Int.tdiv (wrap64 ((wrap64 ((Int.tmod a0 19) + (wrap64 (11 * (Int.tmod (wrap64 ((wrap64 ((wrap64 ((wrap64 ((wrap64 (19 * (Int.tmod a0 19))) + (wrap64 (Int.tdiv a0 100)))) - (wrap64 (Int.tdiv (wrap64 (Int.tdiv a0 100)) 4)))) - (wrap64 (Int.tdiv (wrap64 ((wrap64 ((wrap64 (Int.tdiv a0 100)) - (wrap64 (Int.tdiv (wrap64 ((wrap64 (Int.tdiv a0 100)) + 8)) 25)))) + 1)) 3)))) + 15)) 30))))) + (wrap64 (22 * (Int.tmod (wrap64 ((wrap64 ((wrap64 ((wrap64 (32 + (wrap64 (2 * (Int.tmod (wrap64 (Int.tdiv a0 100)) 4))))) + (wrap64 (2 * (wrap64 (Int.tdiv (Int.tmod a0 100) 4)))))) - (Int.tmod (wrap64 ((wrap64 ((wrap64 ((wrap64 ((wrap64 (19 * (Int.tmod a0 19))) + (wrap64 (Int.tdiv a0 100)))) - (wrap64 (Int.tdiv (wrap64 (Int.tdiv a0 100)) 4)))) - (wrap64 (Int.tdiv (wrap64 ((wrap64 ((wrap64 (Int.tdiv a0 100)) - (wrap64 (Int.tdiv (wrap64 ((wrap64 (Int.tdiv a0 100)) + 8)) 25)))) + 1)) 3)))) + 15)) 30))) - (Int.tmod (Int.tmod a0 100) 4))) 7))))) 451)))))) + 114)) 31) + 1), 0)))
set_option maxHeartbeats 8000000 in
set_option maxRecDepth 100000 in
theorem motleyref27_Easter.calls (a0 : Int) (r1 : Int) (r2 : Int) (r3 : Int) (w : World) (h : motleyref27_Easter.f a0 = some (r1, r2, r3)) :
    Calls Tryd.prog 13 #[.int .i64 a0] w fun e w' => e = .returned (.tuple #[.int .i64 r1, .int .i64 r2, .int .i64 r3]) ∧ Drawn0 w w' := by
  have H : (if a0 < 1583 then (some (0, 0, 1)) else (if a0 > 9999 then (some (0, 0, 1)) else (some (wrap64 (Int.tdiv (wrap64 ((wrap64 ((wrap64 ((Int.tmod (wrap64 ((wrap64 ((wrap64 ((wrap64 ((wrap64 (19 * (Int.tmod a0 19))) + (wrap64 (Int.tdiv a0 100)))) - (wrap64 (Int.tdiv (wrap64 (Int.tdiv a0 100)) 4)))) - (wrap64 (Int.tdiv (wrap64 ((wrap64 ((wrap64 (Int.tdiv a0 100)) - (wrap64 (Int.tdiv (wrap64 ((wrap64 (Int.tdiv a0 100)) + 8)) 25)))) + 1)) 3)))) + 15)) 30) + (Int.tmod (wrap64 ((wrap64 ((wrap64 ((wrap64 (32 + (wrap64 (2 * (Int.tmod (wrap64 (Int.tdiv a0 100)) 4))))) + (wrap64 (2 * (wrap64 (Int.tdiv (Int.tmod a0 100) 4)))))) - (Int.tmod (wrap64 ((wrap64 ((wrap64 ((wrap64 ((wrap64 (19 * (Int.tmod a0 19))) + (wrap64 (Int.tdiv a0 100)))) - (wrap64 (Int.tdiv (wrap64 (Int.tdiv a0 100)) 4)))) - (wrap64 (Int.tdiv (wrap64 ((wrap64 ((wrap64 (Int.tdiv a0 100)) - (wrap64 (Int.tdiv (wrap64 ((wrap64 (Int.tdiv a0 100)) + 8)) 25)))) + 1)) 3)))) + 15)) 30))) - (Int.tmod (Int.tmod a0 100) 4))) 7))) - (wrap64 (7 * (wrap64 (Int.tdiv (wrap64 ((wrap64 ((Int.tmod a0 19) + (wrap64 (11 * (Int.tmod (wrap64 ((wrap64 ((wrap64 ((wrap64 ((wrap64 (19 * (Int.tmod a0 19))) + (wrap64 (Int.tdiv a0 100)))) - (wrap64 (Int.tdiv (wrap64 (Int.tdiv a0 100)) 4)))) - (wrap64 (Int.tdiv (wrap64 ((wrap64 ((wrap64 (Int.tdiv a0 100)) - (wrap64 (Int.tdiv (wrap64 ((wrap64 (Int.tdiv a0 100)) + 8)) 25)))) + 1)) 3)))) + 15)) 30))))) + (wrap64 (22 * (Int.tmod (wrap64 ((wrap64 ((wrap64 ((wrap64 (32 + (wrap64 (2 * (Int.tmod (wrap64 (Int.tdiv a0 100)) 4))))) + (wrap64 (2 * (wrap64 (Int.tdiv (Int.tmod a0 100) 4)))))) - (Int.tmod (wrap64 ((wrap64 ((wrap64 ((wrap64 ((wrap64 (19 * (Int.tmod a0 19))) + (wrap64 (Int.tdiv a0 100)))) - (wrap64 (Int.tdiv (wrap64 (Int.tdiv a0 100)) 4)))) - (wrap64 (Int.tdiv (wrap64 ((wrap64 ((wrap64 (Int.tdiv a0 100)) - (wrap64 (Int.tdiv (wrap64 ((wrap64 (Int.tdiv a0 100)) + 8)) 25)))) + 1)) 3)))) + 15)) 30))) - (Int.tmod (Int.tmod a0 100) 4))) 7))))) 451)))))) + 114)) 31), wrap64 ((Int.tmod (wrap64 ((wrap64 ((wrap64 ((Int.tmod (wrap64 ((wrap64 ((wrap64 ((wrap64 ((wrap64 (19 * (Int.tmod a0 19))) + (wrap64 (Int.tdiv a0 100)))) - (wrap64 (Int.tdiv (wrap64 (Int.tdiv a0 100)) 4)))) - (wrap64 (Int.tdiv (wrap64 ((wrap64 ((wrap64 (Int.tdiv a0 100)) - (wrap64 (Int.tdiv (wrap64 ((wrap64 (Int.tdiv a0 100)) + 8)) 25)))) + 1)) 3)))) + 15)) 30) + (Int.tmod (wrap64 ((wrap64 ((wrap64 ((wrap64 (32 + (wrap64 (2 * (Int.tmod (wrap64 (Int.tdiv a0 100)) 4))))) + (wrap64 (2 * (wrap64 (Int.tdiv (Int.tmod a0 100) 4)))))) - (Int.tmod (wrap64 ((wrap64 ((wrap64 ((wrap64 ((wrap64 (19 * (Int.tmod a0 19))) + (wrap64 (Int.tdiv a0 100)))) - (wrap64 (Int.tdiv (wrap64 (Int.tdiv a0 100)) 4)))) - (wrap64 (Int.tdiv (wrap64 ((wrap64 ((wrap64 (Int.tdiv a0 100)) - (wrap64 (Int.tdiv (wrap64 ((wrap64 (Int.tdiv a0 100)) + 8)) 25)))) + 1)) 3)))) + 15)) 30))) - (Int.tmod (Int.tmod a0 100) 4))) 7))) - (wrap64 (7 * (wrap64 (Int.tdiv (wrap64 ((wrap64 ((Int.tmod a0 19) + (wrap64 (11 * (Int.tmod (wrap64 ((wrap64 ((wrap64 ((wrap64 ((wrap64 (19 * (Int.tmod a0 19))) + (wrap64 (Int.tdiv a0 100)))) - (wrap64 (Int.tdiv (wrap64 (Int.tdiv a0 100)) 4)))) - (wrap64 (Int.tdiv (wrap64 ((wrap64 ((wrap64 (Int.tdiv a0 100)) - (wrap64 (Int.tdiv (wrap64 ((wrap64 (Int.tdiv a0 100)) + 8)) 25)))) + 1)) 3)))) + 15)) 30))))) + (wrap64 (22 * (Int.tmod (wrap64 ((wrap64 ((wrap64 ((wrap64 (32 + (wrap64 (2 * (Int.tmod (wrap64 (Int.tdiv a0 100)) 4))))) + (wrap64 (2 * (wrap64 (Int.tdiv (Int.tmod a0 100) 4)))))) - (Int.tmod (wrap64 ((wrap64 ((wrap64 ((wrap64 ((wrap64 (19 * (Int.tmod a0 19))) + (wrap64 (Int.tdiv a0 100)))) - (wrap64 (Int.tdiv (wrap64 (Int.tdiv a0 100)) 4)))) - (wrap64 (Int.tdiv (wrap64 ((wrap64 ((wrap64 (Int.tdiv a0 100)) - (wrap64 (Int.tdiv (wrap64 ((wrap64 (Int.tdiv a0 100)) + 8)) 25)))) + 1)) 3)))) + 15)) 30))) - (Int.tmod (Int.tmod a0 100) 4))) 7))))) 451)))))) + 114)) 31) + 1), 0)))) = some (r1, r2, r3) := h
  clear h
  by_cases c2 : a0 < 1583
  · rw [if_pos c2] at H
    have c2b0 : decide (a0 < 1583) = true := decide_eq_true c2
    clear c2
    simp only [Option.some.injEq, Prod.mk.injEq] at H
    obtain ⟨rfl, rfl, rfl⟩ := H
    go_enter Tryd.func13, Tryd.ntmps13
    go_wp2
    go_ret3
    exact ⟨by first | rfl | (simp; done) | (simp [*]; done), by repeat (first | exact Drawn0.refl _ | apply Drawn0.step)⟩
  · rw [if_neg c2] at H
    have c2b0 : decide (a0 < 1583) = false := decide_eq_false c2
    clear c2
    by_cases c3 : a0 > 9999
    · rw [if_pos c3] at H
      have c3b0 : decide (9999 < a0) = true := decide_eq_true c3
      clear c3
      simp only [Option.some.injEq, Prod.mk.injEq] at H
      obtain ⟨rfl, rfl, rfl⟩ := H
      go_enter Tryd.func13, Tryd.ntmps13
      go_wp2
      go_ret3
      exact ⟨by first | rfl | (simp; done) | (simp [*]; done), by repeat (first | exact Drawn0.refl _ | apply Drawn0.step)⟩
    · rw [if_neg c3] at H
      have c3b0 : decide (9999 < a0) = false := decide_eq_false c3
      clear c3
      simp only [Option.some.injEq, Prod.mk.injEq] at H
      obtain ⟨rfl, rfl, rfl⟩ := H
      go_enter Tryd.func13, Tryd.ntmps13
      go_wp2
      go_ret3
      exact ⟨by first | rfl | (simp; done) | (simp [*]; done), by repeat (first | exact Drawn0.refl _ | apply Drawn0.step)⟩

/-! ### motleylaw27_TapEasters: function 4 -/
def motleylaw27_TapEasters.j0 : Nat → Int → Int → Int → Int → Bool → Option (Bool)
  | 0, _, _, _, _, _ => none
  | k + 1, x0, x6, x7, x8, x37 => if x37 = true then (some false) else (if x8 = 0 then ((tap_Days.f x0 x6 x7).bind fun bt125 => ((tap_Weekday.f bt125.1).bind fun bt127 => (if bt125.2 = 0 then (if bt127.2 = 0 then (if bt127.1 = 0 then ((motleylaw27_known.f).bind fun t129 => (some t129)) else (some false)) else (some false)) else (some false)))) else ((motleylaw27_known.f).bind fun t130 => (some t130)))
def motleylaw27_TapEasters.f (k : Nat) (a0 : Int) : Option (Bool) := (motleyref27_Easter.f a0).bind fun bt119 => ((tap_Easter.f a0).bind fun bt122 => (if bt122.1 = bt119.1 then (if bt122.2.1 = bt119.2.1 then (motleylaw27_TapEasters.j0 k a0 bt122.1 bt122.2.1 bt122.2.2 (bt122.2.2 != bt119.2.2)) else (motleylaw27_TapEasters.j0 k a0 bt122.1 bt122.2.1 bt122.2.2 true)) else (motleylaw27_TapEasters.j0 k a0 bt122.1 bt122.2.1 bt122.2.2 true)))
theorem motleylaw27_TapEasters.mono_l : ∀ k, (∀ y0 y1 y2 y3 y4, LeO (motleylaw27_TapEasters.j0 k y0 y1 y2 y3 y4) (motleylaw27_TapEasters.j0 (k + 1) y0 y1 y2 y3 y4))
  | 0 => fun _ _ _ _ _ r h => by simp [motleylaw27_TapEasters.j0] at h
  | k + 1 => by
    have ih0 := motleylaw27_TapEasters.mono_l k
    · intro y0 y1 y2 y3 y4
      unfold motleylaw27_TapEasters.j0
      repeat' first
      | (with_reducible exact ih0 _ _ _ _ _)
      | (with_reducible exact LeO.refl _)
      | (with_reducible exact LeO.none _)
      | (with_reducible refine LeO.ite ?_ ?_)
      | (with_reducible refine LeO.bind ?_ (fun _ => ?_))
      | exact ih0 _ _ _ _ _
      | exact LeO.none _
      | refine LeO.ite ?_ ?_
      | refine LeO.bind ?_ (fun _ => ?_)
theorem motleylaw27_TapEasters.mono : ∀ a0 k, LeO (motleylaw27_TapEasters.f k a0) (motleylaw27_TapEasters.f (k + 1) a0) := by
  intro a0 k
  have ih0 := motleylaw27_TapEasters.mono_l k
  unfold motleylaw27_TapEasters.f
  repeat' first
      | (with_reducible exact ih0 _ _ _ _ _)
      | (with_reducible exact LeO.refl _)
      | (with_reducible exact LeO.none _)
      | (with_reducible refine LeO.ite ?_ ?_)
      | (with_reducible refine LeO.bind ?_ (fun _ => ?_))
      | exact ih0 _ _ _ _ _
      | exact LeO.none _
      | refine LeO.ite ?_ ?_
      | refine LeO.bind ?_ (fun _ => ?_)
set_option maxHeartbeats 8000000 in
set_option maxRecDepth 100000 in
theorem motleylaw27_TapEasters.calls (k : Nat) (a0 : Int) (r : Bool) (w : World) (hL : LaidW w) (h : motleylaw27_TapEasters.f k a0 = some r) :
    Calls Tryd.prog 4 #[.int .i64 a0] w fun e w' => e = .returned (.bool r) ∧ Below w.heap.size w w' := by
  have HB := Aside0.mk (Below.refl w.heap.size w)
  have H : ((motleyref27_Easter.f a0).bind fun bt119 => ((tap_Easter.f a0).bind fun bt122 => (if bt122.1 = bt119.1 then (if bt122.2.1 = bt119.2.1 then (motleylaw27_TapEasters.j0 k a0 bt122.1 bt122.2.1 bt122.2.2 (bt122.2.2 != bt119.2.2)) else (motleylaw27_TapEasters.j0 k a0 bt122.1 bt122.2.1 bt122.2.2 true)) else (motleylaw27_TapEasters.j0 k a0 bt122.1 bt122.2.1 bt122.2.2 true)))) = some r := h
  clear h
  replace H := Option.bind_eq_some_iff.mp H
  obtain ⟨⟨t119, t120, t121⟩, A20, H⟩ := H
  replace H : ((tap_Easter.f a0).bind fun bt122 => (if bt122.1 = t119 then (if bt122.2.1 = t120 then (motleylaw27_TapEasters.j0 k a0 bt122.1 bt122.2.1 bt122.2.2 (bt122.2.2 != t121)) else (motleylaw27_TapEasters.j0 k a0 bt122.1 bt122.2.1 bt122.2.2 true)) else (motleylaw27_TapEasters.j0 k a0 bt122.1 bt122.2.1 bt122.2.2 true))) = some r := H
  have A2 := Aside0.mk A20
  clear A20
  replace H := Option.bind_eq_some_iff.mp H
  obtain ⟨⟨t122, t123, t124⟩, A30, H⟩ := H
  replace H : (if t122 = t119 then (if t123 = t120 then (motleylaw27_TapEasters.j0 k a0 t122 t123 t124 (t124 != t121)) else (motleylaw27_TapEasters.j0 k a0 t122 t123 t124 true)) else (motleylaw27_TapEasters.j0 k a0 t122 t123 t124 true)) = some r := H
  have A3 := Aside0.mk A30
  clear A30
  have HC4 := Aside0.mk H
  clear H
  go_enter Tryd.func4, Tryd.ntmps4
  go_upto_region 3 with (first | ((with_reducible refine gate_callee (f := 13) rfl ?_); refine goesL_ (some 15) rfl rfl Tryd.func13 (by kernel_rfl) rfl #[.int .i64 a0] rfl (by (try simp only [List.map_toArray, List.map_cons, List.map_nil]); first | done | rfl | (simp only [List.length_drop, List.length_take]; rfl)) ?_; (with_reducible refine (motleyref27_Easter.calls a0 t119 t120 t121 _ A2.out).mono ?_); rintro e w' ⟨rfl, ⟨nd, rfl⟩⟩; refine ⟨_, rfl, ?_⟩) | ((with_reducible refine gate_callee (f := 14) rfl ?_); refine goesL_ (some 21) rfl rfl Tryd.func14 (by kernel_rfl) rfl #[.int .i64 a0] rfl (by (try simp only [List.map_toArray, List.map_cons, List.map_nil]); first | done | rfl | (simp only [List.length_drop, List.length_take]; rfl)) ?_; (with_reducible refine (tap_Easter.calls a0 t122 t123 t124 _ A3.out).mono ?_); rintro e w' ⟨rfl, ⟨nd, rfl⟩⟩; refine ⟨_, rfl, ?_⟩))
  (try simp only [Act.put, List.setIfInBounds_toArray, List.set_cons_zero, List.set_cons_succ])
  go_cut [37] (fun v37 wc => ∃ (kq : Nat) (x37_3 : Bool), v37 = .bool x37_3 ∧ Aside0 (motleylaw27_TapEasters.j0 kq a0 t122 t123 t124 x37_3 = some r) ∧ Aside0 (kq ≤ k) ∧ Aside0 (Below w.heap.size w wc))
  case first =>
    have H := HC4.out
    clear HC4
    by_cases c5 : t122 = t119
    · rw [if_pos c5] at H
      have c5b0 : (t122 == t119) = true := beq_iff_eq.mpr c5
      have c5b1 : (t122 != t119) = false := bne_eq_false_iff_eq.mpr c5
      clear c5
      (first | rw [c5b0] | (simp only [i64_w, i32_w]; rw [c5b0]) | skip)
      by_cases c6 : t123 = t120
      · rw [if_pos c6] at H
        have c6b0 : (t123 == t120) = true := beq_iff_eq.mpr c6
        have c6b1 : (t123 != t120) = false := bne_eq_false_iff_eq.mpr c6
        clear c6
        have H' := Aside0.mk H
        clear H
        go_wp2
        go_meet
        case rel => exact ⟨_, ((t124 != t121)), (by first | rfl | (simp; done) | (simp [*]; done)), H', ⟨by first | omega | exact Nat.le_refl _⟩, ⟨by repeat (first | (with_reducible first | exact HB.out | apply below_alloc | apply pw_below_drewN | apply below_drew1) | exact HB.out)⟩⟩
      · rw [if_neg c6] at H
        have c6b0 : (t123 == t120) = false := beq_eq_false_iff_ne.mpr c6
        have c6b1 : (t123 != t120) = true := bne_iff_ne.mpr c6
        have H' := Aside0.mk H
        clear H
        go_wp2
        go_meet
        case rel => exact ⟨_, (true), (by first | rfl | (simp; done) | (simp [*]; done)), H', ⟨by first | omega | exact Nat.le_refl _⟩, ⟨by repeat (first | (with_reducible first | exact HB.out | apply below_alloc | apply pw_below_drewN | apply below_drew1) | exact HB.out)⟩⟩
    · rw [if_neg c5] at H
      have c5b0 : (t122 == t119) = false := beq_eq_false_iff_ne.mpr c5
      have c5b1 : (t122 != t119) = true := bne_iff_ne.mpr c5
      (first | rw [c5b0] | (simp only [i64_w, i32_w]; rw [c5b0]) | skip)
      have H' := Aside0.mk H
      clear H
      go_wp2
      go_meet
      case rel => exact ⟨_, (true), (by first | rfl | (simp; done) | (simp [*]; done)), H', ⟨by first | omega | exact Nat.le_refl _⟩, ⟨by repeat (first | (with_reducible first | exact HB.out | apply below_alloc | apply pw_below_drewN | apply below_drew1) | exact HB.out)⟩⟩
  case rest =>
    clear HC4
    try clear c1
    try clear p2
    try clear c4
    try clear c5
    try clear c5b0
    try clear c5b1
    try clear c6
    try clear c6b0
    try clear c6b1
    obtain ⟨kq, x37_3, rfl, HA, HJ3, HB⟩ := hcut
    cases kq with
    | zero => exact absurd HA.out (by simp [motleylaw27_TapEasters.j0])
    | succ kj3 =>
      have H := HA.out
      clear HA
      simp only [motleylaw27_TapEasters.j0] at H
      by_cases c7 : x37_3 = true
      · subst c7
        have H1 : (some false) = some r := by rw [if_pos rfl] at H; exact H
        clear H
        have H := H1
        clear H1
        obtain rfl := Option.some.inj H
        go_wp2
        go_ret
        exact ⟨by first | rfl | (simp [errW_none, errW_some] <;> rfl) | (simp [*, errW_none, errW_some] <;> rfl), by repeat (first | (with_reducible first | exact HB.out | apply below_alloc | apply pw_below_drewN | apply below_drew1) | exact HB.out)⟩
      · replace c7 := Bool.eq_false_iff.mpr c7
        subst c7
        have H1 : (if t124 = 0 then ((tap_Days.f a0 t122 t123).bind fun bt125 => ((tap_Weekday.f bt125.1).bind fun bt127 => (if bt125.2 = 0 then (if bt127.2 = 0 then (if bt127.1 = 0 then ((motleylaw27_known.f).bind fun t129 => (some t129)) else (some false)) else (some false)) else (some false)))) else ((motleylaw27_known.f).bind fun t130 => (some t130))) = some r := by rw [if_neg (show ¬ (false = true) by decide)] at H; exact H
        clear H
        have H := H1
        clear H1
        by_cases c8 : t124 = 0
        · rw [if_pos c8] at H
          have c8b0 : (t124 == 0) = true := beq_iff_eq.mpr c8
          have c8b1 : (t124 != 0) = false := bne_eq_false_iff_eq.mpr c8
          clear c8
          replace H := Option.bind_eq_some_iff.mp H
          obtain ⟨⟨t125, t126⟩, A90, H⟩ := H
          replace H : ((tap_Weekday.f t125).bind fun bt127 => (if t126 = 0 then (if bt127.2 = 0 then (if bt127.1 = 0 then ((motleylaw27_known.f).bind fun t129 => (some t129)) else (some false)) else (some false)) else (some false))) = some r := H
          have A9 := Aside0.mk A90
          clear A90
          replace H := Option.bind_eq_some_iff.mp H
          obtain ⟨⟨t127, t128⟩, A100, H⟩ := H
          replace H : (if t126 = 0 then (if t128 = 0 then (if t127 = 0 then ((motleylaw27_known.f).bind fun t129 => (some t129)) else (some false)) else (some false)) else (some false)) = some r := H
          have A10 := Aside0.mk A100
          clear A100
          by_cases c11 : t126 = 0
          · rw [if_pos c11] at H
            have c11b0 : (t126 == 0) = true := beq_iff_eq.mpr c11
            have c11b1 : (t126 != 0) = false := bne_eq_false_iff_eq.mpr c11
            clear c11
            by_cases c12 : t128 = 0
            · rw [if_pos c12] at H
              have c12b0 : (t128 == 0) = true := beq_iff_eq.mpr c12
              have c12b1 : (t128 != 0) = false := bne_eq_false_iff_eq.mpr c12
              clear c12
              by_cases c13 : t127 = 0
              · rw [if_pos c13] at H
                have c13b0 : (t127 == 0) = true := beq_iff_eq.mpr c13
                have c13b1 : (t127 != 0) = false := bne_eq_false_iff_eq.mpr c13
                clear c13
                replace H := Option.bind_eq_some_iff.mp H
                obtain ⟨t129, A140, H⟩ := H
                replace H : (some t129) = some r := H
                have A14 := Aside0.mk A140
                clear A140
                obtain rfl := Option.some.inj H
                go_wp2_with (first | ((with_reducible refine gate_callee (f := 11) rfl ?_); refine goesL_ (some 45) rfl rfl Tryd.func11 (by kernel_rfl) rfl #[.int .i64 a0, .int .i64 t122, .int .i64 t123] rfl (by (try simp only [List.map_toArray, List.map_cons, List.map_nil]); first | done | rfl | (simp only [List.length_drop, List.length_take]; rfl)) ?_; (with_reducible refine (tap_Days.calls a0 t122 t123 t125 t126 _ A9.out).mono ?_); rintro e w15 ⟨rfl, hb⟩; refine ⟨_, rfl, ?_⟩; have n0_ := Aside0.mk (below_step (by repeat (first | (with_reducible first | exact HB.out | apply below_alloc | apply pw_below_drewN | apply below_drew1) | exact HB.out)) hb); clear HB; have HB := n0_; clear n0_; (try clear hb); (try clear hb2); (try clear hk); (try clear hi)) | ((with_reducible refine gate_callee (f := 15) rfl ?_); refine goesL_ (some 50) rfl rfl Tryd.func15 (by kernel_rfl) rfl #[.int .i64 t125] rfl (by (try simp only [List.map_toArray, List.map_cons, List.map_nil]); first | done | rfl | (simp only [List.length_drop, List.length_take]; rfl)) ?_; (with_reducible refine (tap_Weekday.calls t125 t127 t128 _ A10.out).mono ?_); rintro e w' ⟨rfl, ⟨nd, rfl⟩⟩; refine ⟨_, rfl, ?_⟩) | (go_at_call 12; (with_reducible refine (motleylaw27_known.calls  t129 _ ?side1 A14.out).mono ?_); (case side1 => first | exact hL | exact LaidW.below hL (by repeat (first | (with_reducible first | exact HB.out | apply below_alloc | apply pw_below_drewN | apply below_drew1) | exact HB.out))); rintro e w16 ⟨rfl, hb⟩; have n0_ := Aside0.mk (below_step (by repeat (first | (with_reducible first | exact HB.out | apply below_alloc | apply pw_below_drewN | apply below_drew1) | exact HB.out)) hb); clear HB; have HB := n0_; clear n0_; (try clear hb); (try clear hb2); (try clear hk); (try clear hi)))
                go_ret
                exact ⟨by first | rfl | (simp [errW_none, errW_some] <;> rfl) | (simp [*, errW_none, errW_some] <;> rfl), by repeat (first | (with_reducible first | exact HB.out | apply below_alloc | apply pw_below_drewN | apply below_drew1) | exact HB.out)⟩
              · rw [if_neg c13] at H
                have c13b0 : (t127 == 0) = false := beq_eq_false_iff_ne.mpr c13
                have c13b1 : (t127 != 0) = true := bne_iff_ne.mpr c13
                obtain rfl := Option.some.inj H
                go_wp2_with (first | ((with_reducible refine gate_callee (f := 11) rfl ?_); refine goesL_ (some 45) rfl rfl Tryd.func11 (by kernel_rfl) rfl #[.int .i64 a0, .int .i64 t122, .int .i64 t123] rfl (by (try simp only [List.map_toArray, List.map_cons, List.map_nil]); first | done | rfl | (simp only [List.length_drop, List.length_take]; rfl)) ?_; (with_reducible refine (tap_Days.calls a0 t122 t123 t125 t126 _ A9.out).mono ?_); rintro e w17 ⟨rfl, hb⟩; refine ⟨_, rfl, ?_⟩; have n0_ := Aside0.mk (below_step (by repeat (first | (with_reducible first | exact HB.out | apply below_alloc | apply pw_below_drewN | apply below_drew1) | exact HB.out)) hb); clear HB; have HB := n0_; clear n0_; (try clear hb); (try clear hb2); (try clear hk); (try clear hi)) | ((with_reducible refine gate_callee (f := 15) rfl ?_); refine goesL_ (some 50) rfl rfl Tryd.func15 (by kernel_rfl) rfl #[.int .i64 t125] rfl (by (try simp only [List.map_toArray, List.map_cons, List.map_nil]); first | done | rfl | (simp only [List.length_drop, List.length_take]; rfl)) ?_; (with_reducible refine (tap_Weekday.calls t125 t127 t128 _ A10.out).mono ?_); rintro e w' ⟨rfl, ⟨nd, rfl⟩⟩; refine ⟨_, rfl, ?_⟩))
                go_ret
                exact ⟨by first | rfl | (simp [errW_none, errW_some] <;> rfl) | (simp [*, errW_none, errW_some] <;> rfl), by repeat (first | (with_reducible first | exact HB.out | apply below_alloc | apply pw_below_drewN | apply below_drew1) | exact HB.out)⟩
            · rw [if_neg c12] at H
              have c12b0 : (t128 == 0) = false := beq_eq_false_iff_ne.mpr c12
              have c12b1 : (t128 != 0) = true := bne_iff_ne.mpr c12
              obtain rfl := Option.some.inj H
              go_wp2_with (first | ((with_reducible refine gate_callee (f := 11) rfl ?_); refine goesL_ (some 45) rfl rfl Tryd.func11 (by kernel_rfl) rfl #[.int .i64 a0, .int .i64 t122, .int .i64 t123] rfl (by (try simp only [List.map_toArray, List.map_cons, List.map_nil]); first | done | rfl | (simp only [List.length_drop, List.length_take]; rfl)) ?_; (with_reducible refine (tap_Days.calls a0 t122 t123 t125 t126 _ A9.out).mono ?_); rintro e w18 ⟨rfl, hb⟩; refine ⟨_, rfl, ?_⟩; have n0_ := Aside0.mk (below_step (by repeat (first | (with_reducible first | exact HB.out | apply below_alloc | apply pw_below_drewN | apply below_drew1) | exact HB.out)) hb); clear HB; have HB := n0_; clear n0_; (try clear hb); (try clear hb2); (try clear hk); (try clear hi)) | ((with_reducible refine gate_callee (f := 15) rfl ?_); refine goesL_ (some 50) rfl rfl Tryd.func15 (by kernel_rfl) rfl #[.int .i64 t125] rfl (by (try simp only [List.map_toArray, List.map_cons, List.map_nil]); first | done | rfl | (simp only [List.length_drop, List.length_take]; rfl)) ?_; (with_reducible refine (tap_Weekday.calls t125 t127 t128 _ A10.out).mono ?_); rintro e w' ⟨rfl, ⟨nd, rfl⟩⟩; refine ⟨_, rfl, ?_⟩))
              go_ret
              exact ⟨by first | rfl | (simp [errW_none, errW_some] <;> rfl) | (simp [*, errW_none, errW_some] <;> rfl), by repeat (first | (with_reducible first | exact HB.out | apply below_alloc | apply pw_below_drewN | apply below_drew1) | exact HB.out)⟩
          · rw [if_neg c11] at H
            have c11b0 : (t126 == 0) = false := beq_eq_false_iff_ne.mpr c11
            have c11b1 : (t126 != 0) = true := bne_iff_ne.mpr c11
            obtain rfl := Option.some.inj H
            go_wp2_with (first | ((with_reducible refine gate_callee (f := 11) rfl ?_); refine goesL_ (some 45) rfl rfl Tryd.func11 (by kernel_rfl) rfl #[.int .i64 a0, .int .i64 t122, .int .i64 t123] rfl (by (try simp only [List.map_toArray, List.map_cons, List.map_nil]); first | done | rfl | (simp only [List.length_drop, List.length_take]; rfl)) ?_; (with_reducible refine (tap_Days.calls a0 t122 t123 t125 t126 _ A9.out).mono ?_); rintro e w19 ⟨rfl, hb⟩; refine ⟨_, rfl, ?_⟩; have n0_ := Aside0.mk (below_step (by repeat (first | (with_reducible first | exact HB.out | apply below_alloc | apply pw_below_drewN | apply below_drew1) | exact HB.out)) hb); clear HB; have HB := n0_; clear n0_; (try clear hb); (try clear hb2); (try clear hk); (try clear hi)) | ((with_reducible refine gate_callee (f := 15) rfl ?_); refine goesL_ (some 50) rfl rfl Tryd.func15 (by kernel_rfl) rfl #[.int .i64 t125] rfl (by (try simp only [List.map_toArray, List.map_cons, List.map_nil]); first | done | rfl | (simp only [List.length_drop, List.length_take]; rfl)) ?_; (with_reducible refine (tap_Weekday.calls t125 t127 t128 _ A10.out).mono ?_); rintro e w' ⟨rfl, ⟨nd, rfl⟩⟩; refine ⟨_, rfl, ?_⟩))
            go_ret
            exact ⟨by first | rfl | (simp [errW_none, errW_some] <;> rfl) | (simp [*, errW_none, errW_some] <;> rfl), by repeat (first | (with_reducible first | exact HB.out | apply below_alloc | apply pw_below_drewN | apply below_drew1) | exact HB.out)⟩
        · rw [if_neg c8] at H
          have c8b0 : (t124 == 0) = false := beq_eq_false_iff_ne.mpr c8
          have c8b1 : (t124 != 0) = true := bne_iff_ne.mpr c8
          replace H := Option.bind_eq_some_iff.mp H
          obtain ⟨t130, A200, H⟩ := H
          replace H : (some t130) = some r := H
          have A20 := Aside0.mk A200
          clear A200
          obtain rfl := Option.some.inj H
          go_wp2_with (first | ((with_reducible refine gate_callee (f := 12) rfl ?_); refine goesL_ (some 40) rfl rfl Tryd.func12 (by kernel_rfl) rfl #[] rfl (by (try simp only [List.map_toArray, List.map_cons, List.map_nil]); first | done | rfl | (simp only [List.length_drop, List.length_take]; rfl)) ?_; (with_reducible refine (motleylaw27_known.calls  t130 _ ?side1 A20.out).mono ?_); (case side1 => first | exact hL | exact LaidW.below hL (by repeat (first | (with_reducible first | exact HB.out | apply below_alloc | apply pw_below_drewN | apply below_drew1) | exact HB.out))); rintro e w21 ⟨rfl, hb⟩; refine ⟨_, rfl, ?_⟩; have n0_ := Aside0.mk (below_step (by repeat (first | (with_reducible first | exact HB.out | apply below_alloc | apply pw_below_drewN | apply below_drew1) | exact HB.out)) hb); clear HB; have HB := n0_; clear n0_; (try clear hb); (try clear hb2); (try clear hk); (try clear hi)))
          go_ret
          exact ⟨by first | rfl | (simp [errW_none, errW_some] <;> rfl) | (simp [*, errW_none, errW_some] <;> rfl), by repeat (first | (with_reducible first | exact HB.out | apply below_alloc | apply pw_below_drewN | apply below_drew1) | exact HB.out)⟩

/-- THE ONE PURE STATEMENT of motleylaw27_TapEasters: yours. -/
def motleylaw27_TapEasters.Pure : Prop := ∀ (a0 : Int), (Lit.int .i64 a0).wf = true → ∃ k, motleylaw27_TapEasters.f k a0 = some true
theorem motleylaw27_TapEasters.walk (P : motleylaw27_TapEasters.Pure) (a0 : Int) (w : World) (hL : LaidW w) (w0 : (Lit.int .i64 a0).wf = true) :
    Calls Tryd.prog 4 #[.int .i64 a0] w fun e w' => e = .returned (.bool true) ∧ Below w.heap.size w w' := by
  obtain ⟨k, h⟩ := P a0 w0
  refine (motleylaw27_TapEasters.calls k a0 true w hL h).mono ?_
  rintro e w' ⟨rfl, hd⟩
  exact ⟨rfl, hd⟩

end Go.Proofs.YtallfkecjibpmaaDoor.M
