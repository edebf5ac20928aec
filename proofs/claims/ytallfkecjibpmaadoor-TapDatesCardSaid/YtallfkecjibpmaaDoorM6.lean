/- What the Go functions of this seat give, as Lean functions, and that each call comes to it. Written by the session's own program (wip/tools/mprint.py). -/
import Derived.Test.YtallfkecjibpmaaDoorM0
import Derived.Test.YtallfkecjibpmaaDoorM2
import Derived.Test.YtallfkecjibpmaaDoorM3
namespace Go.Proofs.YtallfkecjibpmaaDoor.M
open Go.RowKit Go.Proofs.YtallfkecjibpmaaDoor.G Go.Proofs.YtallfkecjibpmaaDoorW.PrintWords Go.Proofs.YtallfkecjibpmaaDoorW.PrintLast Go.Proofs.YtallfkecjibpmaaDoorW.PrintMore
attribute [local go_sem] max2_int min2_int max_two min_two max_three min_three max_four min_four   -- for this text's walks alone
set_option linter.unusedVariables false
set_option linter.unusedSimpArgs false

/-! ### motleyref27_isDay: function 44 -/
def motleyref27_isDay.f (k : Nat) (a0 : Int) : Option (Bool) := (motleyref27_civil.f k 1 1).bind fun t131 => (if t131 ≤ a0 then ((motleyref27_civil.f k 10000 1).bind fun t132 => (some (decide (a0 < t132)))) else (some false))
theorem motleyref27_isDay.mono : ∀ a0 k, LeO (motleyref27_isDay.f k a0) (motleyref27_isDay.f (k + 1) a0) := by
  intro a0 k
  unfold motleyref27_isDay.f
  repeat' first
      | (with_reducible exact motleyref27_civil.mono _ _ _)
      | (with_reducible exact LeO.refl _)
      | (with_reducible exact LeO.none _)
      | (with_reducible refine LeO.ite ?_ ?_)
      | (with_reducible refine LeO.bind ?_ (fun _ => ?_))
      | exact motleyref27_civil.mono _ _ _
      | exact LeO.none _
      | refine LeO.ite ?_ ?_
      | refine LeO.bind ?_ (fun _ => ?_)
set_option maxHeartbeats 8000000 in
set_option maxRecDepth 100000 in
theorem motleyref27_isDay.calls (k : Nat) (a0 : Int) (r : Bool) (w : World) (h : motleyref27_isDay.f k a0 = some r) :
    Calls Tryd.prog 44 #[.int .i64 a0] w fun e w' => e = .returned (.bool r) ∧ Drawn0 w w' := by
  have H : ((motleyref27_civil.f k 1 1).bind fun t131 => (if t131 ≤ a0 then ((motleyref27_civil.f k 10000 1).bind fun t132 => (some (decide (a0 < t132)))) else (some false))) = some r := h
  clear h
  replace H := Option.bind_eq_some_iff.mp H
  obtain ⟨t131, A20, H⟩ := H
  replace H : (if t131 ≤ a0 then ((motleyref27_civil.f k 10000 1).bind fun t132 => (some (decide (a0 < t132)))) else (some false)) = some r := H
  have A2 := Aside0.mk A20
  clear A20
  by_cases c3 : t131 ≤ a0
  · rw [if_pos c3] at H
    have c3b0 : decide (t131 ≤ a0) = true := decide_eq_true c3
    clear c3
    replace H := Option.bind_eq_some_iff.mp H
    obtain ⟨t132, A40, H⟩ := H
    replace H : (some (decide (a0 < t132))) = some r := H
    have A4 := Aside0.mk A40
    clear A40
    obtain rfl := Option.some.inj H
    go_enter Tryd.func44, Tryd.ntmps44
    go_wp2_with (first | ((with_reducible refine gate_callee (f := 37) rfl ?_); refine goesL_ (some 3) rfl rfl Tryd.func37 (by kernel_rfl) rfl #[.int .i64 1, .int .i64 1] rfl (by (try simp only [List.map_toArray, List.map_cons, List.map_nil]); first | done | rfl | (simp only [List.length_drop, List.length_take]; rfl)) ?_; (with_reducible refine (motleyref27_civil.calls k 1 1 t131 _ A2.out).mono ?_); rintro e w' ⟨rfl, ⟨nd, rfl⟩⟩; refine ⟨_, rfl, ?_⟩) | (go_at_call 37; (with_reducible refine (motleyref27_civil.calls k 10000 1 t132 _ A4.out).mono ?_); rintro e w' ⟨rfl, ⟨nd, rfl⟩⟩))
    go_ret
    exact ⟨by first | rfl | (simp; done) | (simp [*]; done), by repeat (first | exact Drawn0.refl _ | apply Drawn0.step)⟩
  · rw [if_neg c3] at H
    have c3b0 : decide (t131 ≤ a0) = false := decide_eq_false c3
    clear c3
    obtain rfl := Option.some.inj H
    go_enter Tryd.func44, Tryd.ntmps44
    go_wp2_with (first | ((with_reducible refine gate_callee (f := 37) rfl ?_); refine goesL_ (some 3) rfl rfl Tryd.func37 (by kernel_rfl) rfl #[.int .i64 1, .int .i64 1] rfl (by (try simp only [List.map_toArray, List.map_cons, List.map_nil]); first | done | rfl | (simp only [List.length_drop, List.length_take]; rfl)) ?_; (with_reducible refine (motleyref27_civil.calls k 1 1 t131 _ A2.out).mono ?_); rintro e w' ⟨rfl, ⟨nd, rfl⟩⟩; refine ⟨_, rfl, ?_⟩))
    go_ret
    exact ⟨by first | rfl | (simp; done) | (simp [*]; done), by repeat (first | exact Drawn0.refl _ | apply Drawn0.step)⟩

/-! ### motleyref27_Date: function 16 -/
mutual
def motleyref27_Date.l0 : Nat → Int → Int → Int → Option (Int × Int × Int × Int)
  | 0, _, _, _ => none
  | k + 1, x0, x6, x7 => if x7 > 0 then (motleyref27_Date.l1 k x0 x6 x7) else (motleyref27_Date.l2 k x0 x6 1)
def motleyref27_Date.l1 : Nat → Int → Int → Int → Option (Int × Int × Int × Int)
  | 0, _, _, _ => none
  | k + 1, x0, x6, x7 => (motleyref27_isYear.f (wrap64 (x6 + x7))).bind fun t134 => (if t134 = true then ((motleyref27_civil.f k (wrap64 (x6 + x7)) 1).bind fun t135 => (if t135 ≤ x0 then (motleyref27_Date.l1 k x0 (wrap64 (x6 + x7)) x7) else (motleyref27_Date.l0 k x0 x6 (wrap64 (Int.tdiv x7 2))))) else (motleyref27_Date.l0 k x0 x6 (wrap64 (Int.tdiv x7 2))))
def motleyref27_Date.l2 : Nat → Int → Int → Int → Option (Int × Int × Int × Int)
  | 0, _, _, _ => none
  | k + 1, x0, x6, x8 => if x8 < 12 then ((motleyref27_civil.f k x6 (wrap64 (x8 + 1))).bind fun t136 => (if t136 ≤ x0 then (motleyref27_Date.l2 k x0 x6 (wrap64 (x8 + 1))) else ((motleyref27_civil.f k x6 x8).bind fun t137 => (some (x6, x8, wrap64 ((wrap64 (x0 - t137)) + 1), 0))))) else ((motleyref27_civil.f k x6 x8).bind fun t138 => (some (x6, x8, wrap64 ((wrap64 (x0 - t138)) + 1), 0)))
end
def motleyref27_Date.f (k : Nat) (a0 : Int) : Option (Int × Int × Int × Int) := (motleyref27_isDay.f k a0).bind fun t133 => (if t133 = true then (motleyref27_Date.l0 k a0 1 4096) else (some (0, 0, 0, 1)))
theorem motleyref27_Date.mono_l : ∀ k, (∀ y0 y1 y2, LeO (motleyref27_Date.l0 k y0 y1 y2) (motleyref27_Date.l0 (k + 1) y0 y1 y2)) ∧ (∀ y0 y1 y2, LeO (motleyref27_Date.l1 k y0 y1 y2) (motleyref27_Date.l1 (k + 1) y0 y1 y2)) ∧ (∀ y0 y1 y2, LeO (motleyref27_Date.l2 k y0 y1 y2) (motleyref27_Date.l2 (k + 1) y0 y1 y2))
  | 0 => ⟨fun _ _ _ r h => by simp [motleyref27_Date.l0] at h, fun _ _ _ r h => by simp [motleyref27_Date.l1] at h, fun _ _ _ r h => by simp [motleyref27_Date.l2] at h⟩
  | k + 1 => by
    obtain ⟨ih0, ih1, ih2⟩ := motleyref27_Date.mono_l k
    refine ⟨?_, ?_, ?_⟩
    · intro y0 y1 y2
      unfold motleyref27_Date.l0
      repeat' first
      | (with_reducible exact ih0 _ _ _)
      | (with_reducible exact ih1 _ _ _)
      | (with_reducible exact ih2 _ _ _)
      | (with_reducible exact motleyref27_civil.mono _ _ _)
      | (with_reducible exact motleyref27_isDay.mono _ _)
      | (with_reducible exact LeO.refl _)
      | (with_reducible exact LeO.none _)
      | (with_reducible refine LeO.ite ?_ ?_)
      | (with_reducible refine LeO.bind ?_ (fun _ => ?_))
      | exact ih0 _ _ _
      | exact ih1 _ _ _
      | exact ih2 _ _ _
      | exact motleyref27_civil.mono _ _ _
      | exact motleyref27_isDay.mono _ _
      | exact LeO.none _
      | refine LeO.ite ?_ ?_
      | refine LeO.bind ?_ (fun _ => ?_)
    · intro y0 y1 y2
      unfold motleyref27_Date.l1
      repeat' first
      | (with_reducible exact ih0 _ _ _)
      | (with_reducible exact ih1 _ _ _)
      | (with_reducible exact ih2 _ _ _)
      | (with_reducible exact motleyref27_civil.mono _ _ _)
      | (with_reducible exact motleyref27_isDay.mono _ _)
      | (with_reducible exact LeO.refl _)
      | (with_reducible exact LeO.none _)
      | (with_reducible refine LeO.ite ?_ ?_)
      | (with_reducible refine LeO.bind ?_ (fun _ => ?_))
      | exact ih0 _ _ _
      | exact ih1 _ _ _
      | exact ih2 _ _ _
      | exact motleyref27_civil.mono _ _ _
      | exact motleyref27_isDay.mono _ _
      | exact LeO.none _
      | refine LeO.ite ?_ ?_
      | refine LeO.bind ?_ (fun _ => ?_)
    · intro y0 y1 y2
      unfold motleyref27_Date.l2
      repeat' first
      | (with_reducible exact ih0 _ _ _)
      | (with_reducible exact ih1 _ _ _)
      | (with_reducible exact ih2 _ _ _)
      | (with_reducible exact motleyref27_civil.mono _ _ _)
      | (with_reducible exact motleyref27_isDay.mono _ _)
      | (with_reducible exact LeO.refl _)
      | (with_reducible exact LeO.none _)
      | (with_reducible refine LeO.ite ?_ ?_)
      | (with_reducible refine LeO.bind ?_ (fun _ => ?_))
      | exact ih0 _ _ _
      | exact ih1 _ _ _
      | exact ih2 _ _ _
      | exact motleyref27_civil.mono _ _ _
      | exact motleyref27_isDay.mono _ _
      | exact LeO.none _
      | refine LeO.ite ?_ ?_
      | refine LeO.bind ?_ (fun _ => ?_)
theorem motleyref27_Date.mono : ∀ a0 k, LeO (motleyref27_Date.f k a0) (motleyref27_Date.f (k + 1) a0) := by
  intro a0 k
  obtain ⟨ih0, ih1, ih2⟩ := motleyref27_Date.mono_l k
  unfold motleyref27_Date.f
  repeat' first
      | (with_reducible exact ih0 _ _ _)
      | (with_reducible exact ih1 _ _ _)
      | (with_reducible exact ih2 _ _ _)
      | (with_reducible exact motleyref27_civil.mono _ _ _)
      | (with_reducible exact motleyref27_isDay.mono _ _)
      | (with_reducible exact LeO.refl _)
      | (with_reducible exact LeO.none _)
      | (with_reducible refine LeO.ite ?_ ?_)
      | (with_reducible refine LeO.bind ?_ (fun _ => ?_))
      | exact ih0 _ _ _
      | exact ih1 _ _ _
      | exact ih2 _ _ _
      | exact motleyref27_civil.mono _ _ _
      | exact motleyref27_isDay.mono _ _
      | exact LeO.none _
      | refine LeO.ite ?_ ?_
      | refine LeO.bind ?_ (fun _ => ?_)
set_option maxHeartbeats 8000000 in
set_option maxRecDepth 100000 in
theorem motleyref27_Date.calls (k : Nat) (a0 : Int) (r1 : Int) (r2 : Int) (r3 : Int) (r4 : Int) (w : World) (h : motleyref27_Date.f k a0 = some (r1, r2, r3, r4)) :
    Calls Tryd.prog 16 #[.int .i64 a0] w fun e w' => e = .returned (.tuple #[.int .i64 r1, .int .i64 r2, .int .i64 r3, .int .i64 r4]) ∧ Drawn0 w w' := by
  have H : ((motleyref27_isDay.f k a0).bind fun t133 => (if t133 = true then (motleyref27_Date.l0 k a0 1 4096) else (some (0, 0, 0, 1)))) = some (r1, r2, r3, r4) := h
  clear h
  replace H := Option.bind_eq_some_iff.mp H
  obtain ⟨t133, A20, H⟩ := H
  replace H : (if t133 = true then (motleyref27_Date.l0 k a0 1 4096) else (some (0, 0, 0, 1))) = some (r1, r2, r3, r4) := H
  have A2 := Aside0.mk A20
  clear A20
  by_cases c3 : t133 = true
  · subst c3
    have H1 : (motleyref27_Date.l0 k a0 1 4096) = some (r1, r2, r3, r4) := by rw [if_pos rfl] at H; exact H
    clear H
    have H := H1
    clear H1
    have H' := Aside0.mk H
    clear H
    go_enter Tryd.func16, Tryd.ntmps16
    go_wp2_with (first | ((with_reducible refine gate_callee (f := 44) rfl ?_); refine goesL_ (some 10) rfl rfl Tryd.func44 (by kernel_rfl) rfl #[.int .i64 a0] rfl (by (try simp only [List.map_toArray, List.map_cons, List.map_nil]); first | done | rfl | (simp only [List.length_drop, List.length_take]; rfl)) ?_; (with_reducible refine (motleyref27_isDay.calls k a0 true _ A2.out).mono ?_); rintro e w' ⟨rfl, ⟨nd, rfl⟩⟩; refine ⟨_, rfl, ?_⟩))
    go_loopg [6, 7] k (fun kq v6 v7 w' => ∃ (x6_1 : Int) (x7_1 : Int), v6 = .int .i64 x6_1 ∧ v7 = .int .i64 x7_1 ∧ Aside0 (motleyref27_Date.l0 kq a0 x6_1 x7_1 = some (r1, r2, r3, r4)) ∧ Aside0 (kq ≤ k) ∧ Drawn0 w w')
    case atStart => exact ⟨(1), (4096), (by first | rfl | (simp; done) | (simp [*]; done)), (by first | rfl | (simp; done) | (simp [*]; done)), H', ⟨Nat.le_refl _⟩, by repeat (first | exact Drawn0.refl _ | apply Drawn0.step)⟩
    case round =>
      clear H'
      try clear c1
      try clear p2
      try clear c3
      obtain ⟨x6_1, x7_1, rfl, rfl, HA, HK1, ⟨m1, rfl⟩⟩ := hrel
      cases gk with
      | zero => exact absurd HA.out (by simp [motleyref27_Date.l0])
      | succ k1 =>
        have H := HA.out
        clear HA
        simp only [motleyref27_Date.l0] at H
        by_cases c4 : x7_1 > 0
        · rw [if_pos c4] at H
          have c4b0 : decide (0 < x7_1) = true := decide_eq_true c4
          clear c4
          have H' := Aside0.mk H
          clear H
          go_wp2
          go_loopg [6] k1 (fun kq v6 w' => ∃ (x6_2 : Int), v6 = .int .i64 x6_2 ∧ Aside0 (motleyref27_Date.l1 kq a0 x6_2 x7_1 = some (r1, r2, r3, r4)) ∧ Aside0 (kq ≤ k1) ∧ Drawn0 w w')
          case atStart => exact ⟨(x6_1), (by first | rfl | (simp; done) | (simp [*]; done)), H', ⟨Nat.le_refl _⟩, by repeat (first | exact Drawn0.refl _ | apply Drawn0.step)⟩
          case round =>
            clear H'
            try clear c1
            try clear p2
            try clear c3
            try clear c4
            try clear c4b0
            try clear p2
            obtain ⟨x6_2, rfl, HA, HK2, ⟨m2, rfl⟩⟩ := hrel
            cases gk with
            | zero => exact absurd HA.out (by simp [motleyref27_Date.l1])
            | succ k2 =>
              have H := HA.out
              clear HA
              simp only [motleyref27_Date.l1] at H
              replace H := Option.bind_eq_some_iff.mp H
              obtain ⟨t134, A50, H⟩ := H
              replace H : (if t134 = true then ((motleyref27_civil.f k2 (wrap64 (x6_2 + x7_1)) 1).bind fun t135 => (if t135 ≤ a0 then (motleyref27_Date.l1 k2 a0 (wrap64 (x6_2 + x7_1)) x7_1) else (motleyref27_Date.l0 k2 a0 x6_2 (wrap64 (Int.tdiv x7_1 2))))) else (motleyref27_Date.l0 k2 a0 x6_2 (wrap64 (Int.tdiv x7_1 2)))) = some (r1, r2, r3, r4) := H
              have A5 := Aside0.mk A50
              clear A50
              by_cases c6 : t134 = true
              · subst c6
                have H1 : ((motleyref27_civil.f k2 (wrap64 (x6_2 + x7_1)) 1).bind fun t135 => (if t135 ≤ a0 then (motleyref27_Date.l1 k2 a0 (wrap64 (x6_2 + x7_1)) x7_1) else (motleyref27_Date.l0 k2 a0 x6_2 (wrap64 (Int.tdiv x7_1 2))))) = some (r1, r2, r3, r4) := by rw [if_pos rfl] at H; exact H
                clear H
                have H := H1
                clear H1
                replace H := Option.bind_eq_some_iff.mp H
                obtain ⟨t135, A70, H⟩ := H
                replace H : (if t135 ≤ a0 then (motleyref27_Date.l1 k2 a0 (wrap64 (x6_2 + x7_1)) x7_1) else (motleyref27_Date.l0 k2 a0 x6_2 (wrap64 (Int.tdiv x7_1 2)))) = some (r1, r2, r3, r4) := H
                have A7 := Aside0.mk A70
                clear A70
                by_cases c8 : t135 ≤ a0
                · rw [if_pos c8] at H
                  have c8b0 : decide (t135 ≤ a0) = true := decide_eq_true c8
                  clear c8
                  have H' := Aside0.mk H
                  clear H
                  go_wp2_with (first | ((with_reducible refine gate_callee (f := 35) rfl ?_); refine goesL_ (some 19) rfl rfl Tryd.func35 (by kernel_rfl) rfl #[.int .i64 (wrap64 (x6_2 + x7_1))] rfl (by (try simp only [List.map_toArray, List.map_cons, List.map_nil]); first | done | rfl | (simp only [List.length_drop, List.length_take]; rfl)) ?_; (with_reducible refine (motleyref27_isYear.calls (wrap64 (x6_2 + x7_1)) true _ A5.out).mono ?_); rintro e w' ⟨rfl, ⟨nd, rfl⟩⟩; refine ⟨_, rfl, ?_⟩) | (go_at_call 37; (with_reducible refine (motleyref27_civil.calls k2 (wrap64 (x6_2 + x7_1)) 1 t135 _ A7.out).mono ?_); rintro e w' ⟨rfl, ⟨nd, rfl⟩⟩))
                  go_roundg k2
                  case measure => have := HK1.out; have := HK2.out; omega
                  case rel => exact ⟨(wrap64 (x6_2 + x7_1)), (by first | rfl | (simp; done) | (simp [*]; done)), H', ⟨by have := HK1.out; have := HK2.out; omega⟩, by repeat (first | exact Drawn0.refl _ | apply Drawn0.step)⟩
                · rw [if_neg c8] at H
                  have c8b0 : decide (t135 ≤ a0) = false := decide_eq_false c8
                  clear c8
                  have H' := Aside0.mk H
                  clear H
                  go_wp2_with (first | ((with_reducible refine gate_callee (f := 35) rfl ?_); refine goesL_ (some 19) rfl rfl Tryd.func35 (by kernel_rfl) rfl #[.int .i64 (wrap64 (x6_2 + x7_1))] rfl (by (try simp only [List.map_toArray, List.map_cons, List.map_nil]); first | done | rfl | (simp only [List.length_drop, List.length_take]; rfl)) ?_; (with_reducible refine (motleyref27_isYear.calls (wrap64 (x6_2 + x7_1)) true _ A5.out).mono ?_); rintro e w' ⟨rfl, ⟨nd, rfl⟩⟩; refine ⟨_, rfl, ?_⟩) | (go_at_call 37; (with_reducible refine (motleyref27_civil.calls k2 (wrap64 (x6_2 + x7_1)) 1 t135 _ A7.out).mono ?_); rintro e w' ⟨rfl, ⟨nd, rfl⟩⟩))
                  go_roundg k2
                  case measure => have := HK1.out; have := HK2.out; omega
                  case rel => exact ⟨(x6_2), (wrap64 (Int.tdiv x7_1 2)), (by first | rfl | (simp; done) | (simp [*]; done)), (by first | rfl | (simp; done) | (simp [*]; done)), H', ⟨by have := HK1.out; have := HK2.out; omega⟩, by repeat (first | exact Drawn0.refl _ | apply Drawn0.step)⟩
              · replace c6 := Bool.eq_false_iff.mpr c6
                subst c6
                have H1 : (motleyref27_Date.l0 k2 a0 x6_2 (wrap64 (Int.tdiv x7_1 2))) = some (r1, r2, r3, r4) := by rw [if_neg (show ¬ (false = true) by decide)] at H; exact H
                clear H
                have H := H1
                clear H1
                have H' := Aside0.mk H
                clear H
                go_wp2_with (first | ((with_reducible refine gate_callee (f := 35) rfl ?_); refine goesL_ (some 19) rfl rfl Tryd.func35 (by kernel_rfl) rfl #[.int .i64 (wrap64 (x6_2 + x7_1))] rfl (by (try simp only [List.map_toArray, List.map_cons, List.map_nil]); first | done | rfl | (simp only [List.length_drop, List.length_take]; rfl)) ?_; (with_reducible refine (motleyref27_isYear.calls (wrap64 (x6_2 + x7_1)) false _ A5.out).mono ?_); rintro e w' ⟨rfl, ⟨nd, rfl⟩⟩; refine ⟨_, rfl, ?_⟩))
                go_roundg k2
                case measure => have := HK1.out; have := HK2.out; omega
                case rel => exact ⟨(x6_2), (wrap64 (Int.tdiv x7_1 2)), (by first | rfl | (simp; done) | (simp [*]; done)), (by first | rfl | (simp; done) | (simp [*]; done)), H', ⟨by have := HK1.out; have := HK2.out; omega⟩, by repeat (first | exact Drawn0.refl _ | apply Drawn0.step)⟩
        · rw [if_neg c4] at H
          have c4b0 : decide (0 < x7_1) = false := decide_eq_false c4
          clear c4
          have H' := Aside0.mk H
          clear H
          go_wp2
          go_loopg [8] k1 (fun kq v8 w' => ∃ (x8_2 : Int), v8 = .int .i64 x8_2 ∧ Aside0 (motleyref27_Date.l2 kq a0 x6_1 x8_2 = some (r1, r2, r3, r4)) ∧ Aside0 (kq ≤ k1) ∧ Drawn0 w w')
          case atStart => exact ⟨(1), (by first | rfl | (simp; done) | (simp [*]; done)), H', ⟨Nat.le_refl _⟩, by repeat (first | exact Drawn0.refl _ | apply Drawn0.step)⟩
          case round =>
            clear H'
            try clear c1
            try clear p2
            try clear c3
            try clear c4
            try clear c4b0
            try clear c6
            try clear p6
            try clear c8
            try clear c8b0
            try clear p2
            obtain ⟨x8_2, rfl, HA, HK2, ⟨m2, rfl⟩⟩ := hrel
            cases gk with
            | zero => exact absurd HA.out (by simp [motleyref27_Date.l2])
            | succ k2 =>
              have H := HA.out
              clear HA
              simp only [motleyref27_Date.l2] at H
              by_cases c9 : x8_2 < 12
              · rw [if_pos c9] at H
                have c9b0 : decide (x8_2 < 12) = true := decide_eq_true c9
                clear c9
                replace H := Option.bind_eq_some_iff.mp H
                obtain ⟨t136, A100, H⟩ := H
                replace H : (if t136 ≤ a0 then (motleyref27_Date.l2 k2 a0 x6_1 (wrap64 (x8_2 + 1))) else ((motleyref27_civil.f k2 x6_1 x8_2).bind fun t137 => (some (x6_1, x8_2, wrap64 ((wrap64 (a0 - t137)) + 1), 0)))) = some (r1, r2, r3, r4) := H
                have A10 := Aside0.mk A100
                clear A100
                by_cases c11 : t136 ≤ a0
                · rw [if_pos c11] at H
                  have c11b0 : decide (t136 ≤ a0) = true := decide_eq_true c11
                  clear c11
                  have H' := Aside0.mk H
                  clear H
                  go_wp2_with (first | (go_at_call 37; (with_reducible refine (motleyref27_civil.calls k2 x6_1 (wrap64 (x8_2 + 1)) t136 _ A10.out).mono ?_); rintro e w' ⟨rfl, ⟨nd, rfl⟩⟩))
                  go_roundg k2
                  case measure => have := HK1.out; have := HK2.out; omega
                  case rel => exact ⟨(wrap64 (x8_2 + 1)), (by first | rfl | (simp; done) | (simp [*]; done)), H', ⟨by have := HK1.out; have := HK2.out; omega⟩, by repeat (first | exact Drawn0.refl _ | apply Drawn0.step)⟩
                · rw [if_neg c11] at H
                  have c11b0 : decide (t136 ≤ a0) = false := decide_eq_false c11
                  clear c11
                  replace H := Option.bind_eq_some_iff.mp H
                  obtain ⟨t137, A120, H⟩ := H
                  replace H : (some (x6_1, x8_2, wrap64 ((wrap64 (a0 - t137)) + 1), 0)) = some (r1, r2, r3, r4) := H
                  have A12 := Aside0.mk A120
                  clear A120
                  simp only [Option.some.injEq, Prod.mk.injEq] at H
                  obtain ⟨rfl, rfl, rfl, rfl⟩ := H
                  go_wp2_with (first | (go_at_call 37; (with_reducible refine (motleyref27_civil.calls k2 x6_1 (wrap64 (x8_2 + 1)) t136 _ A10.out).mono ?_); rintro e w' ⟨rfl, ⟨nd, rfl⟩⟩) | ((with_reducible refine gate_callee (f := 37) rfl ?_); refine goesL_ (some 48) rfl rfl Tryd.func37 (by kernel_rfl) rfl #[.int .i64 x6_1, .int .i64 x8_2] rfl (by (try simp only [List.map_toArray, List.map_cons, List.map_nil]); first | done | rfl | (simp only [List.length_drop, List.length_take]; rfl)) ?_; (with_reducible refine (motleyref27_civil.calls k2 x6_1 x8_2 t137 _ A12.out).mono ?_); rintro e w' ⟨rfl, ⟨nd, rfl⟩⟩; refine ⟨_, rfl, ?_⟩))
                  refine bodyPost_ret (results_list (rs := [.tmp 2, .tmp 3, .tmp 4, .tmp 5]) rfl (by simp) (.tmp (.tmp (.tmp (.tmp .nil))))) rfl ?_
                  exact ⟨by first | rfl | (simp; done) | (simp [*]; done), by repeat (first | exact Drawn0.refl _ | apply Drawn0.step)⟩
              · rw [if_neg c9] at H
                have c9b0 : decide (x8_2 < 12) = false := decide_eq_false c9
                clear c9
                replace H := Option.bind_eq_some_iff.mp H
                obtain ⟨t138, A130, H⟩ := H
                replace H : (some (x6_1, x8_2, wrap64 ((wrap64 (a0 - t138)) + 1), 0)) = some (r1, r2, r3, r4) := H
                have A13 := Aside0.mk A130
                clear A130
                simp only [Option.some.injEq, Prod.mk.injEq] at H
                obtain ⟨rfl, rfl, rfl, rfl⟩ := H
                go_wp2_with (first | ((with_reducible refine gate_callee (f := 37) rfl ?_); refine goesL_ (some 48) rfl rfl Tryd.func37 (by kernel_rfl) rfl #[.int .i64 x6_1, .int .i64 x8_2] rfl (by (try simp only [List.map_toArray, List.map_cons, List.map_nil]); first | done | rfl | (simp only [List.length_drop, List.length_take]; rfl)) ?_; (with_reducible refine (motleyref27_civil.calls k2 x6_1 x8_2 t138 _ A13.out).mono ?_); rintro e w' ⟨rfl, ⟨nd, rfl⟩⟩; refine ⟨_, rfl, ?_⟩))
                refine bodyPost_ret (results_list (rs := [.tmp 2, .tmp 3, .tmp 4, .tmp 5]) rfl (by simp) (.tmp (.tmp (.tmp (.tmp .nil))))) rfl ?_
                exact ⟨by first | rfl | (simp; done) | (simp [*]; done), by repeat (first | exact Drawn0.refl _ | apply Drawn0.step)⟩
  · replace c3 := Bool.eq_false_iff.mpr c3
    subst c3
    have H1 : (some (0, 0, 0, 1)) = some (r1, r2, r3, r4) := by rw [if_neg (show ¬ (false = true) by decide)] at H; exact H
    clear H
    have H := H1
    clear H1
    simp only [Option.some.injEq, Prod.mk.injEq] at H
    obtain ⟨rfl, rfl, rfl, rfl⟩ := H
    go_enter Tryd.func16, Tryd.ntmps16
    go_wp2_with (first | ((with_reducible refine gate_callee (f := 44) rfl ?_); refine goesL_ (some 10) rfl rfl Tryd.func44 (by kernel_rfl) rfl #[.int .i64 a0] rfl (by (try simp only [List.map_toArray, List.map_cons, List.map_nil]); first | done | rfl | (simp only [List.length_drop, List.length_take]; rfl)) ?_; (with_reducible refine (motleyref27_isDay.calls k a0 false _ A2.out).mono ?_); rintro e w' ⟨rfl, ⟨nd, rfl⟩⟩; refine ⟨_, rfl, ?_⟩))
    refine bodyPost_ret (results_list (rs := [.tmp 2, .tmp 3, .tmp 4, .tmp 5]) rfl (by simp) (.tmp (.tmp (.tmp (.tmp .nil))))) rfl ?_
    exact ⟨by first | rfl | (simp; done) | (simp [*]; done), by repeat (first | exact Drawn0.refl _ | apply Drawn0.step)⟩

/-! ### motleyref27_modulo: function 45 -/
def motleyref27_modulo.f (a0 : Int) (a1 : Int) : Option (Int) := if a1 = 0 then (none) else (some (Int.tmod (wrap64 ((Int.tmod a0 a1) + a1)) a1))
set_option maxHeartbeats 8000000 in
set_option maxRecDepth 100000 in
theorem motleyref27_modulo.calls (a0 : Int) (a1 : Int) (r : Int) (w : World) (h : motleyref27_modulo.f a0 a1 = some r) :
    Calls Tryd.prog 45 #[.int .i64 a0, .int .i64 a1] w fun e w' => e = .returned (.int .i64 r) ∧ Drawn0 w w' := by
  have H : (if a1 = 0 then (none) else (some (Int.tmod (wrap64 ((Int.tmod a0 a1) + a1)) a1))) = some r := h
  clear h
  by_cases c3 : a1 = 0
  · rw [if_pos c3] at H
    exact absurd H (by simp)
  · rw [if_neg c3] at H
    have c3b0 : (a1 == 0) = false := beq_eq_false_iff_ne.mpr c3
    have c3b1 : (a1 != 0) = true := bne_iff_ne.mpr c3
    obtain rfl := Option.some.inj H
    go_enter Tryd.func45, Tryd.ntmps45
    go_wp2
    go_ret
    exact ⟨by first | rfl | (simp; done) | (simp [*]; done), by repeat (first | exact Drawn0.refl _ | apply Drawn0.step)⟩

/-! ### motleyref27_Weekday: function 17 -/
def motleyref27_Weekday.f (k : Nat) (a0 : Int) : Option (Int × Int) := (motleyref27_isDay.f k a0).bind fun t139 => (if t139 = true then ((motleyref27_modulo.f (wrap64 (a0 + 4)) 7).bind fun t140 => (some (t140, 0))) else (some (0, 1)))
theorem motleyref27_Weekday.mono : ∀ a0 k, LeO (motleyref27_Weekday.f k a0) (motleyref27_Weekday.f (k + 1) a0) := by
  intro a0 k
  unfold motleyref27_Weekday.f
  repeat' first
      | (with_reducible exact motleyref27_isDay.mono _ _)
      | (with_reducible exact LeO.refl _)
      | (with_reducible exact LeO.none _)
      | (with_reducible refine LeO.ite ?_ ?_)
      | (with_reducible refine LeO.bind ?_ (fun _ => ?_))
      | exact motleyref27_isDay.mono _ _
      | exact LeO.none _
      | refine LeO.ite ?_ ?_
      | refine LeO.bind ?_ (fun _ => ?_)
set_option maxHeartbeats 8000000 in
set_option maxRecDepth 100000 in
theorem motleyref27_Weekday.calls (k : Nat) (a0 : Int) (r1 : Int) (r2 : Int) (w : World) (h : motleyref27_Weekday.f k a0 = some (r1, r2)) :
    Calls Tryd.prog 17 #[.int .i64 a0] w fun e w' => e = .returned (.tuple #[.int .i64 r1, .int .i64 r2]) ∧ Drawn0 w w' := by
  have H : ((motleyref27_isDay.f k a0).bind fun t139 => (if t139 = true then ((motleyref27_modulo.f (wrap64 (a0 + 4)) 7).bind fun t140 => (some (t140, 0))) else (some (0, 1)))) = some (r1, r2) := h
  clear h
  replace H := Option.bind_eq_some_iff.mp H
  obtain ⟨t139, A20, H⟩ := H
  replace H : (if t139 = true then ((motleyref27_modulo.f (wrap64 (a0 + 4)) 7).bind fun t140 => (some (t140, 0))) else (some (0, 1))) = some (r1, r2) := H
  have A2 := Aside0.mk A20
  clear A20
  by_cases c3 : t139 = true
  · subst c3
    have H1 : ((motleyref27_modulo.f (wrap64 (a0 + 4)) 7).bind fun t140 => (some (t140, 0))) = some (r1, r2) := by rw [if_pos rfl] at H; exact H
    clear H
    have H := H1
    clear H1
    replace H := Option.bind_eq_some_iff.mp H
    obtain ⟨t140, A40, H⟩ := H
    replace H : (some (t140, 0)) = some (r1, r2) := H
    have A4 := Aside0.mk A40
    clear A40
    simp only [Option.some.injEq, Prod.mk.injEq] at H
    obtain ⟨rfl, rfl⟩ := H
    go_enter Tryd.func17, Tryd.ntmps17
    go_wp2_with (first | ((with_reducible refine gate_callee (f := 44) rfl ?_); refine goesL_ (some 5) rfl rfl Tryd.func44 (by kernel_rfl) rfl #[.int .i64 a0] rfl (by (try simp only [List.map_toArray, List.map_cons, List.map_nil]); first | done | rfl | (simp only [List.length_drop, List.length_take]; rfl)) ?_; (with_reducible refine (motleyref27_isDay.calls k a0 true _ A2.out).mono ?_); rintro e w' ⟨rfl, ⟨nd, rfl⟩⟩; refine ⟨_, rfl, ?_⟩) | ((with_reducible refine gate_callee (f := 45) rfl ?_); refine goesL_ (some 9) rfl rfl Tryd.func45 (by kernel_rfl) rfl #[.int .i64 (wrap64 (a0 + 4)), .int .i64 7] rfl (by (try simp only [List.map_toArray, List.map_cons, List.map_nil]); first | done | rfl | (simp only [List.length_drop, List.length_take]; rfl)) ?_; (with_reducible refine (motleyref27_modulo.calls (wrap64 (a0 + 4)) 7 t140 _ A4.out).mono ?_); rintro e w' ⟨rfl, ⟨nd, rfl⟩⟩; refine ⟨_, rfl, ?_⟩))
    go_ret2
    exact ⟨by first | rfl | (simp; done) | (simp [*]; done), by repeat (first | exact Drawn0.refl _ | apply Drawn0.step)⟩
  · replace c3 := Bool.eq_false_iff.mpr c3
    subst c3
    have H1 : (some (0, 1)) = some (r1, r2) := by rw [if_neg (show ¬ (false = true) by decide)] at H; exact H
    clear H
    have H := H1
    clear H1
    simp only [Option.some.injEq, Prod.mk.injEq] at H
    obtain ⟨rfl, rfl⟩ := H
    go_enter Tryd.func17, Tryd.ntmps17
    go_wp2_with (first | ((with_reducible refine gate_callee (f := 44) rfl ?_); refine goesL_ (some 5) rfl rfl Tryd.func44 (by kernel_rfl) rfl #[.int .i64 a0] rfl (by (try simp only [List.map_toArray, List.map_cons, List.map_nil]); first | done | rfl | (simp only [List.length_drop, List.length_take]; rfl)) ?_; (with_reducible refine (motleyref27_isDay.calls k a0 false _ A2.out).mono ?_); rintro e w' ⟨rfl, ⟨nd, rfl⟩⟩; refine ⟨_, rfl, ?_⟩))
    go_ret2
    exact ⟨by first | rfl | (simp; done) | (simp [*]; done), by repeat (first | exact Drawn0.refl _ | apply Drawn0.step)⟩

/-! ### motleyref27_Week: function 18 -/
def motleyref27_Week.f (k : Nat) (a0 : Int) : Option (Int × Int × Int) := (motleyref27_isDay.f k a0).bind fun t141 => (if t141 = true then ((motleyref27_modulo.f (wrap64 (a0 + 3)) 7).bind fun t142 => ((motleyref27_Date.f k (wrap64 ((wrap64 (a0 - t142)) + 3))).bind fun bt143 => (if bt143.2.2.2 = 0 then ((motleyref27_civil.f k bt143.1 1).bind fun t147 => (some (bt143.1, wrap64 ((wrap64 (Int.tdiv (wrap64 ((wrap64 ((wrap64 (a0 - t142)) + 3)) - t147)) 7)) + 1), 0))) else (some (0, 0, 1))))) else (some (0, 0, 1)))
theorem motleyref27_Week.mono : ∀ a0 k, LeO (motleyref27_Week.f k a0) (motleyref27_Week.f (k + 1) a0) := by
  intro a0 k
  unfold motleyref27_Week.f
  repeat' first
      | (with_reducible exact motleyref27_Date.mono _ _)
      | (with_reducible exact motleyref27_civil.mono _ _ _)
      | (with_reducible exact motleyref27_isDay.mono _ _)
      | (with_reducible exact LeO.refl _)
      | (with_reducible exact LeO.none _)
      | (with_reducible refine LeO.ite ?_ ?_)
      | (with_reducible refine LeO.bind ?_ (fun _ => ?_))
      | exact motleyref27_Date.mono _ _
      | exact motleyref27_civil.mono _ _ _
      | exact motleyref27_isDay.mono _ _
      | exact LeO.none _
      | refine LeO.ite ?_ ?_
      | refine LeO.bind ?_ (fun _ => ?_)
set_option maxHeartbeats 8000000 in
set_option maxRecDepth 100000 in
theorem motleyref27_Week.calls (k : Nat) (a0 : Int) (r1 : Int) (r2 : Int) (r3 : Int) (w : World) (h : motleyref27_Week.f k a0 = some (r1, r2, r3)) :
    Calls Tryd.prog 18 #[.int .i64 a0] w fun e w' => e = .returned (.tuple #[.int .i64 r1, .int .i64 r2, .int .i64 r3]) ∧ Drawn0 w w' := by
  have H : ((motleyref27_isDay.f k a0).bind fun t141 => (if t141 = true then ((motleyref27_modulo.f (wrap64 (a0 + 3)) 7).bind fun t142 => ((motleyref27_Date.f k (wrap64 ((wrap64 (a0 - t142)) + 3))).bind fun bt143 => (if bt143.2.2.2 = 0 then ((motleyref27_civil.f k bt143.1 1).bind fun t147 => (some (bt143.1, wrap64 ((wrap64 (Int.tdiv (wrap64 ((wrap64 ((wrap64 (a0 - t142)) + 3)) - t147)) 7)) + 1), 0))) else (some (0, 0, 1))))) else (some (0, 0, 1)))) = some (r1, r2, r3) := h
  clear h
  replace H := Option.bind_eq_some_iff.mp H
  obtain ⟨t141, A20, H⟩ := H
  replace H : (if t141 = true then ((motleyref27_modulo.f (wrap64 (a0 + 3)) 7).bind fun t142 => ((motleyref27_Date.f k (wrap64 ((wrap64 (a0 - t142)) + 3))).bind fun bt143 => (if bt143.2.2.2 = 0 then ((motleyref27_civil.f k bt143.1 1).bind fun t147 => (some (bt143.1, wrap64 ((wrap64 (Int.tdiv (wrap64 ((wrap64 ((wrap64 (a0 - t142)) + 3)) - t147)) 7)) + 1), 0))) else (some (0, 0, 1))))) else (some (0, 0, 1))) = some (r1, r2, r3) := H
  have A2 := Aside0.mk A20
  clear A20
  by_cases c3 : t141 = true
  · subst c3
    have H1 : ((motleyref27_modulo.f (wrap64 (a0 + 3)) 7).bind fun t142 => ((motleyref27_Date.f k (wrap64 ((wrap64 (a0 - t142)) + 3))).bind fun bt143 => (if bt143.2.2.2 = 0 then ((motleyref27_civil.f k bt143.1 1).bind fun t147 => (some (bt143.1, wrap64 ((wrap64 (Int.tdiv (wrap64 ((wrap64 ((wrap64 (a0 - t142)) + 3)) - t147)) 7)) + 1), 0))) else (some (0, 0, 1))))) = some (r1, r2, r3) := by rw [if_pos rfl] at H; exact H
    clear H
    have H := H1
    clear H1
    replace H := Option.bind_eq_some_iff.mp H
    obtain ⟨t142, A40, H⟩ := H
    replace H : ((motleyref27_Date.f k (wrap64 ((wrap64 (a0 - t142)) + 3))).bind fun bt143 => (if bt143.2.2.2 = 0 then ((motleyref27_civil.f k bt143.1 1).bind fun t147 => (some (bt143.1, wrap64 ((wrap64 (Int.tdiv (wrap64 ((wrap64 ((wrap64 (a0 - t142)) + 3)) - t147)) 7)) + 1), 0))) else (some (0, 0, 1)))) = some (r1, r2, r3) := H
    have A4 := Aside0.mk A40
    clear A40
    replace H := Option.bind_eq_some_iff.mp H
    obtain ⟨⟨t143, t144, t145, t146⟩, A50, H⟩ := H
    replace H : (if t146 = 0 then ((motleyref27_civil.f k t143 1).bind fun t147 => (some (t143, wrap64 ((wrap64 (Int.tdiv (wrap64 ((wrap64 ((wrap64 (a0 - t142)) + 3)) - t147)) 7)) + 1), 0))) else (some (0, 0, 1))) = some (r1, r2, r3) := H
    have A5 := Aside0.mk A50
    clear A50
    by_cases c6 : t146 = 0
    · rw [if_pos c6] at H
      have c6b0 : (t146 == 0) = true := beq_iff_eq.mpr c6
      have c6b1 : (t146 != 0) = false := bne_eq_false_iff_eq.mpr c6
      clear c6
      replace H := Option.bind_eq_some_iff.mp H
      obtain ⟨t147, A70, H⟩ := H
      replace H : (some (t143, wrap64 ((wrap64 (Int.tdiv (wrap64 ((wrap64 ((wrap64 (a0 - t142)) + 3)) - t147)) 7)) + 1), 0)) = some (r1, r2, r3) := H
      have A7 := Aside0.mk A70
      clear A70
      simp only [Option.some.injEq, Prod.mk.injEq] at H
      obtain ⟨rfl, rfl, rfl⟩ := H
      go_enter Tryd.func18, Tryd.ntmps18
      go_wp2_with (first | ((with_reducible refine gate_callee (f := 44) rfl ?_); refine goesL_ (some 11) rfl rfl Tryd.func44 (by kernel_rfl) rfl #[.int .i64 a0] rfl (by (try simp only [List.map_toArray, List.map_cons, List.map_nil]); first | done | rfl | (simp only [List.length_drop, List.length_take]; rfl)) ?_; (with_reducible refine (motleyref27_isDay.calls k a0 true _ A2.out).mono ?_); rintro e w' ⟨rfl, ⟨nd, rfl⟩⟩; refine ⟨_, rfl, ?_⟩) | ((with_reducible refine gate_callee (f := 45) rfl ?_); refine goesL_ (some 16) rfl rfl Tryd.func45 (by kernel_rfl) rfl #[.int .i64 (wrap64 (a0 + 3)), .int .i64 7] rfl (by (try simp only [List.map_toArray, List.map_cons, List.map_nil]); first | done | rfl | (simp only [List.length_drop, List.length_take]; rfl)) ?_; (with_reducible refine (motleyref27_modulo.calls (wrap64 (a0 + 3)) 7 t142 _ A4.out).mono ?_); rintro e w' ⟨rfl, ⟨nd, rfl⟩⟩; refine ⟨_, rfl, ?_⟩) | ((with_reducible refine gate_callee (f := 16) rfl ?_); refine goesL_ (some 21) rfl rfl Tryd.func16 (by kernel_rfl) rfl #[.int .i64 (wrap64 ((wrap64 (a0 - t142)) + 3))] rfl (by (try simp only [List.map_toArray, List.map_cons, List.map_nil]); first | done | rfl | (simp only [List.length_drop, List.length_take]; rfl)) ?_; (with_reducible refine (motleyref27_Date.calls k (wrap64 ((wrap64 (a0 - t142)) + 3)) t143 t144 t145 t146 _ A5.out).mono ?_); rintro e w' ⟨rfl, ⟨nd, rfl⟩⟩; refine ⟨_, rfl, ?_⟩) | ((with_reducible refine gate_callee (f := 37) rfl ?_); refine goesL_ (some 31) rfl rfl Tryd.func37 (by kernel_rfl) rfl #[.int .i64 t143, .int .i64 1] rfl (by (try simp only [List.map_toArray, List.map_cons, List.map_nil]); first | done | rfl | (simp only [List.length_drop, List.length_take]; rfl)) ?_; (with_reducible refine (motleyref27_civil.calls k t143 1 t147 _ A7.out).mono ?_); rintro e w' ⟨rfl, ⟨nd, rfl⟩⟩; refine ⟨_, rfl, ?_⟩))
      go_ret3
      exact ⟨by first | rfl | (simp; done) | (simp [*]; done), by repeat (first | exact Drawn0.refl _ | apply Drawn0.step)⟩
    · rw [if_neg c6] at H
      have c6b0 : (t146 == 0) = false := beq_eq_false_iff_ne.mpr c6
      have c6b1 : (t146 != 0) = true := bne_iff_ne.mpr c6
      simp only [Option.some.injEq, Prod.mk.injEq] at H
      obtain ⟨rfl, rfl, rfl⟩ := H
      go_enter Tryd.func18, Tryd.ntmps18
      go_wp2_with (first | ((with_reducible refine gate_callee (f := 44) rfl ?_); refine goesL_ (some 11) rfl rfl Tryd.func44 (by kernel_rfl) rfl #[.int .i64 a0] rfl (by (try simp only [List.map_toArray, List.map_cons, List.map_nil]); first | done | rfl | (simp only [List.length_drop, List.length_take]; rfl)) ?_; (with_reducible refine (motleyref27_isDay.calls k a0 true _ A2.out).mono ?_); rintro e w' ⟨rfl, ⟨nd, rfl⟩⟩; refine ⟨_, rfl, ?_⟩) | ((with_reducible refine gate_callee (f := 45) rfl ?_); refine goesL_ (some 16) rfl rfl Tryd.func45 (by kernel_rfl) rfl #[.int .i64 (wrap64 (a0 + 3)), .int .i64 7] rfl (by (try simp only [List.map_toArray, List.map_cons, List.map_nil]); first | done | rfl | (simp only [List.length_drop, List.length_take]; rfl)) ?_; (with_reducible refine (motleyref27_modulo.calls (wrap64 (a0 + 3)) 7 t142 _ A4.out).mono ?_); rintro e w' ⟨rfl, ⟨nd, rfl⟩⟩; refine ⟨_, rfl, ?_⟩) | ((with_reducible refine gate_callee (f := 16) rfl ?_); refine goesL_ (some 21) rfl rfl Tryd.func16 (by kernel_rfl) rfl #[.int .i64 (wrap64 ((wrap64 (a0 - t142)) + 3))] rfl (by (try simp only [List.map_toArray, List.map_cons, List.map_nil]); first | done | rfl | (simp only [List.length_drop, List.length_take]; rfl)) ?_; (with_reducible refine (motleyref27_Date.calls k (wrap64 ((wrap64 (a0 - t142)) + 3)) t143 t144 t145 t146 _ A5.out).mono ?_); rintro e w' ⟨rfl, ⟨nd, rfl⟩⟩; refine ⟨_, rfl, ?_⟩))
      go_ret3
      exact ⟨by first | rfl | (simp; done) | (simp [*]; done), by repeat (first | exact Drawn0.refl _ | apply Drawn0.step)⟩
  · replace c3 := Bool.eq_false_iff.mpr c3
    subst c3
    have H1 : (some (0, 0, 1)) = some (r1, r2, r3) := by rw [if_neg (show ¬ (false = true) by decide)] at H; exact H
    clear H
    have H := H1
    clear H1
    simp only [Option.some.injEq, Prod.mk.injEq] at H
    obtain ⟨rfl, rfl, rfl⟩ := H
    go_enter Tryd.func18, Tryd.ntmps18
    go_wp2_with (first | ((with_reducible refine gate_callee (f := 44) rfl ?_); refine goesL_ (some 11) rfl rfl Tryd.func44 (by kernel_rfl) rfl #[.int .i64 a0] rfl (by (try simp only [List.map_toArray, List.map_cons, List.map_nil]); first | done | rfl | (simp only [List.length_drop, List.length_take]; rfl)) ?_; (with_reducible refine (motleyref27_isDay.calls k a0 false _ A2.out).mono ?_); rintro e w' ⟨rfl, ⟨nd, rfl⟩⟩; refine ⟨_, rfl, ?_⟩))
    go_ret3
    exact ⟨by first | rfl | (simp; done) | (simp [*]; done), by repeat (first | exact Drawn0.refl _ | apply Drawn0.step)⟩

/-! ### tap_Week: function 20 -/
def tap_Week.f (a0 : Int) : Option (Int × Int × Int) := (tap_inYears.f a0).bind fun t148 => (if t148 = true then ((tap_weekday.f a0).bind fun t149 => ((tap_Date.f (wrap64 ((wrap64 (a0 - (Int.tmod (wrap64 (t149 + 6)) 7))) + 3))).bind fun bt150 => (if bt150.2.2.2 = 0 then ((tap_Days.f bt150.1 1 1).bind fun bt154 => (some (bt150.1, wrap64 ((wrap64 (Int.tdiv (wrap64 ((wrap64 ((wrap64 (a0 - (Int.tmod (wrap64 (t149 + 6)) 7))) + 3)) - bt154.1)) 7)) + 1), 0))) else (some (0, 0, 1))))) else (some (0, 0, 1)))
set_option maxHeartbeats 8000000 in
set_option maxRecDepth 100000 in
theorem tap_Week.calls (a0 : Int) (r1 : Int) (r2 : Int) (r3 : Int) (w : World) (h : tap_Week.f a0 = some (r1, r2, r3)) :
    Calls Tryd.prog 20 #[.int .i64 a0] w fun e w' => e = .returned (.tuple #[.int .i64 r1, .int .i64 r2, .int .i64 r3]) ∧ Below w.heap.size w w' := by
  have HB := Aside0.mk (Below.refl w.heap.size w)
  have H : ((tap_inYears.f a0).bind fun t148 => (if t148 = true then ((tap_weekday.f a0).bind fun t149 => ((tap_Date.f (wrap64 ((wrap64 (a0 - (Int.tmod (wrap64 (t149 + 6)) 7))) + 3))).bind fun bt150 => (if bt150.2.2.2 = 0 then ((tap_Days.f bt150.1 1 1).bind fun bt154 => (some (bt150.1, wrap64 ((wrap64 (Int.tdiv (wrap64 ((wrap64 ((wrap64 (a0 - (Int.tmod (wrap64 (t149 + 6)) 7))) + 3)) - bt154.1)) 7)) + 1), 0))) else (some (0, 0, 1))))) else (some (0, 0, 1)))) = some (r1, r2, r3) := h
  clear h
  replace H := Option.bind_eq_some_iff.mp H
  obtain ⟨t148, A20, H⟩ := H
  replace H : (if t148 = true then ((tap_weekday.f a0).bind fun t149 => ((tap_Date.f (wrap64 ((wrap64 (a0 - (Int.tmod (wrap64 (t149 + 6)) 7))) + 3))).bind fun bt150 => (if bt150.2.2.2 = 0 then ((tap_Days.f bt150.1 1 1).bind fun bt154 => (some (bt150.1, wrap64 ((wrap64 (Int.tdiv (wrap64 ((wrap64 ((wrap64 (a0 - (Int.tmod (wrap64 (t149 + 6)) 7))) + 3)) - bt154.1)) 7)) + 1), 0))) else (some (0, 0, 1))))) else (some (0, 0, 1))) = some (r1, r2, r3) := H
  have A2 := Aside0.mk A20
  clear A20
  by_cases c3 : t148 = true
  · subst c3
    have H1 : ((tap_weekday.f a0).bind fun t149 => ((tap_Date.f (wrap64 ((wrap64 (a0 - (Int.tmod (wrap64 (t149 + 6)) 7))) + 3))).bind fun bt150 => (if bt150.2.2.2 = 0 then ((tap_Days.f bt150.1 1 1).bind fun bt154 => (some (bt150.1, wrap64 ((wrap64 (Int.tdiv (wrap64 ((wrap64 ((wrap64 (a0 - (Int.tmod (wrap64 (t149 + 6)) 7))) + 3)) - bt154.1)) 7)) + 1), 0))) else (some (0, 0, 1))))) = some (r1, r2, r3) := by rw [if_pos rfl] at H; exact H
    clear H
    have H := H1
    clear H1
    replace H := Option.bind_eq_some_iff.mp H
    obtain ⟨t149, A40, H⟩ := H
    replace H : ((tap_Date.f (wrap64 ((wrap64 (a0 - (Int.tmod (wrap64 (t149 + 6)) 7))) + 3))).bind fun bt150 => (if bt150.2.2.2 = 0 then ((tap_Days.f bt150.1 1 1).bind fun bt154 => (some (bt150.1, wrap64 ((wrap64 (Int.tdiv (wrap64 ((wrap64 ((wrap64 (a0 - (Int.tmod (wrap64 (t149 + 6)) 7))) + 3)) - bt154.1)) 7)) + 1), 0))) else (some (0, 0, 1)))) = some (r1, r2, r3) := H
    have A4 := Aside0.mk A40
    clear A40
    replace H := Option.bind_eq_some_iff.mp H
    obtain ⟨⟨t150, t151, t152, t153⟩, A50, H⟩ := H
    replace H : (if t153 = 0 then ((tap_Days.f t150 1 1).bind fun bt154 => (some (t150, wrap64 ((wrap64 (Int.tdiv (wrap64 ((wrap64 ((wrap64 (a0 - (Int.tmod (wrap64 (t149 + 6)) 7))) + 3)) - bt154.1)) 7)) + 1), 0))) else (some (0, 0, 1))) = some (r1, r2, r3) := H
    have A5 := Aside0.mk A50
    clear A50
    by_cases c6 : t153 = 0
    · rw [if_pos c6] at H
      have c6b0 : (t153 == 0) = true := beq_iff_eq.mpr c6
      have c6b1 : (t153 != 0) = false := bne_eq_false_iff_eq.mpr c6
      clear c6
      replace H := Option.bind_eq_some_iff.mp H
      obtain ⟨⟨t154, t155⟩, A70, H⟩ := H
      replace H : (some (t150, wrap64 ((wrap64 (Int.tdiv (wrap64 ((wrap64 ((wrap64 (a0 - (Int.tmod (wrap64 (t149 + 6)) 7))) + 3)) - t154)) 7)) + 1), 0)) = some (r1, r2, r3) := H
      have A7 := Aside0.mk A70
      clear A70
      simp only [Option.some.injEq, Prod.mk.injEq] at H
      obtain ⟨rfl, rfl, rfl⟩ := H
      go_enter Tryd.func20, Tryd.ntmps20
      go_wp2_with (first | ((with_reducible refine gate_callee (f := 42) rfl ?_); refine goesL_ (some 13) rfl rfl Tryd.func42 (by kernel_rfl) rfl #[.int .i64 a0] rfl (by (try simp only [List.map_toArray, List.map_cons, List.map_nil]); first | done | rfl | (simp only [List.length_drop, List.length_take]; rfl)) ?_; (with_reducible refine (tap_inYears.calls a0 true _ A2.out).mono ?_); rintro e w' ⟨rfl, ⟨nd, rfl⟩⟩; refine ⟨_, rfl, ?_⟩) | ((with_reducible refine gate_callee (f := 43) rfl ?_); refine goesL_ (some 17) rfl rfl Tryd.func43 (by kernel_rfl) rfl #[.int .i64 a0] rfl (by (try simp only [List.map_toArray, List.map_cons, List.map_nil]); first | done | rfl | (simp only [List.length_drop, List.length_take]; rfl)) ?_; (with_reducible refine (tap_weekday.calls a0 t149 _ A4.out).mono ?_); rintro e w' ⟨rfl, ⟨nd, rfl⟩⟩; refine ⟨_, rfl, ?_⟩) | ((with_reducible refine gate_callee (f := 19) rfl ?_); refine goesL_ (some 24) rfl rfl Tryd.func19 (by kernel_rfl) rfl #[.int .i64 (wrap64 ((wrap64 (a0 - (Int.tmod (wrap64 (t149 + 6)) 7))) + 3))] rfl (by (try simp only [List.map_toArray, List.map_cons, List.map_nil]); first | done | rfl | (simp only [List.length_drop, List.length_take]; rfl)) ?_; (with_reducible refine (tap_Date.calls (wrap64 ((wrap64 (a0 - (Int.tmod (wrap64 (t149 + 6)) 7))) + 3)) t150 t151 t152 t153 _ A5.out).mono ?_); rintro e w8 ⟨rfl, hb⟩; refine ⟨_, rfl, ?_⟩; have n0_ := Aside0.mk (below_step (by repeat (first | (with_reducible first | exact HB.out | apply below_alloc | apply pw_below_drewN | apply below_drew1) | exact HB.out)) hb); clear HB; have HB := n0_; clear n0_; (try clear hb); (try clear hb2); (try clear hk); (try clear hi)) | ((with_reducible refine gate_callee (f := 11) rfl ?_); refine goesL_ (some 33) rfl rfl Tryd.func11 (by kernel_rfl) rfl #[.int .i64 t150, .int .i64 1, .int .i64 1] rfl (by (try simp only [List.map_toArray, List.map_cons, List.map_nil]); first | done | rfl | (simp only [List.length_drop, List.length_take]; rfl)) ?_; (with_reducible refine (tap_Days.calls t150 1 1 t154 t155 _ A7.out).mono ?_); rintro e w9 ⟨rfl, hb⟩; refine ⟨_, rfl, ?_⟩; have n0_ := Aside0.mk (below_step (by repeat (first | (with_reducible first | exact HB.out | apply below_alloc | apply pw_below_drewN | apply below_drew1) | exact HB.out)) hb); clear HB; have HB := n0_; clear n0_; (try clear hb); (try clear hb2); (try clear hk); (try clear hi)))
      go_ret3
      exact ⟨by first | rfl | (simp [errW_none, errW_some] <;> rfl) | (simp [*, errW_none, errW_some] <;> rfl), by repeat (first | (with_reducible first | exact HB.out | apply below_alloc | apply pw_below_drewN | apply below_drew1) | exact HB.out)⟩
    · rw [if_neg c6] at H
      have c6b0 : (t153 == 0) = false := beq_eq_false_iff_ne.mpr c6
      have c6b1 : (t153 != 0) = true := bne_iff_ne.mpr c6
      simp only [Option.some.injEq, Prod.mk.injEq] at H
      obtain ⟨rfl, rfl, rfl⟩ := H
      go_enter Tryd.func20, Tryd.ntmps20
      go_wp2_with (first | ((with_reducible refine gate_callee (f := 42) rfl ?_); refine goesL_ (some 13) rfl rfl Tryd.func42 (by kernel_rfl) rfl #[.int .i64 a0] rfl (by (try simp only [List.map_toArray, List.map_cons, List.map_nil]); first | done | rfl | (simp only [List.length_drop, List.length_take]; rfl)) ?_; (with_reducible refine (tap_inYears.calls a0 true _ A2.out).mono ?_); rintro e w' ⟨rfl, ⟨nd, rfl⟩⟩; refine ⟨_, rfl, ?_⟩) | ((with_reducible refine gate_callee (f := 43) rfl ?_); refine goesL_ (some 17) rfl rfl Tryd.func43 (by kernel_rfl) rfl #[.int .i64 a0] rfl (by (try simp only [List.map_toArray, List.map_cons, List.map_nil]); first | done | rfl | (simp only [List.length_drop, List.length_take]; rfl)) ?_; (with_reducible refine (tap_weekday.calls a0 t149 _ A4.out).mono ?_); rintro e w' ⟨rfl, ⟨nd, rfl⟩⟩; refine ⟨_, rfl, ?_⟩) | ((with_reducible refine gate_callee (f := 19) rfl ?_); refine goesL_ (some 24) rfl rfl Tryd.func19 (by kernel_rfl) rfl #[.int .i64 (wrap64 ((wrap64 (a0 - (Int.tmod (wrap64 (t149 + 6)) 7))) + 3))] rfl (by (try simp only [List.map_toArray, List.map_cons, List.map_nil]); first | done | rfl | (simp only [List.length_drop, List.length_take]; rfl)) ?_; (with_reducible refine (tap_Date.calls (wrap64 ((wrap64 (a0 - (Int.tmod (wrap64 (t149 + 6)) 7))) + 3)) t150 t151 t152 t153 _ A5.out).mono ?_); rintro e w10 ⟨rfl, hb⟩; refine ⟨_, rfl, ?_⟩; have n0_ := Aside0.mk (below_step (by repeat (first | (with_reducible first | exact HB.out | apply below_alloc | apply pw_below_drewN | apply below_drew1) | exact HB.out)) hb); clear HB; have HB := n0_; clear n0_; (try clear hb); (try clear hb2); (try clear hk); (try clear hi)))
      go_ret3
      exact ⟨by first | rfl | (simp [errW_none, errW_some] <;> rfl) | (simp [*, errW_none, errW_some] <;> rfl), by repeat (first | (with_reducible first | exact HB.out | apply below_alloc | apply pw_below_drewN | apply below_drew1) | exact HB.out)⟩
  · replace c3 := Bool.eq_false_iff.mpr c3
    subst c3
    have H1 : (some (0, 0, 1)) = some (r1, r2, r3) := by rw [if_neg (show ¬ (false = true) by decide)] at H; exact H
    clear H
    have H := H1
    clear H1
    simp only [Option.some.injEq, Prod.mk.injEq] at H
    obtain ⟨rfl, rfl, rfl⟩ := H
    go_enter Tryd.func20, Tryd.ntmps20
    go_wp2_with (first | ((with_reducible refine gate_callee (f := 42) rfl ?_); refine goesL_ (some 13) rfl rfl Tryd.func42 (by kernel_rfl) rfl #[.int .i64 a0] rfl (by (try simp only [List.map_toArray, List.map_cons, List.map_nil]); first | done | rfl | (simp only [List.length_drop, List.length_take]; rfl)) ?_; (with_reducible refine (tap_inYears.calls a0 false _ A2.out).mono ?_); rintro e w' ⟨rfl, ⟨nd, rfl⟩⟩; refine ⟨_, rfl, ?_⟩))
    go_ret3
    exact ⟨by first | rfl | (simp [errW_none, errW_some] <;> rfl) | (simp [*, errW_none, errW_some] <;> rfl), by repeat (first | (with_reducible first | exact HB.out | apply below_alloc | apply pw_below_drewN | apply below_drew1) | exact HB.out)⟩

/-! ### motleylaw27_TapDates: function 5 -/
def motleylaw27_TapDates.j0 : Nat → Int → Int → Int → Int → Int → Bool → Option (Bool)
  | 0, _, _, _, _, _, _ => none
  | k + 1, x0, x12, x13, x14, x15, x101 => if x101 = true then (some false) else (if x15 = 0 then ((tap_Days.f x12 x13 x14).bind fun bt174 => (if bt174.1 = x0 then (if bt174.2 = 0 then ((motleylaw27_known.f).bind fun t176 => (some t176)) else (some false)) else (some false))) else ((motleylaw27_known.f).bind fun t177 => (some t177)))
def motleylaw27_TapDates.f (k : Nat) (a0 : Int) : Option (Bool) := (motleyref27_Date.f k a0).bind fun bt156 => ((motleyref27_Weekday.f k a0).bind fun bt160 => ((motleyref27_Week.f k a0).bind fun bt162 => ((tap_Date.f a0).bind fun bt165 => ((tap_Weekday.f a0).bind fun bt169 => ((tap_Week.f a0).bind fun bt171 => (if bt165.1 = bt156.1 then (if bt165.2.1 = bt156.2.1 then (if bt165.2.2.1 = bt156.2.2.1 then (if bt165.2.2.2 = bt156.2.2.2 then (if bt169.1 = bt160.1 then (if bt169.2 = bt160.2 then (if bt171.1 = bt162.1 then (if bt171.2.1 = bt162.2.1 then (motleylaw27_TapDates.j0 k a0 bt165.1 bt165.2.1 bt165.2.2.1 bt165.2.2.2 (bt171.2.2 != bt162.2.2)) else (motleylaw27_TapDates.j0 k a0 bt165.1 bt165.2.1 bt165.2.2.1 bt165.2.2.2 true)) else (motleylaw27_TapDates.j0 k a0 bt165.1 bt165.2.1 bt165.2.2.1 bt165.2.2.2 true)) else (motleylaw27_TapDates.j0 k a0 bt165.1 bt165.2.1 bt165.2.2.1 bt165.2.2.2 true)) else (motleylaw27_TapDates.j0 k a0 bt165.1 bt165.2.1 bt165.2.2.1 bt165.2.2.2 true)) else (motleylaw27_TapDates.j0 k a0 bt165.1 bt165.2.1 bt165.2.2.1 bt165.2.2.2 true)) else (motleylaw27_TapDates.j0 k a0 bt165.1 bt165.2.1 bt165.2.2.1 bt165.2.2.2 true)) else (motleylaw27_TapDates.j0 k a0 bt165.1 bt165.2.1 bt165.2.2.1 bt165.2.2.2 true)) else (motleylaw27_TapDates.j0 k a0 bt165.1 bt165.2.1 bt165.2.2.1 bt165.2.2.2 true)))))))
theorem motleylaw27_TapDates.mono_l : ∀ k, (∀ y0 y1 y2 y3 y4 y5, LeO (motleylaw27_TapDates.j0 k y0 y1 y2 y3 y4 y5) (motleylaw27_TapDates.j0 (k + 1) y0 y1 y2 y3 y4 y5))
  | 0 => fun _ _ _ _ _ _ r h => by simp [motleylaw27_TapDates.j0] at h
  | k + 1 => by
    have ih0 := motleylaw27_TapDates.mono_l k
    · intro y0 y1 y2 y3 y4 y5
      unfold motleylaw27_TapDates.j0
      repeat' first
      | (with_reducible exact ih0 _ _ _ _ _ _)
      | (with_reducible exact motleyref27_Date.mono _ _)
      | (with_reducible exact motleyref27_Week.mono _ _)
      | (with_reducible exact motleyref27_Weekday.mono _ _)
      | (with_reducible exact LeO.refl _)
      | (with_reducible exact LeO.none _)
      | (with_reducible refine LeO.ite ?_ ?_)
      | (with_reducible refine LeO.bind ?_ (fun _ => ?_))
      | exact ih0 _ _ _ _ _ _
      | exact motleyref27_Date.mono _ _
      | exact motleyref27_Week.mono _ _
      | exact motleyref27_Weekday.mono _ _
      | exact LeO.none _
      | refine LeO.ite ?_ ?_
      | refine LeO.bind ?_ (fun _ => ?_)
theorem motleylaw27_TapDates.mono : ∀ a0 k, LeO (motleylaw27_TapDates.f k a0) (motleylaw27_TapDates.f (k + 1) a0) := by
  intro a0 k
  have ih0 := motleylaw27_TapDates.mono_l k
  unfold motleylaw27_TapDates.f
  repeat' first
      | (with_reducible exact ih0 _ _ _ _ _ _)
      | (with_reducible exact motleyref27_Date.mono _ _)
      | (with_reducible exact motleyref27_Week.mono _ _)
      | (with_reducible exact motleyref27_Weekday.mono _ _)
      | (with_reducible exact LeO.refl _)
      | (with_reducible exact LeO.none _)
      | (with_reducible refine LeO.ite ?_ ?_)
      | (with_reducible refine LeO.bind ?_ (fun _ => ?_))
      | exact ih0 _ _ _ _ _ _
      | exact motleyref27_Date.mono _ _
      | exact motleyref27_Week.mono _ _
      | exact motleyref27_Weekday.mono _ _
      | exact LeO.none _
      | refine LeO.ite ?_ ?_
      | refine LeO.bind ?_ (fun _ => ?_)
set_option maxHeartbeats 8000000 in
set_option maxRecDepth 100000 in
theorem motleylaw27_TapDates.calls (k : Nat) (a0 : Int) (r : Bool) (w : World) (hL : LaidW w) (h : motleylaw27_TapDates.f k a0 = some r) :
    Calls Tryd.prog 5 #[.int .i64 a0] w fun e w' => e = .returned (.bool r) ∧ Below w.heap.size w w' := by
  have HB := Aside0.mk (Below.refl w.heap.size w)
  have H : ((motleyref27_Date.f k a0).bind fun bt156 => ((motleyref27_Weekday.f k a0).bind fun bt160 => ((motleyref27_Week.f k a0).bind fun bt162 => ((tap_Date.f a0).bind fun bt165 => ((tap_Weekday.f a0).bind fun bt169 => ((tap_Week.f a0).bind fun bt171 => (if bt165.1 = bt156.1 then (if bt165.2.1 = bt156.2.1 then (if bt165.2.2.1 = bt156.2.2.1 then (if bt165.2.2.2 = bt156.2.2.2 then (if bt169.1 = bt160.1 then (if bt169.2 = bt160.2 then (if bt171.1 = bt162.1 then (if bt171.2.1 = bt162.2.1 then (motleylaw27_TapDates.j0 k a0 bt165.1 bt165.2.1 bt165.2.2.1 bt165.2.2.2 (bt171.2.2 != bt162.2.2)) else (motleylaw27_TapDates.j0 k a0 bt165.1 bt165.2.1 bt165.2.2.1 bt165.2.2.2 true)) else (motleylaw27_TapDates.j0 k a0 bt165.1 bt165.2.1 bt165.2.2.1 bt165.2.2.2 true)) else (motleylaw27_TapDates.j0 k a0 bt165.1 bt165.2.1 bt165.2.2.1 bt165.2.2.2 true)) else (motleylaw27_TapDates.j0 k a0 bt165.1 bt165.2.1 bt165.2.2.1 bt165.2.2.2 true)) else (motleylaw27_TapDates.j0 k a0 bt165.1 bt165.2.1 bt165.2.2.1 bt165.2.2.2 true)) else (motleylaw27_TapDates.j0 k a0 bt165.1 bt165.2.1 bt165.2.2.1 bt165.2.2.2 true)) else (motleylaw27_TapDates.j0 k a0 bt165.1 bt165.2.1 bt165.2.2.1 bt165.2.2.2 true)) else (motleylaw27_TapDates.j0 k a0 bt165.1 bt165.2.1 bt165.2.2.1 bt165.2.2.2 true)))))))) = some r := h
  clear h
  replace H := Option.bind_eq_some_iff.mp H
  obtain ⟨⟨t156, t157, t158, t159⟩, A20, H⟩ := H
  replace H : ((motleyref27_Weekday.f k a0).bind fun bt160 => ((motleyref27_Week.f k a0).bind fun bt162 => ((tap_Date.f a0).bind fun bt165 => ((tap_Weekday.f a0).bind fun bt169 => ((tap_Week.f a0).bind fun bt171 => (if bt165.1 = t156 then (if bt165.2.1 = t157 then (if bt165.2.2.1 = t158 then (if bt165.2.2.2 = t159 then (if bt169.1 = bt160.1 then (if bt169.2 = bt160.2 then (if bt171.1 = bt162.1 then (if bt171.2.1 = bt162.2.1 then (motleylaw27_TapDates.j0 k a0 bt165.1 bt165.2.1 bt165.2.2.1 bt165.2.2.2 (bt171.2.2 != bt162.2.2)) else (motleylaw27_TapDates.j0 k a0 bt165.1 bt165.2.1 bt165.2.2.1 bt165.2.2.2 true)) else (motleylaw27_TapDates.j0 k a0 bt165.1 bt165.2.1 bt165.2.2.1 bt165.2.2.2 true)) else (motleylaw27_TapDates.j0 k a0 bt165.1 bt165.2.1 bt165.2.2.1 bt165.2.2.2 true)) else (motleylaw27_TapDates.j0 k a0 bt165.1 bt165.2.1 bt165.2.2.1 bt165.2.2.2 true)) else (motleylaw27_TapDates.j0 k a0 bt165.1 bt165.2.1 bt165.2.2.1 bt165.2.2.2 true)) else (motleylaw27_TapDates.j0 k a0 bt165.1 bt165.2.1 bt165.2.2.1 bt165.2.2.2 true)) else (motleylaw27_TapDates.j0 k a0 bt165.1 bt165.2.1 bt165.2.2.1 bt165.2.2.2 true)) else (motleylaw27_TapDates.j0 k a0 bt165.1 bt165.2.1 bt165.2.2.1 bt165.2.2.2 true))))))) = some r := H
  have A2 := Aside0.mk A20
  clear A20
  replace H := Option.bind_eq_some_iff.mp H
  obtain ⟨⟨t160, t161⟩, A30, H⟩ := H
  replace H : ((motleyref27_Week.f k a0).bind fun bt162 => ((tap_Date.f a0).bind fun bt165 => ((tap_Weekday.f a0).bind fun bt169 => ((tap_Week.f a0).bind fun bt171 => (if bt165.1 = t156 then (if bt165.2.1 = t157 then (if bt165.2.2.1 = t158 then (if bt165.2.2.2 = t159 then (if bt169.1 = t160 then (if bt169.2 = t161 then (if bt171.1 = bt162.1 then (if bt171.2.1 = bt162.2.1 then (motleylaw27_TapDates.j0 k a0 bt165.1 bt165.2.1 bt165.2.2.1 bt165.2.2.2 (bt171.2.2 != bt162.2.2)) else (motleylaw27_TapDates.j0 k a0 bt165.1 bt165.2.1 bt165.2.2.1 bt165.2.2.2 true)) else (motleylaw27_TapDates.j0 k a0 bt165.1 bt165.2.1 bt165.2.2.1 bt165.2.2.2 true)) else (motleylaw27_TapDates.j0 k a0 bt165.1 bt165.2.1 bt165.2.2.1 bt165.2.2.2 true)) else (motleylaw27_TapDates.j0 k a0 bt165.1 bt165.2.1 bt165.2.2.1 bt165.2.2.2 true)) else (motleylaw27_TapDates.j0 k a0 bt165.1 bt165.2.1 bt165.2.2.1 bt165.2.2.2 true)) else (motleylaw27_TapDates.j0 k a0 bt165.1 bt165.2.1 bt165.2.2.1 bt165.2.2.2 true)) else (motleylaw27_TapDates.j0 k a0 bt165.1 bt165.2.1 bt165.2.2.1 bt165.2.2.2 true)) else (motleylaw27_TapDates.j0 k a0 bt165.1 bt165.2.1 bt165.2.2.1 bt165.2.2.2 true)))))) = some r := H
  have A3 := Aside0.mk A30
  clear A30
  replace H := Option.bind_eq_some_iff.mp H
  obtain ⟨⟨t162, t163, t164⟩, A40, H⟩ := H
  replace H : ((tap_Date.f a0).bind fun bt165 => ((tap_Weekday.f a0).bind fun bt169 => ((tap_Week.f a0).bind fun bt171 => (if bt165.1 = t156 then (if bt165.2.1 = t157 then (if bt165.2.2.1 = t158 then (if bt165.2.2.2 = t159 then (if bt169.1 = t160 then (if bt169.2 = t161 then (if bt171.1 = t162 then (if bt171.2.1 = t163 then (motleylaw27_TapDates.j0 k a0 bt165.1 bt165.2.1 bt165.2.2.1 bt165.2.2.2 (bt171.2.2 != t164)) else (motleylaw27_TapDates.j0 k a0 bt165.1 bt165.2.1 bt165.2.2.1 bt165.2.2.2 true)) else (motleylaw27_TapDates.j0 k a0 bt165.1 bt165.2.1 bt165.2.2.1 bt165.2.2.2 true)) else (motleylaw27_TapDates.j0 k a0 bt165.1 bt165.2.1 bt165.2.2.1 bt165.2.2.2 true)) else (motleylaw27_TapDates.j0 k a0 bt165.1 bt165.2.1 bt165.2.2.1 bt165.2.2.2 true)) else (motleylaw27_TapDates.j0 k a0 bt165.1 bt165.2.1 bt165.2.2.1 bt165.2.2.2 true)) else (motleylaw27_TapDates.j0 k a0 bt165.1 bt165.2.1 bt165.2.2.1 bt165.2.2.2 true)) else (motleylaw27_TapDates.j0 k a0 bt165.1 bt165.2.1 bt165.2.2.1 bt165.2.2.2 true)) else (motleylaw27_TapDates.j0 k a0 bt165.1 bt165.2.1 bt165.2.2.1 bt165.2.2.2 true))))) = some r := H
  have A4 := Aside0.mk A40
  clear A40
  replace H := Option.bind_eq_some_iff.mp H
  obtain ⟨⟨t165, t166, t167, t168⟩, A50, H⟩ := H
  replace H : ((tap_Weekday.f a0).bind fun bt169 => ((tap_Week.f a0).bind fun bt171 => (if t165 = t156 then (if t166 = t157 then (if t167 = t158 then (if t168 = t159 then (if bt169.1 = t160 then (if bt169.2 = t161 then (if bt171.1 = t162 then (if bt171.2.1 = t163 then (motleylaw27_TapDates.j0 k a0 t165 t166 t167 t168 (bt171.2.2 != t164)) else (motleylaw27_TapDates.j0 k a0 t165 t166 t167 t168 true)) else (motleylaw27_TapDates.j0 k a0 t165 t166 t167 t168 true)) else (motleylaw27_TapDates.j0 k a0 t165 t166 t167 t168 true)) else (motleylaw27_TapDates.j0 k a0 t165 t166 t167 t168 true)) else (motleylaw27_TapDates.j0 k a0 t165 t166 t167 t168 true)) else (motleylaw27_TapDates.j0 k a0 t165 t166 t167 t168 true)) else (motleylaw27_TapDates.j0 k a0 t165 t166 t167 t168 true)) else (motleylaw27_TapDates.j0 k a0 t165 t166 t167 t168 true)))) = some r := H
  have A5 := Aside0.mk A50
  clear A50
  replace H := Option.bind_eq_some_iff.mp H
  obtain ⟨⟨t169, t170⟩, A60, H⟩ := H
  replace H : ((tap_Week.f a0).bind fun bt171 => (if t165 = t156 then (if t166 = t157 then (if t167 = t158 then (if t168 = t159 then (if t169 = t160 then (if t170 = t161 then (if bt171.1 = t162 then (if bt171.2.1 = t163 then (motleylaw27_TapDates.j0 k a0 t165 t166 t167 t168 (bt171.2.2 != t164)) else (motleylaw27_TapDates.j0 k a0 t165 t166 t167 t168 true)) else (motleylaw27_TapDates.j0 k a0 t165 t166 t167 t168 true)) else (motleylaw27_TapDates.j0 k a0 t165 t166 t167 t168 true)) else (motleylaw27_TapDates.j0 k a0 t165 t166 t167 t168 true)) else (motleylaw27_TapDates.j0 k a0 t165 t166 t167 t168 true)) else (motleylaw27_TapDates.j0 k a0 t165 t166 t167 t168 true)) else (motleylaw27_TapDates.j0 k a0 t165 t166 t167 t168 true)) else (motleylaw27_TapDates.j0 k a0 t165 t166 t167 t168 true))) = some r := H
  have A6 := Aside0.mk A60
  clear A60
  replace H := Option.bind_eq_some_iff.mp H
  obtain ⟨⟨t171, t172, t173⟩, A70, H⟩ := H
  replace H : (if t165 = t156 then (if t166 = t157 then (if t167 = t158 then (if t168 = t159 then (if t169 = t160 then (if t170 = t161 then (if t171 = t162 then (if t172 = t163 then (motleylaw27_TapDates.j0 k a0 t165 t166 t167 t168 (t173 != t164)) else (motleylaw27_TapDates.j0 k a0 t165 t166 t167 t168 true)) else (motleylaw27_TapDates.j0 k a0 t165 t166 t167 t168 true)) else (motleylaw27_TapDates.j0 k a0 t165 t166 t167 t168 true)) else (motleylaw27_TapDates.j0 k a0 t165 t166 t167 t168 true)) else (motleylaw27_TapDates.j0 k a0 t165 t166 t167 t168 true)) else (motleylaw27_TapDates.j0 k a0 t165 t166 t167 t168 true)) else (motleylaw27_TapDates.j0 k a0 t165 t166 t167 t168 true)) else (motleylaw27_TapDates.j0 k a0 t165 t166 t167 t168 true)) = some r := H
  have A7 := Aside0.mk A70
  clear A70
  have HC8 := Aside0.mk H
  clear H
  go_enter Tryd.func5, Tryd.ntmps5
  go_upto_region 7 with (first | ((with_reducible refine gate_callee (f := 16) rfl ?_); refine goesL_ (some 25) rfl rfl Tryd.func16 (by kernel_rfl) rfl #[.int .i64 a0] rfl (by (try simp only [List.map_toArray, List.map_cons, List.map_nil]); first | done | rfl | (simp only [List.length_drop, List.length_take]; rfl)) ?_; (with_reducible refine (motleyref27_Date.calls k a0 t156 t157 t158 t159 _ A2.out).mono ?_); rintro e w' ⟨rfl, ⟨nd, rfl⟩⟩; refine ⟨_, rfl, ?_⟩) | ((with_reducible refine gate_callee (f := 17) rfl ?_); refine goesL_ (some 32) rfl rfl Tryd.func17 (by kernel_rfl) rfl #[.int .i64 a0] rfl (by (try simp only [List.map_toArray, List.map_cons, List.map_nil]); first | done | rfl | (simp only [List.length_drop, List.length_take]; rfl)) ?_; (with_reducible refine (motleyref27_Weekday.calls k a0 t160 t161 _ A3.out).mono ?_); rintro e w' ⟨rfl, ⟨nd, rfl⟩⟩; refine ⟨_, rfl, ?_⟩) | ((with_reducible refine gate_callee (f := 18) rfl ?_); refine goesL_ (some 37) rfl rfl Tryd.func18 (by kernel_rfl) rfl #[.int .i64 a0] rfl (by (try simp only [List.map_toArray, List.map_cons, List.map_nil]); first | done | rfl | (simp only [List.length_drop, List.length_take]; rfl)) ?_; (with_reducible refine (motleyref27_Week.calls k a0 t162 t163 t164 _ A4.out).mono ?_); rintro e w' ⟨rfl, ⟨nd, rfl⟩⟩; refine ⟨_, rfl, ?_⟩) | ((with_reducible refine gate_callee (f := 19) rfl ?_); refine goesL_ (some 43) rfl rfl Tryd.func19 (by kernel_rfl) rfl #[.int .i64 a0] rfl (by (try simp only [List.map_toArray, List.map_cons, List.map_nil]); first | done | rfl | (simp only [List.length_drop, List.length_take]; rfl)) ?_; (with_reducible refine (tap_Date.calls a0 t165 t166 t167 t168 _ A5.out).mono ?_); rintro e w9 ⟨rfl, hb⟩; refine ⟨_, rfl, ?_⟩; have n0_ := Aside0.mk (below_step (by repeat (first | (with_reducible first | exact HB.out | apply below_alloc | apply pw_below_drewN | apply below_drew1) | exact HB.out)) hb); clear HB; have HB := n0_; clear n0_; (try clear hb); (try clear hb2); (try clear hk); (try clear hi)) | ((with_reducible refine gate_callee (f := 15) rfl ?_); refine goesL_ (some 50) rfl rfl Tryd.func15 (by kernel_rfl) rfl #[.int .i64 a0] rfl (by (try simp only [List.map_toArray, List.map_cons, List.map_nil]); first | done | rfl | (simp only [List.length_drop, List.length_take]; rfl)) ?_; (with_reducible refine (tap_Weekday.calls a0 t169 t170 _ A6.out).mono ?_); rintro e w' ⟨rfl, ⟨nd, rfl⟩⟩; refine ⟨_, rfl, ?_⟩) | ((with_reducible refine gate_callee (f := 20) rfl ?_); refine goesL_ (some 55) rfl rfl Tryd.func20 (by kernel_rfl) rfl #[.int .i64 a0] rfl (by (try simp only [List.map_toArray, List.map_cons, List.map_nil]); first | done | rfl | (simp only [List.length_drop, List.length_take]; rfl)) ?_; (with_reducible refine (tap_Week.calls a0 t171 t172 t173 _ A7.out).mono ?_); rintro e w10 ⟨rfl, hb⟩; refine ⟨_, rfl, ?_⟩; have n0_ := Aside0.mk (below_step (by repeat (first | (with_reducible first | exact HB.out | apply below_alloc | apply pw_below_drewN | apply below_drew1) | exact HB.out)) hb); clear HB; have HB := n0_; clear n0_; (try clear hb); (try clear hb2); (try clear hk); (try clear hi)))
  (try simp only [Act.put, List.setIfInBounds_toArray, List.set_cons_zero, List.set_cons_succ])
  go_cut [101] (fun v101 wc => ∃ (kq : Nat) (x101_7 : Bool), v101 = .bool x101_7 ∧ Aside0 (motleylaw27_TapDates.j0 kq a0 t165 t166 t167 t168 x101_7 = some r) ∧ Aside0 (kq ≤ k) ∧ Aside0 (Below w.heap.size w wc))
  case first =>
    have H := HC8.out
    clear HC8
    by_cases c11 : t165 = t156
    · rw [if_pos c11] at H
      have c11b0 : (t165 == t156) = true := beq_iff_eq.mpr c11
      have c11b1 : (t165 != t156) = false := bne_eq_false_iff_eq.mpr c11
      clear c11
      (first | rw [c11b0] | (simp only [i64_w, i32_w]; rw [c11b0]) | skip)
      by_cases c12 : t166 = t157
      · rw [if_pos c12] at H
        have c12b0 : (t166 == t157) = true := beq_iff_eq.mpr c12
        have c12b1 : (t166 != t157) = false := bne_eq_false_iff_eq.mpr c12
        clear c12
        by_cases c13 : t167 = t158
        · rw [if_pos c13] at H
          have c13b0 : (t167 == t158) = true := beq_iff_eq.mpr c13
          have c13b1 : (t167 != t158) = false := bne_eq_false_iff_eq.mpr c13
          clear c13
          by_cases c14 : t168 = t159
          · rw [if_pos c14] at H
            have c14b0 : (t168 == t159) = true := beq_iff_eq.mpr c14
            have c14b1 : (t168 != t159) = false := bne_eq_false_iff_eq.mpr c14
            clear c14
            by_cases c15 : t169 = t160
            · rw [if_pos c15] at H
              have c15b0 : (t169 == t160) = true := beq_iff_eq.mpr c15
              have c15b1 : (t169 != t160) = false := bne_eq_false_iff_eq.mpr c15
              clear c15
              by_cases c16 : t170 = t161
              · rw [if_pos c16] at H
                have c16b0 : (t170 == t161) = true := beq_iff_eq.mpr c16
                have c16b1 : (t170 != t161) = false := bne_eq_false_iff_eq.mpr c16
                clear c16
                by_cases c17 : t171 = t162
                · rw [if_pos c17] at H
                  have c17b0 : (t171 == t162) = true := beq_iff_eq.mpr c17
                  have c17b1 : (t171 != t162) = false := bne_eq_false_iff_eq.mpr c17
                  clear c17
                  by_cases c18 : t172 = t163
                  · rw [if_pos c18] at H
                    have c18b0 : (t172 == t163) = true := beq_iff_eq.mpr c18
                    have c18b1 : (t172 != t163) = false := bne_eq_false_iff_eq.mpr c18
                    clear c18
                    have H' := Aside0.mk H
                    clear H
                    go_wp2
                    go_meet
                    case rel => exact ⟨_, ((t173 != t164)), (by first | rfl | (simp; done) | (simp [*]; done)), H', ⟨by first | omega | exact Nat.le_refl _⟩, ⟨by repeat (first | (with_reducible first | exact HB.out | apply below_alloc | apply pw_below_drewN | apply below_drew1) | exact HB.out)⟩⟩
                  · rw [if_neg c18] at H
                    have c18b0 : (t172 == t163) = false := beq_eq_false_iff_ne.mpr c18
                    have c18b1 : (t172 != t163) = true := bne_iff_ne.mpr c18
                    have H' := Aside0.mk H
                    clear H
                    go_wp2
                    go_meet
                    case rel => exact ⟨_, (true), (by first | rfl | (simp; done) | (simp [*]; done)), H', ⟨by first | omega | exact Nat.le_refl _⟩, ⟨by repeat (first | (with_reducible first | exact HB.out | apply below_alloc | apply pw_below_drewN | apply below_drew1) | exact HB.out)⟩⟩
                · rw [if_neg c17] at H
                  have c17b0 : (t171 == t162) = false := beq_eq_false_iff_ne.mpr c17
                  have c17b1 : (t171 != t162) = true := bne_iff_ne.mpr c17
                  have H' := Aside0.mk H
                  clear H
                  go_wp2
                  go_meet
                  case rel => exact ⟨_, (true), (by first | rfl | (simp; done) | (simp [*]; done)), H', ⟨by first | omega | exact Nat.le_refl _⟩, ⟨by repeat (first | (with_reducible first | exact HB.out | apply below_alloc | apply pw_below_drewN | apply below_drew1) | exact HB.out)⟩⟩
              · rw [if_neg c16] at H
                have c16b0 : (t170 == t161) = false := beq_eq_false_iff_ne.mpr c16
                have c16b1 : (t170 != t161) = true := bne_iff_ne.mpr c16
                have H' := Aside0.mk H
                clear H
                go_wp2
                go_meet
                case rel => exact ⟨_, (true), (by first | rfl | (simp; done) | (simp [*]; done)), H', ⟨by first | omega | exact Nat.le_refl _⟩, ⟨by repeat (first | (with_reducible first | exact HB.out | apply below_alloc | apply pw_below_drewN | apply below_drew1) | exact HB.out)⟩⟩
            · rw [if_neg c15] at H
              have c15b0 : (t169 == t160) = false := beq_eq_false_iff_ne.mpr c15
              have c15b1 : (t169 != t160) = true := bne_iff_ne.mpr c15
              have H' := Aside0.mk H
              clear H
              go_wp2
              go_meet
              case rel => exact ⟨_, (true), (by first | rfl | (simp; done) | (simp [*]; done)), H', ⟨by first | omega | exact Nat.le_refl _⟩, ⟨by repeat (first | (with_reducible first | exact HB.out | apply below_alloc | apply pw_below_drewN | apply below_drew1) | exact HB.out)⟩⟩
          · rw [if_neg c14] at H
            have c14b0 : (t168 == t159) = false := beq_eq_false_iff_ne.mpr c14
            have c14b1 : (t168 != t159) = true := bne_iff_ne.mpr c14
            have H' := Aside0.mk H
            clear H
            go_wp2
            go_meet
            case rel => exact ⟨_, (true), (by first | rfl | (simp; done) | (simp [*]; done)), H', ⟨by first | omega | exact Nat.le_refl _⟩, ⟨by repeat (first | (with_reducible first | exact HB.out | apply below_alloc | apply pw_below_drewN | apply below_drew1) | exact HB.out)⟩⟩
        · rw [if_neg c13] at H
          have c13b0 : (t167 == t158) = false := beq_eq_false_iff_ne.mpr c13
          have c13b1 : (t167 != t158) = true := bne_iff_ne.mpr c13
          have H' := Aside0.mk H
          clear H
          go_wp2
          go_meet
          case rel => exact ⟨_, (true), (by first | rfl | (simp; done) | (simp [*]; done)), H', ⟨by first | omega | exact Nat.le_refl _⟩, ⟨by repeat (first | (with_reducible first | exact HB.out | apply below_alloc | apply pw_below_drewN | apply below_drew1) | exact HB.out)⟩⟩
      · rw [if_neg c12] at H
        have c12b0 : (t166 == t157) = false := beq_eq_false_iff_ne.mpr c12
        have c12b1 : (t166 != t157) = true := bne_iff_ne.mpr c12
        have H' := Aside0.mk H
        clear H
        go_wp2
        go_meet
        case rel => exact ⟨_, (true), (by first | rfl | (simp; done) | (simp [*]; done)), H', ⟨by first | omega | exact Nat.le_refl _⟩, ⟨by repeat (first | (with_reducible first | exact HB.out | apply below_alloc | apply pw_below_drewN | apply below_drew1) | exact HB.out)⟩⟩
    · rw [if_neg c11] at H
      have c11b0 : (t165 == t156) = false := beq_eq_false_iff_ne.mpr c11
      have c11b1 : (t165 != t156) = true := bne_iff_ne.mpr c11
      (first | rw [c11b0] | (simp only [i64_w, i32_w]; rw [c11b0]) | skip)
      have H' := Aside0.mk H
      clear H
      go_wp2
      go_meet
      case rel => exact ⟨_, (true), (by first | rfl | (simp; done) | (simp [*]; done)), H', ⟨by first | omega | exact Nat.le_refl _⟩, ⟨by repeat (first | (with_reducible first | exact HB.out | apply below_alloc | apply pw_below_drewN | apply below_drew1) | exact HB.out)⟩⟩
  case rest =>
    clear HC8
    try clear c1
    try clear c2
    try clear p2
    try clear c5
    try clear c11
    try clear c11b0
    try clear c11b1
    try clear c12
    try clear c12b0
    try clear c12b1
    try clear c13
    try clear c13b0
    try clear c13b1
    try clear c14
    try clear c14b0
    try clear c14b1
    try clear c15
    try clear c15b0
    try clear c15b1
    try clear c16
    try clear c16b0
    try clear c16b1
    try clear c17
    try clear c17b0
    try clear c17b1
    try clear c18
    try clear c18b0
    try clear c18b1
    obtain ⟨kq, x101_7, rfl, HA, HJ7, HB⟩ := hcut
    cases kq with
    | zero => exact absurd HA.out (by simp [motleylaw27_TapDates.j0])
    | succ kj7 =>
      have H := HA.out
      clear HA
      simp only [motleylaw27_TapDates.j0] at H
      by_cases c19 : x101_7 = true
      · subst c19
        have H1 : (some false) = some r := by rw [if_pos rfl] at H; exact H
        clear H
        have H := H1
        clear H1
        obtain rfl := Option.some.inj H
        go_wp2
        go_ret
        exact ⟨by first | rfl | (simp [errW_none, errW_some] <;> rfl) | (simp [*, errW_none, errW_some] <;> rfl), by repeat (first | (with_reducible first | exact HB.out | apply below_alloc | apply pw_below_drewN | apply below_drew1) | exact HB.out)⟩
      · replace c19 := Bool.eq_false_iff.mpr c19
        subst c19
        have H1 : (if t168 = 0 then ((tap_Days.f t165 t166 t167).bind fun bt174 => (if bt174.1 = a0 then (if bt174.2 = 0 then ((motleylaw27_known.f).bind fun t176 => (some t176)) else (some false)) else (some false))) else ((motleylaw27_known.f).bind fun t177 => (some t177))) = some r := by rw [if_neg (show ¬ (false = true) by decide)] at H; exact H
        clear H
        have H := H1
        clear H1
        by_cases c20 : t168 = 0
        · rw [if_pos c20] at H
          have c20b0 : (t168 == 0) = true := beq_iff_eq.mpr c20
          have c20b1 : (t168 != 0) = false := bne_eq_false_iff_eq.mpr c20
          clear c20
          replace H := Option.bind_eq_some_iff.mp H
          obtain ⟨⟨t174, t175⟩, A210, H⟩ := H
          replace H : (if t174 = a0 then (if t175 = 0 then ((motleylaw27_known.f).bind fun t176 => (some t176)) else (some false)) else (some false)) = some r := H
          have A21 := Aside0.mk A210
          clear A210
          by_cases c22 : t174 = a0
          · rw [if_pos c22] at H
            have c22b0 : (t174 == a0) = true := beq_iff_eq.mpr c22
            have c22b1 : (t174 != a0) = false := bne_eq_false_iff_eq.mpr c22
            clear c22
            by_cases c23 : t175 = 0
            · rw [if_pos c23] at H
              have c23b0 : (t175 == 0) = true := beq_iff_eq.mpr c23
              have c23b1 : (t175 != 0) = false := bne_eq_false_iff_eq.mpr c23
              clear c23
              replace H := Option.bind_eq_some_iff.mp H
              obtain ⟨t176, A240, H⟩ := H
              replace H : (some t176) = some r := H
              have A24 := Aside0.mk A240
              clear A240
              obtain rfl := Option.some.inj H
              go_wp2_with (first | ((with_reducible refine gate_callee (f := 11) rfl ?_); refine goesL_ (some 109) rfl rfl Tryd.func11 (by kernel_rfl) rfl #[.int .i64 t165, .int .i64 t166, .int .i64 t167] rfl (by (try simp only [List.map_toArray, List.map_cons, List.map_nil]); first | done | rfl | (simp only [List.length_drop, List.length_take]; rfl)) ?_; (with_reducible refine (tap_Days.calls t165 t166 t167 t174 t175 _ A21.out).mono ?_); rintro e w25 ⟨rfl, hb⟩; refine ⟨_, rfl, ?_⟩; have n0_ := Aside0.mk (below_step (by repeat (first | (with_reducible first | exact HB.out | apply below_alloc | apply pw_below_drewN | apply below_drew1) | exact HB.out)) hb); clear HB; have HB := n0_; clear n0_; (try clear hb); (try clear hb2); (try clear hk); (try clear hi)) | (go_at_call 12; (with_reducible refine (motleylaw27_known.calls  t176 _ ?side1 A24.out).mono ?_); (case side1 => first | exact hL | exact LaidW.below hL (by repeat (first | (with_reducible first | exact HB.out | apply below_alloc | apply pw_below_drewN | apply below_drew1) | exact HB.out))); rintro e w26 ⟨rfl, hb⟩; have n0_ := Aside0.mk (below_step (by repeat (first | (with_reducible first | exact HB.out | apply below_alloc | apply pw_below_drewN | apply below_drew1) | exact HB.out)) hb); clear HB; have HB := n0_; clear n0_; (try clear hb); (try clear hb2); (try clear hk); (try clear hi)))
              go_ret
              exact ⟨by first | rfl | (simp [errW_none, errW_some] <;> rfl) | (simp [*, errW_none, errW_some] <;> rfl), by repeat (first | (with_reducible first | exact HB.out | apply below_alloc | apply pw_below_drewN | apply below_drew1) | exact HB.out)⟩
            · rw [if_neg c23] at H
              have c23b0 : (t175 == 0) = false := beq_eq_false_iff_ne.mpr c23
              have c23b1 : (t175 != 0) = true := bne_iff_ne.mpr c23
              obtain rfl := Option.some.inj H
              go_wp2_with (first | ((with_reducible refine gate_callee (f := 11) rfl ?_); refine goesL_ (some 109) rfl rfl Tryd.func11 (by kernel_rfl) rfl #[.int .i64 t165, .int .i64 t166, .int .i64 t167] rfl (by (try simp only [List.map_toArray, List.map_cons, List.map_nil]); first | done | rfl | (simp only [List.length_drop, List.length_take]; rfl)) ?_; (with_reducible refine (tap_Days.calls t165 t166 t167 t174 t175 _ A21.out).mono ?_); rintro e w27 ⟨rfl, hb⟩; refine ⟨_, rfl, ?_⟩; have n0_ := Aside0.mk (below_step (by repeat (first | (with_reducible first | exact HB.out | apply below_alloc | apply pw_below_drewN | apply below_drew1) | exact HB.out)) hb); clear HB; have HB := n0_; clear n0_; (try clear hb); (try clear hb2); (try clear hk); (try clear hi)))
              go_ret
              exact ⟨by first | rfl | (simp [errW_none, errW_some] <;> rfl) | (simp [*, errW_none, errW_some] <;> rfl), by repeat (first | (with_reducible first | exact HB.out | apply below_alloc | apply pw_below_drewN | apply below_drew1) | exact HB.out)⟩
          · rw [if_neg c22] at H
            have c22b0 : (t174 == a0) = false := beq_eq_false_iff_ne.mpr c22
            have c22b1 : (t174 != a0) = true := bne_iff_ne.mpr c22
            obtain rfl := Option.some.inj H
            go_wp2_with (first | ((with_reducible refine gate_callee (f := 11) rfl ?_); refine goesL_ (some 109) rfl rfl Tryd.func11 (by kernel_rfl) rfl #[.int .i64 t165, .int .i64 t166, .int .i64 t167] rfl (by (try simp only [List.map_toArray, List.map_cons, List.map_nil]); first | done | rfl | (simp only [List.length_drop, List.length_take]; rfl)) ?_; (with_reducible refine (tap_Days.calls t165 t166 t167 t174 t175 _ A21.out).mono ?_); rintro e w28 ⟨rfl, hb⟩; refine ⟨_, rfl, ?_⟩; have n0_ := Aside0.mk (below_step (by repeat (first | (with_reducible first | exact HB.out | apply below_alloc | apply pw_below_drewN | apply below_drew1) | exact HB.out)) hb); clear HB; have HB := n0_; clear n0_; (try clear hb); (try clear hb2); (try clear hk); (try clear hi)))
            go_ret
            exact ⟨by first | rfl | (simp [errW_none, errW_some] <;> rfl) | (simp [*, errW_none, errW_some] <;> rfl), by repeat (first | (with_reducible first | exact HB.out | apply below_alloc | apply pw_below_drewN | apply below_drew1) | exact HB.out)⟩
        · rw [if_neg c20] at H
          have c20b0 : (t168 == 0) = false := beq_eq_false_iff_ne.mpr c20
          have c20b1 : (t168 != 0) = true := bne_iff_ne.mpr c20
          replace H := Option.bind_eq_some_iff.mp H
          obtain ⟨t177, A290, H⟩ := H
          replace H : (some t177) = some r := H
          have A29 := Aside0.mk A290
          clear A290
          obtain rfl := Option.some.inj H
          go_wp2_with (first | ((with_reducible refine gate_callee (f := 12) rfl ?_); refine goesL_ (some 104) rfl rfl Tryd.func12 (by kernel_rfl) rfl #[] rfl (by (try simp only [List.map_toArray, List.map_cons, List.map_nil]); first | done | rfl | (simp only [List.length_drop, List.length_take]; rfl)) ?_; (with_reducible refine (motleylaw27_known.calls  t177 _ ?side1 A29.out).mono ?_); (case side1 => first | exact hL | exact LaidW.below hL (by repeat (first | (with_reducible first | exact HB.out | apply below_alloc | apply pw_below_drewN | apply below_drew1) | exact HB.out))); rintro e w30 ⟨rfl, hb⟩; refine ⟨_, rfl, ?_⟩; have n0_ := Aside0.mk (below_step (by repeat (first | (with_reducible first | exact HB.out | apply below_alloc | apply pw_below_drewN | apply below_drew1) | exact HB.out)) hb); clear HB; have HB := n0_; clear n0_; (try clear hb); (try clear hb2); (try clear hk); (try clear hi)))
          go_ret
          exact ⟨by first | rfl | (simp [errW_none, errW_some] <;> rfl) | (simp [*, errW_none, errW_some] <;> rfl), by repeat (first | (with_reducible first | exact HB.out | apply below_alloc | apply pw_below_drewN | apply below_drew1) | exact HB.out)⟩

/-- THE ONE PURE STATEMENT of motleylaw27_TapDates: yours. -/
def motleylaw27_TapDates.Pure : Prop := ∀ (a0 : Int), (Lit.int .i64 a0).wf = true → ∃ k, motleylaw27_TapDates.f k a0 = some true
theorem motleylaw27_TapDates.walk (P : motleylaw27_TapDates.Pure) (a0 : Int) (w : World) (hL : LaidW w) (w0 : (Lit.int .i64 a0).wf = true) :
    Calls Tryd.prog 5 #[.int .i64 a0] w fun e w' => e = .returned (.bool true) ∧ Below w.heap.size w w' := by
  obtain ⟨k, h⟩ := P a0 w0
  refine (motleylaw27_TapDates.calls k a0 true w hL h).mono ?_
  rintro e w' ⟨rfl, hd⟩
  exact ⟨rfl, hd⟩

end Go.Proofs.YtallfkecjibpmaaDoor.M
