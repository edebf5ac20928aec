/- What the Go functions of this seat give, as Lean functions, and that each call comes to it. Written by the session's own program (wip/tools/mprint.py). -/
import Derived.Test.YtallfkecjibpmaaDoorM0
import Derived.Test.YtallfkecjibpmaaDoorM1
namespace Go.Proofs.YtallfkecjibpmaaDoor.M
open Go.RowKit Go.Proofs.YtallfkecjibpmaaDoor.G Go.Proofs.YtallfkecjibpmaaDoorW.PrintWords Go.Proofs.YtallfkecjibpmaaDoorW.PrintLast Go.Proofs.YtallfkecjibpmaaDoorW.PrintMore
attribute [local go_sem] max2_int min2_int max_two min_two max_three min_three max_four min_four   -- for this text's walks alone
set_option linter.unusedVariables false
set_option linter.unusedSimpArgs false

/-! ### motleyref27_Parse: function 23 -/
mutual
def motleyref27_Parse.j0 : Nat → ByteArray → ByteArray → Bool → Option (Int × Int)
  | 0, _, _, _ => none
  | k + 1, x0, x4, x31 => if x31 = true then (some (0, 2)) else (if 0 ≤ (x4.size : Int) then (if (x4.size : Int) ≤ (x0.size : Int) then (if (x0.extract ((x4.size : Int) : Int).toNat x0.size).toList = ([90] : List UInt8) then (motleyref27_Parse.j3 k x0 0) else ((motleyref27_shape.f k (x0.extract ((x4.size : Int) : Int).toNat x0.size) (⟨#[43, 48, 48, 58, 48, 48]⟩ : ByteArray)).bind fun t112 => (if t112 = true then (motleyref27_Parse.j1 k x0 (x0.extract ((x4.size : Int) : Int).toNat x0.size) true) else ((motleyref27_shape.f k (x0.extract ((x4.size : Int) : Int).toNat x0.size) (⟨#[45, 48, 48, 58, 48, 48]⟩ : ByteArray)).bind fun t113 => (motleyref27_Parse.j1 k x0 (x0.extract ((x4.size : Int) : Int).toNat x0.size) t113))))) else (none)) else (none))
def motleyref27_Parse.j3 : Nat → ByteArray → Int → Option (Int × Int)
  | 0, _, _ => none
  | k + 1, x0, x5 => if 0 ≤ 4 then (if 4 ≤ (x0.size : Int) then ((motleyref27_digits.f k (x0.extract 0 4)).bind fun t116 => (if 5 ≤ 7 then (if 7 ≤ (x0.size : Int) then ((motleyref27_digits.f k (x0.extract 5 7)).bind fun t117 => (if 8 ≤ 10 then (if 10 ≤ (x0.size : Int) then ((motleyref27_digits.f k (x0.extract 8 10)).bind fun t118 => ((motleyref27_Days.f k t116 t117 t118).bind fun bt119 => (if 11 ≤ 13 then (if 13 ≤ (x0.size : Int) then ((motleyref27_digits.f k (x0.extract 11 13)).bind fun t121 => (if 14 ≤ 16 then (if 16 ≤ (x0.size : Int) then ((motleyref27_digits.f k (x0.extract 14 16)).bind fun t122 => (if 17 ≤ 19 then (if 19 ≤ (x0.size : Int) then ((motleyref27_digits.f k (x0.extract 17 19)).bind fun t123 => (if bt119.2 = 0 then (if t121 > 23 then (motleyref27_Parse.j4 k x5 bt119.1 t121 t122 t123 true) else (if t122 > 59 then (motleyref27_Parse.j4 k x5 bt119.1 t121 t122 t123 true) else (motleyref27_Parse.j4 k x5 bt119.1 t121 t122 t123 (decide (t123 > 59))))) else (motleyref27_Parse.j4 k x5 bt119.1 t121 t122 t123 true))) else (none)) else (none))) else (none)) else (none))) else (none)) else (none)))) else (none)) else (none))) else (none)) else (none))) else (none)) else (none)
def motleyref27_Parse.j4 : Nat → Int → Int → Int → Int → Int → Bool → Option (Int × Int)
  | 0, _, _, _, _, _, _ => none
  | k + 1, x5, x9, x11, x12, x13, x103 => if x103 = true then (some (0, 2)) else ((motleyref27_day.f (wrap64 ((wrap64 ((wrap64 ((wrap64 ((wrap64 (86400 * x9)) + (wrap64 (3600 * x11)))) + (wrap64 (60 * x12)))) + x13)) - x5))).bind fun bt124 => ((motleyref27_isDay.f k bt124.1).bind fun t126 => (if t126 = true then (some (wrap64 ((wrap64 ((wrap64 ((wrap64 ((wrap64 (86400 * x9)) + (wrap64 (3600 * x11)))) + (wrap64 (60 * x12)))) + x13)) - x5), 0)) else (some (0, 1)))))
def motleyref27_Parse.j1 : Nat → ByteArray → ByteArray → Bool → Option (Int × Int)
  | 0, _, _, _ => none
  | k + 1, x0, x6, x39 => if x39 = true then (if 1 ≤ 3 then (if 3 ≤ (x6.size : Int) then ((motleyref27_digits.f k (x6.extract 1 3)).bind fun t114 => (if 4 ≤ 6 then (if 6 ≤ (x6.size : Int) then ((motleyref27_digits.f k (x6.extract 4 6)).bind fun t115 => (if t114 > 23 then (motleyref27_Parse.j2 k x0 x6 t114 t115 true) else (motleyref27_Parse.j2 k x0 x6 t114 t115 (decide (t115 > 59))))) else (none)) else (none))) else (none)) else (none)) else (some (0, 2))
def motleyref27_Parse.j2 : Nat → ByteArray → ByteArray → Int → Int → Bool → Option (Int × Int)
  | 0, _, _, _, _, _ => none
  | k + 1, x0, x6, x7, x8, x57 => if x57 = true then (some (0, 2)) else (if 0 < (x6.size : Int) then (if (bt x6 0) = 45 then (motleyref27_Parse.j3 k x0 (wrap64 (-(wrap64 ((wrap64 (3600 * x7)) + (wrap64 (60 * x8))))))) else (motleyref27_Parse.j3 k x0 (wrap64 ((wrap64 (3600 * x7)) + (wrap64 (60 * x8)))))) else (none))
end
def motleyref27_Parse.f (k : Nat) (a0 : ByteArray) : Option (Int × Int) := if (a0.size : Int) < 20 then (motleyref27_Parse.j0 k a0 (⟨#[48, 48, 48, 48, 45, 48, 48, 45, 48, 48, 84, 48, 48, 58, 48, 48, 58, 48, 48]⟩ : ByteArray) true) else (if 0 ≤ 19 then (if 19 ≤ (a0.size : Int) then ((motleyref27_shape.f k (a0.extract 0 19) (⟨#[48, 48, 48, 48, 45, 48, 48, 45, 48, 48, 84, 48, 48, 58, 48, 48, 58, 48, 48]⟩ : ByteArray)).bind fun t111 => (motleyref27_Parse.j0 k a0 (⟨#[48, 48, 48, 48, 45, 48, 48, 45, 48, 48, 84, 48, 48, 58, 48, 48, 58, 48, 48]⟩ : ByteArray) (!t111))) else (none)) else (none))
theorem motleyref27_Parse.mono_l : ∀ k, (∀ y0 y1 y2, LeO (motleyref27_Parse.j0 k y0 y1 y2) (motleyref27_Parse.j0 (k + 1) y0 y1 y2)) ∧ (∀ y0 y1, LeO (motleyref27_Parse.j3 k y0 y1) (motleyref27_Parse.j3 (k + 1) y0 y1)) ∧ (∀ y0 y1 y2 y3 y4 y5, LeO (motleyref27_Parse.j4 k y0 y1 y2 y3 y4 y5) (motleyref27_Parse.j4 (k + 1) y0 y1 y2 y3 y4 y5)) ∧ (∀ y0 y1 y2, LeO (motleyref27_Parse.j1 k y0 y1 y2) (motleyref27_Parse.j1 (k + 1) y0 y1 y2)) ∧ (∀ y0 y1 y2 y3 y4, LeO (motleyref27_Parse.j2 k y0 y1 y2 y3 y4) (motleyref27_Parse.j2 (k + 1) y0 y1 y2 y3 y4))
  | 0 => ⟨fun _ _ _ r h => by simp [motleyref27_Parse.j0] at h, fun _ _ r h => by simp [motleyref27_Parse.j3] at h, fun _ _ _ _ _ _ r h => by simp [motleyref27_Parse.j4] at h, fun _ _ _ r h => by simp [motleyref27_Parse.j1] at h, fun _ _ _ _ _ r h => by simp [motleyref27_Parse.j2] at h⟩
  | k + 1 => by
    obtain ⟨ih0, ih1, ih2, ih3, ih4⟩ := motleyref27_Parse.mono_l k
    refine ⟨?_, ?_, ?_, ?_, ?_⟩
    · intro y0 y1 y2
      unfold motleyref27_Parse.j0
      repeat' first
      | (with_reducible exact ih0 _ _ _)
      | (with_reducible exact ih1 _ _)
      | (with_reducible exact ih2 _ _ _ _ _ _)
      | (with_reducible exact ih3 _ _ _)
      | (with_reducible exact ih4 _ _ _ _ _)
      | (with_reducible exact motleyref27_Days.mono _ _ _ _)
      | (with_reducible exact motleyref27_digits.mono _ _)
      | (with_reducible exact motleyref27_isDay.mono _ _)
      | (with_reducible exact motleyref27_shape.mono _ _ _)
      | (with_reducible exact LeO.refl _)
      | (with_reducible exact LeO.none _)
      | (with_reducible refine LeO.ite ?_ ?_)
      | (with_reducible refine LeO.bind ?_ (fun _ => ?_))
      | exact ih0 _ _ _
      | exact ih1 _ _
      | exact ih2 _ _ _ _ _ _
      | exact ih3 _ _ _
      | exact ih4 _ _ _ _ _
      | exact motleyref27_Days.mono _ _ _ _
      | exact motleyref27_digits.mono _ _
      | exact motleyref27_isDay.mono _ _
      | exact motleyref27_shape.mono _ _ _
      | exact LeO.none _
      | refine LeO.ite ?_ ?_
      | refine LeO.bind ?_ (fun _ => ?_)
    · intro y0 y1
      unfold motleyref27_Parse.j3
      repeat' first
      | (with_reducible exact ih0 _ _ _)
      | (with_reducible exact ih1 _ _)
      | (with_reducible exact ih2 _ _ _ _ _ _)
      | (with_reducible exact ih3 _ _ _)
      | (with_reducible exact ih4 _ _ _ _ _)
      | (with_reducible exact motleyref27_Days.mono _ _ _ _)
      | (with_reducible exact motleyref27_digits.mono _ _)
      | (with_reducible exact motleyref27_isDay.mono _ _)
      | (with_reducible exact motleyref27_shape.mono _ _ _)
      | (with_reducible exact LeO.refl _)
      | (with_reducible exact LeO.none _)
      | (with_reducible refine LeO.ite ?_ ?_)
      | (with_reducible refine LeO.bind ?_ (fun _ => ?_))
      | exact ih0 _ _ _
      | exact ih1 _ _
      | exact ih2 _ _ _ _ _ _
      | exact ih3 _ _ _
      | exact ih4 _ _ _ _ _
      | exact motleyref27_Days.mono _ _ _ _
      | exact motleyref27_digits.mono _ _
      | exact motleyref27_isDay.mono _ _
      | exact motleyref27_shape.mono _ _ _
      | exact LeO.none _
      | refine LeO.ite ?_ ?_
      | refine LeO.bind ?_ (fun _ => ?_)
    · intro y0 y1 y2 y3 y4 y5
      unfold motleyref27_Parse.j4
      repeat' first
      | (with_reducible exact ih0 _ _ _)
      | (with_reducible exact ih1 _ _)
      | (with_reducible exact ih2 _ _ _ _ _ _)
      | (with_reducible exact ih3 _ _ _)
      | (with_reducible exact ih4 _ _ _ _ _)
      | (with_reducible exact motleyref27_Days.mono _ _ _ _)
      | (with_reducible exact motleyref27_digits.mono _ _)
      | (with_reducible exact motleyref27_isDay.mono _ _)
      | (with_reducible exact motleyref27_shape.mono _ _ _)
      | (with_reducible exact LeO.refl _)
      | (with_reducible exact LeO.none _)
      | (with_reducible refine LeO.ite ?_ ?_)
      | (with_reducible refine LeO.bind ?_ (fun _ => ?_))
      | exact ih0 _ _ _
      | exact ih1 _ _
      | exact ih2 _ _ _ _ _ _
      | exact ih3 _ _ _
      | exact ih4 _ _ _ _ _
      | exact motleyref27_Days.mono _ _ _ _
      | exact motleyref27_digits.mono _ _
      | exact motleyref27_isDay.mono _ _
      | exact motleyref27_shape.mono _ _ _
      | exact LeO.none _
      | refine LeO.ite ?_ ?_
      | refine LeO.bind ?_ (fun _ => ?_)
    · intro y0 y1 y2
      unfold motleyref27_Parse.j1
      repeat' first
      | (with_reducible exact ih0 _ _ _)
      | (with_reducible exact ih1 _ _)
      | (with_reducible exact ih2 _ _ _ _ _ _)
      | (with_reducible exact ih3 _ _ _)
      | (with_reducible exact ih4 _ _ _ _ _)
      | (with_reducible exact motleyref27_Days.mono _ _ _ _)
      | (with_reducible exact motleyref27_digits.mono _ _)
      | (with_reducible exact motleyref27_isDay.mono _ _)
      | (with_reducible exact motleyref27_shape.mono _ _ _)
      | (with_reducible exact LeO.refl _)
      | (with_reducible exact LeO.none _)
      | (with_reducible refine LeO.ite ?_ ?_)
      | (with_reducible refine LeO.bind ?_ (fun _ => ?_))
      | exact ih0 _ _ _
      | exact ih1 _ _
      | exact ih2 _ _ _ _ _ _
      | exact ih3 _ _ _
      | exact ih4 _ _ _ _ _
      | exact motleyref27_Days.mono _ _ _ _
      | exact motleyref27_digits.mono _ _
      | exact motleyref27_isDay.mono _ _
      | exact motleyref27_shape.mono _ _ _
      | exact LeO.none _
      | refine LeO.ite ?_ ?_
      | refine LeO.bind ?_ (fun _ => ?_)
    · intro y0 y1 y2 y3 y4
      unfold motleyref27_Parse.j2
      repeat' first
      | (with_reducible exact ih0 _ _ _)
      | (with_reducible exact ih1 _ _)
      | (with_reducible exact ih2 _ _ _ _ _ _)
      | (with_reducible exact ih3 _ _ _)
      | (with_reducible exact ih4 _ _ _ _ _)
      | (with_reducible exact motleyref27_Days.mono _ _ _ _)
      | (with_reducible exact motleyref27_digits.mono _ _)
      | (with_reducible exact motleyref27_isDay.mono _ _)
      | (with_reducible exact motleyref27_shape.mono _ _ _)
      | (with_reducible exact LeO.refl _)
      | (with_reducible exact LeO.none _)
      | (with_reducible refine LeO.ite ?_ ?_)
      | (with_reducible refine LeO.bind ?_ (fun _ => ?_))
      | exact ih0 _ _ _
      | exact ih1 _ _
      | exact ih2 _ _ _ _ _ _
      | exact ih3 _ _ _
      | exact ih4 _ _ _ _ _
      | exact motleyref27_Days.mono _ _ _ _
      | exact motleyref27_digits.mono _ _
      | exact motleyref27_isDay.mono _ _
      | exact motleyref27_shape.mono _ _ _
      | exact LeO.none _
      | refine LeO.ite ?_ ?_
      | refine LeO.bind ?_ (fun _ => ?_)
theorem motleyref27_Parse.mono : ∀ a0 k, LeO (motleyref27_Parse.f k a0) (motleyref27_Parse.f (k + 1) a0) := by
  intro a0 k
  obtain ⟨ih0, ih1, ih2, ih3, ih4⟩ := motleyref27_Parse.mono_l k
  unfold motleyref27_Parse.f
  repeat' first
      | (with_reducible exact ih0 _ _ _)
      | (with_reducible exact ih1 _ _)
      | (with_reducible exact ih2 _ _ _ _ _ _)
      | (with_reducible exact ih3 _ _ _)
      | (with_reducible exact ih4 _ _ _ _ _)
      | (with_reducible exact motleyref27_Days.mono _ _ _ _)
      | (with_reducible exact motleyref27_digits.mono _ _)
      | (with_reducible exact motleyref27_isDay.mono _ _)
      | (with_reducible exact motleyref27_shape.mono _ _ _)
      | (with_reducible exact LeO.refl _)
      | (with_reducible exact LeO.none _)
      | (with_reducible refine LeO.ite ?_ ?_)
      | (with_reducible refine LeO.bind ?_ (fun _ => ?_))
      | exact ih0 _ _ _
      | exact ih1 _ _
      | exact ih2 _ _ _ _ _ _
      | exact ih3 _ _ _
      | exact ih4 _ _ _ _ _
      | exact motleyref27_Days.mono _ _ _ _
      | exact motleyref27_digits.mono _ _
      | exact motleyref27_isDay.mono _ _
      | exact motleyref27_shape.mono _ _ _
      | exact LeO.none _
      | refine LeO.ite ?_ ?_
      | refine LeO.bind ?_ (fun _ => ?_)
set_option maxHeartbeats 8000000 in
set_option maxRecDepth 100000 in
theorem motleyref27_Parse.calls (k : Nat) (a0 : ByteArray) (r1 : Int) (r2 : Int) (w : World) (h : motleyref27_Parse.f k a0 = some (r1, r2)) :
    Calls Tryd.prog 23 #[.string a0] w fun e w' => e = .returned (.tuple #[.int .i64 r1, .int .i64 r2]) ∧ Drawn0 w w' := by
  have H : (if (a0.size : Int) < 20 then (motleyref27_Parse.j0 k a0 (⟨#[48, 48, 48, 48, 45, 48, 48, 45, 48, 48, 84, 48, 48, 58, 48, 48, 58, 48, 48]⟩ : ByteArray) true) else (if 0 ≤ 19 then (if 19 ≤ (a0.size : Int) then ((motleyref27_shape.f k (a0.extract 0 19) (⟨#[48, 48, 48, 48, 45, 48, 48, 45, 48, 48, 84, 48, 48, 58, 48, 48, 58, 48, 48]⟩ : ByteArray)).bind fun t111 => (motleyref27_Parse.j0 k a0 (⟨#[48, 48, 48, 48, 45, 48, 48, 45, 48, 48, 84, 48, 48, 58, 48, 48, 58, 48, 48]⟩ : ByteArray) (!t111))) else (none)) else (none))) = some (r1, r2) := h
  clear h
  have HC2 := Aside0.mk H
  clear H
  go_enter Tryd.func23, Tryd.ntmps23
  go_upto_region 2 with (fail)
  repeat (go_quiet (fail); go_upto_region 2 with (fail))
  go_cut [31] (fun v31 wc => ∃ (kq : Nat) (x31_1 : Bool), v31 = .bool x31_1 ∧ Aside0 (motleyref27_Parse.j0 kq a0 (⟨#[48, 48, 48, 48, 45, 48, 48, 45, 48, 48, 84, 48, 48, 58, 48, 48, 58, 48, 48]⟩ : ByteArray) x31_1 = some (r1, r2)) ∧ Aside0 (kq ≤ k) ∧ Drawn0 w wc)
  case first =>
    have H := HC2.out
    clear HC2
    by_cases c3 : (a0.size : Int) < 20
    · rw [if_pos c3] at H
      have c3b0 : decide ((a0.size : Int) < 20) = true := decide_eq_true c3
      clear c3
      (first | rw [c3b0] | (simp only [i64_w, i32_w]; rw [c3b0]) | skip)
      have H' := Aside0.mk H
      clear H
      go_wp2
      repeat (go_quiet (fail); try go_wp2)
      go_meet
      case rel => exact ⟨_, (true), (by first | rfl | (simp; done) | (simp [*]; done) | (simp; generalize ByteArray.toList _ = l_; cases l_ <;> rfl)), H', ⟨by first | omega | exact Nat.le_refl _⟩, by repeat (first | exact Drawn0.refl _ | apply Drawn0.step)⟩
    · rw [if_neg c3] at H
      have c3b0 : decide ((a0.size : Int) < 20) = false := decide_eq_false c3
      clear c3
      (first | rw [c3b0] | (simp only [i64_w, i32_w]; rw [c3b0]) | skip)
      by_cases c4 : 0 ≤ 19
      · rw [if_pos c4] at H
        have c4b0 := eq_true c4
        have c4b1 : decide (0 ≤ 19) = true := decide_eq_true c4
        clear c4
        by_cases c5 : 19 ≤ (a0.size : Int)
        · rw [if_pos c5] at H
          have c5b0 := eq_true c5
          have c5b1 : decide (19 ≤ (a0.size : Int)) = true := decide_eq_true c5
          clear c5
          replace H := Option.bind_eq_some_iff.mp H
          obtain ⟨t111, A60, H⟩ := H
          replace H : (motleyref27_Parse.j0 k a0 (⟨#[48, 48, 48, 48, 45, 48, 48, 45, 48, 48, 84, 48, 48, 58, 48, 48, 58, 48, 48]⟩ : ByteArray) (!t111)) = some (r1, r2) := H
          have A6 := Aside0.mk A60
          clear A60
          have H' := Aside0.mk H
          clear H
          go_wp2_with (first | (go_at_call 53; (with_reducible refine (motleyref27_shape.calls k (a0.extract 0 19) (⟨#[48, 48, 48, 48, 45, 48, 48, 45, 48, 48, 84, 48, 48, 58, 48, 48, 58, 48, 48]⟩ : ByteArray) t111 _ A6.out).mono ?_); rintro e w' ⟨rfl, ⟨nd, rfl⟩⟩; (try first | exact ⟨rfl, _, World.drewN_drewN _ _ _⟩ | exact ⟨rfl, _, Eq.trans (World.drewN_drewN _ _ _) (congrArg (World.drewN _) (Nat.add_assoc _ _ _))⟩)))
          repeat (go_quiet (first | (go_at_call 53; (with_reducible refine (motleyref27_shape.calls k (a0.extract 0 19) (⟨#[48, 48, 48, 48, 45, 48, 48, 45, 48, 48, 84, 48, 48, 58, 48, 48, 58, 48, 48]⟩ : ByteArray) t111 _ A6.out).mono ?_); rintro e w' ⟨rfl, ⟨nd, rfl⟩⟩; (try first | exact ⟨rfl, _, World.drewN_drewN _ _ _⟩ | exact ⟨rfl, _, Eq.trans (World.drewN_drewN _ _ _) (congrArg (World.drewN _) (Nat.add_assoc _ _ _))⟩))); try go_wp2_with (first | (go_at_call 53; (with_reducible refine (motleyref27_shape.calls k (a0.extract 0 19) (⟨#[48, 48, 48, 48, 45, 48, 48, 45, 48, 48, 84, 48, 48, 58, 48, 48, 58, 48, 48]⟩ : ByteArray) t111 _ A6.out).mono ?_); rintro e w' ⟨rfl, ⟨nd, rfl⟩⟩; (try first | exact ⟨rfl, _, World.drewN_drewN _ _ _⟩ | exact ⟨rfl, _, Eq.trans (World.drewN_drewN _ _ _) (congrArg (World.drewN _) (Nat.add_assoc _ _ _))⟩))))
          go_meet
          case rel => exact ⟨_, (!t111), (by first | rfl | (simp; done) | (simp [*]; done) | (simp; generalize ByteArray.toList _ = l_; cases l_ <;> rfl)), H', ⟨by first | omega | exact Nat.le_refl _⟩, by repeat (first | exact Drawn0.refl _ | apply Drawn0.step)⟩
        · rw [if_neg c5] at H
          exact absurd H (by simp)
      · rw [if_neg c4] at H
        exact absurd H (by simp)
  case rest =>
    clear HC2
    try clear c2
    try clear p2
    try clear c3
    try clear c3b0
    try clear c4
    try clear c4b0
    try clear c4b1
    try clear c5
    try clear c5b0
    try clear c5b1
    obtain ⟨kq, x31_1, rfl, HA, HJ1, ⟨mc1, rfl⟩⟩ := hcut
    cases kq with
    | zero => exact absurd HA.out (by simp [motleyref27_Parse.j0])
    | succ kj1 =>
      have H := HA.out
      clear HA
      simp only [motleyref27_Parse.j0] at H
      by_cases c7 : x31_1 = true
      · subst c7
        have H1 : (some (0, 2)) = some (r1, r2) := by rw [if_pos rfl] at H; exact H
        clear H
        have H := H1
        clear H1
        simp only [Option.some.injEq, Prod.mk.injEq] at H
        obtain ⟨rfl, rfl⟩ := H
        go_wp2
        repeat (go_quiet (fail); try go_wp2)
        go_ret2
        exact ⟨by first | rfl | (simp; done) | (simp [*]; done) | (simp; generalize ByteArray.toList _ = l_; cases l_ <;> rfl), by repeat (first | exact Drawn0.refl _ | apply Drawn0.step)⟩
      · replace c7 := Bool.eq_false_iff.mpr c7
        subst c7
        have H1 : (if 0 ≤ 19 then (if 19 ≤ (a0.size : Int) then (if (a0.extract 19 a0.size).toList = ([90] : List UInt8) then (motleyref27_Parse.j3 kj1 a0 0) else ((motleyref27_shape.f kj1 (a0.extract 19 a0.size) (⟨#[43, 48, 48, 58, 48, 48]⟩ : ByteArray)).bind fun t112 => (if t112 = true then (motleyref27_Parse.j1 kj1 a0 (a0.extract 19 a0.size) true) else ((motleyref27_shape.f kj1 (a0.extract 19 a0.size) (⟨#[45, 48, 48, 58, 48, 48]⟩ : ByteArray)).bind fun t113 => (motleyref27_Parse.j1 kj1 a0 (a0.extract 19 a0.size) t113))))) else (none)) else (none)) = some (r1, r2) := by rw [if_neg (show ¬ (false = true) by decide)] at H; exact H
        clear H
        have H := H1
        clear H1
        by_cases c8 : 0 ≤ 19
        · rw [if_pos c8] at H
          have c8b0 := eq_true c8
          have c8b1 : decide (0 ≤ 19) = true := decide_eq_true c8
          clear c8
          by_cases c9 : 19 ≤ (a0.size : Int)
          · rw [if_pos c9] at H
            have c9b0 := eq_true c9
            have c9b1 : decide (19 ≤ (a0.size : Int)) = true := decide_eq_true c9
            clear c9
            have HC10 := Aside0.mk H
            clear H
            go_upto_block 0 with (fail)
            repeat (go_quiet (fail); go_upto_block 0 with (fail))
            go_cut [5] (fun v5 wc => ∃ (kq : Nat) (x5_9 : Int), v5 = .int .i64 x5_9 ∧ Aside0 (motleyref27_Parse.j3 kq a0 x5_9 = some (r1, r2)) ∧ Aside0 (kq ≤ kj1) ∧ Drawn0 w wc)
            case first =>
              generalize hz6 : a0.extract 19 a0.size = z6 at *
              have H := HC10.out
              clear HC10
              by_cases c11 : z6.toList = ([90] : List UInt8)
              · rw [if_pos c11] at H
                have c11b0 : (z6.toList == ([90] : List UInt8)) = true := beq_iff_eq.mpr c11
                have c11b1 : (z6.toList != ([90] : List UInt8)) = false := bne_eq_false_iff_eq.mpr c11
                clear c11
                (first | rw [c11b0] | (simp only [i64_w, i32_w]; rw [c11b0]) | skip)
                have H' := Aside0.mk H
                clear H
                go_wp2
                repeat (go_quiet (fail); try go_wp2)
                go_meet
                case rel => exact ⟨_, (0), (by first | rfl | (simp; done) | (simp [*]; done) | (simp; generalize ByteArray.toList _ = l_; cases l_ <;> rfl)), H', ⟨by have := HJ1.out; first | omega | exact Nat.le_refl _⟩, by repeat (first | exact Drawn0.refl _ | apply Drawn0.step)⟩
              · rw [if_neg c11] at H
                have c11b0 : (z6.toList == ([90] : List UInt8)) = false := beq_eq_false_iff_ne.mpr c11
                have c11b1 : (z6.toList != ([90] : List UInt8)) = true := bne_iff_ne.mpr c11
                (first | rw [c11b0] | (simp only [i64_w, i32_w]; rw [c11b0]) | skip)
                have HC12 := Aside0.mk H
                clear H
                go_upto_region 8 with (fail)
                repeat (go_quiet (fail); go_upto_region 8 with (fail))
                go_cut [39] (fun v39 wc => ∃ (kq : Nat) (x39_11 : Bool), v39 = .bool x39_11 ∧ Aside0 (motleyref27_Parse.j1 kq a0 z6 x39_11 = some (r1, r2)) ∧ Aside0 (kq ≤ kj1) ∧ Drawn0 w wc)
                case first =>
                  have H := HC12.out
                  clear HC12
                  replace H := Option.bind_eq_some_iff.mp H
                  obtain ⟨t112, A130, H⟩ := H
                  replace H : (if t112 = true then (motleyref27_Parse.j1 kj1 a0 z6 true) else ((motleyref27_shape.f kj1 z6 (⟨#[45, 48, 48, 58, 48, 48]⟩ : ByteArray)).bind fun t113 => (motleyref27_Parse.j1 kj1 a0 z6 t113))) = some (r1, r2) := H
                  have A13 := Aside0.mk A130
                  clear A130
                  by_cases c14 : t112 = true
                  · subst c14
                    have H1 : (motleyref27_Parse.j1 kj1 a0 z6 true) = some (r1, r2) := by rw [if_pos rfl] at H; exact H
                    clear H
                    have H := H1
                    clear H1
                    have H' := Aside0.mk H
                    clear H
                    go_wp2_with (first | (go_at_call 53; (with_reducible refine (motleyref27_shape.calls kj1 z6 (⟨#[43, 48, 48, 58, 48, 48]⟩ : ByteArray) true _ A13.out).mono ?_); rintro e w' ⟨rfl, ⟨nd, rfl⟩⟩; (try first | exact ⟨rfl, _, World.drewN_drewN _ _ _⟩ | exact ⟨rfl, _, Eq.trans (World.drewN_drewN _ _ _) (congrArg (World.drewN _) (Nat.add_assoc _ _ _))⟩)))
                    repeat (go_quiet (first | (go_at_call 53; (with_reducible refine (motleyref27_shape.calls kj1 z6 (⟨#[43, 48, 48, 58, 48, 48]⟩ : ByteArray) true _ A13.out).mono ?_); rintro e w' ⟨rfl, ⟨nd, rfl⟩⟩; (try first | exact ⟨rfl, _, World.drewN_drewN _ _ _⟩ | exact ⟨rfl, _, Eq.trans (World.drewN_drewN _ _ _) (congrArg (World.drewN _) (Nat.add_assoc _ _ _))⟩))); try go_wp2_with (first | (go_at_call 53; (with_reducible refine (motleyref27_shape.calls kj1 z6 (⟨#[43, 48, 48, 58, 48, 48]⟩ : ByteArray) true _ A13.out).mono ?_); rintro e w' ⟨rfl, ⟨nd, rfl⟩⟩; (try first | exact ⟨rfl, _, World.drewN_drewN _ _ _⟩ | exact ⟨rfl, _, Eq.trans (World.drewN_drewN _ _ _) (congrArg (World.drewN _) (Nat.add_assoc _ _ _))⟩))))
                    go_meet
                    case rel => exact ⟨_, (true), (by first | rfl | (simp; done) | (simp [*]; done) | (simp; generalize ByteArray.toList _ = l_; cases l_ <;> rfl)), H', ⟨by have := HJ1.out; first | omega | exact Nat.le_refl _⟩, by repeat (first | exact Drawn0.refl _ | apply Drawn0.step)⟩
                  · replace c14 := Bool.eq_false_iff.mpr c14
                    subst c14
                    have H1 : ((motleyref27_shape.f kj1 z6 (⟨#[45, 48, 48, 58, 48, 48]⟩ : ByteArray)).bind fun t113 => (motleyref27_Parse.j1 kj1 a0 z6 t113)) = some (r1, r2) := by rw [if_neg (show ¬ (false = true) by decide)] at H; exact H
                    clear H
                    have H := H1
                    clear H1
                    replace H := Option.bind_eq_some_iff.mp H
                    obtain ⟨t113, A150, H⟩ := H
                    replace H : (motleyref27_Parse.j1 kj1 a0 z6 t113) = some (r1, r2) := H
                    have A15 := Aside0.mk A150
                    clear A150
                    have H' := Aside0.mk H
                    clear H
                    go_wp2_with (first | (go_at_call 53; (with_reducible refine (motleyref27_shape.calls kj1 z6 (⟨#[43, 48, 48, 58, 48, 48]⟩ : ByteArray) false _ A13.out).mono ?_); rintro e w' ⟨rfl, ⟨nd, rfl⟩⟩; (try first | exact ⟨rfl, _, World.drewN_drewN _ _ _⟩ | exact ⟨rfl, _, Eq.trans (World.drewN_drewN _ _ _) (congrArg (World.drewN _) (Nat.add_assoc _ _ _))⟩)) | (go_at_call 53; (with_reducible refine (motleyref27_shape.calls kj1 z6 (⟨#[45, 48, 48, 58, 48, 48]⟩ : ByteArray) t113 _ A15.out).mono ?_); rintro e w' ⟨rfl, ⟨nd, rfl⟩⟩; (try first | exact ⟨rfl, _, World.drewN_drewN _ _ _⟩ | exact ⟨rfl, _, Eq.trans (World.drewN_drewN _ _ _) (congrArg (World.drewN _) (Nat.add_assoc _ _ _))⟩)))
                    repeat (go_quiet (first | (go_at_call 53; (with_reducible refine (motleyref27_shape.calls kj1 z6 (⟨#[43, 48, 48, 58, 48, 48]⟩ : ByteArray) false _ A13.out).mono ?_); rintro e w' ⟨rfl, ⟨nd, rfl⟩⟩; (try first | exact ⟨rfl, _, World.drewN_drewN _ _ _⟩ | exact ⟨rfl, _, Eq.trans (World.drewN_drewN _ _ _) (congrArg (World.drewN _) (Nat.add_assoc _ _ _))⟩)) | (go_at_call 53; (with_reducible refine (motleyref27_shape.calls kj1 z6 (⟨#[45, 48, 48, 58, 48, 48]⟩ : ByteArray) t113 _ A15.out).mono ?_); rintro e w' ⟨rfl, ⟨nd, rfl⟩⟩; (try first | exact ⟨rfl, _, World.drewN_drewN _ _ _⟩ | exact ⟨rfl, _, Eq.trans (World.drewN_drewN _ _ _) (congrArg (World.drewN _) (Nat.add_assoc _ _ _))⟩))); try go_wp2_with (first | (go_at_call 53; (with_reducible refine (motleyref27_shape.calls kj1 z6 (⟨#[43, 48, 48, 58, 48, 48]⟩ : ByteArray) false _ A13.out).mono ?_); rintro e w' ⟨rfl, ⟨nd, rfl⟩⟩; (try first | exact ⟨rfl, _, World.drewN_drewN _ _ _⟩ | exact ⟨rfl, _, Eq.trans (World.drewN_drewN _ _ _) (congrArg (World.drewN _) (Nat.add_assoc _ _ _))⟩)) | (go_at_call 53; (with_reducible refine (motleyref27_shape.calls kj1 z6 (⟨#[45, 48, 48, 58, 48, 48]⟩ : ByteArray) t113 _ A15.out).mono ?_); rintro e w' ⟨rfl, ⟨nd, rfl⟩⟩; (try first | exact ⟨rfl, _, World.drewN_drewN _ _ _⟩ | exact ⟨rfl, _, Eq.trans (World.drewN_drewN _ _ _) (congrArg (World.drewN _) (Nat.add_assoc _ _ _))⟩))))
                    go_meet
                    case rel => exact ⟨_, (t113), (by first | rfl | (simp; done) | (simp [*]; done) | (simp; generalize ByteArray.toList _ = l_; cases l_ <;> rfl)), H', ⟨by have := HJ1.out; first | omega | exact Nat.le_refl _⟩, by repeat (first | exact Drawn0.refl _ | apply Drawn0.step)⟩
                case rest =>
                  clear HC12
                  try clear c1
                  try clear c2
                  try clear p2
                  try clear c3
                  try clear c3b0
                  try clear c4
                  try clear c4b0
                  try clear c4b1
                  try clear c5
                  try clear c5b0
                  try clear c5b1
                  try clear c7
                  try clear c8
                  try clear c8b0
                  try clear c8b1
                  try clear c9
                  try clear c9b0
                  try clear c9b1
                  try clear c11
                  try clear c11b0
                  try clear c11b1
                  try clear c14
                  try clear p2
                  obtain ⟨kq, x39_11, rfl, HA, HJ11, ⟨mc11, rfl⟩⟩ := hcut
                  cases kq with
                  | zero => exact absurd HA.out (by simp [motleyref27_Parse.j1])
                  | succ kj11 =>
                    have H := HA.out
                    clear HA
                    simp only [motleyref27_Parse.j1] at H
                    by_cases c16 : x39_11 = true
                    · subst c16
                      have H1 : (if 1 ≤ 3 then (if 3 ≤ (z6.size : Int) then ((motleyref27_digits.f kj11 (z6.extract 1 3)).bind fun t114 => (if 4 ≤ 6 then (if 6 ≤ (z6.size : Int) then ((motleyref27_digits.f kj11 (z6.extract 4 6)).bind fun t115 => (if t114 > 23 then (motleyref27_Parse.j2 kj11 a0 z6 t114 t115 true) else (motleyref27_Parse.j2 kj11 a0 z6 t114 t115 (decide (t115 > 59))))) else (none)) else (none))) else (none)) else (none)) = some (r1, r2) := by rw [if_pos rfl] at H; exact H
                      clear H
                      have H := H1
                      clear H1
                      by_cases c17 : 1 ≤ 3
                      · rw [if_pos c17] at H
                        have c17b0 := eq_true c17
                        have c17b1 : decide (1 ≤ 3) = true := decide_eq_true c17
                        clear c17
                        by_cases c18 : 3 ≤ (z6.size : Int)
                        · rw [if_pos c18] at H
                          have c18b0 := eq_true c18
                          have c18b1 : decide (3 ≤ (z6.size : Int)) = true := decide_eq_true c18
                          clear c18
                          replace H := Option.bind_eq_some_iff.mp H
                          obtain ⟨t114, A190, H⟩ := H
                          replace H : (if 4 ≤ 6 then (if 6 ≤ (z6.size : Int) then ((motleyref27_digits.f kj11 (z6.extract 4 6)).bind fun t115 => (if t114 > 23 then (motleyref27_Parse.j2 kj11 a0 z6 t114 t115 true) else (motleyref27_Parse.j2 kj11 a0 z6 t114 t115 (decide (t115 > 59))))) else (none)) else (none)) = some (r1, r2) := H
                          have A19 := Aside0.mk A190
                          clear A190
                          by_cases c20 : 4 ≤ 6
                          · rw [if_pos c20] at H
                            have c20b0 := eq_true c20
                            have c20b1 : decide (4 ≤ 6) = true := decide_eq_true c20
                            clear c20
                            by_cases c21 : 6 ≤ (z6.size : Int)
                            · rw [if_pos c21] at H
                              have c21b0 := eq_true c21
                              have c21b1 : decide (6 ≤ (z6.size : Int)) = true := decide_eq_true c21
                              clear c21
                              replace H := Option.bind_eq_some_iff.mp H
                              obtain ⟨t115, A220, H⟩ := H
                              replace H : (if t114 > 23 then (motleyref27_Parse.j2 kj11 a0 z6 t114 t115 true) else (motleyref27_Parse.j2 kj11 a0 z6 t114 t115 (decide (t115 > 59)))) = some (r1, r2) := H
                              have A22 := Aside0.mk A220
                              clear A220
                              have HC23 := Aside0.mk H
                              clear H
                              go_upto_region 10 with (first | (go_at_call 54; (with_reducible refine (motleyref27_digits.calls kj11 (z6.extract 1 3) t114 _ A19.out).mono ?_); rintro e w' ⟨rfl, ⟨nd, rfl⟩⟩; (try first | exact ⟨rfl, _, World.drewN_drewN _ _ _⟩ | exact ⟨rfl, _, Eq.trans (World.drewN_drewN _ _ _) (congrArg (World.drewN _) (Nat.add_assoc _ _ _))⟩)) | (go_at_call 54; (with_reducible refine (motleyref27_digits.calls kj11 (z6.extract 4 6) t115 _ A22.out).mono ?_); rintro e w' ⟨rfl, ⟨nd, rfl⟩⟩; (try first | exact ⟨rfl, _, World.drewN_drewN _ _ _⟩ | exact ⟨rfl, _, Eq.trans (World.drewN_drewN _ _ _) (congrArg (World.drewN _) (Nat.add_assoc _ _ _))⟩)))
                              repeat (go_quiet (first | (go_at_call 54; (with_reducible refine (motleyref27_digits.calls kj11 (z6.extract 1 3) t114 _ A19.out).mono ?_); rintro e w' ⟨rfl, ⟨nd, rfl⟩⟩; (try first | exact ⟨rfl, _, World.drewN_drewN _ _ _⟩ | exact ⟨rfl, _, Eq.trans (World.drewN_drewN _ _ _) (congrArg (World.drewN _) (Nat.add_assoc _ _ _))⟩)) | (go_at_call 54; (with_reducible refine (motleyref27_digits.calls kj11 (z6.extract 4 6) t115 _ A22.out).mono ?_); rintro e w' ⟨rfl, ⟨nd, rfl⟩⟩; (try first | exact ⟨rfl, _, World.drewN_drewN _ _ _⟩ | exact ⟨rfl, _, Eq.trans (World.drewN_drewN _ _ _) (congrArg (World.drewN _) (Nat.add_assoc _ _ _))⟩))); go_upto_region 10 with (first | (go_at_call 54; (with_reducible refine (motleyref27_digits.calls kj11 (z6.extract 1 3) t114 _ A19.out).mono ?_); rintro e w' ⟨rfl, ⟨nd, rfl⟩⟩; (try first | exact ⟨rfl, _, World.drewN_drewN _ _ _⟩ | exact ⟨rfl, _, Eq.trans (World.drewN_drewN _ _ _) (congrArg (World.drewN _) (Nat.add_assoc _ _ _))⟩)) | (go_at_call 54; (with_reducible refine (motleyref27_digits.calls kj11 (z6.extract 4 6) t115 _ A22.out).mono ?_); rintro e w' ⟨rfl, ⟨nd, rfl⟩⟩; (try first | exact ⟨rfl, _, World.drewN_drewN _ _ _⟩ | exact ⟨rfl, _, Eq.trans (World.drewN_drewN _ _ _) (congrArg (World.drewN _) (Nat.add_assoc _ _ _))⟩))))
                              (try simp only [Act.put, List.setIfInBounds_toArray, List.set_cons_zero, List.set_cons_succ])
                              go_cut [57] (fun v57 wc => ∃ (kq : Nat) (x57_22 : Bool), v57 = .bool x57_22 ∧ Aside0 (motleyref27_Parse.j2 kq a0 z6 t114 t115 x57_22 = some (r1, r2)) ∧ Aside0 (kq ≤ kj11) ∧ Drawn0 w wc)
                              case first =>
                                have H := HC23.out
                                clear HC23
                                by_cases c24 : t114 > 23
                                · rw [if_pos c24] at H
                                  have c24b0 : decide (23 < t114) = true := decide_eq_true c24
                                  clear c24
                                  (first | rw [c24b0] | (simp only [i64_w, i32_w]; rw [c24b0]) | skip)
                                  have H' := Aside0.mk H
                                  clear H
                                  go_wp2
                                  repeat (go_quiet (fail); try go_wp2)
                                  go_meet
                                  case rel => exact ⟨_, (true), (by first | rfl | (simp; done) | (simp [*]; done) | (simp; generalize ByteArray.toList _ = l_; cases l_ <;> rfl)), H', ⟨by have := HJ1.out; have := HJ11.out; first | omega | exact Nat.le_refl _⟩, by repeat (first | exact Drawn0.refl _ | apply Drawn0.step)⟩
                                · rw [if_neg c24] at H
                                  have c24b0 : decide (23 < t114) = false := decide_eq_false c24
                                  clear c24
                                  (first | rw [c24b0] | (simp only [i64_w, i32_w]; rw [c24b0]) | skip)
                                  have H' := Aside0.mk H
                                  clear H
                                  go_wp2
                                  repeat (go_quiet (fail); try go_wp2)
                                  go_meet
                                  case rel => exact ⟨_, (decide (t115 > 59)), (by first | rfl | (simp; done) | (simp [*]; done) | (simp; generalize ByteArray.toList _ = l_; cases l_ <;> rfl)), H', ⟨by have := HJ1.out; have := HJ11.out; first | omega | exact Nat.le_refl _⟩, by repeat (first | exact Drawn0.refl _ | apply Drawn0.step)⟩
                              case rest =>
                                clear HC23
                                try clear c1
                                try clear c2
                                try clear p2
                                try clear c3
                                try clear c3b0
                                try clear c4
                                try clear c4b0
                                try clear c4b1
                                try clear c5
                                try clear c5b0
                                try clear c5b1
                                try clear c7
                                try clear c8
                                try clear c8b0
                                try clear c8b1
                                try clear c9
                                try clear c9b0
                                try clear c9b1
                                try clear c11
                                try clear c11b0
                                try clear c11b1
                                try clear c14
                                try clear c16
                                try clear c17
                                try clear c17b0
                                try clear c17b1
                                try clear c18
                                try clear c18b0
                                try clear c18b1
                                try clear c20
                                try clear c20b0
                                try clear c20b1
                                try clear c21
                                try clear c21b0
                                try clear c21b1
                                try clear c23
                                try clear c24
                                try clear c24b0
                                try clear p2
                                obtain ⟨kq, x57_22, rfl, HA, HJ22, ⟨mc22, rfl⟩⟩ := hcut
                                cases kq with
                                | zero => exact absurd HA.out (by simp [motleyref27_Parse.j2])
                                | succ kj22 =>
                                  have H := HA.out
                                  clear HA
                                  simp only [motleyref27_Parse.j2] at H
                                  by_cases c25 : x57_22 = true
                                  · subst c25
                                    have H1 : (some (0, 2)) = some (r1, r2) := by rw [if_pos rfl] at H; exact H
                                    clear H
                                    have H := H1
                                    clear H1
                                    simp only [Option.some.injEq, Prod.mk.injEq] at H
                                    obtain ⟨rfl, rfl⟩ := H
                                    go_wp2
                                    repeat (go_quiet (fail); try go_wp2)
                                    go_ret2
                                    exact ⟨by first | rfl | (simp; done) | (simp [*]; done) | (simp; generalize ByteArray.toList _ = l_; cases l_ <;> rfl), by repeat (first | exact Drawn0.refl _ | apply Drawn0.step)⟩
                                  · replace c25 := Bool.eq_false_iff.mpr c25
                                    subst c25
                                    have H1 : (if 0 < (z6.size : Int) then (if (bt z6 0) = 45 then (motleyref27_Parse.j3 kj22 a0 (wrap64 (-(wrap64 ((wrap64 (3600 * t114)) + (wrap64 (60 * t115))))))) else (motleyref27_Parse.j3 kj22 a0 (wrap64 ((wrap64 (3600 * t114)) + (wrap64 (60 * t115)))))) else (none)) = some (r1, r2) := by rw [if_neg (show ¬ (false = true) by decide)] at H; exact H
                                    clear H
                                    have H := H1
                                    clear H1
                                    by_cases c26 : 0 < (z6.size : Int)
                                    · rw [if_pos c26] at H
                                      have c26b0 : decide (0 < (z6.size : Int)) = true := decide_eq_true c26
                                      have c26b1 : decide (0 < z6.size) = true := decide_eq_true (by omega)
                                      clear c26
                                      by_cases c28 : (bt z6 0) = 45
                                      · rw [if_pos c28] at H
                                        have c28b0 : ((bt z6 0) == 45) = true := beq_iff_eq.mpr c28
                                        have c28b1 : ((bt z6 0) != 45) = false := bne_eq_false_iff_eq.mpr c28
                                        clear c28
                                        have H' := Aside0.mk H
                                        clear H
                                        have p27 : 0 ≤ (0 : Int) := (by omega)
                                        have q27 : 0 < z6.size := (by have : (0 : Int) < (z6.size : Int) := of_decide_eq_true (by first | (with_reducible assumption) | assumption); omega)
                                        have hx27 : ∀ h : 0 < z6.size, ((z6[0]'h).toNat : Int) = bt z6 0 := bt_at z6 0
                                        clear p27
                                        have qi27 : (0 < (z6.size : Int)) = True := eq_true (of_decide_eq_true (by first | (with_reducible assumption) | assumption))
                                        replace q27 := eq_true q27
                                        go_wp2
                                        repeat (go_quiet (fail); try go_wp2)
                                        go_meet
                                        case rel => exact ⟨_, (wrap64 (-(wrap64 ((wrap64 (3600 * t114)) + (wrap64 (60 * t115)))))), (by first | rfl | (simp; done) | (simp [*]; done) | (simp; generalize ByteArray.toList _ = l_; cases l_ <;> rfl)), H', ⟨by have := HJ1.out; have := HJ11.out; have := HJ22.out; first | omega | exact Nat.le_refl _⟩, by repeat (first | exact Drawn0.refl _ | apply Drawn0.step)⟩
                                      · rw [if_neg c28] at H
                                        have c28b0 : ((bt z6 0) == 45) = false := beq_eq_false_iff_ne.mpr c28
                                        have c28b1 : ((bt z6 0) != 45) = true := bne_iff_ne.mpr c28
                                        have H' := Aside0.mk H
                                        clear H
                                        have p27 : 0 ≤ (0 : Int) := (by omega)
                                        have q27 : 0 < z6.size := (by have : (0 : Int) < (z6.size : Int) := of_decide_eq_true (by first | (with_reducible assumption) | assumption); omega)
                                        have hx27 : ∀ h : 0 < z6.size, ((z6[0]'h).toNat : Int) = bt z6 0 := bt_at z6 0
                                        clear p27
                                        have qi27 : (0 < (z6.size : Int)) = True := eq_true (of_decide_eq_true (by first | (with_reducible assumption) | assumption))
                                        replace q27 := eq_true q27
                                        go_wp2
                                        repeat (go_quiet (fail); try go_wp2)
                                        go_meet
                                        case rel => exact ⟨_, (wrap64 ((wrap64 (3600 * t114)) + (wrap64 (60 * t115)))), (by first | rfl | (simp; done) | (simp [*]; done) | (simp; generalize ByteArray.toList _ = l_; cases l_ <;> rfl)), H', ⟨by have := HJ1.out; have := HJ11.out; have := HJ22.out; first | omega | exact Nat.le_refl _⟩, by repeat (first | exact Drawn0.refl _ | apply Drawn0.step)⟩
                                    · rw [if_neg c26] at H
                                      exact absurd H (by simp)
                            · rw [if_neg c21] at H
                              exact absurd H (by simp)
                          · rw [if_neg c20] at H
                            exact absurd H (by simp)
                        · rw [if_neg c18] at H
                          exact absurd H (by simp)
                      · rw [if_neg c17] at H
                        exact absurd H (by simp)
                    · replace c16 := Bool.eq_false_iff.mpr c16
                      subst c16
                      have H1 : (some (0, 2)) = some (r1, r2) := by rw [if_neg (show ¬ (false = true) by decide)] at H; exact H
                      clear H
                      have H := H1
                      clear H1
                      simp only [Option.some.injEq, Prod.mk.injEq] at H
                      obtain ⟨rfl, rfl⟩ := H
                      go_wp2
                      repeat (go_quiet (fail); try go_wp2)
                      go_ret2
                      exact ⟨by first | rfl | (simp; done) | (simp [*]; done) | (simp; generalize ByteArray.toList _ = l_; cases l_ <;> rfl), by repeat (first | exact Drawn0.refl _ | apply Drawn0.step)⟩
            case rest =>
              clear HC10
              try clear c1
              try clear c2
              try clear p2
              try clear q2
              try clear hx2
              try clear qi2
              try clear c3
              try clear c3b0
              try clear c4
              try clear c4b0
              try clear c4b1
              try clear c5
              try clear c5b0
              try clear c5b1
              try clear p6
              try clear c7
              try clear c8
              try clear c8b0
              try clear c8b1
              try clear c9
              try clear c9b0
              try clear c9b1
              try clear c11
              try clear c11b0
              try clear c11b1
              try clear c14
              try clear c16
              try clear c17
              try clear c17b0
              try clear c17b1
              try clear c18
              try clear c18b0
              try clear c18b1
              try clear c20
              try clear c20b0
              try clear c20b1
              try clear c21
              try clear c21b0
              try clear c21b1
              try clear c22
              try clear c23
              try clear c24
              try clear c24b0
              try clear c25
              try clear c26
              try clear c26b0
              try clear c26b1
              try clear p27
              try clear q27
              try clear hx27
              try clear qi27
              try clear c28
              try clear c28b0
              try clear c28b1
              try clear p2
              try clear p27
              try clear q27
              obtain ⟨kq, x5_9, rfl, HA, HJ9, ⟨mc9, rfl⟩⟩ := hcut
              cases kq with
              | zero => exact absurd HA.out (by simp [motleyref27_Parse.j3])
              | succ kj9 =>
                have H := HA.out
                clear HA
                simp only [motleyref27_Parse.j3] at H
                by_cases c29 : 0 ≤ 4
                · rw [if_pos c29] at H
                  have c29b0 := eq_true c29
                  have c29b1 : decide (0 ≤ 4) = true := decide_eq_true c29
                  clear c29
                  by_cases c30 : 4 ≤ (a0.size : Int)
                  · rw [if_pos c30] at H
                    have c30b0 := eq_true c30
                    have c30b1 : decide (4 ≤ (a0.size : Int)) = true := decide_eq_true c30
                    clear c30
                    replace H := Option.bind_eq_some_iff.mp H
                    obtain ⟨t116, A310, H⟩ := H
                    replace H : (if 5 ≤ 7 then (if 7 ≤ (a0.size : Int) then ((motleyref27_digits.f kj9 (a0.extract 5 7)).bind fun t117 => (if 8 ≤ 10 then (if 10 ≤ (a0.size : Int) then ((motleyref27_digits.f kj9 (a0.extract 8 10)).bind fun t118 => ((motleyref27_Days.f kj9 t116 t117 t118).bind fun bt119 => (if 11 ≤ 13 then (if 13 ≤ (a0.size : Int) then ((motleyref27_digits.f kj9 (a0.extract 11 13)).bind fun t121 => (if 14 ≤ 16 then (if 16 ≤ (a0.size : Int) then ((motleyref27_digits.f kj9 (a0.extract 14 16)).bind fun t122 => (if 17 ≤ 19 then (if 19 ≤ (a0.size : Int) then ((motleyref27_digits.f kj9 (a0.extract 17 19)).bind fun t123 => (if bt119.2 = 0 then (if t121 > 23 then (motleyref27_Parse.j4 kj9 x5_9 bt119.1 t121 t122 t123 true) else (if t122 > 59 then (motleyref27_Parse.j4 kj9 x5_9 bt119.1 t121 t122 t123 true) else (motleyref27_Parse.j4 kj9 x5_9 bt119.1 t121 t122 t123 (decide (t123 > 59))))) else (motleyref27_Parse.j4 kj9 x5_9 bt119.1 t121 t122 t123 true))) else (none)) else (none))) else (none)) else (none))) else (none)) else (none)))) else (none)) else (none))) else (none)) else (none)) = some (r1, r2) := H
                    have A31 := Aside0.mk A310
                    clear A310
                    by_cases c32 : 5 ≤ 7
                    · rw [if_pos c32] at H
                      have c32b0 := eq_true c32
                      have c32b1 : decide (5 ≤ 7) = true := decide_eq_true c32
                      clear c32
                      by_cases c33 : 7 ≤ (a0.size : Int)
                      · rw [if_pos c33] at H
                        have c33b0 := eq_true c33
                        have c33b1 : decide (7 ≤ (a0.size : Int)) = true := decide_eq_true c33
                        clear c33
                        replace H := Option.bind_eq_some_iff.mp H
                        obtain ⟨t117, A340, H⟩ := H
                        replace H : (if 8 ≤ 10 then (if 10 ≤ (a0.size : Int) then ((motleyref27_digits.f kj9 (a0.extract 8 10)).bind fun t118 => ((motleyref27_Days.f kj9 t116 t117 t118).bind fun bt119 => (if 11 ≤ 13 then (if 13 ≤ (a0.size : Int) then ((motleyref27_digits.f kj9 (a0.extract 11 13)).bind fun t121 => (if 14 ≤ 16 then (if 16 ≤ (a0.size : Int) then ((motleyref27_digits.f kj9 (a0.extract 14 16)).bind fun t122 => (if 17 ≤ 19 then (if 19 ≤ (a0.size : Int) then ((motleyref27_digits.f kj9 (a0.extract 17 19)).bind fun t123 => (if bt119.2 = 0 then (if t121 > 23 then (motleyref27_Parse.j4 kj9 x5_9 bt119.1 t121 t122 t123 true) else (if t122 > 59 then (motleyref27_Parse.j4 kj9 x5_9 bt119.1 t121 t122 t123 true) else (motleyref27_Parse.j4 kj9 x5_9 bt119.1 t121 t122 t123 (decide (t123 > 59))))) else (motleyref27_Parse.j4 kj9 x5_9 bt119.1 t121 t122 t123 true))) else (none)) else (none))) else (none)) else (none))) else (none)) else (none)))) else (none)) else (none)) = some (r1, r2) := H
                        have A34 := Aside0.mk A340
                        clear A340
                        by_cases c35 : 8 ≤ 10
                        · rw [if_pos c35] at H
                          have c35b0 := eq_true c35
                          have c35b1 : decide (8 ≤ 10) = true := decide_eq_true c35
                          clear c35
                          by_cases c36 : 10 ≤ (a0.size : Int)
                          · rw [if_pos c36] at H
                            have c36b0 := eq_true c36
                            have c36b1 : decide (10 ≤ (a0.size : Int)) = true := decide_eq_true c36
                            clear c36
                            replace H := Option.bind_eq_some_iff.mp H
                            obtain ⟨t118, A370, H⟩ := H
                            replace H : ((motleyref27_Days.f kj9 t116 t117 t118).bind fun bt119 => (if 11 ≤ 13 then (if 13 ≤ (a0.size : Int) then ((motleyref27_digits.f kj9 (a0.extract 11 13)).bind fun t121 => (if 14 ≤ 16 then (if 16 ≤ (a0.size : Int) then ((motleyref27_digits.f kj9 (a0.extract 14 16)).bind fun t122 => (if 17 ≤ 19 then (if 19 ≤ (a0.size : Int) then ((motleyref27_digits.f kj9 (a0.extract 17 19)).bind fun t123 => (if bt119.2 = 0 then (if t121 > 23 then (motleyref27_Parse.j4 kj9 x5_9 bt119.1 t121 t122 t123 true) else (if t122 > 59 then (motleyref27_Parse.j4 kj9 x5_9 bt119.1 t121 t122 t123 true) else (motleyref27_Parse.j4 kj9 x5_9 bt119.1 t121 t122 t123 (decide (t123 > 59))))) else (motleyref27_Parse.j4 kj9 x5_9 bt119.1 t121 t122 t123 true))) else (none)) else (none))) else (none)) else (none))) else (none)) else (none))) = some (r1, r2) := H
                            have A37 := Aside0.mk A370
                            clear A370
                            replace H := Option.bind_eq_some_iff.mp H
                            obtain ⟨⟨t119, t120⟩, A380, H⟩ := H
                            replace H : (if 11 ≤ 13 then (if 13 ≤ (a0.size : Int) then ((motleyref27_digits.f kj9 (a0.extract 11 13)).bind fun t121 => (if 14 ≤ 16 then (if 16 ≤ (a0.size : Int) then ((motleyref27_digits.f kj9 (a0.extract 14 16)).bind fun t122 => (if 17 ≤ 19 then (if 19 ≤ (a0.size : Int) then ((motleyref27_digits.f kj9 (a0.extract 17 19)).bind fun t123 => (if t120 = 0 then (if t121 > 23 then (motleyref27_Parse.j4 kj9 x5_9 t119 t121 t122 t123 true) else (if t122 > 59 then (motleyref27_Parse.j4 kj9 x5_9 t119 t121 t122 t123 true) else (motleyref27_Parse.j4 kj9 x5_9 t119 t121 t122 t123 (decide (t123 > 59))))) else (motleyref27_Parse.j4 kj9 x5_9 t119 t121 t122 t123 true))) else (none)) else (none))) else (none)) else (none))) else (none)) else (none)) = some (r1, r2) := H
                            have A38 := Aside0.mk A380
                            clear A380
                            by_cases c39 : 11 ≤ 13
                            · rw [if_pos c39] at H
                              have c39b0 := eq_true c39
                              have c39b1 : decide (11 ≤ 13) = true := decide_eq_true c39
                              clear c39
                              by_cases c40 : 13 ≤ (a0.size : Int)
                              · rw [if_pos c40] at H
                                have c40b0 := eq_true c40
                                have c40b1 : decide (13 ≤ (a0.size : Int)) = true := decide_eq_true c40
                                clear c40
                                replace H := Option.bind_eq_some_iff.mp H
                                obtain ⟨t121, A410, H⟩ := H
                                replace H : (if 14 ≤ 16 then (if 16 ≤ (a0.size : Int) then ((motleyref27_digits.f kj9 (a0.extract 14 16)).bind fun t122 => (if 17 ≤ 19 then (if 19 ≤ (a0.size : Int) then ((motleyref27_digits.f kj9 (a0.extract 17 19)).bind fun t123 => (if t120 = 0 then (if t121 > 23 then (motleyref27_Parse.j4 kj9 x5_9 t119 t121 t122 t123 true) else (if t122 > 59 then (motleyref27_Parse.j4 kj9 x5_9 t119 t121 t122 t123 true) else (motleyref27_Parse.j4 kj9 x5_9 t119 t121 t122 t123 (decide (t123 > 59))))) else (motleyref27_Parse.j4 kj9 x5_9 t119 t121 t122 t123 true))) else (none)) else (none))) else (none)) else (none)) = some (r1, r2) := H
                                have A41 := Aside0.mk A410
                                clear A410
                                by_cases c42 : 14 ≤ 16
                                · rw [if_pos c42] at H
                                  have c42b0 := eq_true c42
                                  have c42b1 : decide (14 ≤ 16) = true := decide_eq_true c42
                                  clear c42
                                  by_cases c43 : 16 ≤ (a0.size : Int)
                                  · rw [if_pos c43] at H
                                    have c43b0 := eq_true c43
                                    have c43b1 : decide (16 ≤ (a0.size : Int)) = true := decide_eq_true c43
                                    clear c43
                                    replace H := Option.bind_eq_some_iff.mp H
                                    obtain ⟨t122, A440, H⟩ := H
                                    replace H : (if 17 ≤ 19 then (if 19 ≤ (a0.size : Int) then ((motleyref27_digits.f kj9 (a0.extract 17 19)).bind fun t123 => (if t120 = 0 then (if t121 > 23 then (motleyref27_Parse.j4 kj9 x5_9 t119 t121 t122 t123 true) else (if t122 > 59 then (motleyref27_Parse.j4 kj9 x5_9 t119 t121 t122 t123 true) else (motleyref27_Parse.j4 kj9 x5_9 t119 t121 t122 t123 (decide (t123 > 59))))) else (motleyref27_Parse.j4 kj9 x5_9 t119 t121 t122 t123 true))) else (none)) else (none)) = some (r1, r2) := H
                                    have A44 := Aside0.mk A440
                                    clear A440
                                    by_cases c45 : 17 ≤ 19
                                    · rw [if_pos c45] at H
                                      have c45b0 := eq_true c45
                                      have c45b1 : decide (17 ≤ 19) = true := decide_eq_true c45
                                      clear c45
                                      by_cases c46 : 19 ≤ (a0.size : Int)
                                      · rw [if_pos c46] at H
                                        have c46b0 := eq_true c46
                                        have c46b1 : decide (19 ≤ (a0.size : Int)) = true := decide_eq_true c46
                                        clear c46
                                        replace H := Option.bind_eq_some_iff.mp H
                                        obtain ⟨t123, A470, H⟩ := H
                                        replace H : (if t120 = 0 then (if t121 > 23 then (motleyref27_Parse.j4 kj9 x5_9 t119 t121 t122 t123 true) else (if t122 > 59 then (motleyref27_Parse.j4 kj9 x5_9 t119 t121 t122 t123 true) else (motleyref27_Parse.j4 kj9 x5_9 t119 t121 t122 t123 (decide (t123 > 59))))) else (motleyref27_Parse.j4 kj9 x5_9 t119 t121 t122 t123 true)) = some (r1, r2) := H
                                        have A47 := Aside0.mk A470
                                        clear A470
                                        have HC48 := Aside0.mk H
                                        clear H
                                        go_upto_region 17 with (first | (go_at_call 54; (with_reducible refine (motleyref27_digits.calls kj9 (a0.extract 0 4) t116 _ A31.out).mono ?_); rintro e w' ⟨rfl, ⟨nd, rfl⟩⟩; (try first | exact ⟨rfl, _, World.drewN_drewN _ _ _⟩ | exact ⟨rfl, _, Eq.trans (World.drewN_drewN _ _ _) (congrArg (World.drewN _) (Nat.add_assoc _ _ _))⟩)) | (go_at_call 54; (with_reducible refine (motleyref27_digits.calls kj9 (a0.extract 5 7) t117 _ A34.out).mono ?_); rintro e w' ⟨rfl, ⟨nd, rfl⟩⟩; (try first | exact ⟨rfl, _, World.drewN_drewN _ _ _⟩ | exact ⟨rfl, _, Eq.trans (World.drewN_drewN _ _ _) (congrArg (World.drewN _) (Nat.add_assoc _ _ _))⟩)) | (go_at_call 54; (with_reducible refine (motleyref27_digits.calls kj9 (a0.extract 8 10) t118 _ A37.out).mono ?_); rintro e w' ⟨rfl, ⟨nd, rfl⟩⟩; (try first | exact ⟨rfl, _, World.drewN_drewN _ _ _⟩ | exact ⟨rfl, _, Eq.trans (World.drewN_drewN _ _ _) (congrArg (World.drewN _) (Nat.add_assoc _ _ _))⟩)) | (go_at_call 10; (with_reducible refine (motleyref27_Days.calls kj9 t116 t117 t118 t119 t120 _ A38.out).mono ?_); rintro e w' ⟨rfl, ⟨nd, rfl⟩⟩; (try first | exact ⟨rfl, _, World.drewN_drewN _ _ _⟩ | exact ⟨rfl, _, Eq.trans (World.drewN_drewN _ _ _) (congrArg (World.drewN _) (Nat.add_assoc _ _ _))⟩)) | (go_at_call 54; (with_reducible refine (motleyref27_digits.calls kj9 (a0.extract 11 13) t121 _ A41.out).mono ?_); rintro e w' ⟨rfl, ⟨nd, rfl⟩⟩; (try first | exact ⟨rfl, _, World.drewN_drewN _ _ _⟩ | exact ⟨rfl, _, Eq.trans (World.drewN_drewN _ _ _) (congrArg (World.drewN _) (Nat.add_assoc _ _ _))⟩)) | (go_at_call 54; (with_reducible refine (motleyref27_digits.calls kj9 (a0.extract 14 16) t122 _ A44.out).mono ?_); rintro e w' ⟨rfl, ⟨nd, rfl⟩⟩; (try first | exact ⟨rfl, _, World.drewN_drewN _ _ _⟩ | exact ⟨rfl, _, Eq.trans (World.drewN_drewN _ _ _) (congrArg (World.drewN _) (Nat.add_assoc _ _ _))⟩)) | (go_at_call 54; (with_reducible refine (motleyref27_digits.calls kj9 (a0.extract 17 19) t123 _ A47.out).mono ?_); rintro e w' ⟨rfl, ⟨nd, rfl⟩⟩; (try first | exact ⟨rfl, _, World.drewN_drewN _ _ _⟩ | exact ⟨rfl, _, Eq.trans (World.drewN_drewN _ _ _) (congrArg (World.drewN _) (Nat.add_assoc _ _ _))⟩)))
                                        repeat (go_quiet (first | (go_at_call 54; (with_reducible refine (motleyref27_digits.calls kj9 (a0.extract 0 4) t116 _ A31.out).mono ?_); rintro e w' ⟨rfl, ⟨nd, rfl⟩⟩; (try first | exact ⟨rfl, _, World.drewN_drewN _ _ _⟩ | exact ⟨rfl, _, Eq.trans (World.drewN_drewN _ _ _) (congrArg (World.drewN _) (Nat.add_assoc _ _ _))⟩)) | (go_at_call 54; (with_reducible refine (motleyref27_digits.calls kj9 (a0.extract 5 7) t117 _ A34.out).mono ?_); rintro e w' ⟨rfl, ⟨nd, rfl⟩⟩; (try first | exact ⟨rfl, _, World.drewN_drewN _ _ _⟩ | exact ⟨rfl, _, Eq.trans (World.drewN_drewN _ _ _) (congrArg (World.drewN _) (Nat.add_assoc _ _ _))⟩)) | (go_at_call 54; (with_reducible refine (motleyref27_digits.calls kj9 (a0.extract 8 10) t118 _ A37.out).mono ?_); rintro e w' ⟨rfl, ⟨nd, rfl⟩⟩; (try first | exact ⟨rfl, _, World.drewN_drewN _ _ _⟩ | exact ⟨rfl, _, Eq.trans (World.drewN_drewN _ _ _) (congrArg (World.drewN _) (Nat.add_assoc _ _ _))⟩)) | (go_at_call 10; (with_reducible refine (motleyref27_Days.calls kj9 t116 t117 t118 t119 t120 _ A38.out).mono ?_); rintro e w' ⟨rfl, ⟨nd, rfl⟩⟩; (try first | exact ⟨rfl, _, World.drewN_drewN _ _ _⟩ | exact ⟨rfl, _, Eq.trans (World.drewN_drewN _ _ _) (congrArg (World.drewN _) (Nat.add_assoc _ _ _))⟩)) | (go_at_call 54; (with_reducible refine (motleyref27_digits.calls kj9 (a0.extract 11 13) t121 _ A41.out).mono ?_); rintro e w' ⟨rfl, ⟨nd, rfl⟩⟩; (try first | exact ⟨rfl, _, World.drewN_drewN _ _ _⟩ | exact ⟨rfl, _, Eq.trans (World.drewN_drewN _ _ _) (congrArg (World.drewN _) (Nat.add_assoc _ _ _))⟩)) | (go_at_call 54; (with_reducible refine (motleyref27_digits.calls kj9 (a0.extract 14 16) t122 _ A44.out).mono ?_); rintro e w' ⟨rfl, ⟨nd, rfl⟩⟩; (try first | exact ⟨rfl, _, World.drewN_drewN _ _ _⟩ | exact ⟨rfl, _, Eq.trans (World.drewN_drewN _ _ _) (congrArg (World.drewN _) (Nat.add_assoc _ _ _))⟩)) | (go_at_call 54; (with_reducible refine (motleyref27_digits.calls kj9 (a0.extract 17 19) t123 _ A47.out).mono ?_); rintro e w' ⟨rfl, ⟨nd, rfl⟩⟩; (try first | exact ⟨rfl, _, World.drewN_drewN _ _ _⟩ | exact ⟨rfl, _, Eq.trans (World.drewN_drewN _ _ _) (congrArg (World.drewN _) (Nat.add_assoc _ _ _))⟩))); go_upto_region 17 with (first | (go_at_call 54; (with_reducible refine (motleyref27_digits.calls kj9 (a0.extract 0 4) t116 _ A31.out).mono ?_); rintro e w' ⟨rfl, ⟨nd, rfl⟩⟩; (try first | exact ⟨rfl, _, World.drewN_drewN _ _ _⟩ | exact ⟨rfl, _, Eq.trans (World.drewN_drewN _ _ _) (congrArg (World.drewN _) (Nat.add_assoc _ _ _))⟩)) | (go_at_call 54; (with_reducible refine (motleyref27_digits.calls kj9 (a0.extract 5 7) t117 _ A34.out).mono ?_); rintro e w' ⟨rfl, ⟨nd, rfl⟩⟩; (try first | exact ⟨rfl, _, World.drewN_drewN _ _ _⟩ | exact ⟨rfl, _, Eq.trans (World.drewN_drewN _ _ _) (congrArg (World.drewN _) (Nat.add_assoc _ _ _))⟩)) | (go_at_call 54; (with_reducible refine (motleyref27_digits.calls kj9 (a0.extract 8 10) t118 _ A37.out).mono ?_); rintro e w' ⟨rfl, ⟨nd, rfl⟩⟩; (try first | exact ⟨rfl, _, World.drewN_drewN _ _ _⟩ | exact ⟨rfl, _, Eq.trans (World.drewN_drewN _ _ _) (congrArg (World.drewN _) (Nat.add_assoc _ _ _))⟩)) | (go_at_call 10; (with_reducible refine (motleyref27_Days.calls kj9 t116 t117 t118 t119 t120 _ A38.out).mono ?_); rintro e w' ⟨rfl, ⟨nd, rfl⟩⟩; (try first | exact ⟨rfl, _, World.drewN_drewN _ _ _⟩ | exact ⟨rfl, _, Eq.trans (World.drewN_drewN _ _ _) (congrArg (World.drewN _) (Nat.add_assoc _ _ _))⟩)) | (go_at_call 54; (with_reducible refine (motleyref27_digits.calls kj9 (a0.extract 11 13) t121 _ A41.out).mono ?_); rintro e w' ⟨rfl, ⟨nd, rfl⟩⟩; (try first | exact ⟨rfl, _, World.drewN_drewN _ _ _⟩ | exact ⟨rfl, _, Eq.trans (World.drewN_drewN _ _ _) (congrArg (World.drewN _) (Nat.add_assoc _ _ _))⟩)) | (go_at_call 54; (with_reducible refine (motleyref27_digits.calls kj9 (a0.extract 14 16) t122 _ A44.out).mono ?_); rintro e w' ⟨rfl, ⟨nd, rfl⟩⟩; (try first | exact ⟨rfl, _, World.drewN_drewN _ _ _⟩ | exact ⟨rfl, _, Eq.trans (World.drewN_drewN _ _ _) (congrArg (World.drewN _) (Nat.add_assoc _ _ _))⟩)) | (go_at_call 54; (with_reducible refine (motleyref27_digits.calls kj9 (a0.extract 17 19) t123 _ A47.out).mono ?_); rintro e w' ⟨rfl, ⟨nd, rfl⟩⟩; (try first | exact ⟨rfl, _, World.drewN_drewN _ _ _⟩ | exact ⟨rfl, _, Eq.trans (World.drewN_drewN _ _ _) (congrArg (World.drewN _) (Nat.add_assoc _ _ _))⟩))))
                                        (try simp only [Act.put, List.setIfInBounds_toArray, List.set_cons_zero, List.set_cons_succ])
                                        go_cut [103] (fun v103 wc => ∃ (kq : Nat) (x103_47 : Bool), v103 = .bool x103_47 ∧ Aside0 (motleyref27_Parse.j4 kq x5_9 t119 t121 t122 t123 x103_47 = some (r1, r2)) ∧ Aside0 (kq ≤ kj9) ∧ Drawn0 w wc)
                                        case first =>
                                          have H := HC48.out
                                          clear HC48
                                          by_cases c49 : t120 = 0
                                          · rw [if_pos c49] at H
                                            have c49b0 : (t120 == 0) = true := beq_iff_eq.mpr c49
                                            have c49b1 : (t120 != 0) = false := bne_eq_false_iff_eq.mpr c49
                                            clear c49
                                            (first | rw [c49b0] | (simp only [i64_w, i32_w]; rw [c49b0]) | skip)
                                            by_cases c50 : t121 > 23
                                            · rw [if_pos c50] at H
                                              have c50b0 : decide (23 < t121) = true := decide_eq_true c50
                                              clear c50
                                              have H' := Aside0.mk H
                                              clear H
                                              go_wp2
                                              repeat (go_quiet (fail); try go_wp2)
                                              go_meet
                                              case rel => exact ⟨_, (true), (by first | rfl | (simp; done) | (simp [*]; done) | (simp; generalize ByteArray.toList _ = l_; cases l_ <;> rfl)), H', ⟨by have := HJ1.out; have := HJ9.out; first | omega | exact Nat.le_refl _⟩, by repeat (first | exact Drawn0.refl _ | apply Drawn0.step)⟩
                                            · rw [if_neg c50] at H
                                              have c50b0 : decide (23 < t121) = false := decide_eq_false c50
                                              clear c50
                                              by_cases c51 : t122 > 59
                                              · rw [if_pos c51] at H
                                                have c51b0 : decide (59 < t122) = true := decide_eq_true c51
                                                clear c51
                                                have H' := Aside0.mk H
                                                clear H
                                                go_wp2
                                                repeat (go_quiet (fail); try go_wp2)
                                                go_meet
                                                case rel => exact ⟨_, (true), (by first | rfl | (simp; done) | (simp [*]; done) | (simp; generalize ByteArray.toList _ = l_; cases l_ <;> rfl)), H', ⟨by have := HJ1.out; have := HJ9.out; first | omega | exact Nat.le_refl _⟩, by repeat (first | exact Drawn0.refl _ | apply Drawn0.step)⟩
                                              · rw [if_neg c51] at H
                                                have c51b0 : decide (59 < t122) = false := decide_eq_false c51
                                                clear c51
                                                have H' := Aside0.mk H
                                                clear H
                                                go_wp2
                                                repeat (go_quiet (fail); try go_wp2)
                                                go_meet
                                                case rel => exact ⟨_, (decide (t123 > 59)), (by first | rfl | (simp; done) | (simp [*]; done) | (simp; generalize ByteArray.toList _ = l_; cases l_ <;> rfl)), H', ⟨by have := HJ1.out; have := HJ9.out; first | omega | exact Nat.le_refl _⟩, by repeat (first | exact Drawn0.refl _ | apply Drawn0.step)⟩
                                          · rw [if_neg c49] at H
                                            have c49b0 : (t120 == 0) = false := beq_eq_false_iff_ne.mpr c49
                                            have c49b1 : (t120 != 0) = true := bne_iff_ne.mpr c49
                                            (first | rw [c49b0] | (simp only [i64_w, i32_w]; rw [c49b0]) | skip)
                                            have H' := Aside0.mk H
                                            clear H
                                            go_wp2
                                            repeat (go_quiet (fail); try go_wp2)
                                            go_meet
                                            case rel => exact ⟨_, (true), (by first | rfl | (simp; done) | (simp [*]; done) | (simp; generalize ByteArray.toList _ = l_; cases l_ <;> rfl)), H', ⟨by have := HJ1.out; have := HJ9.out; first | omega | exact Nat.le_refl _⟩, by repeat (first | exact Drawn0.refl _ | apply Drawn0.step)⟩
                                        case rest =>
                                          clear HC48
                                          try clear c1
                                          try clear c2
                                          try clear p2
                                          try clear q2
                                          try clear hx2
                                          try clear qi2
                                          try clear c3
                                          try clear c3b0
                                          try clear c4
                                          try clear c4b0
                                          try clear c4b1
                                          try clear c5
                                          try clear c5b0
                                          try clear c5b1
                                          try clear p6
                                          try clear c7
                                          try clear c8
                                          try clear c8b0
                                          try clear c8b1
                                          try clear c9
                                          try clear c9b0
                                          try clear c9b1
                                          try clear c11
                                          try clear c11b0
                                          try clear c11b1
                                          try clear c14
                                          try clear c16
                                          try clear c17
                                          try clear c17b0
                                          try clear c17b1
                                          try clear c18
                                          try clear c18b0
                                          try clear c18b1
                                          try clear c20
                                          try clear c20b0
                                          try clear c20b1
                                          try clear c21
                                          try clear c21b0
                                          try clear c21b1
                                          try clear c22
                                          try clear c23
                                          try clear c24
                                          try clear c24b0
                                          try clear c25
                                          try clear c26
                                          try clear c26b0
                                          try clear c26b1
                                          try clear p27
                                          try clear q27
                                          try clear hx27
                                          try clear qi27
                                          try clear c28
                                          try clear c28b0
                                          try clear c28b1
                                          try clear c29
                                          try clear c29b0
                                          try clear c29b1
                                          try clear c30
                                          try clear c30b0
                                          try clear c30b1
                                          try clear c32
                                          try clear c32b0
                                          try clear c32b1
                                          try clear c33
                                          try clear c33b0
                                          try clear c33b1
                                          try clear c35
                                          try clear c35b0
                                          try clear c35b1
                                          try clear c36
                                          try clear c36b0
                                          try clear c36b1
                                          try clear c39
                                          try clear c39b0
                                          try clear c39b1
                                          try clear c40
                                          try clear c40b0
                                          try clear c40b1
                                          try clear c42
                                          try clear c42b0
                                          try clear c42b1
                                          try clear c43
                                          try clear c43b0
                                          try clear c43b1
                                          try clear c45
                                          try clear c45b0
                                          try clear c45b1
                                          try clear c46
                                          try clear c46b0
                                          try clear c46b1
                                          try clear c49
                                          try clear c49b0
                                          try clear c49b1
                                          try clear c50
                                          try clear c50b0
                                          try clear c51
                                          try clear c51b0
                                          try clear p2
                                          try clear p27
                                          try clear p6
                                          try clear q2
                                          try clear q27
                                          obtain ⟨kq, x103_47, rfl, HA, HJ47, ⟨mc47, rfl⟩⟩ := hcut
                                          cases kq with
                                          | zero => exact absurd HA.out (by simp [motleyref27_Parse.j4])
                                          | succ kj47 =>
                                            have H := HA.out
                                            clear HA
                                            simp only [motleyref27_Parse.j4] at H
                                            by_cases c52 : x103_47 = true
                                            · subst c52
                                              have H1 : (some (0, 2)) = some (r1, r2) := by rw [if_pos rfl] at H; exact H
                                              clear H
                                              have H := H1
                                              clear H1
                                              simp only [Option.some.injEq, Prod.mk.injEq] at H
                                              obtain ⟨rfl, rfl⟩ := H
                                              go_wp2
                                              repeat (go_quiet (fail); try go_wp2)
                                              go_ret2
                                              exact ⟨by first | rfl | (simp; done) | (simp [*]; done) | (simp; generalize ByteArray.toList _ = l_; cases l_ <;> rfl), by repeat (first | exact Drawn0.refl _ | apply Drawn0.step)⟩
                                            · replace c52 := Bool.eq_false_iff.mpr c52
                                              subst c52
                                              have H1 : ((motleyref27_day.f (wrap64 ((wrap64 ((wrap64 ((wrap64 ((wrap64 (86400 * t119)) + (wrap64 (3600 * t121)))) + (wrap64 (60 * t122)))) + t123)) - x5_9))).bind fun bt124 => ((motleyref27_isDay.f kj47 bt124.1).bind fun t126 => (if t126 = true then (some (wrap64 ((wrap64 ((wrap64 ((wrap64 ((wrap64 (86400 * t119)) + (wrap64 (3600 * t121)))) + (wrap64 (60 * t122)))) + t123)) - x5_9), 0)) else (some (0, 1))))) = some (r1, r2) := by rw [if_neg (show ¬ (false = true) by decide)] at H; exact H
                                              clear H
                                              have H := H1
                                              clear H1
                                              replace H := Option.bind_eq_some_iff.mp H
                                              obtain ⟨⟨t124, t125⟩, A530, H⟩ := H
                                              replace H : ((motleyref27_isDay.f kj47 t124).bind fun t126 => (if t126 = true then (some (wrap64 ((wrap64 ((wrap64 ((wrap64 ((wrap64 (86400 * t119)) + (wrap64 (3600 * t121)))) + (wrap64 (60 * t122)))) + t123)) - x5_9), 0)) else (some (0, 1)))) = some (r1, r2) := H
                                              have A53 := Aside0.mk A530
                                              clear A530
                                              replace H := Option.bind_eq_some_iff.mp H
                                              obtain ⟨t126, A540, H⟩ := H
                                              replace H : (if t126 = true then (some (wrap64 ((wrap64 ((wrap64 ((wrap64 ((wrap64 (86400 * t119)) + (wrap64 (3600 * t121)))) + (wrap64 (60 * t122)))) + t123)) - x5_9), 0)) else (some (0, 1))) = some (r1, r2) := H
                                              have A54 := Aside0.mk A540
                                              clear A540
                                              by_cases c55 : t126 = true
                                              · subst c55
                                                have H1 : (some (wrap64 ((wrap64 ((wrap64 ((wrap64 ((wrap64 (86400 * t119)) + (wrap64 (3600 * t121)))) + (wrap64 (60 * t122)))) + t123)) - x5_9), 0)) = some (r1, r2) := by rw [if_pos rfl] at H; exact H
                                                clear H
                                                have H := H1
                                                clear H1
                                                simp only [Option.some.injEq, Prod.mk.injEq] at H
                                                obtain ⟨rfl, rfl⟩ := H
                                                go_wp2_with (first | (go_at_call 48; (with_reducible refine (motleyref27_day.calls (wrap64 ((wrap64 ((wrap64 ((wrap64 ((wrap64 (86400 * t119)) + (wrap64 (3600 * t121)))) + (wrap64 (60 * t122)))) + t123)) - x5_9)) t124 t125 _ A53.out).mono ?_); rintro e w' ⟨rfl, ⟨nd, rfl⟩⟩; (try first | exact ⟨rfl, _, World.drewN_drewN _ _ _⟩ | exact ⟨rfl, _, Eq.trans (World.drewN_drewN _ _ _) (congrArg (World.drewN _) (Nat.add_assoc _ _ _))⟩)) | (go_at_call 44; (with_reducible refine (motleyref27_isDay.calls kj47 t124 true _ A54.out).mono ?_); rintro e w' ⟨rfl, ⟨nd, rfl⟩⟩; (try first | exact ⟨rfl, _, World.drewN_drewN _ _ _⟩ | exact ⟨rfl, _, Eq.trans (World.drewN_drewN _ _ _) (congrArg (World.drewN _) (Nat.add_assoc _ _ _))⟩)))
                                                repeat (go_quiet (first | (go_at_call 48; (with_reducible refine (motleyref27_day.calls (wrap64 ((wrap64 ((wrap64 ((wrap64 ((wrap64 (86400 * t119)) + (wrap64 (3600 * t121)))) + (wrap64 (60 * t122)))) + t123)) - x5_9)) t124 t125 _ A53.out).mono ?_); rintro e w' ⟨rfl, ⟨nd, rfl⟩⟩; (try first | exact ⟨rfl, _, World.drewN_drewN _ _ _⟩ | exact ⟨rfl, _, Eq.trans (World.drewN_drewN _ _ _) (congrArg (World.drewN _) (Nat.add_assoc _ _ _))⟩)) | (go_at_call 44; (with_reducible refine (motleyref27_isDay.calls kj47 t124 true _ A54.out).mono ?_); rintro e w' ⟨rfl, ⟨nd, rfl⟩⟩; (try first | exact ⟨rfl, _, World.drewN_drewN _ _ _⟩ | exact ⟨rfl, _, Eq.trans (World.drewN_drewN _ _ _) (congrArg (World.drewN _) (Nat.add_assoc _ _ _))⟩))); try go_wp2_with (first | (go_at_call 48; (with_reducible refine (motleyref27_day.calls (wrap64 ((wrap64 ((wrap64 ((wrap64 ((wrap64 (86400 * t119)) + (wrap64 (3600 * t121)))) + (wrap64 (60 * t122)))) + t123)) - x5_9)) t124 t125 _ A53.out).mono ?_); rintro e w' ⟨rfl, ⟨nd, rfl⟩⟩; (try first | exact ⟨rfl, _, World.drewN_drewN _ _ _⟩ | exact ⟨rfl, _, Eq.trans (World.drewN_drewN _ _ _) (congrArg (World.drewN _) (Nat.add_assoc _ _ _))⟩)) | (go_at_call 44; (with_reducible refine (motleyref27_isDay.calls kj47 t124 true _ A54.out).mono ?_); rintro e w' ⟨rfl, ⟨nd, rfl⟩⟩; (try first | exact ⟨rfl, _, World.drewN_drewN _ _ _⟩ | exact ⟨rfl, _, Eq.trans (World.drewN_drewN _ _ _) (congrArg (World.drewN _) (Nat.add_assoc _ _ _))⟩))))
                                                go_ret2
                                                exact ⟨by first | rfl | (simp; done) | (simp [*]; done) | (simp; generalize ByteArray.toList _ = l_; cases l_ <;> rfl), by repeat (first | exact Drawn0.refl _ | apply Drawn0.step)⟩
                                              · replace c55 := Bool.eq_false_iff.mpr c55
                                                subst c55
                                                have H1 : (some (0, 1)) = some (r1, r2) := by rw [if_neg (show ¬ (false = true) by decide)] at H; exact H
                                                clear H
                                                have H := H1
                                                clear H1
                                                simp only [Option.some.injEq, Prod.mk.injEq] at H
                                                obtain ⟨rfl, rfl⟩ := H
                                                go_wp2_with (first | (go_at_call 48; (with_reducible refine (motleyref27_day.calls (wrap64 ((wrap64 ((wrap64 ((wrap64 ((wrap64 (86400 * t119)) + (wrap64 (3600 * t121)))) + (wrap64 (60 * t122)))) + t123)) - x5_9)) t124 t125 _ A53.out).mono ?_); rintro e w' ⟨rfl, ⟨nd, rfl⟩⟩; (try first | exact ⟨rfl, _, World.drewN_drewN _ _ _⟩ | exact ⟨rfl, _, Eq.trans (World.drewN_drewN _ _ _) (congrArg (World.drewN _) (Nat.add_assoc _ _ _))⟩)) | (go_at_call 44; (with_reducible refine (motleyref27_isDay.calls kj47 t124 false _ A54.out).mono ?_); rintro e w' ⟨rfl, ⟨nd, rfl⟩⟩; (try first | exact ⟨rfl, _, World.drewN_drewN _ _ _⟩ | exact ⟨rfl, _, Eq.trans (World.drewN_drewN _ _ _) (congrArg (World.drewN _) (Nat.add_assoc _ _ _))⟩)))
                                                repeat (go_quiet (first | (go_at_call 48; (with_reducible refine (motleyref27_day.calls (wrap64 ((wrap64 ((wrap64 ((wrap64 ((wrap64 (86400 * t119)) + (wrap64 (3600 * t121)))) + (wrap64 (60 * t122)))) + t123)) - x5_9)) t124 t125 _ A53.out).mono ?_); rintro e w' ⟨rfl, ⟨nd, rfl⟩⟩; (try first | exact ⟨rfl, _, World.drewN_drewN _ _ _⟩ | exact ⟨rfl, _, Eq.trans (World.drewN_drewN _ _ _) (congrArg (World.drewN _) (Nat.add_assoc _ _ _))⟩)) | (go_at_call 44; (with_reducible refine (motleyref27_isDay.calls kj47 t124 false _ A54.out).mono ?_); rintro e w' ⟨rfl, ⟨nd, rfl⟩⟩; (try first | exact ⟨rfl, _, World.drewN_drewN _ _ _⟩ | exact ⟨rfl, _, Eq.trans (World.drewN_drewN _ _ _) (congrArg (World.drewN _) (Nat.add_assoc _ _ _))⟩))); try go_wp2_with (first | (go_at_call 48; (with_reducible refine (motleyref27_day.calls (wrap64 ((wrap64 ((wrap64 ((wrap64 ((wrap64 (86400 * t119)) + (wrap64 (3600 * t121)))) + (wrap64 (60 * t122)))) + t123)) - x5_9)) t124 t125 _ A53.out).mono ?_); rintro e w' ⟨rfl, ⟨nd, rfl⟩⟩; (try first | exact ⟨rfl, _, World.drewN_drewN _ _ _⟩ | exact ⟨rfl, _, Eq.trans (World.drewN_drewN _ _ _) (congrArg (World.drewN _) (Nat.add_assoc _ _ _))⟩)) | (go_at_call 44; (with_reducible refine (motleyref27_isDay.calls kj47 t124 false _ A54.out).mono ?_); rintro e w' ⟨rfl, ⟨nd, rfl⟩⟩; (try first | exact ⟨rfl, _, World.drewN_drewN _ _ _⟩ | exact ⟨rfl, _, Eq.trans (World.drewN_drewN _ _ _) (congrArg (World.drewN _) (Nat.add_assoc _ _ _))⟩))))
                                                go_ret2
                                                exact ⟨by first | rfl | (simp; done) | (simp [*]; done) | (simp; generalize ByteArray.toList _ = l_; cases l_ <;> rfl), by repeat (first | exact Drawn0.refl _ | apply Drawn0.step)⟩
                                      · rw [if_neg c46] at H
                                        exact absurd H (by simp)
                                    · rw [if_neg c45] at H
                                      exact absurd H (by simp)
                                  · rw [if_neg c43] at H
                                    exact absurd H (by simp)
                                · rw [if_neg c42] at H
                                  exact absurd H (by simp)
                              · rw [if_neg c40] at H
                                exact absurd H (by simp)
                            · rw [if_neg c39] at H
                              exact absurd H (by simp)
                          · rw [if_neg c36] at H
                            exact absurd H (by simp)
                        · rw [if_neg c35] at H
                          exact absurd H (by simp)
                      · rw [if_neg c33] at H
                        exact absurd H (by simp)
                    · rw [if_neg c32] at H
                      exact absurd H (by simp)
                  · rw [if_neg c30] at H
                    exact absurd H (by simp)
                · rw [if_neg c29] at H
                  exact absurd H (by simp)
          · rw [if_neg c9] at H
            exact absurd H (by simp)
        · rw [if_neg c8] at H
          exact absurd H (by simp)

end Go.Proofs.YtallfkecjibpmaaDoor.M
