/- What the Go functions of this seat give, as Lean functions, and that each call comes to it. Written by the session's own program (wip/tools/mprint.py). -/
import Derived.Test.YthdalpminhbckaaDoorM0
import Derived.Test.YthdalpminhbckaaDoorM1
import Derived.Test.YthdalpminhbckaaDoorM2
namespace Go.Proofs.YthdalpminhbckaaDoor.M
open Go.RowKit Go.Proofs.YthdalpminhbckaaDoor.G Go.Proofs.YthdalpminhbckaaDoorW.PrintWords Go.Proofs.YthdalpminhbckaaDoorW.PrintLast Go.Proofs.YthdalpminhbckaaDoorW.PrintMore
attribute [local go_sem] max2_int min2_int max_two min_two max_three min_three max_four min_four   -- for this text's walks alone
set_option linter.unusedVariables false
set_option linter.unusedSimpArgs false

/-! ### motleyref25_Indent: function 24 -/
mutual
def motleyref25_Indent.l0 : Nat → ByteArray → List ByteArray → Int → Int → Option (ByteArray × Int × Int)
  | 0, _, _, _, _ => none
  | k + 1, x0, x6, x7, x8 => if x8 < (x6.length : Int) then (if 0 ≤ x8 then ((motleyref25_isBlank.f k (rdOf ByteArray.empty x6 x8)).bind fun t187 => (if t187 = true then (motleyref25_Indent.l0 k x0 x6 x7 (wrap64 (x8 + 1))) else (motleyref25_Indent.l1 k x0 x6 x7 x8 0))) else (none)) else (motleyref25_Indent.l2 k x0 x6 (mx x7 0) (⟨#[]⟩ : ByteArray) 0)
def motleyref25_Indent.l1 : Nat → ByteArray → List ByteArray → Int → Int → Int → Option (ByteArray × Int × Int)
  | 0, _, _, _, _, _ => none
  | k + 1, x0, x6, x7, x8, x9 => if 0 ≤ x8 then (if x8 < (x6.length : Int) then (if 0 ≤ x9 then (if x9 < ((rdOf ByteArray.empty x6 x8).size : Int) then (if (bt (rdOf ByteArray.empty x6 x8) x9) = 32 then (motleyref25_Indent.l1 k x0 x6 x7 x8 (wrap64 (x9 + 1))) else (if x7 < 0 then (motleyref25_Indent.l0 k x0 x6 x9 (wrap64 (x8 + 1))) else (if x9 < x7 then (motleyref25_Indent.l0 k x0 x6 x9 (wrap64 (x8 + 1))) else (motleyref25_Indent.l0 k x0 x6 x7 (wrap64 (x8 + 1)))))) else (none)) else (none)) else (none)) else (none)
def motleyref25_Indent.l2 : Nat → ByteArray → List ByteArray → Int → ByteArray → Int → Option (ByteArray × Int × Int)
  | 0, _, _, _, _, _ => none
  | k + 1, x0, x6, x7, x10, x11 => if x11 < (x6.length : Int) then (if 0 ≤ x11 then ((motleyref25_isBlank.f k (rdOf ByteArray.empty x6 x11)).bind fun t190 => (if t190 = true then (if (wrap64 (x11 + 1)) < (x6.length : Int) then (if x10.size + 1 ≤ 9223372036854775807 then (motleyref25_Indent.l2 k x0 x6 x7 (x10 ++ (⟨#[10]⟩ : ByteArray)) (wrap64 (x11 + 1))) else (none)) else (if (x0.size : Int) > 0 then (if 0 ≤ (wrap64 ((x0.size : Int) - 1)) then (if (wrap64 ((x0.size : Int) - 1)) < (x0.size : Int) then (if (bt x0 (wrap64 ((x0.size : Int) - 1))) = 10 then (if x10.size + 1 ≤ 9223372036854775807 then (motleyref25_Indent.l2 k x0 x6 x7 (x10 ++ (⟨#[10]⟩ : ByteArray)) (wrap64 (x11 + 1))) else (none)) else (motleyref25_Indent.l2 k x0 x6 x7 x10 (wrap64 (x11 + 1)))) else (none)) else (none)) else (motleyref25_Indent.l2 k x0 x6 x7 x10 (wrap64 (x11 + 1))))) else (if 0 ≤ x7 then (if x7 ≤ ((rdOf ByteArray.empty x6 x11).size : Int) then (if x10.size + ((rdOf ByteArray.empty x6 x11).extract (x7 : Int).toNat (rdOf ByteArray.empty x6 x11).size).size ≤ 9223372036854775807 then (if (wrap64 (x11 + 1)) < (x6.length : Int) then (if (x10 ++ ((rdOf ByteArray.empty x6 x11).extract (x7 : Int).toNat (rdOf ByteArray.empty x6 x11).size)).size + 1 ≤ 9223372036854775807 then (motleyref25_Indent.l2 k x0 x6 x7 ((x10 ++ ((rdOf ByteArray.empty x6 x11).extract (x7 : Int).toNat (rdOf ByteArray.empty x6 x11).size)) ++ (⟨#[10]⟩ : ByteArray)) (wrap64 (x11 + 1))) else (none)) else (if (x0.size : Int) > 0 then (if 0 ≤ (wrap64 ((x0.size : Int) - 1)) then (if (wrap64 ((x0.size : Int) - 1)) < (x0.size : Int) then (if (bt x0 (wrap64 ((x0.size : Int) - 1))) = 10 then (if (x10 ++ ((rdOf ByteArray.empty x6 x11).extract (x7 : Int).toNat (rdOf ByteArray.empty x6 x11).size)).size + 1 ≤ 9223372036854775807 then (motleyref25_Indent.l2 k x0 x6 x7 ((x10 ++ ((rdOf ByteArray.empty x6 x11).extract (x7 : Int).toNat (rdOf ByteArray.empty x6 x11).size)) ++ (⟨#[10]⟩ : ByteArray)) (wrap64 (x11 + 1))) else (none)) else (motleyref25_Indent.l2 k x0 x6 x7 (x10 ++ ((rdOf ByteArray.empty x6 x11).extract (x7 : Int).toNat (rdOf ByteArray.empty x6 x11).size)) (wrap64 (x11 + 1)))) else (none)) else (none)) else (motleyref25_Indent.l2 k x0 x6 x7 (x10 ++ ((rdOf ByteArray.empty x6 x11).extract (x7 : Int).toNat (rdOf ByteArray.empty x6 x11).size)) (wrap64 (x11 + 1))))) else (none)) else (none)) else (none)))) else (none)) else (some (x10, x7, 0))
end
def motleyref25_Indent.f (k : Nat) (a0 : ByteArray) : Option (ByteArray × Int × Int) := (motleyref25_Asked.f k a0).bind fun t182 => (if t182 = 0 then ((motleyref25_lines.f k a0).bind fun t183 => (motleyref25_Indent.l0 k a0 t183 (-1) 0)) else (some ((⟨#[]⟩ : ByteArray), 0, t182)))
theorem motleyref25_Indent.mono_l : ∀ k, (∀ y0 y1 y2 y3, LeO (motleyref25_Indent.l0 k y0 y1 y2 y3) (motleyref25_Indent.l0 (k + 1) y0 y1 y2 y3)) ∧ (∀ y0 y1 y2 y3 y4, LeO (motleyref25_Indent.l1 k y0 y1 y2 y3 y4) (motleyref25_Indent.l1 (k + 1) y0 y1 y2 y3 y4)) ∧ (∀ y0 y1 y2 y3 y4, LeO (motleyref25_Indent.l2 k y0 y1 y2 y3 y4) (motleyref25_Indent.l2 (k + 1) y0 y1 y2 y3 y4))
  | 0 => ⟨fun _ _ _ _ r h => by simp [motleyref25_Indent.l0] at h, fun _ _ _ _ _ r h => by simp [motleyref25_Indent.l1] at h, fun _ _ _ _ _ r h => by simp [motleyref25_Indent.l2] at h⟩
  | k + 1 => by
    obtain ⟨ih0, ih1, ih2⟩ := motleyref25_Indent.mono_l k
    refine ⟨?_, ?_, ?_⟩
    · intro y0 y1 y2 y3
      unfold motleyref25_Indent.l0
      repeat' first
      | (with_reducible exact ih0 _ _ _ _)
      | (with_reducible exact ih1 _ _ _ _ _)
      | (with_reducible exact ih2 _ _ _ _ _)
      | (with_reducible exact motleyref25_Asked.mono _ _)
      | (with_reducible exact motleyref25_isBlank.mono _ _)
      | (with_reducible exact motleyref25_lines.mono _ _)
      | (with_reducible exact LeO.refl _)
      | (with_reducible exact LeO.none _)
      | (with_reducible refine LeO.ite ?_ ?_)
      | (with_reducible refine LeO.bind ?_ (fun _ => ?_))
      | exact ih0 _ _ _ _
      | exact ih1 _ _ _ _ _
      | exact ih2 _ _ _ _ _
      | exact motleyref25_Asked.mono _ _
      | exact motleyref25_isBlank.mono _ _
      | exact motleyref25_lines.mono _ _
      | exact LeO.none _
      | refine LeO.ite ?_ ?_
      | refine LeO.bind ?_ (fun _ => ?_)
    · intro y0 y1 y2 y3 y4
      unfold motleyref25_Indent.l1
      repeat' first
      | (with_reducible exact ih0 _ _ _ _)
      | (with_reducible exact ih1 _ _ _ _ _)
      | (with_reducible exact ih2 _ _ _ _ _)
      | (with_reducible exact motleyref25_Asked.mono _ _)
      | (with_reducible exact motleyref25_isBlank.mono _ _)
      | (with_reducible exact motleyref25_lines.mono _ _)
      | (with_reducible exact LeO.refl _)
      | (with_reducible exact LeO.none _)
      | (with_reducible refine LeO.ite ?_ ?_)
      | (with_reducible refine LeO.bind ?_ (fun _ => ?_))
      | exact ih0 _ _ _ _
      | exact ih1 _ _ _ _ _
      | exact ih2 _ _ _ _ _
      | exact motleyref25_Asked.mono _ _
      | exact motleyref25_isBlank.mono _ _
      | exact motleyref25_lines.mono _ _
      | exact LeO.none _
      | refine LeO.ite ?_ ?_
      | refine LeO.bind ?_ (fun _ => ?_)
    · intro y0 y1 y2 y3 y4
      unfold motleyref25_Indent.l2
      repeat' first
      | (with_reducible exact ih0 _ _ _ _)
      | (with_reducible exact ih1 _ _ _ _ _)
      | (with_reducible exact ih2 _ _ _ _ _)
      | (with_reducible exact motleyref25_Asked.mono _ _)
      | (with_reducible exact motleyref25_isBlank.mono _ _)
      | (with_reducible exact motleyref25_lines.mono _ _)
      | (with_reducible exact LeO.refl _)
      | (with_reducible exact LeO.none _)
      | (with_reducible refine LeO.ite ?_ ?_)
      | (with_reducible refine LeO.bind ?_ (fun _ => ?_))
      | exact ih0 _ _ _ _
      | exact ih1 _ _ _ _ _
      | exact ih2 _ _ _ _ _
      | exact motleyref25_Asked.mono _ _
      | exact motleyref25_isBlank.mono _ _
      | exact motleyref25_lines.mono _ _
      | exact LeO.none _
      | refine LeO.ite ?_ ?_
      | refine LeO.bind ?_ (fun _ => ?_)
theorem motleyref25_Indent.mono : ∀ a0 k, LeO (motleyref25_Indent.f k a0) (motleyref25_Indent.f (k + 1) a0) := by
  intro a0 k
  obtain ⟨ih0, ih1, ih2⟩ := motleyref25_Indent.mono_l k
  unfold motleyref25_Indent.f
  repeat' first
      | (with_reducible exact ih0 _ _ _ _)
      | (with_reducible exact ih1 _ _ _ _ _)
      | (with_reducible exact ih2 _ _ _ _ _)
      | (with_reducible exact motleyref25_Asked.mono _ _)
      | (with_reducible exact motleyref25_isBlank.mono _ _)
      | (with_reducible exact motleyref25_lines.mono _ _)
      | (with_reducible exact LeO.refl _)
      | (with_reducible exact LeO.none _)
      | (with_reducible refine LeO.ite ?_ ?_)
      | (with_reducible refine LeO.bind ?_ (fun _ => ?_))
      | exact ih0 _ _ _ _
      | exact ih1 _ _ _ _ _
      | exact ih2 _ _ _ _ _
      | exact motleyref25_Asked.mono _ _
      | exact motleyref25_isBlank.mono _ _
      | exact motleyref25_lines.mono _ _
      | exact LeO.none _
      | refine LeO.ite ?_ ?_
      | refine LeO.bind ?_ (fun _ => ?_)
set_option maxHeartbeats 8000000 in
set_option maxRecDepth 100000 in
theorem motleyref25_Indent.calls (k : Nat) (a0 : ByteArray) (r1 : ByteArray) (r2 : Int) (r3 : Int) (w : World) (h : motleyref25_Indent.f k a0 = some (r1, r2, r3)) :
    Calls Tryd.prog 24 #[.string a0] w fun e w' => e = .returned (.tuple #[.string r1, .int .i64 r2, .int .i64 r3]) ∧ Below w.heap.size w w' := by
  have HB := Aside0.mk (Below.refl w.heap.size w)
  have H : ((motleyref25_Asked.f k a0).bind fun t182 => (if t182 = 0 then ((motleyref25_lines.f k a0).bind fun t183 => (motleyref25_Indent.l0 k a0 t183 (-1) 0)) else (some ((⟨#[]⟩ : ByteArray), 0, t182)))) = some (r1, r2, r3) := h
  clear h
  replace H := Option.bind_eq_some_iff.mp H
  obtain ⟨t182, A20, H⟩ := H
  replace H : (if t182 = 0 then ((motleyref25_lines.f k a0).bind fun t183 => (motleyref25_Indent.l0 k a0 t183 (-1) 0)) else (some ((⟨#[]⟩ : ByteArray), 0, t182))) = some (r1, r2, r3) := H
  have A2 := Aside0.mk A20
  clear A20
  by_cases c3 : t182 = 0
  · rw [if_pos c3] at H
    have c3b0 : (t182 == 0) = true := beq_iff_eq.mpr c3
    have c3b1 : (t182 != 0) = false := bne_eq_false_iff_eq.mpr c3
    clear c3
    replace H := Option.bind_eq_some_iff.mp H
    obtain ⟨t183, A40, H⟩ := H
    replace H : (motleyref25_Indent.l0 k a0 t183 (-1) 0) = some (r1, r2, r3) := H
    have A4 := Aside0.mk A40
    clear A40
    have H' := Aside0.mk H
    clear H
    go_enter Tryd.func24, Tryd.ntmps24
    go_wp2_with (first | ((with_reducible refine gate_callee (f := 34) rfl ?_); refine goesL_ (some 13) rfl rfl Tryd.func34 (by kernel_rfl) rfl #[.string a0] rfl (by (try simp only [List.map_toArray, List.map_cons, List.map_nil]); first | done | rfl | (simp only [List.length_drop, List.length_take]; rfl)) ?_; (with_reducible refine (motleyref25_Asked.calls k a0 t182 _ A2.out).mono ?_); rintro e w' ⟨rfl, ⟨nd, rfl⟩⟩; refine ⟨_, rfl, ?_⟩) | ((with_reducible refine gate_callee (f := 57) rfl ?_); refine goesL_ (some 18) rfl rfl Tryd.func57 (by kernel_rfl) rfl #[.string a0] rfl (by (try simp only [List.map_toArray, List.map_cons, List.map_nil]); first | done | rfl | (simp only [List.length_drop, List.length_take]; rfl)) ?_; (with_reducible refine (motleyref25_lines.calls k a0 t183 _ A4.out).mono ?_); rintro e w5 ⟨v184, rfl, ho0, hb⟩; refine ⟨_, rfl, ?_⟩; have n0_ := Aside0.mk (Kd.R_lower ho0 (below_size (by repeat (first | (with_reducible first | exact HB.out | apply below_alloc | apply pw_below_drewN | apply below_drew1) | exact HB.out)))); have n1_ := Aside0.mk (below_step (by repeat (first | (with_reducible first | exact HB.out | apply below_alloc | apply pw_below_drewN | apply below_drew1) | exact HB.out)) hb); clear HB; have HO185 := n0_; have HB := n1_; clear n0_ n1_; (try clear hb); (try clear hb2); (try clear hk); (try clear hi); (try clear ho0)))
    go_loopg [7, 8] k (fun kq v7 v8 w' => ∃ (x7_1 : Int) (x8_1 : Int), v7 = .int .i64 x7_1 ∧ v8 = .int .i64 x8_1 ∧ Aside0 (motleyref25_Indent.l0 kq a0 t183 x7_1 x8_1 = some (r1, r2, r3)) ∧ Aside0 (kq ≤ k) ∧ Aside0 (Kd.R Kd.string 9 w' w.heap.size (fun _ => True) v184 t183) ∧ Aside0 (Below w.heap.size w w'))
    case atStart => exact ⟨((-1)), (0), (by first | rfl | (simp; done) | (simp [*]; done) | (simp; generalize ByteArray.toList _ = l_; cases l_ <;> rfl)), (by first | rfl | (simp; done) | (simp [*]; done) | (simp; generalize ByteArray.toList _ = l_; cases l_ <;> rfl)), H', ⟨Nat.le_refl _⟩, ⟨by (with_reducible repeat (first | apply Kd.R_alloc | apply Kd.R_drewN | apply Kd.R_drew)); exact HO185.out⟩, ⟨by repeat (first | (with_reducible first | exact HB.out | apply below_alloc | apply pw_below_drewN | apply below_drew1) | exact HB.out)⟩⟩
    case round =>
      clear H'
      try clear c2
      try clear p2
      try clear c3
      try clear c3b0
      try clear c3b1
      try clear c5
      obtain ⟨x7_1, x8_1, rfl, rfl, HA, HK1, HO_6, HB⟩ := hrel
      cases gk with
      | zero => exact absurd HA.out (by simp [motleyref25_Indent.l0])
      | succ k1 =>
        have H := HA.out
        clear HA
        simp only [motleyref25_Indent.l0] at H
        by_cases c6 : x8_1 < (t183.length : Int)
        · rw [if_pos c6] at H
          have c6b0 : decide (x8_1 < (t183.length : Int)) = true := decide_eq_true c6
          clear c6
          by_cases c7 : 0 ≤ x8_1
          · rw [if_pos c7] at H
            have c7b0 : decide (0 ≤ x8_1) = true := decide_eq_true c7
            clear c7
            replace H := Option.bind_eq_some_iff.mp H
            obtain ⟨t187, A80, H⟩ := H
            replace H : (if t187 = true then (motleyref25_Indent.l0 k1 a0 t183 x7_1 (wrap64 (x8_1 + 1))) else (motleyref25_Indent.l1 k1 a0 t183 x7_1 x8_1 0)) = some (r1, r2, r3) := H
            have A8 := Aside0.mk A80
            clear A80
            by_cases c9 : t187 = true
            · subst c9
              have H1 : (motleyref25_Indent.l0 k1 a0 t183 x7_1 (wrap64 (x8_1 + 1))) = some (r1, r2, r3) := by rw [if_pos rfl] at H; exact H
              clear H
              have H := H1
              clear H1
              have H' := Aside0.mk H
              clear H
              obtain ⟨Ao10, co10, eo10⟩ := Kd.R_slice HO_6.out
              subst eo10
              have p186 : 0 ≤ (x8_1 : Int) := of_decide_eq_true (by first | (with_reducible assumption) | assumption)
              have q186 : x8_1 < (t183.length : Int) := of_decide_eq_true (by first | (with_reducible assumption) | assumption)
              obtain ⟨ad186, e186, hx186_0⟩ := Kd.at_string (Kd.R_reads' HO_6.out).2.2 x8_1 p186 q186
              cases e186
              replace p186 := eq_true p186
              replace q186 := eq_true q186
              go_wp2_with (first | ((with_reducible refine gate_callee (f := 58) rfl ?_); refine goesL_ (some 29) rfl rfl Tryd.func58 (by kernel_rfl) rfl #[.string (rdOf ByteArray.empty t183 x8_1)] rfl (by (try simp only [List.map_toArray, List.map_cons, List.map_nil]); first | done | rfl | (simp only [List.length_drop, List.length_take]; rfl)) ?_; (with_reducible refine (motleyref25_isBlank.calls k1 (rdOf ByteArray.empty t183 x8_1) true _ A8.out).mono ?_); rintro e w' ⟨rfl, ⟨nd, rfl⟩⟩; refine ⟨_, rfl, ?_⟩))
              go_roundg k1
              case measure => have := HK1.out; omega
              case rel => exact ⟨(x7_1), (wrap64 (x8_1 + 1)), (by first | rfl | (simp; done) | (simp [*]; done) | (simp; generalize ByteArray.toList _ = l_; cases l_ <;> rfl)), (by first | rfl | (simp; done) | (simp [*]; done) | (simp; generalize ByteArray.toList _ = l_; cases l_ <;> rfl)), H', ⟨by have := HK1.out; omega⟩, ⟨by (with_reducible repeat (first | apply Kd.R_alloc | apply Kd.R_drewN | apply Kd.R_drew)); exact HO_6.out⟩, ⟨by repeat (first | (with_reducible first | exact HB.out | apply below_alloc | apply pw_below_drewN | apply below_drew1) | exact HB.out)⟩⟩
            · replace c9 := Bool.eq_false_iff.mpr c9
              subst c9
              have H1 : (motleyref25_Indent.l1 k1 a0 t183 x7_1 x8_1 0) = some (r1, r2, r3) := by rw [if_neg (show ¬ (false = true) by decide)] at H; exact H
              clear H
              have H := H1
              clear H1
              have H' := Aside0.mk H
              clear H
              obtain ⟨Ao11, co11, eo11⟩ := Kd.R_slice HO_6.out
              subst eo11
              have p186 : 0 ≤ (x8_1 : Int) := of_decide_eq_true (by first | (with_reducible assumption) | assumption)
              have q186 : x8_1 < (t183.length : Int) := of_decide_eq_true (by first | (with_reducible assumption) | assumption)
              obtain ⟨ad186, e186, hx186_0⟩ := Kd.at_string (Kd.R_reads' HO_6.out).2.2 x8_1 p186 q186
              cases e186
              replace p186 := eq_true p186
              replace q186 := eq_true q186
              go_wp2_with (first | ((with_reducible refine gate_callee (f := 58) rfl ?_); refine goesL_ (some 29) rfl rfl Tryd.func58 (by kernel_rfl) rfl #[.string (rdOf ByteArray.empty t183 x8_1)] rfl (by (try simp only [List.map_toArray, List.map_cons, List.map_nil]); first | done | rfl | (simp only [List.length_drop, List.length_take]; rfl)) ?_; (with_reducible refine (motleyref25_isBlank.calls k1 (rdOf ByteArray.empty t183 x8_1) false _ A8.out).mono ?_); rintro e w' ⟨rfl, ⟨nd, rfl⟩⟩; refine ⟨_, rfl, ?_⟩))
              go_loopg [9] k1 (fun kq v9 w' => ∃ (x9_2 : Int), v9 = .int .i64 x9_2 ∧ Aside0 (motleyref25_Indent.l1 kq a0 t183 x7_1 x8_1 x9_2 = some (r1, r2, r3)) ∧ Aside0 (kq ≤ k1) ∧ Aside0 (Kd.R Kd.string 9 w' w.heap.size (fun _ => True) (.slice (some ad186) t183.length co11) t183) ∧ Aside0 (Below w.heap.size w w'))
              case atStart => exact ⟨(0), (by first | rfl | (simp; done) | (simp [*]; done) | (simp; generalize ByteArray.toList _ = l_; cases l_ <;> rfl)), H', ⟨Nat.le_refl _⟩, ⟨by (with_reducible repeat (first | apply Kd.R_alloc | apply Kd.R_drewN | apply Kd.R_drew)); exact HO_6.out⟩, ⟨by repeat (first | (with_reducible first | exact HB.out | apply below_alloc | apply pw_below_drewN | apply below_drew1) | exact HB.out)⟩⟩
              case round =>
                clear H'
                try clear p1
                try clear q1
                try clear hx1
                try clear c2
                try clear p2
                try clear c3
                try clear c3b0
                try clear c3b1
                try clear c5
                try clear c6
                try clear c6b0
                try clear p6
                try clear c7
                try clear c7b0
                try clear c9
                try clear hx186_0
                try clear p186
                try clear p2
                try clear q186
                obtain ⟨x9_2, rfl, HA, HK2, HO_6, HB⟩ := hrel
                cases gk with
                | zero => exact absurd HA.out (by simp [motleyref25_Indent.l1])
                | succ k2 =>
                  have H := HA.out
                  clear HA
                  simp only [motleyref25_Indent.l1] at H
                  by_cases c12 : 0 ≤ x8_1
                  · rw [if_pos c12] at H
                    have c12b0 : decide (0 ≤ x8_1) = true := decide_eq_true c12
                    clear c12
                    by_cases c13 : x8_1 < (t183.length : Int)
                    · rw [if_pos c13] at H
                      have c13b0 : decide (x8_1 < (t183.length : Int)) = true := decide_eq_true c13
                      clear c13
                      by_cases c14 : 0 ≤ x9_2
                      · rw [if_pos c14] at H
                        have c14b0 : decide (0 ≤ x9_2) = true := decide_eq_true c14
                        clear c14
                        by_cases c15 : x9_2 < ((rdOf ByteArray.empty t183 x8_1).size : Int)
                        · rw [if_pos c15] at H
                          have c15b0 : decide (x9_2 < ((rdOf ByteArray.empty t183 x8_1).size : Int)) = true := decide_eq_true c15
                          clear c15
                          by_cases c17 : (bt (rdOf ByteArray.empty t183 x8_1) x9_2) = 32
                          · rw [if_pos c17] at H
                            have c17b0 : ((bt (rdOf ByteArray.empty t183 x8_1) x9_2) == 32) = true := beq_iff_eq.mpr c17
                            have c17b1 : ((bt (rdOf ByteArray.empty t183 x8_1) x9_2) != 32) = false := bne_eq_false_iff_eq.mpr c17
                            clear c17
                            have H' := Aside0.mk H
                            clear H
                            have p188 : 0 ≤ (x8_1 : Int) := of_decide_eq_true (by first | (with_reducible assumption) | assumption)
                            have q188 : x8_1 < (t183.length : Int) := of_decide_eq_true (by first | (with_reducible assumption) | assumption)
                            obtain ⟨ad188, e188, hx188_0⟩ := Kd.at_string (Kd.R_reads' HO_6.out).2.2 x8_1 p188 q188
                            obtain rfl : ad186 = ad188 := (by injection e188)
                            replace p188 := eq_true p188
                            replace q188 := eq_true q188
                            have p16 : 0 ≤ (x9_2 : Int) := of_decide_eq_true (by first | (with_reducible assumption) | assumption)
                            have q16 : x9_2 < ((rdOf ByteArray.empty t183 x8_1).size : Int) := of_decide_eq_true (by first | (with_reducible assumption) | assumption)
                            have hx16 := bt_at (rdOf ByteArray.empty t183 x8_1) x9_2
                            replace p16 := eq_true p16
                            replace q16 := eq_true q16
                            go_wp2
                            go_roundg k2
                            case measure => have := HK1.out; have := HK2.out; omega
                            case rel => exact ⟨(wrap64 (x9_2 + 1)), (by first | rfl | (simp; done) | (simp [*]; done) | (simp; generalize ByteArray.toList _ = l_; cases l_ <;> rfl)), H', ⟨by have := HK1.out; have := HK2.out; omega⟩, ⟨by (with_reducible repeat (first | apply Kd.R_alloc | apply Kd.R_drewN | apply Kd.R_drew)); exact HO_6.out⟩, ⟨by repeat (first | (with_reducible first | exact HB.out | apply below_alloc | apply pw_below_drewN | apply below_drew1) | exact HB.out)⟩⟩
                          · rw [if_neg c17] at H
                            have c17b0 : ((bt (rdOf ByteArray.empty t183 x8_1) x9_2) == 32) = false := beq_eq_false_iff_ne.mpr c17
                            have c17b1 : ((bt (rdOf ByteArray.empty t183 x8_1) x9_2) != 32) = true := bne_iff_ne.mpr c17
                            by_cases c18 : x7_1 < 0
                            · rw [if_pos c18] at H
                              have c18b0 : decide (x7_1 < 0) = true := decide_eq_true c18
                              clear c18
                              have H' := Aside0.mk H
                              clear H
                              have p188 : 0 ≤ (x8_1 : Int) := of_decide_eq_true (by first | (with_reducible assumption) | assumption)
                              have q188 : x8_1 < (t183.length : Int) := of_decide_eq_true (by first | (with_reducible assumption) | assumption)
                              obtain ⟨ad188, e188, hx188_0⟩ := Kd.at_string (Kd.R_reads' HO_6.out).2.2 x8_1 p188 q188
                              obtain rfl : ad186 = ad188 := (by injection e188)
                              replace p188 := eq_true p188
                              replace q188 := eq_true q188
                              have p16 : 0 ≤ (x9_2 : Int) := of_decide_eq_true (by first | (with_reducible assumption) | assumption)
                              have q16 : x9_2 < ((rdOf ByteArray.empty t183 x8_1).size : Int) := of_decide_eq_true (by first | (with_reducible assumption) | assumption)
                              have hx16 := bt_at (rdOf ByteArray.empty t183 x8_1) x9_2
                              replace p16 := eq_true p16
                              replace q16 := eq_true q16
                              go_wp2
                              go_roundg k2
                              case measure => have := HK1.out; have := HK2.out; omega
                              case rel => exact ⟨(x9_2), (wrap64 (x8_1 + 1)), (by first | rfl | (simp; done) | (simp [*]; done) | (simp; generalize ByteArray.toList _ = l_; cases l_ <;> rfl)), (by first | rfl | (simp; done) | (simp [*]; done) | (simp; generalize ByteArray.toList _ = l_; cases l_ <;> rfl)), H', ⟨by have := HK1.out; have := HK2.out; omega⟩, ⟨by (with_reducible repeat (first | apply Kd.R_alloc | apply Kd.R_drewN | apply Kd.R_drew)); exact HO_6.out⟩, ⟨by repeat (first | (with_reducible first | exact HB.out | apply below_alloc | apply pw_below_drewN | apply below_drew1) | exact HB.out)⟩⟩
                            · rw [if_neg c18] at H
                              have c18b0 : decide (x7_1 < 0) = false := decide_eq_false c18
                              clear c18
                              by_cases c19 : x9_2 < x7_1
                              · rw [if_pos c19] at H
                                have c19b0 : decide (x9_2 < x7_1) = true := decide_eq_true c19
                                clear c19
                                have H' := Aside0.mk H
                                clear H
                                have p188 : 0 ≤ (x8_1 : Int) := of_decide_eq_true (by first | (with_reducible assumption) | assumption)
                                have q188 : x8_1 < (t183.length : Int) := of_decide_eq_true (by first | (with_reducible assumption) | assumption)
                                obtain ⟨ad188, e188, hx188_0⟩ := Kd.at_string (Kd.R_reads' HO_6.out).2.2 x8_1 p188 q188
                                obtain rfl : ad186 = ad188 := (by injection e188)
                                replace p188 := eq_true p188
                                replace q188 := eq_true q188
                                have p16 : 0 ≤ (x9_2 : Int) := of_decide_eq_true (by first | (with_reducible assumption) | assumption)
                                have q16 : x9_2 < ((rdOf ByteArray.empty t183 x8_1).size : Int) := of_decide_eq_true (by first | (with_reducible assumption) | assumption)
                                have hx16 := bt_at (rdOf ByteArray.empty t183 x8_1) x9_2
                                replace p16 := eq_true p16
                                replace q16 := eq_true q16
                                go_wp2
                                go_roundg k2
                                case measure => have := HK1.out; have := HK2.out; omega
                                case rel => exact ⟨(x9_2), (wrap64 (x8_1 + 1)), (by first | rfl | (simp; done) | (simp [*]; done) | (simp; generalize ByteArray.toList _ = l_; cases l_ <;> rfl)), (by first | rfl | (simp; done) | (simp [*]; done) | (simp; generalize ByteArray.toList _ = l_; cases l_ <;> rfl)), H', ⟨by have := HK1.out; have := HK2.out; omega⟩, ⟨by (with_reducible repeat (first | apply Kd.R_alloc | apply Kd.R_drewN | apply Kd.R_drew)); exact HO_6.out⟩, ⟨by repeat (first | (with_reducible first | exact HB.out | apply below_alloc | apply pw_below_drewN | apply below_drew1) | exact HB.out)⟩⟩
                              · rw [if_neg c19] at H
                                have c19b0 : decide (x9_2 < x7_1) = false := decide_eq_false c19
                                clear c19
                                have H' := Aside0.mk H
                                clear H
                                have p188 : 0 ≤ (x8_1 : Int) := of_decide_eq_true (by first | (with_reducible assumption) | assumption)
                                have q188 : x8_1 < (t183.length : Int) := of_decide_eq_true (by first | (with_reducible assumption) | assumption)
                                obtain ⟨ad188, e188, hx188_0⟩ := Kd.at_string (Kd.R_reads' HO_6.out).2.2 x8_1 p188 q188
                                obtain rfl : ad186 = ad188 := (by injection e188)
                                replace p188 := eq_true p188
                                replace q188 := eq_true q188
                                have p16 : 0 ≤ (x9_2 : Int) := of_decide_eq_true (by first | (with_reducible assumption) | assumption)
                                have q16 : x9_2 < ((rdOf ByteArray.empty t183 x8_1).size : Int) := of_decide_eq_true (by first | (with_reducible assumption) | assumption)
                                have hx16 := bt_at (rdOf ByteArray.empty t183 x8_1) x9_2
                                replace p16 := eq_true p16
                                replace q16 := eq_true q16
                                go_wp2
                                go_roundg k2
                                case measure => have := HK1.out; have := HK2.out; omega
                                case rel => exact ⟨(x7_1), (wrap64 (x8_1 + 1)), (by first | rfl | (simp; done) | (simp [*]; done) | (simp; generalize ByteArray.toList _ = l_; cases l_ <;> rfl)), (by first | rfl | (simp; done) | (simp [*]; done) | (simp; generalize ByteArray.toList _ = l_; cases l_ <;> rfl)), H', ⟨by have := HK1.out; have := HK2.out; omega⟩, ⟨by (with_reducible repeat (first | apply Kd.R_alloc | apply Kd.R_drewN | apply Kd.R_drew)); exact HO_6.out⟩, ⟨by repeat (first | (with_reducible first | exact HB.out | apply below_alloc | apply pw_below_drewN | apply below_drew1) | exact HB.out)⟩⟩
                        · rw [if_neg c15] at H
                          exact absurd H (by simp)
                      · rw [if_neg c14] at H
                        exact absurd H (by simp)
                    · rw [if_neg c13] at H
                      exact absurd H (by simp)
                  · rw [if_neg c12] at H
                    exact absurd H (by simp)
          · rw [if_neg c7] at H
            exact absurd H (by simp)
        · rw [if_neg c6] at H
          have c6b0 : decide (x8_1 < (t183.length : Int)) = false := decide_eq_false c6
          clear c6
          obtain ⟨ji20, hji20⟩ : ∃ j_ : Int, (mx x7_1 0) = j_ := ⟨_, rfl⟩
          replace H : (motleyref25_Indent.l2 k1 a0 t183 ji20 (⟨#[]⟩ : ByteArray) 0) = some (r1, r2, r3) := by first | (rw [hji20] at H; exact H) | (simp only [hji20] at H ⊢; exact H)
          have hji20_ : (if x7_1 < 0 then 0 else x7_1) = ji20 := hji20
          have H' := Aside0.mk H
          clear H
          obtain ⟨Ao21, co21, eo21⟩ := Kd.R_slice HO_6.out
          subst eo21
          go_wp2
          go_loopg [10, 11] k1 (fun kq v10 v11 w' => ∃ (x10_2 : ByteArray) (x11_2 : Int), v10 = .string x10_2 ∧ v11 = .int .i64 x11_2 ∧ Aside0 (motleyref25_Indent.l2 kq a0 t183 ji20 x10_2 x11_2 = some (r1, r2, r3)) ∧ Aside0 (kq ≤ k1) ∧ Aside0 (Kd.R Kd.string 9 w' w.heap.size (fun _ => True) (.slice Ao21 t183.length co21) t183) ∧ Aside0 (Below w.heap.size w w'))
          case atStart => exact ⟨((⟨#[]⟩ : ByteArray)), (0), (by first | rfl | (simp; done) | (simp [*]; done) | (simp; generalize ByteArray.toList _ = l_; cases l_ <;> rfl)), (by first | rfl | (simp; done) | (simp [*]; done) | (simp; generalize ByteArray.toList _ = l_; cases l_ <;> rfl)), H', ⟨Nat.le_refl _⟩, ⟨by (with_reducible repeat (first | apply Kd.R_alloc | apply Kd.R_drewN | apply Kd.R_drew)); exact HO_6.out⟩, ⟨by repeat (first | (with_reducible first | exact HB.out | apply below_alloc | apply pw_below_drewN | apply below_drew1) | exact HB.out)⟩⟩
          case round =>
            clear H'
            try clear c1
            try clear p1
            try clear q1
            try clear hx1
            try clear c2
            try clear p2
            try clear c3
            try clear c3b0
            try clear c3b1
            try clear c5
            try clear c6
            try clear c6b0
            try clear p6
            try clear c7
            try clear c7b0
            try clear c9
            try clear c12
            try clear c12b0
            try clear c13
            try clear c13b0
            try clear c14
            try clear c14b0
            try clear c15
            try clear c15b0
            try clear p16
            try clear q16
            try clear hx16
            try clear c17
            try clear c17b0
            try clear c17b1
            try clear c18
            try clear c18b0
            try clear p18
            try clear q18
            try clear hx18
            try clear c19
            try clear c19b0
            try clear hx186_0
            try clear hx188_0
            try clear p1
            try clear p16
            try clear p186
            try clear p188
            try clear p2
            try clear p6
            try clear q1
            try clear q16
            try clear q186
            try clear q188
            obtain ⟨x10_2, x11_2, rfl, rfl, HA, HK2, HO_6, HB⟩ := hrel
            cases gk with
            | zero => exact absurd HA.out (by simp [motleyref25_Indent.l2])
            | succ k2 =>
              have H := HA.out
              clear HA
              simp only [motleyref25_Indent.l2] at H
              by_cases c22 : x11_2 < (t183.length : Int)
              · rw [if_pos c22] at H
                have c22b0 : decide (x11_2 < (t183.length : Int)) = true := decide_eq_true c22
                clear c22
                by_cases c23 : 0 ≤ x11_2
                · rw [if_pos c23] at H
                  have c23b0 : decide (0 ≤ x11_2) = true := decide_eq_true c23
                  clear c23
                  replace H := Option.bind_eq_some_iff.mp H
                  obtain ⟨t190, A240, H⟩ := H
                  replace H : (if t190 = true then (if (wrap64 (x11_2 + 1)) < (t183.length : Int) then (if x10_2.size + 1 ≤ 9223372036854775807 then (motleyref25_Indent.l2 k2 a0 t183 ji20 (x10_2 ++ (⟨#[10]⟩ : ByteArray)) (wrap64 (x11_2 + 1))) else (none)) else (if (a0.size : Int) > 0 then (if 0 ≤ (wrap64 ((a0.size : Int) - 1)) then (if (wrap64 ((a0.size : Int) - 1)) < (a0.size : Int) then (if (bt a0 (wrap64 ((a0.size : Int) - 1))) = 10 then (if x10_2.size + 1 ≤ 9223372036854775807 then (motleyref25_Indent.l2 k2 a0 t183 ji20 (x10_2 ++ (⟨#[10]⟩ : ByteArray)) (wrap64 (x11_2 + 1))) else (none)) else (motleyref25_Indent.l2 k2 a0 t183 ji20 x10_2 (wrap64 (x11_2 + 1)))) else (none)) else (none)) else (motleyref25_Indent.l2 k2 a0 t183 ji20 x10_2 (wrap64 (x11_2 + 1))))) else (if 0 ≤ ji20 then (if ji20 ≤ ((rdOf ByteArray.empty t183 x11_2).size : Int) then (if x10_2.size + ((rdOf ByteArray.empty t183 x11_2).extract (ji20 : Int).toNat (rdOf ByteArray.empty t183 x11_2).size).size ≤ 9223372036854775807 then (if (wrap64 (x11_2 + 1)) < (t183.length : Int) then (if (x10_2 ++ ((rdOf ByteArray.empty t183 x11_2).extract (ji20 : Int).toNat (rdOf ByteArray.empty t183 x11_2).size)).size + 1 ≤ 9223372036854775807 then (motleyref25_Indent.l2 k2 a0 t183 ji20 ((x10_2 ++ ((rdOf ByteArray.empty t183 x11_2).extract (ji20 : Int).toNat (rdOf ByteArray.empty t183 x11_2).size)) ++ (⟨#[10]⟩ : ByteArray)) (wrap64 (x11_2 + 1))) else (none)) else (if (a0.size : Int) > 0 then (if 0 ≤ (wrap64 ((a0.size : Int) - 1)) then (if (wrap64 ((a0.size : Int) - 1)) < (a0.size : Int) then (if (bt a0 (wrap64 ((a0.size : Int) - 1))) = 10 then (if (x10_2 ++ ((rdOf ByteArray.empty t183 x11_2).extract (ji20 : Int).toNat (rdOf ByteArray.empty t183 x11_2).size)).size + 1 ≤ 9223372036854775807 then (motleyref25_Indent.l2 k2 a0 t183 ji20 ((x10_2 ++ ((rdOf ByteArray.empty t183 x11_2).extract (ji20 : Int).toNat (rdOf ByteArray.empty t183 x11_2).size)) ++ (⟨#[10]⟩ : ByteArray)) (wrap64 (x11_2 + 1))) else (none)) else (motleyref25_Indent.l2 k2 a0 t183 ji20 (x10_2 ++ ((rdOf ByteArray.empty t183 x11_2).extract (ji20 : Int).toNat (rdOf ByteArray.empty t183 x11_2).size)) (wrap64 (x11_2 + 1)))) else (none)) else (none)) else (motleyref25_Indent.l2 k2 a0 t183 ji20 (x10_2 ++ ((rdOf ByteArray.empty t183 x11_2).extract (ji20 : Int).toNat (rdOf ByteArray.empty t183 x11_2).size)) (wrap64 (x11_2 + 1))))) else (none)) else (none)) else (none))) = some (r1, r2, r3) := H
                  have A24 := Aside0.mk A240
                  clear A240
                  by_cases c25 : t190 = true
                  · subst c25
                    have H1 : (if (wrap64 (x11_2 + 1)) < (t183.length : Int) then (if x10_2.size + 1 ≤ 9223372036854775807 then (motleyref25_Indent.l2 k2 a0 t183 ji20 (x10_2 ++ (⟨#[10]⟩ : ByteArray)) (wrap64 (x11_2 + 1))) else (none)) else (if (a0.size : Int) > 0 then (if 0 ≤ (wrap64 ((a0.size : Int) - 1)) then (if (wrap64 ((a0.size : Int) - 1)) < (a0.size : Int) then (if (bt a0 (wrap64 ((a0.size : Int) - 1))) = 10 then (if x10_2.size + 1 ≤ 9223372036854775807 then (motleyref25_Indent.l2 k2 a0 t183 ji20 (x10_2 ++ (⟨#[10]⟩ : ByteArray)) (wrap64 (x11_2 + 1))) else (none)) else (motleyref25_Indent.l2 k2 a0 t183 ji20 x10_2 (wrap64 (x11_2 + 1)))) else (none)) else (none)) else (motleyref25_Indent.l2 k2 a0 t183 ji20 x10_2 (wrap64 (x11_2 + 1))))) = some (r1, r2, r3) := by rw [if_pos rfl] at H; exact H
                    clear H
                    have H := H1
                    clear H1
                    by_cases c26 : (wrap64 (x11_2 + 1)) < (t183.length : Int)
                    · rw [if_pos c26] at H
                      have c26b0 : decide ((wrap64 (x11_2 + 1)) < (t183.length : Int)) = true := decide_eq_true c26
                      clear c26
                      by_cases c27 : x10_2.size + 1 ≤ 9223372036854775807
                      · rw [if_pos c27] at H
                        have c27b0 := eq_true c27
                        have c27b1 : decide (x10_2.size + 1 ≤ 9223372036854775807) = true := decide_eq_true c27
                        try have c27b2 : (9223372036854775807 < x10_2.size + 1) = False := eq_false (Nat.not_lt.2 c27)
                        have H' := Aside0.mk H
                        clear H
                        have p189 : 0 ≤ (x11_2 : Int) := of_decide_eq_true (by first | (with_reducible assumption) | assumption)
                        have q189 : x11_2 < (t183.length : Int) := of_decide_eq_true (by first | (with_reducible assumption) | assumption)
                        obtain ⟨ad189, e189, hx189_0⟩ := Kd.at_string (Kd.R_reads' HO_6.out).2.2 x11_2 p189 q189
                        cases e189
                        replace p189 := eq_true p189
                        replace q189 := eq_true q189
                        go_wp2_with (first | ((with_reducible refine gate_callee (f := 58) rfl ?_); refine goesL_ (some 59) rfl rfl Tryd.func58 (by kernel_rfl) rfl #[.string (rdOf ByteArray.empty t183 x11_2)] rfl (by (try simp only [List.map_toArray, List.map_cons, List.map_nil]); first | done | rfl | (simp only [List.length_drop, List.length_take]; rfl)) ?_; (with_reducible refine (motleyref25_isBlank.calls k2 (rdOf ByteArray.empty t183 x11_2) true _ A24.out).mono ?_); rintro e w' ⟨rfl, ⟨nd, rfl⟩⟩; refine ⟨_, rfl, ?_⟩))
                        go_roundg k2
                        case measure => have := HK1.out; have := HK2.out; omega
                        case rel => exact ⟨(x10_2 ++ (⟨#[10]⟩ : ByteArray)), (wrap64 (x11_2 + 1)), (by first | rfl | (simp; done) | (simp [*]; done) | (simp; generalize ByteArray.toList _ = l_; cases l_ <;> rfl)), (by first | rfl | (simp; done) | (simp [*]; done) | (simp; generalize ByteArray.toList _ = l_; cases l_ <;> rfl)), H', ⟨by have := HK1.out; have := HK2.out; omega⟩, ⟨by (with_reducible repeat (first | apply Kd.R_alloc | apply Kd.R_drewN | apply Kd.R_drew)); exact HO_6.out⟩, ⟨by repeat (first | (with_reducible first | exact HB.out | apply below_alloc | apply pw_below_drewN | apply below_drew1) | exact HB.out)⟩⟩
                      · rw [if_neg c27] at H
                        exact absurd H (by simp)
                    · rw [if_neg c26] at H
                      have c26b0 : decide ((wrap64 (x11_2 + 1)) < (t183.length : Int)) = false := decide_eq_false c26
                      clear c26
                      by_cases c28 : (a0.size : Int) > 0
                      · rw [if_pos c28] at H
                        have c28b0 : decide (0 < (a0.size : Int)) = true := decide_eq_true c28
                        have c28b1 : decide (0 < a0.size) = true := decide_eq_true (by omega)
                        clear c28
                        obtain ⟨ji29, hji29⟩ : ∃ j_ : Int, (wrap64 ((a0.size : Int) - 1)) = j_ := ⟨_, rfl⟩
                        replace H : (if 0 ≤ (ji29) then (if (ji29) < (a0.size : Int) then (if (bt a0 (ji29)) = 10 then (if x10_2.size + 1 ≤ 9223372036854775807 then (motleyref25_Indent.l2 k2 a0 t183 ji20 (x10_2 ++ (⟨#[10]⟩ : ByteArray)) (wrap64 (x11_2 + 1))) else (none)) else (motleyref25_Indent.l2 k2 a0 t183 ji20 x10_2 (wrap64 (x11_2 + 1)))) else (none)) else (none)) = some (r1, r2, r3) := by first | (rw [hji29] at H; exact H) | (simp only [hji29] at H ⊢; exact H)
                        (try rw [hji29] at A24)
                        have hji29w : (IntKind.i64.wrap ((a0.size : Int) - 1)) = ji29 := (i64_w _).trans hji29
                        by_cases c30 : 0 ≤ (ji29)
                        · rw [if_pos c30] at H
                          have c30b0 : decide (0 ≤ (ji29)) = true := decide_eq_true c30
                          clear c30
                          by_cases c31 : (ji29) < (a0.size : Int)
                          · rw [if_pos c31] at H
                            have c31b0 : decide ((ji29) < (a0.size : Int)) = true := decide_eq_true c31
                            clear c31
                            by_cases c33 : (bt a0 (ji29)) = 10
                            · rw [if_pos c33] at H
                              have c33b0 : ((bt a0 (ji29)) == 10) = true := beq_iff_eq.mpr c33
                              have c33b1 : ((bt a0 (ji29)) != 10) = false := bne_eq_false_iff_eq.mpr c33
                              clear c33
                              by_cases c34 : x10_2.size + 1 ≤ 9223372036854775807
                              · rw [if_pos c34] at H
                                have c34b0 := eq_true c34
                                have c34b1 : decide (x10_2.size + 1 ≤ 9223372036854775807) = true := decide_eq_true c34
                                try have c34b2 : (9223372036854775807 < x10_2.size + 1) = False := eq_false (Nat.not_lt.2 c34)
                                have H' := Aside0.mk H
                                clear H
                                have p189 : 0 ≤ (x11_2 : Int) := of_decide_eq_true (by first | (with_reducible assumption) | assumption)
                                have q189 : x11_2 < (t183.length : Int) := of_decide_eq_true (by first | (with_reducible assumption) | assumption)
                                obtain ⟨ad189, e189, hx189_0⟩ := Kd.at_string (Kd.R_reads' HO_6.out).2.2 x11_2 p189 q189
                                cases e189
                                replace p189 := eq_true p189
                                replace q189 := eq_true q189
                                go_wp2_with (first | ((with_reducible refine gate_callee (f := 58) rfl ?_); refine goesL_ (some 59) rfl rfl Tryd.func58 (by kernel_rfl) rfl #[.string (rdOf ByteArray.empty t183 x11_2)] rfl (by (try simp only [List.map_toArray, List.map_cons, List.map_nil]); first | done | rfl | (simp only [List.length_drop, List.length_take]; rfl)) ?_; (with_reducible refine (motleyref25_isBlank.calls k2 (rdOf ByteArray.empty t183 x11_2) true _ A24.out).mono ?_); rintro e w' ⟨rfl, ⟨nd, rfl⟩⟩; refine ⟨_, rfl, ?_⟩; have p32 : 0 ≤ ((ji29) : Int) := of_decide_eq_true (by first | (with_reducible assumption) | assumption); have q32 : (ji29) < (a0.size : Int) := of_decide_eq_true (by first | (with_reducible assumption) | assumption); have hx32 := bt_at a0 (ji29); replace p32 := eq_true p32; replace q32 := eq_true q32))
                                go_roundg k2
                                case measure => have := HK1.out; have := HK2.out; omega
                                case rel => exact ⟨(x10_2 ++ (⟨#[10]⟩ : ByteArray)), (wrap64 (x11_2 + 1)), (by first | rfl | (simp; done) | (simp [*]; done) | (simp; generalize ByteArray.toList _ = l_; cases l_ <;> rfl)), (by first | rfl | (simp; done) | (simp [*]; done) | (simp; generalize ByteArray.toList _ = l_; cases l_ <;> rfl)), H', ⟨by have := HK1.out; have := HK2.out; omega⟩, ⟨by (with_reducible repeat (first | apply Kd.R_alloc | apply Kd.R_drewN | apply Kd.R_drew)); exact HO_6.out⟩, ⟨by repeat (first | (with_reducible first | exact HB.out | apply below_alloc | apply pw_below_drewN | apply below_drew1) | exact HB.out)⟩⟩
                              · rw [if_neg c34] at H
                                exact absurd H (by simp)
                            · rw [if_neg c33] at H
                              have c33b0 : ((bt a0 (ji29)) == 10) = false := beq_eq_false_iff_ne.mpr c33
                              have c33b1 : ((bt a0 (ji29)) != 10) = true := bne_iff_ne.mpr c33
                              have H' := Aside0.mk H
                              clear H
                              have p189 : 0 ≤ (x11_2 : Int) := of_decide_eq_true (by first | (with_reducible assumption) | assumption)
                              have q189 : x11_2 < (t183.length : Int) := of_decide_eq_true (by first | (with_reducible assumption) | assumption)
                              obtain ⟨ad189, e189, hx189_0⟩ := Kd.at_string (Kd.R_reads' HO_6.out).2.2 x11_2 p189 q189
                              cases e189
                              replace p189 := eq_true p189
                              replace q189 := eq_true q189
                              go_wp2_with (first | ((with_reducible refine gate_callee (f := 58) rfl ?_); refine goesL_ (some 59) rfl rfl Tryd.func58 (by kernel_rfl) rfl #[.string (rdOf ByteArray.empty t183 x11_2)] rfl (by (try simp only [List.map_toArray, List.map_cons, List.map_nil]); first | done | rfl | (simp only [List.length_drop, List.length_take]; rfl)) ?_; (with_reducible refine (motleyref25_isBlank.calls k2 (rdOf ByteArray.empty t183 x11_2) true _ A24.out).mono ?_); rintro e w' ⟨rfl, ⟨nd, rfl⟩⟩; refine ⟨_, rfl, ?_⟩; have p32 : 0 ≤ ((ji29) : Int) := of_decide_eq_true (by first | (with_reducible assumption) | assumption); have q32 : (ji29) < (a0.size : Int) := of_decide_eq_true (by first | (with_reducible assumption) | assumption); have hx32 := bt_at a0 (ji29); replace p32 := eq_true p32; replace q32 := eq_true q32))
                              go_roundg k2
                              case measure => have := HK1.out; have := HK2.out; omega
                              case rel => exact ⟨(x10_2), (wrap64 (x11_2 + 1)), (by first | rfl | (simp; done) | (simp [*]; done) | (simp; generalize ByteArray.toList _ = l_; cases l_ <;> rfl)), (by first | rfl | (simp; done) | (simp [*]; done) | (simp; generalize ByteArray.toList _ = l_; cases l_ <;> rfl)), H', ⟨by have := HK1.out; have := HK2.out; omega⟩, ⟨by (with_reducible repeat (first | apply Kd.R_alloc | apply Kd.R_drewN | apply Kd.R_drew)); exact HO_6.out⟩, ⟨by repeat (first | (with_reducible first | exact HB.out | apply below_alloc | apply pw_below_drewN | apply below_drew1) | exact HB.out)⟩⟩
                          · rw [if_neg c31] at H
                            exact absurd H (by simp)
                        · rw [if_neg c30] at H
                          exact absurd H (by simp)
                      · rw [if_neg c28] at H
                        have c28b0 : decide (0 < (a0.size : Int)) = false := decide_eq_false c28
                        have c28b1 : decide (0 < a0.size) = false := decide_eq_false (by omega)
                        clear c28
                        have H' := Aside0.mk H
                        clear H
                        have p189 : 0 ≤ (x11_2 : Int) := of_decide_eq_true (by first | (with_reducible assumption) | assumption)
                        have q189 : x11_2 < (t183.length : Int) := of_decide_eq_true (by first | (with_reducible assumption) | assumption)
                        obtain ⟨ad189, e189, hx189_0⟩ := Kd.at_string (Kd.R_reads' HO_6.out).2.2 x11_2 p189 q189
                        cases e189
                        replace p189 := eq_true p189
                        replace q189 := eq_true q189
                        go_wp2_with (first | ((with_reducible refine gate_callee (f := 58) rfl ?_); refine goesL_ (some 59) rfl rfl Tryd.func58 (by kernel_rfl) rfl #[.string (rdOf ByteArray.empty t183 x11_2)] rfl (by (try simp only [List.map_toArray, List.map_cons, List.map_nil]); first | done | rfl | (simp only [List.length_drop, List.length_take]; rfl)) ?_; (with_reducible refine (motleyref25_isBlank.calls k2 (rdOf ByteArray.empty t183 x11_2) true _ A24.out).mono ?_); rintro e w' ⟨rfl, ⟨nd, rfl⟩⟩; refine ⟨_, rfl, ?_⟩))
                        go_roundg k2
                        case measure => have := HK1.out; have := HK2.out; omega
                        case rel => exact ⟨(x10_2), (wrap64 (x11_2 + 1)), (by first | rfl | (simp; done) | (simp [*]; done) | (simp; generalize ByteArray.toList _ = l_; cases l_ <;> rfl)), (by first | rfl | (simp; done) | (simp [*]; done) | (simp; generalize ByteArray.toList _ = l_; cases l_ <;> rfl)), H', ⟨by have := HK1.out; have := HK2.out; omega⟩, ⟨by (with_reducible repeat (first | apply Kd.R_alloc | apply Kd.R_drewN | apply Kd.R_drew)); exact HO_6.out⟩, ⟨by repeat (first | (with_reducible first | exact HB.out | apply below_alloc | apply pw_below_drewN | apply below_drew1) | exact HB.out)⟩⟩
                  · replace c25 := Bool.eq_false_iff.mpr c25
                    subst c25
                    have H1 : (if 0 ≤ ji20 then (if ji20 ≤ ((rdOf ByteArray.empty t183 x11_2).size : Int) then (if x10_2.size + ((rdOf ByteArray.empty t183 x11_2).extract (ji20 : Int).toNat (rdOf ByteArray.empty t183 x11_2).size).size ≤ 9223372036854775807 then (if (wrap64 (x11_2 + 1)) < (t183.length : Int) then (if (x10_2 ++ ((rdOf ByteArray.empty t183 x11_2).extract (ji20 : Int).toNat (rdOf ByteArray.empty t183 x11_2).size)).size + 1 ≤ 9223372036854775807 then (motleyref25_Indent.l2 k2 a0 t183 ji20 ((x10_2 ++ ((rdOf ByteArray.empty t183 x11_2).extract (ji20 : Int).toNat (rdOf ByteArray.empty t183 x11_2).size)) ++ (⟨#[10]⟩ : ByteArray)) (wrap64 (x11_2 + 1))) else (none)) else (if (a0.size : Int) > 0 then (if 0 ≤ (wrap64 ((a0.size : Int) - 1)) then (if (wrap64 ((a0.size : Int) - 1)) < (a0.size : Int) then (if (bt a0 (wrap64 ((a0.size : Int) - 1))) = 10 then (if (x10_2 ++ ((rdOf ByteArray.empty t183 x11_2).extract (ji20 : Int).toNat (rdOf ByteArray.empty t183 x11_2).size)).size + 1 ≤ 9223372036854775807 then (motleyref25_Indent.l2 k2 a0 t183 ji20 ((x10_2 ++ ((rdOf ByteArray.empty t183 x11_2).extract (ji20 : Int).toNat (rdOf ByteArray.empty t183 x11_2).size)) ++ (⟨#[10]⟩ : ByteArray)) (wrap64 (x11_2 + 1))) else (none)) else (motleyref25_Indent.l2 k2 a0 t183 ji20 (x10_2 ++ ((rdOf ByteArray.empty t183 x11_2).extract (ji20 : Int).toNat (rdOf ByteArray.empty t183 x11_2).size)) (wrap64 (x11_2 + 1)))) else (none)) else (none)) else (motleyref25_Indent.l2 k2 a0 t183 ji20 (x10_2 ++ ((rdOf ByteArray.empty t183 x11_2).extract (ji20 : Int).toNat (rdOf ByteArray.empty t183 x11_2).size)) (wrap64 (x11_2 + 1))))) else (none)) else (none)) else (none)) = some (r1, r2, r3) := by rw [if_neg (show ¬ (false = true) by decide)] at H; exact H
                    clear H
                    have H := H1
                    clear H1
                    by_cases c35 : 0 ≤ ji20
                    · rw [if_pos c35] at H
                      have c35b0 := eq_true c35
                      have c35b1 : decide (0 ≤ ji20) = true := decide_eq_true c35
                      clear c35
                      by_cases c36 : ji20 ≤ ((rdOf ByteArray.empty t183 x11_2).size : Int)
                      · rw [if_pos c36] at H
                        have c36b0 := eq_true c36
                        have c36b1 : decide (ji20 ≤ ((rdOf ByteArray.empty t183 x11_2).size : Int)) = true := decide_eq_true c36
                        clear c36
                        by_cases c37 : x10_2.size + ((rdOf ByteArray.empty t183 x11_2).extract (ji20 : Int).toNat (rdOf ByteArray.empty t183 x11_2).size).size ≤ 9223372036854775807
                        · rw [if_pos c37] at H
                          have c37b0 := eq_true c37
                          have c37b1 : decide (x10_2.size + ((rdOf ByteArray.empty t183 x11_2).extract (ji20 : Int).toNat (rdOf ByteArray.empty t183 x11_2).size).size ≤ 9223372036854775807) = true := decide_eq_true c37
                          try have c37b3 : (9223372036854775807 < x10_2.size + ((rdOf ByteArray.empty t183 x11_2).size - (ji20 : Int).toNat)) = False := eq_false (by have h_ := c37; (first | simp only [ByteArray.size_append, ByteArray.size_extract, Nat.min_self] at h_ | simp only [ByteArray.size_append] at h_); exact Nat.not_lt.2 h_)
                          try have c37b2 : (9223372036854775807 < x10_2.size + ((rdOf ByteArray.empty t183 x11_2).extract (ji20 : Int).toNat (rdOf ByteArray.empty t183 x11_2).size).size) = False := eq_false (Nat.not_lt.2 c37)
                          by_cases c38 : (wrap64 (x11_2 + 1)) < (t183.length : Int)
                          · rw [if_pos c38] at H
                            have c38b0 : decide ((wrap64 (x11_2 + 1)) < (t183.length : Int)) = true := decide_eq_true c38
                            clear c38
                            by_cases c39 : (x10_2 ++ ((rdOf ByteArray.empty t183 x11_2).extract (ji20 : Int).toNat (rdOf ByteArray.empty t183 x11_2).size)).size + 1 ≤ 9223372036854775807
                            · rw [if_pos c39] at H
                              have c39b0 := eq_true c39
                              have c39b1 : decide ((x10_2 ++ ((rdOf ByteArray.empty t183 x11_2).extract (ji20 : Int).toNat (rdOf ByteArray.empty t183 x11_2).size)).size + 1 ≤ 9223372036854775807) = true := decide_eq_true c39
                              try have c39b3 : (9223372036854775807 < x10_2.size + ((rdOf ByteArray.empty t183 x11_2).size - (ji20 : Int).toNat) + 1) = False := eq_false (by have h_ := c39; (first | simp only [ByteArray.size_append, ByteArray.size_extract, Nat.min_self] at h_ | simp only [ByteArray.size_append] at h_); exact Nat.not_lt.2 h_)
                              try have c39b2 : (9223372036854775807 < (x10_2 ++ ((rdOf ByteArray.empty t183 x11_2).extract (ji20 : Int).toNat (rdOf ByteArray.empty t183 x11_2).size)).size + 1) = False := eq_false (Nat.not_lt.2 c39)
                              have H' := Aside0.mk H
                              clear H
                              have p189 : 0 ≤ (x11_2 : Int) := of_decide_eq_true (by first | (with_reducible assumption) | assumption)
                              have q189 : x11_2 < (t183.length : Int) := of_decide_eq_true (by first | (with_reducible assumption) | assumption)
                              obtain ⟨ad189, e189, hx189_0⟩ := Kd.at_string (Kd.R_reads' HO_6.out).2.2 x11_2 p189 q189
                              cases e189
                              replace p189 := eq_true p189
                              replace q189 := eq_true q189
                              go_wp2_with (first | ((with_reducible refine gate_callee (f := 58) rfl ?_); refine goesL_ (some 59) rfl rfl Tryd.func58 (by kernel_rfl) rfl #[.string (rdOf ByteArray.empty t183 x11_2)] rfl (by (try simp only [List.map_toArray, List.map_cons, List.map_nil]); first | done | rfl | (simp only [List.length_drop, List.length_take]; rfl)) ?_; (with_reducible refine (motleyref25_isBlank.calls k2 (rdOf ByteArray.empty t183 x11_2) false _ A24.out).mono ?_); rintro e w' ⟨rfl, ⟨nd, rfl⟩⟩; refine ⟨_, rfl, ?_⟩; have p191 : 0 ≤ (x11_2 : Int) := of_decide_eq_true (by first | (with_reducible assumption) | assumption); have q191 : x11_2 < (t183.length : Int) := of_decide_eq_true (by first | (with_reducible assumption) | assumption); obtain ⟨ad191, e191, hx191_0⟩ := Kd.at_string (Kd.R_reads' HO_6.out).2.2 x11_2 p191 q191; obtain rfl : ad189 = ad191 := (by injection e191); replace p191 := eq_true p191; replace q191 := eq_true q191))
                              go_roundg k2
                              case measure => have := HK1.out; have := HK2.out; omega
                              case rel => exact ⟨((x10_2 ++ ((rdOf ByteArray.empty t183 x11_2).extract (ji20 : Int).toNat (rdOf ByteArray.empty t183 x11_2).size)) ++ (⟨#[10]⟩ : ByteArray)), (wrap64 (x11_2 + 1)), (by first | rfl | (simp; done) | (simp only [← hji20] <;> (first | rfl | simp)) | (simp [*]; done)), (by first | rfl | (simp; done) | (simp [*]; done) | (simp; generalize ByteArray.toList _ = l_; cases l_ <;> rfl)), H', ⟨by have := HK1.out; have := HK2.out; omega⟩, ⟨by (with_reducible repeat (first | apply Kd.R_alloc | apply Kd.R_drewN | apply Kd.R_drew)); exact HO_6.out⟩, ⟨by repeat (first | (with_reducible first | exact HB.out | apply below_alloc | apply pw_below_drewN | apply below_drew1) | exact HB.out)⟩⟩
                            · rw [if_neg c39] at H
                              exact absurd H (by simp)
                          · rw [if_neg c38] at H
                            have c38b0 : decide ((wrap64 (x11_2 + 1)) < (t183.length : Int)) = false := decide_eq_false c38
                            clear c38
                            by_cases c40 : (a0.size : Int) > 0
                            · rw [if_pos c40] at H
                              have c40b0 : decide (0 < (a0.size : Int)) = true := decide_eq_true c40
                              have c40b1 : decide (0 < a0.size) = true := decide_eq_true (by omega)
                              clear c40
                              obtain ⟨ji41, hji41⟩ : ∃ j_ : Int, (wrap64 ((a0.size : Int) - 1)) = j_ := ⟨_, rfl⟩
                              replace H : (if 0 ≤ (ji41) then (if (ji41) < (a0.size : Int) then (if (bt a0 (ji41)) = 10 then (if (x10_2 ++ ((rdOf ByteArray.empty t183 x11_2).extract (ji20 : Int).toNat (rdOf ByteArray.empty t183 x11_2).size)).size + 1 ≤ 9223372036854775807 then (motleyref25_Indent.l2 k2 a0 t183 ji20 ((x10_2 ++ ((rdOf ByteArray.empty t183 x11_2).extract (ji20 : Int).toNat (rdOf ByteArray.empty t183 x11_2).size)) ++ (⟨#[10]⟩ : ByteArray)) (wrap64 (x11_2 + 1))) else (none)) else (motleyref25_Indent.l2 k2 a0 t183 ji20 (x10_2 ++ ((rdOf ByteArray.empty t183 x11_2).extract (ji20 : Int).toNat (rdOf ByteArray.empty t183 x11_2).size)) (wrap64 (x11_2 + 1)))) else (none)) else (none)) = some (r1, r2, r3) := by first | (rw [hji41] at H; exact H) | (simp only [hji41] at H ⊢; exact H)
                              (try rw [hji41] at A24)
                              have hji41w : (IntKind.i64.wrap ((a0.size : Int) - 1)) = ji41 := (i64_w _).trans hji41
                              by_cases c42 : 0 ≤ (ji41)
                              · rw [if_pos c42] at H
                                have c42b0 : decide (0 ≤ (ji41)) = true := decide_eq_true c42
                                clear c42
                                by_cases c43 : (ji41) < (a0.size : Int)
                                · rw [if_pos c43] at H
                                  have c43b0 : decide ((ji41) < (a0.size : Int)) = true := decide_eq_true c43
                                  clear c43
                                  by_cases c45 : (bt a0 (ji41)) = 10
                                  · rw [if_pos c45] at H
                                    have c45b0 : ((bt a0 (ji41)) == 10) = true := beq_iff_eq.mpr c45
                                    have c45b1 : ((bt a0 (ji41)) != 10) = false := bne_eq_false_iff_eq.mpr c45
                                    clear c45
                                    by_cases c46 : (x10_2 ++ ((rdOf ByteArray.empty t183 x11_2).extract (ji20 : Int).toNat (rdOf ByteArray.empty t183 x11_2).size)).size + 1 ≤ 9223372036854775807
                                    · rw [if_pos c46] at H
                                      have c46b0 := eq_true c46
                                      have c46b1 : decide ((x10_2 ++ ((rdOf ByteArray.empty t183 x11_2).extract (ji20 : Int).toNat (rdOf ByteArray.empty t183 x11_2).size)).size + 1 ≤ 9223372036854775807) = true := decide_eq_true c46
                                      try have c46b3 : (9223372036854775807 < x10_2.size + ((rdOf ByteArray.empty t183 x11_2).size - (ji20 : Int).toNat) + 1) = False := eq_false (by have h_ := c46; (first | simp only [ByteArray.size_append, ByteArray.size_extract, Nat.min_self] at h_ | simp only [ByteArray.size_append] at h_); exact Nat.not_lt.2 h_)
                                      try have c46b2 : (9223372036854775807 < (x10_2 ++ ((rdOf ByteArray.empty t183 x11_2).extract (ji20 : Int).toNat (rdOf ByteArray.empty t183 x11_2).size)).size + 1) = False := eq_false (Nat.not_lt.2 c46)
                                      have H' := Aside0.mk H
                                      clear H
                                      have p189 : 0 ≤ (x11_2 : Int) := of_decide_eq_true (by first | (with_reducible assumption) | assumption)
                                      have q189 : x11_2 < (t183.length : Int) := of_decide_eq_true (by first | (with_reducible assumption) | assumption)
                                      obtain ⟨ad189, e189, hx189_0⟩ := Kd.at_string (Kd.R_reads' HO_6.out).2.2 x11_2 p189 q189
                                      cases e189
                                      replace p189 := eq_true p189
                                      replace q189 := eq_true q189
                                      go_wp2_with (first | ((with_reducible refine gate_callee (f := 58) rfl ?_); refine goesL_ (some 59) rfl rfl Tryd.func58 (by kernel_rfl) rfl #[.string (rdOf ByteArray.empty t183 x11_2)] rfl (by (try simp only [List.map_toArray, List.map_cons, List.map_nil]); first | done | rfl | (simp only [List.length_drop, List.length_take]; rfl)) ?_; (with_reducible refine (motleyref25_isBlank.calls k2 (rdOf ByteArray.empty t183 x11_2) false _ A24.out).mono ?_); rintro e w' ⟨rfl, ⟨nd, rfl⟩⟩; refine ⟨_, rfl, ?_⟩; have p191 : 0 ≤ (x11_2 : Int) := of_decide_eq_true (by first | (with_reducible assumption) | assumption); have q191 : x11_2 < (t183.length : Int) := of_decide_eq_true (by first | (with_reducible assumption) | assumption); obtain ⟨ad191, e191, hx191_0⟩ := Kd.at_string (Kd.R_reads' HO_6.out).2.2 x11_2 p191 q191; obtain rfl : ad189 = ad191 := (by injection e191); replace p191 := eq_true p191; replace q191 := eq_true q191; have p44 : 0 ≤ ((ji41) : Int) := of_decide_eq_true (by first | (with_reducible assumption) | assumption); have q44 : (ji41) < (a0.size : Int) := of_decide_eq_true (by first | (with_reducible assumption) | assumption); have hx44 := bt_at a0 (ji41); replace p44 := eq_true p44; replace q44 := eq_true q44))
                                      go_roundg k2
                                      case measure => have := HK1.out; have := HK2.out; omega
                                      case rel => exact ⟨((x10_2 ++ ((rdOf ByteArray.empty t183 x11_2).extract (ji20 : Int).toNat (rdOf ByteArray.empty t183 x11_2).size)) ++ (⟨#[10]⟩ : ByteArray)), (wrap64 (x11_2 + 1)), (by first | rfl | (simp; done) | (simp only [← hji20] <;> (first | rfl | simp)) | (simp [*]; done)), (by first | rfl | (simp; done) | (simp [*]; done) | (simp; generalize ByteArray.toList _ = l_; cases l_ <;> rfl)), H', ⟨by have := HK1.out; have := HK2.out; omega⟩, ⟨by (with_reducible repeat (first | apply Kd.R_alloc | apply Kd.R_drewN | apply Kd.R_drew)); exact HO_6.out⟩, ⟨by repeat (first | (with_reducible first | exact HB.out | apply below_alloc | apply pw_below_drewN | apply below_drew1) | exact HB.out)⟩⟩
                                    · rw [if_neg c46] at H
                                      exact absurd H (by simp)
                                  · rw [if_neg c45] at H
                                    have c45b0 : ((bt a0 (ji41)) == 10) = false := beq_eq_false_iff_ne.mpr c45
                                    have c45b1 : ((bt a0 (ji41)) != 10) = true := bne_iff_ne.mpr c45
                                    have H' := Aside0.mk H
                                    clear H
                                    have p189 : 0 ≤ (x11_2 : Int) := of_decide_eq_true (by first | (with_reducible assumption) | assumption)
                                    have q189 : x11_2 < (t183.length : Int) := of_decide_eq_true (by first | (with_reducible assumption) | assumption)
                                    obtain ⟨ad189, e189, hx189_0⟩ := Kd.at_string (Kd.R_reads' HO_6.out).2.2 x11_2 p189 q189
                                    cases e189
                                    replace p189 := eq_true p189
                                    replace q189 := eq_true q189
                                    go_wp2_with (first | ((with_reducible refine gate_callee (f := 58) rfl ?_); refine goesL_ (some 59) rfl rfl Tryd.func58 (by kernel_rfl) rfl #[.string (rdOf ByteArray.empty t183 x11_2)] rfl (by (try simp only [List.map_toArray, List.map_cons, List.map_nil]); first | done | rfl | (simp only [List.length_drop, List.length_take]; rfl)) ?_; (with_reducible refine (motleyref25_isBlank.calls k2 (rdOf ByteArray.empty t183 x11_2) false _ A24.out).mono ?_); rintro e w' ⟨rfl, ⟨nd, rfl⟩⟩; refine ⟨_, rfl, ?_⟩; have p191 : 0 ≤ (x11_2 : Int) := of_decide_eq_true (by first | (with_reducible assumption) | assumption); have q191 : x11_2 < (t183.length : Int) := of_decide_eq_true (by first | (with_reducible assumption) | assumption); obtain ⟨ad191, e191, hx191_0⟩ := Kd.at_string (Kd.R_reads' HO_6.out).2.2 x11_2 p191 q191; obtain rfl : ad189 = ad191 := (by injection e191); replace p191 := eq_true p191; replace q191 := eq_true q191; have p44 : 0 ≤ ((ji41) : Int) := of_decide_eq_true (by first | (with_reducible assumption) | assumption); have q44 : (ji41) < (a0.size : Int) := of_decide_eq_true (by first | (with_reducible assumption) | assumption); have hx44 := bt_at a0 (ji41); replace p44 := eq_true p44; replace q44 := eq_true q44))
                                    go_roundg k2
                                    case measure => have := HK1.out; have := HK2.out; omega
                                    case rel => exact ⟨(x10_2 ++ ((rdOf ByteArray.empty t183 x11_2).extract (ji20 : Int).toNat (rdOf ByteArray.empty t183 x11_2).size)), (wrap64 (x11_2 + 1)), (by first | rfl | (simp; done) | (simp only [← hji20] <;> (first | rfl | simp)) | (simp [*]; done)), (by first | rfl | (simp; done) | (simp [*]; done) | (simp; generalize ByteArray.toList _ = l_; cases l_ <;> rfl)), H', ⟨by have := HK1.out; have := HK2.out; omega⟩, ⟨by (with_reducible repeat (first | apply Kd.R_alloc | apply Kd.R_drewN | apply Kd.R_drew)); exact HO_6.out⟩, ⟨by repeat (first | (with_reducible first | exact HB.out | apply below_alloc | apply pw_below_drewN | apply below_drew1) | exact HB.out)⟩⟩
                                · rw [if_neg c43] at H
                                  exact absurd H (by simp)
                              · rw [if_neg c42] at H
                                exact absurd H (by simp)
                            · rw [if_neg c40] at H
                              have c40b0 : decide (0 < (a0.size : Int)) = false := decide_eq_false c40
                              have c40b1 : decide (0 < a0.size) = false := decide_eq_false (by omega)
                              clear c40
                              have H' := Aside0.mk H
                              clear H
                              have p189 : 0 ≤ (x11_2 : Int) := of_decide_eq_true (by first | (with_reducible assumption) | assumption)
                              have q189 : x11_2 < (t183.length : Int) := of_decide_eq_true (by first | (with_reducible assumption) | assumption)
                              obtain ⟨ad189, e189, hx189_0⟩ := Kd.at_string (Kd.R_reads' HO_6.out).2.2 x11_2 p189 q189
                              cases e189
                              replace p189 := eq_true p189
                              replace q189 := eq_true q189
                              go_wp2_with (first | ((with_reducible refine gate_callee (f := 58) rfl ?_); refine goesL_ (some 59) rfl rfl Tryd.func58 (by kernel_rfl) rfl #[.string (rdOf ByteArray.empty t183 x11_2)] rfl (by (try simp only [List.map_toArray, List.map_cons, List.map_nil]); first | done | rfl | (simp only [List.length_drop, List.length_take]; rfl)) ?_; (with_reducible refine (motleyref25_isBlank.calls k2 (rdOf ByteArray.empty t183 x11_2) false _ A24.out).mono ?_); rintro e w' ⟨rfl, ⟨nd, rfl⟩⟩; refine ⟨_, rfl, ?_⟩; have p191 : 0 ≤ (x11_2 : Int) := of_decide_eq_true (by first | (with_reducible assumption) | assumption); have q191 : x11_2 < (t183.length : Int) := of_decide_eq_true (by first | (with_reducible assumption) | assumption); obtain ⟨ad191, e191, hx191_0⟩ := Kd.at_string (Kd.R_reads' HO_6.out).2.2 x11_2 p191 q191; obtain rfl : ad189 = ad191 := (by injection e191); replace p191 := eq_true p191; replace q191 := eq_true q191))
                              go_roundg k2
                              case measure => have := HK1.out; have := HK2.out; omega
                              case rel => exact ⟨(x10_2 ++ ((rdOf ByteArray.empty t183 x11_2).extract (ji20 : Int).toNat (rdOf ByteArray.empty t183 x11_2).size)), (wrap64 (x11_2 + 1)), (by first | rfl | (simp; done) | (simp only [← hji20] <;> (first | rfl | simp)) | (simp [*]; done)), (by first | rfl | (simp; done) | (simp [*]; done) | (simp; generalize ByteArray.toList _ = l_; cases l_ <;> rfl)), H', ⟨by have := HK1.out; have := HK2.out; omega⟩, ⟨by (with_reducible repeat (first | apply Kd.R_alloc | apply Kd.R_drewN | apply Kd.R_drew)); exact HO_6.out⟩, ⟨by repeat (first | (with_reducible first | exact HB.out | apply below_alloc | apply pw_below_drewN | apply below_drew1) | exact HB.out)⟩⟩
                        · rw [if_neg c37] at H
                          exact absurd H (by simp)
                      · rw [if_neg c36] at H
                        exact absurd H (by simp)
                    · rw [if_neg c35] at H
                      exact absurd H (by simp)
                · rw [if_neg c23] at H
                  exact absurd H (by simp)
              · rw [if_neg c22] at H
                have c22b0 : decide (x11_2 < (t183.length : Int)) = false := decide_eq_false c22
                clear c22
                simp only [Option.some.injEq, Prod.mk.injEq] at H
                obtain ⟨rfl, rfl, rfl⟩ := H
                go_wp2
                go_ret3
                exact ⟨by first | rfl | (simp [errW_none, errW_some] <;> rfl) | (simp only [← hji20]; first | rfl | (simp [errW_none, errW_some] <;> rfl)) | (simp [*, errW_none, errW_some] <;> rfl), by repeat (first | (with_reducible first | exact HB.out | apply below_alloc | apply pw_below_drewN | apply below_drew1) | exact HB.out)⟩
  · rw [if_neg c3] at H
    have c3b0 : (t182 == 0) = false := beq_eq_false_iff_ne.mpr c3
    have c3b1 : (t182 != 0) = true := bne_iff_ne.mpr c3
    simp only [Option.some.injEq, Prod.mk.injEq] at H
    obtain ⟨rfl, rfl, rfl⟩ := H
    go_enter Tryd.func24, Tryd.ntmps24
    go_wp2_with (first | ((with_reducible refine gate_callee (f := 34) rfl ?_); refine goesL_ (some 13) rfl rfl Tryd.func34 (by kernel_rfl) rfl #[.string a0] rfl (by (try simp only [List.map_toArray, List.map_cons, List.map_nil]); first | done | rfl | (simp only [List.length_drop, List.length_take]; rfl)) ?_; (with_reducible refine (motleyref25_Asked.calls k a0 t182 _ A2.out).mono ?_); rintro e w' ⟨rfl, ⟨nd, rfl⟩⟩; refine ⟨_, rfl, ?_⟩))
    go_ret3
    exact ⟨by first | rfl | (simp [errW_none, errW_some] <;> rfl) | (simp [*, errW_none, errW_some] <;> rfl), by repeat (first | (with_reducible first | exact HB.out | apply below_alloc | apply pw_below_drewN | apply below_drew1) | exact HB.out)⟩

/-! ### doc_isBlankLine: function 59 -/
def doc_isBlankLine.f (a0 : ByteArray) : Option (Bool) := (strings_Trim.f a0 (⟨#[32]⟩ : ByteArray)).bind fun t192 => (some (t192.toList == ([] : List UInt8)))
set_option maxHeartbeats 8000000 in
set_option maxRecDepth 100000 in
theorem doc_isBlankLine.calls (a0 : ByteArray) (r : Bool) (w : World) (h : doc_isBlankLine.f a0 = some r) :
    Calls Tryd.prog 59 #[.string a0] w fun e w' => e = .returned (.bool r) ∧ Drawn0 w w' := by
  have H : ((strings_Trim.f a0 (⟨#[32]⟩ : ByteArray)).bind fun t192 => (some (t192.toList == ([] : List UInt8)))) = some r := h
  clear h
  replace H := Option.bind_eq_some_iff.mp H
  obtain ⟨t192, A20, H⟩ := H
  replace H : (some (t192.toList == ([] : List UInt8))) = some r := H
  have A2 := Aside0.mk A20
  clear A20
  obtain rfl := Option.some.inj H
  go_enter Tryd.func59, Tryd.ntmps59
  go_wp2_with (first | ((with_reducible refine gate_callee (f := 89) rfl ?_); refine goesL_ (some 4) rfl rfl Tryd.func89 (by kernel_rfl) rfl #[.string a0, .string (⟨#[32]⟩ : ByteArray)] rfl (by (try simp only [List.map_toArray, List.map_cons, List.map_nil]); first | done | rfl | (simp only [List.length_drop, List.length_take]; rfl)) ?_; (with_reducible refine (strings_Trim.calls a0 (⟨#[32]⟩ : ByteArray) t192 _ A2.out).mono ?_); rintro e w' ⟨rfl, ⟨nd, rfl⟩⟩; refine ⟨_, rfl, ?_⟩))
  go_ret
  exact ⟨by first | rfl | (simp; done) | (simp [*]; done) | (simp; generalize ByteArray.toList _ = l_; cases l_ <;> rfl), by repeat (first | exact Drawn0.refl _ | apply Drawn0.step)⟩

/-! ### motleylaw25_DocIndents: function 7 -/
def motleylaw25_DocIndents.f (k : Nat) (a0 : ByteArray) : Option (Bool) := (motleylaw25_over.f a0).bind fun t193 => (if t193 = true then ((motleylaw25_known.f k).bind fun t194 => (some t194)) else ((motleyref25_Indent.f k a0).bind fun bt195 => ((doc_Indent.f a0).bind fun bt198 => (if bt198.1.toList = bt195.1.toList then (if bt198.2.1 = bt195.2.1 then (if bt198.2.2 = bt195.2.2 then ((motleylaw25_known.f k).bind fun t201 => (some t201)) else (some false)) else (some false)) else (some false)))))
theorem motleylaw25_DocIndents.mono : ∀ a0 k, LeO (motleylaw25_DocIndents.f k a0) (motleylaw25_DocIndents.f (k + 1) a0) := by
  intro a0 k
  unfold motleylaw25_DocIndents.f
  repeat' first
      | (with_reducible exact motleylaw25_known.mono _)
      | (with_reducible exact motleyref25_Indent.mono _ _)
      | (with_reducible exact LeO.refl _)
      | (with_reducible exact LeO.none _)
      | (with_reducible refine LeO.ite ?_ ?_)
      | (with_reducible refine LeO.bind ?_ (fun _ => ?_))
      | exact motleylaw25_known.mono _
      | exact motleyref25_Indent.mono _ _
      | exact LeO.none _
      | refine LeO.ite ?_ ?_
      | refine LeO.bind ?_ (fun _ => ?_)
set_option maxHeartbeats 8000000 in
set_option maxRecDepth 100000 in
theorem motleylaw25_DocIndents.calls (k : Nat) (a0 : ByteArray) (r : Bool) (w : World) (hL : LaidW w) (h : motleylaw25_DocIndents.f k a0 = some r) :
    Calls Tryd.prog 7 #[.string a0] w fun e w' => e = .returned (.bool r) ∧ Below w.heap.size w w' := by
  have HB := Aside0.mk (Below.refl w.heap.size w)
  have H : ((motleylaw25_over.f a0).bind fun t193 => (if t193 = true then ((motleylaw25_known.f k).bind fun t194 => (some t194)) else ((motleyref25_Indent.f k a0).bind fun bt195 => ((doc_Indent.f a0).bind fun bt198 => (if bt198.1.toList = bt195.1.toList then (if bt198.2.1 = bt195.2.1 then (if bt198.2.2 = bt195.2.2 then ((motleylaw25_known.f k).bind fun t201 => (some t201)) else (some false)) else (some false)) else (some false)))))) = some r := h
  clear h
  replace H := Option.bind_eq_some_iff.mp H
  obtain ⟨t193, A20, H⟩ := H
  replace H : (if t193 = true then ((motleylaw25_known.f k).bind fun t194 => (some t194)) else ((motleyref25_Indent.f k a0).bind fun bt195 => ((doc_Indent.f a0).bind fun bt198 => (if bt198.1.toList = bt195.1.toList then (if bt198.2.1 = bt195.2.1 then (if bt198.2.2 = bt195.2.2 then ((motleylaw25_known.f k).bind fun t201 => (some t201)) else (some false)) else (some false)) else (some false))))) = some r := H
  have A2 := Aside0.mk A20
  clear A20
  by_cases c3 : t193 = true
  · subst c3
    have H1 : ((motleylaw25_known.f k).bind fun t194 => (some t194)) = some r := by rw [if_pos rfl] at H; exact H
    clear H
    have H := H1
    clear H1
    replace H := Option.bind_eq_some_iff.mp H
    obtain ⟨t194, A40, H⟩ := H
    replace H : (some t194) = some r := H
    have A4 := Aside0.mk A40
    clear A40
    obtain rfl := Option.some.inj H
    go_enter Tryd.func7, Tryd.ntmps7
    go_wp2_with (first | ((with_reducible refine gate_callee (f := 10) rfl ?_); refine goesL_ (some 10) rfl rfl Tryd.func10 (by kernel_rfl) rfl #[.string a0] rfl (by (try simp only [List.map_toArray, List.map_cons, List.map_nil]); first | done | rfl | (simp only [List.length_drop, List.length_take]; rfl)) ?_; (with_reducible refine (motleylaw25_over.calls a0 true _ A2.out).mono ?_); rintro e w' ⟨rfl, ⟨nd, rfl⟩⟩; refine ⟨_, rfl, ?_⟩) | ((with_reducible refine gate_callee (f := 11) rfl ?_); refine goesL_ (some 11) rfl rfl Tryd.func11 (by kernel_rfl) rfl #[] rfl (by (try simp only [List.map_toArray, List.map_cons, List.map_nil]); first | done | rfl | (simp only [List.length_drop, List.length_take]; rfl)) ?_; (with_reducible refine (motleylaw25_known.calls k  t194 _ ?side1 A4.out).mono ?_); (case side1 => first | exact hL | exact LaidW.below hL (by repeat (first | (with_reducible first | exact HB.out | apply below_alloc | apply pw_below_drewN | apply below_drew1) | exact HB.out))); rintro e w5 ⟨rfl, hb⟩; refine ⟨_, rfl, ?_⟩; have n0_ := Aside0.mk (below_step (by repeat (first | (with_reducible first | exact HB.out | apply below_alloc | apply pw_below_drewN | apply below_drew1) | exact HB.out)) hb); clear HB; have HB := n0_; clear n0_; (try clear hb); (try clear hb2); (try clear hk); (try clear hi)))
    go_ret
    exact ⟨by first | rfl | (simp [errW_none, errW_some] <;> rfl) | (simp [*, errW_none, errW_some] <;> rfl), by repeat (first | (with_reducible first | exact HB.out | apply below_alloc | apply pw_below_drewN | apply below_drew1) | exact HB.out)⟩
  · replace c3 := Bool.eq_false_iff.mpr c3
    subst c3
    have H1 : ((motleyref25_Indent.f k a0).bind fun bt195 => ((doc_Indent.f a0).bind fun bt198 => (if bt198.1.toList = bt195.1.toList then (if bt198.2.1 = bt195.2.1 then (if bt198.2.2 = bt195.2.2 then ((motleylaw25_known.f k).bind fun t201 => (some t201)) else (some false)) else (some false)) else (some false)))) = some r := by rw [if_neg (show ¬ (false = true) by decide)] at H; exact H
    clear H
    have H := H1
    clear H1
    replace H := Option.bind_eq_some_iff.mp H
    obtain ⟨⟨t195, t196, t197⟩, A60, H⟩ := H
    replace H : ((doc_Indent.f a0).bind fun bt198 => (if bt198.1.toList = t195.toList then (if bt198.2.1 = t196 then (if bt198.2.2 = t197 then ((motleylaw25_known.f k).bind fun t201 => (some t201)) else (some false)) else (some false)) else (some false))) = some r := H
    have A6 := Aside0.mk A60
    clear A60
    replace H := Option.bind_eq_some_iff.mp H
    obtain ⟨⟨t198, t199, t200⟩, A70, H⟩ := H
    replace H : (if t198.toList = t195.toList then (if t199 = t196 then (if t200 = t197 then ((motleylaw25_known.f k).bind fun t201 => (some t201)) else (some false)) else (some false)) else (some false)) = some r := H
    have A7 := Aside0.mk A70
    clear A70
    by_cases c8 : t198.toList = t195.toList
    · rw [if_pos c8] at H
      have c8b0 : (t198.toList == t195.toList) = true := beq_iff_eq.mpr c8
      have c8b1 : (t198.toList != t195.toList) = false := bne_eq_false_iff_eq.mpr c8
      clear c8
      by_cases c9 : t199 = t196
      · rw [if_pos c9] at H
        have c9b0 : (t199 == t196) = true := beq_iff_eq.mpr c9
        have c9b1 : (t199 != t196) = false := bne_eq_false_iff_eq.mpr c9
        clear c9
        by_cases c10 : t200 = t197
        · rw [if_pos c10] at H
          have c10b0 : (t200 == t197) = true := beq_iff_eq.mpr c10
          have c10b1 : (t200 != t197) = false := bne_eq_false_iff_eq.mpr c10
          clear c10
          replace H := Option.bind_eq_some_iff.mp H
          obtain ⟨t201, A110, H⟩ := H
          replace H : (some t201) = some r := H
          have A11 := Aside0.mk A110
          clear A110
          obtain rfl := Option.some.inj H
          go_enter Tryd.func7, Tryd.ntmps7
          go_wp2_with (first | ((with_reducible refine gate_callee (f := 10) rfl ?_); refine goesL_ (some 10) rfl rfl Tryd.func10 (by kernel_rfl) rfl #[.string a0] rfl (by (try simp only [List.map_toArray, List.map_cons, List.map_nil]); first | done | rfl | (simp only [List.length_drop, List.length_take]; rfl)) ?_; (with_reducible refine (motleylaw25_over.calls a0 false _ A2.out).mono ?_); rintro e w' ⟨rfl, ⟨nd, rfl⟩⟩; refine ⟨_, rfl, ?_⟩) | ((with_reducible refine gate_callee (f := 24) rfl ?_); refine goesL_ (some 14) rfl rfl Tryd.func24 (by kernel_rfl) rfl #[.string a0] rfl (by (try simp only [List.map_toArray, List.map_cons, List.map_nil]); first | done | rfl | (simp only [List.length_drop, List.length_take]; rfl)) ?_; (with_reducible refine (motleyref25_Indent.calls k a0 t195 t196 t197 _ A6.out).mono ?_); rintro e w12 ⟨rfl, hb⟩; refine ⟨_, rfl, ?_⟩; have n0_ := Aside0.mk (below_step (by repeat (first | (with_reducible first | exact HB.out | apply below_alloc | apply pw_below_drewN | apply below_drew1) | exact HB.out)) hb); clear HB; have HB := n0_; clear n0_; (try clear hb); (try clear hb2); (try clear hk); (try clear hi)) | ((with_reducible refine gate_callee (f := 25) rfl ?_); refine goesL_ (some 20) rfl rfl Tryd.func25 (by kernel_rfl) rfl #[.string a0] rfl (by (try simp only [List.map_toArray, List.map_cons, List.map_nil]); first | done | rfl | (simp only [List.length_drop, List.length_take]; rfl)) ?_; (with_reducible refine (doc_Indent.calls a0 t198 t199 t200 _ ?side1 A7.out).mono ?_); (case side1 => first | exact hL | exact LaidW.below hL (by repeat (first | (with_reducible first | exact HB.out | apply below_alloc | apply pw_below_drewN | apply below_drew1) | exact HB.out))); rintro e w13 ⟨rfl, hb⟩; refine ⟨_, rfl, ?_⟩; have n0_ := Aside0.mk (below_step (by repeat (first | (with_reducible first | exact HB.out | apply below_alloc | apply pw_below_drewN | apply below_drew1) | exact HB.out)) hb); clear HB; have HB := n0_; clear n0_; (try clear hb); (try clear hb2); (try clear hk); (try clear hi)) | (go_at_call 11; (with_reducible refine (motleylaw25_known.calls k  t201 _ ?side1 A11.out).mono ?_); (case side1 => first | exact hL | exact LaidW.below hL (by repeat (first | (with_reducible first | exact HB.out | apply below_alloc | apply pw_below_drewN | apply below_drew1) | exact HB.out))); rintro e w14 ⟨rfl, hb⟩; have n0_ := Aside0.mk (below_step (by repeat (first | (with_reducible first | exact HB.out | apply below_alloc | apply pw_below_drewN | apply below_drew1) | exact HB.out)) hb); clear HB; have HB := n0_; clear n0_; (try clear hb); (try clear hb2); (try clear hk); (try clear hi)))
          go_ret
          exact ⟨by first | rfl | (simp [errW_none, errW_some] <;> rfl) | (simp [*, errW_none, errW_some] <;> rfl), by repeat (first | (with_reducible first | exact HB.out | apply below_alloc | apply pw_below_drewN | apply below_drew1) | exact HB.out)⟩
        · rw [if_neg c10] at H
          have c10b0 : (t200 == t197) = false := beq_eq_false_iff_ne.mpr c10
          have c10b1 : (t200 != t197) = true := bne_iff_ne.mpr c10
          obtain rfl := Option.some.inj H
          go_enter Tryd.func7, Tryd.ntmps7
          go_wp2_with (first | ((with_reducible refine gate_callee (f := 10) rfl ?_); refine goesL_ (some 10) rfl rfl Tryd.func10 (by kernel_rfl) rfl #[.string a0] rfl (by (try simp only [List.map_toArray, List.map_cons, List.map_nil]); first | done | rfl | (simp only [List.length_drop, List.length_take]; rfl)) ?_; (with_reducible refine (motleylaw25_over.calls a0 false _ A2.out).mono ?_); rintro e w' ⟨rfl, ⟨nd, rfl⟩⟩; refine ⟨_, rfl, ?_⟩) | ((with_reducible refine gate_callee (f := 24) rfl ?_); refine goesL_ (some 14) rfl rfl Tryd.func24 (by kernel_rfl) rfl #[.string a0] rfl (by (try simp only [List.map_toArray, List.map_cons, List.map_nil]); first | done | rfl | (simp only [List.length_drop, List.length_take]; rfl)) ?_; (with_reducible refine (motleyref25_Indent.calls k a0 t195 t196 t197 _ A6.out).mono ?_); rintro e w15 ⟨rfl, hb⟩; refine ⟨_, rfl, ?_⟩; have n0_ := Aside0.mk (below_step (by repeat (first | (with_reducible first | exact HB.out | apply below_alloc | apply pw_below_drewN | apply below_drew1) | exact HB.out)) hb); clear HB; have HB := n0_; clear n0_; (try clear hb); (try clear hb2); (try clear hk); (try clear hi)) | ((with_reducible refine gate_callee (f := 25) rfl ?_); refine goesL_ (some 20) rfl rfl Tryd.func25 (by kernel_rfl) rfl #[.string a0] rfl (by (try simp only [List.map_toArray, List.map_cons, List.map_nil]); first | done | rfl | (simp only [List.length_drop, List.length_take]; rfl)) ?_; (with_reducible refine (doc_Indent.calls a0 t198 t199 t200 _ ?side1 A7.out).mono ?_); (case side1 => first | exact hL | exact LaidW.below hL (by repeat (first | (with_reducible first | exact HB.out | apply below_alloc | apply pw_below_drewN | apply below_drew1) | exact HB.out))); rintro e w16 ⟨rfl, hb⟩; refine ⟨_, rfl, ?_⟩; have n0_ := Aside0.mk (below_step (by repeat (first | (with_reducible first | exact HB.out | apply below_alloc | apply pw_below_drewN | apply below_drew1) | exact HB.out)) hb); clear HB; have HB := n0_; clear n0_; (try clear hb); (try clear hb2); (try clear hk); (try clear hi)))
          go_ret
          exact ⟨by first | rfl | (simp [errW_none, errW_some] <;> rfl) | (simp [*, errW_none, errW_some] <;> rfl), by repeat (first | (with_reducible first | exact HB.out | apply below_alloc | apply pw_below_drewN | apply below_drew1) | exact HB.out)⟩
      · rw [if_neg c9] at H
        have c9b0 : (t199 == t196) = false := beq_eq_false_iff_ne.mpr c9
        have c9b1 : (t199 != t196) = true := bne_iff_ne.mpr c9
        obtain rfl := Option.some.inj H
        go_enter Tryd.func7, Tryd.ntmps7
        go_wp2_with (first | ((with_reducible refine gate_callee (f := 10) rfl ?_); refine goesL_ (some 10) rfl rfl Tryd.func10 (by kernel_rfl) rfl #[.string a0] rfl (by (try simp only [List.map_toArray, List.map_cons, List.map_nil]); first | done | rfl | (simp only [List.length_drop, List.length_take]; rfl)) ?_; (with_reducible refine (motleylaw25_over.calls a0 false _ A2.out).mono ?_); rintro e w' ⟨rfl, ⟨nd, rfl⟩⟩; refine ⟨_, rfl, ?_⟩) | ((with_reducible refine gate_callee (f := 24) rfl ?_); refine goesL_ (some 14) rfl rfl Tryd.func24 (by kernel_rfl) rfl #[.string a0] rfl (by (try simp only [List.map_toArray, List.map_cons, List.map_nil]); first | done | rfl | (simp only [List.length_drop, List.length_take]; rfl)) ?_; (with_reducible refine (motleyref25_Indent.calls k a0 t195 t196 t197 _ A6.out).mono ?_); rintro e w17 ⟨rfl, hb⟩; refine ⟨_, rfl, ?_⟩; have n0_ := Aside0.mk (below_step (by repeat (first | (with_reducible first | exact HB.out | apply below_alloc | apply pw_below_drewN | apply below_drew1) | exact HB.out)) hb); clear HB; have HB := n0_; clear n0_; (try clear hb); (try clear hb2); (try clear hk); (try clear hi)) | ((with_reducible refine gate_callee (f := 25) rfl ?_); refine goesL_ (some 20) rfl rfl Tryd.func25 (by kernel_rfl) rfl #[.string a0] rfl (by (try simp only [List.map_toArray, List.map_cons, List.map_nil]); first | done | rfl | (simp only [List.length_drop, List.length_take]; rfl)) ?_; (with_reducible refine (doc_Indent.calls a0 t198 t199 t200 _ ?side1 A7.out).mono ?_); (case side1 => first | exact hL | exact LaidW.below hL (by repeat (first | (with_reducible first | exact HB.out | apply below_alloc | apply pw_below_drewN | apply below_drew1) | exact HB.out))); rintro e w18 ⟨rfl, hb⟩; refine ⟨_, rfl, ?_⟩; have n0_ := Aside0.mk (below_step (by repeat (first | (with_reducible first | exact HB.out | apply below_alloc | apply pw_below_drewN | apply below_drew1) | exact HB.out)) hb); clear HB; have HB := n0_; clear n0_; (try clear hb); (try clear hb2); (try clear hk); (try clear hi)))
        go_ret
        exact ⟨by first | rfl | (simp [errW_none, errW_some] <;> rfl) | (simp [*, errW_none, errW_some] <;> rfl), by repeat (first | (with_reducible first | exact HB.out | apply below_alloc | apply pw_below_drewN | apply below_drew1) | exact HB.out)⟩
    · rw [if_neg c8] at H
      have c8b0 : (t198.toList == t195.toList) = false := beq_eq_false_iff_ne.mpr c8
      have c8b1 : (t198.toList != t195.toList) = true := bne_iff_ne.mpr c8
      obtain rfl := Option.some.inj H
      go_enter Tryd.func7, Tryd.ntmps7
      go_wp2_with (first | ((with_reducible refine gate_callee (f := 10) rfl ?_); refine goesL_ (some 10) rfl rfl Tryd.func10 (by kernel_rfl) rfl #[.string a0] rfl (by (try simp only [List.map_toArray, List.map_cons, List.map_nil]); first | done | rfl | (simp only [List.length_drop, List.length_take]; rfl)) ?_; (with_reducible refine (motleylaw25_over.calls a0 false _ A2.out).mono ?_); rintro e w' ⟨rfl, ⟨nd, rfl⟩⟩; refine ⟨_, rfl, ?_⟩) | ((with_reducible refine gate_callee (f := 24) rfl ?_); refine goesL_ (some 14) rfl rfl Tryd.func24 (by kernel_rfl) rfl #[.string a0] rfl (by (try simp only [List.map_toArray, List.map_cons, List.map_nil]); first | done | rfl | (simp only [List.length_drop, List.length_take]; rfl)) ?_; (with_reducible refine (motleyref25_Indent.calls k a0 t195 t196 t197 _ A6.out).mono ?_); rintro e w19 ⟨rfl, hb⟩; refine ⟨_, rfl, ?_⟩; have n0_ := Aside0.mk (below_step (by repeat (first | (with_reducible first | exact HB.out | apply below_alloc | apply pw_below_drewN | apply below_drew1) | exact HB.out)) hb); clear HB; have HB := n0_; clear n0_; (try clear hb); (try clear hb2); (try clear hk); (try clear hi)) | ((with_reducible refine gate_callee (f := 25) rfl ?_); refine goesL_ (some 20) rfl rfl Tryd.func25 (by kernel_rfl) rfl #[.string a0] rfl (by (try simp only [List.map_toArray, List.map_cons, List.map_nil]); first | done | rfl | (simp only [List.length_drop, List.length_take]; rfl)) ?_; (with_reducible refine (doc_Indent.calls a0 t198 t199 t200 _ ?side1 A7.out).mono ?_); (case side1 => first | exact hL | exact LaidW.below hL (by repeat (first | (with_reducible first | exact HB.out | apply below_alloc | apply pw_below_drewN | apply below_drew1) | exact HB.out))); rintro e w20 ⟨rfl, hb⟩; refine ⟨_, rfl, ?_⟩; have n0_ := Aside0.mk (below_step (by repeat (first | (with_reducible first | exact HB.out | apply below_alloc | apply pw_below_drewN | apply below_drew1) | exact HB.out)) hb); clear HB; have HB := n0_; clear n0_; (try clear hb); (try clear hb2); (try clear hk); (try clear hi)))
      go_ret
      exact ⟨by first | rfl | (simp [errW_none, errW_some] <;> rfl) | (simp [*, errW_none, errW_some] <;> rfl), by repeat (first | (with_reducible first | exact HB.out | apply below_alloc | apply pw_below_drewN | apply below_drew1) | exact HB.out)⟩

/-- THE ONE PURE STATEMENT of motleylaw25_DocIndents: yours. -/
def motleylaw25_DocIndents.Pure : Prop := ∀ (a0 : ByteArray), a0.size ≤ 140737488351232 → ∃ k, motleylaw25_DocIndents.f k a0 = some true
theorem motleylaw25_DocIndents.walk (P : motleylaw25_DocIndents.Pure) (a0 : ByteArray) (w : World) (hL : LaidW w) (w0 : a0.size ≤ 140737488351232) :
    Calls Tryd.prog 7 #[.string a0] w fun e w' => e = .returned (.bool true) ∧ Below w.heap.size w w' := by
  obtain ⟨k, h⟩ := P a0 w0
  refine (motleylaw25_DocIndents.calls k a0 true w hL h).mono ?_
  rintro e w' ⟨rfl, hd⟩
  exact ⟨rfl, hd⟩

end Go.Proofs.YthdalpminhbckaaDoor.M
