/- What the Go functions of this seat give, as Lean functions, and that each call comes to it. Written by the session's own program (wip/tools/mprint.py). -/
import Derived.Test.YtegapacamclipaaDoorM0
import Derived.Test.YtegapacamclipaaDoorM1
import Derived.Test.YtegapacamclipaaDoorM2
import Derived.Test.YtegapacamclipaaDoorM3
import Derived.Test.YtegapacamclipaaDoorM4
namespace Go.Proofs.YtegapacamclipaaDoor.M
open Go.RowKit Go.Proofs.YtegapacamclipaaDoor.G Go.Proofs.YtegapacamclipaaDoor.K Go.Proofs.YtegapacamclipaaDoorW.PrintWords Go.Proofs.YtegapacamclipaaDoorW.PrintLast Go.Proofs.YtegapacamclipaaDoorW.PrintMore
attribute [local go_sem] max2_int min2_int max_two min_two max_three min_three max_four min_four   -- for this text's walks alone
set_option linter.unusedVariables false
set_option linter.unusedSimpArgs false

/-! ### motleyref02_Sub: function 22 -/
mutual
def motleyref02_Sub.j0 : Nat → Int → Int → List Int → Bool → Option (ByteArray × Int)
  | 0, _, _, _, _ => none
  | k + 1, x1, x2, x9, x28 => if x28 = true then (some ((⟨#[]⟩ : ByteArray), 1)) else (if x1 < 0 then (motleyref02_Sub.j1 k (wrap64 (x1 + (x9.length : Int))) x2 x9) else (motleyref02_Sub.j1 k x1 x2 x9))
def motleyref02_Sub.j1 : Nat → Int → Int → List Int → Option (ByteArray × Int)
  | 0, _, _, _ => none
  | k + 1, x1, x2, x9 => if x2 < (wrap64 (-(x9.length : Int))) then (if 0 < x1 then (some ((⟨#[]⟩ : ByteArray), 0)) else (if 0 ≤ x1 then (if x1 ≤ 0 then (if 0 ≤ (x9.length : Int) then ((motleyref02_Write.f k ((x9.take 0).drop (x1 : Int).toNat)).bind fun t454 => (some (t454, 0))) else (none)) else (none)) else (none))) else (if x2 < 0 then (if (wrap64 ((x9.length : Int) + x2)) < x1 then (some ((⟨#[]⟩ : ByteArray), 0)) else (if 0 ≤ x1 then (if x1 ≤ (wrap64 ((x9.length : Int) + x2)) then (if (wrap64 ((x9.length : Int) + x2)) ≤ (x9.length : Int) then ((motleyref02_Write.f k ((x9.take ((wrap64 ((x9.length : Int) + x2)) : Int).toNat).drop (x1 : Int).toNat)).bind fun t459 => (some (t459, 0))) else (none)) else (none)) else (none))) else (if x2 < (wrap64 ((x9.length : Int) - x1)) then (if (wrap64 (x1 + x2)) < x1 then (some ((⟨#[]⟩ : ByteArray), 0)) else (if 0 ≤ x1 then (if x1 ≤ (wrap64 (x1 + x2)) then (if (wrap64 (x1 + x2)) ≤ (x9.length : Int) then ((motleyref02_Write.f k ((x9.take ((wrap64 (x1 + x2)) : Int).toNat).drop (x1 : Int).toNat)).bind fun t464 => (some (t464, 0))) else (none)) else (none)) else (none))) else (if (x9.length : Int) < x1 then (some ((⟨#[]⟩ : ByteArray), 0)) else (if 0 ≤ x1 then (if x1 ≤ (x9.length : Int) then (if (x9.length : Int) ≤ (x9.length : Int) then ((motleyref02_Write.f k ((x9.take ((x9.length : Int) : Int).toNat).drop (x1 : Int).toNat)).bind fun t469 => (some (t469, 0))) else (none)) else (none)) else (none)))))
end
def motleyref02_Sub.f (k : Nat) (a0 : ByteArray) (a1 : Int) (a2 : Int) : Option (ByteArray × Int) := (motleyref02_Checked.f k a0).bind fun t446 => (if t446 = 0 then ((motleyref02_Runes.f k a0).bind fun t447 => (if a1 < (wrap64 (-(t447.length : Int))) then (motleyref02_Sub.j0 k a1 a2 t447 true) else (motleyref02_Sub.j0 k a1 a2 t447 (decide (a1 > (t447.length : Int)))))) else (some ((⟨#[]⟩ : ByteArray), t446)))
theorem motleyref02_Sub.mono_l : ∀ k, (∀ y0 y1 y2 y3, LeO (motleyref02_Sub.j0 k y0 y1 y2 y3) (motleyref02_Sub.j0 (k + 1) y0 y1 y2 y3)) ∧ (∀ y0 y1 y2, LeO (motleyref02_Sub.j1 k y0 y1 y2) (motleyref02_Sub.j1 (k + 1) y0 y1 y2))
  | 0 => ⟨fun _ _ _ _ r h => by simp [motleyref02_Sub.j0] at h, fun _ _ _ r h => by simp [motleyref02_Sub.j1] at h⟩
  | k + 1 => by
    obtain ⟨ih0, ih1⟩ := motleyref02_Sub.mono_l k
    refine ⟨?_, ?_⟩
    · intro y0 y1 y2 y3
      unfold motleyref02_Sub.j0
      repeat' first
      | (with_reducible exact ih0 _ _ _ _)
      | (with_reducible exact ih1 _ _ _)
      | (with_reducible exact motleyref02_Checked.mono _ _)
      | (with_reducible exact motleyref02_Runes.mono _ _)
      | (with_reducible exact motleyref02_Write.mono _ _)
      | (with_reducible exact LeO.refl _)
      | (with_reducible exact LeO.none _)
      | (with_reducible refine LeO.ite ?_ ?_)
      | (with_reducible refine LeO.bind ?_ (fun _ => ?_))
      | exact ih0 _ _ _ _
      | exact ih1 _ _ _
      | exact motleyref02_Checked.mono _ _
      | exact motleyref02_Runes.mono _ _
      | exact motleyref02_Write.mono _ _
      | exact LeO.none _
      | refine LeO.ite ?_ ?_
      | refine LeO.bind ?_ (fun _ => ?_)
    · intro y0 y1 y2
      unfold motleyref02_Sub.j1
      repeat' first
      | (with_reducible exact ih0 _ _ _ _)
      | (with_reducible exact ih1 _ _ _)
      | (with_reducible exact motleyref02_Checked.mono _ _)
      | (with_reducible exact motleyref02_Runes.mono _ _)
      | (with_reducible exact motleyref02_Write.mono _ _)
      | (with_reducible exact LeO.refl _)
      | (with_reducible exact LeO.none _)
      | (with_reducible refine LeO.ite ?_ ?_)
      | (with_reducible refine LeO.bind ?_ (fun _ => ?_))
      | exact ih0 _ _ _ _
      | exact ih1 _ _ _
      | exact motleyref02_Checked.mono _ _
      | exact motleyref02_Runes.mono _ _
      | exact motleyref02_Write.mono _ _
      | exact LeO.none _
      | refine LeO.ite ?_ ?_
      | refine LeO.bind ?_ (fun _ => ?_)
theorem motleyref02_Sub.mono : ∀ a0 a1 a2 k, LeO (motleyref02_Sub.f k a0 a1 a2) (motleyref02_Sub.f (k + 1) a0 a1 a2) := by
  intro a0 a1 a2 k
  obtain ⟨ih0, ih1⟩ := motleyref02_Sub.mono_l k
  unfold motleyref02_Sub.f
  repeat' first
      | (with_reducible exact ih0 _ _ _ _)
      | (with_reducible exact ih1 _ _ _)
      | (with_reducible exact motleyref02_Checked.mono _ _)
      | (with_reducible exact motleyref02_Runes.mono _ _)
      | (with_reducible exact motleyref02_Write.mono _ _)
      | (with_reducible exact LeO.refl _)
      | (with_reducible exact LeO.none _)
      | (with_reducible refine LeO.ite ?_ ?_)
      | (with_reducible refine LeO.bind ?_ (fun _ => ?_))
      | exact ih0 _ _ _ _
      | exact ih1 _ _ _
      | exact motleyref02_Checked.mono _ _
      | exact motleyref02_Runes.mono _ _
      | exact motleyref02_Write.mono _ _
      | exact LeO.none _
      | refine LeO.ite ?_ ?_
      | refine LeO.bind ?_ (fun _ => ?_)
set_option maxHeartbeats 8000000 in
set_option maxRecDepth 100000 in
theorem motleyref02_Sub.calls (k : Nat) (a0 : ByteArray) (a1 : Int) (a2 : Int) (r1 : ByteArray) (r2 : Int) (w : World) (h : motleyref02_Sub.f k a0 a1 a2 = some (r1, r2)) :
    Calls Tryd.prog 22 #[.string a0, .int .i64 a1, .int .i64 a2] w fun e w' => e = .returned (.tuple #[.string r1, .int .i64 r2]) ∧ Below w.heap.size w w' := by
  have HB := Aside0.mk (Below.refl w.heap.size w)
  have H : ((motleyref02_Checked.f k a0).bind fun t446 => (if t446 = 0 then ((motleyref02_Runes.f k a0).bind fun t447 => (if a1 < (wrap64 (-(t447.length : Int))) then (motleyref02_Sub.j0 k a1 a2 t447 true) else (motleyref02_Sub.j0 k a1 a2 t447 (decide (a1 > (t447.length : Int)))))) else (some ((⟨#[]⟩ : ByteArray), t446)))) = some (r1, r2) := h
  clear h
  replace H := Option.bind_eq_some_iff.mp H
  obtain ⟨t446, A40, H⟩ := H
  replace H : (if t446 = 0 then ((motleyref02_Runes.f k a0).bind fun t447 => (if a1 < (wrap64 (-(t447.length : Int))) then (motleyref02_Sub.j0 k a1 a2 t447 true) else (motleyref02_Sub.j0 k a1 a2 t447 (decide (a1 > (t447.length : Int)))))) else (some ((⟨#[]⟩ : ByteArray), t446))) = some (r1, r2) := H
  have A4 := Aside0.mk A40
  clear A40
  by_cases c5 : t446 = 0
  · rw [if_pos c5] at H
    have c5b0 : (t446 == 0) = true := beq_iff_eq.mpr c5
    have c5b1 : (t446 != 0) = false := bne_eq_false_iff_eq.mpr c5
    clear c5
    replace H := Option.bind_eq_some_iff.mp H
    obtain ⟨t447, A60, H⟩ := H
    replace H : (if a1 < (wrap64 (-(t447.length : Int))) then (motleyref02_Sub.j0 k a1 a2 t447 true) else (motleyref02_Sub.j0 k a1 a2 t447 (decide (a1 > (t447.length : Int))))) = some (r1, r2) := H
    have A6 := Aside0.mk A60
    clear A60
    have HC7 := Aside0.mk H
    clear H
    go_enter Tryd.func22, Tryd.ntmps22
    go_upto_region 5 with (first | ((with_reducible refine gate_callee (f := 54) rfl ?_); refine goesL_ (some 12) rfl rfl Tryd.func54 (by kernel_rfl) rfl #[.string a0] rfl (by (try simp only [List.map_toArray, List.map_cons, List.map_nil]); first | done | rfl | (simp only [List.length_drop, List.length_take]; rfl)) ?_; (with_reducible refine (motleyref02_Checked.calls k a0 t446 _ A4.out).mono ?_); rintro e w' ⟨rfl, ⟨nd, rfl⟩⟩; refine ⟨_, rfl, ?_⟩) | ((with_reducible refine gate_callee (f := 55) rfl ?_); refine goesL_ (some 17) rfl rfl Tryd.func55 (by kernel_rfl) rfl #[.string a0] rfl (by (try simp only [List.map_toArray, List.map_cons, List.map_nil]); first | done | rfl | (simp only [List.length_drop, List.length_take]; rfl)) ?_; (with_reducible refine (motleyref02_Runes.calls k a0 t447 _ A6.out).mono ?_); rintro e w8 ⟨v448, rfl, ho0, hb⟩; refine ⟨_, rfl, ?_⟩; have n0_ := Aside0.mk (Kd.R_lower ho0 (below_size (by repeat (first | (with_reducible first | exact HB.out | apply below_alloc | apply pw_below_drewN | apply below_drew1) | exact HB.out)))); have n1_ := Aside0.mk (below_step (by repeat (first | (with_reducible first | exact HB.out | apply below_alloc | apply pw_below_drewN | apply below_drew1) | exact HB.out)) hb); clear HB; have HO449 := n0_; have HB := n1_; clear n0_ n1_; (try clear hb); (try clear hb2); (try clear hk); (try clear hi); (try clear ho0)))
    (try simp only [Act.put, List.setIfInBounds_toArray, List.set_cons_zero, List.set_cons_succ])
    go_cut [28] (fun v28 wc => ∃ (kq : Nat) (x28_6 : Bool), v28 = .bool x28_6 ∧ Aside0 (motleyref02_Sub.j0 kq a1 a2 t447 x28_6 = some (r1, r2)) ∧ Aside0 (kq ≤ k) ∧ Aside0 (Kd.R (Kd.int .i64) 3 wc w.heap.size (fun _ => True) v448 t447) ∧ Aside0 (Below w.heap.size w wc))
    case first =>
      have H := HC7.out
      clear HC7
      by_cases c9 : a1 < (wrap64 (-(t447.length : Int)))
      · rw [if_pos c9] at H
        have c9b0 : decide (a1 < (wrap64 (-(t447.length : Int)))) = true := decide_eq_true c9
        clear c9
        (first | rw [c9b0] | (simp only [i64_w, i32_w]; rw [c9b0]) | skip)
        have H' := Aside0.mk H
        clear H
        obtain ⟨Ao10, co10, eo10⟩ := Kd.R_slice HO449.out
        subst eo10
        go_wp2
        go_meet
        case rel => exact ⟨_, (true), (by first | rfl | (simp; done) | (simp [*]; done)), H', ⟨by first | omega | exact Nat.le_refl _⟩, ⟨by (with_reducible repeat (first | apply Kd.R_alloc | apply Kd.R_drewN | apply Kd.R_drew)); exact HO449.out⟩, ⟨by repeat (first | (with_reducible first | exact HB.out | apply below_alloc | apply pw_below_drewN | apply below_drew1) | exact HB.out)⟩⟩
      · rw [if_neg c9] at H
        have c9b0 : decide (a1 < (wrap64 (-(t447.length : Int)))) = false := decide_eq_false c9
        clear c9
        (first | rw [c9b0] | (simp only [i64_w, i32_w]; rw [c9b0]) | skip)
        have H' := Aside0.mk H
        clear H
        obtain ⟨Ao11, co11, eo11⟩ := Kd.R_slice HO449.out
        subst eo11
        go_wp2
        go_meet
        case rel => exact ⟨_, (decide (a1 > (t447.length : Int))), (by first | rfl | (simp; done) | (simp [*]; done)), H', ⟨by first | omega | exact Nat.le_refl _⟩, ⟨by (with_reducible repeat (first | apply Kd.R_alloc | apply Kd.R_drewN | apply Kd.R_drew)); exact HO449.out⟩, ⟨by repeat (first | (with_reducible first | exact HB.out | apply below_alloc | apply pw_below_drewN | apply below_drew1) | exact HB.out)⟩⟩
    case rest =>
      clear HC7
      try clear c2
      try clear p2
      try clear c5
      try clear c5b0
      try clear c5b1
      try clear p6
      try clear c9
      try clear c9b0
      obtain ⟨kq, x28_6, rfl, HA, HJ6, HO_9, HB⟩ := hcut
      cases kq with
      | zero => exact absurd HA.out (by simp [motleyref02_Sub.j0])
      | succ kj6 =>
        have H := HA.out
        clear HA
        simp only [motleyref02_Sub.j0] at H
        by_cases c12 : x28_6 = true
        · subst c12
          have H1 : (some ((⟨#[]⟩ : ByteArray), 1)) = some (r1, r2) := by rw [if_pos rfl] at H; exact H
          clear H
          have H := H1
          clear H1
          simp only [Option.some.injEq, Prod.mk.injEq] at H
          obtain ⟨rfl, rfl⟩ := H
          go_wp2
          go_ret2
          exact ⟨by first | rfl | (simp [errW_none, errW_some] <;> rfl) | (simp [*, errW_none, errW_some] <;> rfl), by repeat (first | (with_reducible first | exact HB.out | apply below_alloc | apply pw_below_drewN | apply below_drew1) | exact HB.out)⟩
        · replace c12 := Bool.eq_false_iff.mpr c12
          subst c12
          have H1 : (if a1 < 0 then (motleyref02_Sub.j1 kj6 (wrap64 (a1 + (t447.length : Int))) a2 t447) else (motleyref02_Sub.j1 kj6 a1 a2 t447)) = some (r1, r2) := by rw [if_neg (show ¬ (false = true) by decide)] at H; exact H
          clear H
          have H := H1
          clear H1
          have HC13 := Aside0.mk H
          clear H
          go_upto_if 30 with (fail)
          go_cut [1] (fun v1 wc => ∃ (kq : Nat) (x1_12 : Int), v1 = .int .i64 x1_12 ∧ Aside0 (motleyref02_Sub.j1 kq x1_12 a2 t447 = some (r1, r2)) ∧ Aside0 (kq ≤ kj6) ∧ Aside0 (Kd.R (Kd.int .i64) 3 wc w.heap.size (fun _ => True) v448 t447) ∧ Aside0 (Below w.heap.size w wc))
          case first =>
            have H := HC13.out
            clear HC13
            by_cases c14 : a1 < 0
            · rw [if_pos c14] at H
              have c14b0 : decide (a1 < 0) = true := decide_eq_true c14
              clear c14
              (first | rw [c14b0] | (simp only [i64_w, i32_w]; rw [c14b0]) | skip)
              have H' := Aside0.mk H
              clear H
              obtain ⟨Ao15, co15, eo15⟩ := Kd.R_slice HO_9.out
              subst eo15
              go_wp2
              go_meet
              case rel => exact ⟨_, (wrap64 (a1 + (t447.length : Int))), (by first | rfl | (simp; done) | (simp [*]; done)), H', ⟨by have := HJ6.out; first | omega | exact Nat.le_refl _⟩, ⟨by (with_reducible repeat (first | apply Kd.R_alloc | apply Kd.R_drewN | apply Kd.R_drew)); exact HO_9.out⟩, ⟨by repeat (first | (with_reducible first | exact HB.out | apply below_alloc | apply pw_below_drewN | apply below_drew1) | exact HB.out)⟩⟩
            · rw [if_neg c14] at H
              have c14b0 : decide (a1 < 0) = false := decide_eq_false c14
              clear c14
              (first | rw [c14b0] | (simp only [i64_w, i32_w]; rw [c14b0]) | skip)
              have H' := Aside0.mk H
              clear H
              go_wp2
              go_meet
              case rel => exact ⟨_, (a1), (by first | rfl | (simp; done) | (simp [*]; done)), H', ⟨by have := HJ6.out; first | omega | exact Nat.le_refl _⟩, ⟨by (with_reducible repeat (first | apply Kd.R_alloc | apply Kd.R_drewN | apply Kd.R_drew)); exact HO_9.out⟩, ⟨by repeat (first | (with_reducible first | exact HB.out | apply below_alloc | apply pw_below_drewN | apply below_drew1) | exact HB.out)⟩⟩
          case rest =>
            clear HC13
            try clear c1
            try clear c2
            try clear p2
            try clear c5
            try clear c5b0
            try clear c5b1
            try clear p6
            try clear c9
            try clear c9b0
            try clear c12
            try clear c14
            try clear c14b0
            try clear p2
            try clear p6
            obtain ⟨kq, x1_12, rfl, HA, HJ12, HO_9, HB⟩ := hcut
            cases kq with
            | zero => exact absurd HA.out (by simp [motleyref02_Sub.j1])
            | succ kj12 =>
              have H := HA.out
              clear HA
              simp only [motleyref02_Sub.j1] at H
              by_cases c16 : a2 < (wrap64 (-(t447.length : Int)))
              · rw [if_pos c16] at H
                have c16b0 : decide (a2 < (wrap64 (-(t447.length : Int)))) = true := decide_eq_true c16
                clear c16
                by_cases c17 : 0 < x1_12
                · rw [if_pos c17] at H
                  have c17b0 : decide (0 < x1_12) = true := decide_eq_true c17
                  clear c17
                  simp only [Option.some.injEq, Prod.mk.injEq] at H
                  obtain ⟨rfl, rfl⟩ := H
                  obtain ⟨Ao18, co18, eo18⟩ := Kd.R_slice HO_9.out
                  subst eo18
                  go_wp2
                  go_ret2
                  exact ⟨by first | rfl | (simp [errW_none, errW_some] <;> rfl) | (simp [*, errW_none, errW_some] <;> rfl), by repeat (first | (with_reducible first | exact HB.out | apply below_alloc | apply pw_below_drewN | apply below_drew1) | exact HB.out)⟩
                · rw [if_neg c17] at H
                  have c17b0 : decide (0 < x1_12) = false := decide_eq_false c17
                  clear c17
                  by_cases c19 : 0 ≤ x1_12
                  · rw [if_pos c19] at H
                    have c19b0 := eq_true c19
                    have c19b1 : decide (0 ≤ x1_12) = true := decide_eq_true c19
                    clear c19
                    by_cases c20 : x1_12 ≤ 0
                    · rw [if_pos c20] at H
                      have c20b0 := eq_true c20
                      have c20b1 : decide (x1_12 ≤ 0) = true := decide_eq_true c20
                      clear c20
                      by_cases c21 : 0 ≤ (t447.length : Int)
                      · rw [if_pos c21] at H
                        have c21b0 := eq_true c21
                        have c21b1 : decide (0 ≤ (t447.length : Int)) = true := decide_eq_true c21
                        clear c21
                        obtain ⟨y450, hy450⟩ : ∃ y_ : List Int, y_ = ((t447.take 0).drop (x1_12 : Int).toNat) := ⟨_, rfl⟩
                        replace H : ((motleyref02_Write.f kj12 y450).bind fun t454 => (some (t454, 0))) = some (r1, r2) := by first | (rw [hy450]; with_reducible exact H) | (have H2_ := (Option.bind_some _ _).symm.trans H; rw [hy450]; with_reducible exact H2_) | (have H2_ := (Option.bind_some _ _).symm.trans H; with_reducible exact H2_) | with_reducible exact H | (rw [hy450]; exact H) | exact H
                        have Ny450 := Aside0.mk hy450
                        clear hy450
                        replace H := Option.bind_eq_some_iff.mp H
                        obtain ⟨t454, A220, H⟩ := H
                        replace H : (some (t454, 0)) = some (r1, r2) := H
                        have A22 := Aside0.mk A220
                        clear A220
                        simp only [Option.some.injEq, Prod.mk.injEq] at H
                        obtain ⟨rfl, rfl⟩ := H
                        obtain ⟨Ao23, co23, eo23⟩ := Kd.R_slice HO_9.out
                        subst eo23
                        have q24 : (0 : Int) ≤ ((t447.length : Int) : Int) := of_decide_eq_true (by first | (with_reducible assumption) | assumption)
                        obtain ⟨i024, hi024, _, hsz24, _⟩ := info_parts info3
                        have hroom24 : t447.length ≤ co23 := (Kd.R_reads' HO_9.out).2.1
                        have hC24 : Kd.C (Kd.int .i64) _ Ao23 t447.length t447 := (Kd.R_reads' HO_9.out).2.2
                        have ql24 : (x1_12 : Int) ≤ (0 : Int) := of_decide_eq_true (by first | (with_reducible assumption) | assumption)
                        have q024 : (0 : Int) ≤ (x1_12 : Int) := of_decide_eq_true (by first | (with_reducible assumption) | assumption)
                        have hcut24 := cut_mid (P := Tryd.prog) 36 3 .i64 .i64 Tryd.underlying36 hi024 1 hsz24 Ao23 t447.length co23 x1_12 0 q024 ql24 q24 hroom24
                        have hr24 := Kd.C_mid (lo := (x1_12 : Int).toNat) (hi := (0 : Int).toNat) (c := co23) hC24 (by omega) (by omega) hroom24
                        obtain ⟨A24, hA24⟩ : ∃ A1, A1 = (if co23 = (x1_12 : Int).toNat then Ao23 else (Ao23 : Option Addr).map (·.add ((x1_12 : Int).toNat * 1))) := ⟨_, rfl⟩
                        obtain ⟨c24, hc24⟩ : ∃ c1, c1 = co23 - (x1_12 : Int).toNat := ⟨_, rfl⟩
                        have hy24 : y450.length = (0 : Int).toNat - (x1_12 : Int).toNat := (by rw [Ny450.out, List.length_drop, List.length_take] <;> omega)
                        rw [show ((t447).take (0 : Int).toNat).drop (x1_12 : Int).toNat = y450 from Ny450.out.symm] at hr24
                        replace hr24 : Kd.C (Kd.int .i64) _ A24 y450.length y450 := (by rw [hA24]; exact hr24)
                        rw [← hy24, ← hA24, ← hc24] at hcut24
                        have HR453 := Aside0.mk hr24
                        have HC453 := Aside0.mk (show y450.length ≤ c24 from by rw [hy24, hc24]; exact Nat.sub_le_sub_right (Nat.le_trans (by omega) hroom24) _)
                        clear hr24 hC24 hroom24 hi024 hsz24 hc24
                        have KY24 := Aside0.mk hy24
                        have KA24 := Aside0.mk hA24
                        clear hy24 hA24
                        have KL24 := Aside0.mk (show 0 ≤ t447.length from by omega)
                        have KM24 := Aside0.mk (show (x1_12 : Int).toNat ≤ 0 from by omega)
                        replace q24 := eq_true q24
                        go_wp2_with (first | ((with_reducible refine gate_callee (f := 56) rfl ?_); refine goesL_ (some 67) rfl rfl Tryd.func56 (by kernel_rfl) rfl #[.slice A24 y450.length c24] rfl (by (try simp only [List.map_toArray, List.map_cons, List.map_nil]); first | done | rfl | (simp only [List.length_drop, List.length_take]; rfl)) ?_; (with_reducible refine (motleyref02_Write.calls kj12 _ _ y450 t454 _ ?side1 ?side2 A22.out).mono ?_); (case side1 => repeat (first | exact (by repeat (first | (with_reducible exact HR453.out) | (with_reducible refine Kd.C_alloc ?_ _) | (with_reducible refine Kd.C_drewN ?_ _) | (with_reducible refine Kd.C_drew ?_) | exact HR453.out)) | (with_reducible refine Kd.C_alloc ?_ _) | (with_reducible refine Kd.C_drewN ?_ _) | (with_reducible refine Kd.C_drew ?_))); (case side2 => exact HC453.out); rintro e w25 ⟨rfl, hb⟩; refine ⟨_, rfl, ?_⟩; have n0_ := Aside0.mk (Kd.R_below (by (with_reducible repeat (first | apply Kd.R_alloc | apply Kd.R_drewN | apply Kd.R_drew)); exact HO_9.out) hb); have n1_ := Aside0.mk (Kd.C_below (by repeat (first | (with_reducible exact HR453.out) | (with_reducible refine Kd.C_alloc ?_ _) | (with_reducible refine Kd.C_drewN ?_ _) | (with_reducible refine Kd.C_drew ?_) | exact HR453.out)) hb); have n2_ := Aside0.mk (below_step (by repeat (first | (with_reducible first | exact HB.out | apply below_alloc | apply pw_below_drewN | apply below_drew1) | exact HB.out)) hb); clear HO_9; clear HR453; clear HB; have HO_9 := n0_; have HR453 := n1_; have HB := n2_; clear n0_ n1_ n2_; (try clear hb); (try clear hb2); (try clear hk); (try clear hi)))
                        go_ret2
                        exact ⟨by first | rfl | (simp [errW_none, errW_some] <;> rfl) | (simp [*, errW_none, errW_some] <;> rfl), by repeat (first | (with_reducible first | exact HB.out | apply below_alloc | apply pw_below_drewN | apply below_drew1) | exact HB.out)⟩
                      · rw [if_neg c21] at H
                        exact absurd H (by simp)
                    · rw [if_neg c20] at H
                      exact absurd H (by simp)
                  · rw [if_neg c19] at H
                    exact absurd H (by simp)
              · rw [if_neg c16] at H
                have c16b0 : decide (a2 < (wrap64 (-(t447.length : Int)))) = false := decide_eq_false c16
                clear c16
                by_cases c26 : a2 < 0
                · rw [if_pos c26] at H
                  have c26b0 : decide (a2 < 0) = true := decide_eq_true c26
                  clear c26
                  by_cases c27 : (wrap64 ((t447.length : Int) + a2)) < x1_12
                  · rw [if_pos c27] at H
                    have c27b0 : decide ((wrap64 ((t447.length : Int) + a2)) < x1_12) = true := decide_eq_true c27
                    clear c27
                    simp only [Option.some.injEq, Prod.mk.injEq] at H
                    obtain ⟨rfl, rfl⟩ := H
                    obtain ⟨Ao28, co28, eo28⟩ := Kd.R_slice HO_9.out
                    subst eo28
                    go_wp2
                    go_ret2
                    exact ⟨by first | rfl | (simp [errW_none, errW_some] <;> rfl) | (simp [*, errW_none, errW_some] <;> rfl), by repeat (first | (with_reducible first | exact HB.out | apply below_alloc | apply pw_below_drewN | apply below_drew1) | exact HB.out)⟩
                  · rw [if_neg c27] at H
                    have c27b0 : decide ((wrap64 ((t447.length : Int) + a2)) < x1_12) = false := decide_eq_false c27
                    clear c27
                    by_cases c29 : 0 ≤ x1_12
                    · rw [if_pos c29] at H
                      have c29b0 := eq_true c29
                      have c29b1 : decide (0 ≤ x1_12) = true := decide_eq_true c29
                      clear c29
                      by_cases c30 : x1_12 ≤ (wrap64 ((t447.length : Int) + a2))
                      · rw [if_pos c30] at H
                        have c30b0 := eq_true c30
                        have c30b1 : decide (x1_12 ≤ (wrap64 ((t447.length : Int) + a2))) = true := decide_eq_true c30
                        by_cases c31 : (wrap64 ((t447.length : Int) + a2)) ≤ (t447.length : Int)
                        · rw [if_pos c31] at H
                          have c31b0 := eq_true c31
                          have c31b1 : decide ((wrap64 ((t447.length : Int) + a2)) ≤ (t447.length : Int)) = true := decide_eq_true c31
                          obtain ⟨y455, hy455⟩ : ∃ y_ : List Int, y_ = ((t447.take ((wrap64 ((t447.length : Int) + a2)) : Int).toNat).drop (x1_12 : Int).toNat) := ⟨_, rfl⟩
                          replace H : ((motleyref02_Write.f kj12 y455).bind fun t459 => (some (t459, 0))) = some (r1, r2) := by first | (rw [hy455]; with_reducible exact H) | (have H2_ := (Option.bind_some _ _).symm.trans H; rw [hy455]; with_reducible exact H2_) | (have H2_ := (Option.bind_some _ _).symm.trans H; with_reducible exact H2_) | with_reducible exact H | (rw [hy455]; exact H) | exact H
                          have Ny455 := Aside0.mk hy455
                          clear hy455
                          replace H := Option.bind_eq_some_iff.mp H
                          obtain ⟨t459, A320, H⟩ := H
                          replace H : (some (t459, 0)) = some (r1, r2) := H
                          have A32 := Aside0.mk A320
                          clear A320
                          simp only [Option.some.injEq, Prod.mk.injEq] at H
                          obtain ⟨rfl, rfl⟩ := H
                          obtain ⟨Ao33, co33, eo33⟩ := Kd.R_slice HO_9.out
                          subst eo33
                          have q34 : ((wrap64 ((t447.length : Int) + a2)) : Int) ≤ ((t447.length : Int) : Int) := of_decide_eq_true (by first | (with_reducible assumption) | assumption)
                          obtain ⟨i034, hi034, _, hsz34, _⟩ := info_parts info3
                          have hroom34 : t447.length ≤ co33 := (Kd.R_reads' HO_9.out).2.1
                          have hC34 : Kd.C (Kd.int .i64) _ Ao33 t447.length t447 := (Kd.R_reads' HO_9.out).2.2
                          have ql34 : (x1_12 : Int) ≤ ((wrap64 ((t447.length : Int) + a2)) : Int) := of_decide_eq_true (by first | (with_reducible assumption) | assumption)
                          have q034 : (0 : Int) ≤ (x1_12 : Int) := of_decide_eq_true (by first | (with_reducible assumption) | assumption)
                          have hcut34 := cut_mid (P := Tryd.prog) 36 3 .i64 .i64 Tryd.underlying36 hi034 1 hsz34 Ao33 t447.length co33 x1_12 (wrap64 ((t447.length : Int) + a2)) q034 ql34 q34 hroom34
                          have hr34 := Kd.C_mid (lo := (x1_12 : Int).toNat) (hi := ((wrap64 ((t447.length : Int) + a2)) : Int).toNat) (c := co33) hC34 (by omega) (by omega) hroom34
                          obtain ⟨A34, hA34⟩ : ∃ A1, A1 = (if co33 = (x1_12 : Int).toNat then Ao33 else (Ao33 : Option Addr).map (·.add ((x1_12 : Int).toNat * 1))) := ⟨_, rfl⟩
                          obtain ⟨c34, hc34⟩ : ∃ c1, c1 = co33 - (x1_12 : Int).toNat := ⟨_, rfl⟩
                          have hy34 : y455.length = ((wrap64 ((t447.length : Int) + a2)) : Int).toNat - (x1_12 : Int).toNat := (by rw [Ny455.out, List.length_drop, List.length_take] <;> omega)
                          rw [show ((t447).take ((wrap64 ((t447.length : Int) + a2)) : Int).toNat).drop (x1_12 : Int).toNat = y455 from Ny455.out.symm] at hr34
                          replace hr34 : Kd.C (Kd.int .i64) _ A34 y455.length y455 := (by rw [hA34]; exact hr34)
                          rw [← hy34, ← hA34, ← hc34] at hcut34
                          have HR458 := Aside0.mk hr34
                          have HC458 := Aside0.mk (show y455.length ≤ c34 from by rw [hy34, hc34]; exact Nat.sub_le_sub_right (Nat.le_trans (by omega) hroom34) _)
                          clear hr34 hC34 hroom34 hi034 hsz34 hc34
                          have KY34 := Aside0.mk hy34
                          have KA34 := Aside0.mk hA34
                          clear hy34 hA34
                          have KL34 := Aside0.mk (show ((wrap64 ((t447.length : Int) + a2)) : Int).toNat ≤ t447.length from by omega)
                          have KM34 := Aside0.mk (show (x1_12 : Int).toNat ≤ ((wrap64 ((t447.length : Int) + a2)) : Int).toNat from by omega)
                          replace q34 := eq_true q34
                          go_wp2_with (first | ((with_reducible refine gate_callee (f := 56) rfl ?_); refine goesL_ (some 67) rfl rfl Tryd.func56 (by kernel_rfl) rfl #[.slice A34 y455.length c34] rfl (by (try simp only [List.map_toArray, List.map_cons, List.map_nil]); first | done | rfl | (simp only [List.length_drop, List.length_take]; rfl)) ?_; (with_reducible refine (motleyref02_Write.calls kj12 _ _ y455 t459 _ ?side1 ?side2 A32.out).mono ?_); (case side1 => repeat (first | exact (by repeat (first | (with_reducible exact HR458.out) | (with_reducible refine Kd.C_alloc ?_ _) | (with_reducible refine Kd.C_drewN ?_ _) | (with_reducible refine Kd.C_drew ?_) | exact HR458.out)) | (with_reducible refine Kd.C_alloc ?_ _) | (with_reducible refine Kd.C_drewN ?_ _) | (with_reducible refine Kd.C_drew ?_))); (case side2 => exact HC458.out); rintro e w35 ⟨rfl, hb⟩; refine ⟨_, rfl, ?_⟩; have n0_ := Aside0.mk (Kd.R_below (by (with_reducible repeat (first | apply Kd.R_alloc | apply Kd.R_drewN | apply Kd.R_drew)); exact HO_9.out) hb); have n1_ := Aside0.mk (Kd.C_below (by repeat (first | (with_reducible exact HR458.out) | (with_reducible refine Kd.C_alloc ?_ _) | (with_reducible refine Kd.C_drewN ?_ _) | (with_reducible refine Kd.C_drew ?_) | exact HR458.out)) hb); have n2_ := Aside0.mk (below_step (by repeat (first | (with_reducible first | exact HB.out | apply below_alloc | apply pw_below_drewN | apply below_drew1) | exact HB.out)) hb); clear HO_9; clear HR458; clear HB; have HO_9 := n0_; have HR458 := n1_; have HB := n2_; clear n0_ n1_ n2_; (try clear hb); (try clear hb2); (try clear hk); (try clear hi)))
                          go_ret2
                          exact ⟨by first | rfl | (simp [errW_none, errW_some] <;> rfl) | (simp [*, errW_none, errW_some] <;> rfl), by repeat (first | (with_reducible first | exact HB.out | apply below_alloc | apply pw_below_drewN | apply below_drew1) | exact HB.out)⟩
                        · rw [if_neg c31] at H
                          exact absurd H (by simp)
                      · rw [if_neg c30] at H
                        exact absurd H (by simp)
                    · rw [if_neg c29] at H
                      exact absurd H (by simp)
                · rw [if_neg c26] at H
                  have c26b0 : decide (a2 < 0) = false := decide_eq_false c26
                  clear c26
                  by_cases c36 : a2 < (wrap64 ((t447.length : Int) - x1_12))
                  · rw [if_pos c36] at H
                    have c36b0 : decide (a2 < (wrap64 ((t447.length : Int) - x1_12))) = true := decide_eq_true c36
                    clear c36
                    by_cases c37 : (wrap64 (x1_12 + a2)) < x1_12
                    · rw [if_pos c37] at H
                      have c37b0 : decide ((wrap64 (x1_12 + a2)) < x1_12) = true := decide_eq_true c37
                      clear c37
                      simp only [Option.some.injEq, Prod.mk.injEq] at H
                      obtain ⟨rfl, rfl⟩ := H
                      obtain ⟨Ao38, co38, eo38⟩ := Kd.R_slice HO_9.out
                      subst eo38
                      go_wp2
                      go_ret2
                      exact ⟨by first | rfl | (simp [errW_none, errW_some] <;> rfl) | (simp [*, errW_none, errW_some] <;> rfl), by repeat (first | (with_reducible first | exact HB.out | apply below_alloc | apply pw_below_drewN | apply below_drew1) | exact HB.out)⟩
                    · rw [if_neg c37] at H
                      have c37b0 : decide ((wrap64 (x1_12 + a2)) < x1_12) = false := decide_eq_false c37
                      clear c37
                      by_cases c39 : 0 ≤ x1_12
                      · rw [if_pos c39] at H
                        have c39b0 := eq_true c39
                        have c39b1 : decide (0 ≤ x1_12) = true := decide_eq_true c39
                        clear c39
                        by_cases c40 : x1_12 ≤ (wrap64 (x1_12 + a2))
                        · rw [if_pos c40] at H
                          have c40b0 := eq_true c40
                          have c40b1 : decide (x1_12 ≤ (wrap64 (x1_12 + a2))) = true := decide_eq_true c40
                          by_cases c41 : (wrap64 (x1_12 + a2)) ≤ (t447.length : Int)
                          · rw [if_pos c41] at H
                            have c41b0 := eq_true c41
                            have c41b1 : decide ((wrap64 (x1_12 + a2)) ≤ (t447.length : Int)) = true := decide_eq_true c41
                            obtain ⟨y460, hy460⟩ : ∃ y_ : List Int, y_ = ((t447.take ((wrap64 (x1_12 + a2)) : Int).toNat).drop (x1_12 : Int).toNat) := ⟨_, rfl⟩
                            replace H : ((motleyref02_Write.f kj12 y460).bind fun t464 => (some (t464, 0))) = some (r1, r2) := by first | (rw [hy460]; with_reducible exact H) | (have H2_ := (Option.bind_some _ _).symm.trans H; rw [hy460]; with_reducible exact H2_) | (have H2_ := (Option.bind_some _ _).symm.trans H; with_reducible exact H2_) | with_reducible exact H | (rw [hy460]; exact H) | exact H
                            have Ny460 := Aside0.mk hy460
                            clear hy460
                            replace H := Option.bind_eq_some_iff.mp H
                            obtain ⟨t464, A420, H⟩ := H
                            replace H : (some (t464, 0)) = some (r1, r2) := H
                            have A42 := Aside0.mk A420
                            clear A420
                            simp only [Option.some.injEq, Prod.mk.injEq] at H
                            obtain ⟨rfl, rfl⟩ := H
                            obtain ⟨Ao43, co43, eo43⟩ := Kd.R_slice HO_9.out
                            subst eo43
                            have q44 : ((wrap64 (x1_12 + a2)) : Int) ≤ ((t447.length : Int) : Int) := of_decide_eq_true (by first | (with_reducible assumption) | assumption)
                            obtain ⟨i044, hi044, _, hsz44, _⟩ := info_parts info3
                            have hroom44 : t447.length ≤ co43 := (Kd.R_reads' HO_9.out).2.1
                            have hC44 : Kd.C (Kd.int .i64) _ Ao43 t447.length t447 := (Kd.R_reads' HO_9.out).2.2
                            have ql44 : (x1_12 : Int) ≤ ((wrap64 (x1_12 + a2)) : Int) := of_decide_eq_true (by first | (with_reducible assumption) | assumption)
                            have q044 : (0 : Int) ≤ (x1_12 : Int) := of_decide_eq_true (by first | (with_reducible assumption) | assumption)
                            have hcut44 := cut_mid (P := Tryd.prog) 36 3 .i64 .i64 Tryd.underlying36 hi044 1 hsz44 Ao43 t447.length co43 x1_12 (wrap64 (x1_12 + a2)) q044 ql44 q44 hroom44
                            have hr44 := Kd.C_mid (lo := (x1_12 : Int).toNat) (hi := ((wrap64 (x1_12 + a2)) : Int).toNat) (c := co43) hC44 (by omega) (by omega) hroom44
                            obtain ⟨A44, hA44⟩ : ∃ A1, A1 = (if co43 = (x1_12 : Int).toNat then Ao43 else (Ao43 : Option Addr).map (·.add ((x1_12 : Int).toNat * 1))) := ⟨_, rfl⟩
                            obtain ⟨c44, hc44⟩ : ∃ c1, c1 = co43 - (x1_12 : Int).toNat := ⟨_, rfl⟩
                            have hy44 : y460.length = ((wrap64 (x1_12 + a2)) : Int).toNat - (x1_12 : Int).toNat := (by rw [Ny460.out, List.length_drop, List.length_take] <;> omega)
                            rw [show ((t447).take ((wrap64 (x1_12 + a2)) : Int).toNat).drop (x1_12 : Int).toNat = y460 from Ny460.out.symm] at hr44
                            replace hr44 : Kd.C (Kd.int .i64) _ A44 y460.length y460 := (by rw [hA44]; exact hr44)
                            rw [← hy44, ← hA44, ← hc44] at hcut44
                            have HR463 := Aside0.mk hr44
                            have HC463 := Aside0.mk (show y460.length ≤ c44 from by rw [hy44, hc44]; exact Nat.sub_le_sub_right (Nat.le_trans (by omega) hroom44) _)
                            clear hr44 hC44 hroom44 hi044 hsz44 hc44
                            have KY44 := Aside0.mk hy44
                            have KA44 := Aside0.mk hA44
                            clear hy44 hA44
                            have KL44 := Aside0.mk (show ((wrap64 (x1_12 + a2)) : Int).toNat ≤ t447.length from by omega)
                            have KM44 := Aside0.mk (show (x1_12 : Int).toNat ≤ ((wrap64 (x1_12 + a2)) : Int).toNat from by omega)
                            replace q44 := eq_true q44
                            go_wp2_with (first | ((with_reducible refine gate_callee (f := 56) rfl ?_); refine goesL_ (some 67) rfl rfl Tryd.func56 (by kernel_rfl) rfl #[.slice A44 y460.length c44] rfl (by (try simp only [List.map_toArray, List.map_cons, List.map_nil]); first | done | rfl | (simp only [List.length_drop, List.length_take]; rfl)) ?_; (with_reducible refine (motleyref02_Write.calls kj12 _ _ y460 t464 _ ?side1 ?side2 A42.out).mono ?_); (case side1 => repeat (first | exact (by repeat (first | (with_reducible exact HR463.out) | (with_reducible refine Kd.C_alloc ?_ _) | (with_reducible refine Kd.C_drewN ?_ _) | (with_reducible refine Kd.C_drew ?_) | exact HR463.out)) | (with_reducible refine Kd.C_alloc ?_ _) | (with_reducible refine Kd.C_drewN ?_ _) | (with_reducible refine Kd.C_drew ?_))); (case side2 => exact HC463.out); rintro e w45 ⟨rfl, hb⟩; refine ⟨_, rfl, ?_⟩; have n0_ := Aside0.mk (Kd.R_below (by (with_reducible repeat (first | apply Kd.R_alloc | apply Kd.R_drewN | apply Kd.R_drew)); exact HO_9.out) hb); have n1_ := Aside0.mk (Kd.C_below (by repeat (first | (with_reducible exact HR463.out) | (with_reducible refine Kd.C_alloc ?_ _) | (with_reducible refine Kd.C_drewN ?_ _) | (with_reducible refine Kd.C_drew ?_) | exact HR463.out)) hb); have n2_ := Aside0.mk (below_step (by repeat (first | (with_reducible first | exact HB.out | apply below_alloc | apply pw_below_drewN | apply below_drew1) | exact HB.out)) hb); clear HO_9; clear HR463; clear HB; have HO_9 := n0_; have HR463 := n1_; have HB := n2_; clear n0_ n1_ n2_; (try clear hb); (try clear hb2); (try clear hk); (try clear hi)))
                            go_ret2
                            exact ⟨by first | rfl | (simp [errW_none, errW_some] <;> rfl) | (simp [*, errW_none, errW_some] <;> rfl), by repeat (first | (with_reducible first | exact HB.out | apply below_alloc | apply pw_below_drewN | apply below_drew1) | exact HB.out)⟩
                          · rw [if_neg c41] at H
                            exact absurd H (by simp)
                        · rw [if_neg c40] at H
                          exact absurd H (by simp)
                      · rw [if_neg c39] at H
                        exact absurd H (by simp)
                  · rw [if_neg c36] at H
                    have c36b0 : decide (a2 < (wrap64 ((t447.length : Int) - x1_12))) = false := decide_eq_false c36
                    clear c36
                    by_cases c46 : (t447.length : Int) < x1_12
                    · rw [if_pos c46] at H
                      have c46b0 : decide ((t447.length : Int) < x1_12) = true := decide_eq_true c46
                      clear c46
                      simp only [Option.some.injEq, Prod.mk.injEq] at H
                      obtain ⟨rfl, rfl⟩ := H
                      obtain ⟨Ao47, co47, eo47⟩ := Kd.R_slice HO_9.out
                      subst eo47
                      go_wp2
                      go_ret2
                      exact ⟨by first | rfl | (simp [errW_none, errW_some] <;> rfl) | (simp [*, errW_none, errW_some] <;> rfl), by repeat (first | (with_reducible first | exact HB.out | apply below_alloc | apply pw_below_drewN | apply below_drew1) | exact HB.out)⟩
                    · rw [if_neg c46] at H
                      have c46b0 : decide ((t447.length : Int) < x1_12) = false := decide_eq_false c46
                      clear c46
                      by_cases c48 : 0 ≤ x1_12
                      · rw [if_pos c48] at H
                        have c48b0 := eq_true c48
                        have c48b1 : decide (0 ≤ x1_12) = true := decide_eq_true c48
                        clear c48
                        by_cases c49 : x1_12 ≤ (t447.length : Int)
                        · rw [if_pos c49] at H
                          have c49b0 := eq_true c49
                          have c49b1 : decide (x1_12 ≤ (t447.length : Int)) = true := decide_eq_true c49
                          clear c49
                          by_cases c50 : (t447.length : Int) ≤ (t447.length : Int)
                          · rw [if_pos c50] at H
                            have c50b0 := eq_true c50
                            have c50b1 : decide ((t447.length : Int) ≤ (t447.length : Int)) = true := decide_eq_true c50
                            clear c50
                            obtain ⟨y465, hy465⟩ : ∃ y_ : List Int, y_ = ((t447.take ((t447.length : Int) : Int).toNat).drop (x1_12 : Int).toNat) := ⟨_, rfl⟩
                            replace H : ((motleyref02_Write.f kj12 y465).bind fun t469 => (some (t469, 0))) = some (r1, r2) := by first | (rw [hy465]; with_reducible exact H) | (have H2_ := (Option.bind_some _ _).symm.trans H; rw [hy465]; with_reducible exact H2_) | (have H2_ := (Option.bind_some _ _).symm.trans H; with_reducible exact H2_) | with_reducible exact H | (rw [hy465]; exact H) | exact H
                            have Ny465 := Aside0.mk hy465
                            clear hy465
                            replace H := Option.bind_eq_some_iff.mp H
                            obtain ⟨t469, A510, H⟩ := H
                            replace H : (some (t469, 0)) = some (r1, r2) := H
                            have A51 := Aside0.mk A510
                            clear A510
                            simp only [Option.some.injEq, Prod.mk.injEq] at H
                            obtain ⟨rfl, rfl⟩ := H
                            obtain ⟨Ao52, co52, eo52⟩ := Kd.R_slice HO_9.out
                            subst eo52
                            have q53 : ((t447.length : Int) : Int) ≤ ((t447.length : Int) : Int) := of_decide_eq_true (by first | (with_reducible assumption) | assumption)
                            obtain ⟨i053, hi053, _, hsz53, _⟩ := info_parts info3
                            have hroom53 : t447.length ≤ co52 := (Kd.R_reads' HO_9.out).2.1
                            have hC53 : Kd.C (Kd.int .i64) _ Ao52 t447.length t447 := (Kd.R_reads' HO_9.out).2.2
                            have ql53 : (x1_12 : Int) ≤ ((t447.length : Int) : Int) := of_decide_eq_true (by first | (with_reducible assumption) | assumption)
                            have q053 : (0 : Int) ≤ (x1_12 : Int) := of_decide_eq_true (by first | (with_reducible assumption) | assumption)
                            have hcut53 := cut_mid (P := Tryd.prog) 36 3 .i64 .i64 Tryd.underlying36 hi053 1 hsz53 Ao52 t447.length co52 x1_12 (t447.length : Int) q053 ql53 q53 hroom53
                            have hr53 := Kd.C_mid (lo := (x1_12 : Int).toNat) (hi := ((t447.length : Int) : Int).toNat) (c := co52) hC53 (by omega) (by omega) hroom53
                            obtain ⟨A53, hA53⟩ : ∃ A1, A1 = (if co52 = (x1_12 : Int).toNat then Ao52 else (Ao52 : Option Addr).map (·.add ((x1_12 : Int).toNat * 1))) := ⟨_, rfl⟩
                            obtain ⟨c53, hc53⟩ : ∃ c1, c1 = co52 - (x1_12 : Int).toNat := ⟨_, rfl⟩
                            have hy53 : y465.length = ((t447.length : Int) : Int).toNat - (x1_12 : Int).toNat := (by rw [Ny465.out, List.length_drop, List.length_take] <;> omega)
                            rw [show ((t447).take ((t447.length : Int) : Int).toNat).drop (x1_12 : Int).toNat = y465 from Ny465.out.symm] at hr53
                            replace hr53 : Kd.C (Kd.int .i64) _ A53 y465.length y465 := (by rw [hA53]; exact hr53)
                            rw [← hy53, ← hA53, ← hc53] at hcut53
                            have HR468 := Aside0.mk hr53
                            have HC468 := Aside0.mk (show y465.length ≤ c53 from by rw [hy53, hc53]; exact Nat.sub_le_sub_right (Nat.le_trans (by omega) hroom53) _)
                            clear hr53 hC53 hroom53 hi053 hsz53 hc53
                            have KY53 := Aside0.mk hy53
                            have KA53 := Aside0.mk hA53
                            clear hy53 hA53
                            have KL53 := Aside0.mk (show ((t447.length : Int) : Int).toNat ≤ t447.length from by omega)
                            have KM53 := Aside0.mk (show (x1_12 : Int).toNat ≤ ((t447.length : Int) : Int).toNat from by omega)
                            replace q53 := eq_true q53
                            go_wp2_with (first | ((with_reducible refine gate_callee (f := 56) rfl ?_); refine goesL_ (some 67) rfl rfl Tryd.func56 (by kernel_rfl) rfl #[.slice A53 y465.length c53] rfl (by (try simp only [List.map_toArray, List.map_cons, List.map_nil]); first | done | rfl | (simp only [List.length_drop, List.length_take]; rfl)) ?_; (with_reducible refine (motleyref02_Write.calls kj12 _ _ y465 t469 _ ?side1 ?side2 A51.out).mono ?_); (case side1 => repeat (first | exact (by repeat (first | (with_reducible exact HR468.out) | (with_reducible refine Kd.C_alloc ?_ _) | (with_reducible refine Kd.C_drewN ?_ _) | (with_reducible refine Kd.C_drew ?_) | exact HR468.out)) | (with_reducible refine Kd.C_alloc ?_ _) | (with_reducible refine Kd.C_drewN ?_ _) | (with_reducible refine Kd.C_drew ?_))); (case side2 => exact HC468.out); rintro e w54 ⟨rfl, hb⟩; refine ⟨_, rfl, ?_⟩; have n0_ := Aside0.mk (Kd.R_below (by (with_reducible repeat (first | apply Kd.R_alloc | apply Kd.R_drewN | apply Kd.R_drew)); exact HO_9.out) hb); have n1_ := Aside0.mk (Kd.C_below (by repeat (first | (with_reducible exact HR468.out) | (with_reducible refine Kd.C_alloc ?_ _) | (with_reducible refine Kd.C_drewN ?_ _) | (with_reducible refine Kd.C_drew ?_) | exact HR468.out)) hb); have n2_ := Aside0.mk (below_step (by repeat (first | (with_reducible first | exact HB.out | apply below_alloc | apply pw_below_drewN | apply below_drew1) | exact HB.out)) hb); clear HO_9; clear HR468; clear HB; have HO_9 := n0_; have HR468 := n1_; have HB := n2_; clear n0_ n1_ n2_; (try clear hb); (try clear hb2); (try clear hk); (try clear hi)))
                            go_ret2
                            exact ⟨by first | rfl | (simp [errW_none, errW_some] <;> rfl) | (simp [*, errW_none, errW_some] <;> rfl), by repeat (first | (with_reducible first | exact HB.out | apply below_alloc | apply pw_below_drewN | apply below_drew1) | exact HB.out)⟩
                          · rw [if_neg c50] at H
                            exact absurd H (by simp)
                        · rw [if_neg c49] at H
                          exact absurd H (by simp)
                      · rw [if_neg c48] at H
                        exact absurd H (by simp)
  · rw [if_neg c5] at H
    have c5b0 : (t446 == 0) = false := beq_eq_false_iff_ne.mpr c5
    have c5b1 : (t446 != 0) = true := bne_iff_ne.mpr c5
    simp only [Option.some.injEq, Prod.mk.injEq] at H
    obtain ⟨rfl, rfl⟩ := H
    go_enter Tryd.func22, Tryd.ntmps22
    go_wp2_with (first | ((with_reducible refine gate_callee (f := 54) rfl ?_); refine goesL_ (some 12) rfl rfl Tryd.func54 (by kernel_rfl) rfl #[.string a0] rfl (by (try simp only [List.map_toArray, List.map_cons, List.map_nil]); first | done | rfl | (simp only [List.length_drop, List.length_take]; rfl)) ?_; (with_reducible refine (motleyref02_Checked.calls k a0 t446 _ A4.out).mono ?_); rintro e w' ⟨rfl, ⟨nd, rfl⟩⟩; refine ⟨_, rfl, ?_⟩))
    go_ret2
    exact ⟨by first | rfl | (simp [errW_none, errW_some] <;> rfl) | (simp [*, errW_none, errW_some] <;> rfl), by repeat (first | (with_reducible first | exact HB.out | apply below_alloc | apply pw_below_drewN | apply below_drew1) | exact HB.out)⟩

/-! ### motleyref02_Width: function 23 -/
def motleyref02_Width.f (k : Nat) (a0 : ByteArray) : Option (Int × Int) := (motleyref02_Checked.f k a0).bind fun t470 => (if t470 = 0 then ((motleyref02_Runes.f k a0).bind fun t471 => (some ((t471.length : Int), 0))) else (some (0, t470)))
theorem motleyref02_Width.mono : ∀ a0 k, LeO (motleyref02_Width.f k a0) (motleyref02_Width.f (k + 1) a0) := by
  intro a0 k
  unfold motleyref02_Width.f
  repeat' first
      | (with_reducible exact motleyref02_Checked.mono _ _)
      | (with_reducible exact motleyref02_Runes.mono _ _)
      | (with_reducible exact LeO.refl _)
      | (with_reducible exact LeO.none _)
      | (with_reducible refine LeO.ite ?_ ?_)
      | (with_reducible refine LeO.bind ?_ (fun _ => ?_))
      | exact motleyref02_Checked.mono _ _
      | exact motleyref02_Runes.mono _ _
      | exact LeO.none _
      | refine LeO.ite ?_ ?_
      | refine LeO.bind ?_ (fun _ => ?_)
set_option maxHeartbeats 8000000 in
set_option maxRecDepth 100000 in
theorem motleyref02_Width.calls (k : Nat) (a0 : ByteArray) (r1 : Int) (r2 : Int) (w : World) (h : motleyref02_Width.f k a0 = some (r1, r2)) :
    Calls Tryd.prog 23 #[.string a0] w fun e w' => e = .returned (.tuple #[.int .i64 r1, .int .i64 r2]) ∧ Below w.heap.size w w' := by
  have HB := Aside0.mk (Below.refl w.heap.size w)
  have H : ((motleyref02_Checked.f k a0).bind fun t470 => (if t470 = 0 then ((motleyref02_Runes.f k a0).bind fun t471 => (some ((t471.length : Int), 0))) else (some (0, t470)))) = some (r1, r2) := h
  clear h
  replace H := Option.bind_eq_some_iff.mp H
  obtain ⟨t470, A20, H⟩ := H
  replace H : (if t470 = 0 then ((motleyref02_Runes.f k a0).bind fun t471 => (some ((t471.length : Int), 0))) else (some (0, t470))) = some (r1, r2) := H
  have A2 := Aside0.mk A20
  clear A20
  by_cases c3 : t470 = 0
  · rw [if_pos c3] at H
    have c3b0 : (t470 == 0) = true := beq_iff_eq.mpr c3
    have c3b1 : (t470 != 0) = false := bne_eq_false_iff_eq.mpr c3
    clear c3
    replace H := Option.bind_eq_some_iff.mp H
    obtain ⟨t471, A40, H⟩ := H
    replace H : (some ((t471.length : Int), 0)) = some (r1, r2) := H
    have A4 := Aside0.mk A40
    clear A40
    simp only [Option.some.injEq, Prod.mk.injEq] at H
    obtain ⟨rfl, rfl⟩ := H
    go_enter Tryd.func23, Tryd.ntmps23
    go_wp2_with (first | ((with_reducible refine gate_callee (f := 54) rfl ?_); refine goesL_ (some 6) rfl rfl Tryd.func54 (by kernel_rfl) rfl #[.string a0] rfl (by (try simp only [List.map_toArray, List.map_cons, List.map_nil]); first | done | rfl | (simp only [List.length_drop, List.length_take]; rfl)) ?_; (with_reducible refine (motleyref02_Checked.calls k a0 t470 _ A2.out).mono ?_); rintro e w' ⟨rfl, ⟨nd, rfl⟩⟩; refine ⟨_, rfl, ?_⟩) | ((with_reducible refine gate_callee (f := 55) rfl ?_); refine goesL_ (some 11) rfl rfl Tryd.func55 (by kernel_rfl) rfl #[.string a0] rfl (by (try simp only [List.map_toArray, List.map_cons, List.map_nil]); first | done | rfl | (simp only [List.length_drop, List.length_take]; rfl)) ?_; (with_reducible refine (motleyref02_Runes.calls k a0 t471 _ A4.out).mono ?_); rintro e w5 ⟨v472, rfl, ho0, hb⟩; refine ⟨_, rfl, ?_⟩; have n0_ := Aside0.mk (Kd.R_lower ho0 (below_size (by repeat (first | (with_reducible first | exact HB.out | apply below_alloc | apply pw_below_drewN | apply below_drew1) | exact HB.out)))); have n1_ := Aside0.mk (below_step (by repeat (first | (with_reducible first | exact HB.out | apply below_alloc | apply pw_below_drewN | apply below_drew1) | exact HB.out)) hb); clear HB; have HO473 := n0_; have HB := n1_; clear n0_ n1_; (try clear hb); (try clear hb2); (try clear hk); (try clear hi); (try clear ho0); obtain ⟨Ao6, co6, eo6⟩ := Kd.R_slice HO473.out; subst eo6))
    go_ret2
    exact ⟨by first | rfl | (simp [errW_none, errW_some] <;> rfl) | (simp [*, errW_none, errW_some] <;> rfl), by repeat (first | (with_reducible first | exact HB.out | apply below_alloc | apply pw_below_drewN | apply below_drew1) | exact HB.out)⟩
  · rw [if_neg c3] at H
    have c3b0 : (t470 == 0) = false := beq_eq_false_iff_ne.mpr c3
    have c3b1 : (t470 != 0) = true := bne_iff_ne.mpr c3
    simp only [Option.some.injEq, Prod.mk.injEq] at H
    obtain ⟨rfl, rfl⟩ := H
    go_enter Tryd.func23, Tryd.ntmps23
    go_wp2_with (first | ((with_reducible refine gate_callee (f := 54) rfl ?_); refine goesL_ (some 6) rfl rfl Tryd.func54 (by kernel_rfl) rfl #[.string a0] rfl (by (try simp only [List.map_toArray, List.map_cons, List.map_nil]); first | done | rfl | (simp only [List.length_drop, List.length_take]; rfl)) ?_; (with_reducible refine (motleyref02_Checked.calls k a0 t470 _ A2.out).mono ?_); rintro e w' ⟨rfl, ⟨nd, rfl⟩⟩; refine ⟨_, rfl, ?_⟩))
    go_ret2
    exact ⟨by first | rfl | (simp [errW_none, errW_some] <;> rfl) | (simp [*, errW_none, errW_some] <;> rfl), by repeat (first | (with_reducible first | exact HB.out | apply below_alloc | apply pw_below_drewN | apply below_drew1) | exact HB.out)⟩

/-! ### chars_Width: function 25 -/
def chars_Width.f (k : Nat) (a0 : ByteArray) : Option (Int × Int) := (chars_asked.f k (([a0] : List ByteArray))).bind fun t477 => (if t477 = 0 then ((utf8_RuneCountInString.f a0).bind fun t478 => (some (t478, 0))) else (some (0, t477)))
theorem chars_Width.mono : ∀ a0 k, LeO (chars_Width.f k a0) (chars_Width.f (k + 1) a0) := by
  intro a0 k
  unfold chars_Width.f
  repeat' first
      | (with_reducible exact chars_asked.mono _ _)
      | (with_reducible exact LeO.refl _)
      | (with_reducible exact LeO.none _)
      | (with_reducible refine LeO.ite ?_ ?_)
      | (with_reducible refine LeO.bind ?_ (fun _ => ?_))
      | exact chars_asked.mono _ _
      | exact LeO.none _
      | refine LeO.ite ?_ ?_
      | refine LeO.bind ?_ (fun _ => ?_)
set_option maxHeartbeats 8000000 in
set_option maxRecDepth 100000 in
theorem chars_Width.calls (k : Nat) (a0 : ByteArray) (r1 : Int) (r2 : Int) (w : World) (hL : LaidW w) (h : chars_Width.f k a0 = some (r1, r2)) :
    Calls Tryd.prog 25 #[.string a0] w fun e w' => e = .returned (.tuple #[.int .i64 r1, .int .i64 r2]) ∧ Below w.heap.size w w' := by
  have HB := Aside0.mk (Below.refl w.heap.size w)
  have H : ((chars_asked.f k (([a0] : List ByteArray))).bind fun t477 => (if t477 = 0 then ((utf8_RuneCountInString.f a0).bind fun t478 => (some (t478, 0))) else (some (0, t477)))) = some (r1, r2) := h
  clear h
  obtain ⟨y474, hy474⟩ : ∃ y_ : List ByteArray, y_ = (([a0] : List ByteArray)) := ⟨_, rfl⟩
  replace H : ((chars_asked.f k y474).bind fun t477 => (if t477 = 0 then ((utf8_RuneCountInString.f a0).bind fun t478 => (some (t478, 0))) else (some (0, t477)))) = some (r1, r2) := by first | (rw [hy474]; with_reducible exact H) | (have H2_ := (Option.bind_some _ _).symm.trans H; rw [hy474]; with_reducible exact H2_) | (have H2_ := (Option.bind_some _ _).symm.trans H; with_reducible exact H2_) | with_reducible exact H | (rw [hy474]; exact H) | exact H
  have Ny474 := Aside0.mk hy474
  clear hy474
  replace H := Option.bind_eq_some_iff.mp H
  obtain ⟨t477, A20, H⟩ := H
  replace H : (if t477 = 0 then ((utf8_RuneCountInString.f a0).bind fun t478 => (some (t478, 0))) else (some (0, t477))) = some (r1, r2) := H
  have A2 := Aside0.mk A20
  clear A20
  by_cases c3 : t477 = 0
  · rw [if_pos c3] at H
    have c3b0 : (t477 == 0) = true := beq_iff_eq.mpr c3
    have c3b1 : (t477 != 0) = false := bne_eq_false_iff_eq.mpr c3
    clear c3
    replace H := Option.bind_eq_some_iff.mp H
    obtain ⟨t478, A40, H⟩ := H
    replace H : (some (t478, 0)) = some (r1, r2) := H
    have A4 := Aside0.mk A40
    clear A40
    simp only [Option.some.injEq, Prod.mk.injEq] at H
    obtain ⟨rfl, rfl⟩ := H
    go_enter Tryd.func25, Tryd.ntmps25
    go_wp2_with (first | ((with_reducible refine gate_dst (N := 6) rfl ?_); refine Kd.R_lit Kd.string _ 9 ?hg (N := 6) ?hd (xs := ([a0] : List ByteArray)) (inner := [.string a0]) (ok := fun _ => True) (okp := fun _ => True) ?hr ?hp (fun _ hk => hk) trivial (Below.refl _ _) (Nat.le_refl _) (by simp) ?_; (case hd => rfl); (case hg => rfl); (case hr => first | (go_simp; done) | (go_simp; rfl)); (case hp => exact (Reps.one (show Kd.M Kd.string _ _ _ a0 [.string a0] from rfl) (Reps.none _ _))); intro v475 w5 ho6 hb hg_ hnew_; clear hg_ hnew_; (first | rw [← Ny474.out] at ho6 | (simp only [Int.reduceToNat] at ho6; rw [← Ny474.out] at ho6)); have n0_ := Aside0.mk (Kd.R_lower ho6 (below_size (by repeat (first | (with_reducible first | exact HB.out | apply below_alloc | apply pw_below_drewN | apply below_drew1) | exact HB.out)))); have n1_ := Aside0.mk (below_step (by repeat (first | (with_reducible first | exact HB.out | apply below_alloc | apply pw_below_drewN | apply below_drew1) | exact HB.out)) hb); clear HB; have HO476 := n0_; have HB := n1_; clear n0_ n1_; clear hb ho6; obtain ⟨Ao7, co7, eo7⟩ := Kd.R_slice HO476.out; subst eo7) | ((with_reducible refine gate_callee (f := 44) rfl ?_); refine goesL_ (some 7) rfl rfl Tryd.func44 (by kernel_rfl) rfl #[.slice Ao7 y474.length co7] rfl (by (try simp only [List.map_toArray, List.map_cons, List.map_nil]); first | done | rfl | (simp only [List.length_drop, List.length_take]; rfl)) ?_; (with_reducible refine (chars_asked.calls k _ _ y474 t477 _ ?side3 ?side1 ?side2 A2.out).mono ?_); (case side1 => repeat (first | exact (Kd.R_reads' HO476.out).2.2 | (with_reducible refine Kd.C_alloc ?_ _) | (with_reducible refine Kd.C_drewN ?_ _) | (with_reducible refine Kd.C_drew ?_))); (case side2 => exact (Kd.R_reads' HO476.out).2.1); (case side3 => first | exact hL | exact LaidW.below hL (by repeat (first | (with_reducible first | exact HB.out | apply below_alloc | apply pw_below_drewN | apply below_drew1) | exact HB.out))); rintro e w8 ⟨rfl, hb⟩; refine ⟨_, rfl, ?_⟩; have n0_ := Aside0.mk (Kd.R_below (by (with_reducible repeat (first | apply Kd.R_alloc | apply Kd.R_drewN | apply Kd.R_drew)); exact HO476.out) hb); have n1_ := Aside0.mk (below_step (by repeat (first | (with_reducible first | exact HB.out | apply below_alloc | apply pw_below_drewN | apply below_drew1) | exact HB.out)) hb); clear HO476; clear HB; have HO476 := n0_; have HB := n1_; clear n0_ n1_; (try clear hb); (try clear hb2); (try clear hk); (try clear hi)) | ((with_reducible refine gate_callee (f := 57) rfl ?_); refine goesL_ (some 12) rfl rfl Tryd.func57 (by kernel_rfl) rfl #[.string a0] rfl (by (try simp only [List.map_toArray, List.map_cons, List.map_nil]); first | done | rfl | (simp only [List.length_drop, List.length_take]; rfl)) ?_; (with_reducible refine (utf8_RuneCountInString.calls a0 t478 _ A4.out).mono ?_); rintro e w9 ⟨rfl, hb⟩; refine ⟨_, rfl, ?_⟩; have n0_ := Aside0.mk (Kd.R_below (by (with_reducible repeat (first | apply Kd.R_alloc | apply Kd.R_drewN | apply Kd.R_drew)); exact HO476.out) hb); have n1_ := Aside0.mk (below_step (by repeat (first | (with_reducible first | exact HB.out | apply below_alloc | apply pw_below_drewN | apply below_drew1) | exact HB.out)) hb); clear HO476; clear HB; have HO476 := n0_; have HB := n1_; clear n0_ n1_; (try clear hb); (try clear hb2); (try clear hk); (try clear hi)))
    go_ret2
    exact ⟨by first | rfl | (simp [errW_none, errW_some] <;> rfl) | (simp [*, errW_none, errW_some] <;> rfl), by repeat (first | (with_reducible first | exact HB.out | apply below_alloc | apply pw_below_drewN | apply below_drew1) | exact HB.out)⟩
  · rw [if_neg c3] at H
    have c3b0 : (t477 == 0) = false := beq_eq_false_iff_ne.mpr c3
    have c3b1 : (t477 != 0) = true := bne_iff_ne.mpr c3
    simp only [Option.some.injEq, Prod.mk.injEq] at H
    obtain ⟨rfl, rfl⟩ := H
    go_enter Tryd.func25, Tryd.ntmps25
    go_wp2_with (first | ((with_reducible refine gate_dst (N := 6) rfl ?_); refine Kd.R_lit Kd.string _ 9 ?hg (N := 6) ?hd (xs := ([a0] : List ByteArray)) (inner := [.string a0]) (ok := fun _ => True) (okp := fun _ => True) ?hr ?hp (fun _ hk => hk) trivial (Below.refl _ _) (Nat.le_refl _) (by simp) ?_; (case hd => rfl); (case hg => rfl); (case hr => first | (go_simp; done) | (go_simp; rfl)); (case hp => exact (Reps.one (show Kd.M Kd.string _ _ _ a0 [.string a0] from rfl) (Reps.none _ _))); intro v475 w10 ho11 hb hg_ hnew_; clear hg_ hnew_; (first | rw [← Ny474.out] at ho11 | (simp only [Int.reduceToNat] at ho11; rw [← Ny474.out] at ho11)); have n0_ := Aside0.mk (Kd.R_lower ho11 (below_size (by repeat (first | (with_reducible first | exact HB.out | apply below_alloc | apply pw_below_drewN | apply below_drew1) | exact HB.out)))); have n1_ := Aside0.mk (below_step (by repeat (first | (with_reducible first | exact HB.out | apply below_alloc | apply pw_below_drewN | apply below_drew1) | exact HB.out)) hb); clear HB; have HO476 := n0_; have HB := n1_; clear n0_ n1_; clear hb ho11; obtain ⟨Ao12, co12, eo12⟩ := Kd.R_slice HO476.out; subst eo12) | ((with_reducible refine gate_callee (f := 44) rfl ?_); refine goesL_ (some 7) rfl rfl Tryd.func44 (by kernel_rfl) rfl #[.slice Ao12 y474.length co12] rfl (by (try simp only [List.map_toArray, List.map_cons, List.map_nil]); first | done | rfl | (simp only [List.length_drop, List.length_take]; rfl)) ?_; (with_reducible refine (chars_asked.calls k _ _ y474 t477 _ ?side3 ?side1 ?side2 A2.out).mono ?_); (case side1 => repeat (first | exact (Kd.R_reads' HO476.out).2.2 | (with_reducible refine Kd.C_alloc ?_ _) | (with_reducible refine Kd.C_drewN ?_ _) | (with_reducible refine Kd.C_drew ?_))); (case side2 => exact (Kd.R_reads' HO476.out).2.1); (case side3 => first | exact hL | exact LaidW.below hL (by repeat (first | (with_reducible first | exact HB.out | apply below_alloc | apply pw_below_drewN | apply below_drew1) | exact HB.out))); rintro e w13 ⟨rfl, hb⟩; refine ⟨_, rfl, ?_⟩; have n0_ := Aside0.mk (Kd.R_below (by (with_reducible repeat (first | apply Kd.R_alloc | apply Kd.R_drewN | apply Kd.R_drew)); exact HO476.out) hb); have n1_ := Aside0.mk (below_step (by repeat (first | (with_reducible first | exact HB.out | apply below_alloc | apply pw_below_drewN | apply below_drew1) | exact HB.out)) hb); clear HO476; clear HB; have HO476 := n0_; have HB := n1_; clear n0_ n1_; (try clear hb); (try clear hb2); (try clear hk); (try clear hi)))
    go_ret2
    exact ⟨by first | rfl | (simp [errW_none, errW_some] <;> rfl) | (simp [*, errW_none, errW_some] <;> rfl), by repeat (first | (with_reducible first | exact HB.out | apply below_alloc | apply pw_below_drewN | apply below_drew1) | exact HB.out)⟩

/-! ### motleylaw02_CharsSubs: function 5 -/
def motleylaw02_CharsSubs.f (k : Nat) (a0 : ByteArray) (a1 : Int) (a2 : Int) : Option (Bool) := if (a0.size : Int) > 20000 then ((motleylaw02_known.f k).bind fun t479 => (some t479)) else ((motleyref02_Sub.f k a0 a1 a2).bind fun bt480 => ((motleyref02_Width.f k a0).bind fun bt482 => ((chars_Sub.f k a0 a1 a2).bind fun bt484 => ((chars_Width.f k a0).bind fun bt486 => (if bt484.1.toList = bt480.1.toList then (if bt484.2 = bt480.2 then (if bt486.1 = bt482.1 then (if bt486.2 = bt482.2 then ((motleylaw02_known.f k).bind fun t488 => (some t488)) else (some false)) else (some false)) else (some false)) else (some false))))))
theorem motleylaw02_CharsSubs.mono : ∀ a0 a1 a2 k, LeO (motleylaw02_CharsSubs.f k a0 a1 a2) (motleylaw02_CharsSubs.f (k + 1) a0 a1 a2) := by
  intro a0 a1 a2 k
  unfold motleylaw02_CharsSubs.f
  repeat' first
      | (with_reducible exact chars_Sub.mono _ _ _ _)
      | (with_reducible exact chars_Width.mono _ _)
      | (with_reducible exact motleylaw02_known.mono _)
      | (with_reducible exact motleyref02_Sub.mono _ _ _ _)
      | (with_reducible exact motleyref02_Width.mono _ _)
      | (with_reducible exact LeO.refl _)
      | (with_reducible exact LeO.none _)
      | (with_reducible refine LeO.ite ?_ ?_)
      | (with_reducible refine LeO.bind ?_ (fun _ => ?_))
      | exact chars_Sub.mono _ _ _ _
      | exact chars_Width.mono _ _
      | exact motleylaw02_known.mono _
      | exact motleyref02_Sub.mono _ _ _ _
      | exact motleyref02_Width.mono _ _
      | exact LeO.none _
      | refine LeO.ite ?_ ?_
      | refine LeO.bind ?_ (fun _ => ?_)
set_option maxHeartbeats 8000000 in
set_option maxRecDepth 100000 in
theorem motleylaw02_CharsSubs.calls (k : Nat) (a0 : ByteArray) (a1 : Int) (a2 : Int) (r : Bool) (w : World) (hL : LaidW w) (h : motleylaw02_CharsSubs.f k a0 a1 a2 = some r) :
    Calls Tryd.prog 5 #[.string a0, .int .i64 a1, .int .i64 a2] w fun e w' => e = .returned (.bool r) ∧ Below w.heap.size w w' := by
  have HB := Aside0.mk (Below.refl w.heap.size w)
  have H : (if (a0.size : Int) > 20000 then ((motleylaw02_known.f k).bind fun t479 => (some t479)) else ((motleyref02_Sub.f k a0 a1 a2).bind fun bt480 => ((motleyref02_Width.f k a0).bind fun bt482 => ((chars_Sub.f k a0 a1 a2).bind fun bt484 => ((chars_Width.f k a0).bind fun bt486 => (if bt484.1.toList = bt480.1.toList then (if bt484.2 = bt480.2 then (if bt486.1 = bt482.1 then (if bt486.2 = bt482.2 then ((motleylaw02_known.f k).bind fun t488 => (some t488)) else (some false)) else (some false)) else (some false)) else (some false))))))) = some r := h
  clear h
  by_cases c4 : (a0.size : Int) > 20000
  · rw [if_pos c4] at H
    have c4b0 : decide (20000 < (a0.size : Int)) = true := decide_eq_true c4
    have c4b1 : decide (20000 < a0.size) = true := decide_eq_true (by omega)
    clear c4
    replace H := Option.bind_eq_some_iff.mp H
    obtain ⟨t479, A50, H⟩ := H
    replace H : (some t479) = some r := H
    have A5 := Aside0.mk A50
    clear A50
    obtain rfl := Option.some.inj H
    go_enter Tryd.func5, Tryd.ntmps5
    go_wp2_with (first | ((with_reducible refine gate_callee (f := 11) rfl ?_); refine goesL_ (some 18) rfl rfl Tryd.func11 (by kernel_rfl) rfl #[] rfl (by (try simp only [List.map_toArray, List.map_cons, List.map_nil]); first | done | rfl | (simp only [List.length_drop, List.length_take]; rfl)) ?_; (with_reducible refine (motleylaw02_known.calls k  t479 _ ?side1 A5.out).mono ?_); (case side1 => first | exact hL | exact LaidW.below hL (by repeat (first | (with_reducible first | exact HB.out | apply below_alloc | apply pw_below_drewN | apply below_drew1) | exact HB.out))); rintro e w6 ⟨rfl, hb⟩; refine ⟨_, rfl, ?_⟩; have n0_ := Aside0.mk (below_step (by repeat (first | (with_reducible first | exact HB.out | apply below_alloc | apply pw_below_drewN | apply below_drew1) | exact HB.out)) hb); clear HB; have HB := n0_; clear n0_; (try clear hb); (try clear hb2); (try clear hk); (try clear hi)))
    go_ret
    exact ⟨by first | rfl | (simp [errW_none, errW_some] <;> rfl) | (simp [*, errW_none, errW_some] <;> rfl), by repeat (first | (with_reducible first | exact HB.out | apply below_alloc | apply pw_below_drewN | apply below_drew1) | exact HB.out)⟩
  · rw [if_neg c4] at H
    have c4b0 : decide (20000 < (a0.size : Int)) = false := decide_eq_false c4
    have c4b1 : decide (20000 < a0.size) = false := decide_eq_false (by omega)
    clear c4
    replace H := Option.bind_eq_some_iff.mp H
    obtain ⟨⟨t480, t481⟩, A70, H⟩ := H
    replace H : ((motleyref02_Width.f k a0).bind fun bt482 => ((chars_Sub.f k a0 a1 a2).bind fun bt484 => ((chars_Width.f k a0).bind fun bt486 => (if bt484.1.toList = t480.toList then (if bt484.2 = t481 then (if bt486.1 = bt482.1 then (if bt486.2 = bt482.2 then ((motleylaw02_known.f k).bind fun t488 => (some t488)) else (some false)) else (some false)) else (some false)) else (some false))))) = some r := H
    have A7 := Aside0.mk A70
    clear A70
    replace H := Option.bind_eq_some_iff.mp H
    obtain ⟨⟨t482, t483⟩, A80, H⟩ := H
    replace H : ((chars_Sub.f k a0 a1 a2).bind fun bt484 => ((chars_Width.f k a0).bind fun bt486 => (if bt484.1.toList = t480.toList then (if bt484.2 = t481 then (if bt486.1 = t482 then (if bt486.2 = t483 then ((motleylaw02_known.f k).bind fun t488 => (some t488)) else (some false)) else (some false)) else (some false)) else (some false)))) = some r := H
    have A8 := Aside0.mk A80
    clear A80
    replace H := Option.bind_eq_some_iff.mp H
    obtain ⟨⟨t484, t485⟩, A90, H⟩ := H
    replace H : ((chars_Width.f k a0).bind fun bt486 => (if t484.toList = t480.toList then (if t485 = t481 then (if bt486.1 = t482 then (if bt486.2 = t483 then ((motleylaw02_known.f k).bind fun t488 => (some t488)) else (some false)) else (some false)) else (some false)) else (some false))) = some r := H
    have A9 := Aside0.mk A90
    clear A90
    replace H := Option.bind_eq_some_iff.mp H
    obtain ⟨⟨t486, t487⟩, A100, H⟩ := H
    replace H : (if t484.toList = t480.toList then (if t485 = t481 then (if t486 = t482 then (if t487 = t483 then ((motleylaw02_known.f k).bind fun t488 => (some t488)) else (some false)) else (some false)) else (some false)) else (some false)) = some r := H
    have A10 := Aside0.mk A100
    clear A100
    by_cases c11 : t484.toList = t480.toList
    · rw [if_pos c11] at H
      have c11b0 : (t484.toList == t480.toList) = true := beq_iff_eq.mpr c11
      have c11b1 : (t484.toList != t480.toList) = false := bne_eq_false_iff_eq.mpr c11
      clear c11
      by_cases c12 : t485 = t481
      · rw [if_pos c12] at H
        have c12b0 : (t485 == t481) = true := beq_iff_eq.mpr c12
        have c12b1 : (t485 != t481) = false := bne_eq_false_iff_eq.mpr c12
        clear c12
        by_cases c13 : t486 = t482
        · rw [if_pos c13] at H
          have c13b0 : (t486 == t482) = true := beq_iff_eq.mpr c13
          have c13b1 : (t486 != t482) = false := bne_eq_false_iff_eq.mpr c13
          clear c13
          by_cases c14 : t487 = t483
          · rw [if_pos c14] at H
            have c14b0 : (t487 == t483) = true := beq_iff_eq.mpr c14
            have c14b1 : (t487 != t483) = false := bne_eq_false_iff_eq.mpr c14
            clear c14
            replace H := Option.bind_eq_some_iff.mp H
            obtain ⟨t488, A150, H⟩ := H
            replace H : (some t488) = some r := H
            have A15 := Aside0.mk A150
            clear A150
            obtain rfl := Option.some.inj H
            go_enter Tryd.func5, Tryd.ntmps5
            go_wp2_with (first | ((with_reducible refine gate_callee (f := 22) rfl ?_); refine goesL_ (some 23) rfl rfl Tryd.func22 (by kernel_rfl) rfl #[.string a0, .int .i64 a1, .int .i64 a2] rfl (by (try simp only [List.map_toArray, List.map_cons, List.map_nil]); first | done | rfl | (simp only [List.length_drop, List.length_take]; rfl)) ?_; (with_reducible refine (motleyref02_Sub.calls k a0 a1 a2 t480 t481 _ A7.out).mono ?_); rintro e w16 ⟨rfl, hb⟩; refine ⟨_, rfl, ?_⟩; have n0_ := Aside0.mk (below_step (by repeat (first | (with_reducible first | exact HB.out | apply below_alloc | apply pw_below_drewN | apply below_drew1) | exact HB.out)) hb); clear HB; have HB := n0_; clear n0_; (try clear hb); (try clear hb2); (try clear hk); (try clear hi)) | ((with_reducible refine gate_callee (f := 23) rfl ?_); refine goesL_ (some 28) rfl rfl Tryd.func23 (by kernel_rfl) rfl #[.string a0] rfl (by (try simp only [List.map_toArray, List.map_cons, List.map_nil]); first | done | rfl | (simp only [List.length_drop, List.length_take]; rfl)) ?_; (with_reducible refine (motleyref02_Width.calls k a0 t482 t483 _ A8.out).mono ?_); rintro e w17 ⟨rfl, hb⟩; refine ⟨_, rfl, ?_⟩; have n0_ := Aside0.mk (below_step (by repeat (first | (with_reducible first | exact HB.out | apply below_alloc | apply pw_below_drewN | apply below_drew1) | exact HB.out)) hb); clear HB; have HB := n0_; clear n0_; (try clear hb); (try clear hb2); (try clear hk); (try clear hi)) | ((with_reducible refine gate_callee (f := 24) rfl ?_); refine goesL_ (some 35) rfl rfl Tryd.func24 (by kernel_rfl) rfl #[.string a0, .int .i64 a1, .int .i64 a2] rfl (by (try simp only [List.map_toArray, List.map_cons, List.map_nil]); first | done | rfl | (simp only [List.length_drop, List.length_take]; rfl)) ?_; (with_reducible refine (chars_Sub.calls k a0 a1 a2 t484 t485 _ ?side1 A9.out).mono ?_); (case side1 => first | exact hL | exact LaidW.below hL (by repeat (first | (with_reducible first | exact HB.out | apply below_alloc | apply pw_below_drewN | apply below_drew1) | exact HB.out))); rintro e w18 ⟨rfl, hb⟩; refine ⟨_, rfl, ?_⟩; have n0_ := Aside0.mk (below_step (by repeat (first | (with_reducible first | exact HB.out | apply below_alloc | apply pw_below_drewN | apply below_drew1) | exact HB.out)) hb); clear HB; have HB := n0_; clear n0_; (try clear hb); (try clear hb2); (try clear hk); (try clear hi)) | ((with_reducible refine gate_callee (f := 25) rfl ?_); refine goesL_ (some 40) rfl rfl Tryd.func25 (by kernel_rfl) rfl #[.string a0] rfl (by (try simp only [List.map_toArray, List.map_cons, List.map_nil]); first | done | rfl | (simp only [List.length_drop, List.length_take]; rfl)) ?_; (with_reducible refine (chars_Width.calls k a0 t486 t487 _ ?side1 A10.out).mono ?_); (case side1 => first | exact hL | exact LaidW.below hL (by repeat (first | (with_reducible first | exact HB.out | apply below_alloc | apply pw_below_drewN | apply below_drew1) | exact HB.out))); rintro e w19 ⟨rfl, hb⟩; refine ⟨_, rfl, ?_⟩; have n0_ := Aside0.mk (below_step (by repeat (first | (with_reducible first | exact HB.out | apply below_alloc | apply pw_below_drewN | apply below_drew1) | exact HB.out)) hb); clear HB; have HB := n0_; clear n0_; (try clear hb); (try clear hb2); (try clear hk); (try clear hi)) | (go_at_call 11; (with_reducible refine (motleylaw02_known.calls k  t488 _ ?side1 A15.out).mono ?_); (case side1 => first | exact hL | exact LaidW.below hL (by repeat (first | (with_reducible first | exact HB.out | apply below_alloc | apply pw_below_drewN | apply below_drew1) | exact HB.out))); rintro e w20 ⟨rfl, hb⟩; have n0_ := Aside0.mk (below_step (by repeat (first | (with_reducible first | exact HB.out | apply below_alloc | apply pw_below_drewN | apply below_drew1) | exact HB.out)) hb); clear HB; have HB := n0_; clear n0_; (try clear hb); (try clear hb2); (try clear hk); (try clear hi)))
            go_ret
            exact ⟨by first | rfl | (simp [errW_none, errW_some] <;> rfl) | (simp [*, errW_none, errW_some] <;> rfl), by repeat (first | (with_reducible first | exact HB.out | apply below_alloc | apply pw_below_drewN | apply below_drew1) | exact HB.out)⟩
          · rw [if_neg c14] at H
            have c14b0 : (t487 == t483) = false := beq_eq_false_iff_ne.mpr c14
            have c14b1 : (t487 != t483) = true := bne_iff_ne.mpr c14
            obtain rfl := Option.some.inj H
            go_enter Tryd.func5, Tryd.ntmps5
            go_wp2_with (first | ((with_reducible refine gate_callee (f := 22) rfl ?_); refine goesL_ (some 23) rfl rfl Tryd.func22 (by kernel_rfl) rfl #[.string a0, .int .i64 a1, .int .i64 a2] rfl (by (try simp only [List.map_toArray, List.map_cons, List.map_nil]); first | done | rfl | (simp only [List.length_drop, List.length_take]; rfl)) ?_; (with_reducible refine (motleyref02_Sub.calls k a0 a1 a2 t480 t481 _ A7.out).mono ?_); rintro e w21 ⟨rfl, hb⟩; refine ⟨_, rfl, ?_⟩; have n0_ := Aside0.mk (below_step (by repeat (first | (with_reducible first | exact HB.out | apply below_alloc | apply pw_below_drewN | apply below_drew1) | exact HB.out)) hb); clear HB; have HB := n0_; clear n0_; (try clear hb); (try clear hb2); (try clear hk); (try clear hi)) | ((with_reducible refine gate_callee (f := 23) rfl ?_); refine goesL_ (some 28) rfl rfl Tryd.func23 (by kernel_rfl) rfl #[.string a0] rfl (by (try simp only [List.map_toArray, List.map_cons, List.map_nil]); first | done | rfl | (simp only [List.length_drop, List.length_take]; rfl)) ?_; (with_reducible refine (motleyref02_Width.calls k a0 t482 t483 _ A8.out).mono ?_); rintro e w22 ⟨rfl, hb⟩; refine ⟨_, rfl, ?_⟩; have n0_ := Aside0.mk (below_step (by repeat (first | (with_reducible first | exact HB.out | apply below_alloc | apply pw_below_drewN | apply below_drew1) | exact HB.out)) hb); clear HB; have HB := n0_; clear n0_; (try clear hb); (try clear hb2); (try clear hk); (try clear hi)) | ((with_reducible refine gate_callee (f := 24) rfl ?_); refine goesL_ (some 35) rfl rfl Tryd.func24 (by kernel_rfl) rfl #[.string a0, .int .i64 a1, .int .i64 a2] rfl (by (try simp only [List.map_toArray, List.map_cons, List.map_nil]); first | done | rfl | (simp only [List.length_drop, List.length_take]; rfl)) ?_; (with_reducible refine (chars_Sub.calls k a0 a1 a2 t484 t485 _ ?side1 A9.out).mono ?_); (case side1 => first | exact hL | exact LaidW.below hL (by repeat (first | (with_reducible first | exact HB.out | apply below_alloc | apply pw_below_drewN | apply below_drew1) | exact HB.out))); rintro e w23 ⟨rfl, hb⟩; refine ⟨_, rfl, ?_⟩; have n0_ := Aside0.mk (below_step (by repeat (first | (with_reducible first | exact HB.out | apply below_alloc | apply pw_below_drewN | apply below_drew1) | exact HB.out)) hb); clear HB; have HB := n0_; clear n0_; (try clear hb); (try clear hb2); (try clear hk); (try clear hi)) | ((with_reducible refine gate_callee (f := 25) rfl ?_); refine goesL_ (some 40) rfl rfl Tryd.func25 (by kernel_rfl) rfl #[.string a0] rfl (by (try simp only [List.map_toArray, List.map_cons, List.map_nil]); first | done | rfl | (simp only [List.length_drop, List.length_take]; rfl)) ?_; (with_reducible refine (chars_Width.calls k a0 t486 t487 _ ?side1 A10.out).mono ?_); (case side1 => first | exact hL | exact LaidW.below hL (by repeat (first | (with_reducible first | exact HB.out | apply below_alloc | apply pw_below_drewN | apply below_drew1) | exact HB.out))); rintro e w24 ⟨rfl, hb⟩; refine ⟨_, rfl, ?_⟩; have n0_ := Aside0.mk (below_step (by repeat (first | (with_reducible first | exact HB.out | apply below_alloc | apply pw_below_drewN | apply below_drew1) | exact HB.out)) hb); clear HB; have HB := n0_; clear n0_; (try clear hb); (try clear hb2); (try clear hk); (try clear hi)))
            go_ret
            exact ⟨by first | rfl | (simp [errW_none, errW_some] <;> rfl) | (simp [*, errW_none, errW_some] <;> rfl), by repeat (first | (with_reducible first | exact HB.out | apply below_alloc | apply pw_below_drewN | apply below_drew1) | exact HB.out)⟩
        · rw [if_neg c13] at H
          have c13b0 : (t486 == t482) = false := beq_eq_false_iff_ne.mpr c13
          have c13b1 : (t486 != t482) = true := bne_iff_ne.mpr c13
          obtain rfl := Option.some.inj H
          go_enter Tryd.func5, Tryd.ntmps5
          go_wp2_with (first | ((with_reducible refine gate_callee (f := 22) rfl ?_); refine goesL_ (some 23) rfl rfl Tryd.func22 (by kernel_rfl) rfl #[.string a0, .int .i64 a1, .int .i64 a2] rfl (by (try simp only [List.map_toArray, List.map_cons, List.map_nil]); first | done | rfl | (simp only [List.length_drop, List.length_take]; rfl)) ?_; (with_reducible refine (motleyref02_Sub.calls k a0 a1 a2 t480 t481 _ A7.out).mono ?_); rintro e w25 ⟨rfl, hb⟩; refine ⟨_, rfl, ?_⟩; have n0_ := Aside0.mk (below_step (by repeat (first | (with_reducible first | exact HB.out | apply below_alloc | apply pw_below_drewN | apply below_drew1) | exact HB.out)) hb); clear HB; have HB := n0_; clear n0_; (try clear hb); (try clear hb2); (try clear hk); (try clear hi)) | ((with_reducible refine gate_callee (f := 23) rfl ?_); refine goesL_ (some 28) rfl rfl Tryd.func23 (by kernel_rfl) rfl #[.string a0] rfl (by (try simp only [List.map_toArray, List.map_cons, List.map_nil]); first | done | rfl | (simp only [List.length_drop, List.length_take]; rfl)) ?_; (with_reducible refine (motleyref02_Width.calls k a0 t482 t483 _ A8.out).mono ?_); rintro e w26 ⟨rfl, hb⟩; refine ⟨_, rfl, ?_⟩; have n0_ := Aside0.mk (below_step (by repeat (first | (with_reducible first | exact HB.out | apply below_alloc | apply pw_below_drewN | apply below_drew1) | exact HB.out)) hb); clear HB; have HB := n0_; clear n0_; (try clear hb); (try clear hb2); (try clear hk); (try clear hi)) | ((with_reducible refine gate_callee (f := 24) rfl ?_); refine goesL_ (some 35) rfl rfl Tryd.func24 (by kernel_rfl) rfl #[.string a0, .int .i64 a1, .int .i64 a2] rfl (by (try simp only [List.map_toArray, List.map_cons, List.map_nil]); first | done | rfl | (simp only [List.length_drop, List.length_take]; rfl)) ?_; (with_reducible refine (chars_Sub.calls k a0 a1 a2 t484 t485 _ ?side1 A9.out).mono ?_); (case side1 => first | exact hL | exact LaidW.below hL (by repeat (first | (with_reducible first | exact HB.out | apply below_alloc | apply pw_below_drewN | apply below_drew1) | exact HB.out))); rintro e w27 ⟨rfl, hb⟩; refine ⟨_, rfl, ?_⟩; have n0_ := Aside0.mk (below_step (by repeat (first | (with_reducible first | exact HB.out | apply below_alloc | apply pw_below_drewN | apply below_drew1) | exact HB.out)) hb); clear HB; have HB := n0_; clear n0_; (try clear hb); (try clear hb2); (try clear hk); (try clear hi)) | ((with_reducible refine gate_callee (f := 25) rfl ?_); refine goesL_ (some 40) rfl rfl Tryd.func25 (by kernel_rfl) rfl #[.string a0] rfl (by (try simp only [List.map_toArray, List.map_cons, List.map_nil]); first | done | rfl | (simp only [List.length_drop, List.length_take]; rfl)) ?_; (with_reducible refine (chars_Width.calls k a0 t486 t487 _ ?side1 A10.out).mono ?_); (case side1 => first | exact hL | exact LaidW.below hL (by repeat (first | (with_reducible first | exact HB.out | apply below_alloc | apply pw_below_drewN | apply below_drew1) | exact HB.out))); rintro e w28 ⟨rfl, hb⟩; refine ⟨_, rfl, ?_⟩; have n0_ := Aside0.mk (below_step (by repeat (first | (with_reducible first | exact HB.out | apply below_alloc | apply pw_below_drewN | apply below_drew1) | exact HB.out)) hb); clear HB; have HB := n0_; clear n0_; (try clear hb); (try clear hb2); (try clear hk); (try clear hi)))
          go_ret
          exact ⟨by first | rfl | (simp [errW_none, errW_some] <;> rfl) | (simp [*, errW_none, errW_some] <;> rfl), by repeat (first | (with_reducible first | exact HB.out | apply below_alloc | apply pw_below_drewN | apply below_drew1) | exact HB.out)⟩
      · rw [if_neg c12] at H
        have c12b0 : (t485 == t481) = false := beq_eq_false_iff_ne.mpr c12
        have c12b1 : (t485 != t481) = true := bne_iff_ne.mpr c12
        obtain rfl := Option.some.inj H
        go_enter Tryd.func5, Tryd.ntmps5
        go_wp2_with (first | ((with_reducible refine gate_callee (f := 22) rfl ?_); refine goesL_ (some 23) rfl rfl Tryd.func22 (by kernel_rfl) rfl #[.string a0, .int .i64 a1, .int .i64 a2] rfl (by (try simp only [List.map_toArray, List.map_cons, List.map_nil]); first | done | rfl | (simp only [List.length_drop, List.length_take]; rfl)) ?_; (with_reducible refine (motleyref02_Sub.calls k a0 a1 a2 t480 t481 _ A7.out).mono ?_); rintro e w29 ⟨rfl, hb⟩; refine ⟨_, rfl, ?_⟩; have n0_ := Aside0.mk (below_step (by repeat (first | (with_reducible first | exact HB.out | apply below_alloc | apply pw_below_drewN | apply below_drew1) | exact HB.out)) hb); clear HB; have HB := n0_; clear n0_; (try clear hb); (try clear hb2); (try clear hk); (try clear hi)) | ((with_reducible refine gate_callee (f := 23) rfl ?_); refine goesL_ (some 28) rfl rfl Tryd.func23 (by kernel_rfl) rfl #[.string a0] rfl (by (try simp only [List.map_toArray, List.map_cons, List.map_nil]); first | done | rfl | (simp only [List.length_drop, List.length_take]; rfl)) ?_; (with_reducible refine (motleyref02_Width.calls k a0 t482 t483 _ A8.out).mono ?_); rintro e w30 ⟨rfl, hb⟩; refine ⟨_, rfl, ?_⟩; have n0_ := Aside0.mk (below_step (by repeat (first | (with_reducible first | exact HB.out | apply below_alloc | apply pw_below_drewN | apply below_drew1) | exact HB.out)) hb); clear HB; have HB := n0_; clear n0_; (try clear hb); (try clear hb2); (try clear hk); (try clear hi)) | ((with_reducible refine gate_callee (f := 24) rfl ?_); refine goesL_ (some 35) rfl rfl Tryd.func24 (by kernel_rfl) rfl #[.string a0, .int .i64 a1, .int .i64 a2] rfl (by (try simp only [List.map_toArray, List.map_cons, List.map_nil]); first | done | rfl | (simp only [List.length_drop, List.length_take]; rfl)) ?_; (with_reducible refine (chars_Sub.calls k a0 a1 a2 t484 t485 _ ?side1 A9.out).mono ?_); (case side1 => first | exact hL | exact LaidW.below hL (by repeat (first | (with_reducible first | exact HB.out | apply below_alloc | apply pw_below_drewN | apply below_drew1) | exact HB.out))); rintro e w31 ⟨rfl, hb⟩; refine ⟨_, rfl, ?_⟩; have n0_ := Aside0.mk (below_step (by repeat (first | (with_reducible first | exact HB.out | apply below_alloc | apply pw_below_drewN | apply below_drew1) | exact HB.out)) hb); clear HB; have HB := n0_; clear n0_; (try clear hb); (try clear hb2); (try clear hk); (try clear hi)) | ((with_reducible refine gate_callee (f := 25) rfl ?_); refine goesL_ (some 40) rfl rfl Tryd.func25 (by kernel_rfl) rfl #[.string a0] rfl (by (try simp only [List.map_toArray, List.map_cons, List.map_nil]); first | done | rfl | (simp only [List.length_drop, List.length_take]; rfl)) ?_; (with_reducible refine (chars_Width.calls k a0 t486 t487 _ ?side1 A10.out).mono ?_); (case side1 => first | exact hL | exact LaidW.below hL (by repeat (first | (with_reducible first | exact HB.out | apply below_alloc | apply pw_below_drewN | apply below_drew1) | exact HB.out))); rintro e w32 ⟨rfl, hb⟩; refine ⟨_, rfl, ?_⟩; have n0_ := Aside0.mk (below_step (by repeat (first | (with_reducible first | exact HB.out | apply below_alloc | apply pw_below_drewN | apply below_drew1) | exact HB.out)) hb); clear HB; have HB := n0_; clear n0_; (try clear hb); (try clear hb2); (try clear hk); (try clear hi)))
        go_ret
        exact ⟨by first | rfl | (simp [errW_none, errW_some] <;> rfl) | (simp [*, errW_none, errW_some] <;> rfl), by repeat (first | (with_reducible first | exact HB.out | apply below_alloc | apply pw_below_drewN | apply below_drew1) | exact HB.out)⟩
    · rw [if_neg c11] at H
      have c11b0 : (t484.toList == t480.toList) = false := beq_eq_false_iff_ne.mpr c11
      have c11b1 : (t484.toList != t480.toList) = true := bne_iff_ne.mpr c11
      obtain rfl := Option.some.inj H
      go_enter Tryd.func5, Tryd.ntmps5
      go_wp2_with (first | ((with_reducible refine gate_callee (f := 22) rfl ?_); refine goesL_ (some 23) rfl rfl Tryd.func22 (by kernel_rfl) rfl #[.string a0, .int .i64 a1, .int .i64 a2] rfl (by (try simp only [List.map_toArray, List.map_cons, List.map_nil]); first | done | rfl | (simp only [List.length_drop, List.length_take]; rfl)) ?_; (with_reducible refine (motleyref02_Sub.calls k a0 a1 a2 t480 t481 _ A7.out).mono ?_); rintro e w33 ⟨rfl, hb⟩; refine ⟨_, rfl, ?_⟩; have n0_ := Aside0.mk (below_step (by repeat (first | (with_reducible first | exact HB.out | apply below_alloc | apply pw_below_drewN | apply below_drew1) | exact HB.out)) hb); clear HB; have HB := n0_; clear n0_; (try clear hb); (try clear hb2); (try clear hk); (try clear hi)) | ((with_reducible refine gate_callee (f := 23) rfl ?_); refine goesL_ (some 28) rfl rfl Tryd.func23 (by kernel_rfl) rfl #[.string a0] rfl (by (try simp only [List.map_toArray, List.map_cons, List.map_nil]); first | done | rfl | (simp only [List.length_drop, List.length_take]; rfl)) ?_; (with_reducible refine (motleyref02_Width.calls k a0 t482 t483 _ A8.out).mono ?_); rintro e w34 ⟨rfl, hb⟩; refine ⟨_, rfl, ?_⟩; have n0_ := Aside0.mk (below_step (by repeat (first | (with_reducible first | exact HB.out | apply below_alloc | apply pw_below_drewN | apply below_drew1) | exact HB.out)) hb); clear HB; have HB := n0_; clear n0_; (try clear hb); (try clear hb2); (try clear hk); (try clear hi)) | ((with_reducible refine gate_callee (f := 24) rfl ?_); refine goesL_ (some 35) rfl rfl Tryd.func24 (by kernel_rfl) rfl #[.string a0, .int .i64 a1, .int .i64 a2] rfl (by (try simp only [List.map_toArray, List.map_cons, List.map_nil]); first | done | rfl | (simp only [List.length_drop, List.length_take]; rfl)) ?_; (with_reducible refine (chars_Sub.calls k a0 a1 a2 t484 t485 _ ?side1 A9.out).mono ?_); (case side1 => first | exact hL | exact LaidW.below hL (by repeat (first | (with_reducible first | exact HB.out | apply below_alloc | apply pw_below_drewN | apply below_drew1) | exact HB.out))); rintro e w35 ⟨rfl, hb⟩; refine ⟨_, rfl, ?_⟩; have n0_ := Aside0.mk (below_step (by repeat (first | (with_reducible first | exact HB.out | apply below_alloc | apply pw_below_drewN | apply below_drew1) | exact HB.out)) hb); clear HB; have HB := n0_; clear n0_; (try clear hb); (try clear hb2); (try clear hk); (try clear hi)) | ((with_reducible refine gate_callee (f := 25) rfl ?_); refine goesL_ (some 40) rfl rfl Tryd.func25 (by kernel_rfl) rfl #[.string a0] rfl (by (try simp only [List.map_toArray, List.map_cons, List.map_nil]); first | done | rfl | (simp only [List.length_drop, List.length_take]; rfl)) ?_; (with_reducible refine (chars_Width.calls k a0 t486 t487 _ ?side1 A10.out).mono ?_); (case side1 => first | exact hL | exact LaidW.below hL (by repeat (first | (with_reducible first | exact HB.out | apply below_alloc | apply pw_below_drewN | apply below_drew1) | exact HB.out))); rintro e w36 ⟨rfl, hb⟩; refine ⟨_, rfl, ?_⟩; have n0_ := Aside0.mk (below_step (by repeat (first | (with_reducible first | exact HB.out | apply below_alloc | apply pw_below_drewN | apply below_drew1) | exact HB.out)) hb); clear HB; have HB := n0_; clear n0_; (try clear hb); (try clear hb2); (try clear hk); (try clear hi)))
      go_ret
      exact ⟨by first | rfl | (simp [errW_none, errW_some] <;> rfl) | (simp [*, errW_none, errW_some] <;> rfl), by repeat (first | (with_reducible first | exact HB.out | apply below_alloc | apply pw_below_drewN | apply below_drew1) | exact HB.out)⟩

/-- THE ONE PURE STATEMENT of motleylaw02_CharsSubs: yours. -/
def motleylaw02_CharsSubs.Pure : Prop := ∀ (a0 : ByteArray) (a1 : Int) (a2 : Int), a0.size ≤ 140737488351232 → (Lit.int .i64 a1).wf = true → (Lit.int .i64 a2).wf = true → ∃ k, motleylaw02_CharsSubs.f k a0 a1 a2 = some true
theorem motleylaw02_CharsSubs.walk (P : motleylaw02_CharsSubs.Pure) (a0 : ByteArray) (a1 : Int) (a2 : Int) (w : World) (hL : LaidW w) (w0 : a0.size ≤ 140737488351232) (w1 : (Lit.int .i64 a1).wf = true) (w2 : (Lit.int .i64 a2).wf = true) :
    Calls Tryd.prog 5 #[.string a0, .int .i64 a1, .int .i64 a2] w fun e w' => e = .returned (.bool true) ∧ Below w.heap.size w w' := by
  obtain ⟨k, h⟩ := P a0 a1 a2 w0 w1 w2
  refine (motleylaw02_CharsSubs.calls k a0 a1 a2 true w hL h).mono ?_
  rintro e w' ⟨rfl, hd⟩
  exact ⟨rfl, hd⟩

end Go.Proofs.YtegapacamclipaaDoor.M
