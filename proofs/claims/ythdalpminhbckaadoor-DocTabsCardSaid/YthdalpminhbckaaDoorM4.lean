/- What the Go functions of this seat give, as Lean functions, and that each call comes to it. Written by the session's own program (wip/tools/mprint.py). -/
import Derived.Test.YthdalpminhbckaaDoorM0
import Derived.Test.YthdalpminhbckaaDoorM1
import Derived.Test.YthdalpminhbckaaDoorM3
namespace Go.Proofs.YthdalpminhbckaaDoor.M
open Go.RowKit Go.Proofs.YthdalpminhbckaaDoor.G Go.Proofs.YthdalpminhbckaaDoorW.PrintWords Go.Proofs.YthdalpminhbckaaDoorW.PrintLast Go.Proofs.YthdalpminhbckaaDoorW.PrintMore
attribute [local go_sem] max2_int min2_int max_two min_two max_three min_three max_four min_four   -- for this text's walks alone
set_option linter.unusedVariables false
set_option linter.unusedSimpArgs false

/-! ### motleylaw25_DocTabs: function 6 -/
mutual
def motleylaw25_DocTabs.j0 : Nat → ByteArray → Int → ByteArray → Int → ByteArray → Bool → Option (Bool)
  | 0, _, _, _, _, _, _ => none
  | k + 1, x0, x1, x9, x10, x11, x59 => if x59 = true then (some false) else (if x10 = 0 then (motleylaw25_DocTabs.j1 k x0 x1 x11 (x9.toList != x0.toList)) else (motleylaw25_DocTabs.j1 k x0 x1 x11 true))
def motleylaw25_DocTabs.j1 : Nat → ByteArray → Int → ByteArray → Bool → Option (Bool)
  | 0, _, _, _, _ => none
  | k + 1, x0, x1, x11, x66 => if x66 = true then ((motleylaw25_known.f k).bind fun t206 => (some t206)) else ((doc_Expand.f x11 x1).bind fun bt207 => (if bt207.1.toList = x0.toList then (if bt207.2 = 0 then ((motleylaw25_known.f k).bind fun t209 => (some t209)) else (some false)) else (some false)))
end
def motleylaw25_DocTabs.f (k : Nat) (a0 : ByteArray) (a1 : Int) : Option (Bool) := (motleylaw25_over.f a0).bind fun t196 => (if t196 = true then ((motleylaw25_known.f k).bind fun t197 => (some t197)) else ((motleyref25_Expand.f k a0 a1).bind fun bt198 => ((motleyref25_Unexpand.f k a0 a1).bind fun bt200 => ((doc_Expand.f a0 a1).bind fun bt202 => ((doc_Unexpand.f k a0 a1).bind fun bt204 => (if bt202.1.toList = bt198.1.toList then (if bt202.2 = bt198.2 then (if bt204.1.toList = bt200.1.toList then (motleylaw25_DocTabs.j0 k a0 a1 bt202.1 bt202.2 bt204.1 (bt204.2 != bt200.2)) else (motleylaw25_DocTabs.j0 k a0 a1 bt202.1 bt202.2 bt204.1 true)) else (motleylaw25_DocTabs.j0 k a0 a1 bt202.1 bt202.2 bt204.1 true)) else (motleylaw25_DocTabs.j0 k a0 a1 bt202.1 bt202.2 bt204.1 true)))))))
theorem motleylaw25_DocTabs.mono_l : ∀ k, (∀ y0 y1 y2 y3 y4 y5, LeO (motleylaw25_DocTabs.j0 k y0 y1 y2 y3 y4 y5) (motleylaw25_DocTabs.j0 (k + 1) y0 y1 y2 y3 y4 y5)) ∧ (∀ y0 y1 y2 y3, LeO (motleylaw25_DocTabs.j1 k y0 y1 y2 y3) (motleylaw25_DocTabs.j1 (k + 1) y0 y1 y2 y3))
  | 0 => ⟨fun _ _ _ _ _ _ r h => by simp [motleylaw25_DocTabs.j0] at h, fun _ _ _ _ r h => by simp [motleylaw25_DocTabs.j1] at h⟩
  | k + 1 => by
    obtain ⟨ih0, ih1⟩ := motleylaw25_DocTabs.mono_l k
    refine ⟨?_, ?_⟩
    · intro y0 y1 y2 y3 y4 y5
      unfold motleylaw25_DocTabs.j0
      repeat' first
      | (with_reducible exact ih0 _ _ _ _ _ _)
      | (with_reducible exact ih1 _ _ _ _)
      | (with_reducible exact doc_Unexpand.mono _ _ _)
      | (with_reducible exact motleylaw25_known.mono _)
      | (with_reducible exact motleyref25_Expand.mono _ _ _)
      | (with_reducible exact motleyref25_Unexpand.mono _ _ _)
      | (with_reducible exact LeO.refl _)
      | (with_reducible exact LeO.none _)
      | (with_reducible refine LeO.ite ?_ ?_)
      | (with_reducible refine LeO.bind ?_ (fun _ => ?_))
      | exact ih0 _ _ _ _ _ _
      | exact ih1 _ _ _ _
      | exact doc_Unexpand.mono _ _ _
      | exact motleylaw25_known.mono _
      | exact motleyref25_Expand.mono _ _ _
      | exact motleyref25_Unexpand.mono _ _ _
      | exact LeO.none _
      | refine LeO.ite ?_ ?_
      | refine LeO.bind ?_ (fun _ => ?_)
    · intro y0 y1 y2 y3
      unfold motleylaw25_DocTabs.j1
      repeat' first
      | (with_reducible exact ih0 _ _ _ _ _ _)
      | (with_reducible exact ih1 _ _ _ _)
      | (with_reducible exact doc_Unexpand.mono _ _ _)
      | (with_reducible exact motleylaw25_known.mono _)
      | (with_reducible exact motleyref25_Expand.mono _ _ _)
      | (with_reducible exact motleyref25_Unexpand.mono _ _ _)
      | (with_reducible exact LeO.refl _)
      | (with_reducible exact LeO.none _)
      | (with_reducible refine LeO.ite ?_ ?_)
      | (with_reducible refine LeO.bind ?_ (fun _ => ?_))
      | exact ih0 _ _ _ _ _ _
      | exact ih1 _ _ _ _
      | exact doc_Unexpand.mono _ _ _
      | exact motleylaw25_known.mono _
      | exact motleyref25_Expand.mono _ _ _
      | exact motleyref25_Unexpand.mono _ _ _
      | exact LeO.none _
      | refine LeO.ite ?_ ?_
      | refine LeO.bind ?_ (fun _ => ?_)
theorem motleylaw25_DocTabs.mono : ∀ a0 a1 k, LeO (motleylaw25_DocTabs.f k a0 a1) (motleylaw25_DocTabs.f (k + 1) a0 a1) := by
  intro a0 a1 k
  obtain ⟨ih0, ih1⟩ := motleylaw25_DocTabs.mono_l k
  unfold motleylaw25_DocTabs.f
  repeat' first
      | (with_reducible exact ih0 _ _ _ _ _ _)
      | (with_reducible exact ih1 _ _ _ _)
      | (with_reducible exact doc_Unexpand.mono _ _ _)
      | (with_reducible exact motleylaw25_known.mono _)
      | (with_reducible exact motleyref25_Expand.mono _ _ _)
      | (with_reducible exact motleyref25_Unexpand.mono _ _ _)
      | (with_reducible exact LeO.refl _)
      | (with_reducible exact LeO.none _)
      | (with_reducible refine LeO.ite ?_ ?_)
      | (with_reducible refine LeO.bind ?_ (fun _ => ?_))
      | exact ih0 _ _ _ _ _ _
      | exact ih1 _ _ _ _
      | exact doc_Unexpand.mono _ _ _
      | exact motleylaw25_known.mono _
      | exact motleyref25_Expand.mono _ _ _
      | exact motleyref25_Unexpand.mono _ _ _
      | exact LeO.none _
      | refine LeO.ite ?_ ?_
      | refine LeO.bind ?_ (fun _ => ?_)
set_option maxHeartbeats 8000000 in
set_option maxRecDepth 100000 in
theorem motleylaw25_DocTabs.calls (k : Nat) (a0 : ByteArray) (a1 : Int) (r : Bool) (w : World) (hL : LaidW w) (h : motleylaw25_DocTabs.f k a0 a1 = some r) :
    Calls Tryd.prog 6 #[.string a0, .int .i64 a1] w fun e w' => e = .returned (.bool r) ∧ Below w.heap.size w w' := by
  have HB := Aside0.mk (Below.refl w.heap.size w)
  have H : ((motleylaw25_over.f a0).bind fun t196 => (if t196 = true then ((motleylaw25_known.f k).bind fun t197 => (some t197)) else ((motleyref25_Expand.f k a0 a1).bind fun bt198 => ((motleyref25_Unexpand.f k a0 a1).bind fun bt200 => ((doc_Expand.f a0 a1).bind fun bt202 => ((doc_Unexpand.f k a0 a1).bind fun bt204 => (if bt202.1.toList = bt198.1.toList then (if bt202.2 = bt198.2 then (if bt204.1.toList = bt200.1.toList then (motleylaw25_DocTabs.j0 k a0 a1 bt202.1 bt202.2 bt204.1 (bt204.2 != bt200.2)) else (motleylaw25_DocTabs.j0 k a0 a1 bt202.1 bt202.2 bt204.1 true)) else (motleylaw25_DocTabs.j0 k a0 a1 bt202.1 bt202.2 bt204.1 true)) else (motleylaw25_DocTabs.j0 k a0 a1 bt202.1 bt202.2 bt204.1 true)))))))) = some r := h
  clear h
  replace H := Option.bind_eq_some_iff.mp H
  obtain ⟨t196, A30, H⟩ := H
  replace H : (if t196 = true then ((motleylaw25_known.f k).bind fun t197 => (some t197)) else ((motleyref25_Expand.f k a0 a1).bind fun bt198 => ((motleyref25_Unexpand.f k a0 a1).bind fun bt200 => ((doc_Expand.f a0 a1).bind fun bt202 => ((doc_Unexpand.f k a0 a1).bind fun bt204 => (if bt202.1.toList = bt198.1.toList then (if bt202.2 = bt198.2 then (if bt204.1.toList = bt200.1.toList then (motleylaw25_DocTabs.j0 k a0 a1 bt202.1 bt202.2 bt204.1 (bt204.2 != bt200.2)) else (motleylaw25_DocTabs.j0 k a0 a1 bt202.1 bt202.2 bt204.1 true)) else (motleylaw25_DocTabs.j0 k a0 a1 bt202.1 bt202.2 bt204.1 true)) else (motleylaw25_DocTabs.j0 k a0 a1 bt202.1 bt202.2 bt204.1 true))))))) = some r := H
  have A3 := Aside0.mk A30
  clear A30
  by_cases c4 : t196 = true
  · subst c4
    have H1 : ((motleylaw25_known.f k).bind fun t197 => (some t197)) = some r := by rw [if_pos rfl] at H; exact H
    clear H
    have H := H1
    clear H1
    replace H := Option.bind_eq_some_iff.mp H
    obtain ⟨t197, A50, H⟩ := H
    replace H : (some t197) = some r := H
    have A5 := Aside0.mk A50
    clear A50
    obtain rfl := Option.some.inj H
    go_enter Tryd.func6, Tryd.ntmps6
    go_wp2_with (first | ((with_reducible refine gate_callee (f := 10) rfl ?_); refine goesL_ (some 16) rfl rfl Tryd.func10 (by kernel_rfl) rfl #[.string a0] rfl (by (try simp only [List.map_toArray, List.map_cons, List.map_nil]); first | done | rfl | (simp only [List.length_drop, List.length_take]; rfl)) ?_; (with_reducible refine (motleylaw25_over.calls a0 true _ A3.out).mono ?_); rintro e w' ⟨rfl, ⟨nd, rfl⟩⟩; refine ⟨_, rfl, ?_⟩) | ((with_reducible refine gate_callee (f := 11) rfl ?_); refine goesL_ (some 17) rfl rfl Tryd.func11 (by kernel_rfl) rfl #[] rfl (by (try simp only [List.map_toArray, List.map_cons, List.map_nil]); first | done | rfl | (simp only [List.length_drop, List.length_take]; rfl)) ?_; (with_reducible refine (motleylaw25_known.calls k  t197 _ ?side1 A5.out).mono ?_); (case side1 => first | exact hL | exact LaidW.below hL (by repeat (first | (with_reducible first | exact HB.out | apply below_alloc | apply pw_below_drewN | apply below_drew1) | exact HB.out))); rintro e w6 ⟨rfl, hb⟩; refine ⟨_, rfl, ?_⟩; have n0_ := Aside0.mk (below_step (by repeat (first | (with_reducible first | exact HB.out | apply below_alloc | apply pw_below_drewN | apply below_drew1) | exact HB.out)) hb); clear HB; have HB := n0_; clear n0_; (try clear hb); (try clear hb2); (try clear hk); (try clear hi)))
    go_ret
    exact ⟨by first | rfl | (simp [errW_none, errW_some] <;> rfl) | (simp [*, errW_none, errW_some] <;> rfl), by repeat (first | (with_reducible first | exact HB.out | apply below_alloc | apply pw_below_drewN | apply below_drew1) | exact HB.out)⟩
  · replace c4 := Bool.eq_false_iff.mpr c4
    subst c4
    have H1 : ((motleyref25_Expand.f k a0 a1).bind fun bt198 => ((motleyref25_Unexpand.f k a0 a1).bind fun bt200 => ((doc_Expand.f a0 a1).bind fun bt202 => ((doc_Unexpand.f k a0 a1).bind fun bt204 => (if bt202.1.toList = bt198.1.toList then (if bt202.2 = bt198.2 then (if bt204.1.toList = bt200.1.toList then (motleylaw25_DocTabs.j0 k a0 a1 bt202.1 bt202.2 bt204.1 (bt204.2 != bt200.2)) else (motleylaw25_DocTabs.j0 k a0 a1 bt202.1 bt202.2 bt204.1 true)) else (motleylaw25_DocTabs.j0 k a0 a1 bt202.1 bt202.2 bt204.1 true)) else (motleylaw25_DocTabs.j0 k a0 a1 bt202.1 bt202.2 bt204.1 true)))))) = some r := by rw [if_neg (show ¬ (false = true) by decide)] at H; exact H
    clear H
    have H := H1
    clear H1
    replace H := Option.bind_eq_some_iff.mp H
    obtain ⟨⟨t198, t199⟩, A70, H⟩ := H
    replace H : ((motleyref25_Unexpand.f k a0 a1).bind fun bt200 => ((doc_Expand.f a0 a1).bind fun bt202 => ((doc_Unexpand.f k a0 a1).bind fun bt204 => (if bt202.1.toList = t198.toList then (if bt202.2 = t199 then (if bt204.1.toList = bt200.1.toList then (motleylaw25_DocTabs.j0 k a0 a1 bt202.1 bt202.2 bt204.1 (bt204.2 != bt200.2)) else (motleylaw25_DocTabs.j0 k a0 a1 bt202.1 bt202.2 bt204.1 true)) else (motleylaw25_DocTabs.j0 k a0 a1 bt202.1 bt202.2 bt204.1 true)) else (motleylaw25_DocTabs.j0 k a0 a1 bt202.1 bt202.2 bt204.1 true))))) = some r := H
    have A7 := Aside0.mk A70
    clear A70
    replace H := Option.bind_eq_some_iff.mp H
    obtain ⟨⟨t200, t201⟩, A80, H⟩ := H
    replace H : ((doc_Expand.f a0 a1).bind fun bt202 => ((doc_Unexpand.f k a0 a1).bind fun bt204 => (if bt202.1.toList = t198.toList then (if bt202.2 = t199 then (if bt204.1.toList = t200.toList then (motleylaw25_DocTabs.j0 k a0 a1 bt202.1 bt202.2 bt204.1 (bt204.2 != t201)) else (motleylaw25_DocTabs.j0 k a0 a1 bt202.1 bt202.2 bt204.1 true)) else (motleylaw25_DocTabs.j0 k a0 a1 bt202.1 bt202.2 bt204.1 true)) else (motleylaw25_DocTabs.j0 k a0 a1 bt202.1 bt202.2 bt204.1 true)))) = some r := H
    have A8 := Aside0.mk A80
    clear A80
    replace H := Option.bind_eq_some_iff.mp H
    obtain ⟨⟨t202, t203⟩, A90, H⟩ := H
    replace H : ((doc_Unexpand.f k a0 a1).bind fun bt204 => (if t202.toList = t198.toList then (if t203 = t199 then (if bt204.1.toList = t200.toList then (motleylaw25_DocTabs.j0 k a0 a1 t202 t203 bt204.1 (bt204.2 != t201)) else (motleylaw25_DocTabs.j0 k a0 a1 t202 t203 bt204.1 true)) else (motleylaw25_DocTabs.j0 k a0 a1 t202 t203 bt204.1 true)) else (motleylaw25_DocTabs.j0 k a0 a1 t202 t203 bt204.1 true))) = some r := H
    have A9 := Aside0.mk A90
    clear A90
    replace H := Option.bind_eq_some_iff.mp H
    obtain ⟨⟨t204, t205⟩, A100, H⟩ := H
    replace H : (if t202.toList = t198.toList then (if t203 = t199 then (if t204.toList = t200.toList then (motleylaw25_DocTabs.j0 k a0 a1 t202 t203 t204 (t205 != t201)) else (motleylaw25_DocTabs.j0 k a0 a1 t202 t203 t204 true)) else (motleylaw25_DocTabs.j0 k a0 a1 t202 t203 t204 true)) else (motleylaw25_DocTabs.j0 k a0 a1 t202 t203 t204 true)) = some r := H
    have A10 := Aside0.mk A100
    clear A100
    have HC11 := Aside0.mk H
    clear H
    go_enter Tryd.func6, Tryd.ntmps6
    go_upto_region 7 with (first | ((with_reducible refine gate_callee (f := 10) rfl ?_); refine goesL_ (some 16) rfl rfl Tryd.func10 (by kernel_rfl) rfl #[.string a0] rfl (by (try simp only [List.map_toArray, List.map_cons, List.map_nil]); first | done | rfl | (simp only [List.length_drop, List.length_take]; rfl)) ?_; (with_reducible refine (motleylaw25_over.calls a0 false _ A3.out).mono ?_); rintro e w' ⟨rfl, ⟨nd, rfl⟩⟩; refine ⟨_, rfl, ?_⟩) | ((with_reducible refine gate_callee (f := 20) rfl ?_); refine goesL_ (some 21) rfl rfl Tryd.func20 (by kernel_rfl) rfl #[.string a0, .int .i64 a1] rfl (by (try simp only [List.map_toArray, List.map_cons, List.map_nil]); first | done | rfl | (simp only [List.length_drop, List.length_take]; rfl)) ?_; (with_reducible refine (motleyref25_Expand.calls k a0 a1 t198 t199 _ A7.out).mono ?_); rintro e w12 ⟨rfl, hb⟩; refine ⟨_, rfl, ?_⟩; have n0_ := Aside0.mk (below_step (by repeat (first | (with_reducible first | exact HB.out | apply below_alloc | apply pw_below_drewN | apply below_drew1) | exact HB.out)) hb); clear HB; have HB := n0_; clear n0_; (try clear hb); (try clear hb2); (try clear hk); (try clear hi)) | ((with_reducible refine gate_callee (f := 21) rfl ?_); refine goesL_ (some 27) rfl rfl Tryd.func21 (by kernel_rfl) rfl #[.string a0, .int .i64 a1] rfl (by (try simp only [List.map_toArray, List.map_cons, List.map_nil]); first | done | rfl | (simp only [List.length_drop, List.length_take]; rfl)) ?_; (with_reducible refine (motleyref25_Unexpand.calls k a0 a1 t200 t201 _ A8.out).mono ?_); rintro e w13 ⟨rfl, hb⟩; refine ⟨_, rfl, ?_⟩; have n0_ := Aside0.mk (below_step (by repeat (first | (with_reducible first | exact HB.out | apply below_alloc | apply pw_below_drewN | apply below_drew1) | exact HB.out)) hb); clear HB; have HB := n0_; clear n0_; (try clear hb); (try clear hb2); (try clear hk); (try clear hi)) | ((with_reducible refine gate_callee (f := 22) rfl ?_); refine goesL_ (some 33) rfl rfl Tryd.func22 (by kernel_rfl) rfl #[.string a0, .int .i64 a1] rfl (by (try simp only [List.map_toArray, List.map_cons, List.map_nil]); first | done | rfl | (simp only [List.length_drop, List.length_take]; rfl)) ?_; (with_reducible refine (doc_Expand.calls a0 a1 t202 t203 _ ?side1 A9.out).mono ?_); (case side1 => first | exact hL | exact LaidW.below hL (by repeat (first | (with_reducible first | exact HB.out | apply below_alloc | apply pw_below_drewN | apply below_drew1) | exact HB.out))); rintro e w14 ⟨rfl, hb⟩; refine ⟨_, rfl, ?_⟩; have n0_ := Aside0.mk (below_step (by repeat (first | (with_reducible first | exact HB.out | apply below_alloc | apply pw_below_drewN | apply below_drew1) | exact HB.out)) hb); clear HB; have HB := n0_; clear n0_; (try clear hb); (try clear hb2); (try clear hk); (try clear hi)) | ((with_reducible refine gate_callee (f := 23) rfl ?_); refine goesL_ (some 39) rfl rfl Tryd.func23 (by kernel_rfl) rfl #[.string a0, .int .i64 a1] rfl (by (try simp only [List.map_toArray, List.map_cons, List.map_nil]); first | done | rfl | (simp only [List.length_drop, List.length_take]; rfl)) ?_; (with_reducible refine (doc_Unexpand.calls k a0 a1 t204 t205 _ ?side1 A10.out).mono ?_); (case side1 => first | exact hL | exact LaidW.below hL (by repeat (first | (with_reducible first | exact HB.out | apply below_alloc | apply pw_below_drewN | apply below_drew1) | exact HB.out))); rintro e w15 ⟨rfl, hb⟩; refine ⟨_, rfl, ?_⟩; have n0_ := Aside0.mk (below_step (by repeat (first | (with_reducible first | exact HB.out | apply below_alloc | apply pw_below_drewN | apply below_drew1) | exact HB.out)) hb); clear HB; have HB := n0_; clear n0_; (try clear hb); (try clear hb2); (try clear hk); (try clear hi)))
    (try simp only [Act.put, List.setIfInBounds_toArray, List.set_cons_zero, List.set_cons_succ])
    go_cut [59] (fun v59 wc => ∃ (kq : Nat) (x59_10 : Bool), v59 = .bool x59_10 ∧ Aside0 (motleylaw25_DocTabs.j0 kq a0 a1 t202 t203 t204 x59_10 = some r) ∧ Aside0 (kq ≤ k) ∧ Aside0 (Below w.heap.size w wc))
    case first =>
      have H := HC11.out
      clear HC11
      by_cases c16 : t202.toList = t198.toList
      · rw [if_pos c16] at H
        have c16b0 : (t202.toList == t198.toList) = true := beq_iff_eq.mpr c16
        have c16b1 : (t202.toList != t198.toList) = false := bne_eq_false_iff_eq.mpr c16
        clear c16
        (first | rw [c16b0] | (simp only [i64_w, i32_w]; rw [c16b0]) | skip)
        by_cases c17 : t203 = t199
        · rw [if_pos c17] at H
          have c17b0 : (t203 == t199) = true := beq_iff_eq.mpr c17
          have c17b1 : (t203 != t199) = false := bne_eq_false_iff_eq.mpr c17
          clear c17
          by_cases c18 : t204.toList = t200.toList
          · rw [if_pos c18] at H
            have c18b0 : (t204.toList == t200.toList) = true := beq_iff_eq.mpr c18
            have c18b1 : (t204.toList != t200.toList) = false := bne_eq_false_iff_eq.mpr c18
            clear c18
            have H' := Aside0.mk H
            clear H
            go_wp2
            go_meet
            case rel => exact ⟨_, ((t205 != t201)), (by first | rfl | (simp; done) | (simp [*]; done) | (simp; generalize ByteArray.toList _ = l_; cases l_ <;> rfl)), H', ⟨by first | omega | exact Nat.le_refl _⟩, ⟨by repeat (first | (with_reducible first | exact HB.out | apply below_alloc | apply pw_below_drewN | apply below_drew1) | exact HB.out)⟩⟩
          · rw [if_neg c18] at H
            have c18b0 : (t204.toList == t200.toList) = false := beq_eq_false_iff_ne.mpr c18
            have c18b1 : (t204.toList != t200.toList) = true := bne_iff_ne.mpr c18
            have H' := Aside0.mk H
            clear H
            go_wp2
            go_meet
            case rel => exact ⟨_, (true), (by first | rfl | (simp; done) | (simp [*]; done) | (simp; generalize ByteArray.toList _ = l_; cases l_ <;> rfl)), H', ⟨by first | omega | exact Nat.le_refl _⟩, ⟨by repeat (first | (with_reducible first | exact HB.out | apply below_alloc | apply pw_below_drewN | apply below_drew1) | exact HB.out)⟩⟩
        · rw [if_neg c17] at H
          have c17b0 : (t203 == t199) = false := beq_eq_false_iff_ne.mpr c17
          have c17b1 : (t203 != t199) = true := bne_iff_ne.mpr c17
          have H' := Aside0.mk H
          clear H
          go_wp2
          go_meet
          case rel => exact ⟨_, (true), (by first | rfl | (simp; done) | (simp [*]; done) | (simp; generalize ByteArray.toList _ = l_; cases l_ <;> rfl)), H', ⟨by first | omega | exact Nat.le_refl _⟩, ⟨by repeat (first | (with_reducible first | exact HB.out | apply below_alloc | apply pw_below_drewN | apply below_drew1) | exact HB.out)⟩⟩
      · rw [if_neg c16] at H
        have c16b0 : (t202.toList == t198.toList) = false := beq_eq_false_iff_ne.mpr c16
        have c16b1 : (t202.toList != t198.toList) = true := bne_iff_ne.mpr c16
        (first | rw [c16b0] | (simp only [i64_w, i32_w]; rw [c16b0]) | skip)
        have H' := Aside0.mk H
        clear H
        go_wp2
        go_meet
        case rel => exact ⟨_, (true), (by first | rfl | (simp; done) | (simp [*]; done) | (simp; generalize ByteArray.toList _ = l_; cases l_ <;> rfl)), H', ⟨by first | omega | exact Nat.le_refl _⟩, ⟨by repeat (first | (with_reducible first | exact HB.out | apply below_alloc | apply pw_below_drewN | apply below_drew1) | exact HB.out)⟩⟩
    case rest =>
      clear HC11
      try clear c1
      try clear c2
      try clear p2
      try clear c4
      try clear c6
      try clear c10
      try clear c11
      try clear c16
      try clear c16b0
      try clear c16b1
      try clear c17
      try clear c17b0
      try clear c17b1
      try clear c18
      try clear c18b0
      try clear c18b1
      obtain ⟨kq, x59_10, rfl, HA, HJ10, HB⟩ := hcut
      cases kq with
      | zero => exact absurd HA.out (by simp [motleylaw25_DocTabs.j0])
      | succ kj10 =>
        have H := HA.out
        clear HA
        simp only [motleylaw25_DocTabs.j0] at H
        by_cases c19 : x59_10 = true
        · subst c19
          have H1 : (some false) = some r := by rw [if_pos rfl] at H; exact H
          clear H
          have H := H1
          clear H1
          obtain rfl := Option.some.inj H
          go_wp2
          go_ret
          exact ⟨by first | rfl | (simp [errW_none, errW_some] <;> rfl) | (simp [*, errW_none, errW_some] <;> rfl), by repeat (first | (with_reducible first | exact HB.out | apply below_alloc | apply pw_below_drewN | apply below_drew1) | exact HB.out)⟩
        · replace c19 := Bool.eq_false_iff.mpr c19
          subst c19
          have H1 : (if t203 = 0 then (motleylaw25_DocTabs.j1 kj10 a0 a1 t204 (t202.toList != a0.toList)) else (motleylaw25_DocTabs.j1 kj10 a0 a1 t204 true)) = some r := by rw [if_neg (show ¬ (false = true) by decide)] at H; exact H
          clear H
          have H := H1
          clear H1
          have HC20 := Aside0.mk H
          clear H
          go_upto_region 9 with (fail)
          go_cut [66] (fun v66 wc => ∃ (kq : Nat) (x66_19 : Bool), v66 = .bool x66_19 ∧ Aside0 (motleylaw25_DocTabs.j1 kq a0 a1 t204 x66_19 = some r) ∧ Aside0 (kq ≤ kj10) ∧ Aside0 (Below w.heap.size w wc))
          case first =>
            have H := HC20.out
            clear HC20
            by_cases c21 : t203 = 0
            · rw [if_pos c21] at H
              have c21b0 : (t203 == 0) = true := beq_iff_eq.mpr c21
              have c21b1 : (t203 != 0) = false := bne_eq_false_iff_eq.mpr c21
              clear c21
              (first | rw [c21b0] | (simp only [i64_w, i32_w]; rw [c21b0]) | skip)
              have H' := Aside0.mk H
              clear H
              go_wp2
              go_meet
              case rel => exact ⟨_, ((t202.toList != a0.toList)), (by first | rfl | (simp; done) | (simp [*]; done) | (simp; generalize ByteArray.toList _ = l_; cases l_ <;> rfl)), H', ⟨by have := HJ10.out; first | omega | exact Nat.le_refl _⟩, ⟨by repeat (first | (with_reducible first | exact HB.out | apply below_alloc | apply pw_below_drewN | apply below_drew1) | exact HB.out)⟩⟩
            · rw [if_neg c21] at H
              have c21b0 : (t203 == 0) = false := beq_eq_false_iff_ne.mpr c21
              have c21b1 : (t203 != 0) = true := bne_iff_ne.mpr c21
              (first | rw [c21b0] | (simp only [i64_w, i32_w]; rw [c21b0]) | skip)
              have H' := Aside0.mk H
              clear H
              go_wp2
              go_meet
              case rel => exact ⟨_, (true), (by first | rfl | (simp; done) | (simp [*]; done) | (simp; generalize ByteArray.toList _ = l_; cases l_ <;> rfl)), H', ⟨by have := HJ10.out; first | omega | exact Nat.le_refl _⟩, ⟨by repeat (first | (with_reducible first | exact HB.out | apply below_alloc | apply pw_below_drewN | apply below_drew1) | exact HB.out)⟩⟩
          case rest =>
            clear HC20
            try clear c1
            try clear c2
            try clear p2
            try clear c4
            try clear c6
            try clear c10
            try clear c11
            try clear c16
            try clear c16b0
            try clear c16b1
            try clear c17
            try clear c17b0
            try clear c17b1
            try clear c18
            try clear c18b0
            try clear c18b1
            try clear c19
            try clear c20
            try clear c21
            try clear c21b0
            try clear c21b1
            try clear p2
            obtain ⟨kq, x66_19, rfl, HA, HJ19, HB⟩ := hcut
            cases kq with
            | zero => exact absurd HA.out (by simp [motleylaw25_DocTabs.j1])
            | succ kj19 =>
              have H := HA.out
              clear HA
              simp only [motleylaw25_DocTabs.j1] at H
              by_cases c22 : x66_19 = true
              · subst c22
                have H1 : ((motleylaw25_known.f kj19).bind fun t206 => (some t206)) = some r := by rw [if_pos rfl] at H; exact H
                clear H
                have H := H1
                clear H1
                replace H := Option.bind_eq_some_iff.mp H
                obtain ⟨t206, A230, H⟩ := H
                replace H : (some t206) = some r := H
                have A23 := Aside0.mk A230
                clear A230
                obtain rfl := Option.some.inj H
                go_wp2_with (first | ((with_reducible refine gate_callee (f := 11) rfl ?_); refine goesL_ (some 67) rfl rfl Tryd.func11 (by kernel_rfl) rfl #[] rfl (by (try simp only [List.map_toArray, List.map_cons, List.map_nil]); first | done | rfl | (simp only [List.length_drop, List.length_take]; rfl)) ?_; (with_reducible refine (motleylaw25_known.calls kj19  t206 _ ?side1 A23.out).mono ?_); (case side1 => first | exact hL | exact LaidW.below hL (by repeat (first | (with_reducible first | exact HB.out | apply below_alloc | apply pw_below_drewN | apply below_drew1) | exact HB.out))); rintro e w24 ⟨rfl, hb⟩; refine ⟨_, rfl, ?_⟩; have n0_ := Aside0.mk (below_step (by repeat (first | (with_reducible first | exact HB.out | apply below_alloc | apply pw_below_drewN | apply below_drew1) | exact HB.out)) hb); clear HB; have HB := n0_; clear n0_; (try clear hb); (try clear hb2); (try clear hk); (try clear hi)))
                go_ret
                exact ⟨by first | rfl | (simp [errW_none, errW_some] <;> rfl) | (simp [*, errW_none, errW_some] <;> rfl), by repeat (first | (with_reducible first | exact HB.out | apply below_alloc | apply pw_below_drewN | apply below_drew1) | exact HB.out)⟩
              · replace c22 := Bool.eq_false_iff.mpr c22
                subst c22
                have H1 : ((doc_Expand.f t204 a1).bind fun bt207 => (if bt207.1.toList = a0.toList then (if bt207.2 = 0 then ((motleylaw25_known.f kj19).bind fun t209 => (some t209)) else (some false)) else (some false))) = some r := by rw [if_neg (show ¬ (false = true) by decide)] at H; exact H
                clear H
                have H := H1
                clear H1
                replace H := Option.bind_eq_some_iff.mp H
                obtain ⟨⟨t207, t208⟩, A250, H⟩ := H
                replace H : (if t207.toList = a0.toList then (if t208 = 0 then ((motleylaw25_known.f kj19).bind fun t209 => (some t209)) else (some false)) else (some false)) = some r := H
                have A25 := Aside0.mk A250
                clear A250
                by_cases c26 : t207.toList = a0.toList
                · rw [if_pos c26] at H
                  have c26b0 : (t207.toList == a0.toList) = true := beq_iff_eq.mpr c26
                  have c26b1 : (t207.toList != a0.toList) = false := bne_eq_false_iff_eq.mpr c26
                  clear c26
                  by_cases c27 : t208 = 0
                  · rw [if_pos c27] at H
                    have c27b0 : (t208 == 0) = true := beq_iff_eq.mpr c27
                    have c27b1 : (t208 != 0) = false := bne_eq_false_iff_eq.mpr c27
                    clear c27
                    replace H := Option.bind_eq_some_iff.mp H
                    obtain ⟨t209, A280, H⟩ := H
                    replace H : (some t209) = some r := H
                    have A28 := Aside0.mk A280
                    clear A280
                    obtain rfl := Option.some.inj H
                    go_wp2_with (first | ((with_reducible refine gate_callee (f := 22) rfl ?_); refine goesL_ (some 71) rfl rfl Tryd.func22 (by kernel_rfl) rfl #[.string t204, .int .i64 a1] rfl (by (try simp only [List.map_toArray, List.map_cons, List.map_nil]); first | done | rfl | (simp only [List.length_drop, List.length_take]; rfl)) ?_; (with_reducible refine (doc_Expand.calls t204 a1 t207 t208 _ ?side1 A25.out).mono ?_); (case side1 => first | exact hL | exact LaidW.below hL (by repeat (first | (with_reducible first | exact HB.out | apply below_alloc | apply pw_below_drewN | apply below_drew1) | exact HB.out))); rintro e w29 ⟨rfl, hb⟩; refine ⟨_, rfl, ?_⟩; have n0_ := Aside0.mk (below_step (by repeat (first | (with_reducible first | exact HB.out | apply below_alloc | apply pw_below_drewN | apply below_drew1) | exact HB.out)) hb); clear HB; have HB := n0_; clear n0_; (try clear hb); (try clear hb2); (try clear hk); (try clear hi)) | (go_at_call 11; (with_reducible refine (motleylaw25_known.calls kj19  t209 _ ?side1 A28.out).mono ?_); (case side1 => first | exact hL | exact LaidW.below hL (by repeat (first | (with_reducible first | exact HB.out | apply below_alloc | apply pw_below_drewN | apply below_drew1) | exact HB.out))); rintro e w30 ⟨rfl, hb⟩; have n0_ := Aside0.mk (below_step (by repeat (first | (with_reducible first | exact HB.out | apply below_alloc | apply pw_below_drewN | apply below_drew1) | exact HB.out)) hb); clear HB; have HB := n0_; clear n0_; (try clear hb); (try clear hb2); (try clear hk); (try clear hi)))
                    go_ret
                    exact ⟨by first | rfl | (simp [errW_none, errW_some] <;> rfl) | (simp [*, errW_none, errW_some] <;> rfl), by repeat (first | (with_reducible first | exact HB.out | apply below_alloc | apply pw_below_drewN | apply below_drew1) | exact HB.out)⟩
                  · rw [if_neg c27] at H
                    have c27b0 : (t208 == 0) = false := beq_eq_false_iff_ne.mpr c27
                    have c27b1 : (t208 != 0) = true := bne_iff_ne.mpr c27
                    obtain rfl := Option.some.inj H
                    go_wp2_with (first | ((with_reducible refine gate_callee (f := 22) rfl ?_); refine goesL_ (some 71) rfl rfl Tryd.func22 (by kernel_rfl) rfl #[.string t204, .int .i64 a1] rfl (by (try simp only [List.map_toArray, List.map_cons, List.map_nil]); first | done | rfl | (simp only [List.length_drop, List.length_take]; rfl)) ?_; (with_reducible refine (doc_Expand.calls t204 a1 t207 t208 _ ?side1 A25.out).mono ?_); (case side1 => first | exact hL | exact LaidW.below hL (by repeat (first | (with_reducible first | exact HB.out | apply below_alloc | apply pw_below_drewN | apply below_drew1) | exact HB.out))); rintro e w31 ⟨rfl, hb⟩; refine ⟨_, rfl, ?_⟩; have n0_ := Aside0.mk (below_step (by repeat (first | (with_reducible first | exact HB.out | apply below_alloc | apply pw_below_drewN | apply below_drew1) | exact HB.out)) hb); clear HB; have HB := n0_; clear n0_; (try clear hb); (try clear hb2); (try clear hk); (try clear hi)))
                    go_ret
                    exact ⟨by first | rfl | (simp [errW_none, errW_some] <;> rfl) | (simp [*, errW_none, errW_some] <;> rfl), by repeat (first | (with_reducible first | exact HB.out | apply below_alloc | apply pw_below_drewN | apply below_drew1) | exact HB.out)⟩
                · rw [if_neg c26] at H
                  have c26b0 : (t207.toList == a0.toList) = false := beq_eq_false_iff_ne.mpr c26
                  have c26b1 : (t207.toList != a0.toList) = true := bne_iff_ne.mpr c26
                  obtain rfl := Option.some.inj H
                  go_wp2_with (first | ((with_reducible refine gate_callee (f := 22) rfl ?_); refine goesL_ (some 71) rfl rfl Tryd.func22 (by kernel_rfl) rfl #[.string t204, .int .i64 a1] rfl (by (try simp only [List.map_toArray, List.map_cons, List.map_nil]); first | done | rfl | (simp only [List.length_drop, List.length_take]; rfl)) ?_; (with_reducible refine (doc_Expand.calls t204 a1 t207 t208 _ ?side1 A25.out).mono ?_); (case side1 => first | exact hL | exact LaidW.below hL (by repeat (first | (with_reducible first | exact HB.out | apply below_alloc | apply pw_below_drewN | apply below_drew1) | exact HB.out))); rintro e w32 ⟨rfl, hb⟩; refine ⟨_, rfl, ?_⟩; have n0_ := Aside0.mk (below_step (by repeat (first | (with_reducible first | exact HB.out | apply below_alloc | apply pw_below_drewN | apply below_drew1) | exact HB.out)) hb); clear HB; have HB := n0_; clear n0_; (try clear hb); (try clear hb2); (try clear hk); (try clear hi)))
                  go_ret
                  exact ⟨by first | rfl | (simp [errW_none, errW_some] <;> rfl) | (simp [*, errW_none, errW_some] <;> rfl), by repeat (first | (with_reducible first | exact HB.out | apply below_alloc | apply pw_below_drewN | apply below_drew1) | exact HB.out)⟩

/-- THE ONE PURE STATEMENT of motleylaw25_DocTabs: yours. -/
def motleylaw25_DocTabs.Pure : Prop := ∀ (a0 : ByteArray) (a1 : Int), a0.size ≤ 140737488351232 → (Lit.int .i64 a1).wf = true → ∃ k, motleylaw25_DocTabs.f k a0 a1 = some true
theorem motleylaw25_DocTabs.walk (P : motleylaw25_DocTabs.Pure) (a0 : ByteArray) (a1 : Int) (w : World) (hL : LaidW w) (w0 : a0.size ≤ 140737488351232) (w1 : (Lit.int .i64 a1).wf = true) :
    Calls Tryd.prog 6 #[.string a0, .int .i64 a1] w fun e w' => e = .returned (.bool true) ∧ Below w.heap.size w w' := by
  obtain ⟨k, h⟩ := P a0 a1 w0 w1
  refine (motleylaw25_DocTabs.calls k a0 a1 true w hL h).mono ?_
  rintro e w' ⟨rfl, hd⟩
  exact ⟨rfl, hd⟩

end Go.Proofs.YthdalpminhbckaaDoor.M
