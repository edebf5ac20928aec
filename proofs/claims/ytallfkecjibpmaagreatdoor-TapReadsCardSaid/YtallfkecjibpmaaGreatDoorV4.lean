/- Joined texts of this claim: M2, PRd3, PureTapReads. -/
import Derived.Test.YtallfkecjibpmaaGreatDoorV3
/- What the Go functions of this seat give, as Lean functions, and that each call comes to it. Written by the session's own program (wip/tools/mprint.py). -/
namespace Go.Proofs.YtallfkecjibpmaaGreatDoor.M
open Go.RowKit Go.Proofs.YtallfkecjibpmaaGreatDoor.G Go.Proofs.YtallfkecjibpmaaGreatDoor.R Go.Proofs.YtallfkecjibpmaaGreatDoorW.PrintWords Go.Proofs.YtallfkecjibpmaaGreatDoorW.PrintLast Go.Proofs.YtallfkecjibpmaaGreatDoorW.PrintMore
attribute [local go_sem] max2_int min2_int max_two min_two max_three min_three max_four min_four   -- for this text's walks alone
set_option linter.unusedVariables false
set_option linter.unusedSimpArgs false

/-! ### motleyref27_Verdict: function 8 -/
def motleyref27_Verdict.l0 : Nat → List Int → Int → List (S53) → List Int → Int → Bool → Option (Bool × List Int × Int)
  | 0, _, _, _, _, _, _ => none
  | k + 1, x7, x8, x149000, x149001, x149002, x149003 => if x8 < (mx (x149000.length : Int) x149002) then (if x8 ≥ (x149000.length : Int) then (if x7.length < 17592186044416 then (motleyref27_Verdict.l0 k (x7 ++ [wrap64 (x8 + 1)]) (wrap64 (x8 + 1)) x149000 x149001 x149002 x149003) else (none)) else (if x8 ≥ x149002 then (if x7.length < 17592186044416 then (motleyref27_Verdict.l0 k (x7 ++ [wrap64 (x8 + 1)]) (wrap64 (x8 + 1)) x149000 x149001 x149002 x149003) else (none)) else (if 0 ≤ x8 then (if x8 < (x149000.length : Int) then (if ((rd_T53 x149000 x8).f0 = true) then (if x8 < (x149001.length : Int) then (if (rd x149001 x8) ≥ 0 then (if (rd x149001 x8) = (wrap64 (x8 + 1)) then (motleyref27_Verdict.l0 k x7 (wrap64 (x8 + 1)) x149000 x149001 x149002 x149003) else (if x7.length < 17592186044416 then (motleyref27_Verdict.l0 k (x7 ++ [wrap64 (x8 + 1)]) (wrap64 (x8 + 1)) x149000 x149001 x149002 x149003) else (none))) else (motleyref27_Verdict.l0 k x7 (wrap64 (x8 + 1)) x149000 x149001 x149002 x149003)) else (none)) else (if ((rd_T53 x149000 x8).f2) = 2 then (if x8 < (x149001.length : Int) then (if (rd x149001 x8) ≥ 0 then (if (rd x149001 x8) = (wrap64 (x8 + 1)) then (motleyref27_Verdict.l0 k x7 (wrap64 (x8 + 1)) x149000 x149001 x149002 x149003) else (if x7.length < 17592186044416 then (motleyref27_Verdict.l0 k (x7 ++ [wrap64 (x8 + 1)]) (wrap64 (x8 + 1)) x149000 x149001 x149002 x149003) else (none))) else (motleyref27_Verdict.l0 k x7 (wrap64 (x8 + 1)) x149000 x149001 x149002 x149003)) else (none)) else (if x7.length < 17592186044416 then (motleyref27_Verdict.l0 k (x7 ++ [wrap64 (x8 + 1)]) (wrap64 (x8 + 1)) x149000 x149001 x149002 x149003) else (none)))) else (none)) else (none)))) else (if (x7.length : Int) = 0 then (some (!x149003, x7, 0)) else (some (false, x7, 0)))
def motleyref27_Verdict.f (k : Nat) (a0 : ByteArray) : Option (Bool × List Int × Int) := (motleyref27_read.f k a0).bind fun bt139 => (if bt139.2.2.2.2 = 0 then (motleyref27_Verdict.l0 k ([] : List Int) 0 bt139.1 bt139.2.1 bt139.2.2.1 bt139.2.2.2.1) else (some (false, ([] : List Int), bt139.2.2.2.2)))
theorem motleyref27_Verdict.mono_l : ∀ k, (∀ y0 y1 y2 y3 y4 y5, LeO (motleyref27_Verdict.l0 k y0 y1 y2 y3 y4 y5) (motleyref27_Verdict.l0 (k + 1) y0 y1 y2 y3 y4 y5))
  | 0 => fun _ _ _ _ _ _ r h => by simp [motleyref27_Verdict.l0] at h
  | k + 1 => by
    have ih0 := motleyref27_Verdict.mono_l k
    · intro y0 y1 y2 y3 y4 y5
      unfold motleyref27_Verdict.l0
      repeat' first
      | (with_reducible exact ih0 _ _ _ _ _ _)
      | (with_reducible exact motleyref27_read.mono _ _)
      | (with_reducible exact LeO.refl _)
      | (with_reducible exact LeO.none _)
      | (with_reducible refine LeO.ite ?_ ?_)
      | (with_reducible refine LeO.bind ?_ (fun _ => ?_))
      | exact ih0 _ _ _ _ _ _
      | exact motleyref27_read.mono _ _
      | exact LeO.none _
      | refine LeO.ite ?_ ?_
      | refine LeO.bind ?_ (fun _ => ?_)
theorem motleyref27_Verdict.mono : ∀ a0 k, LeO (motleyref27_Verdict.f k a0) (motleyref27_Verdict.f (k + 1) a0) := by
  intro a0 k
  have ih0 := motleyref27_Verdict.mono_l k
  unfold motleyref27_Verdict.f
  repeat' first
      | (with_reducible exact ih0 _ _ _ _ _ _)
      | (with_reducible exact motleyref27_read.mono _ _)
      | (with_reducible exact LeO.refl _)
      | (with_reducible exact LeO.none _)
      | (with_reducible refine LeO.ite ?_ ?_)
      | (with_reducible refine LeO.bind ?_ (fun _ => ?_))
      | exact ih0 _ _ _ _ _ _
      | exact motleyref27_read.mono _ _
      | exact LeO.none _
      | refine LeO.ite ?_ ?_
      | refine LeO.bind ?_ (fun _ => ?_)
set_option maxHeartbeats 8000000 in
set_option maxRecDepth 100000 in
theorem motleyref27_Verdict.calls (k : Nat) (a0 : ByteArray) (r1 : Bool) (r2 : List Int) (r3 : Int) (w : World) (h : motleyref27_Verdict.f k a0 = some (r1, r2, r3)) :
    Calls Tryz.prog 8 #[.string a0] w fun e w' => ∃ v1_ : Value, e = .returned (.tuple #[.bool r1, v1_, .int .i64 r3]) ∧ Kd.R (Kd.int .i64) 3 w' w.heap.size (fun _ => True) v1_ r2 ∧ Below w.heap.size w w' := by
  have hu50 := Tryz.underlying50
  have HB := Aside0.mk (Below.refl w.heap.size w)
  have H : ((motleyref27_read.f k a0).bind fun bt139 => (if bt139.2.2.2.2 = 0 then (motleyref27_Verdict.l0 k ([] : List Int) 0 bt139.1 bt139.2.1 bt139.2.2.1 bt139.2.2.2.1) else (some (false, ([] : List Int), bt139.2.2.2.2)))) = some (r1, r2, r3) := h
  clear h
  replace H := Option.bind_eq_some_iff.mp H
  obtain ⟨⟨t139, t142, t145, t146, t147⟩, A20, H⟩ := H
  replace H : (if t147 = 0 then (motleyref27_Verdict.l0 k ([] : List Int) 0 t139 t142 t145 t146) else (some (false, ([] : List Int), t147))) = some (r1, r2, r3) := H
  have A2 := Aside0.mk A20
  clear A20
  by_cases c3 : t147 = 0
  · rw [if_pos c3] at H
    have c3b0 : (t147 == 0) = true := beq_iff_eq.mpr c3
    have c3b1 : (t147 != 0) = false := bne_eq_false_iff_eq.mpr c3
    clear c3
    have H' := Aside0.mk H
    clear H
    go_enter Tryz.func8, Tryz.ntmps8
    go_wp2_with (first | ((with_reducible refine gate_callee (f := 23) rfl ?_); refine goesL_ (some 11) rfl rfl Tryz.func23 (by kernel_rfl) rfl #[.string a0] rfl (by (try simp only [List.map_toArray, List.map_cons, List.map_nil]); first | done | rfl | (simp only [List.length_drop, List.length_take]; rfl)) ?_; (with_reducible refine (motleyref27_read.calls k a0 t139 t142 t145 t146 t147 _ A2.out).mono ?_); rintro e w4 ⟨v140, v143, rfl, ho0, ho1, hb⟩; refine ⟨_, rfl, ?_⟩; have n0_ := Aside0.mk (Kd.R_lower ho0 (below_size (by repeat (first | (with_reducible first | exact HB.out | apply below_alloc | apply pw_below_drewN | apply below_drew1) | exact HB.out)))); have n1_ := Aside0.mk (Kd.R_lower ho1 (below_size (by repeat (first | (with_reducible first | exact HB.out | apply below_alloc | apply pw_below_drewN | apply below_drew1) | exact HB.out)))); have n2_ := Aside0.mk (below_step (by repeat (first | (with_reducible first | exact HB.out | apply below_alloc | apply pw_below_drewN | apply below_drew1) | exact HB.out)) hb); clear HB; have HO141 := n0_; have HO144 := n1_; have HB := n2_; clear n0_ n1_ n2_; (try clear hb); (try clear hb2); (try clear hk); (try clear hi); (try clear ho0); (try clear ho1)) | ((with_reducible refine gate_dst (N := 5) rfl ?_); refine box_event ?hg (N := 5) ?hd (cs := #[.slice none 0 0, .slice none 0 0, .int .i64 0, .bool false]) (t := 50) ?hr ?_; (case hd => rfl); (case hg => rfl); (case hr => first | (go_simp; done) | (go_simp; rfl)); intro gb148 hg w5 hbox hb; have n0_ := Aside0.mk (Kd.R_below (by (with_reducible repeat (first | apply Kd.R_alloc | apply Kd.R_drewN | apply Kd.R_drew)); exact HO141.out) hb); have n1_ := Aside0.mk (Kd.R_below (by (with_reducible repeat (first | apply Kd.R_alloc | apply Kd.R_drewN | apply Kd.R_drew)); exact HO144.out) hb); have n2_ := Aside0.mk (below_step (by repeat (first | (with_reducible first | exact HB.out | apply below_alloc | apply pw_below_drewN | apply below_drew1) | exact HB.out)) hb); have n3_ := Aside0.mk (hbox); have n4_ := Aside0.mk ((by rw [hg]; exact (below_size (by repeat (first | (with_reducible first | exact HB.out | apply below_alloc | apply pw_below_drewN | apply below_drew1) | exact HB.out))) : w.heap.size ≤ gb148)); have n5_ := Aside0.mk ((by rw [hg]; exact (below_size (by repeat (first | (with_reducible first | exact HB.out | apply below_alloc | apply pw_below_drewN | apply below_drew1) | exact HB.out))) : w.heap.size ≤ gb148)); clear HO141; clear HO144; clear HB; have HO141 := n0_; have HO144 := n1_; have HB := n2_; have BK148 := n3_; have GW148 := n4_; have GE148 := n5_; clear n0_ n1_ n2_ n3_ n4_ n5_; clear hb hbox hg; obtain ⟨Ao6, co6, eo6⟩ := Kd.R_slice HO141.out; subst eo6; have hcz7_0 : w5.cell? ⟨gb148, 0, none⟩ = some (.slice none 0 0) := (blk_cell BK148.out 0).trans rfl; have hcz7_1 : w5.cell? ⟨gb148, 1, none⟩ = some (.slice none 0 0) := (blk_cell BK148.out 1).trans rfl; have hcz7_2 : w5.cell? ⟨gb148, 2, none⟩ = some (.int .i64 0) := (blk_cell BK148.out 2).trans rfl; have hcz7_3 : w5.cell? ⟨gb148, 3, none⟩ = some (.bool false) := (blk_cell BK148.out 3).trans rfl; have hfz7_0 := blk_frozen BK148.out 0; have hfz7_1 := blk_frozen BK148.out 1; have hfz7_2 := blk_frozen BK148.out 2; have hfz7_3 := blk_frozen BK148.out 3; obtain ⟨Ao8, co8, eo8⟩ := Kd.R_slice HO144.out; subst eo8))
    go_loopg [7, 8] k (fun kq v7 v8 w' => ∃ (x7_1 : List Int) (x8_1 : Int), v8 = .int .i64 x8_1 ∧ Aside0 (motleyref27_Verdict.l0 kq x7_1 x8_1 t139 t142 t145 t146 = some (r1, r2, r3)) ∧ Aside0 (kq ≤ k) ∧ Aside0 (Kd.R (Kd.int .i64) 3 w' w.heap.size (fun k_ => some k_ ≠ ((.slice Ao8 t142.length co8) : Value).ownBlock) v7 x7_1) ∧ Aside0 (Kd.R k53 53 w' w.heap.size (fun _ => True) (.slice Ao6 t139.length co6) t139) ∧ Aside0 (Kd.R (Kd.int .i64) 3 w' w.heap.size (fun k_ => some k_ ≠ (v7 : Value).ownBlock) (.slice Ao8 t142.length co8) t142) ∧ Aside0 (w'.heap[gb148]? = some (.cells #[(.slice Ao6 t139.length co6), (.slice Ao8 t142.length co8), .int .i64 t145, .bool t146] 50 (0, 0))) ∧ Aside0 (Below w.heap.size w w'))
    case atStart => exact ⟨(([] : List Int)), (0), (by first | rfl | (simp; done) | (simp [*]; done) | (simp; generalize ByteArray.toList _ = l_; cases l_ <;> rfl)), H', ⟨Nat.le_refl _⟩, ⟨by first | exact Kd.R_nil _ _ _ _ _ | exact Kd.N_nil _ _ _ _ _ | exact Kd.V_nil _ _ _ _ _ | exact Kd.Q_nil _ _ _ _ _ | exact Kd.S_nil _ _ _ _ _⟩, ⟨by (with_reducible repeat (first | apply Kd.R_alloc | apply Kd.R_drewN | apply Kd.R_drew)); exact Kd.R_mono (Kd.R_far (p := ⟨gb148, 3, none⟩) (Kd.R_far (p := ⟨gb148, 2, none⟩) (Kd.R_far (p := ⟨gb148, 1, none⟩) (Kd.R_far (p := ⟨gb148, 0, none⟩) (Kd.R_types HO141.out BK148.out (by decide)) (fun _ hk => hk.2) (.slice Ao6 t139.length co6)) (fun _ hk => hk.2) (.slice Ao8 t142.length co8)) (fun _ hk => hk.2) (.int .i64 t145)) (fun _ hk => hk.2) (.bool t146)) (fun _ hk => trivial)⟩, ⟨by (with_reducible repeat (first | apply Kd.R_alloc | apply Kd.R_drewN | apply Kd.R_drew)); exact Kd.R_mono (Kd.R_far (p := ⟨gb148, 3, none⟩) (Kd.R_far (p := ⟨gb148, 2, none⟩) (Kd.R_far (p := ⟨gb148, 1, none⟩) (Kd.R_far (p := ⟨gb148, 0, none⟩) (Kd.R_types HO144.out BK148.out (by decide)) (fun _ hk => hk.2) (.slice Ao6 t139.length co6)) (fun _ hk => hk.2) (.slice Ao8 t142.length co8)) (fun _ hk => hk.2) (.int .i64 t145)) (fun _ hk => hk.2) (.bool t146)) (fun _ hk => (by simp [Value.ownBlock]))⟩, ⟨by (with_reducible repeat (first | refine blk_drewN ?_ _ | refine blk_drew ?_ | refine blk_alloc ?_ _)); refine blk_put (cs := #[.slice Ao6 t139.length co6, .slice Ao8 t142.length co8, .int .i64 t145, .bool false]) ?_ 3 _ rfl; (with_reducible repeat (first | refine blk_drewN ?_ _ | refine blk_drew ?_ | refine blk_alloc ?_ _)); refine blk_put (cs := #[.slice Ao6 t139.length co6, .slice Ao8 t142.length co8, .int .i64 0, .bool false]) ?_ 2 _ rfl; (with_reducible repeat (first | refine blk_drewN ?_ _ | refine blk_drew ?_ | refine blk_alloc ?_ _)); refine blk_put (cs := #[.slice Ao6 t139.length co6, .slice none 0 0, .int .i64 0, .bool false]) ?_ 1 _ rfl; (with_reducible repeat (first | refine blk_drewN ?_ _ | refine blk_drew ?_ | refine blk_alloc ?_ _)); refine blk_put (cs := #[.slice none 0 0, .slice none 0 0, .int .i64 0, .bool false]) ?_ 0 _ rfl; (with_reducible repeat (first | refine blk_drewN ?_ _ | refine blk_drew ?_ | refine blk_alloc ?_ _)); exact BK148.out⟩, ⟨by repeat (first | (with_reducible first | exact HB.out | apply below_alloc | apply pw_below_drewN | apply below_drew1 | refine below_set ?_ GE148.out) | exact HB.out)⟩⟩
    case round =>
      clear H'
      try clear c2
      try clear p2
      try clear c3
      try clear c3b0
      try clear c3b1
      try clear c8
      try clear hcz7_0
      try clear hcz7_1
      try clear hcz7_2
      try clear hcz7_3
      try clear hfz7_0
      try clear hfz7_1
      try clear hfz7_2
      try clear hfz7_3
      obtain ⟨x7_1, x8_1, rfl, HA, HK1, HO_7, HO_149000, HO_149001, BK148, HB⟩ := hrel
      cases gk with
      | zero => exact absurd HA.out (by simp [motleyref27_Verdict.l0])
      | succ k1 =>
        have H := HA.out
        clear HA
        simp only [motleyref27_Verdict.l0] at H
        obtain ⟨ji9, hji9⟩ : ∃ j_ : Int, (mx (t139.length : Int) t145) = j_ := ⟨_, rfl⟩
        replace H : (if x8_1 < (ji9) then (if x8_1 ≥ (t139.length : Int) then (if x7_1.length < 17592186044416 then (motleyref27_Verdict.l0 k1 (x7_1 ++ [wrap64 (x8_1 + 1)]) (wrap64 (x8_1 + 1)) t139 t142 t145 t146) else (none)) else (if x8_1 ≥ t145 then (if x7_1.length < 17592186044416 then (motleyref27_Verdict.l0 k1 (x7_1 ++ [wrap64 (x8_1 + 1)]) (wrap64 (x8_1 + 1)) t139 t142 t145 t146) else (none)) else (if 0 ≤ x8_1 then (if x8_1 < (t139.length : Int) then (if ((rd_T53 t139 x8_1).f0 = true) then (if x8_1 < (t142.length : Int) then (if (rd t142 x8_1) ≥ 0 then (if (rd t142 x8_1) = (wrap64 (x8_1 + 1)) then (motleyref27_Verdict.l0 k1 x7_1 (wrap64 (x8_1 + 1)) t139 t142 t145 t146) else (if x7_1.length < 17592186044416 then (motleyref27_Verdict.l0 k1 (x7_1 ++ [wrap64 (x8_1 + 1)]) (wrap64 (x8_1 + 1)) t139 t142 t145 t146) else (none))) else (motleyref27_Verdict.l0 k1 x7_1 (wrap64 (x8_1 + 1)) t139 t142 t145 t146)) else (none)) else (if ((rd_T53 t139 x8_1).f2) = 2 then (if x8_1 < (t142.length : Int) then (if (rd t142 x8_1) ≥ 0 then (if (rd t142 x8_1) = (wrap64 (x8_1 + 1)) then (motleyref27_Verdict.l0 k1 x7_1 (wrap64 (x8_1 + 1)) t139 t142 t145 t146) else (if x7_1.length < 17592186044416 then (motleyref27_Verdict.l0 k1 (x7_1 ++ [wrap64 (x8_1 + 1)]) (wrap64 (x8_1 + 1)) t139 t142 t145 t146) else (none))) else (motleyref27_Verdict.l0 k1 x7_1 (wrap64 (x8_1 + 1)) t139 t142 t145 t146)) else (none)) else (if x7_1.length < 17592186044416 then (motleyref27_Verdict.l0 k1 (x7_1 ++ [wrap64 (x8_1 + 1)]) (wrap64 (x8_1 + 1)) t139 t142 t145 t146) else (none)))) else (none)) else (none)))) else (if (x7_1.length : Int) = 0 then (some (!t146, x7_1, 0)) else (some (false, x7_1, 0)))) = some (r1, r2, r3) := by first | (rw [hji9] at H; exact H) | (simp only [hji9] at H ⊢; exact H)
        have hji9_ : (if (t139.length : Int) < t145 then t145 else (t139.length : Int)) = ji9 := hji9
        by_cases c10 : x8_1 < (ji9)
        · rw [if_pos c10] at H
          have c10b0 : decide (x8_1 < (ji9)) = true := decide_eq_true c10
          clear c10
          by_cases c11 : x8_1 ≥ (t139.length : Int)
          · rw [if_pos c11] at H
            have c11b0 : decide ((t139.length : Int) ≤ x8_1) = true := decide_eq_true c11
            clear c11
            by_cases c12 : x7_1.length < 17592186044416
            · rw [if_pos c12] at H
              have LMc12 := Aside0.mk c12
              clear c12
              obtain ⟨y149, hy149⟩ : ∃ y_ : List Int, y_ = (x7_1 ++ [wrap64 (x8_1 + 1)]) := ⟨_, rfl⟩
              replace H : (motleyref27_Verdict.l0 k1 y149 (wrap64 (x8_1 + 1)) t139 t142 t145 t146) = some (r1, r2, r3) := by first | (rw [hy149]; with_reducible exact H) | (have H2_ := (Option.bind_some _ _).symm.trans H; rw [hy149]; with_reducible exact H2_) | (have H2_ := (Option.bind_some _ _).symm.trans H; with_reducible exact H2_) | with_reducible exact H | (rw [hy149]; exact H) | exact H
              have Ny149 := Aside0.mk hy149
              clear hy149
              have H' := Aside0.mk H
              clear H
              have hcz13_0 : wr.cell? ⟨gb148, 0, none⟩ = some (.slice Ao6 t139.length co6) := (blk_cell BK148.out 0).trans rfl
              have hcz13_1 : wr.cell? ⟨gb148, 1, none⟩ = some (.slice Ao8 t142.length co8) := (blk_cell BK148.out 1).trans rfl
              have hcz13_2 : wr.cell? ⟨gb148, 2, none⟩ = some (.int .i64 t145) := (blk_cell BK148.out 2).trans rfl
              have hcz13_3 : wr.cell? ⟨gb148, 3, none⟩ = some (.bool t146) := (blk_cell BK148.out 3).trans rfl
              have hfz13_0 := blk_frozen BK148.out 0
              have hfz13_1 := blk_frozen BK148.out 1
              have hfz13_2 := blk_frozen BK148.out 2
              have hfz13_3 := blk_frozen BK148.out 3
              go_wp2_with (first | ((with_reducible refine gate_builtin (b := .append) (xs := #[.tmp 74, .tmp 77]) rfl ?_); at_builtin; refine Kd.R_append (Kd.int .i64) (w0 := w) w.heap.size rfl (.tmp 74) (.tmp 77) 27 3 (.int .i64 0) 8 rfl Tryz.underlying27 info3 rfl (by decide) (by omega) u7 x7_1 (wrap64 (x8_1 + 1)) [.int .i64 (wrap64 (x8_1 + 1))] (fun k_ => some k_ ≠ (.slice Ao8 t142.length co8 : Value).ownBlock) (fun _ => False) rfl rfl ?aP (fun _ hk => hk.elim) ?aF ?aO ?aB ?aS ?aL ?_; (case aP => exact rfl); (case aB => exact (by repeat (first | (with_reducible first | exact HB.out | apply below_alloc | apply pw_below_drewN | apply below_drew1 | refine below_set ?_ GE148.out) | exact HB.out))); (case aF => exact (fun k_ hk => Kd.fresh' (Kd.R_lt (by (with_reducible repeat (first | apply Kd.R_alloc | apply Kd.R_drewN | apply Kd.R_drew)); exact HO_149001.out)) k_ hk)); (case aO => exact (by (with_reducible repeat (first | apply Kd.R_alloc | apply Kd.R_drewN | apply Kd.R_drew)); exact HO_7.out)); (case aS => exact (below_size (by repeat (first | (with_reducible first | exact HB.out | apply below_alloc | apply pw_below_drewN | apply below_drew1 | refine below_set ?_ GE148.out) | exact HB.out)))); (case aL => have := LMc12.out; omega); intro v150 w14 ho hb hg hat; rw [← Ny149.out] at ho; have n0_ := Aside0.mk (Kd.R_over' (by (with_reducible repeat (first | apply Kd.R_alloc | apply Kd.R_drewN | apply Kd.R_drew)); exact HO_149000.out) (Kd.R_typed (by (with_reducible repeat (first | apply Kd.R_alloc | apply Kd.R_drewN | apply Kd.R_drew)); exact HO_7.out)) (by decide) hg); have n1_ := Aside0.mk (Kd.R_after (ok := (fun _ => True)) (by (with_reducible repeat (first | apply Kd.R_alloc | apply Kd.R_drewN | apply Kd.R_drew)); exact Kd.R_mono HO_149001.out (fun _ hk => ⟨trivial, hk⟩)) hg hat); have n2_ := Aside0.mk (blk_grown (g := gb148) (o := .cells #[.slice Ao6 t139.length co6, .slice Ao8 t142.length co8, .int .i64 t145, .bool t146] 50 (0, 0)) (by (with_reducible repeat (first | refine blk_drewN ?_ _ | refine blk_drew ?_ | refine blk_alloc ?_ _)); exact BK148.out) hg (Kd.R_ne HO_7.out BK148.out (by decide))); have n3_ := Aside0.mk (hb); have n4_ := Aside0.mk (ho); clear HO_149000; clear HO_149001; clear BK148; clear HB; clear HO_7; have HO_149000 := n0_; have HO_149001 := n1_; have BK148 := n2_; have HB := n3_; have HO151 := n4_; clear n0_ n1_ n2_ n3_ n4_; clear ho hb hg hat))
              go_roundg k1
              case measure => have := HK1.out; omega
              case rel => exact ⟨(y149), (wrap64 (x8_1 + 1)), (by first | rfl | (simp; done) | (simp [*]; done) | (simp; generalize ByteArray.toList _ = l_; cases l_ <;> rfl)), H', ⟨by have := HK1.out; omega⟩, ⟨by (with_reducible repeat (first | apply Kd.R_alloc | apply Kd.R_drewN | apply Kd.R_drew)); exact HO151.out⟩, ⟨by (with_reducible repeat (first | apply Kd.R_alloc | apply Kd.R_drewN | apply Kd.R_drew)); exact HO_149000.out⟩, ⟨by (with_reducible repeat (first | apply Kd.R_alloc | apply Kd.R_drewN | apply Kd.R_drew)); exact Kd.R_mono HO_149001.out (fun _ hk => hk.2)⟩, ⟨by (with_reducible repeat (first | refine blk_drewN ?_ _ | refine blk_drew ?_ | refine blk_alloc ?_ _)); exact BK148.out⟩, ⟨by repeat (first | (with_reducible first | exact HB.out | apply below_alloc | apply pw_below_drewN | apply below_drew1 | refine below_set ?_ GE148.out) | exact HB.out)⟩⟩
            · rw [if_neg c12] at H
              exact absurd H (by simp)
          · rw [if_neg c11] at H
            have c11b0 : decide ((t139.length : Int) ≤ x8_1) = false := decide_eq_false c11
            clear c11
            by_cases c15 : x8_1 ≥ t145
            · rw [if_pos c15] at H
              have c15b0 : decide (t145 ≤ x8_1) = true := decide_eq_true c15
              clear c15
              by_cases c16 : x7_1.length < 17592186044416
              · rw [if_pos c16] at H
                have LMc16 := Aside0.mk c16
                clear c16
                obtain ⟨y152, hy152⟩ : ∃ y_ : List Int, y_ = (x7_1 ++ [wrap64 (x8_1 + 1)]) := ⟨_, rfl⟩
                replace H : (motleyref27_Verdict.l0 k1 y152 (wrap64 (x8_1 + 1)) t139 t142 t145 t146) = some (r1, r2, r3) := by first | (rw [hy152]; with_reducible exact H) | (have H2_ := (Option.bind_some _ _).symm.trans H; rw [hy152]; with_reducible exact H2_) | (have H2_ := (Option.bind_some _ _).symm.trans H; with_reducible exact H2_) | with_reducible exact H | (rw [hy152]; exact H) | exact H
                have Ny152 := Aside0.mk hy152
                clear hy152
                have H' := Aside0.mk H
                clear H
                have hcz17_0 : wr.cell? ⟨gb148, 0, none⟩ = some (.slice Ao6 t139.length co6) := (blk_cell BK148.out 0).trans rfl
                have hcz17_1 : wr.cell? ⟨gb148, 1, none⟩ = some (.slice Ao8 t142.length co8) := (blk_cell BK148.out 1).trans rfl
                have hcz17_2 : wr.cell? ⟨gb148, 2, none⟩ = some (.int .i64 t145) := (blk_cell BK148.out 2).trans rfl
                have hcz17_3 : wr.cell? ⟨gb148, 3, none⟩ = some (.bool t146) := (blk_cell BK148.out 3).trans rfl
                have hfz17_0 := blk_frozen BK148.out 0
                have hfz17_1 := blk_frozen BK148.out 1
                have hfz17_2 := blk_frozen BK148.out 2
                have hfz17_3 := blk_frozen BK148.out 3
                go_wp2_with (first | ((with_reducible refine gate_builtin (b := .append) (xs := #[.tmp 74, .tmp 77]) rfl ?_); at_builtin; refine Kd.R_append (Kd.int .i64) (w0 := w) w.heap.size rfl (.tmp 74) (.tmp 77) 27 3 (.int .i64 0) 8 rfl Tryz.underlying27 info3 rfl (by decide) (by omega) u7 x7_1 (wrap64 (x8_1 + 1)) [.int .i64 (wrap64 (x8_1 + 1))] (fun k_ => some k_ ≠ (.slice Ao8 t142.length co8 : Value).ownBlock) (fun _ => False) rfl rfl ?aP (fun _ hk => hk.elim) ?aF ?aO ?aB ?aS ?aL ?_; (case aP => exact rfl); (case aB => exact (by repeat (first | (with_reducible first | exact HB.out | apply below_alloc | apply pw_below_drewN | apply below_drew1 | refine below_set ?_ GE148.out) | exact HB.out))); (case aF => exact (fun k_ hk => Kd.fresh' (Kd.R_lt (by (with_reducible repeat (first | apply Kd.R_alloc | apply Kd.R_drewN | apply Kd.R_drew)); exact HO_149001.out)) k_ hk)); (case aO => exact (by (with_reducible repeat (first | apply Kd.R_alloc | apply Kd.R_drewN | apply Kd.R_drew)); exact HO_7.out)); (case aS => exact (below_size (by repeat (first | (with_reducible first | exact HB.out | apply below_alloc | apply pw_below_drewN | apply below_drew1 | refine below_set ?_ GE148.out) | exact HB.out)))); (case aL => have := LMc16.out; omega); intro v153 w18 ho hb hg hat; rw [← Ny152.out] at ho; have n0_ := Aside0.mk (Kd.R_over' (by (with_reducible repeat (first | apply Kd.R_alloc | apply Kd.R_drewN | apply Kd.R_drew)); exact HO_149000.out) (Kd.R_typed (by (with_reducible repeat (first | apply Kd.R_alloc | apply Kd.R_drewN | apply Kd.R_drew)); exact HO_7.out)) (by decide) hg); have n1_ := Aside0.mk (Kd.R_after (ok := (fun _ => True)) (by (with_reducible repeat (first | apply Kd.R_alloc | apply Kd.R_drewN | apply Kd.R_drew)); exact Kd.R_mono HO_149001.out (fun _ hk => ⟨trivial, hk⟩)) hg hat); have n2_ := Aside0.mk (blk_grown (g := gb148) (o := .cells #[.slice Ao6 t139.length co6, .slice Ao8 t142.length co8, .int .i64 t145, .bool t146] 50 (0, 0)) (by (with_reducible repeat (first | refine blk_drewN ?_ _ | refine blk_drew ?_ | refine blk_alloc ?_ _)); exact BK148.out) hg (Kd.R_ne HO_7.out BK148.out (by decide))); have n3_ := Aside0.mk (hb); have n4_ := Aside0.mk (ho); clear HO_149000; clear HO_149001; clear BK148; clear HB; clear HO_7; have HO_149000 := n0_; have HO_149001 := n1_; have BK148 := n2_; have HB := n3_; have HO154 := n4_; clear n0_ n1_ n2_ n3_ n4_; clear ho hb hg hat))
                go_roundg k1
                case measure => have := HK1.out; omega
                case rel => exact ⟨(y152), (wrap64 (x8_1 + 1)), (by first | rfl | (simp; done) | (simp [*]; done) | (simp; generalize ByteArray.toList _ = l_; cases l_ <;> rfl)), H', ⟨by have := HK1.out; omega⟩, ⟨by (with_reducible repeat (first | apply Kd.R_alloc | apply Kd.R_drewN | apply Kd.R_drew)); exact HO154.out⟩, ⟨by (with_reducible repeat (first | apply Kd.R_alloc | apply Kd.R_drewN | apply Kd.R_drew)); exact HO_149000.out⟩, ⟨by (with_reducible repeat (first | apply Kd.R_alloc | apply Kd.R_drewN | apply Kd.R_drew)); exact Kd.R_mono HO_149001.out (fun _ hk => hk.2)⟩, ⟨by (with_reducible repeat (first | refine blk_drewN ?_ _ | refine blk_drew ?_ | refine blk_alloc ?_ _)); exact BK148.out⟩, ⟨by repeat (first | (with_reducible first | exact HB.out | apply below_alloc | apply pw_below_drewN | apply below_drew1 | refine below_set ?_ GE148.out) | exact HB.out)⟩⟩
              · rw [if_neg c16] at H
                exact absurd H (by simp)
            · rw [if_neg c15] at H
              have c15b0 : decide (t145 ≤ x8_1) = false := decide_eq_false c15
              clear c15
              by_cases c19 : 0 ≤ x8_1
              · rw [if_pos c19] at H
                have c19b0 : decide (0 ≤ x8_1) = true := decide_eq_true c19
                clear c19
                by_cases c20 : x8_1 < (t139.length : Int)
                · rw [if_pos c20] at H
                  have c20b0 : decide (x8_1 < (t139.length : Int)) = true := decide_eq_true c20
                  clear c20
                  obtain ⟨bq21, hbq21⟩ : ∃ b_ : Bool, b_ = ((rd_T53 t139 x8_1).f0) := ⟨_, rfl⟩
                  replace H : (if (bq21 = true) then (if x8_1 < (t142.length : Int) then (if (rd t142 x8_1) ≥ 0 then (if (rd t142 x8_1) = (wrap64 (x8_1 + 1)) then (motleyref27_Verdict.l0 k1 x7_1 (wrap64 (x8_1 + 1)) t139 t142 t145 t146) else (if x7_1.length < 17592186044416 then (motleyref27_Verdict.l0 k1 (x7_1 ++ [wrap64 (x8_1 + 1)]) (wrap64 (x8_1 + 1)) t139 t142 t145 t146) else (none))) else (motleyref27_Verdict.l0 k1 x7_1 (wrap64 (x8_1 + 1)) t139 t142 t145 t146)) else (none)) else (if ((rd_T53 t139 x8_1).f2) = 2 then (if x8_1 < (t142.length : Int) then (if (rd t142 x8_1) ≥ 0 then (if (rd t142 x8_1) = (wrap64 (x8_1 + 1)) then (motleyref27_Verdict.l0 k1 x7_1 (wrap64 (x8_1 + 1)) t139 t142 t145 t146) else (if x7_1.length < 17592186044416 then (motleyref27_Verdict.l0 k1 (x7_1 ++ [wrap64 (x8_1 + 1)]) (wrap64 (x8_1 + 1)) t139 t142 t145 t146) else (none))) else (motleyref27_Verdict.l0 k1 x7_1 (wrap64 (x8_1 + 1)) t139 t142 t145 t146)) else (none)) else (if x7_1.length < 17592186044416 then (motleyref27_Verdict.l0 k1 (x7_1 ++ [wrap64 (x8_1 + 1)]) (wrap64 (x8_1 + 1)) t139 t142 t145 t146) else (none)))) = some (r1, r2, r3) := by rw [← hbq21] at H; exact H
                  have Nbq21 := Aside0.mk hbq21
                  clear hbq21
                  by_cases c22 : (bq21 = true)
                  · subst c22
                    have H1 : (if x8_1 < (t142.length : Int) then (if (rd t142 x8_1) ≥ 0 then (if (rd t142 x8_1) = (wrap64 (x8_1 + 1)) then (motleyref27_Verdict.l0 k1 x7_1 (wrap64 (x8_1 + 1)) t139 t142 t145 t146) else (if x7_1.length < 17592186044416 then (motleyref27_Verdict.l0 k1 (x7_1 ++ [wrap64 (x8_1 + 1)]) (wrap64 (x8_1 + 1)) t139 t142 t145 t146) else (none))) else (motleyref27_Verdict.l0 k1 x7_1 (wrap64 (x8_1 + 1)) t139 t142 t145 t146)) else (none)) = some (r1, r2, r3) := by rw [if_pos rfl] at H; exact H
                    clear H
                    have H := H1
                    clear H1
                    by_cases c23 : x8_1 < (t142.length : Int)
                    · rw [if_pos c23] at H
                      have c23b0 : decide (x8_1 < (t142.length : Int)) = true := decide_eq_true c23
                      clear c23
                      by_cases c24 : (rd t142 x8_1) ≥ 0
                      · rw [if_pos c24] at H
                        have c24b0 : decide (0 ≤ (rd t142 x8_1)) = true := decide_eq_true c24
                        clear c24
                        by_cases c25 : (rd t142 x8_1) = (wrap64 (x8_1 + 1))
                        · rw [if_pos c25] at H
                          have c25b0 : ((rd t142 x8_1) == (wrap64 (x8_1 + 1))) = true := beq_iff_eq.mpr c25
                          have c25b1 : ((rd t142 x8_1) != (wrap64 (x8_1 + 1))) = false := bne_eq_false_iff_eq.mpr c25
                          clear c25
                          have H' := Aside0.mk H
                          clear H
                          have hcz26_0 : wr.cell? ⟨gb148, 0, none⟩ = some (.slice Ao6 t139.length co6) := (blk_cell BK148.out 0).trans rfl
                          have hcz26_1 : wr.cell? ⟨gb148, 1, none⟩ = some (.slice Ao8 t142.length co8) := (blk_cell BK148.out 1).trans rfl
                          have hcz26_2 : wr.cell? ⟨gb148, 2, none⟩ = some (.int .i64 t145) := (blk_cell BK148.out 2).trans rfl
                          have hcz26_3 : wr.cell? ⟨gb148, 3, none⟩ = some (.bool t146) := (blk_cell BK148.out 3).trans rfl
                          have hfz26_0 := blk_frozen BK148.out 0
                          have hfz26_1 := blk_frozen BK148.out 1
                          have hfz26_2 := blk_frozen BK148.out 2
                          have hfz26_3 := blk_frozen BK148.out 3
                          have p155 : 0 ≤ (x8_1 : Int) := of_decide_eq_true (by first | (with_reducible assumption) | assumption)
                          have q155 : x8_1 < (t139.length : Int) := of_decide_eq_true (by first | (with_reducible assumption) | assumption)
                          obtain ⟨ad155, e155, hx155_0, hx155_1, hx155_2, hx155_3⟩ := at_T53 (Kd.R_reads' HO_149000.out).2.2 x8_1 p155 q155
                          (try rw [← Nbq21.out] at hx155_0)
                          cases e155
                          replace p155 := eq_true p155
                          replace q155 := eq_true q155
                          have p156 : 0 ≤ (x8_1 : Int) := of_decide_eq_true (by first | (with_reducible assumption) | assumption)
                          have q156 : x8_1 < (t142.length : Int) := of_decide_eq_true (by first | (with_reducible assumption) | assumption)
                          obtain ⟨ad156, e156, hx156_0⟩ := Kd.at_int (Kd.R_reads' HO_149001.out).2.2 x8_1 p156 q156
                          cases e156
                          replace p156 := eq_true p156
                          replace q156 := eq_true q156
                          have p157 : 0 ≤ (x8_1 : Int) := of_decide_eq_true (by first | (with_reducible assumption) | assumption)
                          have q157 : x8_1 < (t142.length : Int) := of_decide_eq_true (by first | (with_reducible assumption) | assumption)
                          obtain ⟨ad157, e157, hx157_0⟩ := Kd.at_int (Kd.R_reads' HO_149001.out).2.2 x8_1 p157 q157
                          obtain rfl : ad156 = ad157 := (by injection e157)
                          replace p157 := eq_true p157
                          replace q157 := eq_true q157
                          go_wp2
                          go_roundg k1
                          case measure => have := HK1.out; omega
                          case rel => (try rw [← Nbq21.out]); exact ⟨(x7_1), (wrap64 (x8_1 + 1)), (by first | rfl | (simp; done) | (simp [*]; done) | (simp; generalize ByteArray.toList _ = l_; cases l_ <;> rfl)), H', ⟨by have := HK1.out; omega⟩, ⟨by (with_reducible repeat (first | apply Kd.R_alloc | apply Kd.R_drewN | apply Kd.R_drew)); exact HO_7.out⟩, ⟨by (with_reducible repeat (first | apply Kd.R_alloc | apply Kd.R_drewN | apply Kd.R_drew)); exact HO_149000.out⟩, ⟨by (with_reducible repeat (first | apply Kd.R_alloc | apply Kd.R_drewN | apply Kd.R_drew)); exact HO_149001.out⟩, ⟨by (with_reducible repeat (first | refine blk_drewN ?_ _ | refine blk_drew ?_ | refine blk_alloc ?_ _)); exact BK148.out⟩, ⟨by repeat (first | (with_reducible first | exact HB.out | apply below_alloc | apply pw_below_drewN | apply below_drew1 | refine below_set ?_ GE148.out) | exact HB.out)⟩⟩
                        · rw [if_neg c25] at H
                          have c25b0 : ((rd t142 x8_1) == (wrap64 (x8_1 + 1))) = false := beq_eq_false_iff_ne.mpr c25
                          have c25b1 : ((rd t142 x8_1) != (wrap64 (x8_1 + 1))) = true := bne_iff_ne.mpr c25
                          by_cases c27 : x7_1.length < 17592186044416
                          · rw [if_pos c27] at H
                            have LMc27 := Aside0.mk c27
                            clear c27
                            obtain ⟨y158, hy158⟩ : ∃ y_ : List Int, y_ = (x7_1 ++ [wrap64 (x8_1 + 1)]) := ⟨_, rfl⟩
                            replace H : (motleyref27_Verdict.l0 k1 y158 (wrap64 (x8_1 + 1)) t139 t142 t145 t146) = some (r1, r2, r3) := by first | (rw [hy158]; with_reducible exact H) | (have H2_ := (Option.bind_some _ _).symm.trans H; rw [hy158]; with_reducible exact H2_) | (have H2_ := (Option.bind_some _ _).symm.trans H; with_reducible exact H2_) | with_reducible exact H | (rw [hy158]; exact H) | exact H
                            have Ny158 := Aside0.mk hy158
                            clear hy158
                            have H' := Aside0.mk H
                            clear H
                            have hcz28_0 : wr.cell? ⟨gb148, 0, none⟩ = some (.slice Ao6 t139.length co6) := (blk_cell BK148.out 0).trans rfl
                            have hcz28_1 : wr.cell? ⟨gb148, 1, none⟩ = some (.slice Ao8 t142.length co8) := (blk_cell BK148.out 1).trans rfl
                            have hcz28_2 : wr.cell? ⟨gb148, 2, none⟩ = some (.int .i64 t145) := (blk_cell BK148.out 2).trans rfl
                            have hcz28_3 : wr.cell? ⟨gb148, 3, none⟩ = some (.bool t146) := (blk_cell BK148.out 3).trans rfl
                            have hfz28_0 := blk_frozen BK148.out 0
                            have hfz28_1 := blk_frozen BK148.out 1
                            have hfz28_2 := blk_frozen BK148.out 2
                            have hfz28_3 := blk_frozen BK148.out 3
                            have p155 : 0 ≤ (x8_1 : Int) := of_decide_eq_true (by first | (with_reducible assumption) | assumption)
                            have q155 : x8_1 < (t139.length : Int) := of_decide_eq_true (by first | (with_reducible assumption) | assumption)
                            obtain ⟨ad155, e155, hx155_0, hx155_1, hx155_2, hx155_3⟩ := at_T53 (Kd.R_reads' HO_149000.out).2.2 x8_1 p155 q155
                            (try rw [← Nbq21.out] at hx155_0)
                            cases e155
                            replace p155 := eq_true p155
                            replace q155 := eq_true q155
                            have p156 : 0 ≤ (x8_1 : Int) := of_decide_eq_true (by first | (with_reducible assumption) | assumption)
                            have q156 : x8_1 < (t142.length : Int) := of_decide_eq_true (by first | (with_reducible assumption) | assumption)
                            obtain ⟨ad156, e156, hx156_0⟩ := Kd.at_int (Kd.R_reads' HO_149001.out).2.2 x8_1 p156 q156
                            cases e156
                            replace p156 := eq_true p156
                            replace q156 := eq_true q156
                            have p157 : 0 ≤ (x8_1 : Int) := of_decide_eq_true (by first | (with_reducible assumption) | assumption)
                            have q157 : x8_1 < (t142.length : Int) := of_decide_eq_true (by first | (with_reducible assumption) | assumption)
                            obtain ⟨ad157, e157, hx157_0⟩ := Kd.at_int (Kd.R_reads' HO_149001.out).2.2 x8_1 p157 q157
                            obtain rfl : ad156 = ad157 := (by injection e157)
                            replace p157 := eq_true p157
                            replace q157 := eq_true q157
                            go_wp2_with (first | ((with_reducible refine gate_builtin (b := .append) (xs := #[.tmp 74, .tmp 77]) rfl ?_); at_builtin; refine Kd.R_append (Kd.int .i64) (w0 := w) w.heap.size rfl (.tmp 74) (.tmp 77) 27 3 (.int .i64 0) 8 rfl Tryz.underlying27 info3 rfl (by decide) (by omega) u7 x7_1 (wrap64 (x8_1 + 1)) [.int .i64 (wrap64 (x8_1 + 1))] (fun k_ => some k_ ≠ (.slice (some ad156) t142.length co8 : Value).ownBlock) (fun _ => False) rfl rfl ?aP (fun _ hk => hk.elim) ?aF ?aO ?aB ?aS ?aL ?_; (case aP => exact rfl); (case aB => exact (by repeat (first | (with_reducible first | exact HB.out | apply below_alloc | apply pw_below_drewN | apply below_drew1 | refine below_set ?_ GE148.out) | exact HB.out))); (case aF => exact (fun k_ hk => Kd.fresh' (Kd.R_lt (by (with_reducible repeat (first | apply Kd.R_alloc | apply Kd.R_drewN | apply Kd.R_drew)); exact HO_149001.out)) k_ hk)); (case aO => exact (by (with_reducible repeat (first | apply Kd.R_alloc | apply Kd.R_drewN | apply Kd.R_drew)); exact HO_7.out)); (case aS => exact (below_size (by repeat (first | (with_reducible first | exact HB.out | apply below_alloc | apply pw_below_drewN | apply below_drew1 | refine below_set ?_ GE148.out) | exact HB.out)))); (case aL => have := LMc27.out; omega); intro v159 w29 ho hb hg hat; rw [← Ny158.out] at ho; have n0_ := Aside0.mk (Kd.R_over' (by (with_reducible repeat (first | apply Kd.R_alloc | apply Kd.R_drewN | apply Kd.R_drew)); exact HO_149000.out) (Kd.R_typed (by (with_reducible repeat (first | apply Kd.R_alloc | apply Kd.R_drewN | apply Kd.R_drew)); exact HO_7.out)) (by decide) hg); have n1_ := Aside0.mk (Kd.R_after (ok := (fun _ => True)) (by (with_reducible repeat (first | apply Kd.R_alloc | apply Kd.R_drewN | apply Kd.R_drew)); exact Kd.R_mono HO_149001.out (fun _ hk => ⟨trivial, hk⟩)) hg hat); have n2_ := Aside0.mk (blk_grown (g := gb148) (o := .cells #[.slice (some ad155) t139.length co6, .slice (some ad156) t142.length co8, .int .i64 t145, .bool t146] 50 (0, 0)) (by (with_reducible repeat (first | refine blk_drewN ?_ _ | refine blk_drew ?_ | refine blk_alloc ?_ _)); exact BK148.out) hg (Kd.R_ne HO_7.out BK148.out (by decide))); have n3_ := Aside0.mk (hb); have n4_ := Aside0.mk (ho); clear HO_149000; clear HO_149001; clear BK148; clear HB; clear HO_7; have HO_149000 := n0_; have HO_149001 := n1_; have BK148 := n2_; have HB := n3_; have HO160 := n4_; clear n0_ n1_ n2_ n3_ n4_; clear ho hb hg hat))
                            go_roundg k1
                            case measure => have := HK1.out; omega
                            case rel => (try rw [← Nbq21.out]); exact ⟨(y158), (wrap64 (x8_1 + 1)), (by first | rfl | (simp; done) | (simp [*]; done) | (simp; generalize ByteArray.toList _ = l_; cases l_ <;> rfl)), H', ⟨by have := HK1.out; omega⟩, ⟨by (with_reducible repeat (first | apply Kd.R_alloc | apply Kd.R_drewN | apply Kd.R_drew)); exact HO160.out⟩, ⟨by (with_reducible repeat (first | apply Kd.R_alloc | apply Kd.R_drewN | apply Kd.R_drew)); exact HO_149000.out⟩, ⟨by (with_reducible repeat (first | apply Kd.R_alloc | apply Kd.R_drewN | apply Kd.R_drew)); exact Kd.R_mono HO_149001.out (fun _ hk => hk.2)⟩, ⟨by (with_reducible repeat (first | refine blk_drewN ?_ _ | refine blk_drew ?_ | refine blk_alloc ?_ _)); exact BK148.out⟩, ⟨by repeat (first | (with_reducible first | exact HB.out | apply below_alloc | apply pw_below_drewN | apply below_drew1 | refine below_set ?_ GE148.out) | exact HB.out)⟩⟩
                          · rw [if_neg c27] at H
                            exact absurd H (by simp)
                      · rw [if_neg c24] at H
                        have c24b0 : decide (0 ≤ (rd t142 x8_1)) = false := decide_eq_false c24
                        clear c24
                        have H' := Aside0.mk H
                        clear H
                        have hcz30_0 : wr.cell? ⟨gb148, 0, none⟩ = some (.slice Ao6 t139.length co6) := (blk_cell BK148.out 0).trans rfl
                        have hcz30_1 : wr.cell? ⟨gb148, 1, none⟩ = some (.slice Ao8 t142.length co8) := (blk_cell BK148.out 1).trans rfl
                        have hcz30_2 : wr.cell? ⟨gb148, 2, none⟩ = some (.int .i64 t145) := (blk_cell BK148.out 2).trans rfl
                        have hcz30_3 : wr.cell? ⟨gb148, 3, none⟩ = some (.bool t146) := (blk_cell BK148.out 3).trans rfl
                        have hfz30_0 := blk_frozen BK148.out 0
                        have hfz30_1 := blk_frozen BK148.out 1
                        have hfz30_2 := blk_frozen BK148.out 2
                        have hfz30_3 := blk_frozen BK148.out 3
                        have p155 : 0 ≤ (x8_1 : Int) := of_decide_eq_true (by first | (with_reducible assumption) | assumption)
                        have q155 : x8_1 < (t139.length : Int) := of_decide_eq_true (by first | (with_reducible assumption) | assumption)
                        obtain ⟨ad155, e155, hx155_0, hx155_1, hx155_2, hx155_3⟩ := at_T53 (Kd.R_reads' HO_149000.out).2.2 x8_1 p155 q155
                        (try rw [← Nbq21.out] at hx155_0)
                        cases e155
                        replace p155 := eq_true p155
                        replace q155 := eq_true q155
                        have p156 : 0 ≤ (x8_1 : Int) := of_decide_eq_true (by first | (with_reducible assumption) | assumption)
                        have q156 : x8_1 < (t142.length : Int) := of_decide_eq_true (by first | (with_reducible assumption) | assumption)
                        obtain ⟨ad156, e156, hx156_0⟩ := Kd.at_int (Kd.R_reads' HO_149001.out).2.2 x8_1 p156 q156
                        cases e156
                        replace p156 := eq_true p156
                        replace q156 := eq_true q156
                        go_wp2
                        go_roundg k1
                        case measure => have := HK1.out; omega
                        case rel => (try rw [← Nbq21.out]); exact ⟨(x7_1), (wrap64 (x8_1 + 1)), (by first | rfl | (simp; done) | (simp [*]; done) | (simp; generalize ByteArray.toList _ = l_; cases l_ <;> rfl)), H', ⟨by have := HK1.out; omega⟩, ⟨by (with_reducible repeat (first | apply Kd.R_alloc | apply Kd.R_drewN | apply Kd.R_drew)); exact HO_7.out⟩, ⟨by (with_reducible repeat (first | apply Kd.R_alloc | apply Kd.R_drewN | apply Kd.R_drew)); exact HO_149000.out⟩, ⟨by (with_reducible repeat (first | apply Kd.R_alloc | apply Kd.R_drewN | apply Kd.R_drew)); exact HO_149001.out⟩, ⟨by (with_reducible repeat (first | refine blk_drewN ?_ _ | refine blk_drew ?_ | refine blk_alloc ?_ _)); exact BK148.out⟩, ⟨by repeat (first | (with_reducible first | exact HB.out | apply below_alloc | apply pw_below_drewN | apply below_drew1 | refine below_set ?_ GE148.out) | exact HB.out)⟩⟩
                    · rw [if_neg c23] at H
                      exact absurd H (by simp)
                  · replace c22 := Bool.eq_false_iff.mpr c22
                    subst c22
                    have H1 : (if ((rd_T53 t139 x8_1).f2) = 2 then (if x8_1 < (t142.length : Int) then (if (rd t142 x8_1) ≥ 0 then (if (rd t142 x8_1) = (wrap64 (x8_1 + 1)) then (motleyref27_Verdict.l0 k1 x7_1 (wrap64 (x8_1 + 1)) t139 t142 t145 t146) else (if x7_1.length < 17592186044416 then (motleyref27_Verdict.l0 k1 (x7_1 ++ [wrap64 (x8_1 + 1)]) (wrap64 (x8_1 + 1)) t139 t142 t145 t146) else (none))) else (motleyref27_Verdict.l0 k1 x7_1 (wrap64 (x8_1 + 1)) t139 t142 t145 t146)) else (none)) else (if x7_1.length < 17592186044416 then (motleyref27_Verdict.l0 k1 (x7_1 ++ [wrap64 (x8_1 + 1)]) (wrap64 (x8_1 + 1)) t139 t142 t145 t146) else (none))) = some (r1, r2, r3) := by rw [if_neg (show ¬ (false = true) by decide)] at H; exact H
                    clear H
                    have H := H1
                    clear H1
                    by_cases c31 : ((rd_T53 t139 x8_1).f2) = 2
                    · rw [if_pos c31] at H
                      have c31b0 : (((rd_T53 t139 x8_1).f2) == 2) = true := beq_iff_eq.mpr c31
                      have c31b1 : (((rd_T53 t139 x8_1).f2) != 2) = false := bne_eq_false_iff_eq.mpr c31
                      clear c31
                      by_cases c32 : x8_1 < (t142.length : Int)
                      · rw [if_pos c32] at H
                        have c32b0 : decide (x8_1 < (t142.length : Int)) = true := decide_eq_true c32
                        clear c32
                        by_cases c33 : (rd t142 x8_1) ≥ 0
                        · rw [if_pos c33] at H
                          have c33b0 : decide (0 ≤ (rd t142 x8_1)) = true := decide_eq_true c33
                          clear c33
                          by_cases c34 : (rd t142 x8_1) = (wrap64 (x8_1 + 1))
                          · rw [if_pos c34] at H
                            have c34b0 : ((rd t142 x8_1) == (wrap64 (x8_1 + 1))) = true := beq_iff_eq.mpr c34
                            have c34b1 : ((rd t142 x8_1) != (wrap64 (x8_1 + 1))) = false := bne_eq_false_iff_eq.mpr c34
                            clear c34
                            have H' := Aside0.mk H
                            clear H
                            have hcz35_0 : wr.cell? ⟨gb148, 0, none⟩ = some (.slice Ao6 t139.length co6) := (blk_cell BK148.out 0).trans rfl
                            have hcz35_1 : wr.cell? ⟨gb148, 1, none⟩ = some (.slice Ao8 t142.length co8) := (blk_cell BK148.out 1).trans rfl
                            have hcz35_2 : wr.cell? ⟨gb148, 2, none⟩ = some (.int .i64 t145) := (blk_cell BK148.out 2).trans rfl
                            have hcz35_3 : wr.cell? ⟨gb148, 3, none⟩ = some (.bool t146) := (blk_cell BK148.out 3).trans rfl
                            have hfz35_0 := blk_frozen BK148.out 0
                            have hfz35_1 := blk_frozen BK148.out 1
                            have hfz35_2 := blk_frozen BK148.out 2
                            have hfz35_3 := blk_frozen BK148.out 3
                            have p155 : 0 ≤ (x8_1 : Int) := of_decide_eq_true (by first | (with_reducible assumption) | assumption)
                            have q155 : x8_1 < (t139.length : Int) := of_decide_eq_true (by first | (with_reducible assumption) | assumption)
                            obtain ⟨ad155, e155, hx155_0, hx155_1, hx155_2, hx155_3⟩ := at_T53 (Kd.R_reads' HO_149000.out).2.2 x8_1 p155 q155
                            (try rw [← Nbq21.out] at hx155_0)
                            cases e155
                            replace p155 := eq_true p155
                            replace q155 := eq_true q155
                            have p161 : 0 ≤ (x8_1 : Int) := of_decide_eq_true (by first | (with_reducible assumption) | assumption)
                            have q161 : x8_1 < (t139.length : Int) := of_decide_eq_true (by first | (with_reducible assumption) | assumption)
                            obtain ⟨ad161, e161, hx161_0, hx161_1, hx161_2, hx161_3⟩ := at_T53 (Kd.R_reads' HO_149000.out).2.2 x8_1 p161 q161
                            (try rw [← Nbq21.out] at hx161_0)
                            obtain rfl : ad155 = ad161 := (by injection e161)
                            replace p161 := eq_true p161
                            replace q161 := eq_true q161
                            have p162 : 0 ≤ (x8_1 : Int) := of_decide_eq_true (by first | (with_reducible assumption) | assumption)
                            have q162 : x8_1 < (t142.length : Int) := of_decide_eq_true (by first | (with_reducible assumption) | assumption)
                            obtain ⟨ad162, e162, hx162_0⟩ := Kd.at_int (Kd.R_reads' HO_149001.out).2.2 x8_1 p162 q162
                            cases e162
                            replace p162 := eq_true p162
                            replace q162 := eq_true q162
                            have p163 : 0 ≤ (x8_1 : Int) := of_decide_eq_true (by first | (with_reducible assumption) | assumption)
                            have q163 : x8_1 < (t142.length : Int) := of_decide_eq_true (by first | (with_reducible assumption) | assumption)
                            obtain ⟨ad163, e163, hx163_0⟩ := Kd.at_int (Kd.R_reads' HO_149001.out).2.2 x8_1 p163 q163
                            obtain rfl : ad162 = ad163 := (by injection e163)
                            replace p163 := eq_true p163
                            replace q163 := eq_true q163
                            go_wp2
                            go_roundg k1
                            case measure => have := HK1.out; omega
                            case rel => (try rw [← Nbq21.out]); exact ⟨(x7_1), (wrap64 (x8_1 + 1)), (by first | rfl | (simp; done) | (simp [*]; done) | (simp; generalize ByteArray.toList _ = l_; cases l_ <;> rfl)), H', ⟨by have := HK1.out; omega⟩, ⟨by (with_reducible repeat (first | apply Kd.R_alloc | apply Kd.R_drewN | apply Kd.R_drew)); exact HO_7.out⟩, ⟨by (with_reducible repeat (first | apply Kd.R_alloc | apply Kd.R_drewN | apply Kd.R_drew)); exact HO_149000.out⟩, ⟨by (with_reducible repeat (first | apply Kd.R_alloc | apply Kd.R_drewN | apply Kd.R_drew)); exact HO_149001.out⟩, ⟨by (with_reducible repeat (first | refine blk_drewN ?_ _ | refine blk_drew ?_ | refine blk_alloc ?_ _)); exact BK148.out⟩, ⟨by repeat (first | (with_reducible first | exact HB.out | apply below_alloc | apply pw_below_drewN | apply below_drew1 | refine below_set ?_ GE148.out) | exact HB.out)⟩⟩
                          · rw [if_neg c34] at H
                            have c34b0 : ((rd t142 x8_1) == (wrap64 (x8_1 + 1))) = false := beq_eq_false_iff_ne.mpr c34
                            have c34b1 : ((rd t142 x8_1) != (wrap64 (x8_1 + 1))) = true := bne_iff_ne.mpr c34
                            by_cases c36 : x7_1.length < 17592186044416
                            · rw [if_pos c36] at H
                              have LMc36 := Aside0.mk c36
                              clear c36
                              obtain ⟨y164, hy164⟩ : ∃ y_ : List Int, y_ = (x7_1 ++ [wrap64 (x8_1 + 1)]) := ⟨_, rfl⟩
                              replace H : (motleyref27_Verdict.l0 k1 y164 (wrap64 (x8_1 + 1)) t139 t142 t145 t146) = some (r1, r2, r3) := by first | (rw [hy164]; with_reducible exact H) | (have H2_ := (Option.bind_some _ _).symm.trans H; rw [hy164]; with_reducible exact H2_) | (have H2_ := (Option.bind_some _ _).symm.trans H; with_reducible exact H2_) | with_reducible exact H | (rw [hy164]; exact H) | exact H
                              have Ny164 := Aside0.mk hy164
                              clear hy164
                              have H' := Aside0.mk H
                              clear H
                              have hcz37_0 : wr.cell? ⟨gb148, 0, none⟩ = some (.slice Ao6 t139.length co6) := (blk_cell BK148.out 0).trans rfl
                              have hcz37_1 : wr.cell? ⟨gb148, 1, none⟩ = some (.slice Ao8 t142.length co8) := (blk_cell BK148.out 1).trans rfl
                              have hcz37_2 : wr.cell? ⟨gb148, 2, none⟩ = some (.int .i64 t145) := (blk_cell BK148.out 2).trans rfl
                              have hcz37_3 : wr.cell? ⟨gb148, 3, none⟩ = some (.bool t146) := (blk_cell BK148.out 3).trans rfl
                              have hfz37_0 := blk_frozen BK148.out 0
                              have hfz37_1 := blk_frozen BK148.out 1
                              have hfz37_2 := blk_frozen BK148.out 2
                              have hfz37_3 := blk_frozen BK148.out 3
                              have p155 : 0 ≤ (x8_1 : Int) := of_decide_eq_true (by first | (with_reducible assumption) | assumption)
                              have q155 : x8_1 < (t139.length : Int) := of_decide_eq_true (by first | (with_reducible assumption) | assumption)
                              obtain ⟨ad155, e155, hx155_0, hx155_1, hx155_2, hx155_3⟩ := at_T53 (Kd.R_reads' HO_149000.out).2.2 x8_1 p155 q155
                              (try rw [← Nbq21.out] at hx155_0)
                              cases e155
                              replace p155 := eq_true p155
                              replace q155 := eq_true q155
                              have p161 : 0 ≤ (x8_1 : Int) := of_decide_eq_true (by first | (with_reducible assumption) | assumption)
                              have q161 : x8_1 < (t139.length : Int) := of_decide_eq_true (by first | (with_reducible assumption) | assumption)
                              obtain ⟨ad161, e161, hx161_0, hx161_1, hx161_2, hx161_3⟩ := at_T53 (Kd.R_reads' HO_149000.out).2.2 x8_1 p161 q161
                              (try rw [← Nbq21.out] at hx161_0)
                              obtain rfl : ad155 = ad161 := (by injection e161)
                              replace p161 := eq_true p161
                              replace q161 := eq_true q161
                              have p162 : 0 ≤ (x8_1 : Int) := of_decide_eq_true (by first | (with_reducible assumption) | assumption)
                              have q162 : x8_1 < (t142.length : Int) := of_decide_eq_true (by first | (with_reducible assumption) | assumption)
                              obtain ⟨ad162, e162, hx162_0⟩ := Kd.at_int (Kd.R_reads' HO_149001.out).2.2 x8_1 p162 q162
                              cases e162
                              replace p162 := eq_true p162
                              replace q162 := eq_true q162
                              have p163 : 0 ≤ (x8_1 : Int) := of_decide_eq_true (by first | (with_reducible assumption) | assumption)
                              have q163 : x8_1 < (t142.length : Int) := of_decide_eq_true (by first | (with_reducible assumption) | assumption)
                              obtain ⟨ad163, e163, hx163_0⟩ := Kd.at_int (Kd.R_reads' HO_149001.out).2.2 x8_1 p163 q163
                              obtain rfl : ad162 = ad163 := (by injection e163)
                              replace p163 := eq_true p163
                              replace q163 := eq_true q163
                              go_wp2_with (first | ((with_reducible refine gate_builtin (b := .append) (xs := #[.tmp 74, .tmp 77]) rfl ?_); at_builtin; refine Kd.R_append (Kd.int .i64) (w0 := w) w.heap.size rfl (.tmp 74) (.tmp 77) 27 3 (.int .i64 0) 8 rfl Tryz.underlying27 info3 rfl (by decide) (by omega) u7 x7_1 (wrap64 (x8_1 + 1)) [.int .i64 (wrap64 (x8_1 + 1))] (fun k_ => some k_ ≠ (.slice (some ad162) t142.length co8 : Value).ownBlock) (fun _ => False) rfl rfl ?aP (fun _ hk => hk.elim) ?aF ?aO ?aB ?aS ?aL ?_; (case aP => exact rfl); (case aB => exact (by repeat (first | (with_reducible first | exact HB.out | apply below_alloc | apply pw_below_drewN | apply below_drew1 | refine below_set ?_ GE148.out) | exact HB.out))); (case aF => exact (fun k_ hk => Kd.fresh' (Kd.R_lt (by (with_reducible repeat (first | apply Kd.R_alloc | apply Kd.R_drewN | apply Kd.R_drew)); exact HO_149001.out)) k_ hk)); (case aO => exact (by (with_reducible repeat (first | apply Kd.R_alloc | apply Kd.R_drewN | apply Kd.R_drew)); exact HO_7.out)); (case aS => exact (below_size (by repeat (first | (with_reducible first | exact HB.out | apply below_alloc | apply pw_below_drewN | apply below_drew1 | refine below_set ?_ GE148.out) | exact HB.out)))); (case aL => have := LMc36.out; omega); intro v165 w38 ho hb hg hat; rw [← Ny164.out] at ho; have n0_ := Aside0.mk (Kd.R_over' (by (with_reducible repeat (first | apply Kd.R_alloc | apply Kd.R_drewN | apply Kd.R_drew)); exact HO_149000.out) (Kd.R_typed (by (with_reducible repeat (first | apply Kd.R_alloc | apply Kd.R_drewN | apply Kd.R_drew)); exact HO_7.out)) (by decide) hg); have n1_ := Aside0.mk (Kd.R_after (ok := (fun _ => True)) (by (with_reducible repeat (first | apply Kd.R_alloc | apply Kd.R_drewN | apply Kd.R_drew)); exact Kd.R_mono HO_149001.out (fun _ hk => ⟨trivial, hk⟩)) hg hat); have n2_ := Aside0.mk (blk_grown (g := gb148) (o := .cells #[.slice (some ad155) t139.length co6, .slice (some ad162) t142.length co8, .int .i64 t145, .bool t146] 50 (0, 0)) (by (with_reducible repeat (first | refine blk_drewN ?_ _ | refine blk_drew ?_ | refine blk_alloc ?_ _)); exact BK148.out) hg (Kd.R_ne HO_7.out BK148.out (by decide))); have n3_ := Aside0.mk (hb); have n4_ := Aside0.mk (ho); clear HO_149000; clear HO_149001; clear BK148; clear HB; clear HO_7; have HO_149000 := n0_; have HO_149001 := n1_; have BK148 := n2_; have HB := n3_; have HO166 := n4_; clear n0_ n1_ n2_ n3_ n4_; clear ho hb hg hat))
                              go_roundg k1
                              case measure => have := HK1.out; omega
                              case rel => (try rw [← Nbq21.out]); exact ⟨(y164), (wrap64 (x8_1 + 1)), (by first | rfl | (simp; done) | (simp [*]; done) | (simp; generalize ByteArray.toList _ = l_; cases l_ <;> rfl)), H', ⟨by have := HK1.out; omega⟩, ⟨by (with_reducible repeat (first | apply Kd.R_alloc | apply Kd.R_drewN | apply Kd.R_drew)); exact HO166.out⟩, ⟨by (with_reducible repeat (first | apply Kd.R_alloc | apply Kd.R_drewN | apply Kd.R_drew)); exact HO_149000.out⟩, ⟨by (with_reducible repeat (first | apply Kd.R_alloc | apply Kd.R_drewN | apply Kd.R_drew)); exact Kd.R_mono HO_149001.out (fun _ hk => hk.2)⟩, ⟨by (with_reducible repeat (first | refine blk_drewN ?_ _ | refine blk_drew ?_ | refine blk_alloc ?_ _)); exact BK148.out⟩, ⟨by repeat (first | (with_reducible first | exact HB.out | apply below_alloc | apply pw_below_drewN | apply below_drew1 | refine below_set ?_ GE148.out) | exact HB.out)⟩⟩
                            · rw [if_neg c36] at H
                              exact absurd H (by simp)
                        · rw [if_neg c33] at H
                          have c33b0 : decide (0 ≤ (rd t142 x8_1)) = false := decide_eq_false c33
                          clear c33
                          have H' := Aside0.mk H
                          clear H
                          have hcz39_0 : wr.cell? ⟨gb148, 0, none⟩ = some (.slice Ao6 t139.length co6) := (blk_cell BK148.out 0).trans rfl
                          have hcz39_1 : wr.cell? ⟨gb148, 1, none⟩ = some (.slice Ao8 t142.length co8) := (blk_cell BK148.out 1).trans rfl
                          have hcz39_2 : wr.cell? ⟨gb148, 2, none⟩ = some (.int .i64 t145) := (blk_cell BK148.out 2).trans rfl
                          have hcz39_3 : wr.cell? ⟨gb148, 3, none⟩ = some (.bool t146) := (blk_cell BK148.out 3).trans rfl
                          have hfz39_0 := blk_frozen BK148.out 0
                          have hfz39_1 := blk_frozen BK148.out 1
                          have hfz39_2 := blk_frozen BK148.out 2
                          have hfz39_3 := blk_frozen BK148.out 3
                          have p155 : 0 ≤ (x8_1 : Int) := of_decide_eq_true (by first | (with_reducible assumption) | assumption)
                          have q155 : x8_1 < (t139.length : Int) := of_decide_eq_true (by first | (with_reducible assumption) | assumption)
                          obtain ⟨ad155, e155, hx155_0, hx155_1, hx155_2, hx155_3⟩ := at_T53 (Kd.R_reads' HO_149000.out).2.2 x8_1 p155 q155
                          (try rw [← Nbq21.out] at hx155_0)
                          cases e155
                          replace p155 := eq_true p155
                          replace q155 := eq_true q155
                          have p161 : 0 ≤ (x8_1 : Int) := of_decide_eq_true (by first | (with_reducible assumption) | assumption)
                          have q161 : x8_1 < (t139.length : Int) := of_decide_eq_true (by first | (with_reducible assumption) | assumption)
                          obtain ⟨ad161, e161, hx161_0, hx161_1, hx161_2, hx161_3⟩ := at_T53 (Kd.R_reads' HO_149000.out).2.2 x8_1 p161 q161
                          (try rw [← Nbq21.out] at hx161_0)
                          obtain rfl : ad155 = ad161 := (by injection e161)
                          replace p161 := eq_true p161
                          replace q161 := eq_true q161
                          have p162 : 0 ≤ (x8_1 : Int) := of_decide_eq_true (by first | (with_reducible assumption) | assumption)
                          have q162 : x8_1 < (t142.length : Int) := of_decide_eq_true (by first | (with_reducible assumption) | assumption)
                          obtain ⟨ad162, e162, hx162_0⟩ := Kd.at_int (Kd.R_reads' HO_149001.out).2.2 x8_1 p162 q162
                          cases e162
                          replace p162 := eq_true p162
                          replace q162 := eq_true q162
                          go_wp2
                          go_roundg k1
                          case measure => have := HK1.out; omega
                          case rel => (try rw [← Nbq21.out]); exact ⟨(x7_1), (wrap64 (x8_1 + 1)), (by first | rfl | (simp; done) | (simp [*]; done) | (simp; generalize ByteArray.toList _ = l_; cases l_ <;> rfl)), H', ⟨by have := HK1.out; omega⟩, ⟨by (with_reducible repeat (first | apply Kd.R_alloc | apply Kd.R_drewN | apply Kd.R_drew)); exact HO_7.out⟩, ⟨by (with_reducible repeat (first | apply Kd.R_alloc | apply Kd.R_drewN | apply Kd.R_drew)); exact HO_149000.out⟩, ⟨by (with_reducible repeat (first | apply Kd.R_alloc | apply Kd.R_drewN | apply Kd.R_drew)); exact HO_149001.out⟩, ⟨by (with_reducible repeat (first | refine blk_drewN ?_ _ | refine blk_drew ?_ | refine blk_alloc ?_ _)); exact BK148.out⟩, ⟨by repeat (first | (with_reducible first | exact HB.out | apply below_alloc | apply pw_below_drewN | apply below_drew1 | refine below_set ?_ GE148.out) | exact HB.out)⟩⟩
                      · rw [if_neg c32] at H
                        exact absurd H (by simp)
                    · rw [if_neg c31] at H
                      have c31b0 : (((rd_T53 t139 x8_1).f2) == 2) = false := beq_eq_false_iff_ne.mpr c31
                      have c31b1 : (((rd_T53 t139 x8_1).f2) != 2) = true := bne_iff_ne.mpr c31
                      by_cases c40 : x7_1.length < 17592186044416
                      · rw [if_pos c40] at H
                        have LMc40 := Aside0.mk c40
                        clear c40
                        obtain ⟨y167, hy167⟩ : ∃ y_ : List Int, y_ = (x7_1 ++ [wrap64 (x8_1 + 1)]) := ⟨_, rfl⟩
                        replace H : (motleyref27_Verdict.l0 k1 y167 (wrap64 (x8_1 + 1)) t139 t142 t145 t146) = some (r1, r2, r3) := by first | (rw [hy167]; with_reducible exact H) | (have H2_ := (Option.bind_some _ _).symm.trans H; rw [hy167]; with_reducible exact H2_) | (have H2_ := (Option.bind_some _ _).symm.trans H; with_reducible exact H2_) | with_reducible exact H | (rw [hy167]; exact H) | exact H
                        have Ny167 := Aside0.mk hy167
                        clear hy167
                        have H' := Aside0.mk H
                        clear H
                        have hcz41_0 : wr.cell? ⟨gb148, 0, none⟩ = some (.slice Ao6 t139.length co6) := (blk_cell BK148.out 0).trans rfl
                        have hcz41_1 : wr.cell? ⟨gb148, 1, none⟩ = some (.slice Ao8 t142.length co8) := (blk_cell BK148.out 1).trans rfl
                        have hcz41_2 : wr.cell? ⟨gb148, 2, none⟩ = some (.int .i64 t145) := (blk_cell BK148.out 2).trans rfl
                        have hcz41_3 : wr.cell? ⟨gb148, 3, none⟩ = some (.bool t146) := (blk_cell BK148.out 3).trans rfl
                        have hfz41_0 := blk_frozen BK148.out 0
                        have hfz41_1 := blk_frozen BK148.out 1
                        have hfz41_2 := blk_frozen BK148.out 2
                        have hfz41_3 := blk_frozen BK148.out 3
                        have p155 : 0 ≤ (x8_1 : Int) := of_decide_eq_true (by first | (with_reducible assumption) | assumption)
                        have q155 : x8_1 < (t139.length : Int) := of_decide_eq_true (by first | (with_reducible assumption) | assumption)
                        obtain ⟨ad155, e155, hx155_0, hx155_1, hx155_2, hx155_3⟩ := at_T53 (Kd.R_reads' HO_149000.out).2.2 x8_1 p155 q155
                        (try rw [← Nbq21.out] at hx155_0)
                        cases e155
                        replace p155 := eq_true p155
                        replace q155 := eq_true q155
                        have p161 : 0 ≤ (x8_1 : Int) := of_decide_eq_true (by first | (with_reducible assumption) | assumption)
                        have q161 : x8_1 < (t139.length : Int) := of_decide_eq_true (by first | (with_reducible assumption) | assumption)
                        obtain ⟨ad161, e161, hx161_0, hx161_1, hx161_2, hx161_3⟩ := at_T53 (Kd.R_reads' HO_149000.out).2.2 x8_1 p161 q161
                        (try rw [← Nbq21.out] at hx161_0)
                        obtain rfl : ad155 = ad161 := (by injection e161)
                        replace p161 := eq_true p161
                        replace q161 := eq_true q161
                        go_wp2_with (first | ((with_reducible refine gate_builtin (b := .append) (xs := #[.tmp 74, .tmp 77]) rfl ?_); at_builtin; refine Kd.R_append (Kd.int .i64) (w0 := w) w.heap.size rfl (.tmp 74) (.tmp 77) 27 3 (.int .i64 0) 8 rfl Tryz.underlying27 info3 rfl (by decide) (by omega) u7 x7_1 (wrap64 (x8_1 + 1)) [.int .i64 (wrap64 (x8_1 + 1))] (fun k_ => some k_ ≠ (.slice Ao8 t142.length co8 : Value).ownBlock) (fun _ => False) rfl rfl ?aP (fun _ hk => hk.elim) ?aF ?aO ?aB ?aS ?aL ?_; (case aP => exact rfl); (case aB => exact (by repeat (first | (with_reducible first | exact HB.out | apply below_alloc | apply pw_below_drewN | apply below_drew1 | refine below_set ?_ GE148.out) | exact HB.out))); (case aF => exact (fun k_ hk => Kd.fresh' (Kd.R_lt (by (with_reducible repeat (first | apply Kd.R_alloc | apply Kd.R_drewN | apply Kd.R_drew)); exact HO_149001.out)) k_ hk)); (case aO => exact (by (with_reducible repeat (first | apply Kd.R_alloc | apply Kd.R_drewN | apply Kd.R_drew)); exact HO_7.out)); (case aS => exact (below_size (by repeat (first | (with_reducible first | exact HB.out | apply below_alloc | apply pw_below_drewN | apply below_drew1 | refine below_set ?_ GE148.out) | exact HB.out)))); (case aL => have := LMc40.out; omega); intro v168 w42 ho hb hg hat; rw [← Ny167.out] at ho; have n0_ := Aside0.mk (Kd.R_over' (by (with_reducible repeat (first | apply Kd.R_alloc | apply Kd.R_drewN | apply Kd.R_drew)); exact HO_149000.out) (Kd.R_typed (by (with_reducible repeat (first | apply Kd.R_alloc | apply Kd.R_drewN | apply Kd.R_drew)); exact HO_7.out)) (by decide) hg); have n1_ := Aside0.mk (Kd.R_after (ok := (fun _ => True)) (by (with_reducible repeat (first | apply Kd.R_alloc | apply Kd.R_drewN | apply Kd.R_drew)); exact Kd.R_mono HO_149001.out (fun _ hk => ⟨trivial, hk⟩)) hg hat); have n2_ := Aside0.mk (blk_grown (g := gb148) (o := .cells #[.slice (some ad155) t139.length co6, .slice Ao8 t142.length co8, .int .i64 t145, .bool t146] 50 (0, 0)) (by (with_reducible repeat (first | refine blk_drewN ?_ _ | refine blk_drew ?_ | refine blk_alloc ?_ _)); exact BK148.out) hg (Kd.R_ne HO_7.out BK148.out (by decide))); have n3_ := Aside0.mk (hb); have n4_ := Aside0.mk (ho); clear HO_149000; clear HO_149001; clear BK148; clear HB; clear HO_7; have HO_149000 := n0_; have HO_149001 := n1_; have BK148 := n2_; have HB := n3_; have HO169 := n4_; clear n0_ n1_ n2_ n3_ n4_; clear ho hb hg hat))
                        go_roundg k1
                        case measure => have := HK1.out; omega
                        case rel => (try rw [← Nbq21.out]); exact ⟨(y167), (wrap64 (x8_1 + 1)), (by first | rfl | (simp; done) | (simp [*]; done) | (simp; generalize ByteArray.toList _ = l_; cases l_ <;> rfl)), H', ⟨by have := HK1.out; omega⟩, ⟨by (with_reducible repeat (first | apply Kd.R_alloc | apply Kd.R_drewN | apply Kd.R_drew)); exact HO169.out⟩, ⟨by (with_reducible repeat (first | apply Kd.R_alloc | apply Kd.R_drewN | apply Kd.R_drew)); exact HO_149000.out⟩, ⟨by (with_reducible repeat (first | apply Kd.R_alloc | apply Kd.R_drewN | apply Kd.R_drew)); exact Kd.R_mono HO_149001.out (fun _ hk => hk.2)⟩, ⟨by (with_reducible repeat (first | refine blk_drewN ?_ _ | refine blk_drew ?_ | refine blk_alloc ?_ _)); exact BK148.out⟩, ⟨by repeat (first | (with_reducible first | exact HB.out | apply below_alloc | apply pw_below_drewN | apply below_drew1 | refine below_set ?_ GE148.out) | exact HB.out)⟩⟩
                      · rw [if_neg c40] at H
                        exact absurd H (by simp)
                · rw [if_neg c20] at H
                  exact absurd H (by simp)
              · rw [if_neg c19] at H
                exact absurd H (by simp)
        · rw [if_neg c10] at H
          have c10b0 : decide (x8_1 < (ji9)) = false := decide_eq_false c10
          clear c10
          by_cases c43 : (x7_1.length : Int) = 0
          · rw [if_pos c43] at H
            have c43b0 : ((x7_1.length : Int) == 0) = true := beq_iff_eq.mpr c43
            have c43b1 : ((x7_1.length : Int) != 0) = false := bne_eq_false_iff_eq.mpr c43
            clear c43
            simp only [Option.some.injEq, Prod.mk.injEq] at H
            obtain ⟨rfl, rfl, rfl⟩ := H
            have hcz44_0 : wr.cell? ⟨gb148, 0, none⟩ = some (.slice Ao6 t139.length co6) := (blk_cell BK148.out 0).trans rfl
            have hcz44_1 : wr.cell? ⟨gb148, 1, none⟩ = some (.slice Ao8 t142.length co8) := (blk_cell BK148.out 1).trans rfl
            have hcz44_2 : wr.cell? ⟨gb148, 2, none⟩ = some (.int .i64 t145) := (blk_cell BK148.out 2).trans rfl
            have hcz44_3 : wr.cell? ⟨gb148, 3, none⟩ = some (.bool t146) := (blk_cell BK148.out 3).trans rfl
            have hfz44_0 := blk_frozen BK148.out 0
            have hfz44_1 := blk_frozen BK148.out 1
            have hfz44_2 := blk_frozen BK148.out 2
            have hfz44_3 := blk_frozen BK148.out 3
            obtain ⟨Ao45, co45, eo45⟩ := Kd.R_slice HO_7.out
            subst eo45
            go_wp2
            go_ret3
            exact ⟨_, by first | rfl | (simp [errW_none, errW_some] <;> rfl) | (simp only [← hji9]; first | rfl | (simp [errW_none, errW_some] <;> rfl)) | (simp [*, errW_none, errW_some] <;> rfl), by (with_reducible repeat (first | apply Kd.R_alloc | apply Kd.R_drewN | apply Kd.R_drew)); exact Kd.R_mono HO_7.out (fun _ hk => trivial), by repeat (first | (with_reducible first | exact HB.out | apply below_alloc | apply pw_below_drewN | apply below_drew1 | refine below_set ?_ GE148.out) | exact HB.out)⟩
          · rw [if_neg c43] at H
            have c43b0 : ((x7_1.length : Int) == 0) = false := beq_eq_false_iff_ne.mpr c43
            have c43b1 : ((x7_1.length : Int) != 0) = true := bne_iff_ne.mpr c43
            have c43b2 : ¬ (x7_1 = []) := fun h_ => c43 (by rw [h_]; rfl)
            simp only [Option.some.injEq, Prod.mk.injEq] at H
            obtain ⟨rfl, rfl, rfl⟩ := H
            have hcz46_0 : wr.cell? ⟨gb148, 0, none⟩ = some (.slice Ao6 t139.length co6) := (blk_cell BK148.out 0).trans rfl
            have hcz46_1 : wr.cell? ⟨gb148, 1, none⟩ = some (.slice Ao8 t142.length co8) := (blk_cell BK148.out 1).trans rfl
            have hcz46_2 : wr.cell? ⟨gb148, 2, none⟩ = some (.int .i64 t145) := (blk_cell BK148.out 2).trans rfl
            have hcz46_3 : wr.cell? ⟨gb148, 3, none⟩ = some (.bool t146) := (blk_cell BK148.out 3).trans rfl
            have hfz46_0 := blk_frozen BK148.out 0
            have hfz46_1 := blk_frozen BK148.out 1
            have hfz46_2 := blk_frozen BK148.out 2
            have hfz46_3 := blk_frozen BK148.out 3
            obtain ⟨Ao47, co47, eo47⟩ := Kd.R_slice HO_7.out
            subst eo47
            go_wp2
            go_ret3
            exact ⟨_, by first | rfl | (simp [errW_none, errW_some] <;> rfl) | (simp only [← hji9]; first | rfl | (simp [errW_none, errW_some] <;> rfl)) | (simp [*, errW_none, errW_some] <;> rfl), by (with_reducible repeat (first | apply Kd.R_alloc | apply Kd.R_drewN | apply Kd.R_drew)); exact Kd.R_mono HO_7.out (fun _ hk => trivial), by repeat (first | (with_reducible first | exact HB.out | apply below_alloc | apply pw_below_drewN | apply below_drew1 | refine below_set ?_ GE148.out) | exact HB.out)⟩
  · rw [if_neg c3] at H
    have c3b0 : (t147 == 0) = false := beq_eq_false_iff_ne.mpr c3
    have c3b1 : (t147 != 0) = true := bne_iff_ne.mpr c3
    simp only [Option.some.injEq, Prod.mk.injEq] at H
    obtain ⟨rfl, rfl, rfl⟩ := H
    go_enter Tryz.func8, Tryz.ntmps8
    go_wp2_with (first | ((with_reducible refine gate_callee (f := 23) rfl ?_); refine goesL_ (some 11) rfl rfl Tryz.func23 (by kernel_rfl) rfl #[.string a0] rfl (by (try simp only [List.map_toArray, List.map_cons, List.map_nil]); first | done | rfl | (simp only [List.length_drop, List.length_take]; rfl)) ?_; (with_reducible refine (motleyref27_read.calls k a0 t139 t142 t145 t146 t147 _ A2.out).mono ?_); rintro e w48 ⟨v140, v143, rfl, ho0, ho1, hb⟩; refine ⟨_, rfl, ?_⟩; have n0_ := Aside0.mk (Kd.R_lower ho0 (below_size (by repeat (first | (with_reducible first | exact HB.out | apply below_alloc | apply pw_below_drewN | apply below_drew1) | exact HB.out)))); have n1_ := Aside0.mk (Kd.R_lower ho1 (below_size (by repeat (first | (with_reducible first | exact HB.out | apply below_alloc | apply pw_below_drewN | apply below_drew1) | exact HB.out)))); have n2_ := Aside0.mk (below_step (by repeat (first | (with_reducible first | exact HB.out | apply below_alloc | apply pw_below_drewN | apply below_drew1) | exact HB.out)) hb); clear HB; have HO141 := n0_; have HO144 := n1_; have HB := n2_; clear n0_ n1_ n2_; (try clear hb); (try clear hb2); (try clear hk); (try clear hi); (try clear ho0); (try clear ho1)) | ((with_reducible refine gate_dst (N := 5) rfl ?_); refine box_event ?hg (N := 5) ?hd (cs := #[.slice none 0 0, .slice none 0 0, .int .i64 0, .bool false]) (t := 50) ?hr ?_; (case hd => rfl); (case hg => rfl); (case hr => first | (go_simp; done) | (go_simp; rfl)); intro gb148 hg w49 hbox hb; have n0_ := Aside0.mk (Kd.R_below (by (with_reducible repeat (first | apply Kd.R_alloc | apply Kd.R_drewN | apply Kd.R_drew)); exact HO141.out) hb); have n1_ := Aside0.mk (Kd.R_below (by (with_reducible repeat (first | apply Kd.R_alloc | apply Kd.R_drewN | apply Kd.R_drew)); exact HO144.out) hb); have n2_ := Aside0.mk (below_step (by repeat (first | (with_reducible first | exact HB.out | apply below_alloc | apply pw_below_drewN | apply below_drew1) | exact HB.out)) hb); have n3_ := Aside0.mk (hbox); have n4_ := Aside0.mk ((by rw [hg]; exact (below_size (by repeat (first | (with_reducible first | exact HB.out | apply below_alloc | apply pw_below_drewN | apply below_drew1) | exact HB.out))) : w.heap.size ≤ gb148)); have n5_ := Aside0.mk ((by rw [hg]; exact (below_size (by repeat (first | (with_reducible first | exact HB.out | apply below_alloc | apply pw_below_drewN | apply below_drew1) | exact HB.out))) : w.heap.size ≤ gb148)); clear HO141; clear HO144; clear HB; have HO141 := n0_; have HO144 := n1_; have HB := n2_; have BK148 := n3_; have GW148 := n4_; have GE148 := n5_; clear n0_ n1_ n2_ n3_ n4_ n5_; clear hb hbox hg; obtain ⟨Ao50, co50, eo50⟩ := Kd.R_slice HO141.out; subst eo50; have hcz51_0 : w49.cell? ⟨gb148, 0, none⟩ = some (.slice none 0 0) := (blk_cell BK148.out 0).trans rfl; have hcz51_1 : w49.cell? ⟨gb148, 1, none⟩ = some (.slice none 0 0) := (blk_cell BK148.out 1).trans rfl; have hcz51_2 : w49.cell? ⟨gb148, 2, none⟩ = some (.int .i64 0) := (blk_cell BK148.out 2).trans rfl; have hcz51_3 : w49.cell? ⟨gb148, 3, none⟩ = some (.bool false) := (blk_cell BK148.out 3).trans rfl; have hfz51_0 := blk_frozen BK148.out 0; have hfz51_1 := blk_frozen BK148.out 1; have hfz51_2 := blk_frozen BK148.out 2; have hfz51_3 := blk_frozen BK148.out 3; obtain ⟨Ao52, co52, eo52⟩ := Kd.R_slice HO144.out; subst eo52))
    go_ret3
    exact ⟨_, by first | rfl | (simp [errW_none, errW_some] <;> rfl) | (simp [*, errW_none, errW_some] <;> rfl), by first | exact Kd.R_nil _ _ _ _ _ | exact Kd.N_nil _ _ _ _ _ | exact Kd.V_nil _ _ _ _ _ | exact Kd.Q_nil _ _ _ _ _ | exact Kd.S_nil _ _ _ _ _, by repeat (first | (with_reducible first | exact HB.out | apply below_alloc | apply pw_below_drewN | apply below_drew1 | refine below_set ?_ GE148.out) | exact HB.out)⟩

/-! ### motleylaw27_TapReads: function 3 -/
def motleylaw27_TapReads.f (k : Nat) (a0 : ByteArray) : Option (Bool) := if (a0.size : Int) > 262144 then ((motleylaw27_known.f).bind fun t170 => (some t170)) else ((motleyref27_Read.f k a0).bind fun bt171 => ((motleyref27_Verdict.f k a0).bind fun bt175 => ((tap_Read.f a0).bind fun bt180 => ((tap_Verdict.f a0).bind fun bt184 => ((motleylaw27_same.f k bt180.1 bt171.1).bind fun t189 => (if t189 = true then (if bt180.2 = bt171.2 then (if (bt184.1 == bt175.1) = true then ((motleyref01_SameInts.f k bt184.2.1 bt175.2.1).bind fun t190 => (if t190 = true then (if bt184.2.2 = bt175.2.2 then ((motleylaw27_known.f).bind fun t191 => (some t191)) else (some false)) else (some false))) else (some false)) else (some false)) else (some false)))))))
theorem motleylaw27_TapReads.mono : ∀ a0 k, LeO (motleylaw27_TapReads.f k a0) (motleylaw27_TapReads.f (k + 1) a0) := by
  intro a0 k
  unfold motleylaw27_TapReads.f
  repeat' first
      | (with_reducible exact motleylaw27_same.mono _ _ _)
      | (with_reducible exact motleyref01_SameInts.mono _ _ _)
      | (with_reducible exact motleyref27_Read.mono _ _)
      | (with_reducible exact motleyref27_Verdict.mono _ _)
      | (with_reducible exact LeO.refl _)
      | (with_reducible exact LeO.none _)
      | (with_reducible refine LeO.ite ?_ ?_)
      | (with_reducible refine LeO.bind ?_ (fun _ => ?_))
      | exact motleylaw27_same.mono _ _ _
      | exact motleyref01_SameInts.mono _ _ _
      | exact motleyref27_Read.mono _ _
      | exact motleyref27_Verdict.mono _ _
      | exact LeO.none _
      | refine LeO.ite ?_ ?_
      | refine LeO.bind ?_ (fun _ => ?_)
set_option maxHeartbeats 8000000 in
set_option maxRecDepth 100000 in
theorem motleylaw27_TapReads.calls (k : Nat) (a0 : ByteArray) (r : Bool) (w : World) (hL : LaidW w) (h : motleylaw27_TapReads.f k a0 = some r) :
    Calls Tryz.prog 3 #[.string a0] w fun e w' => e = .returned (.bool r) ∧ Below w.heap.size w w' := by
  have HB := Aside0.mk (Below.refl w.heap.size w)
  have H : (if (a0.size : Int) > 262144 then ((motleylaw27_known.f).bind fun t170 => (some t170)) else ((motleyref27_Read.f k a0).bind fun bt171 => ((motleyref27_Verdict.f k a0).bind fun bt175 => ((tap_Read.f a0).bind fun bt180 => ((tap_Verdict.f a0).bind fun bt184 => ((motleylaw27_same.f k bt180.1 bt171.1).bind fun t189 => (if t189 = true then (if bt180.2 = bt171.2 then (if (bt184.1 == bt175.1) = true then ((motleyref01_SameInts.f k bt184.2.1 bt175.2.1).bind fun t190 => (if t190 = true then (if bt184.2.2 = bt175.2.2 then ((motleylaw27_known.f).bind fun t191 => (some t191)) else (some false)) else (some false))) else (some false)) else (some false)) else (some false)))))))) = some r := h
  clear h
  by_cases c2 : (a0.size : Int) > 262144
  · rw [if_pos c2] at H
    have c2b0 : decide (262144 < (a0.size : Int)) = true := decide_eq_true c2
    have c2b1 : decide (262144 < a0.size) = true := decide_eq_true (by omega)
    clear c2
    replace H := Option.bind_eq_some_iff.mp H
    obtain ⟨t170, A30, H⟩ := H
    replace H : (some t170) = some r := H
    have A3 := Aside0.mk A30
    clear A30
    obtain rfl := Option.some.inj H
    go_enter Tryz.func3, Tryz.ntmps3
    go_wp2_with (first | ((with_reducible refine gate_callee (f := 6) rfl ?_); refine goesL_ (some 16) rfl rfl Tryz.func6 (by kernel_rfl) rfl #[] rfl (by (try simp only [List.map_toArray, List.map_cons, List.map_nil]); first | done | rfl | (simp only [List.length_drop, List.length_take]; rfl)) ?_; (with_reducible refine (motleylaw27_known.calls  t170 _ ?side1 A3.out).mono ?_); (case side1 => first | exact hL | exact LaidW.below hL (by repeat (first | (with_reducible first | exact HB.out | apply below_alloc | apply pw_below_drewN | apply below_drew1) | exact HB.out))); rintro e w4 ⟨rfl, hb⟩; refine ⟨_, rfl, ?_⟩; have n0_ := Aside0.mk (below_step (by repeat (first | (with_reducible first | exact HB.out | apply below_alloc | apply pw_below_drewN | apply below_drew1) | exact HB.out)) hb); clear HB; have HB := n0_; clear n0_; (try clear hb); (try clear hb2); (try clear hk); (try clear hi)))
    go_ret
    exact ⟨by first | rfl | (simp [errW_none, errW_some] <;> rfl) | (simp [*, errW_none, errW_some] <;> rfl), by repeat (first | (with_reducible first | exact HB.out | apply below_alloc | apply pw_below_drewN | apply below_drew1) | exact HB.out)⟩
  · rw [if_neg c2] at H
    have c2b0 : decide (262144 < (a0.size : Int)) = false := decide_eq_false c2
    have c2b1 : decide (262144 < a0.size) = false := decide_eq_false (by omega)
    clear c2
    replace H := Option.bind_eq_some_iff.mp H
    obtain ⟨⟨t171, t172⟩, A50, H⟩ := H
    replace H : ((motleyref27_Verdict.f k a0).bind fun bt175 => ((tap_Read.f a0).bind fun bt180 => ((tap_Verdict.f a0).bind fun bt184 => ((motleylaw27_same.f k bt180.1 t171).bind fun t189 => (if t189 = true then (if bt180.2 = t172 then (if (bt184.1 == bt175.1) = true then ((motleyref01_SameInts.f k bt184.2.1 bt175.2.1).bind fun t190 => (if t190 = true then (if bt184.2.2 = bt175.2.2 then ((motleylaw27_known.f).bind fun t191 => (some t191)) else (some false)) else (some false))) else (some false)) else (some false)) else (some false)))))) = some r := H
    have A5 := Aside0.mk A50
    clear A50
    replace H := Option.bind_eq_some_iff.mp H
    obtain ⟨⟨t175, t176, t177⟩, A60, H⟩ := H
    replace H : ((tap_Read.f a0).bind fun bt180 => ((tap_Verdict.f a0).bind fun bt184 => ((motleylaw27_same.f k bt180.1 t171).bind fun t189 => (if t189 = true then (if bt180.2 = t172 then (if (bt184.1 == t175) = true then ((motleyref01_SameInts.f k bt184.2.1 t176).bind fun t190 => (if t190 = true then (if bt184.2.2 = t177 then ((motleylaw27_known.f).bind fun t191 => (some t191)) else (some false)) else (some false))) else (some false)) else (some false)) else (some false))))) = some r := H
    have A6 := Aside0.mk A60
    clear A60
    replace H := Option.bind_eq_some_iff.mp H
    obtain ⟨⟨t180, t181⟩, A70, H⟩ := H
    replace H : ((tap_Verdict.f a0).bind fun bt184 => ((motleylaw27_same.f k t180 t171).bind fun t189 => (if t189 = true then (if t181 = t172 then (if (bt184.1 == t175) = true then ((motleyref01_SameInts.f k bt184.2.1 t176).bind fun t190 => (if t190 = true then (if bt184.2.2 = t177 then ((motleylaw27_known.f).bind fun t191 => (some t191)) else (some false)) else (some false))) else (some false)) else (some false)) else (some false)))) = some r := H
    have A7 := Aside0.mk A70
    clear A70
    replace H := Option.bind_eq_some_iff.mp H
    obtain ⟨⟨t184, t185, t186⟩, A80, H⟩ := H
    replace H : ((motleylaw27_same.f k t180 t171).bind fun t189 => (if t189 = true then (if t181 = t172 then (if (t184 == t175) = true then ((motleyref01_SameInts.f k t185 t176).bind fun t190 => (if t190 = true then (if t186 = t177 then ((motleylaw27_known.f).bind fun t191 => (some t191)) else (some false)) else (some false))) else (some false)) else (some false)) else (some false))) = some r := H
    have A8 := Aside0.mk A80
    clear A80
    replace H := Option.bind_eq_some_iff.mp H
    obtain ⟨t189, A90, H⟩ := H
    replace H : (if t189 = true then (if t181 = t172 then (if (t184 == t175) = true then ((motleyref01_SameInts.f k t185 t176).bind fun t190 => (if t190 = true then (if t186 = t177 then ((motleylaw27_known.f).bind fun t191 => (some t191)) else (some false)) else (some false))) else (some false)) else (some false)) else (some false)) = some r := H
    have A9 := Aside0.mk A90
    clear A90
    by_cases c10 : t189 = true
    · subst c10
      have H1 : (if t181 = t172 then (if (t184 == t175) = true then ((motleyref01_SameInts.f k t185 t176).bind fun t190 => (if t190 = true then (if t186 = t177 then ((motleylaw27_known.f).bind fun t191 => (some t191)) else (some false)) else (some false))) else (some false)) else (some false)) = some r := by rw [if_pos rfl] at H; exact H
      clear H
      have H := H1
      clear H1
      by_cases c11 : t181 = t172
      · rw [if_pos c11] at H
        have c11b0 : (t181 == t172) = true := beq_iff_eq.mpr c11
        have c11b1 : (t181 != t172) = false := bne_eq_false_iff_eq.mpr c11
        clear c11
        by_cases c12 : (t184 == t175) = true
        · rw [if_pos c12] at H
          have c12b0 : (t184 == t175) = true := c12
          (try (have c12b1 : decide (t184 = t175) = true := by simpa using c12))
          (try (have c12b2 : (t184 == t175) = true := by simpa using c12))
          clear c12
          replace H := Option.bind_eq_some_iff.mp H
          obtain ⟨t190, A130, H⟩ := H
          replace H : (if t190 = true then (if t186 = t177 then ((motleylaw27_known.f).bind fun t191 => (some t191)) else (some false)) else (some false)) = some r := H
          have A13 := Aside0.mk A130
          clear A130
          by_cases c14 : t190 = true
          · subst c14
            have H1 : (if t186 = t177 then ((motleylaw27_known.f).bind fun t191 => (some t191)) else (some false)) = some r := by rw [if_pos rfl] at H; exact H
            clear H
            have H := H1
            clear H1
            by_cases c15 : t186 = t177
            · rw [if_pos c15] at H
              have c15b0 : (t186 == t177) = true := beq_iff_eq.mpr c15
              have c15b1 : (t186 != t177) = false := bne_eq_false_iff_eq.mpr c15
              clear c15
              replace H := Option.bind_eq_some_iff.mp H
              obtain ⟨t191, A160, H⟩ := H
              replace H : (some t191) = some r := H
              have A16 := Aside0.mk A160
              clear A160
              obtain rfl := Option.some.inj H
              go_enter Tryz.func3, Tryz.ntmps3
              go_wp2_with (first | ((with_reducible refine gate_callee (f := 7) rfl ?_); refine goesL_ (some 19) rfl rfl Tryz.func7 (by kernel_rfl) rfl #[.string a0] rfl (by (try simp only [List.map_toArray, List.map_cons, List.map_nil]); first | done | rfl | (simp only [List.length_drop, List.length_take]; rfl)) ?_; (with_reducible refine (motleyref27_Read.calls k a0 t171 t172 _ A5.out).mono ?_); rintro e w17 ⟨v173, rfl, ho0, hb⟩; refine ⟨_, rfl, ?_⟩; have n0_ := Aside0.mk (Kd.R_lower ho0 (below_size (by repeat (first | (with_reducible first | exact HB.out | apply below_alloc | apply pw_below_drewN | apply below_drew1) | exact HB.out)))); have n1_ := Aside0.mk (below_step (by repeat (first | (with_reducible first | exact HB.out | apply below_alloc | apply pw_below_drewN | apply below_drew1) | exact HB.out)) hb); clear HB; have HO174 := n0_; have HB := n1_; clear n0_ n1_; (try clear hb); (try clear hb2); (try clear hk); (try clear hi); (try clear ho0)) | ((with_reducible refine gate_callee (f := 8) rfl ?_); refine goesL_ (some 24) rfl rfl Tryz.func8 (by kernel_rfl) rfl #[.string a0] rfl (by (try simp only [List.map_toArray, List.map_cons, List.map_nil]); first | done | rfl | (simp only [List.length_drop, List.length_take]; rfl)) ?_; (with_reducible refine (motleyref27_Verdict.calls k a0 t175 t176 t177 _ A6.out).mono ?_); rintro e w18 ⟨v178, rfl, ho0, hb⟩; refine ⟨_, rfl, ?_⟩; have n0_ := Aside0.mk (Kd.R_below (by (with_reducible repeat (first | apply Kd.R_alloc | apply Kd.R_drewN | apply Kd.R_drew)); exact HO174.out) hb); have n1_ := Aside0.mk (Kd.R_lower ho0 (below_size (by repeat (first | (with_reducible first | exact HB.out | apply below_alloc | apply pw_below_drewN | apply below_drew1) | exact HB.out)))); have n2_ := Aside0.mk (below_step (by repeat (first | (with_reducible first | exact HB.out | apply below_alloc | apply pw_below_drewN | apply below_drew1) | exact HB.out)) hb); clear HO174; clear HB; have HO174 := n0_; have HO179 := n1_; have HB := n2_; clear n0_ n1_ n2_; (try clear hb); (try clear hb2); (try clear hk); (try clear hi); (try clear ho0)) | ((with_reducible refine gate_callee (f := 9) rfl ?_); refine goesL_ (some 30) rfl rfl Tryz.func9 (by kernel_rfl) rfl #[.string a0] rfl (by (try simp only [List.map_toArray, List.map_cons, List.map_nil]); first | done | rfl | (simp only [List.length_drop, List.length_take]; rfl)) ?_; (with_reducible refine (tap_Read.calls a0 t180 t181 _ ?side1 A7.out).mono ?_); (case side1 => first | exact hL | exact LaidW.below hL (by repeat (first | (with_reducible first | exact HB.out | apply below_alloc | apply pw_below_drewN | apply below_drew1) | exact HB.out))); rintro e w19 ⟨v182, rfl, ho0, hb⟩; refine ⟨_, rfl, ?_⟩; have n0_ := Aside0.mk (Kd.R_below (by (with_reducible repeat (first | apply Kd.R_alloc | apply Kd.R_drewN | apply Kd.R_drew)); exact HO174.out) hb); have n1_ := Aside0.mk (Kd.R_below (by (with_reducible repeat (first | apply Kd.R_alloc | apply Kd.R_drewN | apply Kd.R_drew)); exact HO179.out) hb); have n2_ := Aside0.mk (Kd.R_lower ho0 (below_size (by repeat (first | (with_reducible first | exact HB.out | apply below_alloc | apply pw_below_drewN | apply below_drew1) | exact HB.out)))); have n3_ := Aside0.mk (below_step (by repeat (first | (with_reducible first | exact HB.out | apply below_alloc | apply pw_below_drewN | apply below_drew1) | exact HB.out)) hb); clear HO174; clear HO179; clear HB; have HO174 := n0_; have HO179 := n1_; have HO183 := n2_; have HB := n3_; clear n0_ n1_ n2_ n3_; (try clear hb); (try clear hb2); (try clear hk); (try clear hi); (try clear ho0)) | ((with_reducible refine gate_callee (f := 10) rfl ?_); refine goesL_ (some 35) rfl rfl Tryz.func10 (by kernel_rfl) rfl #[.string a0] rfl (by (try simp only [List.map_toArray, List.map_cons, List.map_nil]); first | done | rfl | (simp only [List.length_drop, List.length_take]; rfl)) ?_; (with_reducible refine (tap_Verdict.calls a0 t184 t185 t186 _ ?side1 A8.out).mono ?_); (case side1 => first | exact hL | exact LaidW.below hL (by repeat (first | (with_reducible first | exact HB.out | apply below_alloc | apply pw_below_drewN | apply below_drew1) | exact HB.out))); rintro e w20 ⟨v187, rfl, ho0, hb⟩; refine ⟨_, rfl, ?_⟩; have n0_ := Aside0.mk (Kd.R_below (by (with_reducible repeat (first | apply Kd.R_alloc | apply Kd.R_drewN | apply Kd.R_drew)); exact HO174.out) hb); have n1_ := Aside0.mk (Kd.R_elder' (by (with_reducible repeat (first | apply Kd.R_alloc | apply Kd.R_drewN | apply Kd.R_drew)); exact HO179.out) (Kd.R_base ho0) hb); have n2_ := Aside0.mk (Kd.R_below (by (with_reducible repeat (first | apply Kd.R_alloc | apply Kd.R_drewN | apply Kd.R_drew)); exact HO183.out) hb); have n3_ := Aside0.mk (Kd.R_lower (Kd.R_new' ho0 (Kd.R_lt (by (with_reducible repeat (first | apply Kd.R_alloc | apply Kd.R_drewN | apply Kd.R_drew)); exact HO179.out))) (below_size (by repeat (first | (with_reducible first | exact HB.out | apply below_alloc | apply pw_below_drewN | apply below_drew1) | exact HB.out)))); have n4_ := Aside0.mk (below_step (by repeat (first | (with_reducible first | exact HB.out | apply below_alloc | apply pw_below_drewN | apply below_drew1) | exact HB.out)) hb); clear HO174; clear HO179; clear HO183; clear HB; have HO174 := n0_; have HO179 := n1_; have HO183 := n2_; have HO188 := n3_; have HB := n4_; clear n0_ n1_ n2_ n3_ n4_; (try clear hb); (try clear hb2); (try clear hk); (try clear hi); (try clear ho0); obtain ⟨Ao21, co21, eo21⟩ := Kd.R_slice HO183.out; subst eo21; obtain ⟨Ao22, co22, eo22⟩ := Kd.R_slice HO174.out; subst eo22) | ((with_reducible refine gate_callee (f := 11) rfl ?_); refine goesL_ (some 41) rfl rfl Tryz.func11 (by kernel_rfl) rfl #[.slice Ao21 t180.length co21, .slice Ao22 t171.length co22] rfl (by (try simp only [List.map_toArray, List.map_cons, List.map_nil]); first | done | rfl | (simp only [List.length_drop, List.length_take]; rfl)) ?_; (with_reducible refine (motleylaw27_same.calls k _ _ t180 _ _ t171 true _ ?side1 ?side2 ?side3 ?side4 A9.out).mono ?_); (case side1 => repeat (first | exact (Kd.R_reads' HO183.out).2.2 | (with_reducible refine Kd.C_alloc ?_ _) | (with_reducible refine Kd.C_drewN ?_ _) | (with_reducible refine Kd.C_drew ?_))); (case side2 => exact (Kd.R_reads' HO183.out).2.1); (case side3 => repeat (first | exact (Kd.R_reads' HO174.out).2.2 | (with_reducible refine Kd.C_alloc ?_ _) | (with_reducible refine Kd.C_drewN ?_ _) | (with_reducible refine Kd.C_drew ?_))); (case side4 => exact (Kd.R_reads' HO174.out).2.1); rintro e w' ⟨rfl, ⟨nd, rfl⟩⟩; refine ⟨_, rfl, ?_⟩; obtain ⟨Ao23, co23, eo23⟩ := Kd.R_slice HO188.out; subst eo23; obtain ⟨Ao24, co24, eo24⟩ := Kd.R_slice HO179.out; subst eo24) | (go_at_call 12; (with_reducible refine (motleyref01_SameInts.calls k _ _ t185 _ _ t176 true _ ?side1 ?side2 ?side3 ?side4 A13.out).mono ?_); (case side1 => repeat (first | exact (Kd.R_reads' HO188.out).2.2 | (with_reducible refine Kd.C_alloc ?_ _) | (with_reducible refine Kd.C_drewN ?_ _) | (with_reducible refine Kd.C_drew ?_))); (case side2 => exact (Kd.R_reads' HO188.out).2.1); (case side3 => repeat (first | exact (Kd.R_reads' HO179.out).2.2 | (with_reducible refine Kd.C_alloc ?_ _) | (with_reducible refine Kd.C_drewN ?_ _) | (with_reducible refine Kd.C_drew ?_))); (case side4 => exact (Kd.R_reads' HO179.out).2.1); rintro e w' ⟨rfl, ⟨nd, rfl⟩⟩) | (go_at_call 6; (with_reducible refine (motleylaw27_known.calls  t191 _ ?side1 A16.out).mono ?_); (case side1 => first | exact hL | exact LaidW.below hL (by repeat (first | (with_reducible first | exact HB.out | apply below_alloc | apply pw_below_drewN | apply below_drew1) | exact HB.out))); rintro e w25 ⟨rfl, hb⟩; have n0_ := Aside0.mk (Kd.R_below (by (with_reducible repeat (first | apply Kd.R_alloc | apply Kd.R_drewN | apply Kd.R_drew)); exact HO174.out) hb); have n1_ := Aside0.mk (Kd.R_below (by (with_reducible repeat (first | apply Kd.R_alloc | apply Kd.R_drewN | apply Kd.R_drew)); exact HO179.out) hb); have n2_ := Aside0.mk (Kd.R_below (by (with_reducible repeat (first | apply Kd.R_alloc | apply Kd.R_drewN | apply Kd.R_drew)); exact HO183.out) hb); have n3_ := Aside0.mk (Kd.R_below (by (with_reducible repeat (first | apply Kd.R_alloc | apply Kd.R_drewN | apply Kd.R_drew)); exact HO188.out) hb); have n4_ := Aside0.mk (below_step (by repeat (first | (with_reducible first | exact HB.out | apply below_alloc | apply pw_below_drewN | apply below_drew1) | exact HB.out)) hb); clear HO174; clear HO179; clear HO183; clear HO188; clear HB; have HO174 := n0_; have HO179 := n1_; have HO183 := n2_; have HO188 := n3_; have HB := n4_; clear n0_ n1_ n2_ n3_ n4_; (try clear hb); (try clear hb2); (try clear hk); (try clear hi)))
              go_ret
              exact ⟨by first | rfl | (simp [errW_none, errW_some] <;> rfl) | (simp [*, errW_none, errW_some] <;> rfl), by repeat (first | (with_reducible first | exact HB.out | apply below_alloc | apply pw_below_drewN | apply below_drew1) | exact HB.out)⟩
            · rw [if_neg c15] at H
              have c15b0 : (t186 == t177) = false := beq_eq_false_iff_ne.mpr c15
              have c15b1 : (t186 != t177) = true := bne_iff_ne.mpr c15
              obtain rfl := Option.some.inj H
              go_enter Tryz.func3, Tryz.ntmps3
              go_wp2_with (first | ((with_reducible refine gate_callee (f := 7) rfl ?_); refine goesL_ (some 19) rfl rfl Tryz.func7 (by kernel_rfl) rfl #[.string a0] rfl (by (try simp only [List.map_toArray, List.map_cons, List.map_nil]); first | done | rfl | (simp only [List.length_drop, List.length_take]; rfl)) ?_; (with_reducible refine (motleyref27_Read.calls k a0 t171 t172 _ A5.out).mono ?_); rintro e w26 ⟨v173, rfl, ho0, hb⟩; refine ⟨_, rfl, ?_⟩; have n0_ := Aside0.mk (Kd.R_lower ho0 (below_size (by repeat (first | (with_reducible first | exact HB.out | apply below_alloc | apply pw_below_drewN | apply below_drew1) | exact HB.out)))); have n1_ := Aside0.mk (below_step (by repeat (first | (with_reducible first | exact HB.out | apply below_alloc | apply pw_below_drewN | apply below_drew1) | exact HB.out)) hb); clear HB; have HO174 := n0_; have HB := n1_; clear n0_ n1_; (try clear hb); (try clear hb2); (try clear hk); (try clear hi); (try clear ho0)) | ((with_reducible refine gate_callee (f := 8) rfl ?_); refine goesL_ (some 24) rfl rfl Tryz.func8 (by kernel_rfl) rfl #[.string a0] rfl (by (try simp only [List.map_toArray, List.map_cons, List.map_nil]); first | done | rfl | (simp only [List.length_drop, List.length_take]; rfl)) ?_; (with_reducible refine (motleyref27_Verdict.calls k a0 t175 t176 t177 _ A6.out).mono ?_); rintro e w27 ⟨v178, rfl, ho0, hb⟩; refine ⟨_, rfl, ?_⟩; have n0_ := Aside0.mk (Kd.R_below (by (with_reducible repeat (first | apply Kd.R_alloc | apply Kd.R_drewN | apply Kd.R_drew)); exact HO174.out) hb); have n1_ := Aside0.mk (Kd.R_lower ho0 (below_size (by repeat (first | (with_reducible first | exact HB.out | apply below_alloc | apply pw_below_drewN | apply below_drew1) | exact HB.out)))); have n2_ := Aside0.mk (below_step (by repeat (first | (with_reducible first | exact HB.out | apply below_alloc | apply pw_below_drewN | apply below_drew1) | exact HB.out)) hb); clear HO174; clear HB; have HO174 := n0_; have HO179 := n1_; have HB := n2_; clear n0_ n1_ n2_; (try clear hb); (try clear hb2); (try clear hk); (try clear hi); (try clear ho0)) | ((with_reducible refine gate_callee (f := 9) rfl ?_); refine goesL_ (some 30) rfl rfl Tryz.func9 (by kernel_rfl) rfl #[.string a0] rfl (by (try simp only [List.map_toArray, List.map_cons, List.map_nil]); first | done | rfl | (simp only [List.length_drop, List.length_take]; rfl)) ?_; (with_reducible refine (tap_Read.calls a0 t180 t181 _ ?side1 A7.out).mono ?_); (case side1 => first | exact hL | exact LaidW.below hL (by repeat (first | (with_reducible first | exact HB.out | apply below_alloc | apply pw_below_drewN | apply below_drew1) | exact HB.out))); rintro e w28 ⟨v182, rfl, ho0, hb⟩; refine ⟨_, rfl, ?_⟩; have n0_ := Aside0.mk (Kd.R_below (by (with_reducible repeat (first | apply Kd.R_alloc | apply Kd.R_drewN | apply Kd.R_drew)); exact HO174.out) hb); have n1_ := Aside0.mk (Kd.R_below (by (with_reducible repeat (first | apply Kd.R_alloc | apply Kd.R_drewN | apply Kd.R_drew)); exact HO179.out) hb); have n2_ := Aside0.mk (Kd.R_lower ho0 (below_size (by repeat (first | (with_reducible first | exact HB.out | apply below_alloc | apply pw_below_drewN | apply below_drew1) | exact HB.out)))); have n3_ := Aside0.mk (below_step (by repeat (first | (with_reducible first | exact HB.out | apply below_alloc | apply pw_below_drewN | apply below_drew1) | exact HB.out)) hb); clear HO174; clear HO179; clear HB; have HO174 := n0_; have HO179 := n1_; have HO183 := n2_; have HB := n3_; clear n0_ n1_ n2_ n3_; (try clear hb); (try clear hb2); (try clear hk); (try clear hi); (try clear ho0)) | ((with_reducible refine gate_callee (f := 10) rfl ?_); refine goesL_ (some 35) rfl rfl Tryz.func10 (by kernel_rfl) rfl #[.string a0] rfl (by (try simp only [List.map_toArray, List.map_cons, List.map_nil]); first | done | rfl | (simp only [List.length_drop, List.length_take]; rfl)) ?_; (with_reducible refine (tap_Verdict.calls a0 t184 t185 t186 _ ?side1 A8.out).mono ?_); (case side1 => first | exact hL | exact LaidW.below hL (by repeat (first | (with_reducible first | exact HB.out | apply below_alloc | apply pw_below_drewN | apply below_drew1) | exact HB.out))); rintro e w29 ⟨v187, rfl, ho0, hb⟩; refine ⟨_, rfl, ?_⟩; have n0_ := Aside0.mk (Kd.R_below (by (with_reducible repeat (first | apply Kd.R_alloc | apply Kd.R_drewN | apply Kd.R_drew)); exact HO174.out) hb); have n1_ := Aside0.mk (Kd.R_elder' (by (with_reducible repeat (first | apply Kd.R_alloc | apply Kd.R_drewN | apply Kd.R_drew)); exact HO179.out) (Kd.R_base ho0) hb); have n2_ := Aside0.mk (Kd.R_below (by (with_reducible repeat (first | apply Kd.R_alloc | apply Kd.R_drewN | apply Kd.R_drew)); exact HO183.out) hb); have n3_ := Aside0.mk (Kd.R_lower (Kd.R_new' ho0 (Kd.R_lt (by (with_reducible repeat (first | apply Kd.R_alloc | apply Kd.R_drewN | apply Kd.R_drew)); exact HO179.out))) (below_size (by repeat (first | (with_reducible first | exact HB.out | apply below_alloc | apply pw_below_drewN | apply below_drew1) | exact HB.out)))); have n4_ := Aside0.mk (below_step (by repeat (first | (with_reducible first | exact HB.out | apply below_alloc | apply pw_below_drewN | apply below_drew1) | exact HB.out)) hb); clear HO174; clear HO179; clear HO183; clear HB; have HO174 := n0_; have HO179 := n1_; have HO183 := n2_; have HO188 := n3_; have HB := n4_; clear n0_ n1_ n2_ n3_ n4_; (try clear hb); (try clear hb2); (try clear hk); (try clear hi); (try clear ho0); obtain ⟨Ao30, co30, eo30⟩ := Kd.R_slice HO183.out; subst eo30; obtain ⟨Ao31, co31, eo31⟩ := Kd.R_slice HO174.out; subst eo31) | ((with_reducible refine gate_callee (f := 11) rfl ?_); refine goesL_ (some 41) rfl rfl Tryz.func11 (by kernel_rfl) rfl #[.slice Ao30 t180.length co30, .slice Ao31 t171.length co31] rfl (by (try simp only [List.map_toArray, List.map_cons, List.map_nil]); first | done | rfl | (simp only [List.length_drop, List.length_take]; rfl)) ?_; (with_reducible refine (motleylaw27_same.calls k _ _ t180 _ _ t171 true _ ?side1 ?side2 ?side3 ?side4 A9.out).mono ?_); (case side1 => repeat (first | exact (Kd.R_reads' HO183.out).2.2 | (with_reducible refine Kd.C_alloc ?_ _) | (with_reducible refine Kd.C_drewN ?_ _) | (with_reducible refine Kd.C_drew ?_))); (case side2 => exact (Kd.R_reads' HO183.out).2.1); (case side3 => repeat (first | exact (Kd.R_reads' HO174.out).2.2 | (with_reducible refine Kd.C_alloc ?_ _) | (with_reducible refine Kd.C_drewN ?_ _) | (with_reducible refine Kd.C_drew ?_))); (case side4 => exact (Kd.R_reads' HO174.out).2.1); rintro e w' ⟨rfl, ⟨nd, rfl⟩⟩; refine ⟨_, rfl, ?_⟩; obtain ⟨Ao32, co32, eo32⟩ := Kd.R_slice HO188.out; subst eo32; obtain ⟨Ao33, co33, eo33⟩ := Kd.R_slice HO179.out; subst eo33) | (go_at_call 12; (with_reducible refine (motleyref01_SameInts.calls k _ _ t185 _ _ t176 true _ ?side1 ?side2 ?side3 ?side4 A13.out).mono ?_); (case side1 => repeat (first | exact (Kd.R_reads' HO188.out).2.2 | (with_reducible refine Kd.C_alloc ?_ _) | (with_reducible refine Kd.C_drewN ?_ _) | (with_reducible refine Kd.C_drew ?_))); (case side2 => exact (Kd.R_reads' HO188.out).2.1); (case side3 => repeat (first | exact (Kd.R_reads' HO179.out).2.2 | (with_reducible refine Kd.C_alloc ?_ _) | (with_reducible refine Kd.C_drewN ?_ _) | (with_reducible refine Kd.C_drew ?_))); (case side4 => exact (Kd.R_reads' HO179.out).2.1); rintro e w' ⟨rfl, ⟨nd, rfl⟩⟩))
              go_ret
              exact ⟨by first | rfl | (simp [errW_none, errW_some] <;> rfl) | (simp [*, errW_none, errW_some] <;> rfl), by repeat (first | (with_reducible first | exact HB.out | apply below_alloc | apply pw_below_drewN | apply below_drew1) | exact HB.out)⟩
          · replace c14 := Bool.eq_false_iff.mpr c14
            subst c14
            have H1 : (some false) = some r := by rw [if_neg (show ¬ (false = true) by decide)] at H; exact H
            clear H
            have H := H1
            clear H1
            obtain rfl := Option.some.inj H
            go_enter Tryz.func3, Tryz.ntmps3
            go_wp2_with (first | ((with_reducible refine gate_callee (f := 7) rfl ?_); refine goesL_ (some 19) rfl rfl Tryz.func7 (by kernel_rfl) rfl #[.string a0] rfl (by (try simp only [List.map_toArray, List.map_cons, List.map_nil]); first | done | rfl | (simp only [List.length_drop, List.length_take]; rfl)) ?_; (with_reducible refine (motleyref27_Read.calls k a0 t171 t172 _ A5.out).mono ?_); rintro e w34 ⟨v173, rfl, ho0, hb⟩; refine ⟨_, rfl, ?_⟩; have n0_ := Aside0.mk (Kd.R_lower ho0 (below_size (by repeat (first | (with_reducible first | exact HB.out | apply below_alloc | apply pw_below_drewN | apply below_drew1) | exact HB.out)))); have n1_ := Aside0.mk (below_step (by repeat (first | (with_reducible first | exact HB.out | apply below_alloc | apply pw_below_drewN | apply below_drew1) | exact HB.out)) hb); clear HB; have HO174 := n0_; have HB := n1_; clear n0_ n1_; (try clear hb); (try clear hb2); (try clear hk); (try clear hi); (try clear ho0)) | ((with_reducible refine gate_callee (f := 8) rfl ?_); refine goesL_ (some 24) rfl rfl Tryz.func8 (by kernel_rfl) rfl #[.string a0] rfl (by (try simp only [List.map_toArray, List.map_cons, List.map_nil]); first | done | rfl | (simp only [List.length_drop, List.length_take]; rfl)) ?_; (with_reducible refine (motleyref27_Verdict.calls k a0 t175 t176 t177 _ A6.out).mono ?_); rintro e w35 ⟨v178, rfl, ho0, hb⟩; refine ⟨_, rfl, ?_⟩; have n0_ := Aside0.mk (Kd.R_below (by (with_reducible repeat (first | apply Kd.R_alloc | apply Kd.R_drewN | apply Kd.R_drew)); exact HO174.out) hb); have n1_ := Aside0.mk (Kd.R_lower ho0 (below_size (by repeat (first | (with_reducible first | exact HB.out | apply below_alloc | apply pw_below_drewN | apply below_drew1) | exact HB.out)))); have n2_ := Aside0.mk (below_step (by repeat (first | (with_reducible first | exact HB.out | apply below_alloc | apply pw_below_drewN | apply below_drew1) | exact HB.out)) hb); clear HO174; clear HB; have HO174 := n0_; have HO179 := n1_; have HB := n2_; clear n0_ n1_ n2_; (try clear hb); (try clear hb2); (try clear hk); (try clear hi); (try clear ho0)) | ((with_reducible refine gate_callee (f := 9) rfl ?_); refine goesL_ (some 30) rfl rfl Tryz.func9 (by kernel_rfl) rfl #[.string a0] rfl (by (try simp only [List.map_toArray, List.map_cons, List.map_nil]); first | done | rfl | (simp only [List.length_drop, List.length_take]; rfl)) ?_; (with_reducible refine (tap_Read.calls a0 t180 t181 _ ?side1 A7.out).mono ?_); (case side1 => first | exact hL | exact LaidW.below hL (by repeat (first | (with_reducible first | exact HB.out | apply below_alloc | apply pw_below_drewN | apply below_drew1) | exact HB.out))); rintro e w36 ⟨v182, rfl, ho0, hb⟩; refine ⟨_, rfl, ?_⟩; have n0_ := Aside0.mk (Kd.R_below (by (with_reducible repeat (first | apply Kd.R_alloc | apply Kd.R_drewN | apply Kd.R_drew)); exact HO174.out) hb); have n1_ := Aside0.mk (Kd.R_below (by (with_reducible repeat (first | apply Kd.R_alloc | apply Kd.R_drewN | apply Kd.R_drew)); exact HO179.out) hb); have n2_ := Aside0.mk (Kd.R_lower ho0 (below_size (by repeat (first | (with_reducible first | exact HB.out | apply below_alloc | apply pw_below_drewN | apply below_drew1) | exact HB.out)))); have n3_ := Aside0.mk (below_step (by repeat (first | (with_reducible first | exact HB.out | apply below_alloc | apply pw_below_drewN | apply below_drew1) | exact HB.out)) hb); clear HO174; clear HO179; clear HB; have HO174 := n0_; have HO179 := n1_; have HO183 := n2_; have HB := n3_; clear n0_ n1_ n2_ n3_; (try clear hb); (try clear hb2); (try clear hk); (try clear hi); (try clear ho0)) | ((with_reducible refine gate_callee (f := 10) rfl ?_); refine goesL_ (some 35) rfl rfl Tryz.func10 (by kernel_rfl) rfl #[.string a0] rfl (by (try simp only [List.map_toArray, List.map_cons, List.map_nil]); first | done | rfl | (simp only [List.length_drop, List.length_take]; rfl)) ?_; (with_reducible refine (tap_Verdict.calls a0 t184 t185 t186 _ ?side1 A8.out).mono ?_); (case side1 => first | exact hL | exact LaidW.below hL (by repeat (first | (with_reducible first | exact HB.out | apply below_alloc | apply pw_below_drewN | apply below_drew1) | exact HB.out))); rintro e w37 ⟨v187, rfl, ho0, hb⟩; refine ⟨_, rfl, ?_⟩; have n0_ := Aside0.mk (Kd.R_below (by (with_reducible repeat (first | apply Kd.R_alloc | apply Kd.R_drewN | apply Kd.R_drew)); exact HO174.out) hb); have n1_ := Aside0.mk (Kd.R_elder' (by (with_reducible repeat (first | apply Kd.R_alloc | apply Kd.R_drewN | apply Kd.R_drew)); exact HO179.out) (Kd.R_base ho0) hb); have n2_ := Aside0.mk (Kd.R_below (by (with_reducible repeat (first | apply Kd.R_alloc | apply Kd.R_drewN | apply Kd.R_drew)); exact HO183.out) hb); have n3_ := Aside0.mk (Kd.R_lower (Kd.R_new' ho0 (Kd.R_lt (by (with_reducible repeat (first | apply Kd.R_alloc | apply Kd.R_drewN | apply Kd.R_drew)); exact HO179.out))) (below_size (by repeat (first | (with_reducible first | exact HB.out | apply below_alloc | apply pw_below_drewN | apply below_drew1) | exact HB.out)))); have n4_ := Aside0.mk (below_step (by repeat (first | (with_reducible first | exact HB.out | apply below_alloc | apply pw_below_drewN | apply below_drew1) | exact HB.out)) hb); clear HO174; clear HO179; clear HO183; clear HB; have HO174 := n0_; have HO179 := n1_; have HO183 := n2_; have HO188 := n3_; have HB := n4_; clear n0_ n1_ n2_ n3_ n4_; (try clear hb); (try clear hb2); (try clear hk); (try clear hi); (try clear ho0); obtain ⟨Ao38, co38, eo38⟩ := Kd.R_slice HO183.out; subst eo38; obtain ⟨Ao39, co39, eo39⟩ := Kd.R_slice HO174.out; subst eo39) | ((with_reducible refine gate_callee (f := 11) rfl ?_); refine goesL_ (some 41) rfl rfl Tryz.func11 (by kernel_rfl) rfl #[.slice Ao38 t180.length co38, .slice Ao39 t171.length co39] rfl (by (try simp only [List.map_toArray, List.map_cons, List.map_nil]); first | done | rfl | (simp only [List.length_drop, List.length_take]; rfl)) ?_; (with_reducible refine (motleylaw27_same.calls k _ _ t180 _ _ t171 true _ ?side1 ?side2 ?side3 ?side4 A9.out).mono ?_); (case side1 => repeat (first | exact (Kd.R_reads' HO183.out).2.2 | (with_reducible refine Kd.C_alloc ?_ _) | (with_reducible refine Kd.C_drewN ?_ _) | (with_reducible refine Kd.C_drew ?_))); (case side2 => exact (Kd.R_reads' HO183.out).2.1); (case side3 => repeat (first | exact (Kd.R_reads' HO174.out).2.2 | (with_reducible refine Kd.C_alloc ?_ _) | (with_reducible refine Kd.C_drewN ?_ _) | (with_reducible refine Kd.C_drew ?_))); (case side4 => exact (Kd.R_reads' HO174.out).2.1); rintro e w' ⟨rfl, ⟨nd, rfl⟩⟩; refine ⟨_, rfl, ?_⟩; obtain ⟨Ao40, co40, eo40⟩ := Kd.R_slice HO188.out; subst eo40; obtain ⟨Ao41, co41, eo41⟩ := Kd.R_slice HO179.out; subst eo41) | (go_at_call 12; (with_reducible refine (motleyref01_SameInts.calls k _ _ t185 _ _ t176 false _ ?side1 ?side2 ?side3 ?side4 A13.out).mono ?_); (case side1 => repeat (first | exact (Kd.R_reads' HO188.out).2.2 | (with_reducible refine Kd.C_alloc ?_ _) | (with_reducible refine Kd.C_drewN ?_ _) | (with_reducible refine Kd.C_drew ?_))); (case side2 => exact (Kd.R_reads' HO188.out).2.1); (case side3 => repeat (first | exact (Kd.R_reads' HO179.out).2.2 | (with_reducible refine Kd.C_alloc ?_ _) | (with_reducible refine Kd.C_drewN ?_ _) | (with_reducible refine Kd.C_drew ?_))); (case side4 => exact (Kd.R_reads' HO179.out).2.1); rintro e w' ⟨rfl, ⟨nd, rfl⟩⟩))
            go_ret
            exact ⟨by first | rfl | (simp [errW_none, errW_some] <;> rfl) | (simp [*, errW_none, errW_some] <;> rfl), by repeat (first | (with_reducible first | exact HB.out | apply below_alloc | apply pw_below_drewN | apply below_drew1) | exact HB.out)⟩
        · rw [if_neg c12] at H
          have c12b0 : (t184 == t175) = false := by simpa using c12
          (try (have c12b1 : decide (t184 = t175) = false := by simpa using c12))
          (try (have c12b2 : (t184 == t175) = false := by simpa using c12))
          (try (have c12b3 : ¬ (t184 = t175) := by simpa using c12))
          clear c12
          obtain rfl := Option.some.inj H
          go_enter Tryz.func3, Tryz.ntmps3
          go_wp2_with (first | ((with_reducible refine gate_callee (f := 7) rfl ?_); refine goesL_ (some 19) rfl rfl Tryz.func7 (by kernel_rfl) rfl #[.string a0] rfl (by (try simp only [List.map_toArray, List.map_cons, List.map_nil]); first | done | rfl | (simp only [List.length_drop, List.length_take]; rfl)) ?_; (with_reducible refine (motleyref27_Read.calls k a0 t171 t172 _ A5.out).mono ?_); rintro e w42 ⟨v173, rfl, ho0, hb⟩; refine ⟨_, rfl, ?_⟩; have n0_ := Aside0.mk (Kd.R_lower ho0 (below_size (by repeat (first | (with_reducible first | exact HB.out | apply below_alloc | apply pw_below_drewN | apply below_drew1) | exact HB.out)))); have n1_ := Aside0.mk (below_step (by repeat (first | (with_reducible first | exact HB.out | apply below_alloc | apply pw_below_drewN | apply below_drew1) | exact HB.out)) hb); clear HB; have HO174 := n0_; have HB := n1_; clear n0_ n1_; (try clear hb); (try clear hb2); (try clear hk); (try clear hi); (try clear ho0)) | ((with_reducible refine gate_callee (f := 8) rfl ?_); refine goesL_ (some 24) rfl rfl Tryz.func8 (by kernel_rfl) rfl #[.string a0] rfl (by (try simp only [List.map_toArray, List.map_cons, List.map_nil]); first | done | rfl | (simp only [List.length_drop, List.length_take]; rfl)) ?_; (with_reducible refine (motleyref27_Verdict.calls k a0 t175 t176 t177 _ A6.out).mono ?_); rintro e w43 ⟨v178, rfl, ho0, hb⟩; refine ⟨_, rfl, ?_⟩; have n0_ := Aside0.mk (Kd.R_below (by (with_reducible repeat (first | apply Kd.R_alloc | apply Kd.R_drewN | apply Kd.R_drew)); exact HO174.out) hb); have n1_ := Aside0.mk (Kd.R_lower ho0 (below_size (by repeat (first | (with_reducible first | exact HB.out | apply below_alloc | apply pw_below_drewN | apply below_drew1) | exact HB.out)))); have n2_ := Aside0.mk (below_step (by repeat (first | (with_reducible first | exact HB.out | apply below_alloc | apply pw_below_drewN | apply below_drew1) | exact HB.out)) hb); clear HO174; clear HB; have HO174 := n0_; have HO179 := n1_; have HB := n2_; clear n0_ n1_ n2_; (try clear hb); (try clear hb2); (try clear hk); (try clear hi); (try clear ho0)) | ((with_reducible refine gate_callee (f := 9) rfl ?_); refine goesL_ (some 30) rfl rfl Tryz.func9 (by kernel_rfl) rfl #[.string a0] rfl (by (try simp only [List.map_toArray, List.map_cons, List.map_nil]); first | done | rfl | (simp only [List.length_drop, List.length_take]; rfl)) ?_; (with_reducible refine (tap_Read.calls a0 t180 t181 _ ?side1 A7.out).mono ?_); (case side1 => first | exact hL | exact LaidW.below hL (by repeat (first | (with_reducible first | exact HB.out | apply below_alloc | apply pw_below_drewN | apply below_drew1) | exact HB.out))); rintro e w44 ⟨v182, rfl, ho0, hb⟩; refine ⟨_, rfl, ?_⟩; have n0_ := Aside0.mk (Kd.R_below (by (with_reducible repeat (first | apply Kd.R_alloc | apply Kd.R_drewN | apply Kd.R_drew)); exact HO174.out) hb); have n1_ := Aside0.mk (Kd.R_below (by (with_reducible repeat (first | apply Kd.R_alloc | apply Kd.R_drewN | apply Kd.R_drew)); exact HO179.out) hb); have n2_ := Aside0.mk (Kd.R_lower ho0 (below_size (by repeat (first | (with_reducible first | exact HB.out | apply below_alloc | apply pw_below_drewN | apply below_drew1) | exact HB.out)))); have n3_ := Aside0.mk (below_step (by repeat (first | (with_reducible first | exact HB.out | apply below_alloc | apply pw_below_drewN | apply below_drew1) | exact HB.out)) hb); clear HO174; clear HO179; clear HB; have HO174 := n0_; have HO179 := n1_; have HO183 := n2_; have HB := n3_; clear n0_ n1_ n2_ n3_; (try clear hb); (try clear hb2); (try clear hk); (try clear hi); (try clear ho0)) | ((with_reducible refine gate_callee (f := 10) rfl ?_); refine goesL_ (some 35) rfl rfl Tryz.func10 (by kernel_rfl) rfl #[.string a0] rfl (by (try simp only [List.map_toArray, List.map_cons, List.map_nil]); first | done | rfl | (simp only [List.length_drop, List.length_take]; rfl)) ?_; (with_reducible refine (tap_Verdict.calls a0 t184 t185 t186 _ ?side1 A8.out).mono ?_); (case side1 => first | exact hL | exact LaidW.below hL (by repeat (first | (with_reducible first | exact HB.out | apply below_alloc | apply pw_below_drewN | apply below_drew1) | exact HB.out))); rintro e w45 ⟨v187, rfl, ho0, hb⟩; refine ⟨_, rfl, ?_⟩; have n0_ := Aside0.mk (Kd.R_below (by (with_reducible repeat (first | apply Kd.R_alloc | apply Kd.R_drewN | apply Kd.R_drew)); exact HO174.out) hb); have n1_ := Aside0.mk (Kd.R_elder' (by (with_reducible repeat (first | apply Kd.R_alloc | apply Kd.R_drewN | apply Kd.R_drew)); exact HO179.out) (Kd.R_base ho0) hb); have n2_ := Aside0.mk (Kd.R_below (by (with_reducible repeat (first | apply Kd.R_alloc | apply Kd.R_drewN | apply Kd.R_drew)); exact HO183.out) hb); have n3_ := Aside0.mk (Kd.R_lower (Kd.R_new' ho0 (Kd.R_lt (by (with_reducible repeat (first | apply Kd.R_alloc | apply Kd.R_drewN | apply Kd.R_drew)); exact HO179.out))) (below_size (by repeat (first | (with_reducible first | exact HB.out | apply below_alloc | apply pw_below_drewN | apply below_drew1) | exact HB.out)))); have n4_ := Aside0.mk (below_step (by repeat (first | (with_reducible first | exact HB.out | apply below_alloc | apply pw_below_drewN | apply below_drew1) | exact HB.out)) hb); clear HO174; clear HO179; clear HO183; clear HB; have HO174 := n0_; have HO179 := n1_; have HO183 := n2_; have HO188 := n3_; have HB := n4_; clear n0_ n1_ n2_ n3_ n4_; (try clear hb); (try clear hb2); (try clear hk); (try clear hi); (try clear ho0); obtain ⟨Ao46, co46, eo46⟩ := Kd.R_slice HO183.out; subst eo46; obtain ⟨Ao47, co47, eo47⟩ := Kd.R_slice HO174.out; subst eo47) | ((with_reducible refine gate_callee (f := 11) rfl ?_); refine goesL_ (some 41) rfl rfl Tryz.func11 (by kernel_rfl) rfl #[.slice Ao46 t180.length co46, .slice Ao47 t171.length co47] rfl (by (try simp only [List.map_toArray, List.map_cons, List.map_nil]); first | done | rfl | (simp only [List.length_drop, List.length_take]; rfl)) ?_; (with_reducible refine (motleylaw27_same.calls k _ _ t180 _ _ t171 true _ ?side1 ?side2 ?side3 ?side4 A9.out).mono ?_); (case side1 => repeat (first | exact (Kd.R_reads' HO183.out).2.2 | (with_reducible refine Kd.C_alloc ?_ _) | (with_reducible refine Kd.C_drewN ?_ _) | (with_reducible refine Kd.C_drew ?_))); (case side2 => exact (Kd.R_reads' HO183.out).2.1); (case side3 => repeat (first | exact (Kd.R_reads' HO174.out).2.2 | (with_reducible refine Kd.C_alloc ?_ _) | (with_reducible refine Kd.C_drewN ?_ _) | (with_reducible refine Kd.C_drew ?_))); (case side4 => exact (Kd.R_reads' HO174.out).2.1); rintro e w' ⟨rfl, ⟨nd, rfl⟩⟩; refine ⟨_, rfl, ?_⟩))
          go_ret
          exact ⟨by first | rfl | (simp [errW_none, errW_some] <;> rfl) | (simp [*, errW_none, errW_some] <;> rfl), by repeat (first | (with_reducible first | exact HB.out | apply below_alloc | apply pw_below_drewN | apply below_drew1) | exact HB.out)⟩
      · rw [if_neg c11] at H
        have c11b0 : (t181 == t172) = false := beq_eq_false_iff_ne.mpr c11
        have c11b1 : (t181 != t172) = true := bne_iff_ne.mpr c11
        obtain rfl := Option.some.inj H
        go_enter Tryz.func3, Tryz.ntmps3
        go_wp2_with (first | ((with_reducible refine gate_callee (f := 7) rfl ?_); refine goesL_ (some 19) rfl rfl Tryz.func7 (by kernel_rfl) rfl #[.string a0] rfl (by (try simp only [List.map_toArray, List.map_cons, List.map_nil]); first | done | rfl | (simp only [List.length_drop, List.length_take]; rfl)) ?_; (with_reducible refine (motleyref27_Read.calls k a0 t171 t172 _ A5.out).mono ?_); rintro e w48 ⟨v173, rfl, ho0, hb⟩; refine ⟨_, rfl, ?_⟩; have n0_ := Aside0.mk (Kd.R_lower ho0 (below_size (by repeat (first | (with_reducible first | exact HB.out | apply below_alloc | apply pw_below_drewN | apply below_drew1) | exact HB.out)))); have n1_ := Aside0.mk (below_step (by repeat (first | (with_reducible first | exact HB.out | apply below_alloc | apply pw_below_drewN | apply below_drew1) | exact HB.out)) hb); clear HB; have HO174 := n0_; have HB := n1_; clear n0_ n1_; (try clear hb); (try clear hb2); (try clear hk); (try clear hi); (try clear ho0)) | ((with_reducible refine gate_callee (f := 8) rfl ?_); refine goesL_ (some 24) rfl rfl Tryz.func8 (by kernel_rfl) rfl #[.string a0] rfl (by (try simp only [List.map_toArray, List.map_cons, List.map_nil]); first | done | rfl | (simp only [List.length_drop, List.length_take]; rfl)) ?_; (with_reducible refine (motleyref27_Verdict.calls k a0 t175 t176 t177 _ A6.out).mono ?_); rintro e w49 ⟨v178, rfl, ho0, hb⟩; refine ⟨_, rfl, ?_⟩; have n0_ := Aside0.mk (Kd.R_below (by (with_reducible repeat (first | apply Kd.R_alloc | apply Kd.R_drewN | apply Kd.R_drew)); exact HO174.out) hb); have n1_ := Aside0.mk (Kd.R_lower ho0 (below_size (by repeat (first | (with_reducible first | exact HB.out | apply below_alloc | apply pw_below_drewN | apply below_drew1) | exact HB.out)))); have n2_ := Aside0.mk (below_step (by repeat (first | (with_reducible first | exact HB.out | apply below_alloc | apply pw_below_drewN | apply below_drew1) | exact HB.out)) hb); clear HO174; clear HB; have HO174 := n0_; have HO179 := n1_; have HB := n2_; clear n0_ n1_ n2_; (try clear hb); (try clear hb2); (try clear hk); (try clear hi); (try clear ho0)) | ((with_reducible refine gate_callee (f := 9) rfl ?_); refine goesL_ (some 30) rfl rfl Tryz.func9 (by kernel_rfl) rfl #[.string a0] rfl (by (try simp only [List.map_toArray, List.map_cons, List.map_nil]); first | done | rfl | (simp only [List.length_drop, List.length_take]; rfl)) ?_; (with_reducible refine (tap_Read.calls a0 t180 t181 _ ?side1 A7.out).mono ?_); (case side1 => first | exact hL | exact LaidW.below hL (by repeat (first | (with_reducible first | exact HB.out | apply below_alloc | apply pw_below_drewN | apply below_drew1) | exact HB.out))); rintro e w50 ⟨v182, rfl, ho0, hb⟩; refine ⟨_, rfl, ?_⟩; have n0_ := Aside0.mk (Kd.R_below (by (with_reducible repeat (first | apply Kd.R_alloc | apply Kd.R_drewN | apply Kd.R_drew)); exact HO174.out) hb); have n1_ := Aside0.mk (Kd.R_below (by (with_reducible repeat (first | apply Kd.R_alloc | apply Kd.R_drewN | apply Kd.R_drew)); exact HO179.out) hb); have n2_ := Aside0.mk (Kd.R_lower ho0 (below_size (by repeat (first | (with_reducible first | exact HB.out | apply below_alloc | apply pw_below_drewN | apply below_drew1) | exact HB.out)))); have n3_ := Aside0.mk (below_step (by repeat (first | (with_reducible first | exact HB.out | apply below_alloc | apply pw_below_drewN | apply below_drew1) | exact HB.out)) hb); clear HO174; clear HO179; clear HB; have HO174 := n0_; have HO179 := n1_; have HO183 := n2_; have HB := n3_; clear n0_ n1_ n2_ n3_; (try clear hb); (try clear hb2); (try clear hk); (try clear hi); (try clear ho0)) | ((with_reducible refine gate_callee (f := 10) rfl ?_); refine goesL_ (some 35) rfl rfl Tryz.func10 (by kernel_rfl) rfl #[.string a0] rfl (by (try simp only [List.map_toArray, List.map_cons, List.map_nil]); first | done | rfl | (simp only [List.length_drop, List.length_take]; rfl)) ?_; (with_reducible refine (tap_Verdict.calls a0 t184 t185 t186 _ ?side1 A8.out).mono ?_); (case side1 => first | exact hL | exact LaidW.below hL (by repeat (first | (with_reducible first | exact HB.out | apply below_alloc | apply pw_below_drewN | apply below_drew1) | exact HB.out))); rintro e w51 ⟨v187, rfl, ho0, hb⟩; refine ⟨_, rfl, ?_⟩; have n0_ := Aside0.mk (Kd.R_below (by (with_reducible repeat (first | apply Kd.R_alloc | apply Kd.R_drewN | apply Kd.R_drew)); exact HO174.out) hb); have n1_ := Aside0.mk (Kd.R_elder' (by (with_reducible repeat (first | apply Kd.R_alloc | apply Kd.R_drewN | apply Kd.R_drew)); exact HO179.out) (Kd.R_base ho0) hb); have n2_ := Aside0.mk (Kd.R_below (by (with_reducible repeat (first | apply Kd.R_alloc | apply Kd.R_drewN | apply Kd.R_drew)); exact HO183.out) hb); have n3_ := Aside0.mk (Kd.R_lower (Kd.R_new' ho0 (Kd.R_lt (by (with_reducible repeat (first | apply Kd.R_alloc | apply Kd.R_drewN | apply Kd.R_drew)); exact HO179.out))) (below_size (by repeat (first | (with_reducible first | exact HB.out | apply below_alloc | apply pw_below_drewN | apply below_drew1) | exact HB.out)))); have n4_ := Aside0.mk (below_step (by repeat (first | (with_reducible first | exact HB.out | apply below_alloc | apply pw_below_drewN | apply below_drew1) | exact HB.out)) hb); clear HO174; clear HO179; clear HO183; clear HB; have HO174 := n0_; have HO179 := n1_; have HO183 := n2_; have HO188 := n3_; have HB := n4_; clear n0_ n1_ n2_ n3_ n4_; (try clear hb); (try clear hb2); (try clear hk); (try clear hi); (try clear ho0); obtain ⟨Ao52, co52, eo52⟩ := Kd.R_slice HO183.out; subst eo52; obtain ⟨Ao53, co53, eo53⟩ := Kd.R_slice HO174.out; subst eo53) | ((with_reducible refine gate_callee (f := 11) rfl ?_); refine goesL_ (some 41) rfl rfl Tryz.func11 (by kernel_rfl) rfl #[.slice Ao52 t180.length co52, .slice Ao53 t171.length co53] rfl (by (try simp only [List.map_toArray, List.map_cons, List.map_nil]); first | done | rfl | (simp only [List.length_drop, List.length_take]; rfl)) ?_; (with_reducible refine (motleylaw27_same.calls k _ _ t180 _ _ t171 true _ ?side1 ?side2 ?side3 ?side4 A9.out).mono ?_); (case side1 => repeat (first | exact (Kd.R_reads' HO183.out).2.2 | (with_reducible refine Kd.C_alloc ?_ _) | (with_reducible refine Kd.C_drewN ?_ _) | (with_reducible refine Kd.C_drew ?_))); (case side2 => exact (Kd.R_reads' HO183.out).2.1); (case side3 => repeat (first | exact (Kd.R_reads' HO174.out).2.2 | (with_reducible refine Kd.C_alloc ?_ _) | (with_reducible refine Kd.C_drewN ?_ _) | (with_reducible refine Kd.C_drew ?_))); (case side4 => exact (Kd.R_reads' HO174.out).2.1); rintro e w' ⟨rfl, ⟨nd, rfl⟩⟩; refine ⟨_, rfl, ?_⟩))
        go_ret
        exact ⟨by first | rfl | (simp [errW_none, errW_some] <;> rfl) | (simp [*, errW_none, errW_some] <;> rfl), by repeat (first | (with_reducible first | exact HB.out | apply below_alloc | apply pw_below_drewN | apply below_drew1) | exact HB.out)⟩
    · replace c10 := Bool.eq_false_iff.mpr c10
      subst c10
      have H1 : (some false) = some r := by rw [if_neg (show ¬ (false = true) by decide)] at H; exact H
      clear H
      have H := H1
      clear H1
      obtain rfl := Option.some.inj H
      go_enter Tryz.func3, Tryz.ntmps3
      go_wp2_with (first | ((with_reducible refine gate_callee (f := 7) rfl ?_); refine goesL_ (some 19) rfl rfl Tryz.func7 (by kernel_rfl) rfl #[.string a0] rfl (by (try simp only [List.map_toArray, List.map_cons, List.map_nil]); first | done | rfl | (simp only [List.length_drop, List.length_take]; rfl)) ?_; (with_reducible refine (motleyref27_Read.calls k a0 t171 t172 _ A5.out).mono ?_); rintro e w54 ⟨v173, rfl, ho0, hb⟩; refine ⟨_, rfl, ?_⟩; have n0_ := Aside0.mk (Kd.R_lower ho0 (below_size (by repeat (first | (with_reducible first | exact HB.out | apply below_alloc | apply pw_below_drewN | apply below_drew1) | exact HB.out)))); have n1_ := Aside0.mk (below_step (by repeat (first | (with_reducible first | exact HB.out | apply below_alloc | apply pw_below_drewN | apply below_drew1) | exact HB.out)) hb); clear HB; have HO174 := n0_; have HB := n1_; clear n0_ n1_; (try clear hb); (try clear hb2); (try clear hk); (try clear hi); (try clear ho0)) | ((with_reducible refine gate_callee (f := 8) rfl ?_); refine goesL_ (some 24) rfl rfl Tryz.func8 (by kernel_rfl) rfl #[.string a0] rfl (by (try simp only [List.map_toArray, List.map_cons, List.map_nil]); first | done | rfl | (simp only [List.length_drop, List.length_take]; rfl)) ?_; (with_reducible refine (motleyref27_Verdict.calls k a0 t175 t176 t177 _ A6.out).mono ?_); rintro e w55 ⟨v178, rfl, ho0, hb⟩; refine ⟨_, rfl, ?_⟩; have n0_ := Aside0.mk (Kd.R_below (by (with_reducible repeat (first | apply Kd.R_alloc | apply Kd.R_drewN | apply Kd.R_drew)); exact HO174.out) hb); have n1_ := Aside0.mk (Kd.R_lower ho0 (below_size (by repeat (first | (with_reducible first | exact HB.out | apply below_alloc | apply pw_below_drewN | apply below_drew1) | exact HB.out)))); have n2_ := Aside0.mk (below_step (by repeat (first | (with_reducible first | exact HB.out | apply below_alloc | apply pw_below_drewN | apply below_drew1) | exact HB.out)) hb); clear HO174; clear HB; have HO174 := n0_; have HO179 := n1_; have HB := n2_; clear n0_ n1_ n2_; (try clear hb); (try clear hb2); (try clear hk); (try clear hi); (try clear ho0)) | ((with_reducible refine gate_callee (f := 9) rfl ?_); refine goesL_ (some 30) rfl rfl Tryz.func9 (by kernel_rfl) rfl #[.string a0] rfl (by (try simp only [List.map_toArray, List.map_cons, List.map_nil]); first | done | rfl | (simp only [List.length_drop, List.length_take]; rfl)) ?_; (with_reducible refine (tap_Read.calls a0 t180 t181 _ ?side1 A7.out).mono ?_); (case side1 => first | exact hL | exact LaidW.below hL (by repeat (first | (with_reducible first | exact HB.out | apply below_alloc | apply pw_below_drewN | apply below_drew1) | exact HB.out))); rintro e w56 ⟨v182, rfl, ho0, hb⟩; refine ⟨_, rfl, ?_⟩; have n0_ := Aside0.mk (Kd.R_below (by (with_reducible repeat (first | apply Kd.R_alloc | apply Kd.R_drewN | apply Kd.R_drew)); exact HO174.out) hb); have n1_ := Aside0.mk (Kd.R_below (by (with_reducible repeat (first | apply Kd.R_alloc | apply Kd.R_drewN | apply Kd.R_drew)); exact HO179.out) hb); have n2_ := Aside0.mk (Kd.R_lower ho0 (below_size (by repeat (first | (with_reducible first | exact HB.out | apply below_alloc | apply pw_below_drewN | apply below_drew1) | exact HB.out)))); have n3_ := Aside0.mk (below_step (by repeat (first | (with_reducible first | exact HB.out | apply below_alloc | apply pw_below_drewN | apply below_drew1) | exact HB.out)) hb); clear HO174; clear HO179; clear HB; have HO174 := n0_; have HO179 := n1_; have HO183 := n2_; have HB := n3_; clear n0_ n1_ n2_ n3_; (try clear hb); (try clear hb2); (try clear hk); (try clear hi); (try clear ho0)) | ((with_reducible refine gate_callee (f := 10) rfl ?_); refine goesL_ (some 35) rfl rfl Tryz.func10 (by kernel_rfl) rfl #[.string a0] rfl (by (try simp only [List.map_toArray, List.map_cons, List.map_nil]); first | done | rfl | (simp only [List.length_drop, List.length_take]; rfl)) ?_; (with_reducible refine (tap_Verdict.calls a0 t184 t185 t186 _ ?side1 A8.out).mono ?_); (case side1 => first | exact hL | exact LaidW.below hL (by repeat (first | (with_reducible first | exact HB.out | apply below_alloc | apply pw_below_drewN | apply below_drew1) | exact HB.out))); rintro e w57 ⟨v187, rfl, ho0, hb⟩; refine ⟨_, rfl, ?_⟩; have n0_ := Aside0.mk (Kd.R_below (by (with_reducible repeat (first | apply Kd.R_alloc | apply Kd.R_drewN | apply Kd.R_drew)); exact HO174.out) hb); have n1_ := Aside0.mk (Kd.R_elder' (by (with_reducible repeat (first | apply Kd.R_alloc | apply Kd.R_drewN | apply Kd.R_drew)); exact HO179.out) (Kd.R_base ho0) hb); have n2_ := Aside0.mk (Kd.R_below (by (with_reducible repeat (first | apply Kd.R_alloc | apply Kd.R_drewN | apply Kd.R_drew)); exact HO183.out) hb); have n3_ := Aside0.mk (Kd.R_lower (Kd.R_new' ho0 (Kd.R_lt (by (with_reducible repeat (first | apply Kd.R_alloc | apply Kd.R_drewN | apply Kd.R_drew)); exact HO179.out))) (below_size (by repeat (first | (with_reducible first | exact HB.out | apply below_alloc | apply pw_below_drewN | apply below_drew1) | exact HB.out)))); have n4_ := Aside0.mk (below_step (by repeat (first | (with_reducible first | exact HB.out | apply below_alloc | apply pw_below_drewN | apply below_drew1) | exact HB.out)) hb); clear HO174; clear HO179; clear HO183; clear HB; have HO174 := n0_; have HO179 := n1_; have HO183 := n2_; have HO188 := n3_; have HB := n4_; clear n0_ n1_ n2_ n3_ n4_; (try clear hb); (try clear hb2); (try clear hk); (try clear hi); (try clear ho0); obtain ⟨Ao58, co58, eo58⟩ := Kd.R_slice HO183.out; subst eo58; obtain ⟨Ao59, co59, eo59⟩ := Kd.R_slice HO174.out; subst eo59) | ((with_reducible refine gate_callee (f := 11) rfl ?_); refine goesL_ (some 41) rfl rfl Tryz.func11 (by kernel_rfl) rfl #[.slice Ao58 t180.length co58, .slice Ao59 t171.length co59] rfl (by (try simp only [List.map_toArray, List.map_cons, List.map_nil]); first | done | rfl | (simp only [List.length_drop, List.length_take]; rfl)) ?_; (with_reducible refine (motleylaw27_same.calls k _ _ t180 _ _ t171 false _ ?side1 ?side2 ?side3 ?side4 A9.out).mono ?_); (case side1 => repeat (first | exact (Kd.R_reads' HO183.out).2.2 | (with_reducible refine Kd.C_alloc ?_ _) | (with_reducible refine Kd.C_drewN ?_ _) | (with_reducible refine Kd.C_drew ?_))); (case side2 => exact (Kd.R_reads' HO183.out).2.1); (case side3 => repeat (first | exact (Kd.R_reads' HO174.out).2.2 | (with_reducible refine Kd.C_alloc ?_ _) | (with_reducible refine Kd.C_drewN ?_ _) | (with_reducible refine Kd.C_drew ?_))); (case side4 => exact (Kd.R_reads' HO174.out).2.1); rintro e w' ⟨rfl, ⟨nd, rfl⟩⟩; refine ⟨_, rfl, ?_⟩))
      go_ret
      exact ⟨by first | rfl | (simp [errW_none, errW_some] <;> rfl) | (simp [*, errW_none, errW_some] <;> rfl), by repeat (first | (with_reducible first | exact HB.out | apply below_alloc | apply pw_below_drewN | apply below_drew1) | exact HB.out)⟩

/-- THE ONE PURE STATEMENT of motleylaw27_TapReads: yours. -/
def motleylaw27_TapReads.Pure : Prop := ∀ (a0 : ByteArray), a0.size ≤ 140737488351232 → ∃ k, motleylaw27_TapReads.f k a0 = some true
theorem motleylaw27_TapReads.walk (P : motleylaw27_TapReads.Pure) (a0 : ByteArray) (w : World) (hL : LaidW w) (w0 : a0.size ≤ 140737488351232) :
    Calls Tryz.prog 3 #[.string a0] w fun e w' => e = .returned (.bool true) ∧ Below w.heap.size w w' := by
  obtain ⟨k, h⟩ := P a0 w0
  refine (motleylaw27_TapReads.calls k a0 true w hL h).mono ?_
  rintro e w' ⟨rfl, hd⟩
  exact ⟨rfl, hd⟩

end Go.Proofs.YtallfkecjibpmaaGreatDoor.M
/- TapReads: what the reference's read, Read and Verdict give. Plain Lean. -/
set_option linter.unusedVariables false
set_option linter.unusedSimpArgs false
namespace Go.Proofs.YtallfkecjibpmaaGreatDoor.Q
open Go.RowKit Go.Proofs.YtallfkecjibpmaaGreatDoorW.PrintWords Go.Proofs.YtallfkecjibpmaaGreatDoorW.PrintMore Go.Proofs.YtallfkecjibpmaaGreatDoor.G Go.Proofs.YtallfkecjibpmaaGreatDoor.Nm Go.Proofs.YtallfkecjibpmaaGreatDoor.Rd Go.Proofs.YtallfkecjibpmaaGreatDoor.R Go.Proofs.YtallfkecjibpmaaGreatDoor.M
def toR (t : Tst) : S53 := ⟨t.ok, mkD t.name, t.dir, mkD t.reason⟩
def outR (q : Rr) : List S53 × List Int × Int × Bool × Int := (q.ts.map toR, q.ts.map (·.num), q.plan, q.ended, if q.bad = true then 2 else 0)
theorem fin_eq (q : Rr) : (if (q.plans : Int) = 1 then (if (q.first : Int) = 0 then (if q.skip = true then (if ((q.ts.map toR).length : Int) > 0 then some (q.ts.map toR, q.ts.map (·.num), q.plan, q.ended, (2 : Int)) else some (q.ts.map toR, q.ts.map (·.num), q.plan, q.ended, 0)) else some (q.ts.map toR, q.ts.map (·.num), q.plan, q.ended, 0)) else (if (q.first : Int) = ((q.ts.map toR).length : Int) then (if q.skip = true then (if ((q.ts.map toR).length : Int) > 0 then some (q.ts.map toR, q.ts.map (·.num), q.plan, q.ended, 2) else some (q.ts.map toR, q.ts.map (·.num), q.plan, q.ended, 0)) else some (q.ts.map toR, q.ts.map (·.num), q.plan, q.ended, 0)) else some (q.ts.map toR, q.ts.map (·.num), q.plan, q.ended, 2))) else some (q.ts.map toR, q.ts.map (·.num), q.plan, q.ended, 2)) = some (outR q) := by
  unfold outR Rr.bad
  rw [List.length_map]
  by_cases h1 : q.plans = 1
  · rw [if_pos (by omega), beq_iff_eq.2 h1]
    by_cases h2 : q.first = 0
    · rw [if_pos (by omega), beq_iff_eq.2 h2]
      cases hs : q.skip
      · simp
      · by_cases h4 : 0 < q.ts.length
        · rw [if_pos rfl, if_pos (by omega), decide_eq_true h4]; simp
        · rw [if_pos rfl, if_neg (by omega), decide_eq_false h4]; simp
    · rw [if_neg (by omega), beq_eq_false_iff_ne.2 h2]
      by_cases h3 : q.first = q.ts.length
      · rw [if_pos (by omega), beq_iff_eq.2 h3]
        cases hs : q.skip
        · simp
        · by_cases h4 : 0 < q.ts.length
          · rw [if_pos rfl, if_pos (by omega), decide_eq_true h4]; simp
          · rw [if_pos rfl, if_neg (by omega), decide_eq_false h4]; simp
      · rw [if_neg (by omega), beq_eq_false_iff_ne.2 h3]; simp
  · rw [if_neg (by omega), beq_eq_false_iff_ne.2 h1]; simp
theorem rdOf_get (L : List ByteArray) (i : Nat) (h : i < L.length) : rdOf ByteArray.empty L (i : Int) = L[i] := by
  unfold rdOf
  rw [Int.toNat_natCast, List.getD_eq_getElem?_getD, List.getElem?_eq_getElem h]; rfl
theorem rd_get (L : List Int) (i : Nat) (h : i < L.length) : rd L (i : Int) = L[i] := by
  unfold rd
  rw [Int.toNat_natCast, List.getD_eq_getElem?_getD, List.getElem?_eq_getElem h]; rfl
theorem rd53_get (L : List S53) (i : Nat) (h : i < L.length) : rd_T53 L (i : Int) = L[i] := by
  unfold rd_T53
  rw [Int.toNat_natCast, List.getD_eq_getElem?_getD, List.getElem?_eq_getElem h]; rfl
theorem rd45_get (L : List S45) (i : Nat) (h : i < L.length) : rd_T45 L (i : Int) = L[i] := by
  unfold rd_T45
  rw [Int.toNat_natCast, List.getD_eq_getElem?_getD, List.getElem?_eq_getElem h]; rfl
theorem bailS_split (l : Bs) : bailS l = true ↔ l = [66, 97, 105, 108, 32, 111, 117, 116, 33] ∨ Lib.hasPrefix l (bailW ++ [32]) = true := by
  unfold bailS
  rw [Bool.or_eq_true, beq_iff_eq]; exact Iff.rfl
theorem read_l0 (L : List ByteArray) (hx : ∀ x ∈ L, x.size ≤ 65536) (hlen : L.length ≤ 70000) : ∀ (d k i : Nat) (p : Rr), i + d = L.length → 2 * d + 1000200 < k → p.plans ≤ i → p.ts.length ≤ i → p.ended = false →
    motleyref27_read.l0 k (p.plans : Int) (p.first : Int) p.skip L (i : Int) (p.ts.map toR) (p.ts.map (·.num)) p.plan p.ended = some (outR (Rr.run ((L.drop i).map (·.data.toList)) p))
  | 0, k, i, p, hi, hk, hp1, hp2, he => by
    obtain ⟨k, rfl⟩ : ∃ j, k = j + 1 := ⟨k - 1, by omega⟩
    rw [motleyref27_read.l0, if_neg (by omega), List.drop_of_length_le (by omega)]
    exact fin_eq p
  | d + 1, k, i, p, hi, hk, hp1, hp2, he => by
    obtain ⟨k, rfl⟩ : ∃ j, k = j + 2 := ⟨k - 2, by omega⟩
    have hlt : i < L.length := by omega
    obtain ⟨x, hxE⟩ : ∃ x, L[i] = x := ⟨_, rfl⟩
    have hxz : x.size ≤ 65536 := hx x (by rw [← hxE]; exact List.getElem_mem hlt)
    have hdr : (L.drop i).map (·.data.toList) = x.data.toList :: (L.drop (i + 1)).map (·.data.toList) := by
      rw [List.drop_eq_getElem_cons hlt, List.map_cons, hxE]
    have hrun : Rr.run ((L.drop i).map (·.data.toList)) p = if bailS x.data.toList = true then p.bail else Rr.run ((L.drop (i + 1)).map (·.data.toList)) (p.step x.data.toList) := by
      rw [hdr, Rr.run]
    rw [motleyref27_read.l0, if_pos (by omega), if_pos (by omega), rdOf_get L i hlt, hxE, toL_data, begins_eq, hrun]
    simp only [Option.bind_some]
    have hbail : motleyref27_read.j1 (k + 1) (p.plans : Int) (p.first : Int) p.skip L (i : Int) true (p.ts.map toR) (p.ts.map (·.num)) p.plan p.ended = some (outR p.bail) := by
      rw [motleyref27_read.j1, if_pos rfl]
      exact fin_eq p.bail
    by_cases h1 : x.data.toList = [66, 97, 105, 108, 32, 111, 117, 116, 33]
    · rw [if_pos h1, if_pos ((bailS_split _).2 (.inl h1))]; exact hbail
    · rw [if_neg h1, show Lib.hasPrefix x.data.toList [66, 97, 105, 108, 32, 111, 117, 116, 33, 32] = Lib.hasPrefix x.data.toList (bailW ++ [32]) from rfl]
      cases h2 : Lib.hasPrefix x.data.toList (bailW ++ [32])
      · have hb : ¬ bailS x.data.toList = true := fun h => by
          rcases (bailS_split _).1 h with h | h
          · exact h1 h
          · rw [h2] at h; cases h
        rw [if_neg hb, motleyref27_read.j1, if_neg (by decide), if_pos (by omega), if_pos (by omega), rdOf_get L i hlt, hxE]
        obtain ⟨n, b, e1, e2⟩ := plan_f x (by omega) k (by omega)
        rw [e1]
        simp only [Option.bind_some]
        have hst : p.step x.data.toList = match planP x.data.toList with
          | some (n, k) => ⟨p.ts, n, p.plans + 1, p.ts.length, k, p.ended⟩
          | none => match testR x.data.toList with
            | some t => ⟨p.ts ++ [t], p.plan, p.plans, p.first, p.skip, p.ended⟩
            | none => p := by unfold Rr.step; rw [plan_eq]; rfl
        cases hpl : planP x.data.toList with
        | some y =>
          have hy := e2 y hpl
          subst hy
          rw [hpl] at hst
          simp only at hst
          rw [hst]
          simp only [Option.isSome_some, if_true]
          rw [w1 (by omega), w1 (by omega), List.length_map]
          exact read_l0 L hx hlen d k (i + 1) ⟨p.ts, n, p.plans + 1, p.ts.length, b, p.ended⟩ (by omega) (by omega) (by show p.plans + 1 ≤ i + 1; omega) (by show p.ts.length ≤ i + 1; omega) he
        | none =>
          rw [hpl] at hst
          simp only at hst
          simp only [Option.isSome_none, Bool.false_eq_true, if_false]
          have htf : motleyref27_test.f x = some ((testX x.data.toList).1.ok, mkD (testX x.data.toList).1.name, (testX x.data.toList).1.dir, mkD (testX x.data.toList).1.reason, (testX x.data.toList).1.num, (testX x.data.toList).2) := by
            unfold motleyref27_test.f; rw [if_pos hxz]
          rw [htf]
          simp only [Option.bind_some]
          rw [testX_R] at hst
          rw [w1 (by omega)]
          by_cases ht : (testX x.data.toList).2 = true
          · rw [if_pos ht] at hst ⊢
            simp only at hst
            rw [hst, List.length_map, List.length_map, if_pos (by omega), if_pos (by omega)]
            have e := read_l0 L hx hlen d k (i + 1) ⟨p.ts ++ [(testX x.data.toList).1], p.plan, p.plans, p.first, p.skip, p.ended⟩ (by omega) (by omega) (by show p.plans ≤ i + 1; omega) (by show (p.ts ++ _).length ≤ i + 1; simp; omega) he
            rw [← e]
            simp only [List.map_append, List.map_cons, List.map_nil]
            rfl
          · rw [if_neg ht] at hst ⊢
            simp only at hst
            rw [hst]
            exact read_l0 L hx hlen d k (i + 1) p (by omega) (by omega) (by omega) (by omega) he
      · rw [if_pos ((bailS_split _).2 (.inr h2))]
        exact hbail
def protR (s : ByteArray) : Rr := Rr.run ((lns s).map (·.data.toList)) Rr.new
theorem read_f (s : ByteArray) (k : Nat) (hk : 1300000 ≤ k) : motleyref27_read.f k s = some (if 65536 < s.size then ([], [], 0, false, 3) else outR (protR s)) := by
  unfold motleyref27_read.f
  by_cases h : 65536 < s.size
  · rw [if_pos (by omega), if_pos h]
  · rw [if_neg (by omega), if_neg h, lines_eq s (by omega) k (by omega)]
    simp only [Option.bind_some]
    have hl : (lns s).length ≤ 70000 := by
      rw [lns_len]
      have := Sl.count_size s 10
      have h2 := size_len s
      omega
    have := read_l0 (lns s) (fun x hx => Nat.le_trans (lns_small s x hx) (by omega)) hl (lns s).length k 0 Rr.new (by omega) (by omega) (Nat.le_refl _) (Nat.le_refl _) rfl
    rw [List.drop_zero] at this
    exact this
theorem prot_R (s : ByteArray) : PR (prot s) (protR s) := PR.run _ PR.new
theorem run_len_R (s : ByteArray) : (protR s).ts.length ≤ s.size + 1 := by rw [← (prot_R s).ts]; exact prot_len s
theorem Read_l0 (ts : List Tst) (hn : ts.length ≤ 1000000) (b0 : Bool) (pl : Int) (en : Bool) : ∀ (d k i : Nat), i + d = ts.length → d < k →
    motleyref27_Read.l0 k (b0 || mism ts i) (i : Int) (ts.map toR) (ts.map (·.num)) pl en = some (if (b0 || mism ts ts.length) = true then ([], 10) else if 200 < ts.length then ([], 3) else (ts.map toR, 0))
  | 0, k, i, hi, hk => by
    obtain ⟨k, rfl⟩ : ∃ j, k = j + 1 := ⟨k - 1, by omega⟩
    have hie : i = ts.length := by omega
    rw [motleyref27_Read.l0, List.length_map, if_neg (by omega), hie]
    by_cases hb : (b0 || mism ts ts.length) = true
    · rw [if_pos hb, if_pos hb]
    · rw [if_neg hb, if_neg hb, List.length_map]
      by_cases h2 : 200 < ts.length
      · rw [if_pos (by omega), if_pos h2]
      · rw [if_neg (by omega), if_neg h2]
  | d + 1, k, i, hi, hk => by
    obtain ⟨k, rfl⟩ : ∃ j, k = j + 1 := ⟨k - 1, by omega⟩
    have hlt : i < ts.length := by omega
    have ih := Read_l0 ts hn b0 pl en d k (i + 1) (by omega) (by omega)
    have hrd : rd (ts.map (·.num)) (i : Int) = ts[i].num := by rw [rd_get _ i (by rw [List.length_map]; exact hlt), List.getElem_map]
    have hm : mism ts (i + 1) = (mism ts i || (decide (0 ≤ ts[i].num) && !(ts[i].num == (i : Int) + 1))) := by rw [mism, List.getElem?_eq_getElem hlt]
    rw [motleyref27_Read.l0, List.length_map, if_pos (by omega)]
    rw [hm] at ih
    by_cases hb : (b0 || mism ts i) = true
    · rw [if_pos hb, w1 (by omega)]
      rw [← Bool.or_assoc, hb, Bool.true_or] at ih
      exact ih
    · rw [if_neg hb, if_pos (by omega), hrd]
      rw [← Bool.or_assoc, Bool.not_eq_true] at *
      rw [hb, Bool.false_or] at ih
      by_cases h0 : 0 ≤ ts[i].num
      · rw [if_pos h0, w1 (by omega)]
        rw [decide_eq_true h0, Bool.true_and] at ih
        exact ih
      · rw [if_neg h0, w1 (by omega)]
        rw [decide_eq_false h0, Bool.false_and] at ih
        exact ih
theorem mx_nat (a : Nat) (pl : Int) (h : 0 ≤ pl) : mx (a : Int) pl = ((max a pl.toNat : Nat) : Int) := by
  unfold mx
  split <;> omega
theorem vP_yes' {ts : List Tst} {pl : Int} {n : Nat} (h : badAt ts pl n = true) (hn : n ≤ 1000000) : vP ts pl n ++ [wrap64 ((n : Int) + 1)] = vP ts pl (n + 1) := by
  rw [vP_yes h, w1 (by omega)]; rfl
theorem Verdict_l0 (ts : List Tst) (hn : ts.length ≤ 1000000) (pl : Int) (h0 : 0 ≤ pl) (h9 : pl ≤ 999) (en : Bool) : ∀ (d k i : Nat), i + d = max ts.length pl.toNat → d < k →
    motleyref27_Verdict.l0 k (vP ts pl i) (i : Int) (ts.map toR) (ts.map (·.num)) pl en = some (!en && decide ((vP ts pl (max ts.length pl.toNat)).length = 0), vP ts pl (max ts.length pl.toNat), 0)
  | 0, k, i, hi, hk => by
    obtain ⟨k, rfl⟩ : ∃ j, k = j + 1 := ⟨k - 1, by omega⟩
    have hie : i = max ts.length pl.toNat := by omega
    rw [motleyref27_Verdict.l0, List.length_map, mx_nat _ _ h0, if_neg (by omega), hie]
    by_cases hl : (vP ts pl (max ts.length pl.toNat)).length = 0
    · rw [if_pos (by omega), decide_eq_true hl, Bool.and_true]
    · rw [if_neg (by omega), decide_eq_false hl, Bool.and_false]
  | d + 1, k, i, hi, hk => by
    obtain ⟨k, rfl⟩ : ∃ j, k = j + 1 := ⟨k - 1, by omega⟩
    have ih := Verdict_l0 ts hn pl h0 h9 en d k (i + 1) (by omega) (by omega)
    have hvl := vP_len ts pl i
    have hyes : ∀ h : badAt ts pl i = true, motleyref27_Verdict.l0 k (vP ts pl i ++ [wrap64 ((i : Int) + 1)]) (wrap64 ((i : Int) + 1)) (ts.map toR) (ts.map (·.num)) pl en = some (!en && decide ((vP ts pl (max ts.length pl.toNat)).length = 0), vP ts pl (max ts.length pl.toNat), 0) := fun h => by
      rw [vP_yes' h (by omega), w1 (by omega)]; exact ih
    have hno : ∀ h : badAt ts pl i = false, motleyref27_Verdict.l0 k (vP ts pl i) (wrap64 ((i : Int) + 1)) (ts.map toR) (ts.map (·.num)) pl en = some (!en && decide ((vP ts pl (max ts.length pl.toNat)).length = 0), vP ts pl (max ts.length pl.toNat), 0) := fun h => by
      rw [w1 (by omega), ← vP_no h]; exact ih
    rw [motleyref27_Verdict.l0, List.length_map, mx_nat _ _ h0, if_pos (by omega)]
    by_cases hlt : i < ts.length
    · have hrd : rd (ts.map (·.num)) (i : Int) = ts[i].num := by rw [rd_get _ i (by rw [List.length_map]; exact hlt), List.getElem_map]
      have hrt : rd_T53 (ts.map toR) (i : Int) = toR ts[i] := by rw [rd53_get _ i (by rw [List.length_map]; exact hlt), List.getElem_map]
      have hba : badAt ts pl i = ((decide (0 ≤ ts[i].num) && !(ts[i].num == (i : Int) + 1)) || decide (pl ≤ (i : Int)) || (!ts[i].ok && !(ts[i].dir == 2))) := by
        unfold badAt; rw [List.getElem?_eq_getElem hlt]
      have hi1 : ((i + 1 : Nat) : Int) = (i : Int) + 1 := rfl
      rw [if_neg (by omega)]
      by_cases hp : pl ≤ (i : Int)
      · rw [if_pos hp, if_pos (by omega)]
        exact hyes (by rw [hba, decide_eq_true hp]; simp)
      · rw [if_neg (by omega), if_pos (by omega), if_pos (by omega), hrt, hrd, List.length_map]
        have hw : Aside0 (wrap64 ((i : Int) + 1) = (i : Int) + 1) := ⟨w1 (by omega)⟩
        rw [decide_eq_false hp, Bool.or_false] at hba
        show (if ts[i].ok = true then _ else (if ts[i].dir = 2 then _ else _)) = _
        generalize ts[i] = t at *
        by_cases hok : t.ok = true
        · rw [if_pos hok, if_pos (by omega)]
          rw [hok, Bool.not_true, Bool.false_and, Bool.or_false] at hba
          by_cases hn0 : 0 ≤ t.num
          · rw [if_pos hn0]
            by_cases hn1 : t.num = (i : Int) + 1
            · rw [if_pos (by rw [hw.out]; exact hn1)]
              exact hno (by rw [hba, beq_iff_eq.2 hn1]; simp)
            · rw [if_neg (by rw [hw.out]; exact hn1), if_pos (by omega)]
              exact hyes (by rw [hba, beq_eq_false_iff_ne.2 hn1, decide_eq_true hn0]; rfl)
          · rw [if_neg hn0]
            exact hno (by rw [hba, decide_eq_false hn0]; rfl)
        · rw [if_neg hok]
          rw [Bool.not_eq_true] at hok
          rw [hok, Bool.not_false, Bool.true_and] at hba
          by_cases hd : t.dir = 2
          · rw [if_pos hd, if_pos (by omega)]
            rw [beq_iff_eq.2 hd, Bool.not_true, Bool.or_false] at hba
            by_cases hn0 : 0 ≤ t.num
            · rw [if_pos hn0]
              by_cases hn1 : t.num = (i : Int) + 1
              · rw [if_pos (by rw [hw.out]; exact hn1)]
                exact hno (by rw [hba, beq_iff_eq.2 hn1]; simp)
              · rw [if_neg (by rw [hw.out]; exact hn1), if_pos (by omega)]
                exact hyes (by rw [hba, beq_eq_false_iff_ne.2 hn1, decide_eq_true hn0]; rfl)
            · rw [if_neg hn0]
              exact hno (by rw [hba, decide_eq_false hn0]; rfl)
          · rw [if_neg hd, if_pos (by omega)]
            exact hyes (by rw [hba, beq_eq_false_iff_ne.2 hd]; simp)
    · rw [if_pos (by omega), if_pos (by omega)]
      exact hyes (badAt_far ts pl (by omega))
theorem same_l0 (ts : List Tst) (hn : ts.length ≤ 1000000) : ∀ (d k i : Nat), i + d = ts.length → d < k → motleylaw27_same.l0 k (ts.map toS) (ts.map toR) (i : Int) = some true
  | 0, k, i, hi, hk => by
    obtain ⟨k, rfl⟩ : ∃ j, k = j + 1 := ⟨k - 1, by omega⟩
    rw [motleylaw27_same.l0, List.length_map, if_neg (by omega)]
  | d + 1, k, i, hi, hk => by
    obtain ⟨k, rfl⟩ : ∃ j, k = j + 1 := ⟨k - 1, by omega⟩
    have hlt : i < ts.length := by omega
    rw [motleylaw27_same.l0, List.length_map, if_pos (by omega), if_pos (by omega), List.length_map, if_pos (by omega),
      rd45_get _ i (by rw [List.length_map]; exact hlt), rd53_get _ i (by rw [List.length_map]; exact hlt), List.getElem_map, List.getElem_map, w1 (by omega)]
    rw [if_neg (by simp [toS, toR])]
    exact same_l0 ts hn d k (i + 1) (by omega) (by omega)
theorem same_eq (ts : List Tst) (hn : ts.length ≤ 1000000) (k : Nat) (hk : 1000001 ≤ k) : motleylaw27_same.f k (ts.map toS) (ts.map toR) = some true := by
  unfold motleylaw27_same.f
  rw [List.length_map, List.length_map, if_pos rfl]
  exact same_l0 ts hn ts.length k 0 (by omega) (by omega)
theorem ints_l0 (l : List Int) (hn : l.length ≤ 1000000) : ∀ (d k i : Nat), i + d = l.length → d < k → motleyref01_SameInts.l0 k l l (i : Int) = some true
  | 0, k, i, hi, hk => by
    obtain ⟨k, rfl⟩ : ∃ j, k = j + 1 := ⟨k - 1, by omega⟩
    rw [motleyref01_SameInts.l0, if_neg (by omega)]
  | d + 1, k, i, hi, hk => by
    obtain ⟨k, rfl⟩ : ∃ j, k = j + 1 := ⟨k - 1, by omega⟩
    rw [motleyref01_SameInts.l0, if_pos (by omega), if_pos (by omega), if_pos (by omega), if_pos rfl, w1 (by omega)]
    exact ints_l0 l hn d k (i + 1) (by omega) (by omega)
theorem ints_eq (l : List Int) (hn : l.length ≤ 1000000) (k : Nat) (hk : 1000001 ≤ k) : motleyref01_SameInts.f k l l = some true := by
  unfold motleyref01_SameInts.f
  rw [if_pos rfl]
  exact ints_l0 l hn l.length k 0 (by omega) (by omega)
end Go.Proofs.YtallfkecjibpmaaGreatDoor.Q
/- TapReads, the plain law. -/
set_option linter.unusedVariables false
set_option linter.unusedSimpArgs false
namespace Go.Proofs.YtallfkecjibpmaaGreatDoor.Pure
open Go.RowKit Go.Proofs.YtallfkecjibpmaaGreatDoorW.PrintWords Go.Proofs.YtallfkecjibpmaaGreatDoor.G Go.Proofs.YtallfkecjibpmaaGreatDoor.Nm Go.Proofs.YtallfkecjibpmaaGreatDoor.Rd Go.Proofs.YtallfkecjibpmaaGreatDoor.R Go.Proofs.YtallfkecjibpmaaGreatDoor.M Go.Proofs.YtallfkecjibpmaaGreatDoor.Q
theorem Read_f (s : ByteArray) (hs : s.size ≤ 262144) : motleyref27_Read.f 2000000 s = some (if errRd s = 0 then (prot s).ts.map toR else [], errRd s) := by
  have hP := prot_R s
  have hlen := run_len_R s
  unfold motleyref27_Read.f
  rw [read_f s _ (by omega)]
  simp only [Option.bind_some]
  unfold errRd errP
  by_cases hb : 65536 < s.size
  · rw [if_pos hb, if_pos hb]; rfl
  · rw [if_neg hb, if_neg hb, hP.bad, hP.bailed, hP.ts, hP.plan]
    generalize protR s = r at *
    unfold outR
    simp only
    cases hbd : r.bad
    · simp only [Bool.false_eq_true, if_false, ne_eq, not_true_eq_false, if_true]
      cases he : r.ended
      · simp only [Bool.false_eq_true, if_false]
        have h := Read_l0 r.ts (by omega) ((r.ts.length : Int) != r.plan) r.plan false r.ts.length 2000000 0 (by omega) (by omega)
        rw [show mism r.ts 0 = false from rfl, Bool.or_false] at h
        rw [List.length_map]
        refine h.trans ?_
        congr 1
        by_cases h1 : (r.ts.length : Int) = r.plan
        · rw [show ((r.ts.length : Int) != r.plan) = false from by rw [bne_eq_false_iff_eq]; exact h1, Bool.false_or, if_neg (c := ¬ (r.ts.length : Int) = r.plan) (fun h => h h1)]
          cases hm : mism r.ts r.ts.length
          · simp only [Bool.false_eq_true, if_false]
            by_cases h2 : 200 < r.ts.length
            · rw [if_pos h2, if_pos h2]; rfl
            · rw [if_neg h2, if_neg h2]; rfl
          · simp
        · rw [show ((r.ts.length : Int) != r.plan) = true from by rw [bne_iff_ne]; exact h1, Bool.true_or, if_pos rfl, if_pos (c := ¬ (r.ts.length : Int) = r.plan) h1]; rfl
      · rfl
    · rfl
theorem Verdict_f (s : ByteArray) (hs : s.size ≤ 262144) : motleyref27_Verdict.f 2000000 s = some (if errP s = 0 then (!(prot s).bailed && decide ((vAll (prot s)).length = 0), vAll (prot s), 0) else (false, [], errP s)) := by
  have hP := prot_R s
  have hlen := run_len_R s
  have hbd := prot_bd s
  unfold motleyref27_Verdict.f
  rw [read_f s _ (by omega)]
  simp only [Option.bind_some]
  unfold errP vAll
  by_cases hb : 65536 < s.size
  · rw [if_pos hb, if_pos hb]; rfl
  · rw [hP.plan] at hbd
    rw [if_neg hb, if_neg hb, hP.bad, hP.bailed, hP.ts, hP.plan]
    generalize protR s = r at *
    unfold outR
    simp only
    cases hbd2 : r.bad
    · simp only [Bool.false_eq_true, if_false, if_true]
      exact Verdict_l0 r.ts (by omega) r.plan hbd.1 hbd.2 r.ended (max r.ts.length r.plan.toNat) 2000000 0 (by omega) (by omega)
    · rfl
theorem TapReads : motleylaw27_TapReads.Pure := by
  intro s hs
  refine ⟨2000000, ?_⟩
  unfold motleylaw27_TapReads.f
  by_cases hb : (s.size : Int) > 262144
  · rw [if_pos hb]; rfl
  · have hz : s.size ≤ 262144 := by omega
    have hl := prot_len s
    have hbd := prot_bd s
    rw [if_neg hb, Read_f s hz, Verdict_f s hz]
    simp only [Option.bind_some]
    have e1 : tap_Read.f s = some (if errRd s = 0 then (prot s).ts.map toS else [], errRd s) := by unfold tap_Read.f; rw [if_pos (by omega)]
    have e2 : tap_Verdict.f s = some (if errP s = 0 then (!(prot s).bailed && decide ((vAll (prot s)).length = 0), vAll (prot s), 0) else (false, [], errP s)) := by unfold tap_Verdict.f; rw [if_pos (by omega)]
    rw [e1, e2]
    simp only [Option.bind_some]
    have e3 : motleylaw27_same.f 2000000 (if errRd s = 0 then (prot s).ts.map toS else []) (if errRd s = 0 then (prot s).ts.map toR else []) = some true := by
      by_cases h : errRd s = 0
      · rw [if_pos h, if_pos h]; exact same_eq _ (by omega) _ (by omega)
      · rw [if_neg h, if_neg h]; exact same_eq [] (by simp) _ (by omega)
    have hvl : (vAll (prot s)).length ≤ 1000000 := by
      have := vP_len (prot s).ts (prot s).plan (max (prot s).ts.length (prot s).plan.toNat)
      unfold vAll
      omega
    rw [e3]
    simp only [Option.bind_some, if_true]
    by_cases h : errP s = 0
    · simp only [if_pos h]
      rw [ints_eq _ hvl _ (by omega)]
      simp [motleylaw27_known.f]
    · simp only [if_neg h]
      rw [ints_eq [] (by simp) _ (by omega)]
      simp [motleylaw27_known.f]
end Go.Proofs.YtallfkecjibpmaaGreatDoor.Pure
