/- Of this claim's texts (Y2): the declarations that the claim reaches (slimclaim.py). -/
import Derived.Test.YtallfkecjibpmaaGreatDoorVY0
import Derived.Test.YtallfkecjibpmaaGreatDoorVY1
namespace Go.Proofs.YtallfkecjibpmaaGreatDoor.Y
open Go.RowKit Go.Proofs.YtallfkecjibpmaaGreatDoor.G Go.Proofs.YtallfkecjibpmaaGreatDoor.R Go.Proofs.YtallfkecjibpmaaGreatDoor.M Go.Proofs.YtallfkecjibpmaaGreatDoor.J Go.Proofs.YtallfkecjibpmaaGreatDoorW.PrintWords Go.Proofs.YtallfkecjibpmaaGreatDoorW.PrintLast Go.Proofs.YtallfkecjibpmaaGreatDoorW.PrintMore
attribute [local go_sem] max2_int min2_int max_two min_two max_three min_three max_four min_four   
set_option linter.unusedVariables false
set_option linter.unusedSimpArgs false
def tap_Subset.l0 : Nat → ByteArray → List (S45) → List (S45) → Int → Int → Option (ByteArray × Int)
  | 0, _, _, _, _, _ => none
  | k + 1, x1, x8, x19, x20, x21 => if x21 < x20 then (if 0 ≤ x21 then (if x21 < (x19.length : Int) then ((strings_Contains.f ((rd_T45 x19 x21).f1) x1).bind fun t139 => (if t139 = true then (if x8.length < 2932031007402 then (tap_Subset.l0 k x1 (x8 ++ [(⟨(rd_T45 x19 x21).f0, (rd_T45 x19 x21).f1, (rd_T45 x19 x21).f2, (rd_T45 x19 x21).f3⟩ : S45)]) x19 x20 (wrap64 (x21 + 1))) else (none)) else (tap_Subset.l0 k x1 x8 x19 x20 (wrap64 (x21 + 1))))) else (none)) else (none)) else ((tap_written.f k x8).bind fun t143 => (some (t143, 0)))
def tap_Subset.f (k : Nat) (a0 : ByteArray) (a1 : ByteArray) : Option (ByteArray × Int) := (tap_Read.f a0).bind fun bt133 => (if bt133.2 = 0 then (tap_Subset.l0 k a1 ([] : List (S45)) bt133.1 (bt133.1.length : Int) 0) else (some ((⟨#[]⟩ : ByteArray), bt133.2)))
set_option maxHeartbeats 8000000 in
set_option maxRecDepth 100000 in
theorem tap_Subset.calls (k : Nat) (a0 : ByteArray) (a1 : ByteArray) (r1 : ByteArray) (r2 : Int) (w : World) (hL : LaidW w) (h : tap_Subset.f k a0 a1 = some (r1, r2)) :
    Calls Tryz.prog 16 #[.string a0, .string a1] w fun e w' => e = .returned (.tuple #[.string r1, .int .i64 r2]) ∧ Below w.heap.size w w' := by
  have hu45 := Tryz.underlying45
  have HB := Aside0.mk (Below.refl w.heap.size w)
  have H : ((tap_Read.f a0).bind fun bt133 => (if bt133.2 = 0 then (tap_Subset.l0 k a1 ([] : List (S45)) bt133.1 (bt133.1.length : Int) 0) else (some ((⟨#[]⟩ : ByteArray), bt133.2)))) = some (r1, r2) := h
  clear h
  replace H := Option.bind_eq_some_iff.mp H
  obtain ⟨⟨t133, t134⟩, A30, H⟩ := H
  replace H : (if t134 = 0 then (tap_Subset.l0 k a1 ([] : List (S45)) t133 (t133.length : Int) 0) else (some ((⟨#[]⟩ : ByteArray), t134))) = some (r1, r2) := H
  have A3 := Aside0.mk A30
  clear A30
  by_cases c4 : t134 = 0
  · rw [if_pos c4] at H
    have c4b0 : (t134 == 0) = true := beq_iff_eq.mpr c4
    have c4b1 : (t134 != 0) = false := bne_eq_false_iff_eq.mpr c4
    clear c4
    have H' := Aside0.mk H
    clear H
    go_enter Tryz.func16, Tryz.ntmps16
    go_wp2_with (first | ((with_reducible refine gate_callee (f := 9) rfl ?_); refine goesL_ (some 13) rfl rfl Tryz.func9 (by kernel_rfl) rfl #[.string a0] rfl (by (try simp only [List.map_toArray, List.map_cons, List.map_nil]); first | done | rfl | (simp only [List.length_drop, List.length_take]; rfl)) ?_; (with_reducible refine (tap_Read.calls a0 t133 t134 _ ?side1 A3.out).mono ?_); (case side1 => first | exact hL | exact LaidW.below hL (by repeat (first | (with_reducible first | exact HB.out | apply below_alloc | apply pw_below_drewN | apply below_drew1) | exact HB.out))); rintro e w5 ⟨v135, rfl, ho0, hb⟩; refine ⟨_, rfl, ?_⟩; have n0_ := Aside0.mk (Kd.R_lower ho0 (below_size (by repeat (first | (with_reducible first | exact HB.out | apply below_alloc | apply pw_below_drewN | apply below_drew1) | exact HB.out)))); have n1_ := Aside0.mk (below_step (by repeat (first | (with_reducible first | exact HB.out | apply below_alloc | apply pw_below_drewN | apply below_drew1) | exact HB.out)) hb); clear HB; have HO136 := n0_; have HB := n1_; clear n0_ n1_; (try clear hb); (try clear hb2); (try clear hk); (try clear hi); (try clear ho0); obtain ⟨Ao6, co6, eo6⟩ := Kd.R_slice HO136.out; subst eo6))
    go_loopg [8, 21] k (fun kq v8 v21 w' => ∃ (x8_1 : List (S45)) (x21_1 : Int), v21 = .int .i64 x21_1 ∧ Aside0 (tap_Subset.l0 kq a1 x8_1 t133 (t133.length : Int) x21_1 = some (r1, r2)) ∧ Aside0 (kq ≤ k) ∧ Aside0 (Kd.R k45 45 w' w.heap.size (fun k_ => some k_ ≠ ((.slice Ao6 t133.length co6) : Value).ownBlock) v8 x8_1) ∧ Aside0 (Kd.R k45 45 w' w.heap.size (fun k_ => some k_ ≠ (v8 : Value).ownBlock) (.slice Ao6 t133.length co6) t133) ∧ Aside0 (Below w.heap.size w w'))
    case atStart => exact ⟨(([] : List (S45))), (0), (by first | rfl | (simp; done) | (simp [*]; done) | (simp; generalize ByteArray.toList _ = l_; cases l_ <;> rfl)), H', ⟨Nat.le_refl _⟩, ⟨by first | exact Kd.R_nil _ _ _ _ _ | exact Kd.N_nil _ _ _ _ _ | exact Kd.V_nil _ _ _ _ _ | exact Kd.Q_nil _ _ _ _ _ | exact Kd.S_nil _ _ _ _ _⟩, ⟨by (with_reducible repeat (first | apply Kd.R_alloc | apply Kd.R_drewN | apply Kd.R_drew)); exact Kd.R_mono HO136.out (fun _ hk => (by simp [Value.ownBlock]))⟩, ⟨by repeat (first | (with_reducible first | exact HB.out | apply below_alloc | apply pw_below_drewN | apply below_drew1) | exact HB.out)⟩⟩
    case round =>
      clear H'
      try clear c1
      try clear p2
      try clear c4
      try clear c4b0
      try clear c4b1
      obtain ⟨x8_1, x21_1, rfl, HA, HK1, HO_8, HO_19, HB⟩ := hrel
      cases gk with
      | zero => exact absurd HA.out (by simp [tap_Subset.l0])
      | succ k1 =>
        have H := HA.out
        clear HA
        simp only [tap_Subset.l0] at H
        by_cases c7 : x21_1 < (t133.length : Int)
        · rw [if_pos c7] at H
          have c7b0 : decide (x21_1 < (t133.length : Int)) = true := decide_eq_true c7
          clear c7
          by_cases c8 : 0 ≤ x21_1
          · rw [if_pos c8] at H
            have c8b0 : decide (0 ≤ x21_1) = true := decide_eq_true c8
            clear c8
            by_cases c9 : x21_1 < (t133.length : Int)
            · rw [if_pos c9] at H
              have c9b0 : decide (x21_1 < (t133.length : Int)) = true := decide_eq_true c9
              clear c9
              replace H := Option.bind_eq_some_iff.mp H
              obtain ⟨t139, A100, H⟩ := H
              replace H : (if t139 = true then (if x8_1.length < 2932031007402 then (tap_Subset.l0 k1 a1 (x8_1 ++ [(⟨(rd_T45 t133 x21_1).f0, (rd_T45 t133 x21_1).f1, (rd_T45 t133 x21_1).f2, (rd_T45 t133 x21_1).f3⟩ : S45)]) t133 (t133.length : Int) (wrap64 (x21_1 + 1))) else (none)) else (tap_Subset.l0 k1 a1 x8_1 t133 (t133.length : Int) (wrap64 (x21_1 + 1)))) = some (r1, r2) := H
              have A10 := Aside0.mk A100
              clear A100
              by_cases c11 : t139 = true
              · subst c11
                have H1 : (if x8_1.length < 2932031007402 then (tap_Subset.l0 k1 a1 (x8_1 ++ [(⟨(rd_T45 t133 x21_1).f0, (rd_T45 t133 x21_1).f1, (rd_T45 t133 x21_1).f2, (rd_T45 t133 x21_1).f3⟩ : S45)]) t133 (t133.length : Int) (wrap64 (x21_1 + 1))) else (none)) = some (r1, r2) := by rw [if_pos rfl] at H; exact H
                clear H
                have H := H1
                clear H1
                by_cases c12 : x8_1.length < 2932031007402
                · rw [if_pos c12] at H
                  have LMc12 := Aside0.mk c12
                  clear c12
                  obtain ⟨y140, hy140⟩ : ∃ y_ : List (S45), y_ = (x8_1 ++ [(⟨(rd_T45 t133 x21_1).f0, (rd_T45 t133 x21_1).f1, (rd_T45 t133 x21_1).f2, (rd_T45 t133 x21_1).f3⟩ : S45)]) := ⟨_, rfl⟩
                  replace H : (tap_Subset.l0 k1 a1 y140 t133 (t133.length : Int) (wrap64 (x21_1 + 1))) = some (r1, r2) := by first | (rw [hy140]; with_reducible exact H) | (have H2_ := (Option.bind_some _ _).symm.trans H; rw [hy140]; with_reducible exact H2_) | (have H2_ := (Option.bind_some _ _).symm.trans H; with_reducible exact H2_) | with_reducible exact H | (rw [hy140]; exact H) | exact H
                  have Ny140 := Aside0.mk hy140
                  clear hy140
                  have H' := Aside0.mk H
                  clear H
                  have p137 : 0 ≤ (x21_1 : Int) := of_decide_eq_true (by first | (with_reducible assumption) | assumption)
                  have q137 : x21_1 < (t133.length : Int) := of_decide_eq_true (by first | (with_reducible assumption) | assumption)
                  obtain ⟨ad137, e137, hx137_0, hx137_1, hx137_2, hx137_3⟩ := at_T45 (Kd.R_reads' HO_19.out).2.2 x21_1 p137 q137
                  cases e137
                  replace p137 := eq_true p137
                  replace q137 := eq_true q137
                  go_wp2_with (first | ((with_reducible refine gate_dst (N := 10) rfl ?_); refine box_event ?hg (N := 10) ?hd (cs := #[.bool false, .string (⟨#[]⟩ : ByteArray), .int .i64 0, .string (⟨#[]⟩ : ByteArray)]) (t := 45) ?hr ?_; (case hd => rfl); (case hg => rfl); (case hr => first | (go_simp; done) | (go_simp; rfl)); intro gb138 hg w13 hbox hb; have n0_ := Aside0.mk (Kd.R_below (Kd.R_elderB (by (with_reducible repeat (first | apply Kd.R_alloc | apply Kd.R_drewN | apply Kd.R_drew)); exact HO_8.out) gb138 (Nat.le_of_eq hg.symm)) hb); have n1_ := Aside0.mk (Kd.R_below (Kd.R_elderB (by (with_reducible repeat (first | apply Kd.R_alloc | apply Kd.R_drewN | apply Kd.R_drew)); exact HO_19.out) gb138 (Nat.le_of_eq hg.symm)) hb); have n2_ := Aside0.mk (below_step (by repeat (first | (with_reducible first | exact HB.out | apply below_alloc | apply pw_below_drewN | apply below_drew1) | exact HB.out)) hb); have n3_ := Aside0.mk (hbox); have n4_ := Aside0.mk ((by rw [hg]; exact (below_size (by repeat (first | (with_reducible first | exact HB.out | apply below_alloc | apply pw_below_drewN | apply below_drew1) | exact HB.out))) : w.heap.size ≤ gb138)); have n5_ := Aside0.mk ((by rw [hg]; exact (below_size (by repeat (first | (with_reducible first | exact HB.out | apply below_alloc | apply pw_below_drewN | apply below_drew1) | exact HB.out))) : w.heap.size ≤ gb138)); clear HO_8; clear HO_19; clear HB; have HO_8 := n0_; have HO_19 := n1_; have HB := n2_; have BK138 := n3_; have GW138 := n4_; have GE138 := n5_; clear n0_ n1_ n2_ n3_ n4_ n5_; clear hb hbox hg; have hcz14_0 : w13.cell? ⟨gb138, 0, none⟩ = some (.bool false) := (blk_cell BK138.out 0).trans rfl; have hcz14_1 : w13.cell? ⟨gb138, 1, none⟩ = some (.string (⟨#[]⟩ : ByteArray)) := (blk_cell BK138.out 1).trans rfl; have hcz14_2 : w13.cell? ⟨gb138, 2, none⟩ = some (.int .i64 0) := (blk_cell BK138.out 2).trans rfl; have hcz14_3 : w13.cell? ⟨gb138, 3, none⟩ = some (.string (⟨#[]⟩ : ByteArray)) := (blk_cell BK138.out 3).trans rfl; have hfz14_0 := blk_frozen BK138.out 0; have hfz14_1 := blk_frozen BK138.out 1; have hfz14_2 := blk_frozen BK138.out 2; have hfz14_3 := blk_frozen BK138.out 3) | ((with_reducible refine gate_callee (f := 26) rfl ?_); refine goesL_ (some 28) rfl rfl Tryz.func26 (by kernel_rfl) rfl #[.string ((rd_T45 t133 x21_1).f1), .string a1] rfl (by (try simp only [List.map_toArray, List.map_cons, List.map_nil]); first | done | rfl | (simp only [List.length_drop, List.length_take]; rfl)) ?_; (with_reducible refine (strings_Contains.calls ((rd_T45 t133 x21_1).f1) a1 true _ ?side1 A10.out).mono ?_); (case side1 => first | exact hL | exact LaidW.below hL (by repeat (first | (with_reducible first | exact HB.out | apply below_alloc | apply pw_below_drewN | apply below_drew1 | refine below_set ?_ GE138.out) | exact HB.out))); rintro e w15 ⟨rfl, hb⟩; refine ⟨_, rfl, ?_⟩; have n0_ := Aside0.mk (Kd.R_below (by (with_reducible repeat (first | apply Kd.R_alloc | apply Kd.R_drewN | apply Kd.R_drew)); exact (Kd.R_mono (Kd.R_far (p := ⟨gb138, 3, none⟩) (Kd.R_far (p := ⟨gb138, 2, none⟩) (Kd.R_far (p := ⟨gb138, 1, none⟩) (Kd.R_far (p := ⟨gb138, 0, none⟩) (Kd.R_mono HO_8.out (fun k_ hk => (⟨hk, hk.2⟩ : _ ∧ k_ ≠ gb138))) (fun _ hk => hk.2) (.bool ((rd_T45 t133 x21_1).f0))) (fun _ hk => hk.2) (.string ((rd_T45 t133 x21_1).f1))) (fun _ hk => hk.2) (.int .i64 ((rd_T45 t133 x21_1).f2))) (fun _ hk => hk.2) (.string ((rd_T45 t133 x21_1).f3))) (fun _ h_ => h_.1))) hb); have n1_ := Aside0.mk (Kd.R_below (by (with_reducible repeat (first | apply Kd.R_alloc | apply Kd.R_drewN | apply Kd.R_drew)); exact (Kd.R_mono (Kd.R_far (p := ⟨gb138, 3, none⟩) (Kd.R_far (p := ⟨gb138, 2, none⟩) (Kd.R_far (p := ⟨gb138, 1, none⟩) (Kd.R_far (p := ⟨gb138, 0, none⟩) (Kd.R_mono HO_19.out (fun k_ hk => (⟨hk, hk.2⟩ : _ ∧ k_ ≠ gb138))) (fun _ hk => hk.2) (.bool ((rd_T45 t133 x21_1).f0))) (fun _ hk => hk.2) (.string ((rd_T45 t133 x21_1).f1))) (fun _ hk => hk.2) (.int .i64 ((rd_T45 t133 x21_1).f2))) (fun _ hk => hk.2) (.string ((rd_T45 t133 x21_1).f3))) (fun _ h_ => h_.1))) hb); have n2_ := Aside0.mk (blk_below (g := gb138) (o := .cells #[.bool ((rd_T45 t133 x21_1).f0), .string ((rd_T45 t133 x21_1).f1), .int .i64 ((rd_T45 t133 x21_1).f2), .string ((rd_T45 t133 x21_1).f3)] 45 (0, 0)) (by (with_reducible repeat (first | refine blk_drewN ?_ _ | refine blk_drew ?_ | refine blk_alloc ?_ _)); refine blk_put (cs := #[.bool ((rd_T45 t133 x21_1).f0), .string ((rd_T45 t133 x21_1).f1), .int .i64 ((rd_T45 t133 x21_1).f2), .string (⟨#[]⟩ : ByteArray)]) ?_ 3 _ rfl; (with_reducible repeat (first | refine blk_drewN ?_ _ | refine blk_drew ?_ | refine blk_alloc ?_ _)); refine blk_put (cs := #[.bool ((rd_T45 t133 x21_1).f0), .string ((rd_T45 t133 x21_1).f1), .int .i64 0, .string (⟨#[]⟩ : ByteArray)]) ?_ 2 _ rfl; (with_reducible repeat (first | refine blk_drewN ?_ _ | refine blk_drew ?_ | refine blk_alloc ?_ _)); refine blk_put (cs := #[.bool ((rd_T45 t133 x21_1).f0), .string (⟨#[]⟩ : ByteArray), .int .i64 0, .string (⟨#[]⟩ : ByteArray)]) ?_ 1 _ rfl; (with_reducible repeat (first | refine blk_drewN ?_ _ | refine blk_drew ?_ | refine blk_alloc ?_ _)); refine blk_put (cs := #[.bool false, .string (⟨#[]⟩ : ByteArray), .int .i64 0, .string (⟨#[]⟩ : ByteArray)]) ?_ 0 _ rfl; (with_reducible repeat (first | refine blk_drewN ?_ _ | refine blk_drew ?_ | refine blk_alloc ?_ _)); exact BK138.out) hb); have n3_ := Aside0.mk (below_step (by repeat (first | (with_reducible first | exact HB.out | apply below_alloc | apply pw_below_drewN | apply below_drew1 | refine below_set ?_ GE138.out) | exact HB.out)) hb); clear HO_8; clear HO_19; clear BK138; clear HB; have HO_8 := n0_; have HO_19 := n1_; have BK138 := n2_; have HB := n3_; clear n0_ n1_ n2_ n3_; (try clear hb); (try clear hb2); (try clear hk); (try clear hi); have hcz16_0 : w15.cell? ⟨gb138, 0, none⟩ = some (.bool ((rd_T45 t133 x21_1).f0)) := (blk_cell BK138.out 0).trans rfl; have hcz16_1 : w15.cell? ⟨gb138, 1, none⟩ = some (.string ((rd_T45 t133 x21_1).f1)) := (blk_cell BK138.out 1).trans rfl; have hcz16_2 : w15.cell? ⟨gb138, 2, none⟩ = some (.int .i64 ((rd_T45 t133 x21_1).f2)) := (blk_cell BK138.out 2).trans rfl; have hcz16_3 : w15.cell? ⟨gb138, 3, none⟩ = some (.string ((rd_T45 t133 x21_1).f3)) := (blk_cell BK138.out 3).trans rfl; have hfz16_0 := blk_frozen BK138.out 0; have hfz16_1 := blk_frozen BK138.out 1; have hfz16_2 := blk_frozen BK138.out 2; have hfz16_3 := blk_frozen BK138.out 3) | ((with_reducible refine gate_builtin (b := .append) (xs := #[.tmp 29, .tmp 31]) rfl ?_); at_builtin; refine Kd.R_append k45 (w0 := w) w.heap.size rfl (.tmp 29) (.tmp 31) 30 45 (.agg #[(.bool false), (.string ⟨#[]⟩), (.int .i64 0), (.string ⟨#[]⟩)]) 48 rfl Tryz.underlying30 info45 rfl (by decide) (by omega) u8 x8_1 (⟨(rd_T45 t133 x21_1).f0, (rd_T45 t133 x21_1).f1, (rd_T45 t133 x21_1).f2, (rd_T45 t133 x21_1).f3⟩ : S45) [.bool ((rd_T45 t133 x21_1).f0), .string ((rd_T45 t133 x21_1).f1), .int .i64 ((rd_T45 t133 x21_1).f2), .string ((rd_T45 t133 x21_1).f3)] (fun k_ => some k_ ≠ (.slice (some ad137) t133.length co6 : Value).ownBlock ∧ k_ ≠ gb138) (fun _ => False) rfl rfl ?aP (fun _ hk => hk.elim) ?aF ?aO ?aB ?aS ?aL ?_; (case aP => exact k45_mkM _ _ _ (⟨(rd_T45 t133 x21_1).f0, (rd_T45 t133 x21_1).f1, (rd_T45 t133 x21_1).f2, (rd_T45 t133 x21_1).f3⟩ : S45)); (case aB => exact (by repeat (first | (with_reducible first | exact HB.out | apply below_alloc | apply pw_below_drewN | apply below_drew1 | refine below_set ?_ GE138.out) | exact HB.out))); (case aF => exact (fun k_ hk => ⟨Kd.fresh' (Kd.R_lt (by (with_reducible repeat (first | apply Kd.R_alloc | apply Kd.R_drewN | apply Kd.R_drew)); exact HO_19.out)) k_ hk, Kd.freshB (g := gb138) (o := .cells #[.bool ((rd_T45 t133 x21_1).f0), .string ((rd_T45 t133 x21_1).f1), .int .i64 ((rd_T45 t133 x21_1).f2), .string ((rd_T45 t133 x21_1).f3)] 45 (0, 0)) (by (with_reducible repeat (first | refine blk_drewN ?_ _ | refine blk_drew ?_ | refine blk_alloc ?_ _)); exact BK138.out) k_ hk⟩)); (case aO => exact (by (with_reducible repeat (first | apply Kd.R_alloc | apply Kd.R_drewN | apply Kd.R_drew)); exact HO_8.out)); (case aS => exact (below_size (by repeat (first | (with_reducible first | exact HB.out | apply below_alloc | apply pw_below_drewN | apply below_drew1 | refine below_set ?_ GE138.out) | exact HB.out)))); (case aL => have := LMc12.out; omega); intro v141 w17 ho hb hg hat; rw [← Ny140.out] at ho; have n0_ := Aside0.mk (Kd.R_after (ok := (fun k_ => k_ ≠ gb138)) (by (with_reducible repeat (first | apply Kd.R_alloc | apply Kd.R_drewN | apply Kd.R_drew)); exact Kd.R_mono HO_19.out (fun _ hk => ⟨hk.2, hk.1⟩)) hg hat); have n1_ := Aside0.mk (blk_grown (g := gb138) (o := .cells #[.bool ((rd_T45 t133 x21_1).f0), .string ((rd_T45 t133 x21_1).f1), .int .i64 ((rd_T45 t133 x21_1).f2), .string ((rd_T45 t133 x21_1).f3)] 45 (0, 0)) (by (with_reducible repeat (first | refine blk_drewN ?_ _ | refine blk_drew ?_ | refine blk_alloc ?_ _)); exact BK138.out) hg (Kd.R_away HO_8.out (fun _ hk => hk.2))); have n2_ := Aside0.mk (hb); have n3_ := Aside0.mk (ho); clear HO_19; clear BK138; clear HB; clear HO_8; have HO_19 := n0_; have BK138 := n1_; have HB := n2_; have HO142 := n3_; clear n0_ n1_ n2_ n3_; clear ho hb hg hat))
                  go_roundg k1
                  case measure => have := HK1.out; omega
                  case rel => exact ⟨(y140), (wrap64 (x21_1 + 1)), (by first | rfl | (simp; done) | (simp [*]; done) | (simp; generalize ByteArray.toList _ = l_; cases l_ <;> rfl)), H', ⟨by have := HK1.out; omega⟩, ⟨by (with_reducible repeat (first | apply Kd.R_alloc | apply Kd.R_drewN | apply Kd.R_drew)); exact Kd.R_mono HO142.out (fun _ hk => hk.1)⟩, ⟨by (with_reducible repeat (first | apply Kd.R_alloc | apply Kd.R_drewN | apply Kd.R_drew)); exact Kd.R_mono HO_19.out (fun _ hk => hk.2)⟩, ⟨by repeat (first | (with_reducible first | exact HB.out | apply below_alloc | apply pw_below_drewN | apply below_drew1 | refine below_set ?_ GE138.out) | exact HB.out)⟩⟩
                · rw [if_neg c12] at H
                  exact absurd H (by simp)
              · replace c11 := Bool.eq_false_iff.mpr c11
                subst c11
                have H1 : (tap_Subset.l0 k1 a1 x8_1 t133 (t133.length : Int) (wrap64 (x21_1 + 1))) = some (r1, r2) := by rw [if_neg (show ¬ (false = true) by decide)] at H; exact H
                clear H
                have H := H1
                clear H1
                have H' := Aside0.mk H
                clear H
                have p137 : 0 ≤ (x21_1 : Int) := of_decide_eq_true (by first | (with_reducible assumption) | assumption)
                have q137 : x21_1 < (t133.length : Int) := of_decide_eq_true (by first | (with_reducible assumption) | assumption)
                obtain ⟨ad137, e137, hx137_0, hx137_1, hx137_2, hx137_3⟩ := at_T45 (Kd.R_reads' HO_19.out).2.2 x21_1 p137 q137
                cases e137
                replace p137 := eq_true p137
                replace q137 := eq_true q137
                go_wp2_with (first | ((with_reducible refine gate_dst (N := 10) rfl ?_); refine box_event ?hg (N := 10) ?hd (cs := #[.bool false, .string (⟨#[]⟩ : ByteArray), .int .i64 0, .string (⟨#[]⟩ : ByteArray)]) (t := 45) ?hr ?_; (case hd => rfl); (case hg => rfl); (case hr => first | (go_simp; done) | (go_simp; rfl)); intro gb138 hg w18 hbox hb; have n0_ := Aside0.mk (Kd.R_below (Kd.R_elderB (by (with_reducible repeat (first | apply Kd.R_alloc | apply Kd.R_drewN | apply Kd.R_drew)); exact HO_8.out) gb138 (Nat.le_of_eq hg.symm)) hb); have n1_ := Aside0.mk (Kd.R_below (Kd.R_elderB (by (with_reducible repeat (first | apply Kd.R_alloc | apply Kd.R_drewN | apply Kd.R_drew)); exact HO_19.out) gb138 (Nat.le_of_eq hg.symm)) hb); have n2_ := Aside0.mk (below_step (by repeat (first | (with_reducible first | exact HB.out | apply below_alloc | apply pw_below_drewN | apply below_drew1) | exact HB.out)) hb); have n3_ := Aside0.mk (hbox); have n4_ := Aside0.mk ((by rw [hg]; exact (below_size (by repeat (first | (with_reducible first | exact HB.out | apply below_alloc | apply pw_below_drewN | apply below_drew1) | exact HB.out))) : w.heap.size ≤ gb138)); have n5_ := Aside0.mk ((by rw [hg]; exact (below_size (by repeat (first | (with_reducible first | exact HB.out | apply below_alloc | apply pw_below_drewN | apply below_drew1) | exact HB.out))) : w.heap.size ≤ gb138)); clear HO_8; clear HO_19; clear HB; have HO_8 := n0_; have HO_19 := n1_; have HB := n2_; have BK138 := n3_; have GW138 := n4_; have GE138 := n5_; clear n0_ n1_ n2_ n3_ n4_ n5_; clear hb hbox hg; have hcz19_0 : w18.cell? ⟨gb138, 0, none⟩ = some (.bool false) := (blk_cell BK138.out 0).trans rfl; have hcz19_1 : w18.cell? ⟨gb138, 1, none⟩ = some (.string (⟨#[]⟩ : ByteArray)) := (blk_cell BK138.out 1).trans rfl; have hcz19_2 : w18.cell? ⟨gb138, 2, none⟩ = some (.int .i64 0) := (blk_cell BK138.out 2).trans rfl; have hcz19_3 : w18.cell? ⟨gb138, 3, none⟩ = some (.string (⟨#[]⟩ : ByteArray)) := (blk_cell BK138.out 3).trans rfl; have hfz19_0 := blk_frozen BK138.out 0; have hfz19_1 := blk_frozen BK138.out 1; have hfz19_2 := blk_frozen BK138.out 2; have hfz19_3 := blk_frozen BK138.out 3) | ((with_reducible refine gate_callee (f := 26) rfl ?_); refine goesL_ (some 28) rfl rfl Tryz.func26 (by kernel_rfl) rfl #[.string ((rd_T45 t133 x21_1).f1), .string a1] rfl (by (try simp only [List.map_toArray, List.map_cons, List.map_nil]); first | done | rfl | (simp only [List.length_drop, List.length_take]; rfl)) ?_; (with_reducible refine (strings_Contains.calls ((rd_T45 t133 x21_1).f1) a1 false _ ?side1 A10.out).mono ?_); (case side1 => first | exact hL | exact LaidW.below hL (by repeat (first | (with_reducible first | exact HB.out | apply below_alloc | apply pw_below_drewN | apply below_drew1 | refine below_set ?_ GE138.out) | exact HB.out))); rintro e w20 ⟨rfl, hb⟩; refine ⟨_, rfl, ?_⟩; have n0_ := Aside0.mk (Kd.R_below (by (with_reducible repeat (first | apply Kd.R_alloc | apply Kd.R_drewN | apply Kd.R_drew)); exact (Kd.R_mono (Kd.R_far (p := ⟨gb138, 3, none⟩) (Kd.R_far (p := ⟨gb138, 2, none⟩) (Kd.R_far (p := ⟨gb138, 1, none⟩) (Kd.R_far (p := ⟨gb138, 0, none⟩) (Kd.R_mono HO_8.out (fun k_ hk => (⟨hk, hk.2⟩ : _ ∧ k_ ≠ gb138))) (fun _ hk => hk.2) (.bool ((rd_T45 t133 x21_1).f0))) (fun _ hk => hk.2) (.string ((rd_T45 t133 x21_1).f1))) (fun _ hk => hk.2) (.int .i64 ((rd_T45 t133 x21_1).f2))) (fun _ hk => hk.2) (.string ((rd_T45 t133 x21_1).f3))) (fun _ h_ => h_.1))) hb); have n1_ := Aside0.mk (Kd.R_below (by (with_reducible repeat (first | apply Kd.R_alloc | apply Kd.R_drewN | apply Kd.R_drew)); exact (Kd.R_mono (Kd.R_far (p := ⟨gb138, 3, none⟩) (Kd.R_far (p := ⟨gb138, 2, none⟩) (Kd.R_far (p := ⟨gb138, 1, none⟩) (Kd.R_far (p := ⟨gb138, 0, none⟩) (Kd.R_mono HO_19.out (fun k_ hk => (⟨hk, hk.2⟩ : _ ∧ k_ ≠ gb138))) (fun _ hk => hk.2) (.bool ((rd_T45 t133 x21_1).f0))) (fun _ hk => hk.2) (.string ((rd_T45 t133 x21_1).f1))) (fun _ hk => hk.2) (.int .i64 ((rd_T45 t133 x21_1).f2))) (fun _ hk => hk.2) (.string ((rd_T45 t133 x21_1).f3))) (fun _ h_ => h_.1))) hb); have n2_ := Aside0.mk (blk_below (g := gb138) (o := .cells #[.bool ((rd_T45 t133 x21_1).f0), .string ((rd_T45 t133 x21_1).f1), .int .i64 ((rd_T45 t133 x21_1).f2), .string ((rd_T45 t133 x21_1).f3)] 45 (0, 0)) (by (with_reducible repeat (first | refine blk_drewN ?_ _ | refine blk_drew ?_ | refine blk_alloc ?_ _)); refine blk_put (cs := #[.bool ((rd_T45 t133 x21_1).f0), .string ((rd_T45 t133 x21_1).f1), .int .i64 ((rd_T45 t133 x21_1).f2), .string (⟨#[]⟩ : ByteArray)]) ?_ 3 _ rfl; (with_reducible repeat (first | refine blk_drewN ?_ _ | refine blk_drew ?_ | refine blk_alloc ?_ _)); refine blk_put (cs := #[.bool ((rd_T45 t133 x21_1).f0), .string ((rd_T45 t133 x21_1).f1), .int .i64 0, .string (⟨#[]⟩ : ByteArray)]) ?_ 2 _ rfl; (with_reducible repeat (first | refine blk_drewN ?_ _ | refine blk_drew ?_ | refine blk_alloc ?_ _)); refine blk_put (cs := #[.bool ((rd_T45 t133 x21_1).f0), .string (⟨#[]⟩ : ByteArray), .int .i64 0, .string (⟨#[]⟩ : ByteArray)]) ?_ 1 _ rfl; (with_reducible repeat (first | refine blk_drewN ?_ _ | refine blk_drew ?_ | refine blk_alloc ?_ _)); refine blk_put (cs := #[.bool false, .string (⟨#[]⟩ : ByteArray), .int .i64 0, .string (⟨#[]⟩ : ByteArray)]) ?_ 0 _ rfl; (with_reducible repeat (first | refine blk_drewN ?_ _ | refine blk_drew ?_ | refine blk_alloc ?_ _)); exact BK138.out) hb); have n3_ := Aside0.mk (below_step (by repeat (first | (with_reducible first | exact HB.out | apply below_alloc | apply pw_below_drewN | apply below_drew1 | refine below_set ?_ GE138.out) | exact HB.out)) hb); clear HO_8; clear HO_19; clear BK138; clear HB; have HO_8 := n0_; have HO_19 := n1_; have BK138 := n2_; have HB := n3_; clear n0_ n1_ n2_ n3_; (try clear hb); (try clear hb2); (try clear hk); (try clear hi)))
                go_roundg k1
                case measure => have := HK1.out; omega
                case rel => exact ⟨(x8_1), (wrap64 (x21_1 + 1)), (by first | rfl | (simp; done) | (simp [*]; done) | (simp; generalize ByteArray.toList _ = l_; cases l_ <;> rfl)), H', ⟨by have := HK1.out; omega⟩, ⟨by (with_reducible repeat (first | apply Kd.R_alloc | apply Kd.R_drewN | apply Kd.R_drew)); exact Kd.R_mono HO_8.out (fun _ hk => hk.1)⟩, ⟨by (with_reducible repeat (first | apply Kd.R_alloc | apply Kd.R_drewN | apply Kd.R_drew)); exact Kd.R_mono HO_19.out (fun _ hk => hk.1)⟩, ⟨by repeat (first | (with_reducible first | exact HB.out | apply below_alloc | apply pw_below_drewN | apply below_drew1 | refine below_set ?_ GE138.out) | exact HB.out)⟩⟩
            · rw [if_neg c9] at H
              exact absurd H (by simp)
          · rw [if_neg c8] at H
            exact absurd H (by simp)
        · rw [if_neg c7] at H
          have c7b0 : decide (x21_1 < (t133.length : Int)) = false := decide_eq_false c7
          clear c7
          replace H := Option.bind_eq_some_iff.mp H
          obtain ⟨t143, A210, H⟩ := H
          replace H : (some (t143, 0)) = some (r1, r2) := H
          have A21 := Aside0.mk A210
          clear A210
          simp only [Option.some.injEq, Prod.mk.injEq] at H
          obtain ⟨rfl, rfl⟩ := H
          obtain ⟨Ao22, co22, eo22⟩ := Kd.R_slice HO_8.out
          subst eo22
          go_wp2_with (first | ((with_reducible refine gate_callee (f := 27) rfl ?_); refine goesL_ (some 35) rfl rfl Tryz.func27 (by kernel_rfl) rfl #[.slice Ao22 x8_1.length co22] rfl (by (try simp only [List.map_toArray, List.map_cons, List.map_nil]); first | done | rfl | (simp only [List.length_drop, List.length_take]; rfl)) ?_; (with_reducible refine (tap_written.calls k1 _ _ x8_1 t143 _ ?side3 ?side1 ?side2 A21.out).mono ?_); (case side1 => repeat (first | exact (Kd.R_reads' HO_8.out).2.2 | (with_reducible refine Kd.C_alloc ?_ _) | (with_reducible refine Kd.C_drewN ?_ _) | (with_reducible refine Kd.C_drew ?_))); (case side2 => exact (Kd.R_reads' HO_8.out).2.1); (case side3 => first | exact hL | exact LaidW.below hL (by repeat (first | (with_reducible first | exact HB.out | apply below_alloc | apply pw_below_drewN | apply below_drew1) | exact HB.out))); rintro e w23 ⟨rfl, hb⟩; refine ⟨_, rfl, ?_⟩; have n0_ := Aside0.mk (Kd.R_below (by (with_reducible repeat (first | apply Kd.R_alloc | apply Kd.R_drewN | apply Kd.R_drew)); exact HO_8.out) hb); have n1_ := Aside0.mk (Kd.R_below (by (with_reducible repeat (first | apply Kd.R_alloc | apply Kd.R_drewN | apply Kd.R_drew)); exact HO_19.out) hb); have n2_ := Aside0.mk (below_step (by repeat (first | (with_reducible first | exact HB.out | apply below_alloc | apply pw_below_drewN | apply below_drew1) | exact HB.out)) hb); clear HO_8; clear HO_19; clear HB; have HO_8 := n0_; have HO_19 := n1_; have HB := n2_; clear n0_ n1_ n2_; (try clear hb); (try clear hb2); (try clear hk); (try clear hi)))
          go_ret2
          exact ⟨by first | rfl | (simp [errW_none, errW_some] <;> rfl) | (simp [*, errW_none, errW_some] <;> rfl), by repeat (first | (with_reducible first | exact HB.out | apply below_alloc | apply pw_below_drewN | apply below_drew1) | exact HB.out)⟩
  · rw [if_neg c4] at H
    have c4b0 : (t134 == 0) = false := beq_eq_false_iff_ne.mpr c4
    have c4b1 : (t134 != 0) = true := bne_iff_ne.mpr c4
    simp only [Option.some.injEq, Prod.mk.injEq] at H
    obtain ⟨rfl, rfl⟩ := H
    go_enter Tryz.func16, Tryz.ntmps16
    go_wp2_with (first | ((with_reducible refine gate_callee (f := 9) rfl ?_); refine goesL_ (some 13) rfl rfl Tryz.func9 (by kernel_rfl) rfl #[.string a0] rfl (by (try simp only [List.map_toArray, List.map_cons, List.map_nil]); first | done | rfl | (simp only [List.length_drop, List.length_take]; rfl)) ?_; (with_reducible refine (tap_Read.calls a0 t133 t134 _ ?side1 A3.out).mono ?_); (case side1 => first | exact hL | exact LaidW.below hL (by repeat (first | (with_reducible first | exact HB.out | apply below_alloc | apply pw_below_drewN | apply below_drew1) | exact HB.out))); rintro e w24 ⟨v135, rfl, ho0, hb⟩; refine ⟨_, rfl, ?_⟩; have n0_ := Aside0.mk (Kd.R_lower ho0 (below_size (by repeat (first | (with_reducible first | exact HB.out | apply below_alloc | apply pw_below_drewN | apply below_drew1) | exact HB.out)))); have n1_ := Aside0.mk (below_step (by repeat (first | (with_reducible first | exact HB.out | apply below_alloc | apply pw_below_drewN | apply below_drew1) | exact HB.out)) hb); clear HB; have HO136 := n0_; have HB := n1_; clear n0_ n1_; (try clear hb); (try clear hb2); (try clear hk); (try clear hi); (try clear ho0)))
    go_ret2
    exact ⟨by first | rfl | (simp [errW_none, errW_some] <;> rfl) | (simp [*, errW_none, errW_some] <;> rfl), by repeat (first | (with_reducible first | exact HB.out | apply below_alloc | apply pw_below_drewN | apply below_drew1) | exact HB.out)⟩
def motleyref27_isDigit.f (a0 : Int) : Option (Bool) := if 48 ≤ a0 then (some (decide (a0 ≤ 57))) else (some false)
set_option maxHeartbeats 8000000 in
set_option maxRecDepth 100000 in
theorem motleyref27_isDigit.calls (a0 : Int) (r : Bool) (w : World) (h : motleyref27_isDigit.f a0 = some r) :
    Calls Tryz.prog 81 #[.int .u8 a0] w fun e w' => e = .returned (.bool r) ∧ Drawn0 w w' := by
  have H : (if 48 ≤ a0 then (some (decide (a0 ≤ 57))) else (some false)) = some r := h
  clear h
  by_cases c2 : 48 ≤ a0
  · rw [if_pos c2] at H
    have c2b0 : decide (48 ≤ a0) = true := decide_eq_true c2
    clear c2
    obtain rfl := Option.some.inj H
    go_enter Tryz.func81, Tryz.ntmps81
    go_wp2
    go_ret
    exact ⟨by first | rfl | (simp; done) | (simp [*]; done) | (simp; generalize ByteArray.toList _ = l_; cases l_ <;> rfl), by repeat (first | exact Drawn0.refl _ | apply Drawn0.step)⟩
  · rw [if_neg c2] at H
    have c2b0 : decide (48 ≤ a0) = false := decide_eq_false c2
    clear c2
    obtain rfl := Option.some.inj H
    go_enter Tryz.func81, Tryz.ntmps81
    go_wp2
    go_ret
    exact ⟨by first | rfl | (simp; done) | (simp [*]; done) | (simp; generalize ByteArray.toList _ = l_; cases l_ <;> rfl), by repeat (first | exact Drawn0.refl _ | apply Drawn0.step)⟩
def motleyref27_digits.l0 : Nat → ByteArray → Int → Int → Option (Int)
  | 0, _, _, _ => none
  | k + 1, x0, x3, x4 => if x4 < (x0.size : Int) then (if 0 ≤ x4 then (motleyref27_digits.l0 k x0 (wrap64 ((wrap64 (10 * x3)) + (((bt x0 x4) - 48) % 256))) (wrap64 (x4 + 1))) else (none)) else (some x3)
def motleyref27_digits.f (k : Nat) (a0 : ByteArray) : Option (Int) := motleyref27_digits.l0 k a0 0 0
set_option maxHeartbeats 8000000 in
set_option maxRecDepth 100000 in
theorem motleyref27_digits.calls (k : Nat) (a0 : ByteArray) (r : Int) (w : World) (h : motleyref27_digits.f k a0 = some r) :
    Calls Tryz.prog 82 #[.string a0] w fun e w' => e = .returned (.int .i64 r) ∧ Drawn0 w w' := by
  have H : (motleyref27_digits.l0 k a0 0 0) = some r := h
  clear h
  have H' := Aside0.mk H
  clear H
  go_enter Tryz.func82, Tryz.ntmps82
  go_wp2
  go_loopg [3, 4] k (fun kq v3 v4 w' => ∃ (x3_1 : Int) (x4_1 : Int), v3 = .int .i64 x3_1 ∧ v4 = .int .i64 x4_1 ∧ Aside0 (motleyref27_digits.l0 kq a0 x3_1 x4_1 = some r) ∧ Aside0 (kq ≤ k) ∧ Drawn0 w w')
  case atStart => exact ⟨(0), (0), (by first | rfl | (simp; done) | (simp [*]; done) | (simp; generalize ByteArray.toList _ = l_; cases l_ <;> rfl)), (by first | rfl | (simp; done) | (simp [*]; done) | (simp; generalize ByteArray.toList _ = l_; cases l_ <;> rfl)), H', ⟨Nat.le_refl _⟩, by repeat (first | exact Drawn0.refl _ | apply Drawn0.step)⟩
  case round =>
    clear H'
    obtain ⟨x3_1, x4_1, rfl, rfl, HA, HK1, ⟨m1, rfl⟩⟩ := hrel
    cases gk with
    | zero => exact absurd HA.out (by simp [motleyref27_digits.l0])
    | succ k1 =>
      have H := HA.out
      clear HA
      simp only [motleyref27_digits.l0] at H
      by_cases c2 : x4_1 < (a0.size : Int)
      · rw [if_pos c2] at H
        have c2b0 : decide (x4_1 < (a0.size : Int)) = true := decide_eq_true c2
        clear c2
        by_cases c3 : 0 ≤ x4_1
        · rw [if_pos c3] at H
          have c3b0 : decide (0 ≤ x4_1) = true := decide_eq_true c3
          clear c3
          have H' := Aside0.mk H
          clear H
          have p4 : 0 ≤ (x4_1 : Int) := of_decide_eq_true (by first | (with_reducible assumption) | assumption)
          have q4 : x4_1 < (a0.size : Int) := of_decide_eq_true (by first | (with_reducible assumption) | assumption)
          have hx4 := bt_at a0 x4_1
          replace p4 := eq_true p4
          replace q4 := eq_true q4
          go_wp2
          go_roundg k1
          case measure => have := HK1.out; omega
          case rel => exact ⟨(wrap64 ((wrap64 (10 * x3_1)) + (((bt a0 x4_1) - 48) % 256))), (wrap64 (x4_1 + 1)), (by first | rfl | (simp; done) | (simp [*]; done) | (simp; generalize ByteArray.toList _ = l_; cases l_ <;> rfl)), (by first | rfl | (simp; done) | (simp [*]; done) | (simp; generalize ByteArray.toList _ = l_; cases l_ <;> rfl)), H', ⟨by have := HK1.out; omega⟩, by repeat (first | exact Drawn0.refl _ | apply Drawn0.step)⟩
        · rw [if_neg c3] at H
          exact absurd H (by simp)
      · rw [if_neg c2] at H
        have c2b0 : decide (x4_1 < (a0.size : Int)) = false := decide_eq_false c2
        clear c2
        obtain rfl := Option.some.inj H
        go_wp2
        go_ret
        exact ⟨by first | rfl | (simp; done) | (simp [*]; done) | (simp; generalize ByteArray.toList _ = l_; cases l_ <;> rfl), by repeat (first | exact Drawn0.refl _ | apply Drawn0.step)⟩
mutual
def motleyref27_write.l0 : Nat → List (S53) → ByteArray → Int → Option (ByteArray)
  | 0, _, _, _ => none
  | k + 1, x0, x3, x4 => if x4 < (x0.length : Int) then (if 0 ≤ x4 then (if ((rd_T53 x0 x4).f0 = true) then (motleyref27_write.j1 k x0 x3 x4) else (if x3.size + 4 ≤ 9223372036854775807 then (motleyref27_write.j1 k x0 (x3 ++ (⟨#[110, 111, 116, 32]⟩ : ByteArray)) x4) else (none))) else (none)) else (some x3)
def motleyref27_write.j1 : Nat → List (S53) → ByteArray → Int → Option (ByteArray)
  | 0, _, _, _ => none
  | k + 1, x0, x3, x4 => (motleyref01_Written.f (wrap64 (x4 + 1))).bind fun t146 => (if 3 + t146.size ≤ 9223372036854775807 then (if x3.size + ((⟨#[111, 107, 32]⟩ : ByteArray) ++ t146).size ≤ 9223372036854775807 then (if 0 ≤ x4 then (if x4 < (x0.length : Int) then (if ((rd_T53 x0 x4).f1).toList = ([] : List UInt8) then (motleyref27_write.j2 k x0 (x3 ++ ((⟨#[111, 107, 32]⟩ : ByteArray) ++ t146)) x4) else (if 3 + ((rd_T53 x0 x4).f1).size ≤ 9223372036854775807 then (if (x3 ++ ((⟨#[111, 107, 32]⟩ : ByteArray) ++ t146)).size + ((⟨#[32, 45, 32]⟩ : ByteArray) ++ ((rd_T53 x0 x4).f1)).size ≤ 9223372036854775807 then (motleyref27_write.j2 k x0 ((x3 ++ ((⟨#[111, 107, 32]⟩ : ByteArray) ++ t146)) ++ ((⟨#[32, 45, 32]⟩ : ByteArray) ++ ((rd_T53 x0 x4).f1))) x4) else (none)) else (none))) else (none)) else (none)) else (none)) else (none))
def motleyref27_write.j2 : Nat → List (S53) → ByteArray → Int → Option (ByteArray)
  | 0, _, _, _ => none
  | k + 1, x0, x3, x4 => if 0 ≤ x4 then (if x4 < (x0.length : Int) then (if ((rd_T53 x0 x4).f2) > 0 then ((some (([(⟨#[]⟩ : ByteArray), (⟨#[83, 75, 73, 80]⟩ : ByteArray), (⟨#[84, 79, 68, 79]⟩ : ByteArray)] : List ByteArray) : List ByteArray)).bind fun y150 => (if 0 ≤ ((rd_T53 x0 x4).f2) then (if ((rd_T53 x0 x4).f2) < (y150.length : Int) then (if 3 + (rdOf ByteArray.empty y150 ((rd_T53 x0 x4).f2)).size ≤ 9223372036854775807 then (if x3.size + ((⟨#[32, 35, 32]⟩ : ByteArray) ++ (rdOf ByteArray.empty y150 ((rd_T53 x0 x4).f2))).size ≤ 9223372036854775807 then (if ((rd_T53 x0 x4).f3).toList = ([] : List UInt8) then (if (x3 ++ ((⟨#[32, 35, 32]⟩ : ByteArray) ++ (rdOf ByteArray.empty y150 ((rd_T53 x0 x4).f2)))).size + 1 ≤ 9223372036854775807 then (motleyref27_write.l0 k x0 ((x3 ++ ((⟨#[32, 35, 32]⟩ : ByteArray) ++ (rdOf ByteArray.empty y150 ((rd_T53 x0 x4).f2)))) ++ (⟨#[10]⟩ : ByteArray)) (wrap64 (x4 + 1))) else (none)) else (if 1 + ((rd_T53 x0 x4).f3).size ≤ 9223372036854775807 then (if (x3 ++ ((⟨#[32, 35, 32]⟩ : ByteArray) ++ (rdOf ByteArray.empty y150 ((rd_T53 x0 x4).f2)))).size + ((⟨#[32]⟩ : ByteArray) ++ ((rd_T53 x0 x4).f3)).size ≤ 9223372036854775807 then (if ((x3 ++ ((⟨#[32, 35, 32]⟩ : ByteArray) ++ (rdOf ByteArray.empty y150 ((rd_T53 x0 x4).f2)))) ++ ((⟨#[32]⟩ : ByteArray) ++ ((rd_T53 x0 x4).f3))).size + 1 ≤ 9223372036854775807 then (motleyref27_write.l0 k x0 (((x3 ++ ((⟨#[32, 35, 32]⟩ : ByteArray) ++ (rdOf ByteArray.empty y150 ((rd_T53 x0 x4).f2)))) ++ ((⟨#[32]⟩ : ByteArray) ++ ((rd_T53 x0 x4).f3))) ++ (⟨#[10]⟩ : ByteArray)) (wrap64 (x4 + 1))) else (none)) else (none)) else (none))) else (none)) else (none)) else (none)) else (none))) else (if ((rd_T53 x0 x4).f3).toList = ([] : List UInt8) then (if x3.size + 1 ≤ 9223372036854775807 then (motleyref27_write.l0 k x0 (x3 ++ (⟨#[10]⟩ : ByteArray)) (wrap64 (x4 + 1))) else (none)) else (if 1 + ((rd_T53 x0 x4).f3).size ≤ 9223372036854775807 then (if x3.size + ((⟨#[32]⟩ : ByteArray) ++ ((rd_T53 x0 x4).f3)).size ≤ 9223372036854775807 then (if (x3 ++ ((⟨#[32]⟩ : ByteArray) ++ ((rd_T53 x0 x4).f3))).size + 1 ≤ 9223372036854775807 then (motleyref27_write.l0 k x0 ((x3 ++ ((⟨#[32]⟩ : ByteArray) ++ ((rd_T53 x0 x4).f3))) ++ (⟨#[10]⟩ : ByteArray)) (wrap64 (x4 + 1))) else (none)) else (none)) else (none)))) else (none)) else (none)
end
def motleyref27_write.f (k : Nat) (l0 : List (S53)) : Option (ByteArray) := (motleyref01_Written.f (l0.length : Int)).bind fun t144 => (if 3 + t144.size ≤ 9223372036854775807 then (if ((⟨#[49, 46, 46]⟩ : ByteArray) ++ t144).size + 1 ≤ 9223372036854775807 then (motleyref27_write.l0 k l0 (((⟨#[49, 46, 46]⟩ : ByteArray) ++ t144) ++ (⟨#[10]⟩ : ByteArray)) 0) else (none)) else (none))
set_option maxHeartbeats 8000000 in
set_option maxRecDepth 100000 in
theorem motleyref27_write.calls (k : Nat) (A0 : Option Addr) (c0 : Nat) (l0 : List (S53)) (r : ByteArray) (w : World) (hr0 : Kd.C k53 w A0 l0.length l0) (hc0 : l0.length ≤ c0) (h : motleyref27_write.f k l0 = some r) :
    Calls Tryz.prog 25 #[.slice A0 l0.length c0] w fun e w' => e = .returned (.string r) ∧ Below w.heap.size w w' := by
  have HR0 := Aside0.mk hr0
  have HC0 := Aside0.mk hc0
  clear hr0 hc0
  have HB := Aside0.mk (Below.refl w.heap.size w)
  have H : ((motleyref01_Written.f (l0.length : Int)).bind fun t144 => (if 3 + t144.size ≤ 9223372036854775807 then (if ((⟨#[49, 46, 46]⟩ : ByteArray) ++ t144).size + 1 ≤ 9223372036854775807 then (motleyref27_write.l0 k l0 (((⟨#[49, 46, 46]⟩ : ByteArray) ++ t144) ++ (⟨#[10]⟩ : ByteArray)) 0) else (none)) else (none))) = some r := h
  clear h
  replace H := Option.bind_eq_some_iff.mp H
  obtain ⟨t144, A20, H⟩ := H
  replace H : (if 3 + t144.size ≤ 9223372036854775807 then (if ((⟨#[49, 46, 46]⟩ : ByteArray) ++ t144).size + 1 ≤ 9223372036854775807 then (motleyref27_write.l0 k l0 (((⟨#[49, 46, 46]⟩ : ByteArray) ++ t144) ++ (⟨#[10]⟩ : ByteArray)) 0) else (none)) else (none)) = some r := H
  have A2 := Aside0.mk A20
  clear A20
  by_cases c3 : 3 + t144.size ≤ 9223372036854775807
  · rw [if_pos c3] at H
    have c3b0 := eq_true c3
    have c3b1 : decide (3 + t144.size ≤ 9223372036854775807) = true := decide_eq_true c3
    try have c3b2 : (9223372036854775807 < 3 + t144.size) = False := eq_false (Nat.not_lt.2 c3)
    by_cases c4 : ((⟨#[49, 46, 46]⟩ : ByteArray) ++ t144).size + 1 ≤ 9223372036854775807
    · rw [if_pos c4] at H
      have c4b0 := eq_true c4
      have c4b1 : decide (((⟨#[49, 46, 46]⟩ : ByteArray) ++ t144).size + 1 ≤ 9223372036854775807) = true := decide_eq_true c4
      try have c4b3 : (9223372036854775807 < 3 + t144.size + 1) = False := eq_false (by have h_ := c4; (first | simp only [ByteArray.size_append, ByteArray.size_extract, Nat.min_self] at h_ | simp only [ByteArray.size_append] at h_); exact Nat.not_lt.2 h_)
      try have c4b2 : (9223372036854775807 < ((⟨#[49, 46, 46]⟩ : ByteArray) ++ t144).size + 1) = False := eq_false (Nat.not_lt.2 c4)
      have H' := Aside0.mk H
      clear H
      go_enter Tryz.func25, Tryz.ntmps25
      go_wp2_with (first | ((with_reducible refine gate_callee (f := 47) rfl ?_); refine goesL_ (some 7) rfl rfl Tryz.func47 (by kernel_rfl) rfl #[.int .i64 (l0.length : Int)] rfl (by (try simp only [List.map_toArray, List.map_cons, List.map_nil]); first | done | rfl | (simp only [List.length_drop, List.length_take]; rfl)) ?_; (with_reducible refine (motleyref01_Written.calls (l0.length : Int) t144 _ A2.out).mono ?_); rintro e w' ⟨rfl, ⟨nd, rfl⟩⟩; refine ⟨_, rfl, ?_⟩))
      go_loopg [3, 4] k (fun kq v3 v4 w' => ∃ (x3_1 : ByteArray) (x4_1 : Int), v3 = .string x3_1 ∧ v4 = .int .i64 x4_1 ∧ Aside0 (motleyref27_write.l0 kq l0 x3_1 x4_1 = some r) ∧ Aside0 (kq ≤ k) ∧ Aside0 (Below w.heap.size w w'))
      case atStart => exact ⟨(((⟨#[49, 46, 46]⟩ : ByteArray) ++ t144) ++ (⟨#[10]⟩ : ByteArray)), (0), (by first | rfl | (simp; done) | (simp [*]; done) | (simp; generalize ByteArray.toList _ = l_; cases l_ <;> rfl)), (by first | rfl | (simp; done) | (simp [*]; done) | (simp; generalize ByteArray.toList _ = l_; cases l_ <;> rfl)), H', ⟨Nat.le_refl _⟩, ⟨by repeat (first | (with_reducible first | exact HB.out | apply below_alloc | apply pw_below_drewN | apply below_drew1) | exact HB.out)⟩⟩
      case round =>
        clear H'
        try clear c2
        try clear p2
        try clear c3
        try clear c3b0
        try clear c3b1
        try clear c3b2
        try clear c4
        try clear c4b0
        try clear c4b1
        try clear c4b2
        obtain ⟨x3_1, x4_1, rfl, rfl, HA, HK1, HB⟩ := hrel
        cases gk with
        | zero => exact absurd HA.out (by simp [motleyref27_write.l0])
        | succ k1 =>
          have H := HA.out
          clear HA
          simp only [motleyref27_write.l0] at H
          by_cases c5 : x4_1 < (l0.length : Int)
          · rw [if_pos c5] at H
            have c5b0 : decide (x4_1 < (l0.length : Int)) = true := decide_eq_true c5
            clear c5
            by_cases c6 : 0 ≤ x4_1
            · rw [if_pos c6] at H
              have c6b0 : decide (0 ≤ x4_1) = true := decide_eq_true c6
              clear c6
              have HC7 := Aside0.mk H
              clear H
              have p145 : 0 ≤ (x4_1 : Int) := of_decide_eq_true (by first | (with_reducible assumption) | assumption)
              have q145 : x4_1 < (l0.length : Int) := of_decide_eq_true (by first | (with_reducible assumption) | assumption)
              obtain ⟨ad145, e145, hx145_0, hx145_1, hx145_2, hx145_3⟩ := at_T53 HR0.out x4_1 p145 q145
              cases e145
              replace hx145_0 := (HB.out.cell (World.block_lt_of_cell? w _ hx145_0)).trans hx145_0
              replace hx145_1 := (HB.out.cell (World.block_lt_of_cell? w _ hx145_1)).trans hx145_1
              replace hx145_2 := (HB.out.cell (World.block_lt_of_cell? w _ hx145_2)).trans hx145_2
              replace hx145_3 := (HB.out.cell (World.block_lt_of_cell? w _ hx145_3)).trans hx145_3
              replace p145 := eq_true p145
              replace q145 := eq_true q145
              go_upto_if 21 with (fail)
              go_cut [3] (fun v3 wc => ∃ (kq : Nat) (x3_6 : ByteArray), v3 = .string x3_6 ∧ Aside0 (motleyref27_write.j1 kq l0 x3_6 x4_1 = some r) ∧ Aside0 (kq ≤ k1) ∧ Aside0 (Below w.heap.size w wc))
              case first =>
                have H := HC7.out
                clear HC7
                obtain ⟨bq8, hbq8⟩ : ∃ b_ : Bool, b_ = ((rd_T53 l0 x4_1).f0) := ⟨_, rfl⟩
                replace H : (if (bq8 = true) then (motleyref27_write.j1 k1 l0 x3_1 x4_1) else (if x3_1.size + 4 ≤ 9223372036854775807 then (motleyref27_write.j1 k1 l0 (x3_1 ++ (⟨#[110, 111, 116, 32]⟩ : ByteArray)) x4_1) else (none))) = some r := by rw [← hbq8] at H; exact H
                have Nbq8 := Aside0.mk hbq8
                clear hbq8
                (try rw [← Nbq8.out])
                by_cases c9 : (bq8 = true)
                · subst c9
                  have H1 : (motleyref27_write.j1 k1 l0 x3_1 x4_1) = some r := by rw [if_pos rfl] at H; exact H
                  clear H
                  have H := H1
                  clear H1
                  have H' := Aside0.mk H
                  clear H
                  go_wp2
                  go_meet
                  case rel => (try rw [← Nbq8.out]); exact ⟨_, (x3_1), (by first | rfl | (simp; done) | (simp [*]; done) | (simp; generalize ByteArray.toList _ = l_; cases l_ <;> rfl)), H', ⟨by have := HK1.out; first | omega | exact Nat.le_refl _⟩, ⟨by repeat (first | (with_reducible first | exact HB.out | apply below_alloc | apply pw_below_drewN | apply below_drew1) | exact HB.out)⟩⟩
                · replace c9 := Bool.eq_false_iff.mpr c9
                  subst c9
                  have H1 : (if x3_1.size + 4 ≤ 9223372036854775807 then (motleyref27_write.j1 k1 l0 (x3_1 ++ (⟨#[110, 111, 116, 32]⟩ : ByteArray)) x4_1) else (none)) = some r := by rw [if_neg (show ¬ (false = true) by decide)] at H; exact H
                  clear H
                  have H := H1
                  clear H1
                  by_cases c10 : x3_1.size + 4 ≤ 9223372036854775807
                  · rw [if_pos c10] at H
                    have c10b0 := eq_true c10
                    have c10b1 : decide (x3_1.size + 4 ≤ 9223372036854775807) = true := decide_eq_true c10
                    try have c10b2 : (9223372036854775807 < x3_1.size + 4) = False := eq_false (Nat.not_lt.2 c10)
                    have H' := Aside0.mk H
                    clear H
                    go_wp2
                    go_meet
                    case rel => (try rw [← Nbq8.out]); exact ⟨_, (x3_1 ++ (⟨#[110, 111, 116, 32]⟩ : ByteArray)), (by first | rfl | (simp; done) | (simp [*]; done) | (simp; generalize ByteArray.toList _ = l_; cases l_ <;> rfl)), H', ⟨by have := HK1.out; first | omega | exact Nat.le_refl _⟩, ⟨by repeat (first | (with_reducible first | exact HB.out | apply below_alloc | apply pw_below_drewN | apply below_drew1) | exact HB.out)⟩⟩
                  · rw [if_neg c10] at H
                    exact absurd H (by simp)
              case rest =>
                clear HC7
                try clear c1
                try clear p1
                try clear q1
                try clear hx1
                try clear c2
                try clear p2
                try clear c3
                try clear c3b0
                try clear c3b1
                try clear c3b2
                try clear c4
                try clear c4b0
                try clear c4b1
                try clear c4b2
                try clear c5
                try clear c5b0
                try clear c6
                try clear c6b0
                try clear q8
                try clear c9
                try clear c10
                try clear c10b0
                try clear c10b1
                try clear c10b2
                try clear hx145_0
                try clear hx145_1
                try clear hx145_2
                try clear hx145_3
                try clear p145
                try clear p2
                try clear q145
                obtain ⟨kq, x3_6, rfl, HA, HJ6, HB⟩ := hcut
                cases kq with
                | zero => exact absurd HA.out (by simp [motleyref27_write.j1])
                | succ kj6 =>
                  have H := HA.out
                  clear HA
                  simp only [motleyref27_write.j1] at H
                  replace H := Option.bind_eq_some_iff.mp H
                  obtain ⟨t146, A110, H⟩ := H
                  replace H : (if 3 + t146.size ≤ 9223372036854775807 then (if x3_6.size + ((⟨#[111, 107, 32]⟩ : ByteArray) ++ t146).size ≤ 9223372036854775807 then (if 0 ≤ x4_1 then (if x4_1 < (l0.length : Int) then (if ((rd_T53 l0 x4_1).f1).toList = ([] : List UInt8) then (motleyref27_write.j2 kj6 l0 (x3_6 ++ ((⟨#[111, 107, 32]⟩ : ByteArray) ++ t146)) x4_1) else (if 3 + ((rd_T53 l0 x4_1).f1).size ≤ 9223372036854775807 then (if (x3_6 ++ ((⟨#[111, 107, 32]⟩ : ByteArray) ++ t146)).size + ((⟨#[32, 45, 32]⟩ : ByteArray) ++ ((rd_T53 l0 x4_1).f1)).size ≤ 9223372036854775807 then (motleyref27_write.j2 kj6 l0 ((x3_6 ++ ((⟨#[111, 107, 32]⟩ : ByteArray) ++ t146)) ++ ((⟨#[32, 45, 32]⟩ : ByteArray) ++ ((rd_T53 l0 x4_1).f1))) x4_1) else (none)) else (none))) else (none)) else (none)) else (none)) else (none)) = some r := H
                  have A11 := Aside0.mk A110
                  clear A110
                  by_cases c12 : 3 + t146.size ≤ 9223372036854775807
                  · rw [if_pos c12] at H
                    have c12b0 := eq_true c12
                    have c12b1 : decide (3 + t146.size ≤ 9223372036854775807) = true := decide_eq_true c12
                    try have c12b2 : (9223372036854775807 < 3 + t146.size) = False := eq_false (Nat.not_lt.2 c12)
                    by_cases c13 : x3_6.size + ((⟨#[111, 107, 32]⟩ : ByteArray) ++ t146).size ≤ 9223372036854775807
                    · rw [if_pos c13] at H
                      have c13b0 := eq_true c13
                      have c13b1 : decide (x3_6.size + ((⟨#[111, 107, 32]⟩ : ByteArray) ++ t146).size ≤ 9223372036854775807) = true := decide_eq_true c13
                      try have c13b3 : (9223372036854775807 < x3_6.size + (3 + t146.size)) = False := eq_false (by have h_ := c13; (first | simp only [ByteArray.size_append, ByteArray.size_extract, Nat.min_self] at h_ | simp only [ByteArray.size_append] at h_); exact Nat.not_lt.2 h_)
                      try have c13b2 : (9223372036854775807 < x3_6.size + ((⟨#[111, 107, 32]⟩ : ByteArray) ++ t146).size) = False := eq_false (Nat.not_lt.2 c13)
                      by_cases c14 : 0 ≤ x4_1
                      · rw [if_pos c14] at H
                        have c14b0 : decide (0 ≤ x4_1) = true := decide_eq_true c14
                        clear c14
                        by_cases c15 : x4_1 < (l0.length : Int)
                        · rw [if_pos c15] at H
                          have c15b0 : decide (x4_1 < (l0.length : Int)) = true := decide_eq_true c15
                          clear c15
                          have HC16 := Aside0.mk H
                          clear H
                          go_upto_if 35 with (first | ((with_reducible refine gate_callee (f := 47) rfl ?_); refine goesL_ (some 27) rfl rfl Tryz.func47 (by kernel_rfl) rfl #[.int .i64 (wrap64 (x4_1 + 1))] rfl (by (try simp only [List.map_toArray, List.map_cons, List.map_nil]); first | done | rfl | (simp only [List.length_drop, List.length_take]; rfl)) ?_; (with_reducible refine (motleyref01_Written.calls (wrap64 (x4_1 + 1)) t146 _ A11.out).mono ?_); rintro e w' ⟨rfl, ⟨nd, rfl⟩⟩; refine ⟨_, rfl, ?_⟩; have p147 : 0 ≤ (x4_1 : Int) := of_decide_eq_true (by first | (with_reducible assumption) | assumption); have q147 : x4_1 < (l0.length : Int) := of_decide_eq_true (by first | (with_reducible assumption) | assumption); obtain ⟨ad147, e147, hx147_0, hx147_1, hx147_2, hx147_3⟩ := at_T53 HR0.out x4_1 p147 q147; obtain rfl : ad145 = ad147 := (by injection e147); replace hx147_0 := (HB.out.cell (World.block_lt_of_cell? w _ hx147_0)).trans hx147_0; replace hx147_1 := (HB.out.cell (World.block_lt_of_cell? w _ hx147_1)).trans hx147_1; replace hx147_2 := (HB.out.cell (World.block_lt_of_cell? w _ hx147_2)).trans hx147_2; replace hx147_3 := (HB.out.cell (World.block_lt_of_cell? w _ hx147_3)).trans hx147_3; replace p147 := eq_true p147; replace q147 := eq_true q147))
                          (try simp only [Act.put, List.setIfInBounds_toArray, List.set_cons_zero, List.set_cons_succ])
                          go_cut [3] (fun v3 wc => ∃ (kq : Nat) (x3_15 : ByteArray), v3 = .string x3_15 ∧ Aside0 (motleyref27_write.j2 kq l0 x3_15 x4_1 = some r) ∧ Aside0 (kq ≤ kj6) ∧ Aside0 (Below w.heap.size w wc))
                          case first =>
                            have H := HC16.out
                            clear HC16
                            by_cases c17 : ((rd_T53 l0 x4_1).f1).toList = ([] : List UInt8)
                            · rw [if_pos c17] at H
                              have c17b0 : (((rd_T53 l0 x4_1).f1).toList == ([] : List UInt8)) = true := beq_iff_eq.mpr c17
                              have c17b1 : (((rd_T53 l0 x4_1).f1).toList != ([] : List UInt8)) = false := bne_eq_false_iff_eq.mpr c17
                              (try (have c17b2 : ((rd_T53 l0 x4_1).f1).toList.isEmpty = true := by simpa using c17))
                              (try (have c17b3 : List.isEmpty (((rd_T53 l0 x4_1).f1).toList) = true := by simpa using c17))
                              clear c17
                              (first | rw [c17b0] | (simp only [i64_w, i32_w]; rw [c17b0]) | skip); (try rw [c17b2])
                              have H' := Aside0.mk H
                              clear H
                              go_wp2
                              go_meet
                              case rel => exact ⟨_, (x3_6 ++ ((⟨#[111, 107, 32]⟩ : ByteArray) ++ t146)), (by first | rfl | (simp; done) | (simp [*]; done) | (simp; generalize ByteArray.toList _ = l_; cases l_ <;> rfl)), H', ⟨by have := HK1.out; have := HJ6.out; first | omega | exact Nat.le_refl _⟩, ⟨by repeat (first | (with_reducible first | exact HB.out | apply below_alloc | apply pw_below_drewN | apply below_drew1) | exact HB.out)⟩⟩
                            · rw [if_neg c17] at H
                              have c17b0 : (((rd_T53 l0 x4_1).f1).toList == ([] : List UInt8)) = false := beq_eq_false_iff_ne.mpr c17
                              have c17b1 : (((rd_T53 l0 x4_1).f1).toList != ([] : List UInt8)) = true := bne_iff_ne.mpr c17
                              (try (have c17b2 : ((rd_T53 l0 x4_1).f1).toList.isEmpty = false := by simpa using c17))
                              (try (have c17b3 : List.isEmpty (((rd_T53 l0 x4_1).f1).toList) = false := by simpa using c17))
                              (first | rw [c17b0] | (simp only [i64_w, i32_w]; rw [c17b0]) | skip); (try rw [c17b2])
                              by_cases c18 : 3 + ((rd_T53 l0 x4_1).f1).size ≤ 9223372036854775807
                              · rw [if_pos c18] at H
                                have c18b0 := eq_true c18
                                have c18b1 : decide (3 + ((rd_T53 l0 x4_1).f1).size ≤ 9223372036854775807) = true := decide_eq_true c18
                                try have c18b2 : (9223372036854775807 < 3 + ((rd_T53 l0 x4_1).f1).size) = False := eq_false (Nat.not_lt.2 c18)
                                by_cases c19 : (x3_6 ++ ((⟨#[111, 107, 32]⟩ : ByteArray) ++ t146)).size + ((⟨#[32, 45, 32]⟩ : ByteArray) ++ ((rd_T53 l0 x4_1).f1)).size ≤ 9223372036854775807
                                · rw [if_pos c19] at H
                                  have c19b0 := eq_true c19
                                  have c19b1 : decide ((x3_6 ++ ((⟨#[111, 107, 32]⟩ : ByteArray) ++ t146)).size + ((⟨#[32, 45, 32]⟩ : ByteArray) ++ ((rd_T53 l0 x4_1).f1)).size ≤ 9223372036854775807) = true := decide_eq_true c19
                                  try have c19b3 : (9223372036854775807 < x3_6.size + (3 + t146.size) + (3 + ((rd_T53 l0 x4_1).f1).size)) = False := eq_false (by have h_ := c19; (first | simp only [ByteArray.size_append, ByteArray.size_extract, Nat.min_self] at h_ | simp only [ByteArray.size_append] at h_); exact Nat.not_lt.2 h_)
                                  try have c19b2 : (9223372036854775807 < (x3_6 ++ ((⟨#[111, 107, 32]⟩ : ByteArray) ++ t146)).size + ((⟨#[32, 45, 32]⟩ : ByteArray) ++ ((rd_T53 l0 x4_1).f1)).size) = False := eq_false (Nat.not_lt.2 c19)
                                  have H' := Aside0.mk H
                                  clear H
                                  have p148 : 0 ≤ (x4_1 : Int) := of_decide_eq_true (by first | (with_reducible assumption) | assumption)
                                  have q148 : x4_1 < (l0.length : Int) := of_decide_eq_true (by first | (with_reducible assumption) | assumption)
                                  obtain ⟨ad148, e148, hx148_0, hx148_1, hx148_2, hx148_3⟩ := at_T53 HR0.out x4_1 p148 q148
                                  obtain rfl : ad145 = ad148 := (by injection e148)
                                  replace hx148_0 := (HB.out.cell (World.block_lt_of_cell? w _ hx148_0)).trans hx148_0
                                  replace hx148_1 := (HB.out.cell (World.block_lt_of_cell? w _ hx148_1)).trans hx148_1
                                  replace hx148_2 := (HB.out.cell (World.block_lt_of_cell? w _ hx148_2)).trans hx148_2
                                  replace hx148_3 := (HB.out.cell (World.block_lt_of_cell? w _ hx148_3)).trans hx148_3
                                  replace p148 := eq_true p148
                                  replace q148 := eq_true q148
                                  go_wp2
                                  go_meet
                                  case rel => exact ⟨_, ((x3_6 ++ ((⟨#[111, 107, 32]⟩ : ByteArray) ++ t146)) ++ ((⟨#[32, 45, 32]⟩ : ByteArray) ++ ((rd_T53 l0 x4_1).f1))), (by first | rfl | (simp; done) | (simp [*]; done) | (simp; generalize ByteArray.toList _ = l_; cases l_ <;> rfl)), H', ⟨by have := HK1.out; have := HJ6.out; first | omega | exact Nat.le_refl _⟩, ⟨by repeat (first | (with_reducible first | exact HB.out | apply below_alloc | apply pw_below_drewN | apply below_drew1) | exact HB.out)⟩⟩
                                · rw [if_neg c19] at H
                                  exact absurd H (by simp)
                              · rw [if_neg c18] at H
                                exact absurd H (by simp)
                          case rest =>
                            clear HC16
                            try clear c1
                            try clear p1
                            try clear q1
                            try clear hx1
                            try clear c2
                            try clear p2
                            try clear c3
                            try clear c3b0
                            try clear c3b1
                            try clear c3b2
                            try clear c4
                            try clear c4b0
                            try clear c4b1
                            try clear c4b2
                            try clear c5
                            try clear c5b0
                            try clear c6
                            try clear c6b0
                            try clear p6
                            try clear q8
                            try clear c9
                            try clear c10
                            try clear c10b0
                            try clear c10b1
                            try clear c10b2
                            try clear c12
                            try clear c12b0
                            try clear c12b1
                            try clear c12b2
                            try clear c13
                            try clear c13b0
                            try clear c13b1
                            try clear c13b2
                            try clear c14
                            try clear c14b0
                            try clear p14
                            try clear q14
                            try clear hx14
                            try clear c15
                            try clear c15b0
                            try clear c17
                            try clear c17b0
                            try clear c17b1
                            try clear c17b2
                            try clear c18
                            try clear c18b0
                            try clear c18b1
                            try clear c18b2
                            try clear c19
                            try clear c19b0
                            try clear c19b1
                            try clear c19b2
                            try clear hx145_0
                            try clear hx145_1
                            try clear hx145_2
                            try clear hx145_3
                            try clear hx147_0
                            try clear hx147_1
                            try clear hx147_2
                            try clear hx147_3
                            try clear hx148_0
                            try clear hx148_1
                            try clear hx148_2
                            try clear hx148_3
                            try clear p1
                            try clear p145
                            try clear p147
                            try clear p148
                            try clear p2
                            try clear q1
                            try clear q145
                            try clear q147
                            try clear q148
                            try clear q8
                            obtain ⟨kq, x3_15, rfl, HA, HJ15, HB⟩ := hcut
                            cases kq with
                            | zero => exact absurd HA.out (by simp [motleyref27_write.j2])
                            | succ kj15 =>
                              have H := HA.out
                              clear HA
                              simp only [motleyref27_write.j2] at H
                              by_cases c20 : 0 ≤ x4_1
                              · rw [if_pos c20] at H
                                have c20b0 : decide (0 ≤ x4_1) = true := decide_eq_true c20
                                clear c20
                                by_cases c21 : x4_1 < (l0.length : Int)
                                · rw [if_pos c21] at H
                                  have c21b0 : decide (x4_1 < (l0.length : Int)) = true := decide_eq_true c21
                                  clear c21
                                  by_cases c22 : ((rd_T53 l0 x4_1).f2) > 0
                                  · rw [if_pos c22] at H
                                    have c22b0 : decide (0 < ((rd_T53 l0 x4_1).f2)) = true := decide_eq_true c22
                                    clear c22
                                    obtain ⟨y150, hy150⟩ : ∃ y_ : List ByteArray, y_ = (([(⟨#[]⟩ : ByteArray), (⟨#[83, 75, 73, 80]⟩ : ByteArray), (⟨#[84, 79, 68, 79]⟩ : ByteArray)] : List ByteArray)) := ⟨_, rfl⟩
                                    replace H : (if 0 ≤ ((rd_T53 l0 x4_1).f2) then (if ((rd_T53 l0 x4_1).f2) < (y150.length : Int) then (if 3 + (rdOf ByteArray.empty y150 ((rd_T53 l0 x4_1).f2)).size ≤ 9223372036854775807 then (if x3_15.size + ((⟨#[32, 35, 32]⟩ : ByteArray) ++ (rdOf ByteArray.empty y150 ((rd_T53 l0 x4_1).f2))).size ≤ 9223372036854775807 then (if ((rd_T53 l0 x4_1).f3).toList = ([] : List UInt8) then (if (x3_15 ++ ((⟨#[32, 35, 32]⟩ : ByteArray) ++ (rdOf ByteArray.empty y150 ((rd_T53 l0 x4_1).f2)))).size + 1 ≤ 9223372036854775807 then (motleyref27_write.l0 kj15 l0 ((x3_15 ++ ((⟨#[32, 35, 32]⟩ : ByteArray) ++ (rdOf ByteArray.empty y150 ((rd_T53 l0 x4_1).f2)))) ++ (⟨#[10]⟩ : ByteArray)) (wrap64 (x4_1 + 1))) else (none)) else (if 1 + ((rd_T53 l0 x4_1).f3).size ≤ 9223372036854775807 then (if (x3_15 ++ ((⟨#[32, 35, 32]⟩ : ByteArray) ++ (rdOf ByteArray.empty y150 ((rd_T53 l0 x4_1).f2)))).size + ((⟨#[32]⟩ : ByteArray) ++ ((rd_T53 l0 x4_1).f3)).size ≤ 9223372036854775807 then (if ((x3_15 ++ ((⟨#[32, 35, 32]⟩ : ByteArray) ++ (rdOf ByteArray.empty y150 ((rd_T53 l0 x4_1).f2)))) ++ ((⟨#[32]⟩ : ByteArray) ++ ((rd_T53 l0 x4_1).f3))).size + 1 ≤ 9223372036854775807 then (motleyref27_write.l0 kj15 l0 (((x3_15 ++ ((⟨#[32, 35, 32]⟩ : ByteArray) ++ (rdOf ByteArray.empty y150 ((rd_T53 l0 x4_1).f2)))) ++ ((⟨#[32]⟩ : ByteArray) ++ ((rd_T53 l0 x4_1).f3))) ++ (⟨#[10]⟩ : ByteArray)) (wrap64 (x4_1 + 1))) else (none)) else (none)) else (none))) else (none)) else (none)) else (none)) else (none)) = some r := by first | (rw [hy150]; with_reducible exact H) | (have H2_ := (Option.bind_some _ _).symm.trans H; rw [hy150]; with_reducible exact H2_) | (have H2_ := (Option.bind_some _ _).symm.trans H; with_reducible exact H2_) | with_reducible exact H | (rw [hy150]; exact H) | exact H
                                    have Ny150 := Aside0.mk hy150
                                    clear hy150
                                    by_cases c23 : 0 ≤ ((rd_T53 l0 x4_1).f2)
                                    · rw [if_pos c23] at H
                                      have c23b0 : decide (0 ≤ ((rd_T53 l0 x4_1).f2)) = true := decide_eq_true c23
                                      clear c23
                                      by_cases c24 : ((rd_T53 l0 x4_1).f2) < (y150.length : Int)
                                      · rw [if_pos c24] at H
                                        have c24b0 : decide (((rd_T53 l0 x4_1).f2) < (y150.length : Int)) = true := decide_eq_true c24
                                        clear c24
                                        by_cases c25 : 3 + (rdOf ByteArray.empty y150 ((rd_T53 l0 x4_1).f2)).size ≤ 9223372036854775807
                                        · rw [if_pos c25] at H
                                          have c25b0 := eq_true c25
                                          have c25b1 : decide (3 + (rdOf ByteArray.empty y150 ((rd_T53 l0 x4_1).f2)).size ≤ 9223372036854775807) = true := decide_eq_true c25
                                          try have c25b2 : (9223372036854775807 < 3 + (rdOf ByteArray.empty y150 ((rd_T53 l0 x4_1).f2)).size) = False := eq_false (Nat.not_lt.2 c25)
                                          by_cases c26 : x3_15.size + ((⟨#[32, 35, 32]⟩ : ByteArray) ++ (rdOf ByteArray.empty y150 ((rd_T53 l0 x4_1).f2))).size ≤ 9223372036854775807
                                          · rw [if_pos c26] at H
                                            have c26b0 := eq_true c26
                                            have c26b1 : decide (x3_15.size + ((⟨#[32, 35, 32]⟩ : ByteArray) ++ (rdOf ByteArray.empty y150 ((rd_T53 l0 x4_1).f2))).size ≤ 9223372036854775807) = true := decide_eq_true c26
                                            try have c26b3 : (9223372036854775807 < x3_15.size + (3 + (rdOf ByteArray.empty y150 ((rd_T53 l0 x4_1).f2)).size)) = False := eq_false (by have h_ := c26; (first | simp only [ByteArray.size_append, ByteArray.size_extract, Nat.min_self] at h_ | simp only [ByteArray.size_append] at h_); exact Nat.not_lt.2 h_)
                                            try have c26b2 : (9223372036854775807 < x3_15.size + ((⟨#[32, 35, 32]⟩ : ByteArray) ++ (rdOf ByteArray.empty y150 ((rd_T53 l0 x4_1).f2))).size) = False := eq_false (Nat.not_lt.2 c26)
                                            by_cases c27 : ((rd_T53 l0 x4_1).f3).toList = ([] : List UInt8)
                                            · rw [if_pos c27] at H
                                              have c27b0 : (((rd_T53 l0 x4_1).f3).toList == ([] : List UInt8)) = true := beq_iff_eq.mpr c27
                                              have c27b1 : (((rd_T53 l0 x4_1).f3).toList != ([] : List UInt8)) = false := bne_eq_false_iff_eq.mpr c27
                                              (try (have c27b2 : ((rd_T53 l0 x4_1).f3).toList.isEmpty = true := by simpa using c27))
                                              (try (have c27b3 : List.isEmpty (((rd_T53 l0 x4_1).f3).toList) = true := by simpa using c27))
                                              clear c27
                                              by_cases c28 : (x3_15 ++ ((⟨#[32, 35, 32]⟩ : ByteArray) ++ (rdOf ByteArray.empty y150 ((rd_T53 l0 x4_1).f2)))).size + 1 ≤ 9223372036854775807
                                              · rw [if_pos c28] at H
                                                have c28b0 := eq_true c28
                                                have c28b1 : decide ((x3_15 ++ ((⟨#[32, 35, 32]⟩ : ByteArray) ++ (rdOf ByteArray.empty y150 ((rd_T53 l0 x4_1).f2)))).size + 1 ≤ 9223372036854775807) = true := decide_eq_true c28
                                                try have c28b3 : (9223372036854775807 < x3_15.size + (3 + (rdOf ByteArray.empty y150 ((rd_T53 l0 x4_1).f2)).size) + 1) = False := eq_false (by have h_ := c28; (first | simp only [ByteArray.size_append, ByteArray.size_extract, Nat.min_self] at h_ | simp only [ByteArray.size_append] at h_); exact Nat.not_lt.2 h_)
                                                try have c28b2 : (9223372036854775807 < (x3_15 ++ ((⟨#[32, 35, 32]⟩ : ByteArray) ++ (rdOf ByteArray.empty y150 ((rd_T53 l0 x4_1).f2)))).size + 1) = False := eq_false (Nat.not_lt.2 c28)
                                                have H' := Aside0.mk H
                                                clear H
                                                have p149 : 0 ≤ (x4_1 : Int) := of_decide_eq_true (by first | (with_reducible assumption) | assumption)
                                                have q149 : x4_1 < (l0.length : Int) := of_decide_eq_true (by first | (with_reducible assumption) | assumption)
                                                obtain ⟨ad149, e149, hx149_0, hx149_1, hx149_2, hx149_3⟩ := at_T53 HR0.out x4_1 p149 q149
                                                obtain rfl : ad145 = ad149 := (by injection e149)
                                                replace hx149_0 := (HB.out.cell (World.block_lt_of_cell? w _ hx149_0)).trans hx149_0
                                                replace hx149_1 := (HB.out.cell (World.block_lt_of_cell? w _ hx149_1)).trans hx149_1
                                                replace hx149_2 := (HB.out.cell (World.block_lt_of_cell? w _ hx149_2)).trans hx149_2
                                                replace hx149_3 := (HB.out.cell (World.block_lt_of_cell? w _ hx149_3)).trans hx149_3
                                                replace p149 := eq_true p149
                                                replace q149 := eq_true q149
                                                go_wp2_with (first | ((with_reducible refine gate_dst (N := 51) rfl ?_); refine Kd.R_lit Kd.string _ 9 ?hg (N := 51) ?hd (xs := ([(⟨#[]⟩ : ByteArray), (⟨#[83, 75, 73, 80]⟩ : ByteArray), (⟨#[84, 79, 68, 79]⟩ : ByteArray)] : List ByteArray)) (inner := [.string (⟨#[]⟩ : ByteArray), .string (⟨#[83, 75, 73, 80]⟩ : ByteArray), .string (⟨#[84, 79, 68, 79]⟩ : ByteArray)]) (ok := fun _ => True) (okp := fun _ => True) ?hr ?hp (fun _ hk => hk) trivial (Below.refl _ _) (Nat.le_refl _) (by simp) ?_; (case hd => rfl); (case hg => rfl); (case hr => first | (go_simp; done) | (go_simp; rfl)); (case hp => exact (Reps.one (show Kd.M Kd.string _ _ _ (⟨#[]⟩ : ByteArray) [.string (⟨#[]⟩ : ByteArray)] from rfl) (Reps.one (show Kd.M Kd.string _ _ _ (⟨#[83, 75, 73, 80]⟩ : ByteArray) [.string (⟨#[83, 75, 73, 80]⟩ : ByteArray)] from rfl) (Reps.one (show Kd.M Kd.string _ _ _ (⟨#[84, 79, 68, 79]⟩ : ByteArray) [.string (⟨#[84, 79, 68, 79]⟩ : ByteArray)] from rfl) (Reps.none _ _))))); intro v151 w29 ho30 hb hg_ hnew_; clear hg_ hnew_; (first | rw [← Ny150.out] at ho30 | (simp only [Int.reduceToNat] at ho30; rw [← Ny150.out] at ho30)); have n0_ := Aside0.mk (Kd.R_lower ho30 (below_size (by repeat (first | (with_reducible first | exact HB.out | apply below_alloc | apply pw_below_drewN | apply below_drew1) | exact HB.out)))); have n1_ := Aside0.mk (below_step (by repeat (first | (with_reducible first | exact HB.out | apply below_alloc | apply pw_below_drewN | apply below_drew1) | exact HB.out)) hb); clear HB; have HO152 := n0_; have HB := n1_; clear n0_ n1_; clear hb ho30; have p153 : 0 ≤ (x4_1 : Int) := of_decide_eq_true (by first | (with_reducible assumption) | assumption); have q153 : x4_1 < (l0.length : Int) := of_decide_eq_true (by first | (with_reducible assumption) | assumption); obtain ⟨ad153, e153, hx153_0, hx153_1, hx153_2, hx153_3⟩ := at_T53 HR0.out x4_1 p153 q153; obtain rfl : ad145 = ad153 := (by injection e153); replace hx153_0 := (HB.out.cell (World.block_lt_of_cell? w _ hx153_0)).trans hx153_0; replace hx153_1 := (HB.out.cell (World.block_lt_of_cell? w _ hx153_1)).trans hx153_1; replace hx153_2 := (HB.out.cell (World.block_lt_of_cell? w _ hx153_2)).trans hx153_2; replace hx153_3 := (HB.out.cell (World.block_lt_of_cell? w _ hx153_3)).trans hx153_3; replace p153 := eq_true p153; replace q153 := eq_true q153; obtain ⟨Ao31, co31, eo31⟩ := Kd.R_slice HO152.out; subst eo31; have p154 : 0 ≤ (((rd_T53 l0 x4_1).f2) : Int) := of_decide_eq_true (by first | (with_reducible assumption) | assumption); have q154 : ((rd_T53 l0 x4_1).f2) < (y150.length : Int) := of_decide_eq_true (by first | (with_reducible assumption) | assumption); obtain ⟨ad154, e154, hx154_0⟩ := Kd.at_string (Kd.R_reads' HO152.out).2.2 ((rd_T53 l0 x4_1).f2) p154 q154; cases e154; replace p154 := eq_true p154; replace q154 := eq_true q154; have p155 : 0 ≤ (x4_1 : Int) := of_decide_eq_true (by first | (with_reducible assumption) | assumption); have q155 : x4_1 < (l0.length : Int) := of_decide_eq_true (by first | (with_reducible assumption) | assumption); obtain ⟨ad155, e155, hx155_0, hx155_1, hx155_2, hx155_3⟩ := at_T53 HR0.out x4_1 p155 q155; obtain rfl : ad145 = ad155 := (by injection e155); replace hx155_0 := (HB.out.cell (World.block_lt_of_cell? w _ hx155_0)).trans hx155_0; replace hx155_1 := (HB.out.cell (World.block_lt_of_cell? w _ hx155_1)).trans hx155_1; replace hx155_2 := (HB.out.cell (World.block_lt_of_cell? w _ hx155_2)).trans hx155_2; replace hx155_3 := (HB.out.cell (World.block_lt_of_cell? w _ hx155_3)).trans hx155_3; replace p155 := eq_true p155; replace q155 := eq_true q155))
                                                go_roundg kj15
                                                case measure => have := HK1.out; have := HJ6.out; have := HJ15.out; omega
                                                case rel => exact ⟨((x3_15 ++ ((⟨#[32, 35, 32]⟩ : ByteArray) ++ (rdOf ByteArray.empty y150 ((rd_T53 l0 x4_1).f2)))) ++ (⟨#[10]⟩ : ByteArray)), (wrap64 (x4_1 + 1)), (by first | rfl | (simp; done) | (simp [*]; done) | (simp; generalize ByteArray.toList _ = l_; cases l_ <;> rfl)), (by first | rfl | (simp; done) | (simp [*]; done) | (simp; generalize ByteArray.toList _ = l_; cases l_ <;> rfl)), H', ⟨by have := HK1.out; have := HJ6.out; have := HJ15.out; omega⟩, ⟨by repeat (first | (with_reducible first | exact HB.out | apply below_alloc | apply pw_below_drewN | apply below_drew1) | exact HB.out)⟩⟩
                                              · rw [if_neg c28] at H
                                                exact absurd H (by simp)
                                            · rw [if_neg c27] at H
                                              have c27b0 : (((rd_T53 l0 x4_1).f3).toList == ([] : List UInt8)) = false := beq_eq_false_iff_ne.mpr c27
                                              have c27b1 : (((rd_T53 l0 x4_1).f3).toList != ([] : List UInt8)) = true := bne_iff_ne.mpr c27
                                              (try (have c27b2 : ((rd_T53 l0 x4_1).f3).toList.isEmpty = false := by simpa using c27))
                                              (try (have c27b3 : List.isEmpty (((rd_T53 l0 x4_1).f3).toList) = false := by simpa using c27))
                                              by_cases c32 : 1 + ((rd_T53 l0 x4_1).f3).size ≤ 9223372036854775807
                                              · rw [if_pos c32] at H
                                                have c32b0 := eq_true c32
                                                have c32b1 : decide (1 + ((rd_T53 l0 x4_1).f3).size ≤ 9223372036854775807) = true := decide_eq_true c32
                                                try have c32b2 : (9223372036854775807 < 1 + ((rd_T53 l0 x4_1).f3).size) = False := eq_false (Nat.not_lt.2 c32)
                                                by_cases c33 : (x3_15 ++ ((⟨#[32, 35, 32]⟩ : ByteArray) ++ (rdOf ByteArray.empty y150 ((rd_T53 l0 x4_1).f2)))).size + ((⟨#[32]⟩ : ByteArray) ++ ((rd_T53 l0 x4_1).f3)).size ≤ 9223372036854775807
                                                · rw [if_pos c33] at H
                                                  have c33b0 := eq_true c33
                                                  have c33b1 : decide ((x3_15 ++ ((⟨#[32, 35, 32]⟩ : ByteArray) ++ (rdOf ByteArray.empty y150 ((rd_T53 l0 x4_1).f2)))).size + ((⟨#[32]⟩ : ByteArray) ++ ((rd_T53 l0 x4_1).f3)).size ≤ 9223372036854775807) = true := decide_eq_true c33
                                                  try have c33b3 : (9223372036854775807 < x3_15.size + (3 + (rdOf ByteArray.empty y150 ((rd_T53 l0 x4_1).f2)).size) + (1 + ((rd_T53 l0 x4_1).f3).size)) = False := eq_false (by have h_ := c33; (first | simp only [ByteArray.size_append, ByteArray.size_extract, Nat.min_self] at h_ | simp only [ByteArray.size_append] at h_); exact Nat.not_lt.2 h_)
                                                  try have c33b2 : (9223372036854775807 < (x3_15 ++ ((⟨#[32, 35, 32]⟩ : ByteArray) ++ (rdOf ByteArray.empty y150 ((rd_T53 l0 x4_1).f2)))).size + ((⟨#[32]⟩ : ByteArray) ++ ((rd_T53 l0 x4_1).f3)).size) = False := eq_false (Nat.not_lt.2 c33)
                                                  by_cases c34 : ((x3_15 ++ ((⟨#[32, 35, 32]⟩ : ByteArray) ++ (rdOf ByteArray.empty y150 ((rd_T53 l0 x4_1).f2)))) ++ ((⟨#[32]⟩ : ByteArray) ++ ((rd_T53 l0 x4_1).f3))).size + 1 ≤ 9223372036854775807
                                                  · rw [if_pos c34] at H
                                                    have c34b0 := eq_true c34
                                                    have c34b1 : decide (((x3_15 ++ ((⟨#[32, 35, 32]⟩ : ByteArray) ++ (rdOf ByteArray.empty y150 ((rd_T53 l0 x4_1).f2)))) ++ ((⟨#[32]⟩ : ByteArray) ++ ((rd_T53 l0 x4_1).f3))).size + 1 ≤ 9223372036854775807) = true := decide_eq_true c34
                                                    try have c34b3 : (9223372036854775807 < x3_15.size + (3 + (rdOf ByteArray.empty y150 ((rd_T53 l0 x4_1).f2)).size) + (1 + ((rd_T53 l0 x4_1).f3).size) + 1) = False := eq_false (by have h_ := c34; (first | simp only [ByteArray.size_append, ByteArray.size_extract, Nat.min_self] at h_ | simp only [ByteArray.size_append] at h_); exact Nat.not_lt.2 h_)
                                                    try have c34b2 : (9223372036854775807 < ((x3_15 ++ ((⟨#[32, 35, 32]⟩ : ByteArray) ++ (rdOf ByteArray.empty y150 ((rd_T53 l0 x4_1).f2)))) ++ ((⟨#[32]⟩ : ByteArray) ++ ((rd_T53 l0 x4_1).f3))).size + 1) = False := eq_false (Nat.not_lt.2 c34)
                                                    have H' := Aside0.mk H
                                                    clear H
                                                    have p149 : 0 ≤ (x4_1 : Int) := of_decide_eq_true (by first | (with_reducible assumption) | assumption)
                                                    have q149 : x4_1 < (l0.length : Int) := of_decide_eq_true (by first | (with_reducible assumption) | assumption)
                                                    obtain ⟨ad149, e149, hx149_0, hx149_1, hx149_2, hx149_3⟩ := at_T53 HR0.out x4_1 p149 q149
                                                    obtain rfl : ad145 = ad149 := (by injection e149)
                                                    replace hx149_0 := (HB.out.cell (World.block_lt_of_cell? w _ hx149_0)).trans hx149_0
                                                    replace hx149_1 := (HB.out.cell (World.block_lt_of_cell? w _ hx149_1)).trans hx149_1
                                                    replace hx149_2 := (HB.out.cell (World.block_lt_of_cell? w _ hx149_2)).trans hx149_2
                                                    replace hx149_3 := (HB.out.cell (World.block_lt_of_cell? w _ hx149_3)).trans hx149_3
                                                    replace p149 := eq_true p149
                                                    replace q149 := eq_true q149
                                                    go_wp2_with (first | ((with_reducible refine gate_dst (N := 51) rfl ?_); refine Kd.R_lit Kd.string _ 9 ?hg (N := 51) ?hd (xs := ([(⟨#[]⟩ : ByteArray), (⟨#[83, 75, 73, 80]⟩ : ByteArray), (⟨#[84, 79, 68, 79]⟩ : ByteArray)] : List ByteArray)) (inner := [.string (⟨#[]⟩ : ByteArray), .string (⟨#[83, 75, 73, 80]⟩ : ByteArray), .string (⟨#[84, 79, 68, 79]⟩ : ByteArray)]) (ok := fun _ => True) (okp := fun _ => True) ?hr ?hp (fun _ hk => hk) trivial (Below.refl _ _) (Nat.le_refl _) (by simp) ?_; (case hd => rfl); (case hg => rfl); (case hr => first | (go_simp; done) | (go_simp; rfl)); (case hp => exact (Reps.one (show Kd.M Kd.string _ _ _ (⟨#[]⟩ : ByteArray) [.string (⟨#[]⟩ : ByteArray)] from rfl) (Reps.one (show Kd.M Kd.string _ _ _ (⟨#[83, 75, 73, 80]⟩ : ByteArray) [.string (⟨#[83, 75, 73, 80]⟩ : ByteArray)] from rfl) (Reps.one (show Kd.M Kd.string _ _ _ (⟨#[84, 79, 68, 79]⟩ : ByteArray) [.string (⟨#[84, 79, 68, 79]⟩ : ByteArray)] from rfl) (Reps.none _ _))))); intro v151 w35 ho36 hb hg_ hnew_; clear hg_ hnew_; (first | rw [← Ny150.out] at ho36 | (simp only [Int.reduceToNat] at ho36; rw [← Ny150.out] at ho36)); have n0_ := Aside0.mk (Kd.R_lower ho36 (below_size (by repeat (first | (with_reducible first | exact HB.out | apply below_alloc | apply pw_below_drewN | apply below_drew1) | exact HB.out)))); have n1_ := Aside0.mk (below_step (by repeat (first | (with_reducible first | exact HB.out | apply below_alloc | apply pw_below_drewN | apply below_drew1) | exact HB.out)) hb); clear HB; have HO152 := n0_; have HB := n1_; clear n0_ n1_; clear hb ho36; have p153 : 0 ≤ (x4_1 : Int) := of_decide_eq_true (by first | (with_reducible assumption) | assumption); have q153 : x4_1 < (l0.length : Int) := of_decide_eq_true (by first | (with_reducible assumption) | assumption); obtain ⟨ad153, e153, hx153_0, hx153_1, hx153_2, hx153_3⟩ := at_T53 HR0.out x4_1 p153 q153; obtain rfl : ad145 = ad153 := (by injection e153); replace hx153_0 := (HB.out.cell (World.block_lt_of_cell? w _ hx153_0)).trans hx153_0; replace hx153_1 := (HB.out.cell (World.block_lt_of_cell? w _ hx153_1)).trans hx153_1; replace hx153_2 := (HB.out.cell (World.block_lt_of_cell? w _ hx153_2)).trans hx153_2; replace hx153_3 := (HB.out.cell (World.block_lt_of_cell? w _ hx153_3)).trans hx153_3; replace p153 := eq_true p153; replace q153 := eq_true q153; obtain ⟨Ao37, co37, eo37⟩ := Kd.R_slice HO152.out; subst eo37; have p154 : 0 ≤ (((rd_T53 l0 x4_1).f2) : Int) := of_decide_eq_true (by first | (with_reducible assumption) | assumption); have q154 : ((rd_T53 l0 x4_1).f2) < (y150.length : Int) := of_decide_eq_true (by first | (with_reducible assumption) | assumption); obtain ⟨ad154, e154, hx154_0⟩ := Kd.at_string (Kd.R_reads' HO152.out).2.2 ((rd_T53 l0 x4_1).f2) p154 q154; cases e154; replace p154 := eq_true p154; replace q154 := eq_true q154; have p155 : 0 ≤ (x4_1 : Int) := of_decide_eq_true (by first | (with_reducible assumption) | assumption); have q155 : x4_1 < (l0.length : Int) := of_decide_eq_true (by first | (with_reducible assumption) | assumption); obtain ⟨ad155, e155, hx155_0, hx155_1, hx155_2, hx155_3⟩ := at_T53 HR0.out x4_1 p155 q155; obtain rfl : ad145 = ad155 := (by injection e155); replace hx155_0 := (HB.out.cell (World.block_lt_of_cell? w _ hx155_0)).trans hx155_0; replace hx155_1 := (HB.out.cell (World.block_lt_of_cell? w _ hx155_1)).trans hx155_1; replace hx155_2 := (HB.out.cell (World.block_lt_of_cell? w _ hx155_2)).trans hx155_2; replace hx155_3 := (HB.out.cell (World.block_lt_of_cell? w _ hx155_3)).trans hx155_3; replace p155 := eq_true p155; replace q155 := eq_true q155; have p156 : 0 ≤ (x4_1 : Int) := of_decide_eq_true (by first | (with_reducible assumption) | assumption); have q156 : x4_1 < (l0.length : Int) := of_decide_eq_true (by first | (with_reducible assumption) | assumption); obtain ⟨ad156, e156, hx156_0, hx156_1, hx156_2, hx156_3⟩ := at_T53 HR0.out x4_1 p156 q156; obtain rfl : ad145 = ad156 := (by injection e156); replace hx156_0 := (HB.out.cell (World.block_lt_of_cell? w _ hx156_0)).trans hx156_0; replace hx156_1 := (HB.out.cell (World.block_lt_of_cell? w _ hx156_1)).trans hx156_1; replace hx156_2 := (HB.out.cell (World.block_lt_of_cell? w _ hx156_2)).trans hx156_2; replace hx156_3 := (HB.out.cell (World.block_lt_of_cell? w _ hx156_3)).trans hx156_3; replace p156 := eq_true p156; replace q156 := eq_true q156))
                                                    go_roundg kj15
                                                    case measure => have := HK1.out; have := HJ6.out; have := HJ15.out; omega
                                                    case rel => exact ⟨(((x3_15 ++ ((⟨#[32, 35, 32]⟩ : ByteArray) ++ (rdOf ByteArray.empty y150 ((rd_T53 l0 x4_1).f2)))) ++ ((⟨#[32]⟩ : ByteArray) ++ ((rd_T53 l0 x4_1).f3))) ++ (⟨#[10]⟩ : ByteArray)), (wrap64 (x4_1 + 1)), (by first | rfl | (simp; done) | (simp [*]; done) | (simp; generalize ByteArray.toList _ = l_; cases l_ <;> rfl)), (by first | rfl | (simp; done) | (simp [*]; done) | (simp; generalize ByteArray.toList _ = l_; cases l_ <;> rfl)), H', ⟨by have := HK1.out; have := HJ6.out; have := HJ15.out; omega⟩, ⟨by repeat (first | (with_reducible first | exact HB.out | apply below_alloc | apply pw_below_drewN | apply below_drew1) | exact HB.out)⟩⟩
                                                  · rw [if_neg c34] at H
                                                    exact absurd H (by simp)
                                                · rw [if_neg c33] at H
                                                  exact absurd H (by simp)
                                              · rw [if_neg c32] at H
                                                exact absurd H (by simp)
                                          · rw [if_neg c26] at H
                                            exact absurd H (by simp)
                                        · rw [if_neg c25] at H
                                          exact absurd H (by simp)
                                      · rw [if_neg c24] at H
                                        exact absurd H (by simp)
                                    · rw [if_neg c23] at H
                                      exact absurd H (by simp)
                                  · rw [if_neg c22] at H
                                    have c22b0 : decide (0 < ((rd_T53 l0 x4_1).f2)) = false := decide_eq_false c22
                                    clear c22
                                    by_cases c38 : ((rd_T53 l0 x4_1).f3).toList = ([] : List UInt8)
                                    · rw [if_pos c38] at H
                                      have c38b0 : (((rd_T53 l0 x4_1).f3).toList == ([] : List UInt8)) = true := beq_iff_eq.mpr c38
                                      have c38b1 : (((rd_T53 l0 x4_1).f3).toList != ([] : List UInt8)) = false := bne_eq_false_iff_eq.mpr c38
                                      (try (have c38b2 : ((rd_T53 l0 x4_1).f3).toList.isEmpty = true := by simpa using c38))
                                      (try (have c38b3 : List.isEmpty (((rd_T53 l0 x4_1).f3).toList) = true := by simpa using c38))
                                      clear c38
                                      by_cases c39 : x3_15.size + 1 ≤ 9223372036854775807
                                      · rw [if_pos c39] at H
                                        have c39b0 := eq_true c39
                                        have c39b1 : decide (x3_15.size + 1 ≤ 9223372036854775807) = true := decide_eq_true c39
                                        try have c39b2 : (9223372036854775807 < x3_15.size + 1) = False := eq_false (Nat.not_lt.2 c39)
                                        have H' := Aside0.mk H
                                        clear H
                                        have p149 : 0 ≤ (x4_1 : Int) := of_decide_eq_true (by first | (with_reducible assumption) | assumption)
                                        have q149 : x4_1 < (l0.length : Int) := of_decide_eq_true (by first | (with_reducible assumption) | assumption)
                                        obtain ⟨ad149, e149, hx149_0, hx149_1, hx149_2, hx149_3⟩ := at_T53 HR0.out x4_1 p149 q149
                                        obtain rfl : ad145 = ad149 := (by injection e149)
                                        replace hx149_0 := (HB.out.cell (World.block_lt_of_cell? w _ hx149_0)).trans hx149_0
                                        replace hx149_1 := (HB.out.cell (World.block_lt_of_cell? w _ hx149_1)).trans hx149_1
                                        replace hx149_2 := (HB.out.cell (World.block_lt_of_cell? w _ hx149_2)).trans hx149_2
                                        replace hx149_3 := (HB.out.cell (World.block_lt_of_cell? w _ hx149_3)).trans hx149_3
                                        replace p149 := eq_true p149
                                        replace q149 := eq_true q149
                                        have p157 : 0 ≤ (x4_1 : Int) := of_decide_eq_true (by first | (with_reducible assumption) | assumption)
                                        have q157 : x4_1 < (l0.length : Int) := of_decide_eq_true (by first | (with_reducible assumption) | assumption)
                                        obtain ⟨ad157, e157, hx157_0, hx157_1, hx157_2, hx157_3⟩ := at_T53 HR0.out x4_1 p157 q157
                                        obtain rfl : ad145 = ad157 := (by injection e157)
                                        replace hx157_0 := (HB.out.cell (World.block_lt_of_cell? w _ hx157_0)).trans hx157_0
                                        replace hx157_1 := (HB.out.cell (World.block_lt_of_cell? w _ hx157_1)).trans hx157_1
                                        replace hx157_2 := (HB.out.cell (World.block_lt_of_cell? w _ hx157_2)).trans hx157_2
                                        replace hx157_3 := (HB.out.cell (World.block_lt_of_cell? w _ hx157_3)).trans hx157_3
                                        replace p157 := eq_true p157
                                        replace q157 := eq_true q157
                                        go_wp2
                                        go_roundg kj15
                                        case measure => have := HK1.out; have := HJ6.out; have := HJ15.out; omega
                                        case rel => exact ⟨(x3_15 ++ (⟨#[10]⟩ : ByteArray)), (wrap64 (x4_1 + 1)), (by first | rfl | (simp; done) | (simp [*]; done) | (simp; generalize ByteArray.toList _ = l_; cases l_ <;> rfl)), (by first | rfl | (simp; done) | (simp [*]; done) | (simp; generalize ByteArray.toList _ = l_; cases l_ <;> rfl)), H', ⟨by have := HK1.out; have := HJ6.out; have := HJ15.out; omega⟩, ⟨by repeat (first | (with_reducible first | exact HB.out | apply below_alloc | apply pw_below_drewN | apply below_drew1) | exact HB.out)⟩⟩
                                      · rw [if_neg c39] at H
                                        exact absurd H (by simp)
                                    · rw [if_neg c38] at H
                                      have c38b0 : (((rd_T53 l0 x4_1).f3).toList == ([] : List UInt8)) = false := beq_eq_false_iff_ne.mpr c38
                                      have c38b1 : (((rd_T53 l0 x4_1).f3).toList != ([] : List UInt8)) = true := bne_iff_ne.mpr c38
                                      (try (have c38b2 : ((rd_T53 l0 x4_1).f3).toList.isEmpty = false := by simpa using c38))
                                      (try (have c38b3 : List.isEmpty (((rd_T53 l0 x4_1).f3).toList) = false := by simpa using c38))
                                      by_cases c40 : 1 + ((rd_T53 l0 x4_1).f3).size ≤ 9223372036854775807
                                      · rw [if_pos c40] at H
                                        have c40b0 := eq_true c40
                                        have c40b1 : decide (1 + ((rd_T53 l0 x4_1).f3).size ≤ 9223372036854775807) = true := decide_eq_true c40
                                        try have c40b2 : (9223372036854775807 < 1 + ((rd_T53 l0 x4_1).f3).size) = False := eq_false (Nat.not_lt.2 c40)
                                        by_cases c41 : x3_15.size + ((⟨#[32]⟩ : ByteArray) ++ ((rd_T53 l0 x4_1).f3)).size ≤ 9223372036854775807
                                        · rw [if_pos c41] at H
                                          have c41b0 := eq_true c41
                                          have c41b1 : decide (x3_15.size + ((⟨#[32]⟩ : ByteArray) ++ ((rd_T53 l0 x4_1).f3)).size ≤ 9223372036854775807) = true := decide_eq_true c41
                                          try have c41b3 : (9223372036854775807 < x3_15.size + (1 + ((rd_T53 l0 x4_1).f3).size)) = False := eq_false (by have h_ := c41; (first | simp only [ByteArray.size_append, ByteArray.size_extract, Nat.min_self] at h_ | simp only [ByteArray.size_append] at h_); exact Nat.not_lt.2 h_)
                                          try have c41b2 : (9223372036854775807 < x3_15.size + ((⟨#[32]⟩ : ByteArray) ++ ((rd_T53 l0 x4_1).f3)).size) = False := eq_false (Nat.not_lt.2 c41)
                                          by_cases c42 : (x3_15 ++ ((⟨#[32]⟩ : ByteArray) ++ ((rd_T53 l0 x4_1).f3))).size + 1 ≤ 9223372036854775807
                                          · rw [if_pos c42] at H
                                            have c42b0 := eq_true c42
                                            have c42b1 : decide ((x3_15 ++ ((⟨#[32]⟩ : ByteArray) ++ ((rd_T53 l0 x4_1).f3))).size + 1 ≤ 9223372036854775807) = true := decide_eq_true c42
                                            try have c42b3 : (9223372036854775807 < x3_15.size + (1 + ((rd_T53 l0 x4_1).f3).size) + 1) = False := eq_false (by have h_ := c42; (first | simp only [ByteArray.size_append, ByteArray.size_extract, Nat.min_self] at h_ | simp only [ByteArray.size_append] at h_); exact Nat.not_lt.2 h_)
                                            try have c42b2 : (9223372036854775807 < (x3_15 ++ ((⟨#[32]⟩ : ByteArray) ++ ((rd_T53 l0 x4_1).f3))).size + 1) = False := eq_false (Nat.not_lt.2 c42)
                                            have H' := Aside0.mk H
                                            clear H
                                            have p149 : 0 ≤ (x4_1 : Int) := of_decide_eq_true (by first | (with_reducible assumption) | assumption)
                                            have q149 : x4_1 < (l0.length : Int) := of_decide_eq_true (by first | (with_reducible assumption) | assumption)
                                            obtain ⟨ad149, e149, hx149_0, hx149_1, hx149_2, hx149_3⟩ := at_T53 HR0.out x4_1 p149 q149
                                            obtain rfl : ad145 = ad149 := (by injection e149)
                                            replace hx149_0 := (HB.out.cell (World.block_lt_of_cell? w _ hx149_0)).trans hx149_0
                                            replace hx149_1 := (HB.out.cell (World.block_lt_of_cell? w _ hx149_1)).trans hx149_1
                                            replace hx149_2 := (HB.out.cell (World.block_lt_of_cell? w _ hx149_2)).trans hx149_2
                                            replace hx149_3 := (HB.out.cell (World.block_lt_of_cell? w _ hx149_3)).trans hx149_3
                                            replace p149 := eq_true p149
                                            replace q149 := eq_true q149
                                            have p157 : 0 ≤ (x4_1 : Int) := of_decide_eq_true (by first | (with_reducible assumption) | assumption)
                                            have q157 : x4_1 < (l0.length : Int) := of_decide_eq_true (by first | (with_reducible assumption) | assumption)
                                            obtain ⟨ad157, e157, hx157_0, hx157_1, hx157_2, hx157_3⟩ := at_T53 HR0.out x4_1 p157 q157
                                            obtain rfl : ad145 = ad157 := (by injection e157)
                                            replace hx157_0 := (HB.out.cell (World.block_lt_of_cell? w _ hx157_0)).trans hx157_0
                                            replace hx157_1 := (HB.out.cell (World.block_lt_of_cell? w _ hx157_1)).trans hx157_1
                                            replace hx157_2 := (HB.out.cell (World.block_lt_of_cell? w _ hx157_2)).trans hx157_2
                                            replace hx157_3 := (HB.out.cell (World.block_lt_of_cell? w _ hx157_3)).trans hx157_3
                                            replace p157 := eq_true p157
                                            replace q157 := eq_true q157
                                            have p158 : 0 ≤ (x4_1 : Int) := of_decide_eq_true (by first | (with_reducible assumption) | assumption)
                                            have q158 : x4_1 < (l0.length : Int) := of_decide_eq_true (by first | (with_reducible assumption) | assumption)
                                            obtain ⟨ad158, e158, hx158_0, hx158_1, hx158_2, hx158_3⟩ := at_T53 HR0.out x4_1 p158 q158
                                            obtain rfl : ad145 = ad158 := (by injection e158)
                                            replace hx158_0 := (HB.out.cell (World.block_lt_of_cell? w _ hx158_0)).trans hx158_0
                                            replace hx158_1 := (HB.out.cell (World.block_lt_of_cell? w _ hx158_1)).trans hx158_1
                                            replace hx158_2 := (HB.out.cell (World.block_lt_of_cell? w _ hx158_2)).trans hx158_2
                                            replace hx158_3 := (HB.out.cell (World.block_lt_of_cell? w _ hx158_3)).trans hx158_3
                                            replace p158 := eq_true p158
                                            replace q158 := eq_true q158
                                            go_wp2
                                            go_roundg kj15
                                            case measure => have := HK1.out; have := HJ6.out; have := HJ15.out; omega
                                            case rel => exact ⟨((x3_15 ++ ((⟨#[32]⟩ : ByteArray) ++ ((rd_T53 l0 x4_1).f3))) ++ (⟨#[10]⟩ : ByteArray)), (wrap64 (x4_1 + 1)), (by first | rfl | (simp; done) | (simp [*]; done) | (simp; generalize ByteArray.toList _ = l_; cases l_ <;> rfl)), (by first | rfl | (simp; done) | (simp [*]; done) | (simp; generalize ByteArray.toList _ = l_; cases l_ <;> rfl)), H', ⟨by have := HK1.out; have := HJ6.out; have := HJ15.out; omega⟩, ⟨by repeat (first | (with_reducible first | exact HB.out | apply below_alloc | apply pw_below_drewN | apply below_drew1) | exact HB.out)⟩⟩
                                          · rw [if_neg c42] at H
                                            exact absurd H (by simp)
                                        · rw [if_neg c41] at H
                                          exact absurd H (by simp)
                                      · rw [if_neg c40] at H
                                        exact absurd H (by simp)
                                · rw [if_neg c21] at H
                                  exact absurd H (by simp)
                              · rw [if_neg c20] at H
                                exact absurd H (by simp)
                        · rw [if_neg c15] at H
                          exact absurd H (by simp)
                      · rw [if_neg c14] at H
                        exact absurd H (by simp)
                    · rw [if_neg c13] at H
                      exact absurd H (by simp)
                  · rw [if_neg c12] at H
                    exact absurd H (by simp)
            · rw [if_neg c6] at H
              exact absurd H (by simp)
          · rw [if_neg c5] at H
            have c5b0 : decide (x4_1 < (l0.length : Int)) = false := decide_eq_false c5
            clear c5
            obtain rfl := Option.some.inj H
            go_wp2
            go_ret
            exact ⟨by first | rfl | (simp [errW_none, errW_some] <;> rfl) | (simp [*, errW_none, errW_some] <;> rfl), by repeat (first | (with_reducible first | exact HB.out | apply below_alloc | apply pw_below_drewN | apply below_drew1) | exact HB.out)⟩
    · rw [if_neg c4] at H
      exact absurd H (by simp)
  · rw [if_neg c3] at H
    exact absurd H (by simp)
mutual
def motleyref27_Subset.l0 : Nat → ByteArray → List (S53) → List (S53) → Int → Option (ByteArray × Int)
  | 0, _, _, _, _ => none
  | k + 1, x1, x6, x8, x9 => if x9 < (x6.length : Int) then (motleyref27_Subset.l1 k x1 x6 x8 x9 0) else ((motleyref27_write.f k x8).bind fun t163 => (some (t163, 0)))
def motleyref27_Subset.l1 : Nat → ByteArray → List (S53) → List (S53) → Int → Int → Option (ByteArray × Int)
  | 0, _, _, _, _, _ => none
  | k + 1, x1, x6, x8, x9, x10 => if 0 ≤ x9 then (if x9 < (x6.length : Int) then (if (wrap64 (x10 + (x1.size : Int))) ≤ (((rd_T53 x6 x9).f1).size : Int) then (if 0 ≤ x10 then (if x10 ≤ (wrap64 (x10 + (x1.size : Int))) then (if (((rd_T53 x6 x9).f1).extract (x10 : Int).toNat ((wrap64 (x10 + (x1.size : Int))) : Int).toNat).toList = x1.toList then (if x8.length < 2932031007402 then (motleyref27_Subset.l0 k x1 x6 (x8 ++ [(⟨(rd_T53 x6 x9).f0, (rd_T53 x6 x9).f1, (rd_T53 x6 x9).f2, (rd_T53 x6 x9).f3⟩ : S53)]) (wrap64 (x9 + 1))) else (none)) else (motleyref27_Subset.l1 k x1 x6 x8 x9 (wrap64 (x10 + 1)))) else (none)) else (none)) else (motleyref27_Subset.l0 k x1 x6 x8 (wrap64 (x9 + 1)))) else (none)) else (none)
end
def motleyref27_Subset.f (k : Nat) (a0 : ByteArray) (a1 : ByteArray) : Option (ByteArray × Int) := (motleyref27_Read.f k a0).bind fun bt159 => (if bt159.2 = 0 then (motleyref27_Subset.l0 k a1 bt159.1 ([] : List (S53)) 0) else (some ((⟨#[]⟩ : ByteArray), bt159.2)))
set_option maxHeartbeats 8000000 in
set_option maxRecDepth 100000 in
theorem motleyref27_Subset.calls (k : Nat) (a0 : ByteArray) (a1 : ByteArray) (r1 : ByteArray) (r2 : Int) (w : World) (h : motleyref27_Subset.f k a0 a1 = some (r1, r2)) :
    Calls Tryz.prog 14 #[.string a0, .string a1] w fun e w' => e = .returned (.tuple #[.string r1, .int .i64 r2]) ∧ Below w.heap.size w w' := by
  have hu53 := Tryz.underlying53
  have HB := Aside0.mk (Below.refl w.heap.size w)
  have H : ((motleyref27_Read.f k a0).bind fun bt159 => (if bt159.2 = 0 then (motleyref27_Subset.l0 k a1 bt159.1 ([] : List (S53)) 0) else (some ((⟨#[]⟩ : ByteArray), bt159.2)))) = some (r1, r2) := h
  clear h
  replace H := Option.bind_eq_some_iff.mp H
  obtain ⟨⟨t159, t160⟩, A30, H⟩ := H
  replace H : (if t160 = 0 then (motleyref27_Subset.l0 k a1 t159 ([] : List (S53)) 0) else (some ((⟨#[]⟩ : ByteArray), t160))) = some (r1, r2) := H
  have A3 := Aside0.mk A30
  clear A30
  by_cases c4 : t160 = 0
  · rw [if_pos c4] at H
    have c4b0 : (t160 == 0) = true := beq_iff_eq.mpr c4
    have c4b1 : (t160 != 0) = false := bne_eq_false_iff_eq.mpr c4
    clear c4
    have H' := Aside0.mk H
    clear H
    go_enter Tryz.func14, Tryz.ntmps14
    go_wp2_with (first | ((with_reducible refine gate_callee (f := 7) rfl ?_); refine goesL_ (some 13) rfl rfl Tryz.func7 (by kernel_rfl) rfl #[.string a0] rfl (by (try simp only [List.map_toArray, List.map_cons, List.map_nil]); first | done | rfl | (simp only [List.length_drop, List.length_take]; rfl)) ?_; (with_reducible refine (motleyref27_Read.calls k a0 t159 t160 _ A3.out).mono ?_); rintro e w5 ⟨v161, rfl, ho0, hb⟩; refine ⟨_, rfl, ?_⟩; have n0_ := Aside0.mk (Kd.R_lower ho0 (below_size (by repeat (first | (with_reducible first | exact HB.out | apply below_alloc | apply pw_below_drewN | apply below_drew1) | exact HB.out)))); have n1_ := Aside0.mk (below_step (by repeat (first | (with_reducible first | exact HB.out | apply below_alloc | apply pw_below_drewN | apply below_drew1) | exact HB.out)) hb); clear HB; have HO162 := n0_; have HB := n1_; clear n0_ n1_; (try clear hb); (try clear hb2); (try clear hk); (try clear hi); (try clear ho0)))
    go_loopg [8, 9] k (fun kq v8 v9 w' => ∃ (x8_1 : List (S53)) (x9_1 : Int), v9 = .int .i64 x9_1 ∧ Aside0 (motleyref27_Subset.l0 kq a1 t159 x8_1 x9_1 = some (r1, r2)) ∧ Aside0 (kq ≤ k) ∧ Aside0 (Kd.R k53 53 w' w.heap.size (fun k_ => some k_ ≠ (v8 : Value).ownBlock) v161 t159) ∧ Aside0 (Kd.R k53 53 w' w.heap.size (fun k_ => some k_ ≠ (v161 : Value).ownBlock) v8 x8_1) ∧ Aside0 (Below w.heap.size w w'))
    case atStart => exact ⟨(([] : List (S53))), (0), (by first | rfl | (simp; done) | (simp [*]; done) | (simp; generalize ByteArray.toList _ = l_; cases l_ <;> rfl)), H', ⟨Nat.le_refl _⟩, ⟨by (with_reducible repeat (first | apply Kd.R_alloc | apply Kd.R_drewN | apply Kd.R_drew)); exact Kd.R_mono HO162.out (fun _ hk => (by simp [Value.ownBlock]))⟩, ⟨by first | exact Kd.R_nil _ _ _ _ _ | exact Kd.N_nil _ _ _ _ _ | exact Kd.V_nil _ _ _ _ _ | exact Kd.Q_nil _ _ _ _ _ | exact Kd.S_nil _ _ _ _ _⟩, ⟨by repeat (first | (with_reducible first | exact HB.out | apply below_alloc | apply pw_below_drewN | apply below_drew1) | exact HB.out)⟩⟩
    case round =>
      clear H'
      try clear c1
      try clear p2
      try clear c4
      try clear c4b0
      try clear c4b1
      obtain ⟨x8_1, x9_1, rfl, HA, HK1, HO_6, HO_8, HB⟩ := hrel
      cases gk with
      | zero => exact absurd HA.out (by simp [motleyref27_Subset.l0])
      | succ k1 =>
        have H := HA.out
        clear HA
        simp only [motleyref27_Subset.l0] at H
        by_cases c6 : x9_1 < (t159.length : Int)
        · rw [if_pos c6] at H
          have c6b0 : decide (x9_1 < (t159.length : Int)) = true := decide_eq_true c6
          clear c6
          have H' := Aside0.mk H
          clear H
          obtain ⟨Ao7, co7, eo7⟩ := Kd.R_slice HO_6.out
          subst eo7
          go_wp2
          go_loopg [8, 10] k1 (fun kq v8 v10 w' => ∃ (x8_2 : List (S53)) (x10_2 : Int), v10 = .int .i64 x10_2 ∧ Aside0 (motleyref27_Subset.l1 kq a1 t159 x8_2 x9_1 x10_2 = some (r1, r2)) ∧ Aside0 (kq ≤ k1) ∧ Aside0 (Kd.R k53 53 w' w.heap.size (fun k_ => some k_ ≠ (v8 : Value).ownBlock) (.slice Ao7 t159.length co7) t159) ∧ Aside0 (Kd.R k53 53 w' w.heap.size (fun k_ => some k_ ≠ ((.slice Ao7 t159.length co7) : Value).ownBlock) v8 x8_2) ∧ Aside0 (Below w.heap.size w w'))
          case atStart => exact ⟨(x8_1), (0), (by first | rfl | (simp; done) | (simp [*]; done) | (simp; generalize ByteArray.toList _ = l_; cases l_ <;> rfl)), H', ⟨Nat.le_refl _⟩, ⟨by (with_reducible repeat (first | apply Kd.R_alloc | apply Kd.R_drewN | apply Kd.R_drew)); exact HO_6.out⟩, ⟨by (with_reducible repeat (first | apply Kd.R_alloc | apply Kd.R_drewN | apply Kd.R_drew)); exact HO_8.out⟩, ⟨by repeat (first | (with_reducible first | exact HB.out | apply below_alloc | apply pw_below_drewN | apply below_drew1) | exact HB.out)⟩⟩
          case round =>
            clear H'
            try clear c1
            try clear p2
            try clear c4
            try clear c4b0
            try clear c4b1
            try clear c6
            try clear c6b0
            try clear c7
            try clear p2
            obtain ⟨x8_2, x10_2, rfl, HA, HK2, HO_6, HO_8, HB⟩ := hrel
            cases gk with
            | zero => exact absurd HA.out (by simp [motleyref27_Subset.l1])
            | succ k2 =>
              have H := HA.out
              clear HA
              simp only [motleyref27_Subset.l1] at H
              by_cases c8 : 0 ≤ x9_1
              · rw [if_pos c8] at H
                have c8b0 : decide (0 ≤ x9_1) = true := decide_eq_true c8
                clear c8
                by_cases c9 : x9_1 < (t159.length : Int)
                · rw [if_pos c9] at H
                  have c9b0 : decide (x9_1 < (t159.length : Int)) = true := decide_eq_true c9
                  clear c9
                  by_cases c10 : (wrap64 (x10_2 + (a1.size : Int))) ≤ (((rd_T53 t159 x9_1).f1).size : Int)
                  · rw [if_pos c10] at H
                    have c10b0 : decide ((wrap64 (x10_2 + (a1.size : Int))) ≤ (((rd_T53 t159 x9_1).f1).size : Int)) = true := decide_eq_true c10
                    clear c10
                    by_cases c11 : 0 ≤ x10_2
                    · rw [if_pos c11] at H
                      have c11b0 := eq_true c11
                      have c11b1 : decide (0 ≤ x10_2) = true := decide_eq_true c11
                      clear c11
                      by_cases c12 : x10_2 ≤ (wrap64 (x10_2 + (a1.size : Int)))
                      · rw [if_pos c12] at H
                        have c12b0 := eq_true c12
                        have c12b1 : decide (x10_2 ≤ (wrap64 (x10_2 + (a1.size : Int)))) = true := decide_eq_true c12
                        have c13b0 := eq_true (of_decide_eq_true (by first | (with_reducible assumption) | assumption) : (wrap64 (x10_2 + (a1.size : Int))) ≤ (((rd_T53 t159 x9_1).f1).size : Int))
                        by_cases c14 : (((rd_T53 t159 x9_1).f1).extract (x10_2 : Int).toNat ((wrap64 (x10_2 + (a1.size : Int))) : Int).toNat).toList = a1.toList
                        · rw [if_pos c14] at H
                          have c14b0 : ((((rd_T53 t159 x9_1).f1).extract (x10_2 : Int).toNat ((wrap64 (x10_2 + (a1.size : Int))) : Int).toNat).toList == a1.toList) = true := beq_iff_eq.mpr c14
                          have c14b1 : ((((rd_T53 t159 x9_1).f1).extract (x10_2 : Int).toNat ((wrap64 (x10_2 + (a1.size : Int))) : Int).toNat).toList != a1.toList) = false := bne_eq_false_iff_eq.mpr c14
                          clear c14
                          by_cases c15 : x8_2.length < 2932031007402
                          · rw [if_pos c15] at H
                            have LMc15 := Aside0.mk c15
                            clear c15
                            obtain ⟨y167, hy167⟩ : ∃ y_ : List (S53), y_ = (x8_2 ++ [(⟨(rd_T53 t159 x9_1).f0, (rd_T53 t159 x9_1).f1, (rd_T53 t159 x9_1).f2, (rd_T53 t159 x9_1).f3⟩ : S53)]) := ⟨_, rfl⟩
                            replace H : (motleyref27_Subset.l0 k2 a1 t159 y167 (wrap64 (x9_1 + 1))) = some (r1, r2) := by first | (rw [hy167]; with_reducible exact H) | (have H2_ := (Option.bind_some _ _).symm.trans H; rw [hy167]; with_reducible exact H2_) | (have H2_ := (Option.bind_some _ _).symm.trans H; with_reducible exact H2_) | with_reducible exact H | (rw [hy167]; exact H) | exact H
                            have Ny167 := Aside0.mk hy167
                            clear hy167
                            have H' := Aside0.mk H
                            clear H
                            have p164 : 0 ≤ (x9_1 : Int) := of_decide_eq_true (by first | (with_reducible assumption) | assumption)
                            have q164 : x9_1 < (t159.length : Int) := of_decide_eq_true (by first | (with_reducible assumption) | assumption)
                            obtain ⟨ad164, e164, hx164_0, hx164_1, hx164_2, hx164_3⟩ := at_T53 (Kd.R_reads' HO_6.out).2.2 x9_1 p164 q164
                            cases e164
                            replace p164 := eq_true p164
                            replace q164 := eq_true q164
                            have p165 : 0 ≤ (x9_1 : Int) := of_decide_eq_true (by first | (with_reducible assumption) | assumption)
                            have q165 : x9_1 < (t159.length : Int) := of_decide_eq_true (by first | (with_reducible assumption) | assumption)
                            obtain ⟨ad165, e165, hx165_0, hx165_1, hx165_2, hx165_3⟩ := at_T53 (Kd.R_reads' HO_6.out).2.2 x9_1 p165 q165
                            obtain rfl : ad164 = ad165 := (by injection e165)
                            replace p165 := eq_true p165
                            replace q165 := eq_true q165
                            have p166 : 0 ≤ (x9_1 : Int) := of_decide_eq_true (by first | (with_reducible assumption) | assumption)
                            have q166 : x9_1 < (t159.length : Int) := of_decide_eq_true (by first | (with_reducible assumption) | assumption)
                            obtain ⟨ad166, e166, hx166_0, hx166_1, hx166_2, hx166_3⟩ := at_T53 (Kd.R_reads' HO_6.out).2.2 x9_1 p166 q166
                            obtain rfl : ad164 = ad166 := (by injection e166)
                            replace p166 := eq_true p166
                            replace q166 := eq_true q166
                            go_wp2_with (first | ((with_reducible refine gate_builtin (b := .append) (xs := #[.tmp 51, .tmp 56]) rfl ?_); at_builtin; refine Kd.R_append k53 (w0 := w) w.heap.size rfl (.tmp 51) (.tmp 56) 23 53 (.agg #[(.bool false), (.string ⟨#[]⟩), (.int .i64 0), (.string ⟨#[]⟩)]) 48 rfl Tryz.underlying23 info53 rfl (by decide) (by omega) u8 x8_2 (⟨(rd_T53 t159 x9_1).f0, (rd_T53 t159 x9_1).f1, (rd_T53 t159 x9_1).f2, (rd_T53 t159 x9_1).f3⟩ : S53) [.bool ((rd_T53 t159 x9_1).f0), .string ((rd_T53 t159 x9_1).f1), .int .i64 ((rd_T53 t159 x9_1).f2), .string ((rd_T53 t159 x9_1).f3)] (fun k_ => some k_ ≠ (.slice (some ad164) t159.length co7 : Value).ownBlock) (fun _ => False) rfl rfl ?aP (fun _ hk => hk.elim) ?aF ?aO ?aB ?aS ?aL ?_; (case aP => exact k53_mkM _ _ _ (⟨(rd_T53 t159 x9_1).f0, (rd_T53 t159 x9_1).f1, (rd_T53 t159 x9_1).f2, (rd_T53 t159 x9_1).f3⟩ : S53)); (case aB => exact (by repeat (first | (with_reducible first | exact HB.out | apply below_alloc | apply pw_below_drewN | apply below_drew1) | exact HB.out))); (case aF => exact (fun k_ hk => Kd.fresh' (Kd.R_lt (by (with_reducible repeat (first | apply Kd.R_alloc | apply Kd.R_drewN | apply Kd.R_drew)); exact HO_6.out)) k_ hk)); (case aO => exact (by (with_reducible repeat (first | apply Kd.R_alloc | apply Kd.R_drewN | apply Kd.R_drew)); exact HO_8.out)); (case aS => exact (below_size (by repeat (first | (with_reducible first | exact HB.out | apply below_alloc | apply pw_below_drewN | apply below_drew1) | exact HB.out)))); (case aL => have := LMc15.out; omega); intro v168 w16 ho hb hg hat; rw [← Ny167.out] at ho; have n0_ := Aside0.mk (Kd.R_after (ok := (fun _ => True)) (by (with_reducible repeat (first | apply Kd.R_alloc | apply Kd.R_drewN | apply Kd.R_drew)); exact Kd.R_mono HO_6.out (fun _ hk => ⟨trivial, hk⟩)) hg hat); have n1_ := Aside0.mk (hb); have n2_ := Aside0.mk (ho); clear HO_6; clear HB; clear HO_8; have HO_6 := n0_; have HB := n1_; have HO169 := n2_; clear n0_ n1_ n2_; clear ho hb hg hat))
                            go_roundg k2
                            case measure => have := HK1.out; have := HK2.out; omega
                            case rel => exact ⟨(y167), (wrap64 (x9_1 + 1)), (by first | rfl | (simp; done) | (simp [*]; done) | (simp; generalize ByteArray.toList _ = l_; cases l_ <;> rfl)), H', ⟨by have := HK1.out; have := HK2.out; omega⟩, ⟨by (with_reducible repeat (first | apply Kd.R_alloc | apply Kd.R_drewN | apply Kd.R_drew)); exact Kd.R_mono HO_6.out (fun _ hk => hk.2)⟩, ⟨by (with_reducible repeat (first | apply Kd.R_alloc | apply Kd.R_drewN | apply Kd.R_drew)); exact HO169.out⟩, ⟨by repeat (first | (with_reducible first | exact HB.out | apply below_alloc | apply pw_below_drewN | apply below_drew1) | exact HB.out)⟩⟩
                          · rw [if_neg c15] at H
                            exact absurd H (by simp)
                        · rw [if_neg c14] at H
                          have c14b0 : ((((rd_T53 t159 x9_1).f1).extract (x10_2 : Int).toNat ((wrap64 (x10_2 + (a1.size : Int))) : Int).toNat).toList == a1.toList) = false := beq_eq_false_iff_ne.mpr c14
                          have c14b1 : ((((rd_T53 t159 x9_1).f1).extract (x10_2 : Int).toNat ((wrap64 (x10_2 + (a1.size : Int))) : Int).toNat).toList != a1.toList) = true := bne_iff_ne.mpr c14
                          have H' := Aside0.mk H
                          clear H
                          have p164 : 0 ≤ (x9_1 : Int) := of_decide_eq_true (by first | (with_reducible assumption) | assumption)
                          have q164 : x9_1 < (t159.length : Int) := of_decide_eq_true (by first | (with_reducible assumption) | assumption)
                          obtain ⟨ad164, e164, hx164_0, hx164_1, hx164_2, hx164_3⟩ := at_T53 (Kd.R_reads' HO_6.out).2.2 x9_1 p164 q164
                          cases e164
                          replace p164 := eq_true p164
                          replace q164 := eq_true q164
                          have p165 : 0 ≤ (x9_1 : Int) := of_decide_eq_true (by first | (with_reducible assumption) | assumption)
                          have q165 : x9_1 < (t159.length : Int) := of_decide_eq_true (by first | (with_reducible assumption) | assumption)
                          obtain ⟨ad165, e165, hx165_0, hx165_1, hx165_2, hx165_3⟩ := at_T53 (Kd.R_reads' HO_6.out).2.2 x9_1 p165 q165
                          obtain rfl : ad164 = ad165 := (by injection e165)
                          replace p165 := eq_true p165
                          replace q165 := eq_true q165
                          go_wp2
                          go_roundg k2
                          case measure => have := HK1.out; have := HK2.out; omega
                          case rel => exact ⟨(x8_2), (wrap64 (x10_2 + 1)), (by first | rfl | (simp; done) | (simp [*]; done) | (simp; generalize ByteArray.toList _ = l_; cases l_ <;> rfl)), H', ⟨by have := HK1.out; have := HK2.out; omega⟩, ⟨by (with_reducible repeat (first | apply Kd.R_alloc | apply Kd.R_drewN | apply Kd.R_drew)); exact HO_6.out⟩, ⟨by (with_reducible repeat (first | apply Kd.R_alloc | apply Kd.R_drewN | apply Kd.R_drew)); exact HO_8.out⟩, ⟨by repeat (first | (with_reducible first | exact HB.out | apply below_alloc | apply pw_below_drewN | apply below_drew1) | exact HB.out)⟩⟩
                      · rw [if_neg c12] at H
                        exact absurd H (by simp)
                    · rw [if_neg c11] at H
                      exact absurd H (by simp)
                  · rw [if_neg c10] at H
                    have c10b0 : decide ((wrap64 (x10_2 + (a1.size : Int))) ≤ (((rd_T53 t159 x9_1).f1).size : Int)) = false := decide_eq_false c10
                    clear c10
                    have H' := Aside0.mk H
                    clear H
                    have p164 : 0 ≤ (x9_1 : Int) := of_decide_eq_true (by first | (with_reducible assumption) | assumption)
                    have q164 : x9_1 < (t159.length : Int) := of_decide_eq_true (by first | (with_reducible assumption) | assumption)
                    obtain ⟨ad164, e164, hx164_0, hx164_1, hx164_2, hx164_3⟩ := at_T53 (Kd.R_reads' HO_6.out).2.2 x9_1 p164 q164
                    cases e164
                    replace p164 := eq_true p164
                    replace q164 := eq_true q164
                    go_wp2
                    go_roundg k2
                    case measure => have := HK1.out; have := HK2.out; omega
                    case rel => exact ⟨(x8_2), (wrap64 (x9_1 + 1)), (by first | rfl | (simp; done) | (simp [*]; done) | (simp; generalize ByteArray.toList _ = l_; cases l_ <;> rfl)), H', ⟨by have := HK1.out; have := HK2.out; omega⟩, ⟨by (with_reducible repeat (first | apply Kd.R_alloc | apply Kd.R_drewN | apply Kd.R_drew)); exact HO_6.out⟩, ⟨by (with_reducible repeat (first | apply Kd.R_alloc | apply Kd.R_drewN | apply Kd.R_drew)); exact HO_8.out⟩, ⟨by repeat (first | (with_reducible first | exact HB.out | apply below_alloc | apply pw_below_drewN | apply below_drew1) | exact HB.out)⟩⟩
                · rw [if_neg c9] at H
                  exact absurd H (by simp)
              · rw [if_neg c8] at H
                exact absurd H (by simp)
        · rw [if_neg c6] at H
          have c6b0 : decide (x9_1 < (t159.length : Int)) = false := decide_eq_false c6
          clear c6
          replace H := Option.bind_eq_some_iff.mp H
          obtain ⟨t163, A170, H⟩ := H
          replace H : (some (t163, 0)) = some (r1, r2) := H
          have A17 := Aside0.mk A170
          clear A170
          simp only [Option.some.injEq, Prod.mk.injEq] at H
          obtain ⟨rfl, rfl⟩ := H
          obtain ⟨Ao18, co18, eo18⟩ := Kd.R_slice HO_6.out
          subst eo18
          obtain ⟨Ao19, co19, eo19⟩ := Kd.R_slice HO_8.out
          subst eo19
          go_wp2_with (first | ((with_reducible refine gate_callee (f := 25) rfl ?_); refine goesL_ (some 59) rfl rfl Tryz.func25 (by kernel_rfl) rfl #[.slice Ao19 x8_1.length co19] rfl (by (try simp only [List.map_toArray, List.map_cons, List.map_nil]); first | done | rfl | (simp only [List.length_drop, List.length_take]; rfl)) ?_; (with_reducible refine (motleyref27_write.calls k1 _ _ x8_1 t163 _ ?side1 ?side2 A17.out).mono ?_); (case side1 => repeat (first | exact (Kd.R_reads' HO_8.out).2.2 | (with_reducible refine Kd.C_alloc ?_ _) | (with_reducible refine Kd.C_drewN ?_ _) | (with_reducible refine Kd.C_drew ?_))); (case side2 => exact (Kd.R_reads' HO_8.out).2.1); rintro e w20 ⟨rfl, hb⟩; refine ⟨_, rfl, ?_⟩; have n0_ := Aside0.mk (Kd.R_below (by (with_reducible repeat (first | apply Kd.R_alloc | apply Kd.R_drewN | apply Kd.R_drew)); exact HO_6.out) hb); have n1_ := Aside0.mk (Kd.R_below (by (with_reducible repeat (first | apply Kd.R_alloc | apply Kd.R_drewN | apply Kd.R_drew)); exact HO_8.out) hb); have n2_ := Aside0.mk (below_step (by repeat (first | (with_reducible first | exact HB.out | apply below_alloc | apply pw_below_drewN | apply below_drew1) | exact HB.out)) hb); clear HO_6; clear HO_8; clear HB; have HO_6 := n0_; have HO_8 := n1_; have HB := n2_; clear n0_ n1_ n2_; (try clear hb); (try clear hb2); (try clear hk); (try clear hi)))
          go_ret2
          exact ⟨by first | rfl | (simp [errW_none, errW_some] <;> rfl) | (simp [*, errW_none, errW_some] <;> rfl), by repeat (first | (with_reducible first | exact HB.out | apply below_alloc | apply pw_below_drewN | apply below_drew1) | exact HB.out)⟩
  · rw [if_neg c4] at H
    have c4b0 : (t160 == 0) = false := beq_eq_false_iff_ne.mpr c4
    have c4b1 : (t160 != 0) = true := bne_iff_ne.mpr c4
    simp only [Option.some.injEq, Prod.mk.injEq] at H
    obtain ⟨rfl, rfl⟩ := H
    go_enter Tryz.func14, Tryz.ntmps14
    go_wp2_with (first | ((with_reducible refine gate_callee (f := 7) rfl ?_); refine goesL_ (some 13) rfl rfl Tryz.func7 (by kernel_rfl) rfl #[.string a0] rfl (by (try simp only [List.map_toArray, List.map_cons, List.map_nil]); first | done | rfl | (simp only [List.length_drop, List.length_take]; rfl)) ?_; (with_reducible refine (motleyref27_Read.calls k a0 t159 t160 _ A3.out).mono ?_); rintro e w21 ⟨v161, rfl, ho0, hb⟩; refine ⟨_, rfl, ?_⟩; have n0_ := Aside0.mk (Kd.R_lower ho0 (below_size (by repeat (first | (with_reducible first | exact HB.out | apply below_alloc | apply pw_below_drewN | apply below_drew1) | exact HB.out)))); have n1_ := Aside0.mk (below_step (by repeat (first | (with_reducible first | exact HB.out | apply below_alloc | apply pw_below_drewN | apply below_drew1) | exact HB.out)) hb); clear HB; have HO162 := n0_; have HB := n1_; clear n0_ n1_; (try clear hb); (try clear hb2); (try clear hk); (try clear hi); (try clear ho0)))
    go_ret2
    exact ⟨by first | rfl | (simp [errW_none, errW_some] <;> rfl) | (simp [*, errW_none, errW_some] <;> rfl), by repeat (first | (with_reducible first | exact HB.out | apply below_alloc | apply pw_below_drewN | apply below_drew1) | exact HB.out)⟩
end Go.Proofs.YtallfkecjibpmaaGreatDoor.Y
