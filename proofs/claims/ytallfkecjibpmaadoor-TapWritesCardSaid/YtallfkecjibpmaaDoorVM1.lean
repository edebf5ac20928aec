/- Of this claim's texts (M1): the declarations that the claim reaches (slimclaim.py). -/
import Derived.Test.YtallfkecjibpmaaDoorVM0
namespace Go.Proofs.YtallfkecjibpmaaDoor.M
open Go.RowKit Go.Proofs.YtallfkecjibpmaaDoor.G Go.Proofs.YtallfkecjibpmaaDoor.R Go.Proofs.YtallfkecjibpmaaDoor.J Go.Proofs.YtallfkecjibpmaaDoorW.PrintWords Go.Proofs.YtallfkecjibpmaaDoorW.PrintLast Go.Proofs.YtallfkecjibpmaaDoorW.PrintMore
attribute [local go_sem] max2_int min2_int max_two min_two max_three min_three max_four min_four   
set_option linter.unusedVariables false
set_option linter.unusedSimpArgs false
def tap_asked.l0 : Nat → List (S57) → Int → Int → Option (Int)
  | 0, _, _, _ => none
  | k + 1, x8, x9, x10 => if x10 < x9 then (if 0 ≤ x10 then (if x10 < (x8.length : Int) then (if ((rd_T57 x8 x10).f2) < 0 then (some 1) else (if ((rd_T57 x8 x10).f2) > 2 then (some 1) else (if ((rd_T57 x8 x10).f2) = 0 then (if ((rd_T57 x8 x10).f3).toList = ([] : List UInt8) then ((tap_isName.f ((rd_T57 x8 x10).f1)).bind fun t103 => (if t103 = true then ((tap_isText.f ((rd_T57 x8 x10).f3)).bind fun t104 => (if t104 = true then (tap_asked.l0 k x8 x9 (wrap64 (x10 + 1))) else (some 1))) else (some 1))) else (some 1)) else ((tap_isName.f ((rd_T57 x8 x10).f1)).bind fun t105 => (if t105 = true then ((tap_isText.f ((rd_T57 x8 x10).f3)).bind fun t106 => (if t106 = true then (tap_asked.l0 k x8 x9 (wrap64 (x10 + 1))) else (some 1))) else (some 1)))))) else (none)) else (none)) else (some 0)
def tap_asked.f (k : Nat) (l0 : List (S57)) : Option (Int) := if (l0.length : Int) > 200 then (some 3) else (tap_asked.l0 k l0 (l0.length : Int) 0)
set_option maxHeartbeats 8000000 in
set_option maxRecDepth 100000 in
theorem tap_asked.calls (k : Nat) (A0 : Option Addr) (c0 : Nat) (l0 : List (S57)) (r : Int) (w : World) (hL : LaidW w) (hr0 : Kd.C k57 w A0 l0.length l0) (hc0 : l0.length ≤ c0) (h : tap_asked.f k l0 = some r) :
    Calls Tryd.prog 66 #[.slice A0 l0.length c0] w fun e w' => e = .returned (.int .i64 r) ∧ Below w.heap.size w w' := by
  have hu57 := Tryd.underlying57
  have HR0 := Aside0.mk hr0
  have HC0 := Aside0.mk hc0
  clear hr0 hc0
  have HB := Aside0.mk (Below.refl w.heap.size w)
  have H : (if (l0.length : Int) > 200 then (some 3) else (tap_asked.l0 k l0 (l0.length : Int) 0)) = some r := h
  clear h
  by_cases c2 : (l0.length : Int) > 200
  · rw [if_pos c2] at H
    have c2b0 : decide (200 < (l0.length : Int)) = true := decide_eq_true c2
    have c2b1 : decide (200 < l0.length) = true := decide_eq_true (by omega)
    clear c2
    obtain rfl := Option.some.inj H
    go_enter Tryd.func66, Tryd.ntmps66
    go_wp2
    go_ret
    exact ⟨by first | rfl | (simp [errW_none, errW_some] <;> rfl) | (simp [*, errW_none, errW_some] <;> rfl), by repeat (first | (with_reducible first | exact HB.out | apply below_alloc | apply pw_below_drewN | apply below_drew1) | exact HB.out)⟩
  · rw [if_neg c2] at H
    have c2b0 : decide (200 < (l0.length : Int)) = false := decide_eq_false c2
    have c2b1 : decide (200 < l0.length) = false := decide_eq_false (by omega)
    clear c2
    have H' := Aside0.mk H
    clear H
    go_enter Tryd.func66, Tryd.ntmps66
    go_wp2
    go_loopg [10] k (fun kq v10 w' => ∃ (x10_1 : Int), v10 = .int .i64 x10_1 ∧ Aside0 (tap_asked.l0 kq l0 (l0.length : Int) x10_1 = some r) ∧ Aside0 (kq ≤ k) ∧ Aside0 (Below w.heap.size w w'))
    case atStart => exact ⟨(0), (by first | rfl | (simp; done) | (simp [*]; done) | (simp; generalize ByteArray.toList _ = l_; cases l_ <;> rfl)), H', ⟨Nat.le_refl _⟩, ⟨by repeat (first | (with_reducible first | exact HB.out | apply below_alloc | apply pw_below_drewN | apply below_drew1) | exact HB.out)⟩⟩
    case round =>
      clear H'
      try clear c2
      try clear c2b0
      try clear c2b1
      try clear p2
      obtain ⟨x10_1, rfl, HA, HK1, HB⟩ := hrel
      cases gk with
      | zero => exact absurd HA.out (by simp [tap_asked.l0])
      | succ k1 =>
        have H := HA.out
        clear HA
        simp only [tap_asked.l0] at H
        by_cases c3 : x10_1 < (l0.length : Int)
        · rw [if_pos c3] at H
          have c3b0 : decide (x10_1 < (l0.length : Int)) = true := decide_eq_true c3
          clear c3
          by_cases c4 : 0 ≤ x10_1
          · rw [if_pos c4] at H
            have c4b0 : decide (0 ≤ x10_1) = true := decide_eq_true c4
            clear c4
            by_cases c5 : x10_1 < (l0.length : Int)
            · rw [if_pos c5] at H
              have c5b0 : decide (x10_1 < (l0.length : Int)) = true := decide_eq_true c5
              clear c5
              by_cases c6 : ((rd_T57 l0 x10_1).f2) < 0
              · rw [if_pos c6] at H
                have c6b0 : decide (((rd_T57 l0 x10_1).f2) < 0) = true := decide_eq_true c6
                clear c6
                obtain rfl := Option.some.inj H
                have p101 : 0 ≤ (x10_1 : Int) := of_decide_eq_true (by first | (with_reducible assumption) | assumption)
                have q101 : x10_1 < (l0.length : Int) := of_decide_eq_true (by first | (with_reducible assumption) | assumption)
                obtain ⟨ad101, e101, hx101_0, hx101_1, hx101_2, hx101_3⟩ := at_T57 HR0.out x10_1 p101 q101
                cases e101
                replace hx101_0 := (HB.out.cell (World.block_lt_of_cell? w _ hx101_0)).trans hx101_0
                replace hx101_1 := (HB.out.cell (World.block_lt_of_cell? w _ hx101_1)).trans hx101_1
                replace hx101_2 := (HB.out.cell (World.block_lt_of_cell? w _ hx101_2)).trans hx101_2
                replace hx101_3 := (HB.out.cell (World.block_lt_of_cell? w _ hx101_3)).trans hx101_3
                replace p101 := eq_true p101
                replace q101 := eq_true q101
                go_wp2_with (first | ((with_reducible refine gate_dst (N := 4) rfl ?_); refine box_event ?hg (N := 4) ?hd (cs := #[.bool false, .string (⟨#[]⟩ : ByteArray), .int .i64 0, .string (⟨#[]⟩ : ByteArray)]) (t := 57) ?hr ?_; (case hd => rfl); (case hg => rfl); (case hr => first | (go_simp; done) | (go_simp; rfl)); intro gb102 hg w7 hbox hb; have n0_ := Aside0.mk (below_step (by repeat (first | (with_reducible first | exact HB.out | apply below_alloc | apply pw_below_drewN | apply below_drew1) | exact HB.out)) hb); have n1_ := Aside0.mk (hbox); have n2_ := Aside0.mk ((by rw [hg]; exact (below_size (by repeat (first | (with_reducible first | exact HB.out | apply below_alloc | apply pw_below_drewN | apply below_drew1) | exact HB.out))) : w.heap.size ≤ gb102)); have n3_ := Aside0.mk ((by rw [hg]; exact (below_size (by repeat (first | (with_reducible first | exact HB.out | apply below_alloc | apply pw_below_drewN | apply below_drew1) | exact HB.out))) : w.heap.size ≤ gb102)); clear HB; have HB := n0_; have BK102 := n1_; have GW102 := n2_; have GE102 := n3_; clear n0_ n1_ n2_ n3_; clear hb hbox hg; have hcz8_0 : w7.cell? ⟨gb102, 0, none⟩ = some (.bool false) := (blk_cell BK102.out 0).trans rfl; have hcz8_1 : w7.cell? ⟨gb102, 1, none⟩ = some (.string (⟨#[]⟩ : ByteArray)) := (blk_cell BK102.out 1).trans rfl; have hcz8_2 : w7.cell? ⟨gb102, 2, none⟩ = some (.int .i64 0) := (blk_cell BK102.out 2).trans rfl; have hcz8_3 : w7.cell? ⟨gb102, 3, none⟩ = some (.string (⟨#[]⟩ : ByteArray)) := (blk_cell BK102.out 3).trans rfl; have hfz8_0 := blk_frozen BK102.out 0; have hfz8_1 := blk_frozen BK102.out 1; have hfz8_2 := blk_frozen BK102.out 2; have hfz8_3 := blk_frozen BK102.out 3))
                go_ret
                exact ⟨by first | rfl | (simp [errW_none, errW_some] <;> rfl) | (simp [*, errW_none, errW_some] <;> rfl), by repeat (first | (with_reducible first | exact HB.out | apply below_alloc | apply pw_below_drewN | apply below_drew1 | refine below_set ?_ GE102.out) | exact HB.out)⟩
              · rw [if_neg c6] at H
                have c6b0 : decide (((rd_T57 l0 x10_1).f2) < 0) = false := decide_eq_false c6
                clear c6
                by_cases c9 : ((rd_T57 l0 x10_1).f2) > 2
                · rw [if_pos c9] at H
                  have c9b0 : decide (2 < ((rd_T57 l0 x10_1).f2)) = true := decide_eq_true c9
                  clear c9
                  obtain rfl := Option.some.inj H
                  have p101 : 0 ≤ (x10_1 : Int) := of_decide_eq_true (by first | (with_reducible assumption) | assumption)
                  have q101 : x10_1 < (l0.length : Int) := of_decide_eq_true (by first | (with_reducible assumption) | assumption)
                  obtain ⟨ad101, e101, hx101_0, hx101_1, hx101_2, hx101_3⟩ := at_T57 HR0.out x10_1 p101 q101
                  cases e101
                  replace hx101_0 := (HB.out.cell (World.block_lt_of_cell? w _ hx101_0)).trans hx101_0
                  replace hx101_1 := (HB.out.cell (World.block_lt_of_cell? w _ hx101_1)).trans hx101_1
                  replace hx101_2 := (HB.out.cell (World.block_lt_of_cell? w _ hx101_2)).trans hx101_2
                  replace hx101_3 := (HB.out.cell (World.block_lt_of_cell? w _ hx101_3)).trans hx101_3
                  replace p101 := eq_true p101
                  replace q101 := eq_true q101
                  go_wp2_with (first | ((with_reducible refine gate_dst (N := 4) rfl ?_); refine box_event ?hg (N := 4) ?hd (cs := #[.bool false, .string (⟨#[]⟩ : ByteArray), .int .i64 0, .string (⟨#[]⟩ : ByteArray)]) (t := 57) ?hr ?_; (case hd => rfl); (case hg => rfl); (case hr => first | (go_simp; done) | (go_simp; rfl)); intro gb102 hg w10 hbox hb; have n0_ := Aside0.mk (below_step (by repeat (first | (with_reducible first | exact HB.out | apply below_alloc | apply pw_below_drewN | apply below_drew1) | exact HB.out)) hb); have n1_ := Aside0.mk (hbox); have n2_ := Aside0.mk ((by rw [hg]; exact (below_size (by repeat (first | (with_reducible first | exact HB.out | apply below_alloc | apply pw_below_drewN | apply below_drew1) | exact HB.out))) : w.heap.size ≤ gb102)); have n3_ := Aside0.mk ((by rw [hg]; exact (below_size (by repeat (first | (with_reducible first | exact HB.out | apply below_alloc | apply pw_below_drewN | apply below_drew1) | exact HB.out))) : w.heap.size ≤ gb102)); clear HB; have HB := n0_; have BK102 := n1_; have GW102 := n2_; have GE102 := n3_; clear n0_ n1_ n2_ n3_; clear hb hbox hg; have hcz11_0 : w10.cell? ⟨gb102, 0, none⟩ = some (.bool false) := (blk_cell BK102.out 0).trans rfl; have hcz11_1 : w10.cell? ⟨gb102, 1, none⟩ = some (.string (⟨#[]⟩ : ByteArray)) := (blk_cell BK102.out 1).trans rfl; have hcz11_2 : w10.cell? ⟨gb102, 2, none⟩ = some (.int .i64 0) := (blk_cell BK102.out 2).trans rfl; have hcz11_3 : w10.cell? ⟨gb102, 3, none⟩ = some (.string (⟨#[]⟩ : ByteArray)) := (blk_cell BK102.out 3).trans rfl; have hfz11_0 := blk_frozen BK102.out 0; have hfz11_1 := blk_frozen BK102.out 1; have hfz11_2 := blk_frozen BK102.out 2; have hfz11_3 := blk_frozen BK102.out 3))
                  go_ret
                  exact ⟨by first | rfl | (simp [errW_none, errW_some] <;> rfl) | (simp [*, errW_none, errW_some] <;> rfl), by repeat (first | (with_reducible first | exact HB.out | apply below_alloc | apply pw_below_drewN | apply below_drew1 | refine below_set ?_ GE102.out) | exact HB.out)⟩
                · rw [if_neg c9] at H
                  have c9b0 : decide (2 < ((rd_T57 l0 x10_1).f2)) = false := decide_eq_false c9
                  clear c9
                  by_cases c12 : ((rd_T57 l0 x10_1).f2) = 0
                  · rw [if_pos c12] at H
                    have c12b0 : (((rd_T57 l0 x10_1).f2) == 0) = true := beq_iff_eq.mpr c12
                    have c12b1 : (((rd_T57 l0 x10_1).f2) != 0) = false := bne_eq_false_iff_eq.mpr c12
                    clear c12
                    by_cases c13 : ((rd_T57 l0 x10_1).f3).toList = ([] : List UInt8)
                    · rw [if_pos c13] at H
                      have c13b0 : (((rd_T57 l0 x10_1).f3).toList == ([] : List UInt8)) = true := beq_iff_eq.mpr c13
                      have c13b1 : (((rd_T57 l0 x10_1).f3).toList != ([] : List UInt8)) = false := bne_eq_false_iff_eq.mpr c13
                      (try (have c13b2 : ((rd_T57 l0 x10_1).f3).toList.isEmpty = true := by simpa using c13))
                      (try (have c13b3 : List.isEmpty (((rd_T57 l0 x10_1).f3).toList) = true := by simpa using c13))
                      clear c13
                      replace H := Option.bind_eq_some_iff.mp H
                      obtain ⟨t103, A140, H⟩ := H
                      replace H : (if t103 = true then ((tap_isText.f ((rd_T57 l0 x10_1).f3)).bind fun t104 => (if t104 = true then (tap_asked.l0 k1 l0 (l0.length : Int) (wrap64 (x10_1 + 1))) else (some 1))) else (some 1)) = some r := H
                      have A14 := Aside0.mk A140
                      clear A140
                      by_cases c15 : t103 = true
                      · subst c15
                        have H1 : ((tap_isText.f ((rd_T57 l0 x10_1).f3)).bind fun t104 => (if t104 = true then (tap_asked.l0 k1 l0 (l0.length : Int) (wrap64 (x10_1 + 1))) else (some 1))) = some r := by rw [if_pos rfl] at H; exact H
                        clear H
                        have H := H1
                        clear H1
                        replace H := Option.bind_eq_some_iff.mp H
                        obtain ⟨t104, A160, H⟩ := H
                        replace H : (if t104 = true then (tap_asked.l0 k1 l0 (l0.length : Int) (wrap64 (x10_1 + 1))) else (some 1)) = some r := H
                        have A16 := Aside0.mk A160
                        clear A160
                        by_cases c17 : t104 = true
                        · subst c17
                          have H1 : (tap_asked.l0 k1 l0 (l0.length : Int) (wrap64 (x10_1 + 1))) = some r := by rw [if_pos rfl] at H; exact H
                          clear H
                          have H := H1
                          clear H1
                          have H' := Aside0.mk H
                          clear H
                          have p101 : 0 ≤ (x10_1 : Int) := of_decide_eq_true (by first | (with_reducible assumption) | assumption)
                          have q101 : x10_1 < (l0.length : Int) := of_decide_eq_true (by first | (with_reducible assumption) | assumption)
                          obtain ⟨ad101, e101, hx101_0, hx101_1, hx101_2, hx101_3⟩ := at_T57 HR0.out x10_1 p101 q101
                          cases e101
                          replace hx101_0 := (HB.out.cell (World.block_lt_of_cell? w _ hx101_0)).trans hx101_0
                          replace hx101_1 := (HB.out.cell (World.block_lt_of_cell? w _ hx101_1)).trans hx101_1
                          replace hx101_2 := (HB.out.cell (World.block_lt_of_cell? w _ hx101_2)).trans hx101_2
                          replace hx101_3 := (HB.out.cell (World.block_lt_of_cell? w _ hx101_3)).trans hx101_3
                          replace p101 := eq_true p101
                          replace q101 := eq_true q101
                          go_wp2_with (first | ((with_reducible refine gate_dst (N := 4) rfl ?_); refine box_event ?hg (N := 4) ?hd (cs := #[.bool false, .string (⟨#[]⟩ : ByteArray), .int .i64 0, .string (⟨#[]⟩ : ByteArray)]) (t := 57) ?hr ?_; (case hd => rfl); (case hg => rfl); (case hr => first | (go_simp; done) | (go_simp; rfl)); intro gb102 hg w18 hbox hb; have n0_ := Aside0.mk (below_step (by repeat (first | (with_reducible first | exact HB.out | apply below_alloc | apply pw_below_drewN | apply below_drew1) | exact HB.out)) hb); have n1_ := Aside0.mk (hbox); have n2_ := Aside0.mk ((by rw [hg]; exact (below_size (by repeat (first | (with_reducible first | exact HB.out | apply below_alloc | apply pw_below_drewN | apply below_drew1) | exact HB.out))) : w.heap.size ≤ gb102)); have n3_ := Aside0.mk ((by rw [hg]; exact (below_size (by repeat (first | (with_reducible first | exact HB.out | apply below_alloc | apply pw_below_drewN | apply below_drew1) | exact HB.out))) : w.heap.size ≤ gb102)); clear HB; have HB := n0_; have BK102 := n1_; have GW102 := n2_; have GE102 := n3_; clear n0_ n1_ n2_ n3_; clear hb hbox hg; have hcz19_0 : w18.cell? ⟨gb102, 0, none⟩ = some (.bool false) := (blk_cell BK102.out 0).trans rfl; have hcz19_1 : w18.cell? ⟨gb102, 1, none⟩ = some (.string (⟨#[]⟩ : ByteArray)) := (blk_cell BK102.out 1).trans rfl; have hcz19_2 : w18.cell? ⟨gb102, 2, none⟩ = some (.int .i64 0) := (blk_cell BK102.out 2).trans rfl; have hcz19_3 : w18.cell? ⟨gb102, 3, none⟩ = some (.string (⟨#[]⟩ : ByteArray)) := (blk_cell BK102.out 3).trans rfl; have hfz19_0 := blk_frozen BK102.out 0; have hfz19_1 := blk_frozen BK102.out 1; have hfz19_2 := blk_frozen BK102.out 2; have hfz19_3 := blk_frozen BK102.out 3) | (go_at_call 81; (with_reducible refine (tap_isName.calls ((rd_T57 l0 x10_1).f1) true _ ?side1 A14.out).mono ?_); (case side1 => first | exact hL | exact LaidW.below hL (by repeat (first | (with_reducible first | exact HB.out | apply below_alloc | apply pw_below_drewN | apply below_drew1 | refine below_set ?_ GE102.out) | exact HB.out))); rintro e w20 ⟨rfl, hb⟩; have n0_ := Aside0.mk (blk_below (g := gb102) (o := .cells #[.bool ((rd_T57 l0 x10_1).f0), .string ((rd_T57 l0 x10_1).f1), .int .i64 ((rd_T57 l0 x10_1).f2), .string ((rd_T57 l0 x10_1).f3)] 57 (0, 0)) (by (with_reducible repeat (first | refine blk_drewN ?_ _ | refine blk_drew ?_ | refine blk_alloc ?_ _)); refine blk_put (cs := #[.bool ((rd_T57 l0 x10_1).f0), .string ((rd_T57 l0 x10_1).f1), .int .i64 ((rd_T57 l0 x10_1).f2), .string (⟨#[]⟩ : ByteArray)]) ?_ 3 _ rfl; (with_reducible repeat (first | refine blk_drewN ?_ _ | refine blk_drew ?_ | refine blk_alloc ?_ _)); refine blk_put (cs := #[.bool ((rd_T57 l0 x10_1).f0), .string ((rd_T57 l0 x10_1).f1), .int .i64 0, .string (⟨#[]⟩ : ByteArray)]) ?_ 2 _ rfl; (with_reducible repeat (first | refine blk_drewN ?_ _ | refine blk_drew ?_ | refine blk_alloc ?_ _)); refine blk_put (cs := #[.bool ((rd_T57 l0 x10_1).f0), .string (⟨#[]⟩ : ByteArray), .int .i64 0, .string (⟨#[]⟩ : ByteArray)]) ?_ 1 _ rfl; (with_reducible repeat (first | refine blk_drewN ?_ _ | refine blk_drew ?_ | refine blk_alloc ?_ _)); refine blk_put (cs := #[.bool false, .string (⟨#[]⟩ : ByteArray), .int .i64 0, .string (⟨#[]⟩ : ByteArray)]) ?_ 0 _ rfl; (with_reducible repeat (first | refine blk_drewN ?_ _ | refine blk_drew ?_ | refine blk_alloc ?_ _)); exact BK102.out) hb); have n1_ := Aside0.mk (below_step (by repeat (first | (with_reducible first | exact HB.out | apply below_alloc | apply pw_below_drewN | apply below_drew1 | refine below_set ?_ GE102.out) | exact HB.out)) hb); clear BK102; clear HB; have BK102 := n0_; have HB := n1_; clear n0_ n1_; (try clear hb); (try clear hb2); (try clear hk); (try clear hi); have hcz21_0 : w20.cell? ⟨gb102, 0, none⟩ = some (.bool ((rd_T57 l0 x10_1).f0)) := (blk_cell BK102.out 0).trans rfl; have hcz21_1 : w20.cell? ⟨gb102, 1, none⟩ = some (.string ((rd_T57 l0 x10_1).f1)) := (blk_cell BK102.out 1).trans rfl; have hcz21_2 : w20.cell? ⟨gb102, 2, none⟩ = some (.int .i64 ((rd_T57 l0 x10_1).f2)) := (blk_cell BK102.out 2).trans rfl; have hcz21_3 : w20.cell? ⟨gb102, 3, none⟩ = some (.string ((rd_T57 l0 x10_1).f3)) := (blk_cell BK102.out 3).trans rfl; have hfz21_0 := blk_frozen BK102.out 0; have hfz21_1 := blk_frozen BK102.out 1; have hfz21_2 := blk_frozen BK102.out 2; have hfz21_3 := blk_frozen BK102.out 3) | (go_at_call 82; (with_reducible refine (tap_isText.calls ((rd_T57 l0 x10_1).f3) true _ ?side1 A16.out).mono ?_); (case side1 => first | exact hL | exact LaidW.below hL (by repeat (first | (with_reducible first | exact HB.out | apply below_alloc | apply pw_below_drewN | apply below_drew1 | refine below_set ?_ GE102.out) | exact HB.out))); rintro e w22 ⟨rfl, hb⟩; have n0_ := Aside0.mk (blk_below (g := gb102) (o := .cells #[.bool ((rd_T57 l0 x10_1).f0), .string ((rd_T57 l0 x10_1).f1), .int .i64 ((rd_T57 l0 x10_1).f2), .string ((rd_T57 l0 x10_1).f3)] 57 (0, 0)) (by (with_reducible repeat (first | refine blk_drewN ?_ _ | refine blk_drew ?_ | refine blk_alloc ?_ _)); exact BK102.out) hb); have n1_ := Aside0.mk (below_step (by repeat (first | (with_reducible first | exact HB.out | apply below_alloc | apply pw_below_drewN | apply below_drew1 | refine below_set ?_ GE102.out) | exact HB.out)) hb); clear BK102; clear HB; have BK102 := n0_; have HB := n1_; clear n0_ n1_; (try clear hb); (try clear hb2); (try clear hk); (try clear hi)))
                          go_roundg k1
                          case measure => have := HK1.out; omega
                          case rel => exact ⟨(wrap64 (x10_1 + 1)), (by first | rfl | (simp; done) | (simp [*]; done) | (simp; generalize ByteArray.toList _ = l_; cases l_ <;> rfl)), H', ⟨by have := HK1.out; omega⟩, ⟨by repeat (first | (with_reducible first | exact HB.out | apply below_alloc | apply pw_below_drewN | apply below_drew1 | refine below_set ?_ GE102.out) | exact HB.out)⟩⟩
                        · replace c17 := Bool.eq_false_iff.mpr c17
                          subst c17
                          have H1 : (some 1) = some r := by rw [if_neg (show ¬ (false = true) by decide)] at H; exact H
                          clear H
                          have H := H1
                          clear H1
                          obtain rfl := Option.some.inj H
                          have p101 : 0 ≤ (x10_1 : Int) := of_decide_eq_true (by first | (with_reducible assumption) | assumption)
                          have q101 : x10_1 < (l0.length : Int) := of_decide_eq_true (by first | (with_reducible assumption) | assumption)
                          obtain ⟨ad101, e101, hx101_0, hx101_1, hx101_2, hx101_3⟩ := at_T57 HR0.out x10_1 p101 q101
                          cases e101
                          replace hx101_0 := (HB.out.cell (World.block_lt_of_cell? w _ hx101_0)).trans hx101_0
                          replace hx101_1 := (HB.out.cell (World.block_lt_of_cell? w _ hx101_1)).trans hx101_1
                          replace hx101_2 := (HB.out.cell (World.block_lt_of_cell? w _ hx101_2)).trans hx101_2
                          replace hx101_3 := (HB.out.cell (World.block_lt_of_cell? w _ hx101_3)).trans hx101_3
                          replace p101 := eq_true p101
                          replace q101 := eq_true q101
                          go_wp2_with (first | ((with_reducible refine gate_dst (N := 4) rfl ?_); refine box_event ?hg (N := 4) ?hd (cs := #[.bool false, .string (⟨#[]⟩ : ByteArray), .int .i64 0, .string (⟨#[]⟩ : ByteArray)]) (t := 57) ?hr ?_; (case hd => rfl); (case hg => rfl); (case hr => first | (go_simp; done) | (go_simp; rfl)); intro gb102 hg w23 hbox hb; have n0_ := Aside0.mk (below_step (by repeat (first | (with_reducible first | exact HB.out | apply below_alloc | apply pw_below_drewN | apply below_drew1) | exact HB.out)) hb); have n1_ := Aside0.mk (hbox); have n2_ := Aside0.mk ((by rw [hg]; exact (below_size (by repeat (first | (with_reducible first | exact HB.out | apply below_alloc | apply pw_below_drewN | apply below_drew1) | exact HB.out))) : w.heap.size ≤ gb102)); have n3_ := Aside0.mk ((by rw [hg]; exact (below_size (by repeat (first | (with_reducible first | exact HB.out | apply below_alloc | apply pw_below_drewN | apply below_drew1) | exact HB.out))) : w.heap.size ≤ gb102)); clear HB; have HB := n0_; have BK102 := n1_; have GW102 := n2_; have GE102 := n3_; clear n0_ n1_ n2_ n3_; clear hb hbox hg; have hcz24_0 : w23.cell? ⟨gb102, 0, none⟩ = some (.bool false) := (blk_cell BK102.out 0).trans rfl; have hcz24_1 : w23.cell? ⟨gb102, 1, none⟩ = some (.string (⟨#[]⟩ : ByteArray)) := (blk_cell BK102.out 1).trans rfl; have hcz24_2 : w23.cell? ⟨gb102, 2, none⟩ = some (.int .i64 0) := (blk_cell BK102.out 2).trans rfl; have hcz24_3 : w23.cell? ⟨gb102, 3, none⟩ = some (.string (⟨#[]⟩ : ByteArray)) := (blk_cell BK102.out 3).trans rfl; have hfz24_0 := blk_frozen BK102.out 0; have hfz24_1 := blk_frozen BK102.out 1; have hfz24_2 := blk_frozen BK102.out 2; have hfz24_3 := blk_frozen BK102.out 3) | (go_at_call 81; (with_reducible refine (tap_isName.calls ((rd_T57 l0 x10_1).f1) true _ ?side1 A14.out).mono ?_); (case side1 => first | exact hL | exact LaidW.below hL (by repeat (first | (with_reducible first | exact HB.out | apply below_alloc | apply pw_below_drewN | apply below_drew1 | refine below_set ?_ GE102.out) | exact HB.out))); rintro e w25 ⟨rfl, hb⟩; have n0_ := Aside0.mk (blk_below (g := gb102) (o := .cells #[.bool ((rd_T57 l0 x10_1).f0), .string ((rd_T57 l0 x10_1).f1), .int .i64 ((rd_T57 l0 x10_1).f2), .string ((rd_T57 l0 x10_1).f3)] 57 (0, 0)) (by (with_reducible repeat (first | refine blk_drewN ?_ _ | refine blk_drew ?_ | refine blk_alloc ?_ _)); refine blk_put (cs := #[.bool ((rd_T57 l0 x10_1).f0), .string ((rd_T57 l0 x10_1).f1), .int .i64 ((rd_T57 l0 x10_1).f2), .string (⟨#[]⟩ : ByteArray)]) ?_ 3 _ rfl; (with_reducible repeat (first | refine blk_drewN ?_ _ | refine blk_drew ?_ | refine blk_alloc ?_ _)); refine blk_put (cs := #[.bool ((rd_T57 l0 x10_1).f0), .string ((rd_T57 l0 x10_1).f1), .int .i64 0, .string (⟨#[]⟩ : ByteArray)]) ?_ 2 _ rfl; (with_reducible repeat (first | refine blk_drewN ?_ _ | refine blk_drew ?_ | refine blk_alloc ?_ _)); refine blk_put (cs := #[.bool ((rd_T57 l0 x10_1).f0), .string (⟨#[]⟩ : ByteArray), .int .i64 0, .string (⟨#[]⟩ : ByteArray)]) ?_ 1 _ rfl; (with_reducible repeat (first | refine blk_drewN ?_ _ | refine blk_drew ?_ | refine blk_alloc ?_ _)); refine blk_put (cs := #[.bool false, .string (⟨#[]⟩ : ByteArray), .int .i64 0, .string (⟨#[]⟩ : ByteArray)]) ?_ 0 _ rfl; (with_reducible repeat (first | refine blk_drewN ?_ _ | refine blk_drew ?_ | refine blk_alloc ?_ _)); exact BK102.out) hb); have n1_ := Aside0.mk (below_step (by repeat (first | (with_reducible first | exact HB.out | apply below_alloc | apply pw_below_drewN | apply below_drew1 | refine below_set ?_ GE102.out) | exact HB.out)) hb); clear BK102; clear HB; have BK102 := n0_; have HB := n1_; clear n0_ n1_; (try clear hb); (try clear hb2); (try clear hk); (try clear hi); have hcz26_0 : w25.cell? ⟨gb102, 0, none⟩ = some (.bool ((rd_T57 l0 x10_1).f0)) := (blk_cell BK102.out 0).trans rfl; have hcz26_1 : w25.cell? ⟨gb102, 1, none⟩ = some (.string ((rd_T57 l0 x10_1).f1)) := (blk_cell BK102.out 1).trans rfl; have hcz26_2 : w25.cell? ⟨gb102, 2, none⟩ = some (.int .i64 ((rd_T57 l0 x10_1).f2)) := (blk_cell BK102.out 2).trans rfl; have hcz26_3 : w25.cell? ⟨gb102, 3, none⟩ = some (.string ((rd_T57 l0 x10_1).f3)) := (blk_cell BK102.out 3).trans rfl; have hfz26_0 := blk_frozen BK102.out 0; have hfz26_1 := blk_frozen BK102.out 1; have hfz26_2 := blk_frozen BK102.out 2; have hfz26_3 := blk_frozen BK102.out 3) | (go_at_call 82; (with_reducible refine (tap_isText.calls ((rd_T57 l0 x10_1).f3) false _ ?side1 A16.out).mono ?_); (case side1 => first | exact hL | exact LaidW.below hL (by repeat (first | (with_reducible first | exact HB.out | apply below_alloc | apply pw_below_drewN | apply below_drew1 | refine below_set ?_ GE102.out) | exact HB.out))); rintro e w27 ⟨rfl, hb⟩; have n0_ := Aside0.mk (blk_below (g := gb102) (o := .cells #[.bool ((rd_T57 l0 x10_1).f0), .string ((rd_T57 l0 x10_1).f1), .int .i64 ((rd_T57 l0 x10_1).f2), .string ((rd_T57 l0 x10_1).f3)] 57 (0, 0)) (by (with_reducible repeat (first | refine blk_drewN ?_ _ | refine blk_drew ?_ | refine blk_alloc ?_ _)); exact BK102.out) hb); have n1_ := Aside0.mk (below_step (by repeat (first | (with_reducible first | exact HB.out | apply below_alloc | apply pw_below_drewN | apply below_drew1 | refine below_set ?_ GE102.out) | exact HB.out)) hb); clear BK102; clear HB; have BK102 := n0_; have HB := n1_; clear n0_ n1_; (try clear hb); (try clear hb2); (try clear hk); (try clear hi)))
                          go_ret
                          exact ⟨by first | rfl | (simp [errW_none, errW_some] <;> rfl) | (simp [*, errW_none, errW_some] <;> rfl), by repeat (first | (with_reducible first | exact HB.out | apply below_alloc | apply pw_below_drewN | apply below_drew1 | refine below_set ?_ GE102.out) | exact HB.out)⟩
                      · replace c15 := Bool.eq_false_iff.mpr c15
                        subst c15
                        have H1 : (some 1) = some r := by rw [if_neg (show ¬ (false = true) by decide)] at H; exact H
                        clear H
                        have H := H1
                        clear H1
                        obtain rfl := Option.some.inj H
                        have p101 : 0 ≤ (x10_1 : Int) := of_decide_eq_true (by first | (with_reducible assumption) | assumption)
                        have q101 : x10_1 < (l0.length : Int) := of_decide_eq_true (by first | (with_reducible assumption) | assumption)
                        obtain ⟨ad101, e101, hx101_0, hx101_1, hx101_2, hx101_3⟩ := at_T57 HR0.out x10_1 p101 q101
                        cases e101
                        replace hx101_0 := (HB.out.cell (World.block_lt_of_cell? w _ hx101_0)).trans hx101_0
                        replace hx101_1 := (HB.out.cell (World.block_lt_of_cell? w _ hx101_1)).trans hx101_1
                        replace hx101_2 := (HB.out.cell (World.block_lt_of_cell? w _ hx101_2)).trans hx101_2
                        replace hx101_3 := (HB.out.cell (World.block_lt_of_cell? w _ hx101_3)).trans hx101_3
                        replace p101 := eq_true p101
                        replace q101 := eq_true q101
                        go_wp2_with (first | ((with_reducible refine gate_dst (N := 4) rfl ?_); refine box_event ?hg (N := 4) ?hd (cs := #[.bool false, .string (⟨#[]⟩ : ByteArray), .int .i64 0, .string (⟨#[]⟩ : ByteArray)]) (t := 57) ?hr ?_; (case hd => rfl); (case hg => rfl); (case hr => first | (go_simp; done) | (go_simp; rfl)); intro gb102 hg w28 hbox hb; have n0_ := Aside0.mk (below_step (by repeat (first | (with_reducible first | exact HB.out | apply below_alloc | apply pw_below_drewN | apply below_drew1) | exact HB.out)) hb); have n1_ := Aside0.mk (hbox); have n2_ := Aside0.mk ((by rw [hg]; exact (below_size (by repeat (first | (with_reducible first | exact HB.out | apply below_alloc | apply pw_below_drewN | apply below_drew1) | exact HB.out))) : w.heap.size ≤ gb102)); have n3_ := Aside0.mk ((by rw [hg]; exact (below_size (by repeat (first | (with_reducible first | exact HB.out | apply below_alloc | apply pw_below_drewN | apply below_drew1) | exact HB.out))) : w.heap.size ≤ gb102)); clear HB; have HB := n0_; have BK102 := n1_; have GW102 := n2_; have GE102 := n3_; clear n0_ n1_ n2_ n3_; clear hb hbox hg; have hcz29_0 : w28.cell? ⟨gb102, 0, none⟩ = some (.bool false) := (blk_cell BK102.out 0).trans rfl; have hcz29_1 : w28.cell? ⟨gb102, 1, none⟩ = some (.string (⟨#[]⟩ : ByteArray)) := (blk_cell BK102.out 1).trans rfl; have hcz29_2 : w28.cell? ⟨gb102, 2, none⟩ = some (.int .i64 0) := (blk_cell BK102.out 2).trans rfl; have hcz29_3 : w28.cell? ⟨gb102, 3, none⟩ = some (.string (⟨#[]⟩ : ByteArray)) := (blk_cell BK102.out 3).trans rfl; have hfz29_0 := blk_frozen BK102.out 0; have hfz29_1 := blk_frozen BK102.out 1; have hfz29_2 := blk_frozen BK102.out 2; have hfz29_3 := blk_frozen BK102.out 3) | (go_at_call 81; (with_reducible refine (tap_isName.calls ((rd_T57 l0 x10_1).f1) false _ ?side1 A14.out).mono ?_); (case side1 => first | exact hL | exact LaidW.below hL (by repeat (first | (with_reducible first | exact HB.out | apply below_alloc | apply pw_below_drewN | apply below_drew1 | refine below_set ?_ GE102.out) | exact HB.out))); rintro e w30 ⟨rfl, hb⟩; have n0_ := Aside0.mk (blk_below (g := gb102) (o := .cells #[.bool ((rd_T57 l0 x10_1).f0), .string ((rd_T57 l0 x10_1).f1), .int .i64 ((rd_T57 l0 x10_1).f2), .string ((rd_T57 l0 x10_1).f3)] 57 (0, 0)) (by (with_reducible repeat (first | refine blk_drewN ?_ _ | refine blk_drew ?_ | refine blk_alloc ?_ _)); refine blk_put (cs := #[.bool ((rd_T57 l0 x10_1).f0), .string ((rd_T57 l0 x10_1).f1), .int .i64 ((rd_T57 l0 x10_1).f2), .string (⟨#[]⟩ : ByteArray)]) ?_ 3 _ rfl; (with_reducible repeat (first | refine blk_drewN ?_ _ | refine blk_drew ?_ | refine blk_alloc ?_ _)); refine blk_put (cs := #[.bool ((rd_T57 l0 x10_1).f0), .string ((rd_T57 l0 x10_1).f1), .int .i64 0, .string (⟨#[]⟩ : ByteArray)]) ?_ 2 _ rfl; (with_reducible repeat (first | refine blk_drewN ?_ _ | refine blk_drew ?_ | refine blk_alloc ?_ _)); refine blk_put (cs := #[.bool ((rd_T57 l0 x10_1).f0), .string (⟨#[]⟩ : ByteArray), .int .i64 0, .string (⟨#[]⟩ : ByteArray)]) ?_ 1 _ rfl; (with_reducible repeat (first | refine blk_drewN ?_ _ | refine blk_drew ?_ | refine blk_alloc ?_ _)); refine blk_put (cs := #[.bool false, .string (⟨#[]⟩ : ByteArray), .int .i64 0, .string (⟨#[]⟩ : ByteArray)]) ?_ 0 _ rfl; (with_reducible repeat (first | refine blk_drewN ?_ _ | refine blk_drew ?_ | refine blk_alloc ?_ _)); exact BK102.out) hb); have n1_ := Aside0.mk (below_step (by repeat (first | (with_reducible first | exact HB.out | apply below_alloc | apply pw_below_drewN | apply below_drew1 | refine below_set ?_ GE102.out) | exact HB.out)) hb); clear BK102; clear HB; have BK102 := n0_; have HB := n1_; clear n0_ n1_; (try clear hb); (try clear hb2); (try clear hk); (try clear hi)))
                        go_ret
                        exact ⟨by first | rfl | (simp [errW_none, errW_some] <;> rfl) | (simp [*, errW_none, errW_some] <;> rfl), by repeat (first | (with_reducible first | exact HB.out | apply below_alloc | apply pw_below_drewN | apply below_drew1 | refine below_set ?_ GE102.out) | exact HB.out)⟩
                    · rw [if_neg c13] at H
                      have c13b0 : (((rd_T57 l0 x10_1).f3).toList == ([] : List UInt8)) = false := beq_eq_false_iff_ne.mpr c13
                      have c13b1 : (((rd_T57 l0 x10_1).f3).toList != ([] : List UInt8)) = true := bne_iff_ne.mpr c13
                      (try (have c13b2 : ((rd_T57 l0 x10_1).f3).toList.isEmpty = false := by simpa using c13))
                      (try (have c13b3 : List.isEmpty (((rd_T57 l0 x10_1).f3).toList) = false := by simpa using c13))
                      obtain rfl := Option.some.inj H
                      have p101 : 0 ≤ (x10_1 : Int) := of_decide_eq_true (by first | (with_reducible assumption) | assumption)
                      have q101 : x10_1 < (l0.length : Int) := of_decide_eq_true (by first | (with_reducible assumption) | assumption)
                      obtain ⟨ad101, e101, hx101_0, hx101_1, hx101_2, hx101_3⟩ := at_T57 HR0.out x10_1 p101 q101
                      cases e101
                      replace hx101_0 := (HB.out.cell (World.block_lt_of_cell? w _ hx101_0)).trans hx101_0
                      replace hx101_1 := (HB.out.cell (World.block_lt_of_cell? w _ hx101_1)).trans hx101_1
                      replace hx101_2 := (HB.out.cell (World.block_lt_of_cell? w _ hx101_2)).trans hx101_2
                      replace hx101_3 := (HB.out.cell (World.block_lt_of_cell? w _ hx101_3)).trans hx101_3
                      replace p101 := eq_true p101
                      replace q101 := eq_true q101
                      go_wp2_with (first | ((with_reducible refine gate_dst (N := 4) rfl ?_); refine box_event ?hg (N := 4) ?hd (cs := #[.bool false, .string (⟨#[]⟩ : ByteArray), .int .i64 0, .string (⟨#[]⟩ : ByteArray)]) (t := 57) ?hr ?_; (case hd => rfl); (case hg => rfl); (case hr => first | (go_simp; done) | (go_simp; rfl)); intro gb102 hg w31 hbox hb; have n0_ := Aside0.mk (below_step (by repeat (first | (with_reducible first | exact HB.out | apply below_alloc | apply pw_below_drewN | apply below_drew1) | exact HB.out)) hb); have n1_ := Aside0.mk (hbox); have n2_ := Aside0.mk ((by rw [hg]; exact (below_size (by repeat (first | (with_reducible first | exact HB.out | apply below_alloc | apply pw_below_drewN | apply below_drew1) | exact HB.out))) : w.heap.size ≤ gb102)); have n3_ := Aside0.mk ((by rw [hg]; exact (below_size (by repeat (first | (with_reducible first | exact HB.out | apply below_alloc | apply pw_below_drewN | apply below_drew1) | exact HB.out))) : w.heap.size ≤ gb102)); clear HB; have HB := n0_; have BK102 := n1_; have GW102 := n2_; have GE102 := n3_; clear n0_ n1_ n2_ n3_; clear hb hbox hg; have hcz32_0 : w31.cell? ⟨gb102, 0, none⟩ = some (.bool false) := (blk_cell BK102.out 0).trans rfl; have hcz32_1 : w31.cell? ⟨gb102, 1, none⟩ = some (.string (⟨#[]⟩ : ByteArray)) := (blk_cell BK102.out 1).trans rfl; have hcz32_2 : w31.cell? ⟨gb102, 2, none⟩ = some (.int .i64 0) := (blk_cell BK102.out 2).trans rfl; have hcz32_3 : w31.cell? ⟨gb102, 3, none⟩ = some (.string (⟨#[]⟩ : ByteArray)) := (blk_cell BK102.out 3).trans rfl; have hfz32_0 := blk_frozen BK102.out 0; have hfz32_1 := blk_frozen BK102.out 1; have hfz32_2 := blk_frozen BK102.out 2; have hfz32_3 := blk_frozen BK102.out 3))
                      go_ret
                      exact ⟨by first | rfl | (simp [errW_none, errW_some] <;> rfl) | (simp [*, errW_none, errW_some] <;> rfl), by repeat (first | (with_reducible first | exact HB.out | apply below_alloc | apply pw_below_drewN | apply below_drew1 | refine below_set ?_ GE102.out) | exact HB.out)⟩
                  · rw [if_neg c12] at H
                    have c12b0 : (((rd_T57 l0 x10_1).f2) == 0) = false := beq_eq_false_iff_ne.mpr c12
                    have c12b1 : (((rd_T57 l0 x10_1).f2) != 0) = true := bne_iff_ne.mpr c12
                    replace H := Option.bind_eq_some_iff.mp H
                    obtain ⟨t105, A330, H⟩ := H
                    replace H : (if t105 = true then ((tap_isText.f ((rd_T57 l0 x10_1).f3)).bind fun t106 => (if t106 = true then (tap_asked.l0 k1 l0 (l0.length : Int) (wrap64 (x10_1 + 1))) else (some 1))) else (some 1)) = some r := H
                    have A33 := Aside0.mk A330
                    clear A330
                    by_cases c34 : t105 = true
                    · subst c34
                      have H1 : ((tap_isText.f ((rd_T57 l0 x10_1).f3)).bind fun t106 => (if t106 = true then (tap_asked.l0 k1 l0 (l0.length : Int) (wrap64 (x10_1 + 1))) else (some 1))) = some r := by rw [if_pos rfl] at H; exact H
                      clear H
                      have H := H1
                      clear H1
                      replace H := Option.bind_eq_some_iff.mp H
                      obtain ⟨t106, A350, H⟩ := H
                      replace H : (if t106 = true then (tap_asked.l0 k1 l0 (l0.length : Int) (wrap64 (x10_1 + 1))) else (some 1)) = some r := H
                      have A35 := Aside0.mk A350
                      clear A350
                      by_cases c36 : t106 = true
                      · subst c36
                        have H1 : (tap_asked.l0 k1 l0 (l0.length : Int) (wrap64 (x10_1 + 1))) = some r := by rw [if_pos rfl] at H; exact H
                        clear H
                        have H := H1
                        clear H1
                        have H' := Aside0.mk H
                        clear H
                        have p101 : 0 ≤ (x10_1 : Int) := of_decide_eq_true (by first | (with_reducible assumption) | assumption)
                        have q101 : x10_1 < (l0.length : Int) := of_decide_eq_true (by first | (with_reducible assumption) | assumption)
                        obtain ⟨ad101, e101, hx101_0, hx101_1, hx101_2, hx101_3⟩ := at_T57 HR0.out x10_1 p101 q101
                        cases e101
                        replace hx101_0 := (HB.out.cell (World.block_lt_of_cell? w _ hx101_0)).trans hx101_0
                        replace hx101_1 := (HB.out.cell (World.block_lt_of_cell? w _ hx101_1)).trans hx101_1
                        replace hx101_2 := (HB.out.cell (World.block_lt_of_cell? w _ hx101_2)).trans hx101_2
                        replace hx101_3 := (HB.out.cell (World.block_lt_of_cell? w _ hx101_3)).trans hx101_3
                        replace p101 := eq_true p101
                        replace q101 := eq_true q101
                        go_wp2_with (first | ((with_reducible refine gate_dst (N := 4) rfl ?_); refine box_event ?hg (N := 4) ?hd (cs := #[.bool false, .string (⟨#[]⟩ : ByteArray), .int .i64 0, .string (⟨#[]⟩ : ByteArray)]) (t := 57) ?hr ?_; (case hd => rfl); (case hg => rfl); (case hr => first | (go_simp; done) | (go_simp; rfl)); intro gb102 hg w37 hbox hb; have n0_ := Aside0.mk (below_step (by repeat (first | (with_reducible first | exact HB.out | apply below_alloc | apply pw_below_drewN | apply below_drew1) | exact HB.out)) hb); have n1_ := Aside0.mk (hbox); have n2_ := Aside0.mk ((by rw [hg]; exact (below_size (by repeat (first | (with_reducible first | exact HB.out | apply below_alloc | apply pw_below_drewN | apply below_drew1) | exact HB.out))) : w.heap.size ≤ gb102)); have n3_ := Aside0.mk ((by rw [hg]; exact (below_size (by repeat (first | (with_reducible first | exact HB.out | apply below_alloc | apply pw_below_drewN | apply below_drew1) | exact HB.out))) : w.heap.size ≤ gb102)); clear HB; have HB := n0_; have BK102 := n1_; have GW102 := n2_; have GE102 := n3_; clear n0_ n1_ n2_ n3_; clear hb hbox hg; have hcz38_0 : w37.cell? ⟨gb102, 0, none⟩ = some (.bool false) := (blk_cell BK102.out 0).trans rfl; have hcz38_1 : w37.cell? ⟨gb102, 1, none⟩ = some (.string (⟨#[]⟩ : ByteArray)) := (blk_cell BK102.out 1).trans rfl; have hcz38_2 : w37.cell? ⟨gb102, 2, none⟩ = some (.int .i64 0) := (blk_cell BK102.out 2).trans rfl; have hcz38_3 : w37.cell? ⟨gb102, 3, none⟩ = some (.string (⟨#[]⟩ : ByteArray)) := (blk_cell BK102.out 3).trans rfl; have hfz38_0 := blk_frozen BK102.out 0; have hfz38_1 := blk_frozen BK102.out 1; have hfz38_2 := blk_frozen BK102.out 2; have hfz38_3 := blk_frozen BK102.out 3) | (go_at_call 81; (with_reducible refine (tap_isName.calls ((rd_T57 l0 x10_1).f1) true _ ?side1 A33.out).mono ?_); (case side1 => first | exact hL | exact LaidW.below hL (by repeat (first | (with_reducible first | exact HB.out | apply below_alloc | apply pw_below_drewN | apply below_drew1 | refine below_set ?_ GE102.out) | exact HB.out))); rintro e w39 ⟨rfl, hb⟩; have n0_ := Aside0.mk (blk_below (g := gb102) (o := .cells #[.bool ((rd_T57 l0 x10_1).f0), .string ((rd_T57 l0 x10_1).f1), .int .i64 ((rd_T57 l0 x10_1).f2), .string ((rd_T57 l0 x10_1).f3)] 57 (0, 0)) (by (with_reducible repeat (first | refine blk_drewN ?_ _ | refine blk_drew ?_ | refine blk_alloc ?_ _)); refine blk_put (cs := #[.bool ((rd_T57 l0 x10_1).f0), .string ((rd_T57 l0 x10_1).f1), .int .i64 ((rd_T57 l0 x10_1).f2), .string (⟨#[]⟩ : ByteArray)]) ?_ 3 _ rfl; (with_reducible repeat (first | refine blk_drewN ?_ _ | refine blk_drew ?_ | refine blk_alloc ?_ _)); refine blk_put (cs := #[.bool ((rd_T57 l0 x10_1).f0), .string ((rd_T57 l0 x10_1).f1), .int .i64 0, .string (⟨#[]⟩ : ByteArray)]) ?_ 2 _ rfl; (with_reducible repeat (first | refine blk_drewN ?_ _ | refine blk_drew ?_ | refine blk_alloc ?_ _)); refine blk_put (cs := #[.bool ((rd_T57 l0 x10_1).f0), .string (⟨#[]⟩ : ByteArray), .int .i64 0, .string (⟨#[]⟩ : ByteArray)]) ?_ 1 _ rfl; (with_reducible repeat (first | refine blk_drewN ?_ _ | refine blk_drew ?_ | refine blk_alloc ?_ _)); refine blk_put (cs := #[.bool false, .string (⟨#[]⟩ : ByteArray), .int .i64 0, .string (⟨#[]⟩ : ByteArray)]) ?_ 0 _ rfl; (with_reducible repeat (first | refine blk_drewN ?_ _ | refine blk_drew ?_ | refine blk_alloc ?_ _)); exact BK102.out) hb); have n1_ := Aside0.mk (below_step (by repeat (first | (with_reducible first | exact HB.out | apply below_alloc | apply pw_below_drewN | apply below_drew1 | refine below_set ?_ GE102.out) | exact HB.out)) hb); clear BK102; clear HB; have BK102 := n0_; have HB := n1_; clear n0_ n1_; (try clear hb); (try clear hb2); (try clear hk); (try clear hi); have hcz40_0 : w39.cell? ⟨gb102, 0, none⟩ = some (.bool ((rd_T57 l0 x10_1).f0)) := (blk_cell BK102.out 0).trans rfl; have hcz40_1 : w39.cell? ⟨gb102, 1, none⟩ = some (.string ((rd_T57 l0 x10_1).f1)) := (blk_cell BK102.out 1).trans rfl; have hcz40_2 : w39.cell? ⟨gb102, 2, none⟩ = some (.int .i64 ((rd_T57 l0 x10_1).f2)) := (blk_cell BK102.out 2).trans rfl; have hcz40_3 : w39.cell? ⟨gb102, 3, none⟩ = some (.string ((rd_T57 l0 x10_1).f3)) := (blk_cell BK102.out 3).trans rfl; have hfz40_0 := blk_frozen BK102.out 0; have hfz40_1 := blk_frozen BK102.out 1; have hfz40_2 := blk_frozen BK102.out 2; have hfz40_3 := blk_frozen BK102.out 3) | (go_at_call 82; (with_reducible refine (tap_isText.calls ((rd_T57 l0 x10_1).f3) true _ ?side1 A35.out).mono ?_); (case side1 => first | exact hL | exact LaidW.below hL (by repeat (first | (with_reducible first | exact HB.out | apply below_alloc | apply pw_below_drewN | apply below_drew1 | refine below_set ?_ GE102.out) | exact HB.out))); rintro e w41 ⟨rfl, hb⟩; have n0_ := Aside0.mk (blk_below (g := gb102) (o := .cells #[.bool ((rd_T57 l0 x10_1).f0), .string ((rd_T57 l0 x10_1).f1), .int .i64 ((rd_T57 l0 x10_1).f2), .string ((rd_T57 l0 x10_1).f3)] 57 (0, 0)) (by (with_reducible repeat (first | refine blk_drewN ?_ _ | refine blk_drew ?_ | refine blk_alloc ?_ _)); exact BK102.out) hb); have n1_ := Aside0.mk (below_step (by repeat (first | (with_reducible first | exact HB.out | apply below_alloc | apply pw_below_drewN | apply below_drew1 | refine below_set ?_ GE102.out) | exact HB.out)) hb); clear BK102; clear HB; have BK102 := n0_; have HB := n1_; clear n0_ n1_; (try clear hb); (try clear hb2); (try clear hk); (try clear hi)))
                        go_roundg k1
                        case measure => have := HK1.out; omega
                        case rel => exact ⟨(wrap64 (x10_1 + 1)), (by first | rfl | (simp; done) | (simp [*]; done) | (simp; generalize ByteArray.toList _ = l_; cases l_ <;> rfl)), H', ⟨by have := HK1.out; omega⟩, ⟨by repeat (first | (with_reducible first | exact HB.out | apply below_alloc | apply pw_below_drewN | apply below_drew1 | refine below_set ?_ GE102.out) | exact HB.out)⟩⟩
                      · replace c36 := Bool.eq_false_iff.mpr c36
                        subst c36
                        have H1 : (some 1) = some r := by rw [if_neg (show ¬ (false = true) by decide)] at H; exact H
                        clear H
                        have H := H1
                        clear H1
                        obtain rfl := Option.some.inj H
                        have p101 : 0 ≤ (x10_1 : Int) := of_decide_eq_true (by first | (with_reducible assumption) | assumption)
                        have q101 : x10_1 < (l0.length : Int) := of_decide_eq_true (by first | (with_reducible assumption) | assumption)
                        obtain ⟨ad101, e101, hx101_0, hx101_1, hx101_2, hx101_3⟩ := at_T57 HR0.out x10_1 p101 q101
                        cases e101
                        replace hx101_0 := (HB.out.cell (World.block_lt_of_cell? w _ hx101_0)).trans hx101_0
                        replace hx101_1 := (HB.out.cell (World.block_lt_of_cell? w _ hx101_1)).trans hx101_1
                        replace hx101_2 := (HB.out.cell (World.block_lt_of_cell? w _ hx101_2)).trans hx101_2
                        replace hx101_3 := (HB.out.cell (World.block_lt_of_cell? w _ hx101_3)).trans hx101_3
                        replace p101 := eq_true p101
                        replace q101 := eq_true q101
                        go_wp2_with (first | ((with_reducible refine gate_dst (N := 4) rfl ?_); refine box_event ?hg (N := 4) ?hd (cs := #[.bool false, .string (⟨#[]⟩ : ByteArray), .int .i64 0, .string (⟨#[]⟩ : ByteArray)]) (t := 57) ?hr ?_; (case hd => rfl); (case hg => rfl); (case hr => first | (go_simp; done) | (go_simp; rfl)); intro gb102 hg w42 hbox hb; have n0_ := Aside0.mk (below_step (by repeat (first | (with_reducible first | exact HB.out | apply below_alloc | apply pw_below_drewN | apply below_drew1) | exact HB.out)) hb); have n1_ := Aside0.mk (hbox); have n2_ := Aside0.mk ((by rw [hg]; exact (below_size (by repeat (first | (with_reducible first | exact HB.out | apply below_alloc | apply pw_below_drewN | apply below_drew1) | exact HB.out))) : w.heap.size ≤ gb102)); have n3_ := Aside0.mk ((by rw [hg]; exact (below_size (by repeat (first | (with_reducible first | exact HB.out | apply below_alloc | apply pw_below_drewN | apply below_drew1) | exact HB.out))) : w.heap.size ≤ gb102)); clear HB; have HB := n0_; have BK102 := n1_; have GW102 := n2_; have GE102 := n3_; clear n0_ n1_ n2_ n3_; clear hb hbox hg; have hcz43_0 : w42.cell? ⟨gb102, 0, none⟩ = some (.bool false) := (blk_cell BK102.out 0).trans rfl; have hcz43_1 : w42.cell? ⟨gb102, 1, none⟩ = some (.string (⟨#[]⟩ : ByteArray)) := (blk_cell BK102.out 1).trans rfl; have hcz43_2 : w42.cell? ⟨gb102, 2, none⟩ = some (.int .i64 0) := (blk_cell BK102.out 2).trans rfl; have hcz43_3 : w42.cell? ⟨gb102, 3, none⟩ = some (.string (⟨#[]⟩ : ByteArray)) := (blk_cell BK102.out 3).trans rfl; have hfz43_0 := blk_frozen BK102.out 0; have hfz43_1 := blk_frozen BK102.out 1; have hfz43_2 := blk_frozen BK102.out 2; have hfz43_3 := blk_frozen BK102.out 3) | (go_at_call 81; (with_reducible refine (tap_isName.calls ((rd_T57 l0 x10_1).f1) true _ ?side1 A33.out).mono ?_); (case side1 => first | exact hL | exact LaidW.below hL (by repeat (first | (with_reducible first | exact HB.out | apply below_alloc | apply pw_below_drewN | apply below_drew1 | refine below_set ?_ GE102.out) | exact HB.out))); rintro e w44 ⟨rfl, hb⟩; have n0_ := Aside0.mk (blk_below (g := gb102) (o := .cells #[.bool ((rd_T57 l0 x10_1).f0), .string ((rd_T57 l0 x10_1).f1), .int .i64 ((rd_T57 l0 x10_1).f2), .string ((rd_T57 l0 x10_1).f3)] 57 (0, 0)) (by (with_reducible repeat (first | refine blk_drewN ?_ _ | refine blk_drew ?_ | refine blk_alloc ?_ _)); refine blk_put (cs := #[.bool ((rd_T57 l0 x10_1).f0), .string ((rd_T57 l0 x10_1).f1), .int .i64 ((rd_T57 l0 x10_1).f2), .string (⟨#[]⟩ : ByteArray)]) ?_ 3 _ rfl; (with_reducible repeat (first | refine blk_drewN ?_ _ | refine blk_drew ?_ | refine blk_alloc ?_ _)); refine blk_put (cs := #[.bool ((rd_T57 l0 x10_1).f0), .string ((rd_T57 l0 x10_1).f1), .int .i64 0, .string (⟨#[]⟩ : ByteArray)]) ?_ 2 _ rfl; (with_reducible repeat (first | refine blk_drewN ?_ _ | refine blk_drew ?_ | refine blk_alloc ?_ _)); refine blk_put (cs := #[.bool ((rd_T57 l0 x10_1).f0), .string (⟨#[]⟩ : ByteArray), .int .i64 0, .string (⟨#[]⟩ : ByteArray)]) ?_ 1 _ rfl; (with_reducible repeat (first | refine blk_drewN ?_ _ | refine blk_drew ?_ | refine blk_alloc ?_ _)); refine blk_put (cs := #[.bool false, .string (⟨#[]⟩ : ByteArray), .int .i64 0, .string (⟨#[]⟩ : ByteArray)]) ?_ 0 _ rfl; (with_reducible repeat (first | refine blk_drewN ?_ _ | refine blk_drew ?_ | refine blk_alloc ?_ _)); exact BK102.out) hb); have n1_ := Aside0.mk (below_step (by repeat (first | (with_reducible first | exact HB.out | apply below_alloc | apply pw_below_drewN | apply below_drew1 | refine below_set ?_ GE102.out) | exact HB.out)) hb); clear BK102; clear HB; have BK102 := n0_; have HB := n1_; clear n0_ n1_; (try clear hb); (try clear hb2); (try clear hk); (try clear hi); have hcz45_0 : w44.cell? ⟨gb102, 0, none⟩ = some (.bool ((rd_T57 l0 x10_1).f0)) := (blk_cell BK102.out 0).trans rfl; have hcz45_1 : w44.cell? ⟨gb102, 1, none⟩ = some (.string ((rd_T57 l0 x10_1).f1)) := (blk_cell BK102.out 1).trans rfl; have hcz45_2 : w44.cell? ⟨gb102, 2, none⟩ = some (.int .i64 ((rd_T57 l0 x10_1).f2)) := (blk_cell BK102.out 2).trans rfl; have hcz45_3 : w44.cell? ⟨gb102, 3, none⟩ = some (.string ((rd_T57 l0 x10_1).f3)) := (blk_cell BK102.out 3).trans rfl; have hfz45_0 := blk_frozen BK102.out 0; have hfz45_1 := blk_frozen BK102.out 1; have hfz45_2 := blk_frozen BK102.out 2; have hfz45_3 := blk_frozen BK102.out 3) | (go_at_call 82; (with_reducible refine (tap_isText.calls ((rd_T57 l0 x10_1).f3) false _ ?side1 A35.out).mono ?_); (case side1 => first | exact hL | exact LaidW.below hL (by repeat (first | (with_reducible first | exact HB.out | apply below_alloc | apply pw_below_drewN | apply below_drew1 | refine below_set ?_ GE102.out) | exact HB.out))); rintro e w46 ⟨rfl, hb⟩; have n0_ := Aside0.mk (blk_below (g := gb102) (o := .cells #[.bool ((rd_T57 l0 x10_1).f0), .string ((rd_T57 l0 x10_1).f1), .int .i64 ((rd_T57 l0 x10_1).f2), .string ((rd_T57 l0 x10_1).f3)] 57 (0, 0)) (by (with_reducible repeat (first | refine blk_drewN ?_ _ | refine blk_drew ?_ | refine blk_alloc ?_ _)); exact BK102.out) hb); have n1_ := Aside0.mk (below_step (by repeat (first | (with_reducible first | exact HB.out | apply below_alloc | apply pw_below_drewN | apply below_drew1 | refine below_set ?_ GE102.out) | exact HB.out)) hb); clear BK102; clear HB; have BK102 := n0_; have HB := n1_; clear n0_ n1_; (try clear hb); (try clear hb2); (try clear hk); (try clear hi)))
                        go_ret
                        exact ⟨by first | rfl | (simp [errW_none, errW_some] <;> rfl) | (simp [*, errW_none, errW_some] <;> rfl), by repeat (first | (with_reducible first | exact HB.out | apply below_alloc | apply pw_below_drewN | apply below_drew1 | refine below_set ?_ GE102.out) | exact HB.out)⟩
                    · replace c34 := Bool.eq_false_iff.mpr c34
                      subst c34
                      have H1 : (some 1) = some r := by rw [if_neg (show ¬ (false = true) by decide)] at H; exact H
                      clear H
                      have H := H1
                      clear H1
                      obtain rfl := Option.some.inj H
                      have p101 : 0 ≤ (x10_1 : Int) := of_decide_eq_true (by first | (with_reducible assumption) | assumption)
                      have q101 : x10_1 < (l0.length : Int) := of_decide_eq_true (by first | (with_reducible assumption) | assumption)
                      obtain ⟨ad101, e101, hx101_0, hx101_1, hx101_2, hx101_3⟩ := at_T57 HR0.out x10_1 p101 q101
                      cases e101
                      replace hx101_0 := (HB.out.cell (World.block_lt_of_cell? w _ hx101_0)).trans hx101_0
                      replace hx101_1 := (HB.out.cell (World.block_lt_of_cell? w _ hx101_1)).trans hx101_1
                      replace hx101_2 := (HB.out.cell (World.block_lt_of_cell? w _ hx101_2)).trans hx101_2
                      replace hx101_3 := (HB.out.cell (World.block_lt_of_cell? w _ hx101_3)).trans hx101_3
                      replace p101 := eq_true p101
                      replace q101 := eq_true q101
                      go_wp2_with (first | ((with_reducible refine gate_dst (N := 4) rfl ?_); refine box_event ?hg (N := 4) ?hd (cs := #[.bool false, .string (⟨#[]⟩ : ByteArray), .int .i64 0, .string (⟨#[]⟩ : ByteArray)]) (t := 57) ?hr ?_; (case hd => rfl); (case hg => rfl); (case hr => first | (go_simp; done) | (go_simp; rfl)); intro gb102 hg w47 hbox hb; have n0_ := Aside0.mk (below_step (by repeat (first | (with_reducible first | exact HB.out | apply below_alloc | apply pw_below_drewN | apply below_drew1) | exact HB.out)) hb); have n1_ := Aside0.mk (hbox); have n2_ := Aside0.mk ((by rw [hg]; exact (below_size (by repeat (first | (with_reducible first | exact HB.out | apply below_alloc | apply pw_below_drewN | apply below_drew1) | exact HB.out))) : w.heap.size ≤ gb102)); have n3_ := Aside0.mk ((by rw [hg]; exact (below_size (by repeat (first | (with_reducible first | exact HB.out | apply below_alloc | apply pw_below_drewN | apply below_drew1) | exact HB.out))) : w.heap.size ≤ gb102)); clear HB; have HB := n0_; have BK102 := n1_; have GW102 := n2_; have GE102 := n3_; clear n0_ n1_ n2_ n3_; clear hb hbox hg; have hcz48_0 : w47.cell? ⟨gb102, 0, none⟩ = some (.bool false) := (blk_cell BK102.out 0).trans rfl; have hcz48_1 : w47.cell? ⟨gb102, 1, none⟩ = some (.string (⟨#[]⟩ : ByteArray)) := (blk_cell BK102.out 1).trans rfl; have hcz48_2 : w47.cell? ⟨gb102, 2, none⟩ = some (.int .i64 0) := (blk_cell BK102.out 2).trans rfl; have hcz48_3 : w47.cell? ⟨gb102, 3, none⟩ = some (.string (⟨#[]⟩ : ByteArray)) := (blk_cell BK102.out 3).trans rfl; have hfz48_0 := blk_frozen BK102.out 0; have hfz48_1 := blk_frozen BK102.out 1; have hfz48_2 := blk_frozen BK102.out 2; have hfz48_3 := blk_frozen BK102.out 3) | (go_at_call 81; (with_reducible refine (tap_isName.calls ((rd_T57 l0 x10_1).f1) false _ ?side1 A33.out).mono ?_); (case side1 => first | exact hL | exact LaidW.below hL (by repeat (first | (with_reducible first | exact HB.out | apply below_alloc | apply pw_below_drewN | apply below_drew1 | refine below_set ?_ GE102.out) | exact HB.out))); rintro e w49 ⟨rfl, hb⟩; have n0_ := Aside0.mk (blk_below (g := gb102) (o := .cells #[.bool ((rd_T57 l0 x10_1).f0), .string ((rd_T57 l0 x10_1).f1), .int .i64 ((rd_T57 l0 x10_1).f2), .string ((rd_T57 l0 x10_1).f3)] 57 (0, 0)) (by (with_reducible repeat (first | refine blk_drewN ?_ _ | refine blk_drew ?_ | refine blk_alloc ?_ _)); refine blk_put (cs := #[.bool ((rd_T57 l0 x10_1).f0), .string ((rd_T57 l0 x10_1).f1), .int .i64 ((rd_T57 l0 x10_1).f2), .string (⟨#[]⟩ : ByteArray)]) ?_ 3 _ rfl; (with_reducible repeat (first | refine blk_drewN ?_ _ | refine blk_drew ?_ | refine blk_alloc ?_ _)); refine blk_put (cs := #[.bool ((rd_T57 l0 x10_1).f0), .string ((rd_T57 l0 x10_1).f1), .int .i64 0, .string (⟨#[]⟩ : ByteArray)]) ?_ 2 _ rfl; (with_reducible repeat (first | refine blk_drewN ?_ _ | refine blk_drew ?_ | refine blk_alloc ?_ _)); refine blk_put (cs := #[.bool ((rd_T57 l0 x10_1).f0), .string (⟨#[]⟩ : ByteArray), .int .i64 0, .string (⟨#[]⟩ : ByteArray)]) ?_ 1 _ rfl; (with_reducible repeat (first | refine blk_drewN ?_ _ | refine blk_drew ?_ | refine blk_alloc ?_ _)); refine blk_put (cs := #[.bool false, .string (⟨#[]⟩ : ByteArray), .int .i64 0, .string (⟨#[]⟩ : ByteArray)]) ?_ 0 _ rfl; (with_reducible repeat (first | refine blk_drewN ?_ _ | refine blk_drew ?_ | refine blk_alloc ?_ _)); exact BK102.out) hb); have n1_ := Aside0.mk (below_step (by repeat (first | (with_reducible first | exact HB.out | apply below_alloc | apply pw_below_drewN | apply below_drew1 | refine below_set ?_ GE102.out) | exact HB.out)) hb); clear BK102; clear HB; have BK102 := n0_; have HB := n1_; clear n0_ n1_; (try clear hb); (try clear hb2); (try clear hk); (try clear hi)))
                      go_ret
                      exact ⟨by first | rfl | (simp [errW_none, errW_some] <;> rfl) | (simp [*, errW_none, errW_some] <;> rfl), by repeat (first | (with_reducible first | exact HB.out | apply below_alloc | apply pw_below_drewN | apply below_drew1 | refine below_set ?_ GE102.out) | exact HB.out)⟩
            · rw [if_neg c5] at H
              exact absurd H (by simp)
          · rw [if_neg c4] at H
            exact absurd H (by simp)
        · rw [if_neg c3] at H
          have c3b0 : decide (x10_1 < (l0.length : Int)) = false := decide_eq_false c3
          clear c3
          obtain rfl := Option.some.inj H
          go_wp2
          go_ret
          exact ⟨by first | rfl | (simp [errW_none, errW_some] <;> rfl) | (simp [*, errW_none, errW_some] <;> rfl), by repeat (first | (with_reducible first | exact HB.out | apply below_alloc | apply pw_below_drewN | apply below_drew1) | exact HB.out)⟩
def tap_directives.f  : Option (List ByteArray) := some (([(⟨#[]⟩ : ByteArray), (⟨#[83, 75, 73, 80]⟩ : ByteArray), (⟨#[84, 79, 68, 79]⟩ : ByteArray)] : List ByteArray))
set_option maxHeartbeats 8000000 in
set_option maxRecDepth 100000 in
theorem tap_directives.calls  (r : List ByteArray) (w : World) (h : tap_directives.f  = some r) :
    Calls Tryd.prog 83 #[] w fun e w' => ∃ v0_ : Value, e = .returned (v0_) ∧ Kd.R Kd.string 9 w' w.heap.size (fun _ => True) v0_ r ∧ Below w.heap.size w w' := by
  have HB := Aside0.mk (Below.refl w.heap.size w)
  have H : (some (([(⟨#[]⟩ : ByteArray), (⟨#[83, 75, 73, 80]⟩ : ByteArray), (⟨#[84, 79, 68, 79]⟩ : ByteArray)] : List ByteArray))) = some r := h
  clear h
  obtain ⟨y107, hy107⟩ : ∃ y_ : List ByteArray, y_ = (([(⟨#[]⟩ : ByteArray), (⟨#[83, 75, 73, 80]⟩ : ByteArray), (⟨#[84, 79, 68, 79]⟩ : ByteArray)] : List ByteArray)) := ⟨_, rfl⟩
  replace H : (some y107) = some r := by first | (rw [hy107]; with_reducible exact H) | (have H2_ := (Option.bind_some _ _).symm.trans H; rw [hy107]; with_reducible exact H2_) | (have H2_ := (Option.bind_some _ _).symm.trans H; with_reducible exact H2_) | with_reducible exact H | (rw [hy107]; exact H) | exact H
  have Ny107 := Aside0.mk hy107
  clear hy107
  obtain rfl := Option.some.inj H
  go_enter Tryd.func83, Tryd.ntmps83
  go_wp2_with (first | ((with_reducible refine gate_dst (N := 1) rfl ?_); refine Kd.R_lit Kd.string _ 9 ?hg (N := 1) ?hd (xs := ([(⟨#[]⟩ : ByteArray), (⟨#[83, 75, 73, 80]⟩ : ByteArray), (⟨#[84, 79, 68, 79]⟩ : ByteArray)] : List ByteArray)) (inner := [.string (⟨#[]⟩ : ByteArray), .string (⟨#[83, 75, 73, 80]⟩ : ByteArray), .string (⟨#[84, 79, 68, 79]⟩ : ByteArray)]) (ok := fun _ => True) (okp := fun _ => True) ?hr ?hp (fun _ hk => hk) trivial (Below.refl _ _) (Nat.le_refl _) (by simp) ?_; (case hd => rfl); (case hg => rfl); (case hr => first | (go_simp; done) | (go_simp; rfl)); (case hp => exact (Reps.one (show Kd.M Kd.string _ _ _ (⟨#[]⟩ : ByteArray) [.string (⟨#[]⟩ : ByteArray)] from rfl) (Reps.one (show Kd.M Kd.string _ _ _ (⟨#[83, 75, 73, 80]⟩ : ByteArray) [.string (⟨#[83, 75, 73, 80]⟩ : ByteArray)] from rfl) (Reps.one (show Kd.M Kd.string _ _ _ (⟨#[84, 79, 68, 79]⟩ : ByteArray) [.string (⟨#[84, 79, 68, 79]⟩ : ByteArray)] from rfl) (Reps.none _ _))))); intro v108 w1 ho2 hb hg_ hnew_; clear hg_ hnew_; (first | rw [← Ny107.out] at ho2 | (simp only [Int.reduceToNat] at ho2; rw [← Ny107.out] at ho2)); have n0_ := Aside0.mk (Kd.R_lower ho2 (below_size (by repeat (first | (with_reducible first | exact HB.out | apply below_alloc | apply pw_below_drewN | apply below_drew1) | exact HB.out)))); have n1_ := Aside0.mk (below_step (by repeat (first | (with_reducible first | exact HB.out | apply below_alloc | apply pw_below_drewN | apply below_drew1) | exact HB.out)) hb); clear HB; have HO109 := n0_; have HB := n1_; clear n0_ n1_; clear hb ho2))
  go_ret
  exact ⟨_, by first | rfl | (simp [errW_none, errW_some] <;> rfl) | (simp [*, errW_none, errW_some] <;> rfl), by (with_reducible repeat (first | apply Kd.R_alloc | apply Kd.R_drewN | apply Kd.R_drew)); exact HO109.out, by repeat (first | (with_reducible first | exact HB.out | apply below_alloc | apply pw_below_drewN | apply below_drew1) | exact HB.out)⟩
mutual
def tap_written.l0 : Nat → ByteArray → List (S57) → Int → Int → Option (ByteArray)
  | 0, _, _, _, _ => none
  | k + 1, x3, x11, x12, x13 => if x13 < x12 then (if 0 ≤ x13 then (if x13 < (x11.length : Int) then (if ((rd_T57 x11 x13).f0 = true) then (tap_written.j1 k x3 x13 x11 x12 x13 ((rd_T57 x11 x13).f0) ((rd_T57 x11 x13).f1) ((rd_T57 x11 x13).f2) ((rd_T57 x11 x13).f3)) else (if x3.size + 4 ≤ 9223372036854775807 then (tap_written.j1 k (x3 ++ (⟨#[110, 111, 116, 32]⟩ : ByteArray)) x13 x11 x12 x13 ((rd_T57 x11 x13).f0) ((rd_T57 x11 x13).f1) ((rd_T57 x11 x13).f2) ((rd_T57 x11 x13).f3)) else (none))) else (none)) else (none)) else (some x3)
def tap_written.j1 : Nat → ByteArray → Int → List (S57) → Int → Int → Bool → ByteArray → Int → ByteArray → Option (ByteArray)
  | 0, _, _, _, _, _, _, _, _, _ => none
  | k + 1, x3, x4, x11, x12, x13, x113000, x113001, x113002, x113003 => (strconv_Itoa.f (wrap64 (x4 + 1))).bind fun t113 => (if 3 + t113.size ≤ 9223372036854775807 then (if x3.size + ((⟨#[111, 107, 32]⟩ : ByteArray) ++ t113).size ≤ 9223372036854775807 then (if x113001.toList = ([] : List UInt8) then (tap_written.j2 k (x3 ++ ((⟨#[111, 107, 32]⟩ : ByteArray) ++ t113)) x11 x12 x13 x113000 x113001 x113002 x113003) else (if 3 + x113001.size ≤ 9223372036854775807 then (if (x3 ++ ((⟨#[111, 107, 32]⟩ : ByteArray) ++ t113)).size + ((⟨#[32, 45, 32]⟩ : ByteArray) ++ x113001).size ≤ 9223372036854775807 then (tap_written.j2 k ((x3 ++ ((⟨#[111, 107, 32]⟩ : ByteArray) ++ t113)) ++ ((⟨#[32, 45, 32]⟩ : ByteArray) ++ x113001)) x11 x12 x13 x113000 x113001 x113002 x113003) else (none)) else (none))) else (none)) else (none))
def tap_written.j2 : Nat → ByteArray → List (S57) → Int → Int → Bool → ByteArray → Int → ByteArray → Option (ByteArray)
  | 0, _, _, _, _, _, _, _, _ => none
  | k + 1, x3, x11, x12, x13, x113000, x113001, x113002, x113003 => if x113002 = 0 then (if x113003.toList = ([] : List UInt8) then (if x3.size + 1 ≤ 9223372036854775807 then (tap_written.l0 k (x3 ++ (⟨#[10]⟩ : ByteArray)) x11 x12 (wrap64 (x13 + 1))) else (none)) else (if 1 + x113003.size ≤ 9223372036854775807 then (if x3.size + ((⟨#[32]⟩ : ByteArray) ++ x113003).size ≤ 9223372036854775807 then (if (x3 ++ ((⟨#[32]⟩ : ByteArray) ++ x113003)).size + 1 ≤ 9223372036854775807 then (tap_written.l0 k ((x3 ++ ((⟨#[32]⟩ : ByteArray) ++ x113003)) ++ (⟨#[10]⟩ : ByteArray)) x11 x12 (wrap64 (x13 + 1))) else (none)) else (none)) else (none))) else ((tap_directives.f).bind fun t114 => (if 0 ≤ x113002 then (if x113002 < (t114.length : Int) then (if 3 + (rdOf ByteArray.empty t114 x113002).size ≤ 9223372036854775807 then (if x3.size + ((⟨#[32, 35, 32]⟩ : ByteArray) ++ (rdOf ByteArray.empty t114 x113002)).size ≤ 9223372036854775807 then (if x113003.toList = ([] : List UInt8) then (if (x3 ++ ((⟨#[32, 35, 32]⟩ : ByteArray) ++ (rdOf ByteArray.empty t114 x113002))).size + 1 ≤ 9223372036854775807 then (tap_written.l0 k ((x3 ++ ((⟨#[32, 35, 32]⟩ : ByteArray) ++ (rdOf ByteArray.empty t114 x113002))) ++ (⟨#[10]⟩ : ByteArray)) x11 x12 (wrap64 (x13 + 1))) else (none)) else (if 1 + x113003.size ≤ 9223372036854775807 then (if (x3 ++ ((⟨#[32, 35, 32]⟩ : ByteArray) ++ (rdOf ByteArray.empty t114 x113002))).size + ((⟨#[32]⟩ : ByteArray) ++ x113003).size ≤ 9223372036854775807 then (if ((x3 ++ ((⟨#[32, 35, 32]⟩ : ByteArray) ++ (rdOf ByteArray.empty t114 x113002))) ++ ((⟨#[32]⟩ : ByteArray) ++ x113003)).size + 1 ≤ 9223372036854775807 then (tap_written.l0 k (((x3 ++ ((⟨#[32, 35, 32]⟩ : ByteArray) ++ (rdOf ByteArray.empty t114 x113002))) ++ ((⟨#[32]⟩ : ByteArray) ++ x113003)) ++ (⟨#[10]⟩ : ByteArray)) x11 x12 (wrap64 (x13 + 1))) else (none)) else (none)) else (none))) else (none)) else (none)) else (none)) else (none)))
end
def tap_written.f (k : Nat) (l0 : List (S57)) : Option (ByteArray) := (strconv_Itoa.f (l0.length : Int)).bind fun t110 => (if 3 + t110.size ≤ 9223372036854775807 then (if ((⟨#[49, 46, 46]⟩ : ByteArray) ++ t110).size + 1 ≤ 9223372036854775807 then (tap_written.l0 k (((⟨#[49, 46, 46]⟩ : ByteArray) ++ t110) ++ (⟨#[10]⟩ : ByteArray)) l0 (l0.length : Int) 0) else (none)) else (none))
def tap_written.T11 : Bool × List (List Nat × List Nat) := (true, [([], []), ([], []), ([], []), ([2], [2]), ([1, 3], [1, 3]), ([4], [4]), ([5], [5]), ([0, 6], [0, 6]), ([7, 1, 0, 1, 2, 3, 4, 5, 6, 7], [0, 7])])
def tap_written.B11 : List Nat := [0, 0, 0, 4, 14, 30, 62, 127, 255]
theorem tap_written.tab11 : rtab .any (opsOf Tryd.f67 11) = tap_written.T11 := by kernel_rfl
theorem tap_written.bits11 : waitsOk tap_written.T11.2 tap_written.B11 = true := by kernel_rfl
set_option maxHeartbeats 8000000 in
set_option maxRecDepth 100000 in
theorem tap_written.calls (k : Nat) (A0 : Option Addr) (c0 : Nat) (l0 : List (S57)) (r : ByteArray) (w : World) (hL : LaidW w) (hr0 : Kd.C k57 w A0 l0.length l0) (hc0 : l0.length ≤ c0) (h : tap_written.f k l0 = some r) :
    Calls Tryd.prog 67 #[.slice A0 l0.length c0] w fun e w' => e = .returned (.string r) ∧ Below w.heap.size w w' := by
  have hu57 := Tryd.underlying57
  have HR0 := Aside0.mk hr0
  have HC0 := Aside0.mk hc0
  clear hr0 hc0
  have HB := Aside0.mk (Below.refl w.heap.size w)
  have H : ((strconv_Itoa.f (l0.length : Int)).bind fun t110 => (if 3 + t110.size ≤ 9223372036854775807 then (if ((⟨#[49, 46, 46]⟩ : ByteArray) ++ t110).size + 1 ≤ 9223372036854775807 then (tap_written.l0 k (((⟨#[49, 46, 46]⟩ : ByteArray) ++ t110) ++ (⟨#[10]⟩ : ByteArray)) l0 (l0.length : Int) 0) else (none)) else (none))) = some r := h
  clear h
  replace H := Option.bind_eq_some_iff.mp H
  obtain ⟨t110, A20, H⟩ := H
  replace H : (if 3 + t110.size ≤ 9223372036854775807 then (if ((⟨#[49, 46, 46]⟩ : ByteArray) ++ t110).size + 1 ≤ 9223372036854775807 then (tap_written.l0 k (((⟨#[49, 46, 46]⟩ : ByteArray) ++ t110) ++ (⟨#[10]⟩ : ByteArray)) l0 (l0.length : Int) 0) else (none)) else (none)) = some r := H
  have A2 := Aside0.mk A20
  clear A20
  by_cases c3 : 3 + t110.size ≤ 9223372036854775807
  · rw [if_pos c3] at H
    have c3b0 := eq_true c3
    have c3b1 : decide (3 + t110.size ≤ 9223372036854775807) = true := decide_eq_true c3
    try have c3b2 : (9223372036854775807 < 3 + t110.size) = False := eq_false (Nat.not_lt.2 c3)
    by_cases c4 : ((⟨#[49, 46, 46]⟩ : ByteArray) ++ t110).size + 1 ≤ 9223372036854775807
    · rw [if_pos c4] at H
      have c4b0 := eq_true c4
      have c4b1 : decide (((⟨#[49, 46, 46]⟩ : ByteArray) ++ t110).size + 1 ≤ 9223372036854775807) = true := decide_eq_true c4
      try have c4b3 : (9223372036854775807 < 3 + t110.size + 1) = False := eq_false (by have h_ := c4; (first | simp only [ByteArray.size_append, ByteArray.size_extract, Nat.min_self] at h_ | simp only [ByteArray.size_append] at h_); exact Nat.not_lt.2 h_)
      try have c4b2 : (9223372036854775807 < ((⟨#[49, 46, 46]⟩ : ByteArray) ++ t110).size + 1) = False := eq_false (Nat.not_lt.2 c4)
      have H' := Aside0.mk H
      clear H
      go_enter Tryd.func67, Tryd.ntmps67
      go_wp2_with (first | ((with_reducible refine gate_callee (f := 61) rfl ?_); refine goesL_ (some 8) rfl rfl Tryd.func61 (by kernel_rfl) rfl #[.int .i64 (l0.length : Int)] rfl (by (try simp only [List.map_toArray, List.map_cons, List.map_nil]); first | done | rfl | (simp only [List.length_drop, List.length_take]; rfl)) ?_; (with_reducible refine (strconv_Itoa.calls (l0.length : Int) t110 _ ?side1 A2.out).mono ?_); (case side1 => first | exact hL | exact LaidW.below hL (by repeat (first | (with_reducible first | exact HB.out | apply below_alloc | apply pw_below_drewN | apply below_drew1) | exact HB.out))); rintro e w5 ⟨rfl, hb⟩; refine ⟨_, rfl, ?_⟩; have n0_ := Aside0.mk (below_step (by repeat (first | (with_reducible first | exact HB.out | apply below_alloc | apply pw_below_drewN | apply below_drew1) | exact HB.out)) hb); clear HB; have HB := n0_; clear n0_; (try clear hb); (try clear hb2); (try clear hk); (try clear hi)))
      go_loopg [3, 13] k (fun kq v3 v13 w' => ∃ (x3_1 : ByteArray) (x13_1 : Int), v3 = .string x3_1 ∧ v13 = .int .i64 x13_1 ∧ Aside0 (tap_written.l0 kq x3_1 l0 (l0.length : Int) x13_1 = some r) ∧ Aside0 (kq ≤ k) ∧ Aside0 (Below w.heap.size w w'))
      case atStart => exact ⟨(((⟨#[49, 46, 46]⟩ : ByteArray) ++ t110) ++ (⟨#[10]⟩ : ByteArray)), (0), (by first | rfl | (simp; done) | (simp [*]; done) | (simp; generalize ByteArray.toList _ = l_; cases l_ <;> rfl)), (by first | rfl | (simp; done) | (simp [*]; done) | (simp; generalize ByteArray.toList _ = l_; cases l_ <;> rfl)), H', ⟨Nat.le_refl _⟩, ⟨by repeat (first | (with_reducible first | exact HB.out | apply below_alloc | apply pw_below_drewN | apply below_drew1) | exact HB.out)⟩⟩
      case round =>
        clear H'
        try clear p2
        try clear c3
        try clear c3b0
        try clear c3b1
        try clear c3b2
        try clear c4
        try clear c4b0
        try clear c4b1
        try clear c4b2
        obtain ⟨x3_1, x13_1, rfl, rfl, HA, HK1, HB⟩ := hrel
        cases gk with
        | zero => exact absurd HA.out (by simp [tap_written.l0])
        | succ k1 =>
          have H := HA.out
          clear HA
          simp only [tap_written.l0] at H
          by_cases c6 : x13_1 < (l0.length : Int)
          · rw [if_pos c6] at H
            have c6b0 : decide (x13_1 < (l0.length : Int)) = true := decide_eq_true c6
            clear c6
            by_cases c7 : 0 ≤ x13_1
            · rw [if_pos c7] at H
              have c7b0 : decide (0 ≤ x13_1) = true := decide_eq_true c7
              clear c7
              by_cases c8 : x13_1 < (l0.length : Int)
              · rw [if_pos c8] at H
                have c8b0 : decide (x13_1 < (l0.length : Int)) = true := decide_eq_true c8
                clear c8
                have HC9 := Aside0.mk H
                clear H
                have p111 : 0 ≤ (x13_1 : Int) := of_decide_eq_true (by first | (with_reducible assumption) | assumption)
                have q111 : x13_1 < (l0.length : Int) := of_decide_eq_true (by first | (with_reducible assumption) | assumption)
                obtain ⟨ad111, e111, hx111_0, hx111_1, hx111_2, hx111_3⟩ := at_T57 HR0.out x13_1 p111 q111
                cases e111
                replace hx111_0 := (HB.out.cell (World.block_lt_of_cell? w _ hx111_0)).trans hx111_0
                replace hx111_1 := (HB.out.cell (World.block_lt_of_cell? w _ hx111_1)).trans hx111_1
                replace hx111_2 := (HB.out.cell (World.block_lt_of_cell? w _ hx111_2)).trans hx111_2
                replace hx111_3 := (HB.out.cell (World.block_lt_of_cell? w _ hx111_3)).trans hx111_3
                replace p111 := eq_true p111
                replace q111 := eq_true q111
                go_upto_if 20 with (first | ((with_reducible refine gate_dst (N := 5) rfl ?_); refine box_event ?hg (N := 5) ?hd (cs := #[.bool false, .string (⟨#[]⟩ : ByteArray), .int .i64 0, .string (⟨#[]⟩ : ByteArray)]) (t := 57) ?hr ?_; (case hd => rfl); (case hg => rfl); (case hr => first | (go_simp; done) | (go_simp; rfl)); intro gb112 hg w10 hbox hb; have n0_ := Aside0.mk (below_step (by repeat (first | (with_reducible first | exact HB.out | apply below_alloc | apply pw_below_drewN | apply below_drew1) | exact HB.out)) hb); have n1_ := Aside0.mk (hbox); have n2_ := Aside0.mk ((by rw [hg]; exact (below_size (by repeat (first | (with_reducible first | exact HB.out | apply below_alloc | apply pw_below_drewN | apply below_drew1) | exact HB.out))) : w.heap.size ≤ gb112)); have n3_ := Aside0.mk ((by rw [hg]; exact (below_size (by repeat (first | (with_reducible first | exact HB.out | apply below_alloc | apply pw_below_drewN | apply below_drew1) | exact HB.out))) : w.heap.size ≤ gb112)); clear HB; have HB := n0_; have BK112 := n1_; have GW112 := n2_; have GE112 := n3_; clear n0_ n1_ n2_ n3_; clear hb hbox hg; have hcz11_0 : w10.cell? ⟨gb112, 0, none⟩ = some (.bool false) := (blk_cell BK112.out 0).trans rfl; have hcz11_1 : w10.cell? ⟨gb112, 1, none⟩ = some (.string (⟨#[]⟩ : ByteArray)) := (blk_cell BK112.out 1).trans rfl; have hcz11_2 : w10.cell? ⟨gb112, 2, none⟩ = some (.int .i64 0) := (blk_cell BK112.out 2).trans rfl; have hcz11_3 : w10.cell? ⟨gb112, 3, none⟩ = some (.string (⟨#[]⟩ : ByteArray)) := (blk_cell BK112.out 3).trans rfl; have hfz11_0 := blk_frozen BK112.out 0; have hfz11_1 := blk_frozen BK112.out 1; have hfz11_2 := blk_frozen BK112.out 2; have hfz11_3 := blk_frozen BK112.out 3))
                (try simp only [Act.put, List.setIfInBounds_toArray, List.set_cons_zero, List.set_cons_succ])
                go_cut [3] (fun v3 wc => ∃ (kq : Nat) (x3_8 : ByteArray), v3 = .string x3_8 ∧ Aside0 (tap_written.j1 kq x3_8 x13_1 l0 (l0.length : Int) x13_1 ((rd_T57 l0 x13_1).f0) ((rd_T57 l0 x13_1).f1) ((rd_T57 l0 x13_1).f2) ((rd_T57 l0 x13_1).f3) = some r) ∧ Aside0 (kq ≤ k1) ∧ Aside0 (wc.heap[gb112]? = some (.cells #[.bool ((rd_T57 l0 x13_1).f0), .string ((rd_T57 l0 x13_1).f1), .int .i64 ((rd_T57 l0 x13_1).f2), .string ((rd_T57 l0 x13_1).f3)] 57 (0, 0))) ∧ Aside0 (Below w.heap.size w wc))
                case first =>
                  have H := HC9.out
                  clear HC9
                  obtain ⟨bq12, hbq12⟩ : ∃ b_ : Bool, b_ = ((rd_T57 l0 x13_1).f0) := ⟨_, rfl⟩
                  replace H : (if (bq12 = true) then (tap_written.j1 k1 x3_1 x13_1 l0 (l0.length : Int) x13_1 bq12 ((rd_T57 l0 x13_1).f1) ((rd_T57 l0 x13_1).f2) ((rd_T57 l0 x13_1).f3)) else (if x3_1.size + 4 ≤ 9223372036854775807 then (tap_written.j1 k1 (x3_1 ++ (⟨#[110, 111, 116, 32]⟩ : ByteArray)) x13_1 l0 (l0.length : Int) x13_1 bq12 ((rd_T57 l0 x13_1).f1) ((rd_T57 l0 x13_1).f2) ((rd_T57 l0 x13_1).f3)) else (none))) = some r := by rw [← hbq12] at H; exact H
                  have Nbq12 := Aside0.mk hbq12
                  clear hbq12
                  (try rw [← Nbq12.out])
                  by_cases c13 : (bq12 = true)
                  · subst c13
                    have H1 : (tap_written.j1 k1 x3_1 x13_1 l0 (l0.length : Int) x13_1 true ((rd_T57 l0 x13_1).f1) ((rd_T57 l0 x13_1).f2) ((rd_T57 l0 x13_1).f3)) = some r := by rw [if_pos rfl] at H; exact H
                    clear H
                    have H := H1
                    clear H1
                    have H' := Aside0.mk H
                    clear H
                    go_wp2
                    go_meet
                    case rel => (try rw [← Nbq12.out]); exact ⟨_, (x3_1), (by first | rfl | (simp; done) | (simp [*]; done) | (simp; generalize ByteArray.toList _ = l_; cases l_ <;> rfl)), H', ⟨by have := HK1.out; first | omega | exact Nat.le_refl _⟩, ⟨by (with_reducible repeat (first | refine blk_drewN ?_ _ | refine blk_drew ?_ | refine blk_alloc ?_ _)); refine blk_put (cs := #[.bool (true), .string ((rd_T57 l0 x13_1).f1), .int .i64 ((rd_T57 l0 x13_1).f2), .string (⟨#[]⟩ : ByteArray)]) ?_ 3 _ rfl; (with_reducible repeat (first | refine blk_drewN ?_ _ | refine blk_drew ?_ | refine blk_alloc ?_ _)); refine blk_put (cs := #[.bool (true), .string ((rd_T57 l0 x13_1).f1), .int .i64 0, .string (⟨#[]⟩ : ByteArray)]) ?_ 2 _ rfl; (with_reducible repeat (first | refine blk_drewN ?_ _ | refine blk_drew ?_ | refine blk_alloc ?_ _)); refine blk_put (cs := #[.bool (true), .string (⟨#[]⟩ : ByteArray), .int .i64 0, .string (⟨#[]⟩ : ByteArray)]) ?_ 1 _ rfl; (with_reducible repeat (first | refine blk_drewN ?_ _ | refine blk_drew ?_ | refine blk_alloc ?_ _)); refine blk_put (cs := #[.bool false, .string (⟨#[]⟩ : ByteArray), .int .i64 0, .string (⟨#[]⟩ : ByteArray)]) ?_ 0 _ rfl; (with_reducible repeat (first | refine blk_drewN ?_ _ | refine blk_drew ?_ | refine blk_alloc ?_ _)); exact BK112.out⟩, ⟨by repeat (first | (with_reducible first | exact HB.out | apply below_alloc | apply pw_below_drewN | apply below_drew1 | refine below_set ?_ GE112.out) | exact HB.out)⟩⟩
                  · replace c13 := Bool.eq_false_iff.mpr c13
                    subst c13
                    have H1 : (if x3_1.size + 4 ≤ 9223372036854775807 then (tap_written.j1 k1 (x3_1 ++ (⟨#[110, 111, 116, 32]⟩ : ByteArray)) x13_1 l0 (l0.length : Int) x13_1 false ((rd_T57 l0 x13_1).f1) ((rd_T57 l0 x13_1).f2) ((rd_T57 l0 x13_1).f3)) else (none)) = some r := by rw [if_neg (show ¬ (false = true) by decide)] at H; exact H
                    clear H
                    have H := H1
                    clear H1
                    by_cases c14 : x3_1.size + 4 ≤ 9223372036854775807
                    · rw [if_pos c14] at H
                      have c14b0 := eq_true c14
                      have c14b1 : decide (x3_1.size + 4 ≤ 9223372036854775807) = true := decide_eq_true c14
                      try have c14b2 : (9223372036854775807 < x3_1.size + 4) = False := eq_false (Nat.not_lt.2 c14)
                      have H' := Aside0.mk H
                      clear H
                      go_wp2
                      go_meet
                      case rel => (try rw [← Nbq12.out]); exact ⟨_, (x3_1 ++ (⟨#[110, 111, 116, 32]⟩ : ByteArray)), (by first | rfl | (simp; done) | (simp [*]; done) | (simp; generalize ByteArray.toList _ = l_; cases l_ <;> rfl)), H', ⟨by have := HK1.out; first | omega | exact Nat.le_refl _⟩, ⟨by (with_reducible repeat (first | refine blk_drewN ?_ _ | refine blk_drew ?_ | refine blk_alloc ?_ _)); refine blk_put (cs := #[.bool (false), .string ((rd_T57 l0 x13_1).f1), .int .i64 ((rd_T57 l0 x13_1).f2), .string (⟨#[]⟩ : ByteArray)]) ?_ 3 _ rfl; (with_reducible repeat (first | refine blk_drewN ?_ _ | refine blk_drew ?_ | refine blk_alloc ?_ _)); refine blk_put (cs := #[.bool (false), .string ((rd_T57 l0 x13_1).f1), .int .i64 0, .string (⟨#[]⟩ : ByteArray)]) ?_ 2 _ rfl; (with_reducible repeat (first | refine blk_drewN ?_ _ | refine blk_drew ?_ | refine blk_alloc ?_ _)); refine blk_put (cs := #[.bool (false), .string (⟨#[]⟩ : ByteArray), .int .i64 0, .string (⟨#[]⟩ : ByteArray)]) ?_ 1 _ rfl; (with_reducible repeat (first | refine blk_drewN ?_ _ | refine blk_drew ?_ | refine blk_alloc ?_ _)); refine blk_put (cs := #[.bool false, .string (⟨#[]⟩ : ByteArray), .int .i64 0, .string (⟨#[]⟩ : ByteArray)]) ?_ 0 _ rfl; (with_reducible repeat (first | refine blk_drewN ?_ _ | refine blk_drew ?_ | refine blk_alloc ?_ _)); exact BK112.out⟩, ⟨by repeat (first | (with_reducible first | exact HB.out | apply below_alloc | apply pw_below_drewN | apply below_drew1 | refine below_set ?_ GE112.out) | exact HB.out)⟩⟩
                    · rw [if_neg c14] at H
                      exact absurd H (by simp)
                case rest =>
                  clear HC9
                  try clear c1
                  try clear p1
                  try clear q1
                  try clear hx1
                  try clear p2
                  try clear c3
                  try clear c3b0
                  try clear c3b1
                  try clear c3b2
                  try clear c4
                  try clear c4b0
                  try clear c4b1
                  try clear c4b2
                  try clear c6
                  try clear c6b0
                  try clear c7
                  try clear c7b0
                  try clear c8
                  try clear c8b0
                  try clear p11
                  try clear q11
                  try clear hx11
                  try clear q12
                  try clear c13
                  try clear c14
                  try clear c14b0
                  try clear c14b1
                  try clear c14b2
                  try clear hcz11_0
                  try clear hcz11_1
                  try clear hcz11_2
                  try clear hcz11_3
                  try clear hfz11_0
                  try clear hfz11_1
                  try clear hfz11_2
                  try clear hfz11_3
                  try clear hx111_0
                  try clear hx111_1
                  try clear hx111_2
                  try clear hx111_3
                  try clear p111
                  try clear p2
                  try clear q111
                  obtain ⟨kq, x3_8, rfl, HA, HJ8, BK112, HB⟩ := hcut
                  cases kq with
                  | zero => exact absurd HA.out (by simp [tap_written.j1])
                  | succ kj8 =>
                    have H := HA.out
                    clear HA
                    simp only [tap_written.j1] at H
                    replace H := Option.bind_eq_some_iff.mp H
                    obtain ⟨t113, A150, H⟩ := H
                    replace H : (if 3 + t113.size ≤ 9223372036854775807 then (if x3_8.size + ((⟨#[111, 107, 32]⟩ : ByteArray) ++ t113).size ≤ 9223372036854775807 then (if ((rd_T57 l0 x13_1).f1).toList = ([] : List UInt8) then (tap_written.j2 kj8 (x3_8 ++ ((⟨#[111, 107, 32]⟩ : ByteArray) ++ t113)) l0 (l0.length : Int) x13_1 ((rd_T57 l0 x13_1).f0) ((rd_T57 l0 x13_1).f1) ((rd_T57 l0 x13_1).f2) ((rd_T57 l0 x13_1).f3)) else (if 3 + ((rd_T57 l0 x13_1).f1).size ≤ 9223372036854775807 then (if (x3_8 ++ ((⟨#[111, 107, 32]⟩ : ByteArray) ++ t113)).size + ((⟨#[32, 45, 32]⟩ : ByteArray) ++ ((rd_T57 l0 x13_1).f1)).size ≤ 9223372036854775807 then (tap_written.j2 kj8 ((x3_8 ++ ((⟨#[111, 107, 32]⟩ : ByteArray) ++ t113)) ++ ((⟨#[32, 45, 32]⟩ : ByteArray) ++ ((rd_T57 l0 x13_1).f1))) l0 (l0.length : Int) x13_1 ((rd_T57 l0 x13_1).f0) ((rd_T57 l0 x13_1).f1) ((rd_T57 l0 x13_1).f2) ((rd_T57 l0 x13_1).f3)) else (none)) else (none))) else (none)) else (none)) = some r := H
                    have A15 := Aside0.mk A150
                    clear A150
                    by_cases c16 : 3 + t113.size ≤ 9223372036854775807
                    · rw [if_pos c16] at H
                      have c16b0 := eq_true c16
                      have c16b1 : decide (3 + t113.size ≤ 9223372036854775807) = true := decide_eq_true c16
                      try have c16b2 : (9223372036854775807 < 3 + t113.size) = False := eq_false (Nat.not_lt.2 c16)
                      by_cases c17 : x3_8.size + ((⟨#[111, 107, 32]⟩ : ByteArray) ++ t113).size ≤ 9223372036854775807
                      · rw [if_pos c17] at H
                        have c17b0 := eq_true c17
                        have c17b1 : decide (x3_8.size + ((⟨#[111, 107, 32]⟩ : ByteArray) ++ t113).size ≤ 9223372036854775807) = true := decide_eq_true c17
                        try have c17b3 : (9223372036854775807 < x3_8.size + (3 + t113.size)) = False := eq_false (by have h_ := c17; (first | simp only [ByteArray.size_append, ByteArray.size_extract, Nat.min_self] at h_ | simp only [ByteArray.size_append] at h_); exact Nat.not_lt.2 h_)
                        try have c17b2 : (9223372036854775807 < x3_8.size + ((⟨#[111, 107, 32]⟩ : ByteArray) ++ t113).size) = False := eq_false (Nat.not_lt.2 c17)
                        have HC18 := Aside0.mk H
                        clear H
                        go_upto_if 31 with (first | ((with_reducible refine gate_callee (f := 61) rfl ?_); refine goesL_ (some 26) rfl rfl Tryd.func61 (by kernel_rfl) rfl #[.int .i64 (wrap64 (x13_1 + 1))] rfl (by (try simp only [List.map_toArray, List.map_cons, List.map_nil]); first | done | rfl | (simp only [List.length_drop, List.length_take]; rfl)) ?_; (with_reducible refine (strconv_Itoa.calls (wrap64 (x13_1 + 1)) t113 _ ?side1 A15.out).mono ?_); (case side1 => first | exact hL | exact LaidW.below hL (by repeat (first | (with_reducible first | exact HB.out | apply below_alloc | apply pw_below_drewN | apply below_drew1 | refine below_set ?_ GE112.out) | exact HB.out))); rintro e w19 ⟨rfl, hb⟩; refine ⟨_, rfl, ?_⟩; have n0_ := Aside0.mk (blk_below (g := gb112) (o := .cells #[.bool ((rd_T57 l0 x13_1).f0), .string ((rd_T57 l0 x13_1).f1), .int .i64 ((rd_T57 l0 x13_1).f2), .string ((rd_T57 l0 x13_1).f3)] 57 (0, 0)) (by (with_reducible repeat (first | refine blk_drewN ?_ _ | refine blk_drew ?_ | refine blk_alloc ?_ _)); exact BK112.out) hb); have n1_ := Aside0.mk (below_step (by repeat (first | (with_reducible first | exact HB.out | apply below_alloc | apply pw_below_drewN | apply below_drew1 | refine below_set ?_ GE112.out) | exact HB.out)) hb); clear BK112; clear HB; have BK112 := n0_; have HB := n1_; clear n0_ n1_; (try clear hb); (try clear hb2); (try clear hk); (try clear hi); have hcz20_0 : w19.cell? ⟨gb112, 0, none⟩ = some (.bool ((rd_T57 l0 x13_1).f0)) := (blk_cell BK112.out 0).trans rfl; have hcz20_1 : w19.cell? ⟨gb112, 1, none⟩ = some (.string ((rd_T57 l0 x13_1).f1)) := (blk_cell BK112.out 1).trans rfl; have hcz20_2 : w19.cell? ⟨gb112, 2, none⟩ = some (.int .i64 ((rd_T57 l0 x13_1).f2)) := (blk_cell BK112.out 2).trans rfl; have hcz20_3 : w19.cell? ⟨gb112, 3, none⟩ = some (.string ((rd_T57 l0 x13_1).f3)) := (blk_cell BK112.out 3).trans rfl; have hfz20_0 := blk_frozen BK112.out 0; have hfz20_1 := blk_frozen BK112.out 1; have hfz20_2 := blk_frozen BK112.out 2; have hfz20_3 := blk_frozen BK112.out 3))
                        (try simp only [Act.put, List.setIfInBounds_toArray, List.set_cons_zero, List.set_cons_succ])
                        go_cut [3] (fun v3 wc => ∃ (kq : Nat) (x3_17 : ByteArray), v3 = .string x3_17 ∧ Aside0 (tap_written.j2 kq x3_17 l0 (l0.length : Int) x13_1 ((rd_T57 l0 x13_1).f0) ((rd_T57 l0 x13_1).f1) ((rd_T57 l0 x13_1).f2) ((rd_T57 l0 x13_1).f3) = some r) ∧ Aside0 (kq ≤ kj8) ∧ Aside0 (wc.heap[gb112]? = some (.cells #[.bool ((rd_T57 l0 x13_1).f0), .string ((rd_T57 l0 x13_1).f1), .int .i64 ((rd_T57 l0 x13_1).f2), .string ((rd_T57 l0 x13_1).f3)] 57 (0, 0))) ∧ Aside0 (Below w.heap.size w wc))
                        case first =>
                          have H := HC18.out
                          clear HC18
                          by_cases c21 : ((rd_T57 l0 x13_1).f1).toList = ([] : List UInt8)
                          · rw [if_pos c21] at H
                            have c21b0 : (((rd_T57 l0 x13_1).f1).toList == ([] : List UInt8)) = true := beq_iff_eq.mpr c21
                            have c21b1 : (((rd_T57 l0 x13_1).f1).toList != ([] : List UInt8)) = false := bne_eq_false_iff_eq.mpr c21
                            (try (have c21b2 : ((rd_T57 l0 x13_1).f1).toList.isEmpty = true := by simpa using c21))
                            (try (have c21b3 : List.isEmpty (((rd_T57 l0 x13_1).f1).toList) = true := by simpa using c21))
                            clear c21
                            (first | rw [c21b0] | (simp only [i64_w, i32_w]; rw [c21b0]) | skip); (try rw [c21b2])
                            have H' := Aside0.mk H
                            clear H
                            go_wp2
                            go_meet
                            case rel => exact ⟨_, (x3_8 ++ ((⟨#[111, 107, 32]⟩ : ByteArray) ++ t113)), (by first | rfl | (simp; done) | (simp [*]; done) | (simp; generalize ByteArray.toList _ = l_; cases l_ <;> rfl)), H', ⟨by have := HK1.out; have := HJ8.out; first | omega | exact Nat.le_refl _⟩, ⟨by (with_reducible repeat (first | refine blk_drewN ?_ _ | refine blk_drew ?_ | refine blk_alloc ?_ _)); exact BK112.out⟩, ⟨by repeat (first | (with_reducible first | exact HB.out | apply below_alloc | apply pw_below_drewN | apply below_drew1 | refine below_set ?_ GE112.out) | exact HB.out)⟩⟩
                          · rw [if_neg c21] at H
                            have c21b0 : (((rd_T57 l0 x13_1).f1).toList == ([] : List UInt8)) = false := beq_eq_false_iff_ne.mpr c21
                            have c21b1 : (((rd_T57 l0 x13_1).f1).toList != ([] : List UInt8)) = true := bne_iff_ne.mpr c21
                            (try (have c21b2 : ((rd_T57 l0 x13_1).f1).toList.isEmpty = false := by simpa using c21))
                            (try (have c21b3 : List.isEmpty (((rd_T57 l0 x13_1).f1).toList) = false := by simpa using c21))
                            (first | rw [c21b0] | (simp only [i64_w, i32_w]; rw [c21b0]) | skip); (try rw [c21b2])
                            by_cases c22 : 3 + ((rd_T57 l0 x13_1).f1).size ≤ 9223372036854775807
                            · rw [if_pos c22] at H
                              have c22b0 := eq_true c22
                              have c22b1 : decide (3 + ((rd_T57 l0 x13_1).f1).size ≤ 9223372036854775807) = true := decide_eq_true c22
                              try have c22b2 : (9223372036854775807 < 3 + ((rd_T57 l0 x13_1).f1).size) = False := eq_false (Nat.not_lt.2 c22)
                              by_cases c23 : (x3_8 ++ ((⟨#[111, 107, 32]⟩ : ByteArray) ++ t113)).size + ((⟨#[32, 45, 32]⟩ : ByteArray) ++ ((rd_T57 l0 x13_1).f1)).size ≤ 9223372036854775807
                              · rw [if_pos c23] at H
                                have c23b0 := eq_true c23
                                have c23b1 : decide ((x3_8 ++ ((⟨#[111, 107, 32]⟩ : ByteArray) ++ t113)).size + ((⟨#[32, 45, 32]⟩ : ByteArray) ++ ((rd_T57 l0 x13_1).f1)).size ≤ 9223372036854775807) = true := decide_eq_true c23
                                try have c23b3 : (9223372036854775807 < x3_8.size + (3 + t113.size) + (3 + ((rd_T57 l0 x13_1).f1).size)) = False := eq_false (by have h_ := c23; (first | simp only [ByteArray.size_append, ByteArray.size_extract, Nat.min_self] at h_ | simp only [ByteArray.size_append] at h_); exact Nat.not_lt.2 h_)
                                try have c23b2 : (9223372036854775807 < (x3_8 ++ ((⟨#[111, 107, 32]⟩ : ByteArray) ++ t113)).size + ((⟨#[32, 45, 32]⟩ : ByteArray) ++ ((rd_T57 l0 x13_1).f1)).size) = False := eq_false (Nat.not_lt.2 c23)
                                have H' := Aside0.mk H
                                clear H
                                have hcz24_0 : w19.cell? ⟨gb112, 0, none⟩ = some (.bool ((rd_T57 l0 x13_1).f0)) := (blk_cell BK112.out 0).trans rfl
                                have hcz24_1 : w19.cell? ⟨gb112, 1, none⟩ = some (.string ((rd_T57 l0 x13_1).f1)) := (blk_cell BK112.out 1).trans rfl
                                have hcz24_2 : w19.cell? ⟨gb112, 2, none⟩ = some (.int .i64 ((rd_T57 l0 x13_1).f2)) := (blk_cell BK112.out 2).trans rfl
                                have hcz24_3 : w19.cell? ⟨gb112, 3, none⟩ = some (.string ((rd_T57 l0 x13_1).f3)) := (blk_cell BK112.out 3).trans rfl
                                have hfz24_0 := blk_frozen BK112.out 0
                                have hfz24_1 := blk_frozen BK112.out 1
                                have hfz24_2 := blk_frozen BK112.out 2
                                have hfz24_3 := blk_frozen BK112.out 3
                                go_wp2
                                go_meet
                                case rel => exact ⟨_, ((x3_8 ++ ((⟨#[111, 107, 32]⟩ : ByteArray) ++ t113)) ++ ((⟨#[32, 45, 32]⟩ : ByteArray) ++ ((rd_T57 l0 x13_1).f1))), (by first | rfl | (simp; done) | (simp [*]; done) | (simp; generalize ByteArray.toList _ = l_; cases l_ <;> rfl)), H', ⟨by have := HK1.out; have := HJ8.out; first | omega | exact Nat.le_refl _⟩, ⟨by (with_reducible repeat (first | refine blk_drewN ?_ _ | refine blk_drew ?_ | refine blk_alloc ?_ _)); exact BK112.out⟩, ⟨by repeat (first | (with_reducible first | exact HB.out | apply below_alloc | apply pw_below_drewN | apply below_drew1 | refine below_set ?_ GE112.out) | exact HB.out)⟩⟩
                              · rw [if_neg c23] at H
                                exact absurd H (by simp)
                            · rw [if_neg c22] at H
                              exact absurd H (by simp)
                        case rest =>
                          clear HC18
                          try clear c1
                          try clear p1
                          try clear q1
                          try clear hx1
                          try clear c2
                          try clear p2
                          try clear c3
                          try clear c3b0
                          try clear c3b1
                          try clear c3b2
                          try clear c4
                          try clear c4b0
                          try clear c4b1
                          try clear c4b2
                          try clear c6
                          try clear c6b0
                          try clear p6
                          try clear c7
                          try clear c7b0
                          try clear c8
                          try clear c8b0
                          try clear p11
                          try clear q11
                          try clear hx11
                          try clear q12
                          try clear c13
                          try clear c14
                          try clear c14b0
                          try clear c14b1
                          try clear c14b2
                          try clear c16
                          try clear c16b0
                          try clear c16b1
                          try clear c16b2
                          try clear c17
                          try clear c17b0
                          try clear c17b1
                          try clear c17b2
                          try clear c21
                          try clear c21b0
                          try clear c21b1
                          try clear c21b2
                          try clear c22
                          try clear c22b0
                          try clear c22b1
                          try clear c22b2
                          try clear c23
                          try clear c23b0
                          try clear c23b1
                          try clear c23b2
                          try clear hcz11_0
                          try clear hcz11_1
                          try clear hcz11_2
                          try clear hcz11_3
                          try clear hcz20_0
                          try clear hcz20_1
                          try clear hcz20_2
                          try clear hcz20_3
                          try clear hcz24_0
                          try clear hcz24_1
                          try clear hcz24_2
                          try clear hcz24_3
                          try clear hfz11_0
                          try clear hfz11_1
                          try clear hfz11_2
                          try clear hfz11_3
                          try clear hfz20_0
                          try clear hfz20_1
                          try clear hfz20_2
                          try clear hfz20_3
                          try clear hfz24_0
                          try clear hfz24_1
                          try clear hfz24_2
                          try clear hfz24_3
                          try clear hx111_0
                          try clear hx111_1
                          try clear hx111_2
                          try clear hx111_3
                          try clear p1
                          try clear p11
                          try clear p111
                          try clear p2
                          try clear q1
                          try clear q11
                          try clear q111
                          try clear q12
                          obtain ⟨kq, x3_17, rfl, HA, HJ17, BK112, HB⟩ := hcut
                          cases kq with
                          | zero => exact absurd HA.out (by simp [tap_written.j2])
                          | succ kj17 =>
                            have H := HA.out
                            clear HA
                            simp only [tap_written.j2] at H
                            by_cases c25 : ((rd_T57 l0 x13_1).f2) = 0
                            · rw [if_pos c25] at H
                              have c25b0 : (((rd_T57 l0 x13_1).f2) == 0) = true := beq_iff_eq.mpr c25
                              have c25b1 : (((rd_T57 l0 x13_1).f2) != 0) = false := bne_eq_false_iff_eq.mpr c25
                              clear c25
                              by_cases c26 : ((rd_T57 l0 x13_1).f3).toList = ([] : List UInt8)
                              · rw [if_pos c26] at H
                                have c26b0 : (((rd_T57 l0 x13_1).f3).toList == ([] : List UInt8)) = true := beq_iff_eq.mpr c26
                                have c26b1 : (((rd_T57 l0 x13_1).f3).toList != ([] : List UInt8)) = false := bne_eq_false_iff_eq.mpr c26
                                (try (have c26b2 : ((rd_T57 l0 x13_1).f3).toList.isEmpty = true := by simpa using c26))
                                (try (have c26b3 : List.isEmpty (((rd_T57 l0 x13_1).f3).toList) = true := by simpa using c26))
                                clear c26
                                by_cases c27 : x3_17.size + 1 ≤ 9223372036854775807
                                · rw [if_pos c27] at H
                                  have c27b0 := eq_true c27
                                  have c27b1 : decide (x3_17.size + 1 ≤ 9223372036854775807) = true := decide_eq_true c27
                                  try have c27b2 : (9223372036854775807 < x3_17.size + 1) = False := eq_false (Nat.not_lt.2 c27)
                                  have H' := Aside0.mk H
                                  clear H
                                  have hcz28_0 : wc.cell? ⟨gb112, 0, none⟩ = some (.bool ((rd_T57 l0 x13_1).f0)) := (blk_cell BK112.out 0).trans rfl
                                  have hcz28_1 : wc.cell? ⟨gb112, 1, none⟩ = some (.string ((rd_T57 l0 x13_1).f1)) := (blk_cell BK112.out 1).trans rfl
                                  have hcz28_2 : wc.cell? ⟨gb112, 2, none⟩ = some (.int .i64 ((rd_T57 l0 x13_1).f2)) := (blk_cell BK112.out 2).trans rfl
                                  have hcz28_3 : wc.cell? ⟨gb112, 3, none⟩ = some (.string ((rd_T57 l0 x13_1).f3)) := (blk_cell BK112.out 3).trans rfl
                                  have hfz28_0 := blk_frozen BK112.out 0
                                  have hfz28_1 := blk_frozen BK112.out 1
                                  have hfz28_2 := blk_frozen BK112.out 2
                                  have hfz28_3 := blk_frozen BK112.out 3
                                  go_wp2
                                  go_roundg kj17
                                  case measure => have := HK1.out; have := HJ8.out; have := HJ17.out; omega
                                  case rel => exact ⟨(x3_17 ++ (⟨#[10]⟩ : ByteArray)), (wrap64 (x13_1 + 1)), (by first | rfl | (simp; done) | (simp [*]; done) | (simp; generalize ByteArray.toList _ = l_; cases l_ <;> rfl)), (by first | rfl | (simp; done) | (simp [*]; done) | (simp; generalize ByteArray.toList _ = l_; cases l_ <;> rfl)), H', ⟨by have := HK1.out; have := HJ8.out; have := HJ17.out; omega⟩, ⟨by repeat (first | (with_reducible first | exact HB.out | apply below_alloc | apply pw_below_drewN | apply below_drew1 | refine below_set ?_ GE112.out) | exact HB.out)⟩⟩
                                · rw [if_neg c27] at H
                                  exact absurd H (by simp)
                              · rw [if_neg c26] at H
                                have c26b0 : (((rd_T57 l0 x13_1).f3).toList == ([] : List UInt8)) = false := beq_eq_false_iff_ne.mpr c26
                                have c26b1 : (((rd_T57 l0 x13_1).f3).toList != ([] : List UInt8)) = true := bne_iff_ne.mpr c26
                                (try (have c26b2 : ((rd_T57 l0 x13_1).f3).toList.isEmpty = false := by simpa using c26))
                                (try (have c26b3 : List.isEmpty (((rd_T57 l0 x13_1).f3).toList) = false := by simpa using c26))
                                by_cases c29 : 1 + ((rd_T57 l0 x13_1).f3).size ≤ 9223372036854775807
                                · rw [if_pos c29] at H
                                  have c29b0 := eq_true c29
                                  have c29b1 : decide (1 + ((rd_T57 l0 x13_1).f3).size ≤ 9223372036854775807) = true := decide_eq_true c29
                                  try have c29b2 : (9223372036854775807 < 1 + ((rd_T57 l0 x13_1).f3).size) = False := eq_false (Nat.not_lt.2 c29)
                                  by_cases c30 : x3_17.size + ((⟨#[32]⟩ : ByteArray) ++ ((rd_T57 l0 x13_1).f3)).size ≤ 9223372036854775807
                                  · rw [if_pos c30] at H
                                    have c30b0 := eq_true c30
                                    have c30b1 : decide (x3_17.size + ((⟨#[32]⟩ : ByteArray) ++ ((rd_T57 l0 x13_1).f3)).size ≤ 9223372036854775807) = true := decide_eq_true c30
                                    try have c30b3 : (9223372036854775807 < x3_17.size + (1 + ((rd_T57 l0 x13_1).f3).size)) = False := eq_false (by have h_ := c30; (first | simp only [ByteArray.size_append, ByteArray.size_extract, Nat.min_self] at h_ | simp only [ByteArray.size_append] at h_); exact Nat.not_lt.2 h_)
                                    try have c30b2 : (9223372036854775807 < x3_17.size + ((⟨#[32]⟩ : ByteArray) ++ ((rd_T57 l0 x13_1).f3)).size) = False := eq_false (Nat.not_lt.2 c30)
                                    by_cases c31 : (x3_17 ++ ((⟨#[32]⟩ : ByteArray) ++ ((rd_T57 l0 x13_1).f3))).size + 1 ≤ 9223372036854775807
                                    · rw [if_pos c31] at H
                                      have c31b0 := eq_true c31
                                      have c31b1 : decide ((x3_17 ++ ((⟨#[32]⟩ : ByteArray) ++ ((rd_T57 l0 x13_1).f3))).size + 1 ≤ 9223372036854775807) = true := decide_eq_true c31
                                      try have c31b3 : (9223372036854775807 < x3_17.size + (1 + ((rd_T57 l0 x13_1).f3).size) + 1) = False := eq_false (by have h_ := c31; (first | simp only [ByteArray.size_append, ByteArray.size_extract, Nat.min_self] at h_ | simp only [ByteArray.size_append] at h_); exact Nat.not_lt.2 h_)
                                      try have c31b2 : (9223372036854775807 < (x3_17 ++ ((⟨#[32]⟩ : ByteArray) ++ ((rd_T57 l0 x13_1).f3))).size + 1) = False := eq_false (Nat.not_lt.2 c31)
                                      have H' := Aside0.mk H
                                      clear H
                                      have hcz32_0 : wc.cell? ⟨gb112, 0, none⟩ = some (.bool ((rd_T57 l0 x13_1).f0)) := (blk_cell BK112.out 0).trans rfl
                                      have hcz32_1 : wc.cell? ⟨gb112, 1, none⟩ = some (.string ((rd_T57 l0 x13_1).f1)) := (blk_cell BK112.out 1).trans rfl
                                      have hcz32_2 : wc.cell? ⟨gb112, 2, none⟩ = some (.int .i64 ((rd_T57 l0 x13_1).f2)) := (blk_cell BK112.out 2).trans rfl
                                      have hcz32_3 : wc.cell? ⟨gb112, 3, none⟩ = some (.string ((rd_T57 l0 x13_1).f3)) := (blk_cell BK112.out 3).trans rfl
                                      have hfz32_0 := blk_frozen BK112.out 0
                                      have hfz32_1 := blk_frozen BK112.out 1
                                      have hfz32_2 := blk_frozen BK112.out 2
                                      have hfz32_3 := blk_frozen BK112.out 3
                                      go_wp2
                                      go_roundg kj17
                                      case measure => have := HK1.out; have := HJ8.out; have := HJ17.out; omega
                                      case rel => exact ⟨((x3_17 ++ ((⟨#[32]⟩ : ByteArray) ++ ((rd_T57 l0 x13_1).f3))) ++ (⟨#[10]⟩ : ByteArray)), (wrap64 (x13_1 + 1)), (by first | rfl | (simp; done) | (simp [*]; done) | (simp; generalize ByteArray.toList _ = l_; cases l_ <;> rfl)), (by first | rfl | (simp; done) | (simp [*]; done) | (simp; generalize ByteArray.toList _ = l_; cases l_ <;> rfl)), H', ⟨by have := HK1.out; have := HJ8.out; have := HJ17.out; omega⟩, ⟨by repeat (first | (with_reducible first | exact HB.out | apply below_alloc | apply pw_below_drewN | apply below_drew1 | refine below_set ?_ GE112.out) | exact HB.out)⟩⟩
                                    · rw [if_neg c31] at H
                                      exact absurd H (by simp)
                                  · rw [if_neg c30] at H
                                    exact absurd H (by simp)
                                · rw [if_neg c29] at H
                                  exact absurd H (by simp)
                            · rw [if_neg c25] at H
                              have c25b0 : (((rd_T57 l0 x13_1).f2) == 0) = false := beq_eq_false_iff_ne.mpr c25
                              have c25b1 : (((rd_T57 l0 x13_1).f2) != 0) = true := bne_iff_ne.mpr c25
                              replace H := Option.bind_eq_some_iff.mp H
                              obtain ⟨t114, A330, H⟩ := H
                              replace H : (if 0 ≤ ((rd_T57 l0 x13_1).f2) then (if ((rd_T57 l0 x13_1).f2) < (t114.length : Int) then (if 3 + (rdOf ByteArray.empty t114 ((rd_T57 l0 x13_1).f2)).size ≤ 9223372036854775807 then (if x3_17.size + ((⟨#[32, 35, 32]⟩ : ByteArray) ++ (rdOf ByteArray.empty t114 ((rd_T57 l0 x13_1).f2))).size ≤ 9223372036854775807 then (if ((rd_T57 l0 x13_1).f3).toList = ([] : List UInt8) then (if (x3_17 ++ ((⟨#[32, 35, 32]⟩ : ByteArray) ++ (rdOf ByteArray.empty t114 ((rd_T57 l0 x13_1).f2)))).size + 1 ≤ 9223372036854775807 then (tap_written.l0 kj17 ((x3_17 ++ ((⟨#[32, 35, 32]⟩ : ByteArray) ++ (rdOf ByteArray.empty t114 ((rd_T57 l0 x13_1).f2)))) ++ (⟨#[10]⟩ : ByteArray)) l0 (l0.length : Int) (wrap64 (x13_1 + 1))) else (none)) else (if 1 + ((rd_T57 l0 x13_1).f3).size ≤ 9223372036854775807 then (if (x3_17 ++ ((⟨#[32, 35, 32]⟩ : ByteArray) ++ (rdOf ByteArray.empty t114 ((rd_T57 l0 x13_1).f2)))).size + ((⟨#[32]⟩ : ByteArray) ++ ((rd_T57 l0 x13_1).f3)).size ≤ 9223372036854775807 then (if ((x3_17 ++ ((⟨#[32, 35, 32]⟩ : ByteArray) ++ (rdOf ByteArray.empty t114 ((rd_T57 l0 x13_1).f2)))) ++ ((⟨#[32]⟩ : ByteArray) ++ ((rd_T57 l0 x13_1).f3))).size + 1 ≤ 9223372036854775807 then (tap_written.l0 kj17 (((x3_17 ++ ((⟨#[32, 35, 32]⟩ : ByteArray) ++ (rdOf ByteArray.empty t114 ((rd_T57 l0 x13_1).f2)))) ++ ((⟨#[32]⟩ : ByteArray) ++ ((rd_T57 l0 x13_1).f3))) ++ (⟨#[10]⟩ : ByteArray)) l0 (l0.length : Int) (wrap64 (x13_1 + 1))) else (none)) else (none)) else (none))) else (none)) else (none)) else (none)) else (none)) = some r := H
                              have A33 := Aside0.mk A330
                              clear A330
                              by_cases c34 : 0 ≤ ((rd_T57 l0 x13_1).f2)
                              · rw [if_pos c34] at H
                                have c34b0 : decide (0 ≤ ((rd_T57 l0 x13_1).f2)) = true := decide_eq_true c34
                                clear c34
                                by_cases c35 : ((rd_T57 l0 x13_1).f2) < (t114.length : Int)
                                · rw [if_pos c35] at H
                                  have c35b0 : decide (((rd_T57 l0 x13_1).f2) < (t114.length : Int)) = true := decide_eq_true c35
                                  clear c35
                                  by_cases c36 : 3 + (rdOf ByteArray.empty t114 ((rd_T57 l0 x13_1).f2)).size ≤ 9223372036854775807
                                  · rw [if_pos c36] at H
                                    have c36b0 := eq_true c36
                                    have c36b1 : decide (3 + (rdOf ByteArray.empty t114 ((rd_T57 l0 x13_1).f2)).size ≤ 9223372036854775807) = true := decide_eq_true c36
                                    try have c36b2 : (9223372036854775807 < 3 + (rdOf ByteArray.empty t114 ((rd_T57 l0 x13_1).f2)).size) = False := eq_false (Nat.not_lt.2 c36)
                                    by_cases c37 : x3_17.size + ((⟨#[32, 35, 32]⟩ : ByteArray) ++ (rdOf ByteArray.empty t114 ((rd_T57 l0 x13_1).f2))).size ≤ 9223372036854775807
                                    · rw [if_pos c37] at H
                                      have c37b0 := eq_true c37
                                      have c37b1 : decide (x3_17.size + ((⟨#[32, 35, 32]⟩ : ByteArray) ++ (rdOf ByteArray.empty t114 ((rd_T57 l0 x13_1).f2))).size ≤ 9223372036854775807) = true := decide_eq_true c37
                                      try have c37b3 : (9223372036854775807 < x3_17.size + (3 + (rdOf ByteArray.empty t114 ((rd_T57 l0 x13_1).f2)).size)) = False := eq_false (by have h_ := c37; (first | simp only [ByteArray.size_append, ByteArray.size_extract, Nat.min_self] at h_ | simp only [ByteArray.size_append] at h_); exact Nat.not_lt.2 h_)
                                      try have c37b2 : (9223372036854775807 < x3_17.size + ((⟨#[32, 35, 32]⟩ : ByteArray) ++ (rdOf ByteArray.empty t114 ((rd_T57 l0 x13_1).f2))).size) = False := eq_false (Nat.not_lt.2 c37)
                                      by_cases c38 : ((rd_T57 l0 x13_1).f3).toList = ([] : List UInt8)
                                      · rw [if_pos c38] at H
                                        have c38b0 : (((rd_T57 l0 x13_1).f3).toList == ([] : List UInt8)) = true := beq_iff_eq.mpr c38
                                        have c38b1 : (((rd_T57 l0 x13_1).f3).toList != ([] : List UInt8)) = false := bne_eq_false_iff_eq.mpr c38
                                        (try (have c38b2 : ((rd_T57 l0 x13_1).f3).toList.isEmpty = true := by simpa using c38))
                                        (try (have c38b3 : List.isEmpty (((rd_T57 l0 x13_1).f3).toList) = true := by simpa using c38))
                                        clear c38
                                        by_cases c39 : (x3_17 ++ ((⟨#[32, 35, 32]⟩ : ByteArray) ++ (rdOf ByteArray.empty t114 ((rd_T57 l0 x13_1).f2)))).size + 1 ≤ 9223372036854775807
                                        · rw [if_pos c39] at H
                                          have c39b0 := eq_true c39
                                          have c39b1 : decide ((x3_17 ++ ((⟨#[32, 35, 32]⟩ : ByteArray) ++ (rdOf ByteArray.empty t114 ((rd_T57 l0 x13_1).f2)))).size + 1 ≤ 9223372036854775807) = true := decide_eq_true c39
                                          try have c39b3 : (9223372036854775807 < x3_17.size + (3 + (rdOf ByteArray.empty t114 ((rd_T57 l0 x13_1).f2)).size) + 1) = False := eq_false (by have h_ := c39; (first | simp only [ByteArray.size_append, ByteArray.size_extract, Nat.min_self] at h_ | simp only [ByteArray.size_append] at h_); exact Nat.not_lt.2 h_)
                                          try have c39b2 : (9223372036854775807 < (x3_17 ++ ((⟨#[32, 35, 32]⟩ : ByteArray) ++ (rdOf ByteArray.empty t114 ((rd_T57 l0 x13_1).f2)))).size + 1) = False := eq_false (Nat.not_lt.2 c39)
                                          have H' := Aside0.mk H
                                          clear H
                                          have hcz40_0 : wc.cell? ⟨gb112, 0, none⟩ = some (.bool ((rd_T57 l0 x13_1).f0)) := (blk_cell BK112.out 0).trans rfl
                                          have hcz40_1 : wc.cell? ⟨gb112, 1, none⟩ = some (.string ((rd_T57 l0 x13_1).f1)) := (blk_cell BK112.out 1).trans rfl
                                          have hcz40_2 : wc.cell? ⟨gb112, 2, none⟩ = some (.int .i64 ((rd_T57 l0 x13_1).f2)) := (blk_cell BK112.out 2).trans rfl
                                          have hcz40_3 : wc.cell? ⟨gb112, 3, none⟩ = some (.string ((rd_T57 l0 x13_1).f3)) := (blk_cell BK112.out 3).trans rfl
                                          have hfz40_0 := blk_frozen BK112.out 0
                                          have hfz40_1 := blk_frozen BK112.out 1
                                          have hfz40_2 := blk_frozen BK112.out 2
                                          have hfz40_3 := blk_frozen BK112.out 3
                                          try go_wp2
                                          have n0_ := Aside0.mk (blk_drew BK112.out)
                                          have n1_ := Aside0.mk (below_drew1 HB.out)
                                          clear BK112
                                          clear HB
                                          have BK112 := n0_
                                          have HB := n1_
                                          clear n0_ n1_
                                          refine start_ (n := 9) (S := fun w' => w'.cell? ⟨gb112, 0, none⟩ = some (.bool ((rd_T57 l0 x13_1).f0)) ∧ w'.cell? ⟨gb112, 1, none⟩ = some (.string ((rd_T57 l0 x13_1).f1)) ∧ w'.cell? ⟨gb112, 2, none⟩ = some (.int .i64 ((rd_T57 l0 x13_1).f2)) ∧ w'.cell? ⟨gb112, 3, none⟩ = some (.string ((rd_T57 l0 x13_1).f3))) (ds := []) #[false, false, false, false, false, false, false, false, false] (by kernel_rfl) rfl rfl ⟨(blk_cell BK112.out 0).trans rfl, (blk_cell BK112.out 1).trans rfl, (blk_cell BK112.out 2).trans rfl, (blk_cell BK112.out 3).trans rfl⟩ (fun hHeld => ?_); refine with_tabW tap_written.tab11 tap_written.bits11 (fun HT_ HW_ => ?_)
                                          generalize wc.drew = w41 at BK112 HB hHeld ⊢
                                          refine pure_ (i := 0) (N := some 40) (v := ?_) (a' := ?_) #[true, false, false, false, false, false, false, false, false] rfl rfl (any_of HT_.out (by kernel_rfl)) (fun _ _ _ h => h) (Or.inl ⟨by rfl, ?_⟩) ?_ ?_
                                          rotate_left
                                          · intro w'
                                            go_simp
                                            with_reducible rfl
                                          rotate_left
                                          · simp only [Act.put, List.setIfInBounds_toArray, List.set_cons_zero, List.set_cons_succ, i64_w, i32_w]
                                            rfl
                                          refine pure_ (i := 2) (N := some 42) (v := ?_) (a' := ?_) #[true, false, true, false, false, false, false, false, false] rfl rfl (any_of HT_.out (by kernel_rfl)) (fun _ _ _ h => h) (Or.inl ⟨by rfl, ?_⟩) ?_ ?_
                                          rotate_left
                                          · intro w'
                                            go_simp
                                            with_reducible rfl
                                          rotate_left
                                          · simp only [Act.put, List.setIfInBounds_toArray, List.set_cons_zero, List.set_cons_succ, i64_w, i32_w]
                                            rfl
                                          refine take_ (i := 3) (N := some 43) (v := ?_) (a' := ?_) #[true, false, true, true, false, false, false, false, false] rfl rfl (take_ofW HT_.out HW_.out (by kernel_rfl)) (fun _ _ _ h => h) (Or.inl ⟨by rfl, ?_⟩) hHeld ?_ ?_
                                          rotate_left
                                          · rintro w' ⟨s0, s1, s2, s3⟩
                                            go_simp
                                            with_reducible rfl
                                          rotate_left
                                          · simp only [Act.put, List.setIfInBounds_toArray, List.set_cons_zero, List.set_cons_succ, i64_w, i32_w]
                                            rfl
                                          refine one_ (i := 1) (N := some 41) #[true, true, true, true, false, false, false, false, false] rfl rfl (one_of HT_.out (by kernel_rfl)) (by decide) (fun K hK => ?_)
                                          refine goes_ Tryd.func83 (by kernel_rfl) rfl #[] (by rfl) rfl rfl (by (try simp only [List.map_toArray, List.map_cons, List.map_nil]); first | done | rfl | (simp only [List.length_drop, List.length_take]; rfl)) ?_
                                          with_reducible refine (tap_directives.calls  t114 _ A33.out).mono ?_
                                          rintro e w42 ⟨v115, rfl, ho0, hb⟩
                                          refine ⟨_, rfl, ?_⟩
                                          have n0_ := Aside0.mk (Kd.R_lower ho0 (below_size (by repeat (first | (with_reducible first | exact HB.out | apply below_alloc | apply pw_below_drewN | apply below_drew1 | refine below_set ?_ GE112.out) | exact HB.out))))
                                          have n1_ := Aside0.mk (blk_below (g := gb112) (o := .cells #[.bool ((rd_T57 l0 x13_1).f0), .string ((rd_T57 l0 x13_1).f1), .int .i64 ((rd_T57 l0 x13_1).f2), .string ((rd_T57 l0 x13_1).f3)] 57 (0, 0)) (by (with_reducible repeat (first | refine blk_drewN ?_ _ | refine blk_drew ?_ | refine blk_alloc ?_ _)); exact BK112.out) hb)
                                          have n2_ := Aside0.mk (below_step (by repeat (first | (with_reducible first | exact HB.out | apply below_alloc | apply pw_below_drewN | apply below_drew1 | refine below_set ?_ GE112.out) | exact HB.out)) hb)
                                          clear BK112
                                          clear HB
                                          have HO116 := n0_
                                          have BK112 := n1_
                                          have HB := n2_
                                          clear n0_ n1_ n2_
                                          (try clear hb)
                                          (try clear hb2)
                                          (try clear hk)
                                          (try clear hi)
                                          (try clear ho0)
                                          obtain ⟨Ao43, co43, eo43⟩ := Kd.R_slice HO116.out
                                          (first | subst eo43 | (injection eo43 with f1_ f2_ f3_; have f4_ := f1_.symm; have f5_ := f3_.symm; clear f1_ f2_ f3_; subst f4_; subst f5_))
                                          have p117 : 0 ≤ (((rd_T57 l0 x13_1).f2) : Int) := of_decide_eq_true (by first | (with_reducible assumption) | assumption)
                                          have q117 : ((rd_T57 l0 x13_1).f2) < (t114.length : Int) := of_decide_eq_true (by first | (with_reducible assumption) | assumption)
                                          obtain ⟨ad117, e117, hx117_0⟩ := Kd.at_string (Kd.R_reads' HO116.out).2.2 ((rd_T57 l0 x13_1).f2) p117 q117
                                          cases e117
                                          replace p117 := eq_true p117
                                          replace q117 := eq_true q117
                                          refine hK.out _ _ ⟨(blk_cell BK112.out 0).trans rfl, (blk_cell BK112.out 1).trans rfl, (blk_cell BK112.out 2).trans rfl, (blk_cell BK112.out 3).trans rfl⟩ (fun hHeld => ?_)
                                          clear hK K
                                          refine norm_ (a' := ?_) ?_ ?_
                                          rotate_left
                                          · show Act.put _ (some 41) _ = _
                                            simp only [Act.put, List.setIfInBounds_toArray, List.set_cons_zero, List.set_cons_succ, i64_w, i32_w]
                                            rfl
                                          refine pure_ (i := 4) (N := some 44) (v := ?_) (a' := ?_) #[true, true, true, true, true, false, false, false, false] rfl rfl (any_of HT_.out (by kernel_rfl)) (fun _ _ _ h => h) (Or.inl ⟨by rfl, ?_⟩) ?_ ?_
                                          rotate_left
                                          · intro w'
                                            go_simp
                                            with_reducible rfl
                                          rotate_left
                                          · simp only [Act.put, List.setIfInBounds_toArray, List.set_cons_zero, List.set_cons_succ, i64_w, i32_w]
                                            rfl
                                          refine one_ (i := 5) (N := some 45) #[true, true, true, true, true, true, false, false, false] rfl rfl (one_of HT_.out (by kernel_rfl)) (by decide) (fun K hK => ?_)
                                          go_simp
                                          refine hK.out _ _ hHeld (fun hHeld => ?_)
                                          clear hK K
                                          refine pure_ (i := 6) (N := some 46) (v := ?_) (a' := ?_) #[true, true, true, true, true, true, true, false, false] rfl rfl (any_of HT_.out (by kernel_rfl)) (fun _ _ _ h => h) (Or.inl ⟨by rfl, ?_⟩) ?_ ?_
                                          rotate_left
                                          · intro w'
                                            go_simp
                                            with_reducible rfl
                                          rotate_left
                                          · simp only [Act.put, List.setIfInBounds_toArray, List.set_cons_zero, List.set_cons_succ, i64_w, i32_w]
                                            rfl
                                          refine pure_ (i := 7) (N := some 47) (v := ?_) (a' := ?_) #[true, true, true, true, true, true, true, true, false] rfl rfl (any_of HT_.out (by kernel_rfl)) (fun _ _ _ h => h) (Or.inl ⟨by rfl, ?_⟩) ?_ ?_
                                          rotate_left
                                          · intro w'
                                            go_simp
                                            with_reducible rfl
                                          rotate_left
                                          · simp only [Act.put, List.setIfInBounds_toArray, List.set_cons_zero, List.set_cons_succ, i64_w, i32_w]
                                            rfl
                                          refine pure_ (i := 8) (N := some 3) (v := ?_) (a' := ?_) #[true, true, true, true, true, true, true, true, true] rfl rfl (any_of HT_.out (by kernel_rfl)) (fun _ _ _ h => h) (Or.inl ⟨by rfl, ?_⟩) ?_ ?_
                                          rotate_left
                                          · intro w'
                                            go_simp
                                            with_reducible rfl
                                          rotate_left
                                          · simp only [Act.put, List.setIfInBounds_toArray, List.set_cons_zero, List.set_cons_succ, i64_w, i32_w]
                                            rfl
                                          refine done_ (done_of HT_.out (by kernel_rfl)) ?_
                                          have hcz44_0 : w42.cell? ⟨gb112, 0, none⟩ = some (.bool ((rd_T57 l0 x13_1).f0)) := (blk_cell BK112.out 0).trans rfl
                                          have hcz44_1 : w42.cell? ⟨gb112, 1, none⟩ = some (.string ((rd_T57 l0 x13_1).f1)) := (blk_cell BK112.out 1).trans rfl
                                          have hcz44_2 : w42.cell? ⟨gb112, 2, none⟩ = some (.int .i64 ((rd_T57 l0 x13_1).f2)) := (blk_cell BK112.out 2).trans rfl
                                          have hcz44_3 : w42.cell? ⟨gb112, 3, none⟩ = some (.string ((rd_T57 l0 x13_1).f3)) := (blk_cell BK112.out 3).trans rfl
                                          have hfz44_0 := blk_frozen BK112.out 0
                                          have hfz44_1 := blk_frozen BK112.out 1
                                          have hfz44_2 := blk_frozen BK112.out 2
                                          have hfz44_3 := blk_frozen BK112.out 3
                                          try go_wp2
                                          go_roundg kj17
                                          case measure => have := HK1.out; have := HJ8.out; have := HJ17.out; omega
                                          case rel => exact ⟨((x3_17 ++ ((⟨#[32, 35, 32]⟩ : ByteArray) ++ (rdOf ByteArray.empty t114 ((rd_T57 l0 x13_1).f2)))) ++ (⟨#[10]⟩ : ByteArray)), (wrap64 (x13_1 + 1)), (by first | rfl | (simp; done) | (simp [*]; done) | (simp; generalize ByteArray.toList _ = l_; cases l_ <;> rfl)), (by first | rfl | (simp; done) | (simp [*]; done) | (simp; generalize ByteArray.toList _ = l_; cases l_ <;> rfl)), H', ⟨by have := HK1.out; have := HJ8.out; have := HJ17.out; omega⟩, ⟨by repeat (first | (with_reducible first | exact HB.out | apply below_alloc | apply pw_below_drewN | apply below_drew1 | refine below_set ?_ GE112.out) | exact HB.out)⟩⟩
                                        · rw [if_neg c39] at H
                                          exact absurd H (by simp)
                                      · rw [if_neg c38] at H
                                        have c38b0 : (((rd_T57 l0 x13_1).f3).toList == ([] : List UInt8)) = false := beq_eq_false_iff_ne.mpr c38
                                        have c38b1 : (((rd_T57 l0 x13_1).f3).toList != ([] : List UInt8)) = true := bne_iff_ne.mpr c38
                                        (try (have c38b2 : ((rd_T57 l0 x13_1).f3).toList.isEmpty = false := by simpa using c38))
                                        (try (have c38b3 : List.isEmpty (((rd_T57 l0 x13_1).f3).toList) = false := by simpa using c38))
                                        by_cases c45 : 1 + ((rd_T57 l0 x13_1).f3).size ≤ 9223372036854775807
                                        · rw [if_pos c45] at H
                                          have c45b0 := eq_true c45
                                          have c45b1 : decide (1 + ((rd_T57 l0 x13_1).f3).size ≤ 9223372036854775807) = true := decide_eq_true c45
                                          try have c45b2 : (9223372036854775807 < 1 + ((rd_T57 l0 x13_1).f3).size) = False := eq_false (Nat.not_lt.2 c45)
                                          by_cases c46 : (x3_17 ++ ((⟨#[32, 35, 32]⟩ : ByteArray) ++ (rdOf ByteArray.empty t114 ((rd_T57 l0 x13_1).f2)))).size + ((⟨#[32]⟩ : ByteArray) ++ ((rd_T57 l0 x13_1).f3)).size ≤ 9223372036854775807
                                          · rw [if_pos c46] at H
                                            have c46b0 := eq_true c46
                                            have c46b1 : decide ((x3_17 ++ ((⟨#[32, 35, 32]⟩ : ByteArray) ++ (rdOf ByteArray.empty t114 ((rd_T57 l0 x13_1).f2)))).size + ((⟨#[32]⟩ : ByteArray) ++ ((rd_T57 l0 x13_1).f3)).size ≤ 9223372036854775807) = true := decide_eq_true c46
                                            try have c46b3 : (9223372036854775807 < x3_17.size + (3 + (rdOf ByteArray.empty t114 ((rd_T57 l0 x13_1).f2)).size) + (1 + ((rd_T57 l0 x13_1).f3).size)) = False := eq_false (by have h_ := c46; (first | simp only [ByteArray.size_append, ByteArray.size_extract, Nat.min_self] at h_ | simp only [ByteArray.size_append] at h_); exact Nat.not_lt.2 h_)
                                            try have c46b2 : (9223372036854775807 < (x3_17 ++ ((⟨#[32, 35, 32]⟩ : ByteArray) ++ (rdOf ByteArray.empty t114 ((rd_T57 l0 x13_1).f2)))).size + ((⟨#[32]⟩ : ByteArray) ++ ((rd_T57 l0 x13_1).f3)).size) = False := eq_false (Nat.not_lt.2 c46)
                                            by_cases c47 : ((x3_17 ++ ((⟨#[32, 35, 32]⟩ : ByteArray) ++ (rdOf ByteArray.empty t114 ((rd_T57 l0 x13_1).f2)))) ++ ((⟨#[32]⟩ : ByteArray) ++ ((rd_T57 l0 x13_1).f3))).size + 1 ≤ 9223372036854775807
                                            · rw [if_pos c47] at H
                                              have c47b0 := eq_true c47
                                              have c47b1 : decide (((x3_17 ++ ((⟨#[32, 35, 32]⟩ : ByteArray) ++ (rdOf ByteArray.empty t114 ((rd_T57 l0 x13_1).f2)))) ++ ((⟨#[32]⟩ : ByteArray) ++ ((rd_T57 l0 x13_1).f3))).size + 1 ≤ 9223372036854775807) = true := decide_eq_true c47
                                              try have c47b3 : (9223372036854775807 < x3_17.size + (3 + (rdOf ByteArray.empty t114 ((rd_T57 l0 x13_1).f2)).size) + (1 + ((rd_T57 l0 x13_1).f3).size) + 1) = False := eq_false (by have h_ := c47; (first | simp only [ByteArray.size_append, ByteArray.size_extract, Nat.min_self] at h_ | simp only [ByteArray.size_append] at h_); exact Nat.not_lt.2 h_)
                                              try have c47b2 : (9223372036854775807 < ((x3_17 ++ ((⟨#[32, 35, 32]⟩ : ByteArray) ++ (rdOf ByteArray.empty t114 ((rd_T57 l0 x13_1).f2)))) ++ ((⟨#[32]⟩ : ByteArray) ++ ((rd_T57 l0 x13_1).f3))).size + 1) = False := eq_false (Nat.not_lt.2 c47)
                                              have H' := Aside0.mk H
                                              clear H
                                              have hcz48_0 : wc.cell? ⟨gb112, 0, none⟩ = some (.bool ((rd_T57 l0 x13_1).f0)) := (blk_cell BK112.out 0).trans rfl
                                              have hcz48_1 : wc.cell? ⟨gb112, 1, none⟩ = some (.string ((rd_T57 l0 x13_1).f1)) := (blk_cell BK112.out 1).trans rfl
                                              have hcz48_2 : wc.cell? ⟨gb112, 2, none⟩ = some (.int .i64 ((rd_T57 l0 x13_1).f2)) := (blk_cell BK112.out 2).trans rfl
                                              have hcz48_3 : wc.cell? ⟨gb112, 3, none⟩ = some (.string ((rd_T57 l0 x13_1).f3)) := (blk_cell BK112.out 3).trans rfl
                                              have hfz48_0 := blk_frozen BK112.out 0
                                              have hfz48_1 := blk_frozen BK112.out 1
                                              have hfz48_2 := blk_frozen BK112.out 2
                                              have hfz48_3 := blk_frozen BK112.out 3
                                              try go_wp2
                                              have n0_ := Aside0.mk (blk_drew BK112.out)
                                              have n1_ := Aside0.mk (below_drew1 HB.out)
                                              clear BK112
                                              clear HB
                                              have BK112 := n0_
                                              have HB := n1_
                                              clear n0_ n1_
                                              refine start_ (n := 9) (S := fun w' => w'.cell? ⟨gb112, 0, none⟩ = some (.bool ((rd_T57 l0 x13_1).f0)) ∧ w'.cell? ⟨gb112, 1, none⟩ = some (.string ((rd_T57 l0 x13_1).f1)) ∧ w'.cell? ⟨gb112, 2, none⟩ = some (.int .i64 ((rd_T57 l0 x13_1).f2)) ∧ w'.cell? ⟨gb112, 3, none⟩ = some (.string ((rd_T57 l0 x13_1).f3))) (ds := []) #[false, false, false, false, false, false, false, false, false] (by kernel_rfl) rfl rfl ⟨(blk_cell BK112.out 0).trans rfl, (blk_cell BK112.out 1).trans rfl, (blk_cell BK112.out 2).trans rfl, (blk_cell BK112.out 3).trans rfl⟩ (fun hHeld => ?_); refine with_tabW tap_written.tab11 tap_written.bits11 (fun HT_ HW_ => ?_)
                                              generalize wc.drew = w49 at BK112 HB hHeld ⊢
                                              refine pure_ (i := 0) (N := some 40) (v := ?_) (a' := ?_) #[true, false, false, false, false, false, false, false, false] rfl rfl (any_of HT_.out (by kernel_rfl)) (fun _ _ _ h => h) (Or.inl ⟨by rfl, ?_⟩) ?_ ?_
                                              rotate_left
                                              · intro w'
                                                go_simp
                                                with_reducible rfl
                                              rotate_left
                                              · simp only [Act.put, List.setIfInBounds_toArray, List.set_cons_zero, List.set_cons_succ, i64_w, i32_w]
                                                rfl
                                              refine pure_ (i := 2) (N := some 42) (v := ?_) (a' := ?_) #[true, false, true, false, false, false, false, false, false] rfl rfl (any_of HT_.out (by kernel_rfl)) (fun _ _ _ h => h) (Or.inl ⟨by rfl, ?_⟩) ?_ ?_
                                              rotate_left
                                              · intro w'
                                                go_simp
                                                with_reducible rfl
                                              rotate_left
                                              · simp only [Act.put, List.setIfInBounds_toArray, List.set_cons_zero, List.set_cons_succ, i64_w, i32_w]
                                                rfl
                                              refine take_ (i := 3) (N := some 43) (v := ?_) (a' := ?_) #[true, false, true, true, false, false, false, false, false] rfl rfl (take_ofW HT_.out HW_.out (by kernel_rfl)) (fun _ _ _ h => h) (Or.inl ⟨by rfl, ?_⟩) hHeld ?_ ?_
                                              rotate_left
                                              · rintro w' ⟨s0, s1, s2, s3⟩
                                                go_simp
                                                with_reducible rfl
                                              rotate_left
                                              · simp only [Act.put, List.setIfInBounds_toArray, List.set_cons_zero, List.set_cons_succ, i64_w, i32_w]
                                                rfl
                                              refine one_ (i := 1) (N := some 41) #[true, true, true, true, false, false, false, false, false] rfl rfl (one_of HT_.out (by kernel_rfl)) (by decide) (fun K hK => ?_)
                                              refine goes_ Tryd.func83 (by kernel_rfl) rfl #[] (by rfl) rfl rfl (by (try simp only [List.map_toArray, List.map_cons, List.map_nil]); first | done | rfl | (simp only [List.length_drop, List.length_take]; rfl)) ?_
                                              with_reducible refine (tap_directives.calls  t114 _ A33.out).mono ?_
                                              rintro e w50 ⟨v115, rfl, ho0, hb⟩
                                              refine ⟨_, rfl, ?_⟩
                                              have n0_ := Aside0.mk (Kd.R_lower ho0 (below_size (by repeat (first | (with_reducible first | exact HB.out | apply below_alloc | apply pw_below_drewN | apply below_drew1 | refine below_set ?_ GE112.out) | exact HB.out))))
                                              have n1_ := Aside0.mk (blk_below (g := gb112) (o := .cells #[.bool ((rd_T57 l0 x13_1).f0), .string ((rd_T57 l0 x13_1).f1), .int .i64 ((rd_T57 l0 x13_1).f2), .string ((rd_T57 l0 x13_1).f3)] 57 (0, 0)) (by (with_reducible repeat (first | refine blk_drewN ?_ _ | refine blk_drew ?_ | refine blk_alloc ?_ _)); exact BK112.out) hb)
                                              have n2_ := Aside0.mk (below_step (by repeat (first | (with_reducible first | exact HB.out | apply below_alloc | apply pw_below_drewN | apply below_drew1 | refine below_set ?_ GE112.out) | exact HB.out)) hb)
                                              clear BK112
                                              clear HB
                                              have HO116 := n0_
                                              have BK112 := n1_
                                              have HB := n2_
                                              clear n0_ n1_ n2_
                                              (try clear hb)
                                              (try clear hb2)
                                              (try clear hk)
                                              (try clear hi)
                                              (try clear ho0)
                                              obtain ⟨Ao51, co51, eo51⟩ := Kd.R_slice HO116.out
                                              (first | subst eo51 | (injection eo51 with f1_ f2_ f3_; have f4_ := f1_.symm; have f5_ := f3_.symm; clear f1_ f2_ f3_; subst f4_; subst f5_))
                                              have p117 : 0 ≤ (((rd_T57 l0 x13_1).f2) : Int) := of_decide_eq_true (by first | (with_reducible assumption) | assumption)
                                              have q117 : ((rd_T57 l0 x13_1).f2) < (t114.length : Int) := of_decide_eq_true (by first | (with_reducible assumption) | assumption)
                                              obtain ⟨ad117, e117, hx117_0⟩ := Kd.at_string (Kd.R_reads' HO116.out).2.2 ((rd_T57 l0 x13_1).f2) p117 q117
                                              cases e117
                                              replace p117 := eq_true p117
                                              replace q117 := eq_true q117
                                              refine hK.out _ _ ⟨(blk_cell BK112.out 0).trans rfl, (blk_cell BK112.out 1).trans rfl, (blk_cell BK112.out 2).trans rfl, (blk_cell BK112.out 3).trans rfl⟩ (fun hHeld => ?_)
                                              clear hK K
                                              refine norm_ (a' := ?_) ?_ ?_
                                              rotate_left
                                              · show Act.put _ (some 41) _ = _
                                                simp only [Act.put, List.setIfInBounds_toArray, List.set_cons_zero, List.set_cons_succ, i64_w, i32_w]
                                                rfl
                                              refine pure_ (i := 4) (N := some 44) (v := ?_) (a' := ?_) #[true, true, true, true, true, false, false, false, false] rfl rfl (any_of HT_.out (by kernel_rfl)) (fun _ _ _ h => h) (Or.inl ⟨by rfl, ?_⟩) ?_ ?_
                                              rotate_left
                                              · intro w'
                                                go_simp
                                                with_reducible rfl
                                              rotate_left
                                              · simp only [Act.put, List.setIfInBounds_toArray, List.set_cons_zero, List.set_cons_succ, i64_w, i32_w]
                                                rfl
                                              refine one_ (i := 5) (N := some 45) #[true, true, true, true, true, true, false, false, false] rfl rfl (one_of HT_.out (by kernel_rfl)) (by decide) (fun K hK => ?_)
                                              go_simp
                                              refine hK.out _ _ hHeld (fun hHeld => ?_)
                                              clear hK K
                                              refine pure_ (i := 6) (N := some 46) (v := ?_) (a' := ?_) #[true, true, true, true, true, true, true, false, false] rfl rfl (any_of HT_.out (by kernel_rfl)) (fun _ _ _ h => h) (Or.inl ⟨by rfl, ?_⟩) ?_ ?_
                                              rotate_left
                                              · intro w'
                                                go_simp
                                                with_reducible rfl
                                              rotate_left
                                              · simp only [Act.put, List.setIfInBounds_toArray, List.set_cons_zero, List.set_cons_succ, i64_w, i32_w]
                                                rfl
                                              refine pure_ (i := 7) (N := some 47) (v := ?_) (a' := ?_) #[true, true, true, true, true, true, true, true, false] rfl rfl (any_of HT_.out (by kernel_rfl)) (fun _ _ _ h => h) (Or.inl ⟨by rfl, ?_⟩) ?_ ?_
                                              rotate_left
                                              · intro w'
                                                go_simp
                                                with_reducible rfl
                                              rotate_left
                                              · simp only [Act.put, List.setIfInBounds_toArray, List.set_cons_zero, List.set_cons_succ, i64_w, i32_w]
                                                rfl
                                              refine pure_ (i := 8) (N := some 3) (v := ?_) (a' := ?_) #[true, true, true, true, true, true, true, true, true] rfl rfl (any_of HT_.out (by kernel_rfl)) (fun _ _ _ h => h) (Or.inl ⟨by rfl, ?_⟩) ?_ ?_
                                              rotate_left
                                              · intro w'
                                                go_simp
                                                with_reducible rfl
                                              rotate_left
                                              · simp only [Act.put, List.setIfInBounds_toArray, List.set_cons_zero, List.set_cons_succ, i64_w, i32_w]
                                                rfl
                                              refine done_ (done_of HT_.out (by kernel_rfl)) ?_
                                              have hcz52_0 : w50.cell? ⟨gb112, 0, none⟩ = some (.bool ((rd_T57 l0 x13_1).f0)) := (blk_cell BK112.out 0).trans rfl
                                              have hcz52_1 : w50.cell? ⟨gb112, 1, none⟩ = some (.string ((rd_T57 l0 x13_1).f1)) := (blk_cell BK112.out 1).trans rfl
                                              have hcz52_2 : w50.cell? ⟨gb112, 2, none⟩ = some (.int .i64 ((rd_T57 l0 x13_1).f2)) := (blk_cell BK112.out 2).trans rfl
                                              have hcz52_3 : w50.cell? ⟨gb112, 3, none⟩ = some (.string ((rd_T57 l0 x13_1).f3)) := (blk_cell BK112.out 3).trans rfl
                                              have hfz52_0 := blk_frozen BK112.out 0
                                              have hfz52_1 := blk_frozen BK112.out 1
                                              have hfz52_2 := blk_frozen BK112.out 2
                                              have hfz52_3 := blk_frozen BK112.out 3
                                              try go_wp2
                                              go_roundg kj17
                                              case measure => have := HK1.out; have := HJ8.out; have := HJ17.out; omega
                                              case rel => exact ⟨(((x3_17 ++ ((⟨#[32, 35, 32]⟩ : ByteArray) ++ (rdOf ByteArray.empty t114 ((rd_T57 l0 x13_1).f2)))) ++ ((⟨#[32]⟩ : ByteArray) ++ ((rd_T57 l0 x13_1).f3))) ++ (⟨#[10]⟩ : ByteArray)), (wrap64 (x13_1 + 1)), (by first | rfl | (simp; done) | (simp [*]; done) | (simp; generalize ByteArray.toList _ = l_; cases l_ <;> rfl)), (by first | rfl | (simp; done) | (simp [*]; done) | (simp; generalize ByteArray.toList _ = l_; cases l_ <;> rfl)), H', ⟨by have := HK1.out; have := HJ8.out; have := HJ17.out; omega⟩, ⟨by repeat (first | (with_reducible first | exact HB.out | apply below_alloc | apply pw_below_drewN | apply below_drew1 | refine below_set ?_ GE112.out) | exact HB.out)⟩⟩
                                            · rw [if_neg c47] at H
                                              exact absurd H (by simp)
                                          · rw [if_neg c46] at H
                                            exact absurd H (by simp)
                                        · rw [if_neg c45] at H
                                          exact absurd H (by simp)
                                    · rw [if_neg c37] at H
                                      exact absurd H (by simp)
                                  · rw [if_neg c36] at H
                                    exact absurd H (by simp)
                                · rw [if_neg c35] at H
                                  exact absurd H (by simp)
                              · rw [if_neg c34] at H
                                exact absurd H (by simp)
                      · rw [if_neg c17] at H
                        exact absurd H (by simp)
                    · rw [if_neg c16] at H
                      exact absurd H (by simp)
              · rw [if_neg c8] at H
                exact absurd H (by simp)
            · rw [if_neg c7] at H
              exact absurd H (by simp)
          · rw [if_neg c6] at H
            have c6b0 : decide (x13_1 < (l0.length : Int)) = false := decide_eq_false c6
            clear c6
            obtain rfl := Option.some.inj H
            go_wp2
            go_ret
            exact ⟨by first | rfl | (simp [errW_none, errW_some] <;> rfl) | (simp [*, errW_none, errW_some] <;> rfl), by repeat (first | (with_reducible first | exact HB.out | apply below_alloc | apply pw_below_drewN | apply below_drew1) | exact HB.out)⟩
    · rw [if_neg c4] at H
      exact absurd H (by simp)
  · rw [if_neg c3] at H
    exact absurd H (by simp)
def tap_Write.f (k : Nat) (l0 : List (S57)) : Option (ByteArray × Int) := (tap_asked.f k l0).bind fun t118 => (if t118 = 0 then ((tap_written.f k l0).bind fun t119 => (some (t119, 0))) else (some ((⟨#[]⟩ : ByteArray), t118)))
set_option maxHeartbeats 8000000 in
set_option maxRecDepth 100000 in
theorem tap_Write.calls (k : Nat) (A0 : Option Addr) (c0 : Nat) (l0 : List (S57)) (r1 : ByteArray) (r2 : Int) (w : World) (hL : LaidW w) (hr0 : Kd.C k57 w A0 l0.length l0) (hc0 : l0.length ≤ c0) (h : tap_Write.f k l0 = some (r1, r2)) :
    Calls Tryd.prog 32 #[.slice A0 l0.length c0] w fun e w' => e = .returned (.tuple #[.string r1, .int .i64 r2]) ∧ Below w.heap.size w w' := by
  have HR0 := Aside0.mk hr0
  have HC0 := Aside0.mk hc0
  clear hr0 hc0
  have HB := Aside0.mk (Below.refl w.heap.size w)
  have H : ((tap_asked.f k l0).bind fun t118 => (if t118 = 0 then ((tap_written.f k l0).bind fun t119 => (some (t119, 0))) else (some ((⟨#[]⟩ : ByteArray), t118)))) = some (r1, r2) := h
  clear h
  replace H := Option.bind_eq_some_iff.mp H
  obtain ⟨t118, A20, H⟩ := H
  replace H : (if t118 = 0 then ((tap_written.f k l0).bind fun t119 => (some (t119, 0))) else (some ((⟨#[]⟩ : ByteArray), t118))) = some (r1, r2) := H
  have A2 := Aside0.mk A20
  clear A20
  by_cases c3 : t118 = 0
  · rw [if_pos c3] at H
    have c3b0 : (t118 == 0) = true := beq_iff_eq.mpr c3
    have c3b1 : (t118 != 0) = false := bne_eq_false_iff_eq.mpr c3
    clear c3
    replace H := Option.bind_eq_some_iff.mp H
    obtain ⟨t119, A40, H⟩ := H
    replace H : (some (t119, 0)) = some (r1, r2) := H
    have A4 := Aside0.mk A40
    clear A40
    simp only [Option.some.injEq, Prod.mk.injEq] at H
    obtain ⟨rfl, rfl⟩ := H
    go_enter Tryd.func32, Tryd.ntmps32
    go_wp2_with (first | ((with_reducible refine gate_callee (f := 66) rfl ?_); refine goesL_ (some 6) rfl rfl Tryd.func66 (by kernel_rfl) rfl #[.slice A0 l0.length c0] rfl (by (try simp only [List.map_toArray, List.map_cons, List.map_nil]); first | done | rfl | (simp only [List.length_drop, List.length_take]; rfl)) ?_; (with_reducible refine (tap_asked.calls k _ _ l0 t118 _ ?side3 ?side1 ?side2 A2.out).mono ?_); (case side1 => repeat (first | exact HR0.out | (with_reducible refine Kd.C_alloc ?_ _) | (with_reducible refine Kd.C_drewN ?_ _) | (with_reducible refine Kd.C_drew ?_))); (case side2 => exact HC0.out); (case side3 => first | exact hL | exact LaidW.below hL (by repeat (first | (with_reducible first | exact HB.out | apply below_alloc | apply pw_below_drewN | apply below_drew1) | exact HB.out))); rintro e w5 ⟨rfl, hb⟩; refine ⟨_, rfl, ?_⟩; have n0_ := Aside0.mk (below_step (by repeat (first | (with_reducible first | exact HB.out | apply below_alloc | apply pw_below_drewN | apply below_drew1) | exact HB.out)) hb); clear HB; have HB := n0_; clear n0_; (try clear hb); (try clear hb2); (try clear hk); (try clear hi)) | ((with_reducible refine gate_callee (f := 67) rfl ?_); refine goesL_ (some 11) rfl rfl Tryd.func67 (by kernel_rfl) rfl #[.slice A0 l0.length c0] rfl (by (try simp only [List.map_toArray, List.map_cons, List.map_nil]); first | done | rfl | (simp only [List.length_drop, List.length_take]; rfl)) ?_; (with_reducible refine (tap_written.calls k _ _ l0 t119 _ ?side3 ?side1 ?side2 A4.out).mono ?_); (case side1 => repeat (first | exact (Kd.C_below HR0.out HB.out) | (with_reducible refine Kd.C_alloc ?_ _) | (with_reducible refine Kd.C_drewN ?_ _) | (with_reducible refine Kd.C_drew ?_))); (case side2 => exact HC0.out); (case side3 => first | exact hL | exact LaidW.below hL (by repeat (first | (with_reducible first | exact HB.out | apply below_alloc | apply pw_below_drewN | apply below_drew1) | exact HB.out))); rintro e w6 ⟨rfl, hb⟩; refine ⟨_, rfl, ?_⟩; have n0_ := Aside0.mk (below_step (by repeat (first | (with_reducible first | exact HB.out | apply below_alloc | apply pw_below_drewN | apply below_drew1) | exact HB.out)) hb); clear HB; have HB := n0_; clear n0_; (try clear hb); (try clear hb2); (try clear hk); (try clear hi)))
    go_ret2
    exact ⟨by first | rfl | (simp [errW_none, errW_some] <;> rfl) | (simp [*, errW_none, errW_some] <;> rfl), by repeat (first | (with_reducible first | exact HB.out | apply below_alloc | apply pw_below_drewN | apply below_drew1) | exact HB.out)⟩
  · rw [if_neg c3] at H
    have c3b0 : (t118 == 0) = false := beq_eq_false_iff_ne.mpr c3
    have c3b1 : (t118 != 0) = true := bne_iff_ne.mpr c3
    simp only [Option.some.injEq, Prod.mk.injEq] at H
    obtain ⟨rfl, rfl⟩ := H
    go_enter Tryd.func32, Tryd.ntmps32
    go_wp2_with (first | ((with_reducible refine gate_callee (f := 66) rfl ?_); refine goesL_ (some 6) rfl rfl Tryd.func66 (by kernel_rfl) rfl #[.slice A0 l0.length c0] rfl (by (try simp only [List.map_toArray, List.map_cons, List.map_nil]); first | done | rfl | (simp only [List.length_drop, List.length_take]; rfl)) ?_; (with_reducible refine (tap_asked.calls k _ _ l0 t118 _ ?side3 ?side1 ?side2 A2.out).mono ?_); (case side1 => repeat (first | exact HR0.out | (with_reducible refine Kd.C_alloc ?_ _) | (with_reducible refine Kd.C_drewN ?_ _) | (with_reducible refine Kd.C_drew ?_))); (case side2 => exact HC0.out); (case side3 => first | exact hL | exact LaidW.below hL (by repeat (first | (with_reducible first | exact HB.out | apply below_alloc | apply pw_below_drewN | apply below_drew1) | exact HB.out))); rintro e w7 ⟨rfl, hb⟩; refine ⟨_, rfl, ?_⟩; have n0_ := Aside0.mk (below_step (by repeat (first | (with_reducible first | exact HB.out | apply below_alloc | apply pw_below_drewN | apply below_drew1) | exact HB.out)) hb); clear HB; have HB := n0_; clear n0_; (try clear hb); (try clear hb2); (try clear hk); (try clear hi)))
    go_ret2
    exact ⟨by first | rfl | (simp [errW_none, errW_some] <;> rfl) | (simp [*, errW_none, errW_some] <;> rfl), by repeat (first | (with_reducible first | exact HB.out | apply below_alloc | apply pw_below_drewN | apply below_drew1) | exact HB.out)⟩
end Go.Proofs.YtallfkecjibpmaaDoor.M
