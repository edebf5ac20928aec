/- doc: putting a word on a line, proved by walking it. -/
import Derived.Test.YthdalpminhbckaaDoorWrap2
import Derived.Test.YthdalpminhbckaaDoorSeq
set_option linter.unusedVariables false
set_option linter.unusedSimpArgs false
namespace Go.Proofs.YthdalpminhbckaaDoor.G
open Go.RowKit Go.Proofs.YthdalpminhbckaaDoorW.PrintWords Go.Proofs.YthdalpminhbckaaDoorW.PrintMore Go.Proofs.YthdalpminhbckaaDoorW.PrintLast Go.Proofs.YthdalpminhbckaaDoor.Tx Go.Lib

theorem toL_nil {b : ByteArray} (h : b.size = 0) : b.toList = [] := by
  rw [ByteArray.toList_eq]
  exact List.eq_nil_of_length_eq_zero (by rw [← size_len]; exact h)
theorem toL_ne {b : ByteArray} (h : b.size ≠ 0) : b.toList.isEmpty = false := by
  rw [ByteArray.toList_eq]
  rw [size_len] at h
  cases hc : b.data.toList
  · rw [hc] at h
    exact absurd rfl h
  · rfl
def slen : Value → Nat
  | .string s => s.size
  | _ => 0
theorem start_facts (x : Wr) (s : ByteArray) : (x.start s).lines.length ≤ x.lines.length + 1 ∧ (x.start s).others = x.others ∧ (x.start s).most = x.most ∧ ((x.start s).now.size ≤ x.now.size ∨ (x.start s).now.size ≤ x.others.size) := by
  unfold Wr.start
  split
  · simp [Wr.fin]
  · simp
def TP0 : Bool × List (Nat × Nat) := (true, [(0, 0), (1, 1), (2, 2), (4, 4), (8, 8), (16, 16), (32, 32), (96, 96), (160, 160), (288, 288), (544, 544), (1056, 1056), (32, 32), (5152, 4128), (10272, 10272), (32, 32), (32800, 32800), (65568, 65568), (131104, 131104), (278560, 278560), (524320, 524320)])
theorem TP0_eq : Sq.tabM .any (opsOf Tryd.f98 0) = TP0 := by kernel_rfl
def TP2 : Bool × List (Nat × Nat) := (true, [(0, 0), (1, 1), (2, 2), (4, 4), (8, 8), (16, 16), (48, 48), (80, 80), (144, 144), (272, 272), (528, 528), (1040, 1040), (2064, 2048), (4096, 4096), (12288, 12288), (20480, 20480), (36864, 36864), (69632, 69632), (135168, 135168), (266240, 262144), (524288, 524288), (1572864, 1572864), (2621440, 2621440), (4718592, 4718592), (8912896, 8912896), (524288, 524288), (50855936, 34078720), (84410368, 84410368), (524288, 524288), (268959744, 268959744), (537395200, 537395200), (1074266112, 1074266112), (2282225664, 2282225664), (4295491584, 4295491584), (8657043456, 8589934592), (17179869184, 17179869184), (51539607552, 51539607552), (85899345920, 85899345920), (154618822656, 154618822656), (292057776128, 292057776128), (17179869184, 17179869184), (1666447310848, 1116691496960), (2765958938624, 2765958938624), (17179869184, 17179869184), (8813272891392, 8813272891392), (17609365913600, 17609365913600), (35201551958016, 35201551958016), (74783970557952, 74783970557952), (140754668224512, 140754668224512), (562949953421311, 281474976710656)])
theorem TP2_eq : Sq.tabM .any (opsOf Tryd.f98 2) = TP2 := by kernel_rfl
def TP5 : Bool × List (Nat × Nat) := (true, [(0, 0), (1, 1), (2, 2), (4, 4), (8, 8), (0, 0), (48, 32), (80, 80), (0, 0), (256, 256), (512, 512), (1024, 1024), (2176, 2176)])
theorem TP5_eq : Sq.tabM .any (opsOf Tryd.f98 5) = TP5 := by kernel_rfl
def TP6 : Bool × List (Nat × Nat) := (true, [(0, 0), (0, 0), (2, 2), (4, 4), (8, 8), (0, 0), (32, 32), (64, 64), (128, 128), (256, 256), (528, 528), (1024, 1024), (2561, 2049), (4096, 4096), (8192, 8192), (8192, 8192), (32767, 16384), (131071, 32768)])
theorem TP6_eq : Sq.tabM .any (opsOf Tryd.f98 6) = TP6 := by kernel_rfl
set_option maxHeartbeats 8000000 in
set_option maxRecDepth 100000 in
theorem put_any (x : Wr) (B g : Nat) (v : Value) (w : World) (s : ByteArray) (h : x.lies B g v w) (hB : B ≤ w.heap.size) (hl : x.lines.length + s.size + 2 ≤ 1000000000) (hs : s.size ≤ 140737488351232) (hnow : x.now.size ≤ 140737488351232) (hoth : x.others.size ≤ 140737488351232) (hm0 : 0 ≤ x.most) (hm1 : x.most ≤ 1000000000) :
    Calls Tryd.prog 98 #[.pointer (some ⟨g, 0, none⟩), .string s] w fun e w' => e = .returned (.tuple #[]) ∧ ∃ v', At (x.put s) B g v v' w w' := by
  obtain ⟨A, c, rfl⟩ := Kd.R_slice h.2.1
  have hA : Aside0 (At x B g (.slice A x.lines.length c) (.slice A x.lines.length c) w w) := ⟨⟨h, Below.refl _ _, Fr.refl _ _ _⟩⟩
  have n1 := wd_le x.now
  have n2 := wd_le s
  have n3 := wd_le x.others
  clear h
  go_enter Tryd.func98, Tryd.ntmps98
  go_upto_region 0 with fail
  go_cut [27] (fun s27 wx => s27 = .bool (x.fits s) ∧ Aside0 (At x B g (.slice A x.lines.length c) (.slice A x.lines.length c) w wx))
  case first =>
    cases he : x.empty
    · have hq : Aside0 (x.fits s = decide ((wd x.now : Int) + 1 + wd s ≤ x.most)) := ⟨by unfold Wr.fits; rw [he]; simp⟩
      refine Sq.start TP0 [.p 0 (some 7), .p 1 (some 8), .p 2 (some 9), .r 3 (some 10), .p 4 (some 11), .p 5 (some 12), .p 6 (some 13), .p 7 (some 14), .p 8 (some 15), .p 12 (some 19), .p 15 (some 22), .p 16 (some 23), .p 17 (some 24), .r 9 (some 16), .r 18 (some 25), .h 10 (some 17), .p 11 (some 18), .h 13 (some 20), .p 14 (some 21), .p 19 (some 26), .p 20 (some 27)] [] (fun w' => w'.cell? ⟨g, 5, none⟩ = some (.bool x.empty) ∧ w'.cell? ⟨g, 1, none⟩ = some (.string x.now) ∧ w'.cell? ⟨g, 4, none⟩ = some (.int .i64 x.most)) (by kernel_rfl) TP0_eq (by kernel_rfl) ⟨lies_cell5 hA.out.lies, lies_cell1 hA.out.lies, lies_cell4 hA.out.lies⟩ (fun hHeld => ?_)
      iterate 3 (apply Sq.step_p; rfl; rfl; exact fun _ _ _ h => h; refine Or.inl ⟨by rfl, ?_⟩; intro w'; go_simp; with_reducible rfl; simp only [Act.put, List.setIfInBounds_toArray, List.set_cons_zero, List.set_cons_succ, i64_w, i32_w]; rfl)
      apply Sq.step_r; rfl; rfl; exact fun _ _ _ h => h; exact hHeld; refine Or.inl ⟨by rfl, ?_⟩; rintro w' ⟨s0, s1, s2⟩; go_simp; with_reducible rfl; simp only [Act.put, List.setIfInBounds_toArray, List.set_cons_zero, List.set_cons_succ, i64_w, i32_w]; rfl
      iterate 9 (apply Sq.step_p; rfl; rfl; exact fun _ _ _ h => h; refine Or.inl ⟨by rfl, ?_⟩; intro w'; go_simp; with_reducible rfl; simp only [Act.put, List.setIfInBounds_toArray, List.set_cons_zero, List.set_cons_succ, i64_w, i32_w]; rfl)
      iterate 2 (apply Sq.step_r; rfl; rfl; exact fun _ _ _ h => h; exact hHeld; refine Or.inl ⟨by rfl, ?_⟩; rintro w' ⟨s0, s1, s2⟩; go_simp; with_reducible rfl; simp only [Act.put, List.setIfInBounds_toArray, List.set_cons_zero, List.set_cons_succ, i64_w, i32_w]; rfl)
      refine Sq.step_h rfl rfl (fun K hK => ?_)
      refine goes_ Tryd.func131 (by kernel_rfl) rfl #[.string x.now] (by rfl) rfl rfl (by simp only [List.map_toArray, List.map_cons, List.map_nil]; rfl) ?_
      with_reducible refine (width_any x.now _ hnow).mono ?_
      rintro e w3 ⟨rfl, hb3⟩
      refine ⟨_, rfl, ?_⟩
      refine hK.out _ _ ⟨pw_cell_below hb3 hHeld.1, pw_cell_below hb3 hHeld.2.1, pw_cell_below hb3 hHeld.2.2⟩ (fun hHeld => ?_)
      clear hK K
      refine Sq.norm (a' := ?_) ?_ ?_
      rotate_left
      · show Act.put _ (some 17) _ = _
        simp only [Act.put, List.setIfInBounds_toArray, List.set_cons_zero, List.set_cons_succ, i64_w, i32_w]
        rfl
      apply Sq.step_p; rfl; rfl; exact fun _ _ _ h => h; refine Or.inl ⟨by rfl, ?_⟩; intro w'; go_simp; with_reducible rfl; simp only [Act.put, List.setIfInBounds_toArray, List.set_cons_zero, List.set_cons_succ, i64_w, i32_w]; rfl
      refine Sq.step_h rfl rfl (fun K hK => ?_)
      refine goes_ Tryd.func131 (by kernel_rfl) rfl #[.string s] (by rfl) rfl rfl (by simp only [List.map_toArray, List.map_cons, List.map_nil]; rfl) ?_
      with_reducible refine (width_any s _ hs).mono ?_
      rintro e w4 ⟨rfl, hb4⟩
      refine ⟨_, rfl, ?_⟩
      refine hK.out _ _ ⟨pw_cell_below hb4 hHeld.1, pw_cell_below hb4 hHeld.2.1, pw_cell_below hb4 hHeld.2.2⟩ (fun hHeld => ?_)
      clear hK K
      refine Sq.norm (a' := ?_) ?_ ?_
      rotate_left
      · show Act.put _ (some 20) _ = _
        simp only [Act.put, List.setIfInBounds_toArray, List.set_cons_zero, List.set_cons_succ, i64_w, i32_w]
        rfl
      iterate 3 (apply Sq.step_p; rfl; rfl; exact fun _ _ _ h => h; refine Or.inl ⟨by rfl, ?_⟩; intro w'; go_simp; with_reducible rfl; simp only [Act.put, List.setIfInBounds_toArray, List.set_cons_zero, List.set_cons_succ, i64_w, i32_w]; rfl)
      refine Sq.done ?_

      rw [show wrap64 ((wd x.now : Int) + 1) = (wd x.now : Int) + 1 from by unfold wrap64; omega]
      rw [show wrap64 ((wd x.now : Int) + 1 + (wd s : Int)) = (wd x.now : Int) + 1 + (wd s : Int) from by unfold wrap64; omega]
      rw [← hq.out]
      go_wp2_with fail
      go_meet
      exact ⟨rfl, ⟨(hA.out.drew_.then_ hB hb3).then_ ((hA.out.drew_.then_ hB hb3).size_ hB) hb4⟩⟩
    · have hq : Aside0 (x.fits s = false) := ⟨by unfold Wr.fits; rw [he]; simp⟩
      refine Sq.start TP0 [.p 0 (some 7), .p 1 (some 8), .p 2 (some 9), .r 3 (some 10), .p 4 (some 11), .p 5 (some 12), .p 6 (some 13), .p 7 (some 14), .p 8 (some 15), .p 9 (some 16), .p 10 (some 17), .p 11 (some 18), .p 12 (some 19), .p 13 (some 20), .p 14 (some 21), .p 15 (some 22), .p 16 (some 23), .p 17 (some 24), .p 18 (some 25), .p 19 (some 26), .p 20 (some 27)] [] (fun w' => w'.cell? ⟨g, 5, none⟩ = some (.bool x.empty)) (by kernel_rfl) TP0_eq (by kernel_rfl) (lies_cell5 hA.out.lies) (fun hHeld => ?_)
      iterate 3 (apply Sq.step_p; rfl; rfl; exact fun _ _ _ h => h; refine Or.inl ⟨by rfl, ?_⟩; intro w'; go_simp; with_reducible rfl; simp only [Act.put, List.setIfInBounds_toArray, List.set_cons_zero, List.set_cons_succ, i64_w, i32_w]; rfl)
      apply Sq.step_r; rfl; rfl; exact fun _ _ _ h => h; exact hHeld; refine Or.inl ⟨by rfl, ?_⟩; intro w' s0; go_simp; with_reducible rfl; simp only [Act.put, List.setIfInBounds_toArray, List.set_cons_zero, List.set_cons_succ, i64_w, i32_w]; rfl
      iterate 2 (apply Sq.step_p; rfl; rfl; exact fun _ _ _ h => h; refine Or.inl ⟨by rfl, ?_⟩; intro w'; go_simp; with_reducible rfl; simp only [Act.put, List.setIfInBounds_toArray, List.set_cons_zero, List.set_cons_succ, i64_w, i32_w]; rfl)
      iterate 14 (apply Sq.step_p; rfl; rfl; exact fun _ _ _ h => h; exact Or.inr ⟨by rfl, rfl⟩; simp only [Act.put, List.setIfInBounds_toArray, List.set_cons_zero, List.set_cons_succ, i64_w, i32_w]; rfl)
      apply Sq.step_p; rfl; rfl; exact fun _ _ _ h => h; refine Or.inl ⟨by rfl, ?_⟩; intro w'; go_simp; with_reducible rfl; simp only [Act.put, List.setIfInBounds_toArray, List.set_cons_zero, List.set_cons_succ, i64_w, i32_w]; rfl
      refine Sq.done ?_

      go_wp2_with fail
      go_meet
      exact ⟨by rw [hq.out], ⟨hA.out.drew_⟩⟩
  case rest =>
    obtain ⟨rfl, hA1⟩ := hcut
    cases hf : x.fits s
    · have hf' := Aside0.mk hf
      clear hf
      go_upto_region 2 with fail
      go_cut [4] (fun s4 wy => s4 = .bool (x.alone s) ∧ Aside0 (At x B g (.slice A x.lines.length c) (.slice A x.lines.length c) w wy))
      case first =>
        replace hA := hA1
        have hB1 := hA.out.drew_.size_ hB
        cases he : x.empty
        · have hq : Aside0 (x.alone s = false) := ⟨by unfold Wr.alone; rw [he]; simp⟩
          refine Sq.start TP2 [.p 0 (some 37), .p 1 (some 38), .p 2 (some 39), .r 3 (some 40), .p 4 (some 41), .p 5 (some 42), .p 6 (some 43), .p 7 (some 44), .p 8 (some 45), .p 9 (some 46), .p 10 (some 47), .p 11 (some 48), .p 12 (some 49), .p 13 (some 50), .p 14 (some 51), .p 15 (some 52), .p 16 (some 53), .p 17 (some 54), .p 18 (some 55), .p 19 (some 56), .p 20 (some 57), .p 21 (some 58), .p 22 (some 59), .p 23 (some 60), .p 24 (some 61), .p 25 (some 62), .p 26 (some 63), .p 27 (some 64), .p 28 (some 65), .p 29 (some 66), .p 30 (some 67), .p 31 (some 68), .p 32 (some 69), .p 33 (some 70), .p 34 (some 71), .p 35 (some 72), .p 36 (some 73), .p 37 (some 74), .p 38 (some 75), .p 39 (some 76), .p 40 (some 77), .p 41 (some 78), .p 42 (some 79), .p 43 (some 80), .p 44 (some 81), .p 45 (some 82), .p 46 (some 83), .p 47 (some 84), .p 48 (some 85), .p 49 (some 4)] [] (fun w' => w'.cell? ⟨g, 5, none⟩ = some (.bool x.empty)) (by kernel_rfl) TP2_eq (by kernel_rfl) (lies_cell5 hA.out.lies) (fun hHeld => ?_)
          iterate 3 (apply Sq.step_p; rfl; rfl; exact fun _ _ _ h => h; refine Or.inl ⟨by rfl, ?_⟩; intro w'; go_simp; with_reducible rfl; simp only [Act.put, List.setIfInBounds_toArray, List.set_cons_zero, List.set_cons_succ, i64_w, i32_w]; rfl)
          apply Sq.step_r; rfl; rfl; exact fun _ _ _ h => h; exact hHeld; refine Or.inl ⟨by rfl, ?_⟩; intro w' s0; go_simp; with_reducible rfl; simp only [Act.put, List.setIfInBounds_toArray, List.set_cons_zero, List.set_cons_succ, i64_w, i32_w]; rfl
          apply Sq.step_p; rfl; rfl; exact fun _ _ _ h => h; refine Or.inl ⟨by rfl, ?_⟩; intro w'; go_simp; with_reducible rfl; simp only [Act.put, List.setIfInBounds_toArray, List.set_cons_zero, List.set_cons_succ, i64_w, i32_w]; rfl
          iterate 6 (apply Sq.step_p; rfl; rfl; exact fun _ _ _ h => h; exact Or.inr ⟨by rfl, rfl⟩; simp only [Act.put, List.setIfInBounds_toArray, List.set_cons_zero, List.set_cons_succ, i64_w, i32_w]; rfl)
          iterate 2 (apply Sq.step_p; rfl; rfl; exact fun _ _ _ h => h; refine Or.inl ⟨by rfl, ?_⟩; intro w'; go_simp; with_reducible rfl; simp only [Act.put, List.setIfInBounds_toArray, List.set_cons_zero, List.set_cons_succ, i64_w, i32_w]; rfl)
          iterate 5 (apply Sq.step_p; rfl; rfl; exact fun _ _ _ h => h; exact Or.inr ⟨by rfl, rfl⟩; simp only [Act.put, List.setIfInBounds_toArray, List.set_cons_zero, List.set_cons_succ, i64_w, i32_w]; rfl)
          iterate 2 (apply Sq.step_p; rfl; rfl; exact fun _ _ _ h => h; refine Or.inl ⟨by rfl, ?_⟩; intro w'; go_simp; with_reducible rfl; simp only [Act.put, List.setIfInBounds_toArray, List.set_cons_zero, List.set_cons_succ, i64_w, i32_w]; rfl)
          iterate 13 (apply Sq.step_p; rfl; rfl; exact fun _ _ _ h => h; exact Or.inr ⟨by rfl, rfl⟩; simp only [Act.put, List.setIfInBounds_toArray, List.set_cons_zero, List.set_cons_succ, i64_w, i32_w]; rfl)
          iterate 2 (apply Sq.step_p; rfl; rfl; exact fun _ _ _ h => h; refine Or.inl ⟨by rfl, ?_⟩; intro w'; go_simp; with_reducible rfl; simp only [Act.put, List.setIfInBounds_toArray, List.set_cons_zero, List.set_cons_succ, i64_w, i32_w]; rfl)
          iterate 13 (apply Sq.step_p; rfl; rfl; exact fun _ _ _ h => h; exact Or.inr ⟨by rfl, rfl⟩; simp only [Act.put, List.setIfInBounds_toArray, List.set_cons_zero, List.set_cons_succ, i64_w, i32_w]; rfl)
          iterate 2 (apply Sq.step_p; rfl; rfl; exact fun _ _ _ h => h; refine Or.inl ⟨by rfl, ?_⟩; intro w'; go_simp; with_reducible rfl; simp only [Act.put, List.setIfInBounds_toArray, List.set_cons_zero, List.set_cons_succ, i64_w, i32_w]; rfl)
          refine Sq.done ?_

          go_wp2_with fail
          go_meet
          exact ⟨by rw [hq.out], ⟨hA.out.drew_⟩⟩
        · cases hn : x.lines.isEmpty
          · have hq : Aside0 (x.alone s = false) := ⟨by unfold Wr.alone; rw [hn]; simp⟩
            have hn0 : x.lines.length ≠ 0 := by intro h0; rw [List.length_eq_zero_iff.1 h0] at hn; cases hn
            have hz : ((x.lines.length : Int) == 0) = false := by rw [beq_eq_false_iff_ne]; omega
            have hn' := Aside0.mk hn
            clear hn
            refine Sq.start TP2 [.p 0 (some 37), .p 1 (some 38), .p 2 (some 39), .r 3 (some 40), .p 4 (some 41), .p 5 (some 42), .p 6 (some 43), .p 7 (some 44), .r 8 (some 45), .p 9 (some 46), .p 10 (some 47), .p 11 (some 48), .p 12 (some 49), .p 13 (some 50), .p 14 (some 51), .p 15 (some 52), .p 16 (some 53), .p 17 (some 54), .p 18 (some 55), .p 19 (some 56), .p 20 (some 57), .p 21 (some 58), .p 22 (some 59), .p 23 (some 60), .p 24 (some 61), .p 25 (some 62), .p 26 (some 63), .p 27 (some 64), .p 28 (some 65), .p 29 (some 66), .p 30 (some 67), .p 31 (some 68), .p 32 (some 69), .p 33 (some 70), .p 34 (some 71), .p 35 (some 72), .p 36 (some 73), .p 37 (some 74), .p 38 (some 75), .p 39 (some 76), .p 40 (some 77), .p 41 (some 78), .p 42 (some 79), .p 43 (some 80), .p 44 (some 81), .p 45 (some 82), .p 46 (some 83), .p 47 (some 84), .p 48 (some 85), .p 49 (some 4)] [] (fun w' => w'.cell? ⟨g, 5, none⟩ = some (.bool x.empty) ∧ w'.cell? ⟨g, 0, none⟩ = some (.slice A x.lines.length c)) (by kernel_rfl) TP2_eq (by kernel_rfl) ⟨lies_cell5 hA.out.lies, lies_cell0 hA.out.lies⟩ (fun hHeld => ?_)
            iterate 3 (apply Sq.step_p; rfl; rfl; exact fun _ _ _ h => h; refine Or.inl ⟨by rfl, ?_⟩; intro w'; go_simp; with_reducible rfl; simp only [Act.put, List.setIfInBounds_toArray, List.set_cons_zero, List.set_cons_succ, i64_w, i32_w]; rfl)
            apply Sq.step_r; rfl; rfl; exact fun _ _ _ h => h; exact hHeld; refine Or.inl ⟨by rfl, ?_⟩; rintro w' ⟨s0, s1⟩; go_simp; with_reducible rfl; simp only [Act.put, List.setIfInBounds_toArray, List.set_cons_zero, List.set_cons_succ, i64_w, i32_w]; rfl
            iterate 4 (apply Sq.step_p; rfl; rfl; exact fun _ _ _ h => h; refine Or.inl ⟨by rfl, ?_⟩; intro w'; go_simp; with_reducible rfl; simp only [Act.put, List.setIfInBounds_toArray, List.set_cons_zero, List.set_cons_succ, i64_w, i32_w]; rfl)
            apply Sq.step_r; rfl; rfl; exact fun _ _ _ h => h; exact hHeld; refine Or.inl ⟨by rfl, ?_⟩; rintro w' ⟨s0, s1⟩; go_simp; with_reducible rfl; simp only [Act.put, List.setIfInBounds_toArray, List.set_cons_zero, List.set_cons_succ, i64_w, i32_w]; rfl
            iterate 4 (apply Sq.step_p; rfl; rfl; exact fun _ _ _ h => h; refine Or.inl ⟨by rfl, ?_⟩; intro w'; go_simp; with_reducible rfl; simp only [Act.put, List.setIfInBounds_toArray, List.set_cons_zero, List.set_cons_succ, i64_w, i32_w]; rfl)
            iterate 5 (apply Sq.step_p; rfl; rfl; exact fun _ _ _ h => h; exact Or.inr ⟨by rfl, rfl⟩; simp only [Act.put, List.setIfInBounds_toArray, List.set_cons_zero, List.set_cons_succ, i64_w, i32_w]; rfl)
            iterate 2 (apply Sq.step_p; rfl; rfl; exact fun _ _ _ h => h; refine Or.inl ⟨by rfl, ?_⟩; intro w'; go_simp; with_reducible rfl; simp only [Act.put, List.setIfInBounds_toArray, List.set_cons_zero, List.set_cons_succ, i64_w, i32_w]; rfl)
            iterate 13 (apply Sq.step_p; rfl; rfl; exact fun _ _ _ h => h; exact Or.inr ⟨by rfl, rfl⟩; simp only [Act.put, List.setIfInBounds_toArray, List.set_cons_zero, List.set_cons_succ, i64_w, i32_w]; rfl)
            iterate 2 (apply Sq.step_p; rfl; rfl; exact fun _ _ _ h => h; refine Or.inl ⟨by rfl, ?_⟩; intro w'; go_simp; with_reducible rfl; simp only [Act.put, List.setIfInBounds_toArray, List.set_cons_zero, List.set_cons_succ, i64_w, i32_w]; rfl)
            iterate 13 (apply Sq.step_p; rfl; rfl; exact fun _ _ _ h => h; exact Or.inr ⟨by rfl, rfl⟩; simp only [Act.put, List.setIfInBounds_toArray, List.set_cons_zero, List.set_cons_succ, i64_w, i32_w]; rfl)
            iterate 2 (apply Sq.step_p; rfl; rfl; exact fun _ _ _ h => h; refine Or.inl ⟨by rfl, ?_⟩; intro w'; go_simp; with_reducible rfl; simp only [Act.put, List.setIfInBounds_toArray, List.set_cons_zero, List.set_cons_succ, i64_w, i32_w]; rfl)
            refine Sq.done ?_

            go_wp2_with fail
            go_meet
            exact ⟨by rw [hq.out], ⟨hA.out.drew_⟩⟩
          · have hz : ((x.lines.length : Int) == 0) = true := by rw [List.isEmpty_iff.1 hn]; rfl
            by_cases hw : x.now.size = 0
            · have hq : Aside0 (x.alone s = false) := ⟨by unfold Wr.alone; rw [decide_eq_false (by omega)]; simp⟩
              have hn' := Aside0.mk hn
              clear hn
              have t1 : x.now.toList = [] := by rw [ByteArray.toList_eq]; exact List.eq_nil_of_length_eq_zero (by rw [← size_len]; exact hw)
              have t2 : (!x.now.toList.isEmpty) = false := by rw [t1]; rfl
              refine Sq.start TP2 [.p 0 (some 37), .p 1 (some 38), .p 2 (some 39), .r 3 (some 40), .p 4 (some 41), .p 5 (some 42), .p 6 (some 43), .p 7 (some 44), .r 8 (some 45), .p 9 (some 46), .p 10 (some 47), .p 11 (some 48), .p 12 (some 49), .p 13 (some 50), .p 14 (some 51), .p 15 (some 52), .r 16 (some 53), .p 17 (some 54), .p 18 (some 55), .p 19 (some 56), .p 20 (some 57), .p 21 (some 58), .p 22 (some 59), .p 23 (some 60), .p 24 (some 61), .p 25 (some 62), .p 26 (some 63), .p 27 (some 64), .p 28 (some 65), .p 29 (some 66), .p 30 (some 67), .p 31 (some 68), .p 32 (some 69), .p 33 (some 70), .p 34 (some 71), .p 35 (some 72), .p 36 (some 73), .p 37 (some 74), .p 38 (some 75), .p 39 (some 76), .p 40 (some 77), .p 41 (some 78), .p 42 (some 79), .p 43 (some 80), .p 44 (some 81), .p 45 (some 82), .p 46 (some 83), .p 47 (some 84), .p 48 (some 85), .p 49 (some 4)] [] (fun w' => w'.cell? ⟨g, 5, none⟩ = some (.bool x.empty) ∧ w'.cell? ⟨g, 0, none⟩ = some (.slice A x.lines.length c) ∧ w'.cell? ⟨g, 1, none⟩ = some (.string x.now)) (by kernel_rfl) TP2_eq (by kernel_rfl) ⟨lies_cell5 hA.out.lies, lies_cell0 hA.out.lies, lies_cell1 hA.out.lies⟩ (fun hHeld => ?_)
              iterate 3 (apply Sq.step_p; rfl; rfl; exact fun _ _ _ h => h; refine Or.inl ⟨by rfl, ?_⟩; intro w'; go_simp; with_reducible rfl; simp only [Act.put, List.setIfInBounds_toArray, List.set_cons_zero, List.set_cons_succ, i64_w, i32_w]; rfl)
              apply Sq.step_r; rfl; rfl; exact fun _ _ _ h => h; exact hHeld; refine Or.inl ⟨by rfl, ?_⟩; rintro w' ⟨s0, s1, s2⟩; go_simp; with_reducible rfl; simp only [Act.put, List.setIfInBounds_toArray, List.set_cons_zero, List.set_cons_succ, i64_w, i32_w]; rfl
              iterate 4 (apply Sq.step_p; rfl; rfl; exact fun _ _ _ h => h; refine Or.inl ⟨by rfl, ?_⟩; intro w'; go_simp; with_reducible rfl; simp only [Act.put, List.setIfInBounds_toArray, List.set_cons_zero, List.set_cons_succ, i64_w, i32_w]; rfl)
              apply Sq.step_r; rfl; rfl; exact fun _ _ _ h => h; exact hHeld; refine Or.inl ⟨by rfl, ?_⟩; rintro w' ⟨s0, s1, s2⟩; go_simp; with_reducible rfl; simp only [Act.put, List.setIfInBounds_toArray, List.set_cons_zero, List.set_cons_succ, i64_w, i32_w]; rfl
              iterate 7 (apply Sq.step_p; rfl; rfl; exact fun _ _ _ h => h; refine Or.inl ⟨by rfl, ?_⟩; intro w'; go_simp; with_reducible rfl; simp only [Act.put, List.setIfInBounds_toArray, List.set_cons_zero, List.set_cons_succ, i64_w, i32_w]; rfl)
              apply Sq.step_r; rfl; rfl; exact fun _ _ _ h => h; exact hHeld; refine Or.inl ⟨by rfl, ?_⟩; rintro w' ⟨s0, s1, s2⟩; go_simp; with_reducible rfl; simp only [Act.put, List.setIfInBounds_toArray, List.set_cons_zero, List.set_cons_succ, i64_w, i32_w]; rfl
              iterate 3 (apply Sq.step_p; rfl; rfl; exact fun _ _ _ h => h; refine Or.inl ⟨by rfl, ?_⟩; intro w'; go_simp; with_reducible rfl; simp only [Act.put, List.setIfInBounds_toArray, List.set_cons_zero, List.set_cons_succ, i64_w, i32_w]; rfl)
              iterate 13 (apply Sq.step_p; rfl; rfl; exact fun _ _ _ h => h; exact Or.inr ⟨by rfl, rfl⟩; simp only [Act.put, List.setIfInBounds_toArray, List.set_cons_zero, List.set_cons_succ, i64_w, i32_w]; rfl)
              iterate 2 (apply Sq.step_p; rfl; rfl; exact fun _ _ _ h => h; refine Or.inl ⟨by rfl, ?_⟩; intro w'; go_simp; with_reducible rfl; simp only [Act.put, List.setIfInBounds_toArray, List.set_cons_zero, List.set_cons_succ, i64_w, i32_w]; rfl)
              iterate 13 (apply Sq.step_p; rfl; rfl; exact fun _ _ _ h => h; exact Or.inr ⟨by rfl, rfl⟩; simp only [Act.put, List.setIfInBounds_toArray, List.set_cons_zero, List.set_cons_succ, i64_w, i32_w]; rfl)
              iterate 2 (apply Sq.step_p; rfl; rfl; exact fun _ _ _ h => h; refine Or.inl ⟨by rfl, ?_⟩; intro w'; go_simp; with_reducible rfl; simp only [Act.put, List.setIfInBounds_toArray, List.set_cons_zero, List.set_cons_succ, i64_w, i32_w]; rfl)
              refine Sq.done ?_

              go_wp2_with fail
              go_meet
              exact ⟨by rw [hq.out], ⟨hA.out.drew_⟩⟩
            · have hn' := Aside0.mk hn
              clear hn
              have t1 : (!x.now.toList.isEmpty) = true := by rw [toL_ne hw]; rfl
              by_cases hb : (wd x.now : Int) + wd s > x.most
              · have hq : Aside0 (x.alone s = decide ((wd x.others : Int) + wd s ≤ x.most)) := ⟨by unfold Wr.alone; rw [he, hn'.out, decide_eq_true hb, decide_eq_true hw]; simp⟩
                have t3 : decide (wrap64 ((wd x.now : Int) + (wd s : Int)) > x.most) = true := by
                  rw [show wrap64 ((wd x.now : Int) + (wd s : Int)) = (wd x.now : Int) + (wd s : Int) from by unfold wrap64; omega]
                  exact decide_eq_true hb
                refine Sq.start TP2 [.p 0 (some 37), .p 1 (some 38), .p 2 (some 39), .r 3 (some 40), .p 4 (some 41), .p 5 (some 42), .p 6 (some 43), .p 7 (some 44), .r 8 (some 45), .p 9 (some 46), .p 10 (some 47), .p 11 (some 48), .p 12 (some 49), .p 13 (some 50), .p 14 (some 51), .p 15 (some 52), .r 16 (some 53), .p 17 (some 54), .p 18 (some 55), .p 19 (some 56), .p 20 (some 57), .p 21 (some 58), .p 22 (some 59), .p 25 (some 62), .p 28 (some 65), .p 29 (some 66), .p 30 (some 67), .r 23 (some 60), .r 31 (some 68), .h 24 (some 61), .h 26 (some 63), .p 27 (some 64), .p 32 (some 69), .p 33 (some 70), .p 34 (some 71), .p 35 (some 72), .p 36 (some 73), .p 37 (some 74), .p 40 (some 77), .p 43 (some 80), .p 44 (some 81), .p 45 (some 82), .r 38 (some 75), .r 46 (some 83), .h 39 (some 76), .h 41 (some 78), .p 42 (some 79), .p 47 (some 84), .p 48 (some 85), .p 49 (some 4)] [] (fun w' => w'.cell? ⟨g, 5, none⟩ = some (.bool x.empty) ∧ w'.cell? ⟨g, 0, none⟩ = some (.slice A x.lines.length c) ∧ w'.cell? ⟨g, 1, none⟩ = some (.string x.now) ∧ w'.cell? ⟨g, 4, none⟩ = some (.int .i64 x.most) ∧ w'.cell? ⟨g, 3, none⟩ = some (.string x.others)) (by kernel_rfl) TP2_eq (by kernel_rfl) ⟨lies_cell5 hA.out.lies, lies_cell0 hA.out.lies, lies_cell1 hA.out.lies, lies_cell4 hA.out.lies, lies_cell3 hA.out.lies⟩ (fun hHeld => ?_)
                iterate 3 (apply Sq.step_p; rfl; rfl; exact fun _ _ _ h => h; refine Or.inl ⟨by rfl, ?_⟩; intro w'; go_simp; with_reducible rfl; simp only [Act.put, List.setIfInBounds_toArray, List.set_cons_zero, List.set_cons_succ, i64_w, i32_w]; rfl)
                apply Sq.step_r; rfl; rfl; exact fun _ _ _ h => h; exact hHeld; refine Or.inl ⟨by rfl, ?_⟩; rintro w' ⟨s0, s1, s2, s3, s4⟩; go_simp; with_reducible rfl; simp only [Act.put, List.setIfInBounds_toArray, List.set_cons_zero, List.set_cons_succ, i64_w, i32_w]; rfl
                iterate 4 (apply Sq.step_p; rfl; rfl; exact fun _ _ _ h => h; refine Or.inl ⟨by rfl, ?_⟩; intro w'; go_simp; with_reducible rfl; simp only [Act.put, List.setIfInBounds_toArray, List.set_cons_zero, List.set_cons_succ, i64_w, i32_w]; rfl)
                apply Sq.step_r; rfl; rfl; exact fun _ _ _ h => h; exact hHeld; refine Or.inl ⟨by rfl, ?_⟩; rintro w' ⟨s0, s1, s2, s3, s4⟩; go_simp; with_reducible rfl; simp only [Act.put, List.setIfInBounds_toArray, List.set_cons_zero, List.set_cons_succ, i64_w, i32_w]; rfl
                iterate 7 (apply Sq.step_p; rfl; rfl; exact fun _ _ _ h => h; refine Or.inl ⟨by rfl, ?_⟩; intro w'; go_simp; with_reducible rfl; simp only [Act.put, List.setIfInBounds_toArray, List.set_cons_zero, List.set_cons_succ, i64_w, i32_w]; rfl)
                apply Sq.step_r; rfl; rfl; exact fun _ _ _ h => h; exact hHeld; refine Or.inl ⟨by rfl, ?_⟩; rintro w' ⟨s0, s1, s2, s3, s4⟩; go_simp; with_reducible rfl; simp only [Act.put, List.setIfInBounds_toArray, List.set_cons_zero, List.set_cons_succ, i64_w, i32_w]; rfl
                iterate 10 (apply Sq.step_p; rfl; rfl; exact fun _ _ _ h => h; refine Or.inl ⟨by rfl, ?_⟩; intro w'; go_simp; with_reducible rfl; simp only [Act.put, List.setIfInBounds_toArray, List.set_cons_zero, List.set_cons_succ, i64_w, i32_w]; rfl)
                iterate 2 (apply Sq.step_r; rfl; rfl; exact fun _ _ _ h => h; exact hHeld; refine Or.inl ⟨by rfl, ?_⟩; rintro w' ⟨s0, s1, s2, s3, s4⟩; go_simp; with_reducible rfl; simp only [Act.put, List.setIfInBounds_toArray, List.set_cons_zero, List.set_cons_succ, i64_w, i32_w]; rfl)
                refine Sq.step_h rfl rfl (fun K hK => ?_)
                refine goes_ Tryd.func131 (by kernel_rfl) rfl #[.string x.now] (by rfl) rfl rfl (by simp only [List.map_toArray, List.map_cons, List.map_nil]; rfl) ?_
                with_reducible refine (width_any x.now _ hnow).mono ?_
                rintro e w3 ⟨rfl, hb3⟩
                refine ⟨_, rfl, ?_⟩
                refine hK.out _ _ ⟨pw_cell_below hb3 hHeld.1, pw_cell_below hb3 hHeld.2.1, pw_cell_below hb3 hHeld.2.2.1, pw_cell_below hb3 hHeld.2.2.2.1, pw_cell_below hb3 hHeld.2.2.2.2⟩ (fun hHeld => ?_)
                clear hK K
                refine Sq.norm (a' := ?_) ?_ ?_
                rotate_left
                · show Act.put _ (some 61) _ = _
                  simp only [Act.put, List.setIfInBounds_toArray, List.set_cons_zero, List.set_cons_succ, i64_w, i32_w]
                  rfl
                refine Sq.step_h rfl rfl (fun K hK => ?_)
                refine goes_ Tryd.func131 (by kernel_rfl) rfl #[.string s] (by rfl) rfl rfl (by simp only [List.map_toArray, List.map_cons, List.map_nil]; rfl) ?_
                with_reducible refine (width_any s _ hs).mono ?_
                rintro e w4 ⟨rfl, hb4⟩
                refine ⟨_, rfl, ?_⟩
                refine hK.out _ _ ⟨pw_cell_below hb4 hHeld.1, pw_cell_below hb4 hHeld.2.1, pw_cell_below hb4 hHeld.2.2.1, pw_cell_below hb4 hHeld.2.2.2.1, pw_cell_below hb4 hHeld.2.2.2.2⟩ (fun hHeld => ?_)
                clear hK K
                refine Sq.norm (a' := ?_) ?_ ?_
                rotate_left
                · show Act.put _ (some 63) _ = _
                  simp only [Act.put, List.setIfInBounds_toArray, List.set_cons_zero, List.set_cons_succ, i64_w, i32_w]
                  rfl
                iterate 11 (apply Sq.step_p; rfl; rfl; exact fun _ _ _ h => h; refine Or.inl ⟨by rfl, ?_⟩; intro w'; go_simp; with_reducible rfl; simp only [Act.put, List.setIfInBounds_toArray, List.set_cons_zero, List.set_cons_succ, i64_w, i32_w]; rfl)
                iterate 2 (apply Sq.step_r; rfl; rfl; exact fun _ _ _ h => h; exact hHeld; refine Or.inl ⟨by rfl, ?_⟩; rintro w' ⟨s0, s1, s2, s3, s4⟩; go_simp; with_reducible rfl; simp only [Act.put, List.setIfInBounds_toArray, List.set_cons_zero, List.set_cons_succ, i64_w, i32_w]; rfl)
                refine Sq.step_h rfl rfl (fun K hK => ?_)
                refine goes_ Tryd.func131 (by kernel_rfl) rfl #[.string x.others] (by rfl) rfl rfl (by simp only [List.map_toArray, List.map_cons, List.map_nil]; rfl) ?_
                with_reducible refine (width_any x.others _ hoth).mono ?_
                rintro e w5 ⟨rfl, hb5⟩
                refine ⟨_, rfl, ?_⟩
                refine hK.out _ _ ⟨pw_cell_below hb5 hHeld.1, pw_cell_below hb5 hHeld.2.1, pw_cell_below hb5 hHeld.2.2.1, pw_cell_below hb5 hHeld.2.2.2.1, pw_cell_below hb5 hHeld.2.2.2.2⟩ (fun hHeld => ?_)
                clear hK K
                refine Sq.norm (a' := ?_) ?_ ?_
                rotate_left
                · show Act.put _ (some 76) _ = _
                  simp only [Act.put, List.setIfInBounds_toArray, List.set_cons_zero, List.set_cons_succ, i64_w, i32_w]
                  rfl
                refine Sq.step_h rfl rfl (fun K hK => ?_)
                refine goes_ Tryd.func131 (by kernel_rfl) rfl #[.string s] (by rfl) rfl rfl (by simp only [List.map_toArray, List.map_cons, List.map_nil]; rfl) ?_
                with_reducible refine (width_any s _ hs).mono ?_
                rintro e w6 ⟨rfl, hb6⟩
                refine ⟨_, rfl, ?_⟩
                refine hK.out _ _ ⟨pw_cell_below hb6 hHeld.1, pw_cell_below hb6 hHeld.2.1, pw_cell_below hb6 hHeld.2.2.1, pw_cell_below hb6 hHeld.2.2.2.1, pw_cell_below hb6 hHeld.2.2.2.2⟩ (fun hHeld => ?_)
                clear hK K
                refine Sq.norm (a' := ?_) ?_ ?_
                rotate_left
                · show Act.put _ (some 78) _ = _
                  simp only [Act.put, List.setIfInBounds_toArray, List.set_cons_zero, List.set_cons_succ, i64_w, i32_w]
                  rfl
                iterate 4 (apply Sq.step_p; rfl; rfl; exact fun _ _ _ h => h; refine Or.inl ⟨by rfl, ?_⟩; intro w'; go_simp; with_reducible rfl; simp only [Act.put, List.setIfInBounds_toArray, List.set_cons_zero, List.set_cons_succ, i64_w, i32_w]; rfl)
                refine Sq.done ?_

                rw [show wrap64 ((wd x.others : Int) + (wd s : Int)) = (wd x.others : Int) + (wd s : Int) from by unfold wrap64; omega]
                rw [← hq.out]
                go_wp2_with fail
                go_meet
                have a1 := hA.out.drew_.then_ hB1 hb3
                have a2 := a1.then_ (a1.size_ hB) hb4
                have a3 := a2.then_ (a2.size_ hB) hb5
                exact ⟨rfl, ⟨a3.then_ (a3.size_ hB) hb6⟩⟩
              · have hq : Aside0 (x.alone s = false) := ⟨by unfold Wr.alone; rw [decide_eq_false hb]; simp⟩
                have t3 : decide (wrap64 ((wd x.now : Int) + (wd s : Int)) > x.most) = false := by
                  rw [show wrap64 ((wd x.now : Int) + (wd s : Int)) = (wd x.now : Int) + (wd s : Int) from by unfold wrap64; omega]
                  exact decide_eq_false hb
                refine Sq.start TP2 [.p 0 (some 37), .p 1 (some 38), .p 2 (some 39), .r 3 (some 40), .p 4 (some 41), .p 5 (some 42), .p 6 (some 43), .p 7 (some 44), .r 8 (some 45), .p 9 (some 46), .p 10 (some 47), .p 11 (some 48), .p 12 (some 49), .p 13 (some 50), .p 14 (some 51), .p 15 (some 52), .r 16 (some 53), .p 17 (some 54), .p 18 (some 55), .p 19 (some 56), .p 20 (some 57), .p 21 (some 58), .p 22 (some 59), .p 25 (some 62), .p 28 (some 65), .p 29 (some 66), .p 30 (some 67), .r 23 (some 60), .r 31 (some 68), .h 24 (some 61), .h 26 (some 63), .p 27 (some 64), .p 32 (some 69), .p 33 (some 70), .p 34 (some 71), .p 35 (some 72), .p 36 (some 73), .p 37 (some 74), .p 38 (some 75), .p 39 (some 76), .p 40 (some 77), .p 41 (some 78), .p 42 (some 79), .p 43 (some 80), .p 44 (some 81), .p 45 (some 82), .p 46 (some 83), .p 47 (some 84), .p 48 (some 85), .p 49 (some 4)] [] (fun w' => w'.cell? ⟨g, 5, none⟩ = some (.bool x.empty) ∧ w'.cell? ⟨g, 0, none⟩ = some (.slice A x.lines.length c) ∧ w'.cell? ⟨g, 1, none⟩ = some (.string x.now) ∧ w'.cell? ⟨g, 4, none⟩ = some (.int .i64 x.most)) (by kernel_rfl) TP2_eq (by kernel_rfl) ⟨lies_cell5 hA.out.lies, lies_cell0 hA.out.lies, lies_cell1 hA.out.lies, lies_cell4 hA.out.lies⟩ (fun hHeld => ?_)
                iterate 3 (apply Sq.step_p; rfl; rfl; exact fun _ _ _ h => h; refine Or.inl ⟨by rfl, ?_⟩; intro w'; go_simp; with_reducible rfl; simp only [Act.put, List.setIfInBounds_toArray, List.set_cons_zero, List.set_cons_succ, i64_w, i32_w]; rfl)
                apply Sq.step_r; rfl; rfl; exact fun _ _ _ h => h; exact hHeld; refine Or.inl ⟨by rfl, ?_⟩; rintro w' ⟨s0, s1, s2, s3⟩; go_simp; with_reducible rfl; simp only [Act.put, List.setIfInBounds_toArray, List.set_cons_zero, List.set_cons_succ, i64_w, i32_w]; rfl
                iterate 4 (apply Sq.step_p; rfl; rfl; exact fun _ _ _ h => h; refine Or.inl ⟨by rfl, ?_⟩; intro w'; go_simp; with_reducible rfl; simp only [Act.put, List.setIfInBounds_toArray, List.set_cons_zero, List.set_cons_succ, i64_w, i32_w]; rfl)
                apply Sq.step_r; rfl; rfl; exact fun _ _ _ h => h; exact hHeld; refine Or.inl ⟨by rfl, ?_⟩; rintro w' ⟨s0, s1, s2, s3⟩; go_simp; with_reducible rfl; simp only [Act.put, List.setIfInBounds_toArray, List.set_cons_zero, List.set_cons_succ, i64_w, i32_w]; rfl
                iterate 7 (apply Sq.step_p; rfl; rfl; exact fun _ _ _ h => h; refine Or.inl ⟨by rfl, ?_⟩; intro w'; go_simp; with_reducible rfl; simp only [Act.put, List.setIfInBounds_toArray, List.set_cons_zero, List.set_cons_succ, i64_w, i32_w]; rfl)
                apply Sq.step_r; rfl; rfl; exact fun _ _ _ h => h; exact hHeld; refine Or.inl ⟨by rfl, ?_⟩; rintro w' ⟨s0, s1, s2, s3⟩; go_simp; with_reducible rfl; simp only [Act.put, List.setIfInBounds_toArray, List.set_cons_zero, List.set_cons_succ, i64_w, i32_w]; rfl
                iterate 10 (apply Sq.step_p; rfl; rfl; exact fun _ _ _ h => h; refine Or.inl ⟨by rfl, ?_⟩; intro w'; go_simp; with_reducible rfl; simp only [Act.put, List.setIfInBounds_toArray, List.set_cons_zero, List.set_cons_succ, i64_w, i32_w]; rfl)
                iterate 2 (apply Sq.step_r; rfl; rfl; exact fun _ _ _ h => h; exact hHeld; refine Or.inl ⟨by rfl, ?_⟩; rintro w' ⟨s0, s1, s2, s3⟩; go_simp; with_reducible rfl; simp only [Act.put, List.setIfInBounds_toArray, List.set_cons_zero, List.set_cons_succ, i64_w, i32_w]; rfl)
                refine Sq.step_h rfl rfl (fun K hK => ?_)
                refine goes_ Tryd.func131 (by kernel_rfl) rfl #[.string x.now] (by rfl) rfl rfl (by simp only [List.map_toArray, List.map_cons, List.map_nil]; rfl) ?_
                with_reducible refine (width_any x.now _ hnow).mono ?_
                rintro e w3 ⟨rfl, hb3⟩
                refine ⟨_, rfl, ?_⟩
                refine hK.out _ _ ⟨pw_cell_below hb3 hHeld.1, pw_cell_below hb3 hHeld.2.1, pw_cell_below hb3 hHeld.2.2.1, pw_cell_below hb3 hHeld.2.2.2⟩ (fun hHeld => ?_)
                clear hK K
                refine Sq.norm (a' := ?_) ?_ ?_
                rotate_left
                · show Act.put _ (some 61) _ = _
                  simp only [Act.put, List.setIfInBounds_toArray, List.set_cons_zero, List.set_cons_succ, i64_w, i32_w]
                  rfl
                refine Sq.step_h rfl rfl (fun K hK => ?_)
                refine goes_ Tryd.func131 (by kernel_rfl) rfl #[.string s] (by rfl) rfl rfl (by simp only [List.map_toArray, List.map_cons, List.map_nil]; rfl) ?_
                with_reducible refine (width_any s _ hs).mono ?_
                rintro e w4 ⟨rfl, hb4⟩
                refine ⟨_, rfl, ?_⟩
                refine hK.out _ _ ⟨pw_cell_below hb4 hHeld.1, pw_cell_below hb4 hHeld.2.1, pw_cell_below hb4 hHeld.2.2.1, pw_cell_below hb4 hHeld.2.2.2⟩ (fun hHeld => ?_)
                clear hK K
                refine Sq.norm (a' := ?_) ?_ ?_
                rotate_left
                · show Act.put _ (some 63) _ = _
                  simp only [Act.put, List.setIfInBounds_toArray, List.set_cons_zero, List.set_cons_succ, i64_w, i32_w]
                  rfl
                iterate 4 (apply Sq.step_p; rfl; rfl; exact fun _ _ _ h => h; refine Or.inl ⟨by rfl, ?_⟩; intro w'; go_simp; with_reducible rfl; simp only [Act.put, List.setIfInBounds_toArray, List.set_cons_zero, List.set_cons_succ, i64_w, i32_w]; rfl)
                iterate 13 (apply Sq.step_p; rfl; rfl; exact fun _ _ _ h => h; exact Or.inr ⟨by rfl, rfl⟩; simp only [Act.put, List.setIfInBounds_toArray, List.set_cons_zero, List.set_cons_succ, i64_w, i32_w]; rfl)
                iterate 2 (apply Sq.step_p; rfl; rfl; exact fun _ _ _ h => h; refine Or.inl ⟨by rfl, ?_⟩; intro w'; go_simp; with_reducible rfl; simp only [Act.put, List.setIfInBounds_toArray, List.set_cons_zero, List.set_cons_succ, i64_w, i32_w]; rfl)
                refine Sq.done ?_

                go_wp2_with fail
                go_meet
                have a1 := hA.out.drew_.then_ hB1 hb3
                exact ⟨by rw [hq.out], ⟨a1.then_ (a1.size_ hB) hb4⟩⟩
      case rest =>
        obtain ⟨rfl, hA2⟩ := hcut
        replace hA := hA2
        clear hA1 hA2
        have hsf := start_facts x s
        have c5 := lies_cell5 hA.out.lies
        have hBc := hA.out.size_ hB
        cases he : x.empty
        · have hst : Aside0 (x.start s = x.fin) := ⟨by unfold Wr.start; rw [he]; rfl⟩
          go_wp2_with (go_at_call 132; refine (end_any x B g (.slice A x.lines.length c) wc hA.out.lies hBc (by omega)).mono ?_; rintro e w9 ⟨rfl, v9, hl9, hb9, hf9⟩)
          have hA3 : Aside0 (At (x.start s) B g (.slice A x.lines.length c) v9 w w9) := ⟨by rw [hst.out]; exact hA.out.end_ hl9 hb9 hf9⟩
          clear hl9 hb9 hf9
          as_aux_lemma =>
            go_loopw [1] (fun u wr => ∃ (y : Wr) (r : ByteArray) (v' : Value) (f : Nat), u = .string r ∧ Aside0 (At y B g (.slice A x.lines.length c) v' w wr) ∧ r.size < f ∧ r.size ≤ s.size ∧ Aside0 (Wr.loop f y r = (x.start s).loop (s.size + 1) s) ∧ y.lines.length + r.size + 1 ≤ 1000000000 ∧ y.now.size ≤ 140737488351232 ∧ y.others.size ≤ 140737488351232 ∧ 0 ≤ y.most ∧ y.most ≤ 1000000000) (fun u _ => slen u)
            case atStart =>
              exact ⟨x.start s, s, v9, s.size + 1, rfl, hA3, by omega, by omega, ⟨rfl⟩, by omega, by have := hsf.2.2.2; omega, by rw [hsf.2.1]; exact hoth, by rw [hsf.2.2.1]; exact hm0, by rw [hsf.2.2.1]; exact hm1⟩
            case round =>
              obtain ⟨y, r, v', f, rfl, hA4, hf1, hr1, hL, hy1, hy2, hy3, hy4, hy5⟩ := hrel
              have m1 := wd_le y.now
              have m2 := wd_le r
              go_wp2_with fail
              refine Sq.start TP5 [.p 0 (some 96), .p 1 (some 97), .p 2 (some 98), .p 5 (some 101), .p 8 (some 104), .p 9 (some 105), .p 10 (some 106), .r 3 (some 99), .r 11 (some 107), .h 4 (some 100), .h 6 (some 102), .p 7 (some 103), .p 12 (some 108)] [] (fun w' => w'.cell? ⟨g, 1, none⟩ = some (.string y.now) ∧ w'.cell? ⟨g, 4, none⟩ = some (.int .i64 y.most)) (by kernel_rfl) TP5_eq (by kernel_rfl) ⟨lies_cell1 hA4.out.lies, lies_cell4 hA4.out.lies⟩ (fun hHeld => ?_)
              iterate 7 (apply Sq.step_p; rfl; rfl; exact fun _ _ _ h => h; refine Or.inl ⟨by rfl, ?_⟩; intro w'; go_simp; with_reducible rfl; simp only [Act.put, List.setIfInBounds_toArray, List.set_cons_zero, List.set_cons_succ, i64_w, i32_w]; rfl)
              iterate 2 (apply Sq.step_r; rfl; rfl; exact fun _ _ _ h => h; exact hHeld; refine Or.inl ⟨by rfl, ?_⟩; rintro w' ⟨s0, s1⟩; go_simp; with_reducible rfl; simp only [Act.put, List.setIfInBounds_toArray, List.set_cons_zero, List.set_cons_succ, i64_w, i32_w]; rfl)
              refine Sq.step_h rfl rfl (fun K hK => ?_)
              refine goes_ Tryd.func131 (by kernel_rfl) rfl #[.string y.now] (by rfl) rfl rfl (by simp only [List.map_toArray, List.map_cons, List.map_nil]; rfl) ?_
              with_reducible refine (width_any y.now _ hy2).mono ?_
              rintro e w11 ⟨rfl, hb11⟩
              refine ⟨_, rfl, ?_⟩
              refine hK.out _ _ ⟨pw_cell_below hb11 hHeld.1, pw_cell_below hb11 hHeld.2⟩ (fun hHeld => ?_)
              clear hK K
              refine Sq.norm (a' := ?_) ?_ ?_
              rotate_left
              · show Act.put _ (some 100) _ = _
                simp only [Act.put, List.setIfInBounds_toArray, List.set_cons_zero, List.set_cons_succ, i64_w, i32_w]
                rfl
              refine Sq.step_h rfl rfl (fun K hK => ?_)
              refine goes_ Tryd.func131 (by kernel_rfl) rfl #[.string r] (by rfl) rfl rfl (by simp only [List.map_toArray, List.map_cons, List.map_nil]; rfl) ?_
              with_reducible refine (width_any r _ (by omega)).mono ?_
              rintro e w12 ⟨rfl, hb12⟩
              refine ⟨_, rfl, ?_⟩
              refine hK.out _ _ ⟨pw_cell_below hb12 hHeld.1, pw_cell_below hb12 hHeld.2⟩ (fun hHeld => ?_)
              clear hK K
              refine Sq.norm (a' := ?_) ?_ ?_
              rotate_left
              · show Act.put _ (some 102) _ = _
                simp only [Act.put, List.setIfInBounds_toArray, List.set_cons_zero, List.set_cons_succ, i64_w, i32_w]
                rfl
              iterate 2 (apply Sq.step_p; rfl; rfl; exact fun _ _ _ h => h; refine Or.inl ⟨by rfl, ?_⟩; intro w'; go_simp; with_reducible rfl; simp only [Act.put, List.setIfInBounds_toArray, List.set_cons_zero, List.set_cons_succ, i64_w, i32_w]; rfl)
              refine Sq.done ?_

              rw [show wrap64 ((wd y.now : Int) + (wd r : Int)) = (wd y.now : Int) + (wd r : Int) from by unfold wrap64; omega]
              have hA5 : Aside0 (At y B g (.slice A x.lines.length c) v' w w12) := ⟨(hA4.out.drew_.then_ (hA4.out.size_ hB) hb11).then_ ((hA4.out.drew_.then_ (hA4.out.size_ hB) hb11).size_ hB) hb12⟩
              clear hb11 hb12
              by_cases hbig : (wd y.now : Int) + (wd r : Int) > y.most
              · have tb : decide ((wd y.now : Int) + (wd r : Int) > y.most) = true := decide_eq_true hbig
                have hmx : Aside0 ((if (1 : Int) < wrap64 (y.most - (wd y.now : Int)) then wrap64 (y.most - (wd y.now : Int)) else 1) = ((max (1 : Int) (y.most - (wd y.now : Int))).toNat : Nat)) := ⟨by
                  rw [show wrap64 (y.most - (wd y.now : Int)) = y.most - (wd y.now : Int) from by unfold wrap64; omega]
                  split <;> omega⟩
                have hcl := cutN_le (max (1 : Int) (y.most - (wd y.now : Int))).toNat r.data.toList
                rw [← size_len] at hcl
                have hcw : Aside0 (cutN (max (1 : Int) (y.most - (wd y.now : Int))).toNat r.data.toList = cutW y r) := ⟨rfl⟩
                go_wp2_with fail
                refine Sq.start TP6 [.p 0 (some 110), .p 1 (some 111), .p 2 (some 112), .p 3 (some 113), .p 5 (some 115), .p 6 (some 116), .p 7 (some 117), .r 4 (some 114), .r 8 (some 118), .h 9 (some 119), .p 10 (some 120), .p 11 (some 121), .h 12 (some 122), .p 13 (some 109), .p 14 (some 123), .p 15 (some 124), .p 16 (some 5), .p 17 (some 6)] [] (fun w' => w'.cell? ⟨g, 1, none⟩ = some (.string y.now) ∧ w'.cell? ⟨g, 4, none⟩ = some (.int .i64 y.most)) (by kernel_rfl) TP6_eq (by kernel_rfl) ⟨lies_cell1 hA5.out.lies, lies_cell4 hA5.out.lies⟩ (fun hHeld => ?_)
                iterate 7 (apply Sq.step_p; rfl; rfl; exact fun _ _ _ h => h; refine Or.inl ⟨by rfl, ?_⟩; intro w'; go_simp; with_reducible rfl; simp only [Act.put, List.setIfInBounds_toArray, List.set_cons_zero, List.set_cons_succ, i64_w, i32_w]; rfl)
                iterate 2 (apply Sq.step_r; rfl; rfl; exact fun _ _ _ h => h; exact hHeld; refine Or.inl ⟨by rfl, ?_⟩; rintro w' ⟨s0, s1⟩; go_simp; with_reducible rfl; simp only [Act.put, List.setIfInBounds_toArray, List.set_cons_zero, List.set_cons_succ, i64_w, i32_w]; rfl)
                refine Sq.step_h rfl rfl (fun K hK => ?_)
                refine goes_ Tryd.func131 (by kernel_rfl) rfl #[.string y.now] (by rfl) rfl rfl (by simp only [List.map_toArray, List.map_cons, List.map_nil]; rfl) ?_
                with_reducible refine (width_any y.now _ hy2).mono ?_
                rintro e w13 ⟨rfl, hb13⟩
                refine ⟨_, rfl, ?_⟩
                refine hK.out _ _ ⟨pw_cell_below hb13 hHeld.1, pw_cell_below hb13 hHeld.2⟩ (fun hHeld => ?_)
                clear hK K
                refine Sq.norm (a' := ?_) ?_ ?_
                rotate_left
                · show Act.put _ (some 119) _ = _
                  simp only [Act.put, List.setIfInBounds_toArray, List.set_cons_zero, List.set_cons_succ, i64_w, i32_w]
                  rfl
                iterate 2 (apply Sq.step_p; rfl; rfl; exact fun _ _ _ h => h; refine Or.inl ⟨by rfl, ?_⟩; intro w'; go_simp; with_reducible rfl; simp only [Act.put, List.setIfInBounds_toArray, List.set_cons_zero, List.set_cons_succ, i64_w, i32_w]; rfl)
                refine Sq.step_h rfl rfl (fun K hK => ?_)
                refine goes_ Tryd.func133 (by kernel_rfl) rfl #[.string r, .int .i64 (if (1 : Int) < wrap64 (y.most - (wd y.now : Int)) then wrap64 (y.most - (wd y.now : Int)) else 1)] (by rfl) rfl rfl (by simp only [List.map_toArray, List.map_cons, List.map_nil]; rfl) ?_
                rw [hmx.out]
                with_reducible refine (cut_any r _ _ (by omega) (by omega)).mono ?_
                rintro e w14 ⟨rfl, hb14⟩
                refine ⟨_, rfl, ?_⟩
                refine hK.out _ _ ⟨pw_cell_below hb14 hHeld.1, pw_cell_below hb14 hHeld.2⟩ (fun hHeld => ?_)
                clear hK K
                refine Sq.norm (a' := ?_) ?_ ?_
                rotate_left
                · show Act.put _ (some 122) _ = _
                  simp only [Act.put, List.setIfInBounds_toArray, List.set_cons_zero, List.set_cons_succ, i64_w, i32_w]
                  rfl
                iterate 5 (apply Sq.step_p; rfl; rfl; exact fun _ _ _ h => h; refine Or.inl ⟨by rfl, ?_⟩; intro w'; go_simp; with_reducible rfl; simp only [Act.put, List.setIfInBounds_toArray, List.set_cons_zero, List.set_cons_succ, i64_w, i32_w]; rfl)
                refine Sq.done ?_

                rw [hcw.out]
                rw [hcw.out] at hcl
                have hA6 : Aside0 (At y B g (.slice A x.lines.length c) v' w w14) := ⟨(hA5.out.drew_.then_ (hA5.out.size_ hB) hb13).then_ ((hA5.out.drew_.then_ (hA5.out.size_ hB) hb13).size_ hB) hb14⟩
                clear hb13 hb14 hmx
                by_cases hce : cutW y r = r.size
                · have k2 : (r.extract (cutW y r) r.size).toList = [] := toL_nil (by rw [ByteArray.size_extract]; omega)
                  have k1 : ((r.extract (cutW y r) r.size).toList.isEmpty) = true := by rw [k2]; rfl
                  have hL2 : Aside0 ((x.start s).loop (s.size + 1) s = (y, r)) := ⟨by
                    rw [← hL.out]
                    cases f with
                    | zero => omega
                    | succ f => rw [Wr.loop, if_pos hbig, if_pos hce]⟩
                  have hce' := Aside0.mk hce
                  clear hce
                  have q1 := lies_cell1 hA6.out.lies
                  have q2 := lies_free hA6.out.lies 1
                  have q3 := lies_cell5 (hA6.out.now_ (y.now ++ r)).lies
                  have q4 := lies_free (hA6.out.now_ (y.now ++ r)).lies 5
                  have hput : Aside0 (x.put s = { y with now := y.now ++ r, empty := false }) := ⟨by unfold Wr.put; rw [hf'.out, hL2.out]; rfl⟩
                  go_wp2_with fail
                  go_end0
                  refine ⟨rfl, v', ?_⟩
                  rw [hput.out]
                  exact (hA6.out.now_ (y.now ++ r)).empty_ false
                · have k0 : cutW y r < r.size := by omega
                  have k1 : ((r.extract (cutW y r) r.size).toList.isEmpty) = false := toL_ne (by rw [ByteArray.size_extract]; omega)
                  have hne : r.data.toList ≠ [] := by
                    intro h0
                    have h5 : r.size = 0 := by rw [size_len, h0]; rfl
                    omega
                  have hpos : 1 ≤ cutW y r := by
                    unfold cutW
                    obtain ⟨j, hj⟩ : ∃ j, (max (1 : Int) (y.most - (wd y.now : Int))).toNat = j + 1 := ⟨(max (1 : Int) (y.most - (wd y.now : Int))).toNat - 1, by omega⟩
                    rw [hj]
                    exact cutN_pos j _ hne
                  have hne' := Aside0.mk hne
                  clear hne
                  have z1 : (r.extract 0 (cutW y r)).size = cutW y r := by rw [ByteArray.size_extract]; omega
                  have z2 : (r.extract (cutW y r) r.size).size = r.size - cutW y r := by rw [ByteArray.size_extract]; omega
                  have z1' := Aside0.mk z1
                  have z2' := Aside0.mk z2
                  have z3 : (r.extract 0 (cutW y r)).size ≤ 140737488351232 := by omega
                  clear z1 z2
                  have q1 := lies_cell1 hA6.out.lies
                  have q2 := lies_free hA6.out.lies 1
                  go_wp2_with fail
                  have hB6 := (hA6.out.now_ (y.now ++ r.extract 0 (cutW y r))).size_ hB
                  refine (end_any { y with now := y.now ++ r.extract 0 (cutW y r) } B g v' _ (hA6.out.now_ (y.now ++ r.extract 0 (cutW y r))).lies hB6 (by show y.lines.length ≤ _; omega)).mono ?_
                  rintro e w15 ⟨rfl, v15, hl15, hb15, hf15⟩
                  have hA7 := Aside0.mk ((hA6.out.now_ (y.now ++ r.extract 0 (cutW y r))).end_ hl15 hb15 hf15)
                  clear hl15 hb15 hf15
                  go_wp2_with fail
                  go_roundw
                  case rel =>
                    obtain ⟨f, rfl⟩ : ∃ j, f = j + 1 := ⟨f - 1, by omega⟩
                    refine ⟨_, _, v15, f, rfl, hA7, by rw [z2'.out]; omega, by rw [z2'.out]; omega, ⟨?_⟩, ?_, hy3, hy3, hy4, hy5⟩
                    · rw [← hL.out, Wr.loop, if_pos hbig, if_neg hce]
                    · rw [z2'.out]
                      simp only [Wr.fin, List.length_append, List.length_cons, List.length_nil]
                      omega
                  case measure =>
                    simp only [slen]
                    rw [z2'.out]
                    omega
              · have tb : decide ((wd y.now : Int) + (wd r : Int) > y.most) = false := decide_eq_false hbig
                have hL2 : Aside0 ((x.start s).loop (s.size + 1) s = (y, r)) := ⟨by
                  rw [← hL.out]
                  cases f with
                  | zero => omega
                  | succ f => rw [Wr.loop, if_neg hbig]⟩
                have q1 := lies_cell1 hA5.out.lies
                have q2 := lies_free hA5.out.lies 1
                have q3 := lies_cell5 (hA5.out.now_ (y.now ++ r)).lies
                have q4 := lies_free (hA5.out.now_ (y.now ++ r)).lies 5
                have hput : Aside0 (x.put s = { y with now := y.now ++ r, empty := false }) := ⟨by unfold Wr.put; rw [hf'.out, hL2.out]; rfl⟩
                go_wp2_with fail
                go_end0
                refine ⟨rfl, v', ?_⟩
                rw [hput.out]
                exact (hA5.out.now_ (y.now ++ r)).empty_ false

        · cases ha : x.alone s
          · have hst : Aside0 (x.start s = x) := ⟨by unfold Wr.start; rw [he, ha]; rfl⟩
            obtain ⟨v9, hv9⟩ : ∃ v9 : Value, .slice A x.lines.length c = v9 := ⟨_, rfl⟩
            obtain ⟨w9, rfl⟩ : ∃ w9 : World, w9 = wc := ⟨_, rfl⟩
            have hA3 : Aside0 (At (x.start s) B g (.slice A x.lines.length c) v9 w w9) := ⟨by rw [hst.out, ← hv9]; exact hA.out⟩
            clear hv9
            go_wp2_with fail
            as_aux_lemma =>
              go_loopw [1] (fun u wr => ∃ (y : Wr) (r : ByteArray) (v' : Value) (f : Nat), u = .string r ∧ Aside0 (At y B g (.slice A x.lines.length c) v' w wr) ∧ r.size < f ∧ r.size ≤ s.size ∧ Aside0 (Wr.loop f y r = (x.start s).loop (s.size + 1) s) ∧ y.lines.length + r.size + 1 ≤ 1000000000 ∧ y.now.size ≤ 140737488351232 ∧ y.others.size ≤ 140737488351232 ∧ 0 ≤ y.most ∧ y.most ≤ 1000000000) (fun u _ => slen u)
              case atStart =>
                exact ⟨x.start s, s, v9, s.size + 1, rfl, hA3, by omega, by omega, ⟨rfl⟩, by omega, by have := hsf.2.2.2; omega, by rw [hsf.2.1]; exact hoth, by rw [hsf.2.2.1]; exact hm0, by rw [hsf.2.2.1]; exact hm1⟩
              case round =>
                obtain ⟨y, r, v', f, rfl, hA4, hf1, hr1, hL, hy1, hy2, hy3, hy4, hy5⟩ := hrel
                have m1 := wd_le y.now
                have m2 := wd_le r
                go_wp2_with fail
                refine Sq.start TP5 [.p 0 (some 96), .p 1 (some 97), .p 2 (some 98), .p 5 (some 101), .p 8 (some 104), .p 9 (some 105), .p 10 (some 106), .r 3 (some 99), .r 11 (some 107), .h 4 (some 100), .h 6 (some 102), .p 7 (some 103), .p 12 (some 108)] [] (fun w' => w'.cell? ⟨g, 1, none⟩ = some (.string y.now) ∧ w'.cell? ⟨g, 4, none⟩ = some (.int .i64 y.most)) (by kernel_rfl) TP5_eq (by kernel_rfl) ⟨lies_cell1 hA4.out.lies, lies_cell4 hA4.out.lies⟩ (fun hHeld => ?_)
                iterate 7 (apply Sq.step_p; rfl; rfl; exact fun _ _ _ h => h; refine Or.inl ⟨by rfl, ?_⟩; intro w'; go_simp; with_reducible rfl; simp only [Act.put, List.setIfInBounds_toArray, List.set_cons_zero, List.set_cons_succ, i64_w, i32_w]; rfl)
                iterate 2 (apply Sq.step_r; rfl; rfl; exact fun _ _ _ h => h; exact hHeld; refine Or.inl ⟨by rfl, ?_⟩; rintro w' ⟨s0, s1⟩; go_simp; with_reducible rfl; simp only [Act.put, List.setIfInBounds_toArray, List.set_cons_zero, List.set_cons_succ, i64_w, i32_w]; rfl)
                refine Sq.step_h rfl rfl (fun K hK => ?_)
                refine goes_ Tryd.func131 (by kernel_rfl) rfl #[.string y.now] (by rfl) rfl rfl (by simp only [List.map_toArray, List.map_cons, List.map_nil]; rfl) ?_
                with_reducible refine (width_any y.now _ hy2).mono ?_
                rintro e w11 ⟨rfl, hb11⟩
                refine ⟨_, rfl, ?_⟩
                refine hK.out _ _ ⟨pw_cell_below hb11 hHeld.1, pw_cell_below hb11 hHeld.2⟩ (fun hHeld => ?_)
                clear hK K
                refine Sq.norm (a' := ?_) ?_ ?_
                rotate_left
                · show Act.put _ (some 100) _ = _
                  simp only [Act.put, List.setIfInBounds_toArray, List.set_cons_zero, List.set_cons_succ, i64_w, i32_w]
                  rfl
                refine Sq.step_h rfl rfl (fun K hK => ?_)
                refine goes_ Tryd.func131 (by kernel_rfl) rfl #[.string r] (by rfl) rfl rfl (by simp only [List.map_toArray, List.map_cons, List.map_nil]; rfl) ?_
                with_reducible refine (width_any r _ (by omega)).mono ?_
                rintro e w12 ⟨rfl, hb12⟩
                refine ⟨_, rfl, ?_⟩
                refine hK.out _ _ ⟨pw_cell_below hb12 hHeld.1, pw_cell_below hb12 hHeld.2⟩ (fun hHeld => ?_)
                clear hK K
                refine Sq.norm (a' := ?_) ?_ ?_
                rotate_left
                · show Act.put _ (some 102) _ = _
                  simp only [Act.put, List.setIfInBounds_toArray, List.set_cons_zero, List.set_cons_succ, i64_w, i32_w]
                  rfl
                iterate 2 (apply Sq.step_p; rfl; rfl; exact fun _ _ _ h => h; refine Or.inl ⟨by rfl, ?_⟩; intro w'; go_simp; with_reducible rfl; simp only [Act.put, List.setIfInBounds_toArray, List.set_cons_zero, List.set_cons_succ, i64_w, i32_w]; rfl)
                refine Sq.done ?_

                rw [show wrap64 ((wd y.now : Int) + (wd r : Int)) = (wd y.now : Int) + (wd r : Int) from by unfold wrap64; omega]
                have hA5 : Aside0 (At y B g (.slice A x.lines.length c) v' w w12) := ⟨(hA4.out.drew_.then_ (hA4.out.size_ hB) hb11).then_ ((hA4.out.drew_.then_ (hA4.out.size_ hB) hb11).size_ hB) hb12⟩
                clear hb11 hb12
                by_cases hbig : (wd y.now : Int) + (wd r : Int) > y.most
                · have tb : decide ((wd y.now : Int) + (wd r : Int) > y.most) = true := decide_eq_true hbig
                  have hmx : Aside0 ((if (1 : Int) < wrap64 (y.most - (wd y.now : Int)) then wrap64 (y.most - (wd y.now : Int)) else 1) = ((max (1 : Int) (y.most - (wd y.now : Int))).toNat : Nat)) := ⟨by
                    rw [show wrap64 (y.most - (wd y.now : Int)) = y.most - (wd y.now : Int) from by unfold wrap64; omega]
                    split <;> omega⟩
                  have hcl := cutN_le (max (1 : Int) (y.most - (wd y.now : Int))).toNat r.data.toList
                  rw [← size_len] at hcl
                  have hcw : Aside0 (cutN (max (1 : Int) (y.most - (wd y.now : Int))).toNat r.data.toList = cutW y r) := ⟨rfl⟩
                  go_wp2_with fail
                  refine Sq.start TP6 [.p 0 (some 110), .p 1 (some 111), .p 2 (some 112), .p 3 (some 113), .p 5 (some 115), .p 6 (some 116), .p 7 (some 117), .r 4 (some 114), .r 8 (some 118), .h 9 (some 119), .p 10 (some 120), .p 11 (some 121), .h 12 (some 122), .p 13 (some 109), .p 14 (some 123), .p 15 (some 124), .p 16 (some 5), .p 17 (some 6)] [] (fun w' => w'.cell? ⟨g, 1, none⟩ = some (.string y.now) ∧ w'.cell? ⟨g, 4, none⟩ = some (.int .i64 y.most)) (by kernel_rfl) TP6_eq (by kernel_rfl) ⟨lies_cell1 hA5.out.lies, lies_cell4 hA5.out.lies⟩ (fun hHeld => ?_)
                  iterate 7 (apply Sq.step_p; rfl; rfl; exact fun _ _ _ h => h; refine Or.inl ⟨by rfl, ?_⟩; intro w'; go_simp; with_reducible rfl; simp only [Act.put, List.setIfInBounds_toArray, List.set_cons_zero, List.set_cons_succ, i64_w, i32_w]; rfl)
                  iterate 2 (apply Sq.step_r; rfl; rfl; exact fun _ _ _ h => h; exact hHeld; refine Or.inl ⟨by rfl, ?_⟩; rintro w' ⟨s0, s1⟩; go_simp; with_reducible rfl; simp only [Act.put, List.setIfInBounds_toArray, List.set_cons_zero, List.set_cons_succ, i64_w, i32_w]; rfl)
                  refine Sq.step_h rfl rfl (fun K hK => ?_)
                  refine goes_ Tryd.func131 (by kernel_rfl) rfl #[.string y.now] (by rfl) rfl rfl (by simp only [List.map_toArray, List.map_cons, List.map_nil]; rfl) ?_
                  with_reducible refine (width_any y.now _ hy2).mono ?_
                  rintro e w13 ⟨rfl, hb13⟩
                  refine ⟨_, rfl, ?_⟩
                  refine hK.out _ _ ⟨pw_cell_below hb13 hHeld.1, pw_cell_below hb13 hHeld.2⟩ (fun hHeld => ?_)
                  clear hK K
                  refine Sq.norm (a' := ?_) ?_ ?_
                  rotate_left
                  · show Act.put _ (some 119) _ = _
                    simp only [Act.put, List.setIfInBounds_toArray, List.set_cons_zero, List.set_cons_succ, i64_w, i32_w]
                    rfl
                  iterate 2 (apply Sq.step_p; rfl; rfl; exact fun _ _ _ h => h; refine Or.inl ⟨by rfl, ?_⟩; intro w'; go_simp; with_reducible rfl; simp only [Act.put, List.setIfInBounds_toArray, List.set_cons_zero, List.set_cons_succ, i64_w, i32_w]; rfl)
                  refine Sq.step_h rfl rfl (fun K hK => ?_)
                  refine goes_ Tryd.func133 (by kernel_rfl) rfl #[.string r, .int .i64 (if (1 : Int) < wrap64 (y.most - (wd y.now : Int)) then wrap64 (y.most - (wd y.now : Int)) else 1)] (by rfl) rfl rfl (by simp only [List.map_toArray, List.map_cons, List.map_nil]; rfl) ?_
                  rw [hmx.out]
                  with_reducible refine (cut_any r _ _ (by omega) (by omega)).mono ?_
                  rintro e w14 ⟨rfl, hb14⟩
                  refine ⟨_, rfl, ?_⟩
                  refine hK.out _ _ ⟨pw_cell_below hb14 hHeld.1, pw_cell_below hb14 hHeld.2⟩ (fun hHeld => ?_)
                  clear hK K
                  refine Sq.norm (a' := ?_) ?_ ?_
                  rotate_left
                  · show Act.put _ (some 122) _ = _
                    simp only [Act.put, List.setIfInBounds_toArray, List.set_cons_zero, List.set_cons_succ, i64_w, i32_w]
                    rfl
                  iterate 5 (apply Sq.step_p; rfl; rfl; exact fun _ _ _ h => h; refine Or.inl ⟨by rfl, ?_⟩; intro w'; go_simp; with_reducible rfl; simp only [Act.put, List.setIfInBounds_toArray, List.set_cons_zero, List.set_cons_succ, i64_w, i32_w]; rfl)
                  refine Sq.done ?_

                  rw [hcw.out]
                  rw [hcw.out] at hcl
                  have hA6 : Aside0 (At y B g (.slice A x.lines.length c) v' w w14) := ⟨(hA5.out.drew_.then_ (hA5.out.size_ hB) hb13).then_ ((hA5.out.drew_.then_ (hA5.out.size_ hB) hb13).size_ hB) hb14⟩
                  clear hb13 hb14 hmx
                  by_cases hce : cutW y r = r.size
                  · have k2 : (r.extract (cutW y r) r.size).toList = [] := toL_nil (by rw [ByteArray.size_extract]; omega)
                    have k1 : ((r.extract (cutW y r) r.size).toList.isEmpty) = true := by rw [k2]; rfl
                    have hL2 : Aside0 ((x.start s).loop (s.size + 1) s = (y, r)) := ⟨by
                      rw [← hL.out]
                      cases f with
                      | zero => omega
                      | succ f => rw [Wr.loop, if_pos hbig, if_pos hce]⟩
                    have hce' := Aside0.mk hce
                    clear hce
                    have q1 := lies_cell1 hA6.out.lies
                    have q2 := lies_free hA6.out.lies 1
                    have q3 := lies_cell5 (hA6.out.now_ (y.now ++ r)).lies
                    have q4 := lies_free (hA6.out.now_ (y.now ++ r)).lies 5
                    have hput : Aside0 (x.put s = { y with now := y.now ++ r, empty := false }) := ⟨by unfold Wr.put; rw [hf'.out, hL2.out]; rfl⟩
                    go_wp2_with fail
                    go_end0
                    refine ⟨rfl, v', ?_⟩
                    rw [hput.out]
                    exact (hA6.out.now_ (y.now ++ r)).empty_ false
                  · have k0 : cutW y r < r.size := by omega
                    have k1 : ((r.extract (cutW y r) r.size).toList.isEmpty) = false := toL_ne (by rw [ByteArray.size_extract]; omega)
                    have hne : r.data.toList ≠ [] := by
                      intro h0
                      have h5 : r.size = 0 := by rw [size_len, h0]; rfl
                      omega
                    have hpos : 1 ≤ cutW y r := by
                      unfold cutW
                      obtain ⟨j, hj⟩ : ∃ j, (max (1 : Int) (y.most - (wd y.now : Int))).toNat = j + 1 := ⟨(max (1 : Int) (y.most - (wd y.now : Int))).toNat - 1, by omega⟩
                      rw [hj]
                      exact cutN_pos j _ hne
                    have hne' := Aside0.mk hne
                    clear hne
                    have z1 : (r.extract 0 (cutW y r)).size = cutW y r := by rw [ByteArray.size_extract]; omega
                    have z2 : (r.extract (cutW y r) r.size).size = r.size - cutW y r := by rw [ByteArray.size_extract]; omega
                    have z1' := Aside0.mk z1
                    have z2' := Aside0.mk z2
                    have z3 : (r.extract 0 (cutW y r)).size ≤ 140737488351232 := by omega
                    clear z1 z2
                    have q1 := lies_cell1 hA6.out.lies
                    have q2 := lies_free hA6.out.lies 1
                    go_wp2_with fail
                    have hB6 := (hA6.out.now_ (y.now ++ r.extract 0 (cutW y r))).size_ hB
                    refine (end_any { y with now := y.now ++ r.extract 0 (cutW y r) } B g v' _ (hA6.out.now_ (y.now ++ r.extract 0 (cutW y r))).lies hB6 (by show y.lines.length ≤ _; omega)).mono ?_
                    rintro e w15 ⟨rfl, v15, hl15, hb15, hf15⟩
                    have hA7 := Aside0.mk ((hA6.out.now_ (y.now ++ r.extract 0 (cutW y r))).end_ hl15 hb15 hf15)
                    clear hl15 hb15 hf15
                    go_wp2_with fail
                    go_roundw
                    case rel =>
                      obtain ⟨f, rfl⟩ : ∃ j, f = j + 1 := ⟨f - 1, by omega⟩
                      refine ⟨_, _, v15, f, rfl, hA7, by rw [z2'.out]; omega, by rw [z2'.out]; omega, ⟨?_⟩, ?_, hy3, hy3, hy4, hy5⟩
                      · rw [← hL.out, Wr.loop, if_pos hbig, if_neg hce]
                      · rw [z2'.out]
                        simp only [Wr.fin, List.length_append, List.length_cons, List.length_nil]
                        omega
                    case measure =>
                      simp only [slen]
                      rw [z2'.out]
                      omega
                · have tb : decide ((wd y.now : Int) + (wd r : Int) > y.most) = false := decide_eq_false hbig
                  have hL2 : Aside0 ((x.start s).loop (s.size + 1) s = (y, r)) := ⟨by
                    rw [← hL.out]
                    cases f with
                    | zero => omega
                    | succ f => rw [Wr.loop, if_neg hbig]⟩
                  have q1 := lies_cell1 hA5.out.lies
                  have q2 := lies_free hA5.out.lies 1
                  have q3 := lies_cell5 (hA5.out.now_ (y.now ++ r)).lies
                  have q4 := lies_free (hA5.out.now_ (y.now ++ r)).lies 5
                  have hput : Aside0 (x.put s = { y with now := y.now ++ r, empty := false }) := ⟨by unfold Wr.put; rw [hf'.out, hL2.out]; rfl⟩
                  go_wp2_with fail
                  go_end0
                  refine ⟨rfl, v', ?_⟩
                  rw [hput.out]
                  exact (hA5.out.now_ (y.now ++ r)).empty_ false

          · have hst : Aside0 (x.start s = x.fin) := ⟨by unfold Wr.start; rw [he, ha]; rfl⟩
            go_wp2_with (go_at_call 132; refine (end_any x B g (.slice A x.lines.length c) wc hA.out.lies hBc (by omega)).mono ?_; rintro e w9 ⟨rfl, v9, hl9, hb9, hf9⟩)
            have hA3 : Aside0 (At (x.start s) B g (.slice A x.lines.length c) v9 w w9) := ⟨by rw [hst.out]; exact hA.out.end_ hl9 hb9 hf9⟩
            clear hl9 hb9 hf9
            as_aux_lemma =>
              go_loopw [1] (fun u wr => ∃ (y : Wr) (r : ByteArray) (v' : Value) (f : Nat), u = .string r ∧ Aside0 (At y B g (.slice A x.lines.length c) v' w wr) ∧ r.size < f ∧ r.size ≤ s.size ∧ Aside0 (Wr.loop f y r = (x.start s).loop (s.size + 1) s) ∧ y.lines.length + r.size + 1 ≤ 1000000000 ∧ y.now.size ≤ 140737488351232 ∧ y.others.size ≤ 140737488351232 ∧ 0 ≤ y.most ∧ y.most ≤ 1000000000) (fun u _ => slen u)
              case atStart =>
                exact ⟨x.start s, s, v9, s.size + 1, rfl, hA3, by omega, by omega, ⟨rfl⟩, by omega, by have := hsf.2.2.2; omega, by rw [hsf.2.1]; exact hoth, by rw [hsf.2.2.1]; exact hm0, by rw [hsf.2.2.1]; exact hm1⟩
              case round =>
                obtain ⟨y, r, v', f, rfl, hA4, hf1, hr1, hL, hy1, hy2, hy3, hy4, hy5⟩ := hrel
                have m1 := wd_le y.now
                have m2 := wd_le r
                go_wp2_with fail
                refine Sq.start TP5 [.p 0 (some 96), .p 1 (some 97), .p 2 (some 98), .p 5 (some 101), .p 8 (some 104), .p 9 (some 105), .p 10 (some 106), .r 3 (some 99), .r 11 (some 107), .h 4 (some 100), .h 6 (some 102), .p 7 (some 103), .p 12 (some 108)] [] (fun w' => w'.cell? ⟨g, 1, none⟩ = some (.string y.now) ∧ w'.cell? ⟨g, 4, none⟩ = some (.int .i64 y.most)) (by kernel_rfl) TP5_eq (by kernel_rfl) ⟨lies_cell1 hA4.out.lies, lies_cell4 hA4.out.lies⟩ (fun hHeld => ?_)
                iterate 7 (apply Sq.step_p; rfl; rfl; exact fun _ _ _ h => h; refine Or.inl ⟨by rfl, ?_⟩; intro w'; go_simp; with_reducible rfl; simp only [Act.put, List.setIfInBounds_toArray, List.set_cons_zero, List.set_cons_succ, i64_w, i32_w]; rfl)
                iterate 2 (apply Sq.step_r; rfl; rfl; exact fun _ _ _ h => h; exact hHeld; refine Or.inl ⟨by rfl, ?_⟩; rintro w' ⟨s0, s1⟩; go_simp; with_reducible rfl; simp only [Act.put, List.setIfInBounds_toArray, List.set_cons_zero, List.set_cons_succ, i64_w, i32_w]; rfl)
                refine Sq.step_h rfl rfl (fun K hK => ?_)
                refine goes_ Tryd.func131 (by kernel_rfl) rfl #[.string y.now] (by rfl) rfl rfl (by simp only [List.map_toArray, List.map_cons, List.map_nil]; rfl) ?_
                with_reducible refine (width_any y.now _ hy2).mono ?_
                rintro e w11 ⟨rfl, hb11⟩
                refine ⟨_, rfl, ?_⟩
                refine hK.out _ _ ⟨pw_cell_below hb11 hHeld.1, pw_cell_below hb11 hHeld.2⟩ (fun hHeld => ?_)
                clear hK K
                refine Sq.norm (a' := ?_) ?_ ?_
                rotate_left
                · show Act.put _ (some 100) _ = _
                  simp only [Act.put, List.setIfInBounds_toArray, List.set_cons_zero, List.set_cons_succ, i64_w, i32_w]
                  rfl
                refine Sq.step_h rfl rfl (fun K hK => ?_)
                refine goes_ Tryd.func131 (by kernel_rfl) rfl #[.string r] (by rfl) rfl rfl (by simp only [List.map_toArray, List.map_cons, List.map_nil]; rfl) ?_
                with_reducible refine (width_any r _ (by omega)).mono ?_
                rintro e w12 ⟨rfl, hb12⟩
                refine ⟨_, rfl, ?_⟩
                refine hK.out _ _ ⟨pw_cell_below hb12 hHeld.1, pw_cell_below hb12 hHeld.2⟩ (fun hHeld => ?_)
                clear hK K
                refine Sq.norm (a' := ?_) ?_ ?_
                rotate_left
                · show Act.put _ (some 102) _ = _
                  simp only [Act.put, List.setIfInBounds_toArray, List.set_cons_zero, List.set_cons_succ, i64_w, i32_w]
                  rfl
                iterate 2 (apply Sq.step_p; rfl; rfl; exact fun _ _ _ h => h; refine Or.inl ⟨by rfl, ?_⟩; intro w'; go_simp; with_reducible rfl; simp only [Act.put, List.setIfInBounds_toArray, List.set_cons_zero, List.set_cons_succ, i64_w, i32_w]; rfl)
                refine Sq.done ?_

                rw [show wrap64 ((wd y.now : Int) + (wd r : Int)) = (wd y.now : Int) + (wd r : Int) from by unfold wrap64; omega]
                have hA5 : Aside0 (At y B g (.slice A x.lines.length c) v' w w12) := ⟨(hA4.out.drew_.then_ (hA4.out.size_ hB) hb11).then_ ((hA4.out.drew_.then_ (hA4.out.size_ hB) hb11).size_ hB) hb12⟩
                clear hb11 hb12
                by_cases hbig : (wd y.now : Int) + (wd r : Int) > y.most
                · have tb : decide ((wd y.now : Int) + (wd r : Int) > y.most) = true := decide_eq_true hbig
                  have hmx : Aside0 ((if (1 : Int) < wrap64 (y.most - (wd y.now : Int)) then wrap64 (y.most - (wd y.now : Int)) else 1) = ((max (1 : Int) (y.most - (wd y.now : Int))).toNat : Nat)) := ⟨by
                    rw [show wrap64 (y.most - (wd y.now : Int)) = y.most - (wd y.now : Int) from by unfold wrap64; omega]
                    split <;> omega⟩
                  have hcl := cutN_le (max (1 : Int) (y.most - (wd y.now : Int))).toNat r.data.toList
                  rw [← size_len] at hcl
                  have hcw : Aside0 (cutN (max (1 : Int) (y.most - (wd y.now : Int))).toNat r.data.toList = cutW y r) := ⟨rfl⟩
                  go_wp2_with fail
                  refine Sq.start TP6 [.p 0 (some 110), .p 1 (some 111), .p 2 (some 112), .p 3 (some 113), .p 5 (some 115), .p 6 (some 116), .p 7 (some 117), .r 4 (some 114), .r 8 (some 118), .h 9 (some 119), .p 10 (some 120), .p 11 (some 121), .h 12 (some 122), .p 13 (some 109), .p 14 (some 123), .p 15 (some 124), .p 16 (some 5), .p 17 (some 6)] [] (fun w' => w'.cell? ⟨g, 1, none⟩ = some (.string y.now) ∧ w'.cell? ⟨g, 4, none⟩ = some (.int .i64 y.most)) (by kernel_rfl) TP6_eq (by kernel_rfl) ⟨lies_cell1 hA5.out.lies, lies_cell4 hA5.out.lies⟩ (fun hHeld => ?_)
                  iterate 7 (apply Sq.step_p; rfl; rfl; exact fun _ _ _ h => h; refine Or.inl ⟨by rfl, ?_⟩; intro w'; go_simp; with_reducible rfl; simp only [Act.put, List.setIfInBounds_toArray, List.set_cons_zero, List.set_cons_succ, i64_w, i32_w]; rfl)
                  iterate 2 (apply Sq.step_r; rfl; rfl; exact fun _ _ _ h => h; exact hHeld; refine Or.inl ⟨by rfl, ?_⟩; rintro w' ⟨s0, s1⟩; go_simp; with_reducible rfl; simp only [Act.put, List.setIfInBounds_toArray, List.set_cons_zero, List.set_cons_succ, i64_w, i32_w]; rfl)
                  refine Sq.step_h rfl rfl (fun K hK => ?_)
                  refine goes_ Tryd.func131 (by kernel_rfl) rfl #[.string y.now] (by rfl) rfl rfl (by simp only [List.map_toArray, List.map_cons, List.map_nil]; rfl) ?_
                  with_reducible refine (width_any y.now _ hy2).mono ?_
                  rintro e w13 ⟨rfl, hb13⟩
                  refine ⟨_, rfl, ?_⟩
                  refine hK.out _ _ ⟨pw_cell_below hb13 hHeld.1, pw_cell_below hb13 hHeld.2⟩ (fun hHeld => ?_)
                  clear hK K
                  refine Sq.norm (a' := ?_) ?_ ?_
                  rotate_left
                  · show Act.put _ (some 119) _ = _
                    simp only [Act.put, List.setIfInBounds_toArray, List.set_cons_zero, List.set_cons_succ, i64_w, i32_w]
                    rfl
                  iterate 2 (apply Sq.step_p; rfl; rfl; exact fun _ _ _ h => h; refine Or.inl ⟨by rfl, ?_⟩; intro w'; go_simp; with_reducible rfl; simp only [Act.put, List.setIfInBounds_toArray, List.set_cons_zero, List.set_cons_succ, i64_w, i32_w]; rfl)
                  refine Sq.step_h rfl rfl (fun K hK => ?_)
                  refine goes_ Tryd.func133 (by kernel_rfl) rfl #[.string r, .int .i64 (if (1 : Int) < wrap64 (y.most - (wd y.now : Int)) then wrap64 (y.most - (wd y.now : Int)) else 1)] (by rfl) rfl rfl (by simp only [List.map_toArray, List.map_cons, List.map_nil]; rfl) ?_
                  rw [hmx.out]
                  with_reducible refine (cut_any r _ _ (by omega) (by omega)).mono ?_
                  rintro e w14 ⟨rfl, hb14⟩
                  refine ⟨_, rfl, ?_⟩
                  refine hK.out _ _ ⟨pw_cell_below hb14 hHeld.1, pw_cell_below hb14 hHeld.2⟩ (fun hHeld => ?_)
                  clear hK K
                  refine Sq.norm (a' := ?_) ?_ ?_
                  rotate_left
                  · show Act.put _ (some 122) _ = _
                    simp only [Act.put, List.setIfInBounds_toArray, List.set_cons_zero, List.set_cons_succ, i64_w, i32_w]
                    rfl
                  iterate 5 (apply Sq.step_p; rfl; rfl; exact fun _ _ _ h => h; refine Or.inl ⟨by rfl, ?_⟩; intro w'; go_simp; with_reducible rfl; simp only [Act.put, List.setIfInBounds_toArray, List.set_cons_zero, List.set_cons_succ, i64_w, i32_w]; rfl)
                  refine Sq.done ?_

                  rw [hcw.out]
                  rw [hcw.out] at hcl
                  have hA6 : Aside0 (At y B g (.slice A x.lines.length c) v' w w14) := ⟨(hA5.out.drew_.then_ (hA5.out.size_ hB) hb13).then_ ((hA5.out.drew_.then_ (hA5.out.size_ hB) hb13).size_ hB) hb14⟩
                  clear hb13 hb14 hmx
                  by_cases hce : cutW y r = r.size
                  · have k2 : (r.extract (cutW y r) r.size).toList = [] := toL_nil (by rw [ByteArray.size_extract]; omega)
                    have k1 : ((r.extract (cutW y r) r.size).toList.isEmpty) = true := by rw [k2]; rfl
                    have hL2 : Aside0 ((x.start s).loop (s.size + 1) s = (y, r)) := ⟨by
                      rw [← hL.out]
                      cases f with
                      | zero => omega
                      | succ f => rw [Wr.loop, if_pos hbig, if_pos hce]⟩
                    have hce' := Aside0.mk hce
                    clear hce
                    have q1 := lies_cell1 hA6.out.lies
                    have q2 := lies_free hA6.out.lies 1
                    have q3 := lies_cell5 (hA6.out.now_ (y.now ++ r)).lies
                    have q4 := lies_free (hA6.out.now_ (y.now ++ r)).lies 5
                    have hput : Aside0 (x.put s = { y with now := y.now ++ r, empty := false }) := ⟨by unfold Wr.put; rw [hf'.out, hL2.out]; rfl⟩
                    go_wp2_with fail
                    go_end0
                    refine ⟨rfl, v', ?_⟩
                    rw [hput.out]
                    exact (hA6.out.now_ (y.now ++ r)).empty_ false
                  · have k0 : cutW y r < r.size := by omega
                    have k1 : ((r.extract (cutW y r) r.size).toList.isEmpty) = false := toL_ne (by rw [ByteArray.size_extract]; omega)
                    have hne : r.data.toList ≠ [] := by
                      intro h0
                      have h5 : r.size = 0 := by rw [size_len, h0]; rfl
                      omega
                    have hpos : 1 ≤ cutW y r := by
                      unfold cutW
                      obtain ⟨j, hj⟩ : ∃ j, (max (1 : Int) (y.most - (wd y.now : Int))).toNat = j + 1 := ⟨(max (1 : Int) (y.most - (wd y.now : Int))).toNat - 1, by omega⟩
                      rw [hj]
                      exact cutN_pos j _ hne
                    have hne' := Aside0.mk hne
                    clear hne
                    have z1 : (r.extract 0 (cutW y r)).size = cutW y r := by rw [ByteArray.size_extract]; omega
                    have z2 : (r.extract (cutW y r) r.size).size = r.size - cutW y r := by rw [ByteArray.size_extract]; omega
                    have z1' := Aside0.mk z1
                    have z2' := Aside0.mk z2
                    have z3 : (r.extract 0 (cutW y r)).size ≤ 140737488351232 := by omega
                    clear z1 z2
                    have q1 := lies_cell1 hA6.out.lies
                    have q2 := lies_free hA6.out.lies 1
                    go_wp2_with fail
                    have hB6 := (hA6.out.now_ (y.now ++ r.extract 0 (cutW y r))).size_ hB
                    refine (end_any { y with now := y.now ++ r.extract 0 (cutW y r) } B g v' _ (hA6.out.now_ (y.now ++ r.extract 0 (cutW y r))).lies hB6 (by show y.lines.length ≤ _; omega)).mono ?_
                    rintro e w15 ⟨rfl, v15, hl15, hb15, hf15⟩
                    have hA7 := Aside0.mk ((hA6.out.now_ (y.now ++ r.extract 0 (cutW y r))).end_ hl15 hb15 hf15)
                    clear hl15 hb15 hf15
                    go_wp2_with fail
                    go_roundw
                    case rel =>
                      obtain ⟨f, rfl⟩ : ∃ j, f = j + 1 := ⟨f - 1, by omega⟩
                      refine ⟨_, _, v15, f, rfl, hA7, by rw [z2'.out]; omega, by rw [z2'.out]; omega, ⟨?_⟩, ?_, hy3, hy3, hy4, hy5⟩
                      · rw [← hL.out, Wr.loop, if_pos hbig, if_neg hce]
                      · rw [z2'.out]
                        simp only [Wr.fin, List.length_append, List.length_cons, List.length_nil]
                        omega
                    case measure =>
                      simp only [slen]
                      rw [z2'.out]
                      omega
                · have tb : decide ((wd y.now : Int) + (wd r : Int) > y.most) = false := decide_eq_false hbig
                  have hL2 : Aside0 ((x.start s).loop (s.size + 1) s = (y, r)) := ⟨by
                    rw [← hL.out]
                    cases f with
                    | zero => omega
                    | succ f => rw [Wr.loop, if_neg hbig]⟩
                  have q1 := lies_cell1 hA5.out.lies
                  have q2 := lies_free hA5.out.lies 1
                  have q3 := lies_cell5 (hA5.out.now_ (y.now ++ r)).lies
                  have q4 := lies_free (hA5.out.now_ (y.now ++ r)).lies 5
                  have hput : Aside0 (x.put s = { y with now := y.now ++ r, empty := false }) := ⟨by unfold Wr.put; rw [hf'.out, hL2.out]; rfl⟩
                  go_wp2_with fail
                  go_end0
                  refine ⟨rfl, v', ?_⟩
                  rw [hput.out]
                  exact (hA5.out.now_ (y.now ++ r)).empty_ false

    · replace hA := hA1
      have hput : Aside0 (x.put s = { x with now := x.now ++ (sp ++ s) }) := ⟨by unfold Wr.put; rw [hf]; rfl⟩
      have e1 := lies_cell1 hA.out.lies
      have e2 := lies_free hA.out.lies 1
      go_wp2_with fail
      refine bodyPost_ret (v := .tuple #[]) (by simp [results, Tryd.results98, go_sem]) rfl ⟨rfl, .slice A x.lines.length c, ?_⟩
      rw [hput.out]
      exact hA.out.now_ _
end Go.Proofs.YthdalpminhbckaaDoor.G
