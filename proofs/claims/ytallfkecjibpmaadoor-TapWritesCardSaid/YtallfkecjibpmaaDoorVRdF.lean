/- Of this claim's texts (RdF): the declarations that the claim reaches (slimclaim.py). -/
import Derived.Test.YtallfkecjibpmaaDoorVRdE
import Derived.Test.YtallfkecjibpmaaDoorVSeq
set_option linter.unusedVariables false
set_option linter.unusedSimpArgs false
namespace Go.Proofs.YtallfkecjibpmaaDoor.G
open Go.RowKit Go.Proofs.YtallfkecjibpmaaDoorW.PrintWords Go.Proofs.YtallfkecjibpmaaDoorW.PrintMore Go.Proofs.YtallfkecjibpmaaDoorW.PrintLast Go.Proofs.YtallfkecjibpmaaDoor.Nm Go.Lib Go.Proofs.YtallfkecjibpmaaDoor.Rd
def nextV : Value := .func (.func 84) #[] #[]
def _root_.Go.Proofs.YtallfkecjibpmaaDoor.Rd.Pr.nx (p : Pr) (s : Bs) : Pr := if bailS s = true then p.bail else p.step s
def nxR (s : Bs) : Value := if bailS s = true then .nilFunc else nextV
def NX (base g : Nat) (p : Pr) (s : Bs) (w0 w : World) (e : Ending) (w' : World) : Prop := e = .returned (nxR s) ∧ ∃ v', PL base g (p.nx s) v' w' ∧ FrL base g w w' ∧ Below w0.heap.size w0 w'
theorem bail_two (s : ByteArray) : (bailS s.data.toList = true → (s.toList == [66, 97, 105, 108, 32, 111, 117, 116, 33]) = true ∨ (s.toList == [66, 97, 105, 108, 32, 111, 117, 116, 33]) = false ∧ Lib.hasPrefix s.data.toList (bailW ++ [32]) = true) ∧
    (¬ bailS s.data.toList = true → (s.toList == [66, 97, 105, 108, 32, 111, 117, 116, 33]) = false ∧ Lib.hasPrefix s.data.toList (bailW ++ [32]) = false) := by
  rw [beq_toL]
  unfold bailS
  show (((s.data.toList == bailW) || _) = true → (s.data.toList == bailW) = true ∨ (s.data.toList == bailW) = false ∧ _) ∧ (¬ (((s.data.toList == bailW) || _) = true) → (s.data.toList == bailW) = false ∧ _)
  cases (s.data.toList == bailW) <;> cases Lib.hasPrefix s.data.toList (bailW ++ [32]) <;> simp
set_option maxHeartbeats 8000000 in
set_option maxRecDepth 100000 in
theorem next_bail (p : Pr) (s : ByteArray) (g base : Nat) (v : Value) (w0 w : World) (hbw : Below w0.heap.size w0 w) (hB : w0.heap.size ≤ g) (hgb : g < base) (hP : PL base g p v w) (hs : bailS s.data.toList = true) :
    Calls Tryd.prog 84 #[.pointer (some ⟨g, 0, none⟩), .string s] w (NX base g p s.data.toList w0 w) := by
  have hfin : Aside0 (NX base g p s.data.toList w0 w (.returned .nilFunc) (w.setCell ⟨g, 4, none⟩ (.bool true))) := ⟨by
    refine ⟨by unfold nxR; rw [if_pos hs], v, ?_, FrL.set _ _ _ _ _, below_set hbw hB _ _⟩
    unfold Rd.Pr.nx
    rw [if_pos hs]
    exact hP.set hgb 4 (.bool true) rfl rfl⟩
  obtain ⟨c0, c1, c2, c3, c4, c5, c6⟩ := pr_cells hP.1
  have f4 := frozen_of hP.1 4
  have hh := Aside0.mk (fun W => hp_any s ⟨#[66, 97, 105, 108, 32, 111, 117, 116, 33, 32]⟩ W)
  rw [show (⟨#[66, 97, 105, 108, 32, 111, 117, 116, 33, 32]⟩ : ByteArray).data.toList = bailW ++ [32] from rfl] at hh
  have h2 := (bail_two s).1 hs
  generalize NX base g p s.data.toList w0 w = Q at *
  clear hs hP hbw
  rcases h2 with h2 | ⟨h2, h3⟩
  · clear hh
    go_enter Tryd.func84, Tryd.ntmps84
    go_wp2_with fail
    exact hfin.out
  · rw [h3] at hh
    clear h3
    go_enter Tryd.func84, Tryd.ntmps84
    go_wp2_with (go_at_call 97; refine (hh.out _).mono ?_; rintro e w1 ⟨rfl, rfl⟩)
    exact hfin.out
theorem wrap_inc (n : Nat) (h : n ≤ 1000000000) : wrap64 ((n : Int) + 1) = ((n + 1 : Nat) : Int) := by unfold wrap64; omega
set_option maxHeartbeats 8000000 in
set_option maxRecDepth 100000 in
theorem next_plan (p : Pr) (s : ByteArray) (g base : Nat) (v : Value) (w0 w : World) (n : Int) (k : Bool) (hbw : Below w0.heap.size w0 w) (hB : w0.heap.size ≤ g) (hgb : g < base) (hbs : base ≤ w.heap.size) (hP : PL base g p v w) (hpl : p.plans ≤ 1000000000) (hs : ¬ bailS s.data.toList = true) (hn : planP s.data.toList = some (n, k)) :
    Calls Tryd.prog 84 #[.pointer (some ⟨g, 0, none⟩), .string s] w (NX base g p s.data.toList w0 w) := by
  have hfin : Aside0 (∀ w1, Below w.heap.size w w1 → NX base g p s.data.toList w0 w (.returned nextV) ((((w1.setCell ⟨g, 2, none⟩ (.int .i64 ((p.plans + 1 : Nat) : Int))).setCell ⟨g, 1, none⟩ (.int .i64 n)).setCell ⟨g, 3, none⟩ (.bool k)).setCell ⟨g, 5, none⟩ (.bool (decide (0 < p.ts.length))))) := ⟨fun w1 hb => by
    refine ⟨by unfold nxR; rw [if_neg hs], v, ?_, ?_, ?_⟩
    · unfold Rd.Pr.nx Pr.step
      rw [if_neg hs, hn]
      have h1 := hP.below hb
      refine ⟨?_, ?_⟩
      · exact blk_set (blk_set (blk_set (blk_set h1.1 2 _) 1 _) 3 _) 5 _
      · exact ownsRow_setCell_below (ownsRow_setCell_below (ownsRow_setCell_below (ownsRow_setCell_below h1.2 (a := ⟨g, 2, none⟩) hgb _) (a := ⟨g, 1, none⟩) hgb _) (a := ⟨g, 3, none⟩) hgb _) (a := ⟨g, 5, none⟩) hgb _
    · exact ((((FrL.of_below hbs hb).trans (FrL.set _ _ _ _ _)).trans (FrL.set _ _ _ _ _)).trans (FrL.set _ _ _ _ _)).trans (FrL.set _ _ _ _ _)
    · exact below_set (below_set (below_set (below_set (hbw.trans (hb.mono hbw.size)) hB _ _) hB _ _) hB _ _) hB _ _⟩
  have hf0 := fun W (hb : Below w.heap.size w W) => pr_cells (hP.below hb).1
  have hf1 := fun W (hb : Below w.heap.size w W) => frozen_of (hP.below hb).1
  have hf0A := Aside0.mk hf0
  have hf1A := Aside0.mk hf1
  clear hf0 hf1
  obtain ⟨A, c, rfl⟩ := own_slice hP.2
  have hh := Aside0.mk (fun W => hp_any s ⟨#[66, 97, 105, 108, 32, 111, 117, 116, 33, 32]⟩ W)
  rw [show (⟨#[66, 97, 105, 108, 32, 111, 117, 116, 33, 32]⟩ : ByteArray).data.toList = bailW ++ [32] from rfl] at hh
  obtain ⟨h2, h3⟩ := (bail_two s).2 hs
  rw [h3] at hh
  have hpc : Aside0 (∀ W, Calls Tryd.prog 98 #[.string s] W fun e w' => e = .returned (.tuple #[.int .i64 n, .bool k, .bool true]) ∧ Below W.heap.size W w') := ⟨fun W => (plan_any s W).mono fun e w' ⟨a, b, d, h4, h5, h6⟩ => by
    rw [hn] at h6
    obtain ⟨r1, r2, r3⟩ := h6
    rw [h4, r1, r2, r3]
    exact ⟨rfl, h5⟩⟩
  have hwi := Aside0.mk (wrap_inc p.plans hpl)
  have hlen : Aside0 (decide ((0 : Int) < (p.ts.length : Int)) = decide (0 < p.ts.length)) := ⟨decide_eq_decide.2 (by omega)⟩
  generalize NX base g p s.data.toList w0 w = Q at *
  generalize p.ts.length = L at *
  clear h3 hs hP hbw hn hpl
  go_enter Tryd.func84, Tryd.ntmps84
  go_wp2_with (first | (go_at_call 97; refine (hh.out _).mono ?_; rintro e w1 ⟨rfl, rfl⟩) | (go_at_call 98; refine (hpc.out _).mono ?_; rintro e w2 ⟨rfl, hb2⟩; have hb2A := Aside0.mk hb2; have hC := hf0A.out _ hb2; obtain ⟨c0, c1, c2, c3, c4, c5, c6⟩ := hC; have f1 := hf1A.out _ hb2; clear hb2))
  have h4 := hfin.out _ hb2A.out
  rw [hwi.out]
  exact h4
def TN12 : Bool × List (Nat × Nat) := (true, [(0, 0), (0, 0), (2, 2), (4, 4), (8, 8), (0, 0), (32, 32), (80, 80), (255, 1), (511, 256), (767, 640)])
theorem TN12_eq : Sq.tabM .any (opsOf Tryd.f84 12) = TN12 := by kernel_rfl
theorem infoLine : (Tryd.prog.info? 97).map (fun i => (i.zero, i.size, i.bytes)) = some (some (.agg #[.bool false, .string ⟨#[]⟩, .int .i64 0, .string ⟨#[]⟩, .int .i64 0]), 5, 56) := by kernel_rfl
theorem lineB_one (t : Tst) : ∀ u ∈ lineB t, u.oneCell' = true := by
  intro u hu
  simp only [lineB, List.mem_cons, List.not_mem_nil, or_false] at hu
  rcases hu with rfl | rfl | rfl | rfl | rfl <;> rfl
set_option maxHeartbeats 8000000 in
set_option maxRecDepth 100000 in
theorem next_test (p : Pr) (s : ByteArray) (g base : Nat) (v : Value) (w0 w : World) (t : Tst) (hL : LaidW w0) (hbw : Below w0.heap.size w0 w) (hB : w0.heap.size ≤ g) (hgb : g < base) (hbs : base ≤ w.heap.size) (hP : PL base g p v w) (hts : p.ts.length ≤ 1000000000) (hz : s.size ≤ 65536) (hs : ¬ bailS s.data.toList = true) (hn : planP s.data.toList = none) (ht : testP s.data.toList = some t) :
    Calls Tryd.prog 84 #[.pointer (some ⟨g, 0, none⟩), .string s] w (NX base g p s.data.toList w0 w) := by
  obtain ⟨i0, hi0, hz0, hz1, hz2⟩ := info_parts infoLine
  obtain ⟨A, c, rfl⟩ := own_slice hP.2
  have hh := Aside0.mk (fun W => hp_any s ⟨#[66, 97, 105, 108, 32, 111, 117, 116, 33, 32]⟩ W)
  rw [show (⟨#[66, 97, 105, 108, 32, 111, 117, 116, 33, 32]⟩ : ByteArray).data.toList = bailW ++ [32] from rfl] at hh
  obtain ⟨h2, h3⟩ := (bail_two s).2 hs
  rw [h3] at hh
  have hpc : Aside0 (∀ W, Calls Tryd.prog 98 #[.string s] W fun e w' => ∃ n k, e = .returned (.tuple #[.int .i64 n, .bool k, .bool false]) ∧ Below W.heap.size W w') := ⟨fun W => (plan_any s W).mono fun e w' ⟨a, b, d, h4, h5, h6⟩ => by
    rw [hn] at h6
    exact ⟨a, b, by rw [h4, h6], h5⟩⟩
  have htc : Aside0 (∀ W, LaidW W → Calls Tryd.prog 99 #[.string s] W fun e w' => e = .returned (.tuple #[.agg #[.bool t.ok, .string (mkD t.name), .int .i64 t.dir, .string (mkD t.reason), .int .i64 t.num], .bool true]) ∧ Below W.heap.size W w') := ⟨fun W hLW => (test_any s W hLW hz).mono fun e w' ⟨o, n, d, y, z, ob, h4, h5, h6⟩ => by
    rw [ht] at h6
    obtain ⟨r1, r2, r3, r4, r5, r6⟩ := h6
    rw [h4, r1, r2, r3, r4, r5, r6]
    exact ⟨rfl, h5⟩⟩
  have hnx : p.nx s.data.toList = ⟨p.ts ++ [t], p.plan, p.plans, p.skips, p.bailed, p.late, p.behind || p.late⟩ := by
    unfold Rd.Pr.nx Pr.step
    rw [if_neg hs, hn, ht]
  have hfin : Aside0 (∀ v' w', PL base g ⟨p.ts ++ [t], p.plan, p.plans, p.skips, p.bailed, p.late, p.behind || p.late⟩ v' w' → FrL base g w w' → Below w0.heap.size w0 w' → NX base g p s.data.toList w0 w (.returned nextV) w') := ⟨fun v' w' h4 h5 h6 => ⟨by unfold nxR; rw [if_neg hs], v', by rw [hnx]; exact h4, h5, h6⟩⟩
  have hlen : Aside0 (p.ts.length + 1 ≤ maxLen ∧ (p.ts.length + 1) * 56 ≤ 140737488355328) := ⟨by unfold maxLen; omega⟩
  have hPA := Aside0.mk hP
  have hbwA := Aside0.mk hbw
  have hLW : Aside0 (∀ W, Below w.heap.size w W → LaidW W) := ⟨fun W hb => LaidW.below hL (hbw.trans (hb.mono hbw.size))⟩
  generalize NX base g p s.data.toList w0 w = Q at *
  clear h3 hs hP hbw hn ht hnx hts
  go_enter Tryd.func84, Tryd.ntmps84
  go_upto_if 55 with (first | (go_at_call 97; refine (hh.out _).mono ?_; rintro e wz ⟨rfl, hwz⟩; rw [hwz]; clear hwz wz) | (go_at_call 98; refine (hpc.out _).mono ?_; rintro e w2 ⟨n, k, rfl, hb2⟩; have hb2A := Aside0.mk hb2; clear hb2) | (go_at_call 99; refine (htc.out _ (hLW.out _ hb2A.out)).mono ?_; rintro e w1 ⟨rfl, hb3⟩; have hb3A := Aside0.mk hb3; clear hb3))
  have hb1A : Aside0 (Below w.heap.size w w1) := ⟨hb2A.out.trans (hb3A.out.mono hb2A.out.size)⟩
  have hl5 := Aside0.mk (heap_alloc_new w1 (.cells #[.bool t.ok, .string (mkD t.name), .int .i64 t.dir, .string (mkD t.reason), .int .i64 t.num] 97))
  have hb5A : Aside0 (Below w.heap.size w (w1.alloc (.cells #[.bool t.ok, .string (mkD t.name), .int .i64 t.dir, .string (mkD t.reason), .int .i64 t.num] 97))) := ⟨hb1A.out.alloc hb1A.out.size _⟩
  have hsz1 := Aside0.mk hb1A.out.size
  clear hh hpc htc hLW h2 hb2A hb3A
  generalize w1.alloc (.cells #[.bool t.ok, .string (mkD t.name), .int .i64 t.dir, .string (mkD t.reason), .int .i64 t.num] 97) = w5 at *
  have hP5 := Aside0.mk (hPA.out.below hb5A.out)
  obtain ⟨c0, c1, c2, c3, c4, c5, c6⟩ := pr_cells hP5.out.1
  have f1 := frozen_of hP5.out.1
  obtain ⟨bb, hbb⟩ : ∃ bb, (p.behind || p.late) = bb := ⟨_, rfl⟩
  rw [hbb] at hfin
  go_cut [8] (fun v8 wx => v8 = .pointer (some ⟨w1.heap.size, 0, none⟩) ∧ ∃ v', Aside0 (PL base g ⟨p.ts ++ [t], p.plan, p.plans, p.skips, p.bailed, p.late, bb⟩ v' wx ∧ FrL base g w wx ∧ Below w0.heap.size w0 wx))
  case first =>
    go_upto_region 11 with fail
    go_cut [8] (fun v8 wx => v8 = .pointer (some ⟨w1.heap.size, 0, none⟩) ∧ Aside0 (wx = w5.setCell ⟨g, 6, none⟩ (.bool bb)))
    case first =>
      have hbbA := Aside0.mk hbb
      clear hbb
      cases hpb : p.behind
      · rw [hpb] at c6
        have e1 : Aside0 (bb = p.late) := ⟨by rw [← hbbA.out, hpb]; rfl⟩
        clear hpb
        go_wp2_with fail
        go_meet
        case rel => exact ⟨rfl, ⟨by rw [e1.out]⟩⟩
      · rw [hpb] at c6
        have e1 : Aside0 (bb = true) := ⟨by rw [← hbbA.out, hpb]; rfl⟩
        clear hpb
        go_wp2_with fail
        go_meet
        case rel => exact ⟨rfl, ⟨by rw [e1.out]⟩⟩
    case rest =>
      obtain ⟨rfl, h7⟩ := hcut
      obtain ⟨w7, rfl⟩ : ∃ w7 : World, w7 = wc := ⟨_, rfl⟩
      clear c0 c1 c2 c3 c4 c5 c6 f1
      have hne1 : Aside0 (w1.heap.size ≠ g) := ⟨by have h1 := hsz1.out; have h2 := (Array.getElem?_eq_some_iff.1 hPA.out.1).1; omega⟩
      have hP7 : Aside0 (PL base g ⟨p.ts, p.plan, p.plans, p.skips, p.bailed, p.late, bb⟩ (.slice A p.ts.length c) w7) := ⟨by rw [h7.out]; exact hP5.out.set hgb 6 (.bool bb) rfl rfl⟩
      have hl7 : Aside0 (w7.heap[w1.heap.size]? = some (.cells #[.bool t.ok, .string (mkD t.name), .int .i64 t.dir, .string (mkD t.reason), .int .i64 t.num] 97 (0, 0))) := ⟨by rw [h7.out]; exact (Below.heap_setCell _ _ _ _ hne1.out).trans hl5.out⟩
      have hfr7 : Aside0 (FrL base g w w7) := ⟨by rw [h7.out]; exact (FrL.of_below hbs hb5A.out).trans (FrL.set _ _ _ _ _)⟩
      have hbl7 : Aside0 (Below w0.heap.size w0 w7) := ⟨by rw [h7.out]; exact below_set (hbwA.out.trans (hb5A.out.mono hbwA.out.size)) hB _ _⟩
      have hsz7 : Aside0 (base ≤ w7.heap.size) := ⟨Nat.le_trans hbs hfr7.out.1⟩
      have hO7 := Aside0.mk hP7.out.2
      obtain ⟨l0, l1, l2, l3, l4⟩ := line_cells hl7.out
      have q0 := (pr_cells hP7.out.1).1
      have f0 := frozen_of hP7.out.1 0
      clear hb5A hb1A hP5 hl5 h7
      go_upto_region 12 with fail
      refine Sq.start TN12 [.p 0 (some 69), .p 1 (some 70), .p 2 (some 71), .p 3 (some 72), .r 4 (some 73), .r 5 (some 74), .h 6 (some 75), .z 7 (some 76), .p 8 (some 77), .p 9 (some 78), .z 10 none] [7, 10] (fun w' => w'.cell? ⟨g, 0, none⟩ = some (.slice A p.ts.length c) ∧ w'.cell? ⟨w1.heap.size, 0, none⟩ = some (.bool t.ok) ∧ w'.cell? ⟨w1.heap.size, 1, none⟩ = some (.string (mkD t.name)) ∧ w'.cell? ⟨w1.heap.size, 2, none⟩ = some (.int .i64 t.dir) ∧ w'.cell? ⟨w1.heap.size, 3, none⟩ = some (.string (mkD t.reason)) ∧ w'.cell? ⟨w1.heap.size, 4, none⟩ = some (.int .i64 t.num)) (by kernel_rfl) TN12_eq (by kernel_rfl) ⟨q0, l0, l1, l2, l3, l4⟩ (fun hHeld => ?_)
      iterate 4 (apply Sq.step_p; rfl; rfl; exact fun _ _ _ h => h; refine Or.inl ⟨by rfl, ?_⟩; intro w'; go_simp; with_reducible rfl; simp only [Act.put, List.setIfInBounds_toArray, List.set_cons_zero, List.set_cons_succ, i64_w, i32_w]; rfl)
      iterate 2 (apply Sq.step_r; rfl; rfl; exact fun _ _ _ h => h; exact hHeld; refine Or.inl ⟨by rfl, ?_⟩; rintro w' ⟨s0, s1, s2, s3, s4, s5⟩; go_simp; with_reducible rfl; simp only [Act.put, List.setIfInBounds_toArray, List.set_cons_zero, List.set_cons_succ, i64_w, i32_w]; rfl)
      refine Sq.step_h rfl rfl (fun K hK => ?_)
      go_simp
      refine hK.out _ _ ⟨pw_cell_below ((Below.refl _ _).alloc (Nat.le_refl _) _) hHeld.1, pw_cell_below ((Below.refl _ _).alloc (Nat.le_refl _) _) hHeld.2.1, pw_cell_below ((Below.refl _ _).alloc (Nat.le_refl _) _) hHeld.2.2.1, pw_cell_below ((Below.refl _ _).alloc (Nat.le_refl _) _) hHeld.2.2.2.1, pw_cell_below ((Below.refl _ _).alloc (Nat.le_refl _) _) hHeld.2.2.2.2.1, pw_cell_below ((Below.refl _ _).alloc (Nat.le_refl _) _) hHeld.2.2.2.2.2⟩ (fun hHeld => ?_)
      clear hK K
      refine Sq.step_z rfl rfl (fun K hK => ?_)
      refine step_append_lies _ (by rfl) _ _ _ (by rfl) base 97 i0 _ 5 56 Tryd.underlying93 hi0 hz0 hz1 hz2 rfl (by omega) (.slice A p.ts.length c) p.ts.length (flatT p.ts) (by rfl) (hO7.out.alloc _) ⟨w7.heap.size, 0, none⟩ 1 1 (lineB t) (by rfl) (by rfl) (World.news_of_block (cs := (lineB t).toArray) (t := 97) (fr := (0, 0)) (heap_alloc_new w7 _)) (lineB_one t) (by omega) hlen.out.1 hlen.out.2 (by have := hsz7.out; simp; omega) (w7.heap.size + 1) (by simp) ?_
      intro gg cap w6 hown6 hgrow6 hat6 hlt6
      have hrow : ∀ k, (Value.slice A p.ts.length c).ownBlock = some k → base ≤ k := fun k hk => (hO7.out.lt k hk).1
      have hP6 : Aside0 (w6.heap[g]? = some (.cells (prV ⟨p.ts, p.plan, p.plans, p.skips, p.bailed, p.late, bb⟩ (.slice A p.ts.length c)) 95 (0, 0))) := ⟨by
        have hg7 := (Array.getElem?_eq_some_iff.1 hP7.out.1).1
        rw [hgrow6.block g (by simp; omega) (fun h => by have := hrow g h.symm; omega)]
        exact (Lib.alloc_old w7 _ g hg7).trans hP7.out.1⟩
      have hfr6 : Aside0 (FrL base g w w6) := ⟨hfr7.out.trans ⟨by have := hgrow6.size; simp at this; omega, fun k hk hkg => by
        rw [hgrow6.block k (by have := hsz7.out; simp; omega) (fun h => by have := hrow k h.symm; omega)]
        exact Lib.alloc_old w7 _ k (by have := hsz7.out; omega)⟩⟩
      have hbl6 : Aside0 (Below w0.heap.size w0 w6) := ⟨Below.grown (pw_below_drewN (hbl7.out.alloc hbl7.out.size _) 1) hgrow6 (by have := hbl7.out.size; simp; omega) (fun k hk => by have := hrow k hk; omega)⟩
      have hO6 : Aside0 (w6.ownsRow base 97 5 (.slice (some ⟨gg, 0, none⟩) (p.ts.length + 1) cap) (p.ts ++ [t]).length (flatT (p.ts ++ [t]))) := ⟨by rw [List.length_append, flatT_snoc]; exact hown6⟩
      have q6 := (pr_cells hP6.out).1
      have f6 := frozen_of hP6.out 0
      clear hgrow6 hown6 hrow hat6 hlt6
      refine hK.out _ _ ?_
      clear hK K
      refine Sq.norm (a' := ?_) ?_ ?_
      rotate_left
      · show Act.put _ (some 76) _ = _
        simp only [Act.put, List.setIfInBounds_toArray, List.set_cons_zero, List.set_cons_succ, i64_w, i32_w]
        rfl
      iterate 2 (apply Sq.step_p; rfl; rfl; exact fun _ _ _ h => h; refine Or.inl ⟨by rfl, ?_⟩; intro w'; go_simp; with_reducible rfl; simp only [Act.put, List.setIfInBounds_toArray, List.set_cons_zero, List.set_cons_succ, i64_w, i32_w]; rfl)
      refine Sq.step_z rfl rfl (fun K hK => ?_)
      go_simp
      refine hK.out _ _ ?_
      clear hK K
      refine Sq.done ?_
      go_wp2_with fail
      go_meet
      case rel => exact ⟨rfl, .slice (some ⟨gg, 0, none⟩) (p.ts.length + 1) cap, ⟨⟨blk_set hP6.out 0 _, ownsRow_setCell_below hO6.out (a := ⟨g, 0, none⟩) hgb _⟩, hfr6.out.trans (FrL.set _ _ _ _ _), below_set hbl6.out hB _ _⟩⟩
  case rest =>
    obtain ⟨rfl, v', h9⟩ := hcut
    go_wp2_with fail
    exact hfin.out v' _ h9.out.1 h9.out.2.1 h9.out.2.2
set_option maxHeartbeats 8000000 in
set_option maxRecDepth 100000 in
theorem next_none (p : Pr) (s : ByteArray) (g base : Nat) (v : Value) (w0 w : World) (hL : LaidW w0) (hbw : Below w0.heap.size w0 w) (hB : w0.heap.size ≤ g) (hgb : g < base) (hbs : base ≤ w.heap.size) (hP : PL base g p v w) (hz : s.size ≤ 65536) (hs : ¬ bailS s.data.toList = true) (hn : planP s.data.toList = none) (ht : testP s.data.toList = none) :
    Calls Tryd.prog 84 #[.pointer (some ⟨g, 0, none⟩), .string s] w (NX base g p s.data.toList w0 w) := by
  have hh := Aside0.mk (fun W => hp_any s ⟨#[66, 97, 105, 108, 32, 111, 117, 116, 33, 32]⟩ W)
  rw [show (⟨#[66, 97, 105, 108, 32, 111, 117, 116, 33, 32]⟩ : ByteArray).data.toList = bailW ++ [32] from rfl] at hh
  obtain ⟨h2, h3⟩ := (bail_two s).2 hs
  rw [h3] at hh
  have hpc : Aside0 (∀ W, Calls Tryd.prog 98 #[.string s] W fun e w' => ∃ n k, e = .returned (.tuple #[.int .i64 n, .bool k, .bool false]) ∧ Below W.heap.size W w') := ⟨fun W => (plan_any s W).mono fun e w' ⟨a, b, d, h4, h5, h6⟩ => by
    rw [hn] at h6
    exact ⟨a, b, by rw [h4, h6], h5⟩⟩
  have htc : Aside0 (∀ W, LaidW W → Calls Tryd.prog 99 #[.string s] W fun e w' => ∃ o n d y z, e = .returned (.tuple #[.agg #[.bool o, .string n, .int .i64 d, .string y, .int .i64 z], .bool false]) ∧ Below W.heap.size W w') := ⟨fun W hLW => (test_any s W hLW hz).mono fun e w' ⟨o, n, d, y, z, ob, h4, h5, h6⟩ => by
    rw [ht] at h6
    exact ⟨o, n, d, y, z, by rw [h4, h6]; rfl, h5⟩⟩
  have hnx : p.nx s.data.toList = p := by
    unfold Rd.Pr.nx Pr.step
    rw [if_neg hs, hn, ht]
  have hfin : Aside0 (∀ w', Below w.heap.size w w' → NX base g p s.data.toList w0 w (.returned nextV) w') := ⟨fun w' h4 => ⟨by unfold nxR; rw [if_neg hs], v, by rw [hnx]; exact hP.below h4, FrL.of_below hbs h4, hbw.trans (h4.mono hbw.size)⟩⟩
  have hLW : Aside0 (∀ W, Below w.heap.size w W → LaidW W) := ⟨fun W hb => LaidW.below hL (hbw.trans (hb.mono hbw.size))⟩
  generalize NX base g p s.data.toList w0 w = Q at *
  clear h3 hs hP hbw hn ht hnx
  go_enter Tryd.func84, Tryd.ntmps84
  go_wp2_with (first | (go_at_call 97; refine (hh.out _).mono ?_; rintro e wz ⟨rfl, hwz⟩; rw [hwz]; clear hwz wz) | (go_at_call 98; refine (hpc.out _).mono ?_; rintro e w2 ⟨n, k, rfl, hb2⟩; have hb2A := Aside0.mk hb2; clear hb2) | (go_at_call 99; refine (htc.out _ (hLW.out _ hb2A.out)).mono ?_; rintro e w1 ⟨o, nn, d, y, z, rfl, hb3⟩; have hb3A := Aside0.mk hb3; clear hb3))
  have hb1 : Below w.heap.size w w1 := hb2A.out.trans (hb3A.out.mono hb2A.out.size)
  exact hfin.out _ (hb1.alloc hb1.size _)
theorem next_any (p : Pr) (s : ByteArray) (g base : Nat) (v : Value) (w0 w : World) (hL : LaidW w0) (hbw : Below w0.heap.size w0 w) (hB : w0.heap.size ≤ g) (hgb : g < base) (hbs : base ≤ w.heap.size) (hP : PL base g p v w) (hts : p.ts.length ≤ 1000000000) (hpl : p.plans ≤ 1000000000) (hz : s.size ≤ 65536) :
    Calls Tryd.prog 84 #[.pointer (some ⟨g, 0, none⟩), .string s] w (NX base g p s.data.toList w0 w) := by
  by_cases hs : bailS s.data.toList = true
  · exact next_bail p s g base v w0 w hbw hB hgb hP hs
  · cases hn : planP s.data.toList with
    | some x => exact next_plan p s g base v w0 w x.1 x.2 hbw hB hgb hbs hP hpl hs hn
    | none =>
      cases ht : testP s.data.toList with
      | some t => exact next_test p s g base v w0 w t hL hbw hB hgb hbs hP hts hz hs hn ht
      | none => exact next_none p s g base v w0 w hL hbw hB hgb hbs hP hz hs hn ht
end Go.Proofs.YtallfkecjibpmaaDoor.G
