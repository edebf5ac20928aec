/- Of this claim's texts (RdH): the declarations that the claim reaches (slimclaim.py). -/
import Derived.IntWalk
import Derived.Test.YtallfkecjibpmaaDoorVRdG
import Derived.Test.YtallfkecjibpmaaDoorVR3
set_option linter.unusedVariables false
set_option linter.unusedSimpArgs false
namespace Go.Proofs.YtallfkecjibpmaaDoor.G
open Go.RowKit Go.Proofs.YtallfkecjibpmaaDoorW.PrintWords Go.Proofs.YtallfkecjibpmaaDoorW.PrintMore Go.Proofs.YtallfkecjibpmaaDoorW.PrintLast Go.Proofs.YtallfkecjibpmaaDoor.Nm Go.Lib Go.Proofs.YtallfkecjibpmaaDoor.Rd Go.Proofs.YtallfkecjibpmaaDoor.R
theorem fm_get {α : Type} (f : α → List Value) (n : Nat) (hf : ∀ x, (f x).length = n) : ∀ (l : List α) (i j : Nat) (hi : i < l.length), j < n → (l.flatMap f)[i * n + j]? = (f l[i])[j]?
  | [], i, j, hi, _ => absurd hi (by simp)
  | x :: l, 0, j, _, hj => by
    rw [List.flatMap_cons, Nat.zero_mul, Nat.zero_add, List.getElem?_append_left (by rw [hf]; exact hj)]; rfl
  | x :: l, i + 1, j, hi, hj => by
    rw [List.flatMap_cons, List.getElem?_append_right (by rw [hf, Nat.add_mul]; omega), hf, show (i + 1) * n + j - n = i * n + j by rw [Nat.add_mul]; omega, fm_get f n hf l i j (by simpa using hi) hj]; rfl
theorem fm_len {α : Type} (f : α → List Value) (n : Nat) (hf : ∀ x, (f x).length = n) : ∀ (l : List α), (l.flatMap f).length = l.length * n
  | [] => by simp
  | x :: l => by rw [List.flatMap_cons, List.length_append, hf, fm_len f n hf l, List.length_cons, Nat.add_mul]; omega
theorem fm_take {α : Type} (f : α → List Value) (n : Nat) (hf : ∀ x, (f x).length = n) (l : List α) (i : Nat) (hi : i < l.length) : ((l.flatMap f).drop (i * n)).take n = f l[i] := by
  apply List.ext_getElem?
  intro j
  rw [List.getElem?_take]
  by_cases hj : j < n
  · rw [if_pos hj, List.getElem?_drop, fm_get f n hf l i j hi hj]
  · rw [if_neg hj, List.getElem?_eq_none (by rw [hf]; omega)]
def toS (t : Tst) : S57 := ⟨t.ok, mkD t.name, t.dir, mkD t.reason⟩
def testB (t : Tst) : List Value := [.bool t.ok, .string (mkD t.name), .int .i64 t.dir, .string (mkD t.reason)]
def flatS (l : List Tst) : List Value := l.flatMap testB
theorem flatS_snoc (l : List Tst) (t : Tst) : flatS (l ++ [t]) = flatS l ++ testB t := by simp [flatS]
theorem flatS_len (l : List Tst) : (flatS l).length = l.length * 4 := fm_len testB 4 (fun _ => rfl) l
theorem reps_tests (w : World) (base : Nat) (ok : Nat → Prop) (l : List Tst) : Reps (k57.M w base ok) 4 (l.map toS) (flatS l) := by
  refine ⟨by rw [flatS_len, List.length_map], fun j p hj => ?_⟩
  obtain ⟨hl, hp⟩ := List.getElem?_eq_some_iff.1 hj
  have hl' : j < l.length := by rw [List.length_map] at hl; exact hl
  unfold flatS
  rw [fm_take testB 4 (fun _ => rfl) l j hl', ← hp]
  have := k57_mkM w base ok (l.map toS)[j]
  simp only [List.getElem_map] at this ⊢
  exact this
theorem mism_mono (ts : List Tst) : ∀ (n i : Nat), i ≤ n → mism ts i = true → mism ts n = true
  | 0, i, h, hm => by rw [show i = 0 by omega] at hm; exact hm
  | n + 1, i, h, hm => by
    by_cases e : i = n + 1
    · rw [e] at hm; exact hm
    · rw [mism, mism_mono ts n i (by omega) hm]; rfl
def errRd (s : ByteArray) : Int := if errP s ≠ 0 then errP s else if (prot s).bailed = true then 11 else if ((prot s).ts.length : Int) ≠ (prot s).plan then 10 else if mism (prot s).ts (prot s).ts.length = true then 10 else if 200 < (prot s).ts.length then 3 else 0
theorem prot_len (s : ByteArray) : (prot s).ts.length ≤ s.size + 1 := by
  have h := run_len ((lns s).map (·.data.toList)) Pr.new
  rw [List.length_map, lns_len] at h
  have h2 := Sl.count_size s 10
  have h3 := size_len s
  have h4 : Pr.new.ts.length = 0 := rfl
  unfold prot
  omega
def RD (s : ByteArray) (w : World) (e : Ending) (w' : World) : Prop := Below w.heap.size w w' ∧ ∃ v, e = .returned (.tuple #[v, .int .i64 (errRd s)]) ∧ (if errRd s = 0 then w'.ownsRow w.heap.size 57 4 v (prot s).ts.length (flatS (prot s).ts) else v = .slice none 0 0)
theorem errP_vals (s : ByteArray) : errP s = 3 ∨ errP s = 2 ∨ errP s = 0 := by
  unfold errP
  split
  · exact .inl rfl
  · split
    · exact .inr (.inl rfl)
    · exact .inr (.inr rfl)
theorem infoTest : (Tryd.prog.info? 57).map (fun i => (i.zero, i.size, i.bytes)) = some (some (.agg #[.bool false, .string ⟨#[]⟩, .int .i64 0, .string ⟨#[]⟩]), 4, 48) := by kernel_rfl
theorem line_at {w : World} {g n : Nat} {l : List Tst} (h : ∀ i, i < n * 5 → w.cell? ⟨g, i, none⟩ = (flatT l)[i]?) (hn : l.length = n) (m : Nat) (hm : m < l.length) :
    w.cell? ⟨g, m * 5, none⟩ = some (.bool l[m].ok) ∧ w.cell? ⟨g, m * 5 + 1, none⟩ = some (.string (mkD l[m].name)) ∧ w.cell? ⟨g, m * 5 + 2, none⟩ = some (.int .i64 l[m].dir) ∧ w.cell? ⟨g, m * 5 + 3, none⟩ = some (.string (mkD l[m].reason)) ∧ w.cell? ⟨g, m * 5 + 4, none⟩ = some (.int .i64 l[m].num) := by
  have k := fun j hj => fm_get lineB 5 (fun _ => rfl) l m j hm hj
  exact ⟨(h _ (by omega)).trans (k 0 (by omega)), (h _ (by omega)).trans (k 1 (by omega)), (h _ (by omega)).trans (k 2 (by omega)), (h _ (by omega)).trans (k 3 (by omega)), (h _ (by omega)).trans (k 4 (by omega))⟩
theorem own_at {w : World} {base g n cap : Nat} {xs : List Value} (h : w.ownsRow base 97 5 (.slice (some ⟨g, 0, none⟩) n cap) n xs) : g < w.heap.size ∧ ∀ i, i < n * 5 → w.cell? ⟨g, i, none⟩ = xs[i]? := by
  rcases h.2 with ⟨hv, _⟩ | ⟨g', cap', cur, hv, hb, hg, hc, hm, hs, rfl⟩
  · cases hv
  · cases hv
    exact ⟨(Array.getElem?_eq_some_iff.1 hg).1, fun i hi => by rw [List.getElem?_take_of_lt hi]; simp [World.cell?, hg]⟩
theorem wr_i (i : Nat) (h : i ≤ 1000000000000) : wrap64 ((i : Int) + 1) = (i : Int) + 1 := by unfold wrap64; omega
theorem own_le {w : World} {base base' size n : Nat} {e : TypeId} {v : Value} {xs : List Value} (h : w.ownsRow base e size v n xs) (hb : base' ≤ base) : w.ownsRow base' e size v n xs :=
  ⟨h.1, h.2.imp id fun ⟨g, cap, cur, h1, h2, h3⟩ => ⟨g, cap, cur, h1, Nat.le_trans hb h2, h3⟩⟩
theorem news_two (w : World) (o : Obj) (cs : Array Value) (t : TypeId) : ((w.alloc o).alloc (.cells cs t)).heap[w.heap.size + 1]? = some (.cells cs t (0, 0)) := by
  have h := heap_alloc_new (w.alloc o) (.cells cs t)
  rw [show (w.alloc o).heap.size = w.heap.size + 1 by simp] at h
  exact h
theorem testB_one (t : Tst) : ∀ u ∈ testB t, u.oneCell' = true := by
  intro u hu
  simp only [testB, List.mem_cons, List.not_mem_nil, or_false] at hu
  rcases hu with rfl | rfl | rfl | rfl <;> rfl
set_option maxHeartbeats 8000000 in
set_option maxRecDepth 100000 in
theorem read_any (s : ByteArray) (w : World) (hL : LaidW w) (hs : s.size < 4294967281) : Calls Tryd.prog 33 #[.string s] w (RD s w) := by
  obtain ⟨i0, hi0, hz0, hz1, hz2⟩ := info_parts infoTest
  have hpa := parse_any s w hL hs
  rcases (show errP s ≠ 0 ∨ errP s = 0 by omega) with he | he
  · have hfin : Aside0 (∀ w', Below w.heap.size w w' → RD s w (.returned (.tuple #[.slice none 0 0, .int .i64 (errP s)])) w') := ⟨fun w' hb => by
      have e : errRd s = errP s := by unfold errRd; rw [if_pos he]
      refine ⟨hb, _, by rw [e], ?_⟩
      rw [e, if_neg he]⟩
    have hpc : Aside0 (Calls Tryd.prog 68 #[.string s] w fun e w' => e = .returned (.tuple #[.pointer none, .int .i64 (errP s)]) ∧ Below w.heap.size w w') := ⟨hpa.mono fun e w' h => by
      obtain ⟨h1, h2⟩ := h
      rw [if_neg he] at h2
      exact ⟨h2, h1⟩⟩
    have hv := errP_vals s
    clear hpa
    generalize RD s w = Q at *
    generalize errP s = E at *
    have hne : (E != 0) = true := by rw [bne_iff_ne]; exact he
    clear hv he
    go_enter Tryd.func33, Tryd.ntmps33
    go_wp2_with (go_at_call 68; refine hpc.out.mono ?_; rintro e w1 ⟨rfl, hb1⟩; have hb1A := Aside0.mk hb1; clear hb1)
    exact hfin.out _ hb1A.out
  · have hpc : Aside0 (Calls Tryd.prog 68 #[.string s] w fun e w' => ∃ g base v, e = .returned (.tuple #[.pointer (some ⟨g, 0, none⟩), .int .i64 0]) ∧ g < base ∧ PL base g (prot s) v w' ∧ Below w.heap.size w w') := ⟨hpa.mono fun e w' h => by
      obtain ⟨h1, h2⟩ := h
      rw [if_pos he] at h2
      obtain ⟨g, base, v, h3, h4, h5, h6⟩ := h2
      exact ⟨g, base, v, h3, h5, h6, h1⟩⟩
    have heR : errRd s = if (prot s).bailed = true then 11 else if ((prot s).ts.length : Int) ≠ (prot s).plan then 10 else if mism (prot s).ts (prot s).ts.length = true then 10 else if 200 < (prot s).ts.length then 3 else 0 := by unfold errRd; rw [if_neg (by rw [he]; simp)]
    have hpl := prot_len s
    have hfin : Aside0 (∀ v w', Below w.heap.size w w' → (if errRd s = 0 then w'.ownsRow w.heap.size 57 4 v (prot s).ts.length (flatS (prot s).ts) else v = .slice none 0 0) → RD s w (.returned (.tuple #[v, .int .i64 (errRd s)])) w') := ⟨fun v w' hb h => ⟨hb, v, rfl, h⟩⟩
    have heA := Aside0.mk heR
    clear hpa he heR
    generalize RD s w = Q at *
    generalize errRd s = E at *
    generalize prot s = P at *
    go_enter Tryd.func33, Tryd.ntmps33
    cases hba : P.bailed
    · rw [hba] at heA
      by_cases hpn : (P.ts.length : Int) = P.plan
      · have heB : Aside0 (E = if mism P.ts P.ts.length = true then 10 else if 200 < P.ts.length then 3 else 0) := ⟨by rw [heA.out, if_neg (by decide), if_neg (by simpa using hpn)]⟩
        clear heA
        have hne : ((P.ts.length : Int) != P.plan) = false := by rw [bne_eq_false_iff_eq]; exact hpn
        go_upto_region 6 with (go_at_call 68; refine hpc.out.mono ?_; rintro e w1 ⟨g, base, v, rfl, hgb, hP, hb1⟩; have hb1A := Aside0.mk hb1; have hPA := Aside0.mk hP; have hO := own_slice hP.2; obtain ⟨A, c, rfl⟩ := hO; have hC := pr_cells hP.1; obtain ⟨c0, c1, c2, c3, c4, c5, c6⟩ := hC; rw [hba] at c4; clear hb1 hP)
        go_quiet (fail)
        have hb2A : Aside0 (Below w.heap.size w (w1.drewN nq)) := ⟨pw_below_drewN hb1A.out nq⟩
        have hP2 : Aside0 (PL base g P (.slice A P.ts.length c) (w1.drewN nq)) := ⟨hPA.out.below (pw_below_drewN (Below.refl _ _) nq)⟩
        go_wp2_with fail
        have hbw2 := Aside0.mk hb2A.out.size
        have c0' : (w1.drewN nq).cell? ⟨g, 0, none⟩ = some (.slice A P.ts.length c) := (pr_cells hP2.out.1).1
        clear c0 c1 c2 c3 c4 c5 c6 hPA hb1A hne hpc
        generalize w1.drewN nq = w2 at *
        go_loopw [6, 36] (fun o6 iv wr => ∃ (i : Nat) (ov : Value), ov = o6 ∧ iv = .int .i64 i ∧ i ≤ P.ts.length ∧ Aside0 (mism P.ts i = false) ∧ Aside0 (wr.ownsRow w2.heap.size 57 4 ov (P.ts.take i).length (flatS (P.ts.take i))) ∧ Aside0 (Below w2.heap.size w2 wr)) (fun _ iv _ => P.ts.length - (Go.RowKit.intOf iv).toNat)
        case atStart => exact ⟨0, _, rfl, rfl, by omega, ⟨rfl⟩, ⟨World.ownsRow_nil _ _ _ _⟩, ⟨Below.refl _ _⟩⟩
        case round =>
          obtain ⟨i, ov, rfl, rfl, hi, hmm, hO, hB⟩ := hrel
          by_cases hlt : i < P.ts.length
          · obtain ⟨gv, cap, hv, hgv⟩ := hP2.out.2.form (by omega)
            injection hv with hv1 _ hv2
            subst hv1 hv2
            have hrow := own_at hP2.out.2
            obtain ⟨y0, y1, y2, y3, y4⟩ := line_at hrow.2 rfl i hlt
            have hk : ∀ {j : Nat} {u : Value}, w2.cell? ⟨gv, j, none⟩ = some u → wr.cell? ⟨gv, j, none⟩ = some u := fun h => (hB.out.cell (p := ⟨gv, _, none⟩) hrow.1).trans h
            replace y0 := hk y0
            replace y1 := hk y1
            replace y2 := hk y2
            replace y3 := hk y3
            replace y4 := hk y4
            have hms : Aside0 (mism P.ts (i + 1) = (decide (0 ≤ P.ts[i].num) && !(P.ts[i].num == (i : Int) + 1))) := ⟨by rw [mism, hmm.out, Bool.false_or, List.getElem?_eq_getElem hlt]⟩
            have htk : Aside0 (P.ts.take (i + 1) = P.ts.take i ++ [P.ts[i]]) := ⟨List.take_succ_eq_append_getElem hlt⟩
            have htl : (P.ts.take i).length = i := by rw [List.length_take]; omega
            generalize P.ts[i] = t at *
            have hltA := Aside0.mk hlt
            have hwrA := Aside0.mk (wr_i i (by omega))
            have hmax := Aside0.mk (show (P.ts.take i).length + 1 ≤ maxLen ∧ ((P.ts.take i).length + 1) * 48 ≤ 140737488355328 from by rw [htl]; unfold maxLen; omega)
            have hbr := Aside0.mk hB.out.size
            have hmmn := Aside0.mk (fun h : mism P.ts (i + 1) = true => mism_mono P.ts P.ts.length (i + 1) hlt h)
            clear hrow hk hgv
            by_cases hn0 : 0 ≤ t.num
            · by_cases hn1 : t.num = (i : Int) + 1
              · have hd : decide (0 ≤ t.num) = true := decide_eq_true hn0
                have he : (t.num != (i : Int) + 1) = false := by rw [bne_eq_false_iff_eq]; exact hn1
                have hmf : Aside0 (mism P.ts (i + 1) = false) := ⟨by rw [hms.out, beq_iff_eq.2 hn1]; simp⟩
                clear hn0 hn1
                go_wp2_with (at_builtin; (refine wpList_append_own _ rfl _ _ 42 rfl w2.heap.size 57 i0 (.agg #[.bool false, .string ⟨#[]⟩, .int .i64 0, .string ⟨#[]⟩]) 4 48 Tryd.underlying42 hi0 hz0 hz1 hz2 rfl (by decide) _ _ _ rfl ((hO.out.alloc _).alloc _) ⟨wr.heap.size + 1, 0, none⟩ 1 1 (testB t) rfl rfl (World.news_of_block (cs := (testB t).toArray) (t := 57) (fr := (0, 0)) (news_two wr _ _ _)) (testB_one t) hmax.out.1 hmax.out.2 (by have := hbr.out; simp; omega) ?_); intro v' w3 hown' hgrow _)
                have hB3 : Aside0 (Below w2.heap.size w2 w3) := ⟨((hB.out.alloc hbr.out _).alloc (by have := hbr.out; simp; omega) _).grown hgrow (by have := hbr.out; simp; omega) (fun k hk => (hO.out.lt k hk).1)⟩
                have hO3 : Aside0 (w3.ownsRow w2.heap.size 57 4 v' (P.ts.take (i + 1)).length (flatS (P.ts.take (i + 1)))) := ⟨by rw [htk.out, List.length_append, flatS_snoc]; exact hown'⟩
                clear hgrow hown'
                go_roundw
                case rel => exact ⟨i + 1, v', rfl, by go_num, hltA.out, hmf, hO3, hB3⟩
                case measure => simp [Go.RowKit.intOf]; have := hltA.out; omega
              · have hd : decide (0 ≤ t.num) = true := decide_eq_true hn0
                have he : (t.num != (i : Int) + 1) = true := by rw [bne_iff_ne]; exact hn1
                have hmt : mism P.ts (i + 1) = true := by rw [hms.out, hd, beq_eq_false_iff_ne.2 hn1]; rfl
                have hE : Aside0 (E = 10) := ⟨by rw [heB.out, if_pos (hmmn.out hmt)]⟩
                have hfz := Aside0.mk (fun w' hb => hfin.out (.slice none 0 0) w' hb (by rw [hE.out, if_neg (by decide)]))
                rw [hE.out] at hfz
                clear hn0 hn1 hmt
                go_wp2_with fail
                exact hfz.out _ ((hb2A.out.trans (hB.out.mono hbw2.out)).alloc (Nat.le_trans hbw2.out hbr.out) _)
            · have hd : decide (0 ≤ t.num) = false := decide_eq_false hn0
              have hmf : Aside0 (mism P.ts (i + 1) = false) := ⟨by rw [hms.out, hd]; rfl⟩
              clear hn0
              go_wp2_with (at_builtin; (refine wpList_append_own _ rfl _ _ 42 rfl w2.heap.size 57 i0 (.agg #[.bool false, .string ⟨#[]⟩, .int .i64 0, .string ⟨#[]⟩]) 4 48 Tryd.underlying42 hi0 hz0 hz1 hz2 rfl (by decide) _ _ _ rfl ((hO.out.alloc _).alloc _) ⟨wr.heap.size + 1, 0, none⟩ 1 1 (testB t) rfl rfl (World.news_of_block (cs := (testB t).toArray) (t := 57) (fr := (0, 0)) (news_two wr _ _ _)) (testB_one t) hmax.out.1 hmax.out.2 (by have := hbr.out; simp; omega) ?_); intro v' w3 hown' hgrow _)
              have hB3 : Aside0 (Below w2.heap.size w2 w3) := ⟨((hB.out.alloc hbr.out _).alloc (by have := hbr.out; simp; omega) _).grown hgrow (by have := hbr.out; simp; omega) (fun k hk => (hO.out.lt k hk).1)⟩
              have hO3 : Aside0 (w3.ownsRow w2.heap.size 57 4 v' (P.ts.take (i + 1)).length (flatS (P.ts.take (i + 1)))) := ⟨by rw [htk.out, List.length_append, flatS_snoc]; exact hown'⟩
              clear hgrow hown'
              go_roundw
              case rel => exact ⟨i + 1, v', rfl, by go_num, hltA.out, hmf, hO3, hB3⟩
              case measure => simp [Go.RowKit.intOf]; have := hltA.out; omega
          · have hie : i = P.ts.length := by omega
            have hE : Aside0 (E = if 200 < P.ts.length then 3 else 0) := ⟨by rw [heB.out, if_neg (by rw [← hie, hmm.out]; simp)]⟩
            have hO2 : Aside0 (wr.ownsRow w2.heap.size 57 4 ov P.ts.length (flatS P.ts)) := ⟨by have := hO.out; rw [hie, List.take_length] at this; exact this⟩
            obtain ⟨A2, c2, rfl⟩ := own_slice hO2.out
            have hBw : Aside0 (Below w.heap.size w wr) := ⟨hb2A.out.trans (hB.out.mono hbw2.out)⟩
            clear hmm
            by_cases h200 : 200 < P.ts.length
            · have hd : decide ((200 : Int) < (P.ts.length : Int)) = true := decide_eq_true (by omega)
              have hE2 : Aside0 (E = 3) := ⟨by rw [hE.out, if_pos h200]⟩
              have hfz := hfin.out (.slice none 0 0) wr hBw.out (by rw [hE2.out, if_neg (by decide)])
              rw [hE2.out] at hfz
              have hfA := Aside0.mk hfz
              clear hfz
              go_wp2_with fail
              exact hfA.out
            · have hd : decide ((200 : Int) < (P.ts.length : Int)) = false := decide_eq_false (by omega)
              have hE2 : Aside0 (E = 0) := ⟨by rw [hE.out, if_neg h200]⟩
              have hfz := hfin.out (.slice A2 P.ts.length c2) wr hBw.out (by rw [hE2.out, if_pos rfl]; exact own_le hO2.out hbw2.out)
              rw [hE2.out] at hfz
              have hfA := Aside0.mk hfz
              clear hfz
              go_wp2_with fail
              exact hfA.out
      · have heB : Aside0 (E = 10) := ⟨by rw [heA.out, if_neg (by decide), if_pos hpn]⟩
        clear heA
        have hne : ((P.ts.length : Int) != P.plan) = true := by rw [bne_iff_ne]; exact hpn
        go_wp2_with (go_at_call 68; refine hpc.out.mono ?_; rintro e w1 ⟨g, base, v, rfl, hgb, hP, hb1⟩; have hb1A := Aside0.mk hb1; have hPA := Aside0.mk hP; have hO := own_slice hP.2; obtain ⟨A, c, rfl⟩ := hO; have hC := pr_cells hP.1; obtain ⟨c0, c1, c2, c3, c4, c5, c6⟩ := hC; rw [hba] at c4; clear hb1 hP)
        go_quiet (fail)
        have hf := hfin.out (.slice none 0 0) (w1.drewN nq) (pw_below_drewN hb1A.out nq) (by rw [heB.out, if_neg (by decide)])
        rw [heB.out] at hf
        have hfA := Aside0.mk hf
        clear hf
        go_wp2_with fail
        exact hfA.out
    · have heB : Aside0 (E = 11) := ⟨by rw [heA.out, if_pos hba]⟩
      clear heA
      have hf := Aside0.mk (fun w' hb => hfin.out (.slice none 0 0) w' hb (by rw [heB.out, if_neg (by decide)]))
      rw [heB.out] at hf
      go_wp2_with (go_at_call 68; refine hpc.out.mono ?_; rintro e w1 ⟨g, base, v, rfl, hgb, hP, hb1⟩; have hb1A := Aside0.mk hb1; have hPA := Aside0.mk hP; have hO := own_slice hP.2; obtain ⟨A, c, rfl⟩ := hO; have hC := pr_cells hP.1; obtain ⟨c0, c1, c2, c3, c4, c5, c6⟩ := hC; rw [hba] at c4; clear hb1 hP)
      exact hf.out _ hb1A.out
def tap_Read.f (a0 : ByteArray) : Option (List S57 × Int) := if a0.size < 4294967281 then some (if errRd a0 = 0 then (prot a0).ts.map toS else [], errRd a0) else none
theorem tap_Read.calls (a0 : ByteArray) (r1 : List S57) (r2 : Int) (w : World) (hL : LaidW w) (h : tap_Read.f a0 = some (r1, r2)) :
    Calls Tryd.prog 33 #[.string a0] w fun e w' => ∃ v0_ : Value, e = .returned (.tuple #[v0_, .int .i64 r2]) ∧ Kd.R k57 57 w' w.heap.size (fun _ => True) v0_ r1 ∧ Below w.heap.size w w' := by
  unfold tap_Read.f at h
  by_cases hs : a0.size < 4294967281
  · rw [if_pos hs] at h
    simp only [Option.some.injEq, Prod.mk.injEq] at h
    obtain ⟨rfl, rfl⟩ := h
    refine (read_any a0 w hL hs).mono fun e w' h => ?_
    obtain ⟨hb, v, he, h⟩ := h
    refine ⟨v, he, ?_, hb⟩
    by_cases h0 : errRd a0 = 0
    · rw [if_pos h0] at h ⊢
      exact ⟨fun _ _ => trivial, flatS (prot a0).ts, by rw [List.length_map]; exact h, reps_tests _ _ _ _⟩
    · rw [if_neg h0] at h ⊢
      rw [h]
      exact Kd.R_nil _ _ _ _ _
  · rw [if_neg hs] at h; cases h
end Go.Proofs.YtallfkecjibpmaaDoor.G
