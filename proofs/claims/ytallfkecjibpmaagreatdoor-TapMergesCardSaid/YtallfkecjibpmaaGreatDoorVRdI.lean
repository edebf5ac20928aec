/- Of this claim's texts (RdI): the declarations that the claim reaches (slimclaim.py). -/
import Derived.Test.YtallfkecjibpmaaGreatDoorVPRd2
import Derived.Test.YtallfkecjibpmaaGreatDoorVSeq
set_option linter.unusedVariables false
set_option linter.unusedSimpArgs false
namespace Go.Proofs.YtallfkecjibpmaaGreatDoor.G
open Go.RowKit Go.Proofs.YtallfkecjibpmaaGreatDoorW.PrintWords Go.Proofs.YtallfkecjibpmaaGreatDoorW.PrintMore Go.Proofs.YtallfkecjibpmaaGreatDoorW.PrintLast Go.Proofs.YtallfkecjibpmaaGreatDoor.Nm Go.Lib Go.Proofs.YtallfkecjibpmaaGreatDoor.Rd Go.Proofs.YtallfkecjibpmaaGreatDoor.R
def testX (s : Bs) : Tst × Bool :=
  if Lib.hasPrefix (afterNot s) [111, 107] = true then
    (match nameR (numSplitR ((afterNot s).drop 2)).2 with
     | none => (⟨!isNot s, [], 0, [], (numSplitR ((afterNot s).drop 2)).1⟩, false)
     | some (n, t) => (⟨!isNot s, n, (dirR t).1, (dirR t).2.1, (numSplitR ((afterNot s).drop 2)).1⟩, (dirR t).2.2.isEmpty && okName n && okText (dirR t).2.1))
  else (⟨!isNot s, [], 0, [], -1⟩, false)
theorem testX_R (s : Bs) : testR s = if (testX s).2 = true then some (testX s).1 else none := by
  unfold testR testX finR
  split
  · cases nameR (numSplitR ((afterNot s).drop 2)).2 with
    | none => rfl
    | some x => obtain ⟨n, t⟩ := x; rfl
  · rfl
theorem beg_any (s p : ByteArray) (w : World) : Calls Tryz.prog 42 #[.string s, .string p] w fun e w' => e = .returned (.bool (Lib.hasPrefix s.data.toList p.data.toList)) ∧ Below w.heap.size w w' :=
  (motleyref27_begins.calls s p _ w (Q.begins_eq s p)).mono fun e w' ⟨h1, h2⟩ => ⟨h1, h2.below⟩
theorem num_any (s : ByteArray) (w : World) (hs : s.size ≤ 1000000) : Calls Tryz.prog 62 #[.string s, .int .i64 9] w fun e w' => e = .returned (.tuple #[.int .i64 (numR s.data.toList).1, .int .i64 ((numR s.data.toList).2 : Int)]) ∧ Below w.heap.size w w' :=
  (motleyref27_number.calls 1000100 s 9 _ _ w (Q.number_eq s 9 (Nat.le_refl _) hs 1000100 (Nat.le_refl _))).mono fun e w' ⟨h1, h2⟩ => ⟨h1, h2.below⟩
theorem bare_any (s : ByteArray) (w : World) (hs : s.size ≤ 1000000) : Calls Tryz.prog 63 #[.string s] w fun e w' => e = .returned (.string (mkD (trimS s.data.toList))) ∧ Below w.heap.size w w' :=
  (motleyref27_bare.calls 2000100 s _ w (Q.bare_eq s hs 2000100 (Nat.le_refl _))).mono fun e w' ⟨h1, h2⟩ => ⟨h1, h2.below⟩
theorem isn_any (s : ByteArray) (w : World) (hs : s.size ≤ 1000000) : Calls Tryz.prog 64 #[.string s] w fun e w' => e = .returned (.bool (okName s.data.toList)) ∧ Below w.heap.size w w' :=
  (motleyref27_isName.calls 1000300 s _ w (Q.isName_eq s hs 1000300 (Nat.le_refl _))).mono fun e w' ⟨h1, h2⟩ => ⟨h1, h2.below⟩
theorem isr_any (s : ByteArray) (w : World) : Calls Tryz.prog 65 #[.string s] w fun e w' => e = .returned (.bool (okText s.data.toList)) ∧ Below w.heap.size w w' :=
  (motleyref27_isReason.calls 202 s _ w (Q.isReason_eq s 202 (Nat.le_refl _))).mono fun e w' ⟨h1, h2⟩ => ⟨h1, h2.below⟩
def TwoR (w W : World) (cs : Array Value) : Prop := W.heap[w.heap.size]? = some (.cells #[.bool false, .string ⟨#[]⟩, .int .i64 0, .string ⟨#[]⟩] 53 (0, 0)) ∧ W.heap[w.heap.size + 1]? = some (.cells cs 53 (0, 0)) ∧ Below w.heap.size w W ∧ w.heap.size + 2 ≤ W.heap.size
theorem twoR_new (w : World) (cs : Array Value) : TwoR w ((w.alloc (.cells #[.bool false, .string ⟨#[]⟩, .int .i64 0, .string ⟨#[]⟩] 53)).alloc (.cells cs 53)) cs := by
  have h1 : (w.alloc (.cells #[.bool false, .string ⟨#[]⟩, .int .i64 0, .string ⟨#[]⟩] 53)).heap.size = w.heap.size + 1 := by simp
  refine ⟨(Lib.alloc_old _ _ _ (by rw [h1]; omega)).trans (heap_alloc_new w _), ?_, ((Below.refl _ w).alloc (Nat.le_refl _) _).alloc (by rw [h1]; omega) _, by simp⟩
  have := heap_alloc_new (w.alloc (.cells #[.bool false, .string ⟨#[]⟩, .int .i64 0, .string ⟨#[]⟩] 53)) (.cells cs 53)
  rw [h1] at this
  exact this
theorem twoR_set {w W : World} {cs : Array Value} (h : TwoR w W cs) (i : Nat) (u : Value) : TwoR w (W.setCell ⟨w.heap.size + 1, i, none⟩ u) (cs.setIfInBounds i u) :=
  ⟨(Below.heap_setCell _ _ _ _ (by show w.heap.size ≠ w.heap.size + 1; omega)).trans h.1, blk_set h.2.1 i u, below_set h.2.2.1 (Nat.le_succ _) i u, by have := h.2.2.2; simpa [World.setCell] using this⟩
theorem twoR_below {w W W' : World} {cs : Array Value} (h : TwoR w W cs) (hb : Below W.heap.size W W') : TwoR w W' cs :=
  ⟨(hb.block _ (by have := h.2.2.2; omega)).trans h.1, (hb.block _ (by have := h.2.2.2; omega)).trans h.2.1, h.2.2.1.trans (hb.mono h.2.2.1.size), Nat.le_trans h.2.2.2 hb.size⟩
theorem test_cells {w : World} {g t : Nat} {a b c d : Value} (h : w.heap[g]? = some (.cells #[a, b, c, d] t (0, 0))) : w.cell? ⟨g, 0, none⟩ = some a ∧ w.cell? ⟨g, 1, none⟩ = some b ∧ w.cell? ⟨g, 2, none⟩ = some c ∧ w.cell? ⟨g, 3, none⟩ = some d :=
  ⟨cell_of h rfl, cell_of h rfl, cell_of h rfl, cell_of h rfl⟩
theorem twoR_facts {w W : World} {a b c d : Value} (h : TwoR w W #[a, b, c, d]) :
    (W.cell? ⟨w.heap.size + 1, 0, none⟩ = some a ∧ W.cell? ⟨w.heap.size + 1, 1, none⟩ = some b ∧ W.cell? ⟨w.heap.size + 1, 2, none⟩ = some c ∧ W.cell? ⟨w.heap.size + 1, 3, none⟩ = some d) ∧
    (W.cell? ⟨w.heap.size, 0, none⟩ = some (.bool false) ∧ W.cell? ⟨w.heap.size, 1, none⟩ = some (.string ⟨#[]⟩) ∧ W.cell? ⟨w.heap.size, 2, none⟩ = some (.int .i64 0) ∧ W.cell? ⟨w.heap.size, 3, none⟩ = some (.string ⟨#[]⟩)) ∧
    (∀ j, W.frozen? ⟨w.heap.size, j, none⟩ = false) ∧ (∀ j, W.frozen? ⟨w.heap.size + 1, j, none⟩ = false) := ⟨test_cells h.2.1, test_cells h.1, frozen_of h.1, frozen_of h.2.1⟩
theorem results_test {tmps : Array Value} {W : World} {g : Nat} {a b c d : Value} (hp : tmps.getD 2 undef = .pointer (some ⟨g, 0, none⟩)) (h : W.heap[g]? = some (.cells #[a, b, c, d] 53 (0, 0))) :
    (results Tryz.f44 tmps).run Tryz.prog W = .ok (.tuple #[.agg #[a, b, c, d], tmps.getD 3 undef, tmps.getD 4 undef]) W := by
  obtain ⟨c0, c1, c2, c3⟩ := test_cells h
  have hp2 : tmps[2]?.getD undef = .pointer (some ⟨g, 0, none⟩) := by simpa using hp
  simp [results, Tryz.results44, go_sem, hp2, c0, c1, c2, c3]
theorem set4_block {w W : World} {cs : Array Value} (h : TwoR w W cs) (a b c d : Value) :
    ((((W.setCell ⟨w.heap.size, 0, none⟩ a).setCell ⟨w.heap.size, 1, none⟩ b).setCell ⟨w.heap.size, 2, none⟩ c).setCell ⟨w.heap.size, 3, none⟩ d).heap[w.heap.size]? = some (.cells #[a, b, c, d] 53 (0, 0)) ∧
    Below w.heap.size w ((((W.setCell ⟨w.heap.size, 0, none⟩ a).setCell ⟨w.heap.size, 1, none⟩ b).setCell ⟨w.heap.size, 2, none⟩ c).setCell ⟨w.heap.size, 3, none⟩ d) :=
  ⟨blk_set (blk_set (blk_set (blk_set h.1 0 _) 1 _) 2 _) 3 _, below_set (below_set (below_set (below_set h.2.2.1 (Nat.le_refl _) _ _) (Nat.le_refl _) _ _) (Nat.le_refl _) _ _) (Nat.le_refl _) _ _⟩
theorem tw_yesG (p : UInt8 → Bool) (l : List UInt8) (i : Nat) (h : i < (l.takeWhile p).length) : p (l.getD i 0) = true := Q.tw_yes p l i h
theorem tw_noG (p : UInt8 → Bool) (l : List UInt8) (h : (l.takeWhile p).length < l.length) : p (l.getD (l.takeWhile p).length 0) = false := Q.tw_no p l h
theorem tw_takeG (p : UInt8 → Bool) (l : List UInt8) : l.take (l.takeWhile p).length = l.takeWhile p := Q.tw_take p l
theorem n35G {a : UInt8} (h : a ≠ 35) : ((a.toNat : Int) != 35) = true := bne_iff_ne.2 (Q.n35 h)
theorem n32G {a : UInt8} (h : a ≠ 32) : ¬ ((a.toNat : Int) = 32) := Q.n32 h
theorem wnat {M : Nat} (h : M ≤ 1000000) : wrap64 (M : Int) = (M : Int) := by unfold wrap64; omega
theorem ext_dropG (s : ByteArray) (n : Nat) : (s.extract n s.size).data.toList = s.data.toList.drop n := Q.ext_drop s n
theorem numR_len (l : List UInt8) : (numR l).2 ≤ l.length := Q.numRm_le l 9
def TR35 : Bool × List (Nat × Nat) := (true, [(0, 0), (0, 0), (0, 0), (4, 4), (8, 8), (16, 16), (48, 48), (80, 80), (144, 144), (384, 256), (512, 512), (1536, 1536), (2560, 2560), (4608, 4608), (4097, 1), (16387, 2), (65535, 8192)])
theorem TR35_eq : Sq.tabM .any (opsOf Tryz.f44 35) = TR35 := by kernel_rfl
def TX (x : Tst × Bool) (w : World) (e : Ending) (w' : World) : Prop := e = .returned (.tuple #[.agg #[.bool x.1.ok, .string (mkD x.1.name), .int .i64 x.1.dir, .string (mkD x.1.reason)], .int .i64 x.1.num, .bool x.2]) ∧ Below w.heap.size w w'
set_option maxHeartbeats 8000000 in
set_option maxRecDepth 100000 in
theorem rtest_any (s : ByteArray) (w : World) (hs : s.size ≤ 65536) : Calls Tryz.prog 44 #[.string s] w (TX (testX s.data.toList) w) := by
  have hfin : Aside0 (∀ (o : Bool) (n : ByteArray) (d : Int) (y : ByteArray) (z : Int) (ob : Bool) (w' : World), Below w.heap.size w w' → testX s.data.toList = (⟨o, n.data.toList, d, y.data.toList, z⟩, ob) → TX (testX s.data.toList) w (.returned (.tuple #[.agg #[.bool o, .string n, .int .i64 d, .string y], .int .i64 z, .bool ob])) w') := ⟨fun o n d y z ob w' h1 h2 => by
    rw [h2]
    refine ⟨?_, h1⟩
    show Ending.returned _ = Ending.returned _
    rw [mkD_of, mkD_of]⟩
  generalize TX (testX s.data.toList) w = Q at *
  obtain ⟨no, hno⟩ : ∃ no, isNot s.data.toList = no := ⟨_, rfl⟩
  obtain ⟨s1, hs1⟩ : ∃ s1, mkD (afterNot s.data.toList) = s1 := ⟨_, rfl⟩
  have hs1L : s1.data.toList = afterNot s.data.toList := by rw [← hs1, mkD_list]
  have hs1z : s1.size ≤ 65536 := by
    have h := size_len s
    rw [← hs1, mkD_size]
    unfold afterNot
    split
    · rw [List.length_drop]; omega
    · omega
  have hX : Aside0 (testX s.data.toList = if Lib.hasPrefix s1.data.toList [111, 107] = true then
    (match nameR (numSplitR (s1.data.toList.drop 2)).2 with
     | none => (⟨!no, [], 0, [], (numSplitR (s1.data.toList.drop 2)).1⟩, false)
     | some (n, t) => (⟨!no, n, (dirR t).1, (dirR t).2.1, (numSplitR (s1.data.toList.drop 2)).1⟩, (dirR t).2.2.isEmpty && okName n && okText (dirR t).2.1))
    else (⟨!no, [], 0, [], -1⟩, false)) := ⟨by unfold testX; rw [hs1L, hno]⟩
  have hb1 := Aside0.mk (fun W => beg_any s ⟨#[110, 111, 116, 32]⟩ W)
  rw [show (⟨#[110, 111, 116, 32]⟩ : ByteArray).data.toList = [110, 111, 116, 32] from rfl, show Lib.hasPrefix s.data.toList [110, 111, 116, 32] = isNot s.data.toList from rfl, hno] at hb1
  have hb2 := Aside0.mk (fun W => beg_any s1 ⟨#[111, 107]⟩ W)
  rw [show (⟨#[111, 107]⟩ : ByteArray).data.toList = [111, 107] from rfl] at hb2
  have hcase : Aside0 ((no = true → 4 ≤ s.size ∧ s.extract 4 s.size = s1) ∧ (no = false → s = s1)) := ⟨by
    constructor
    · intro h
      have hp : Lib.hasPrefix s.data.toList [110, 111, 116, 32] = true := hno.trans h
      constructor
      · obtain ⟨r, hr⟩ := (hp_iff _ _).1 hp
        rw [size_len, hr]; simp
      · apply ByteArray.ext
        rw [← Array.toList_inj, ext_dropG, hs1L]
        unfold afterNot
        rw [if_pos hp]
    · intro h
      have hp : ¬ Lib.hasPrefix s.data.toList [110, 111, 116, 32] = true := by rw [show Lib.hasPrefix s.data.toList [110, 111, 116, 32] = false from hno.trans h]; simp
      apply ByteArray.ext
      rw [← Array.toList_inj, hs1L]
      unfold afterNot
      rw [if_neg hp]⟩
  have hs1LA := Aside0.mk hs1L
  clear hs1 hno hs1L
  go_enter Tryz.func44, Tryz.ntmps44
  go_upto_region 1 with fail
  go_cut [2, 3, 4, 5] (fun v2 v3 v4 v5 wx => v2 = .pointer (some ⟨w.heap.size, 0, none⟩) ∧ v3 = .int .i64 0 ∧ v4 = .bool false ∧ v5 = .pointer (some ⟨w.heap.size + 1, 0, none⟩) ∧ Aside0 (TwoR w wx #[.bool true, .string ⟨#[]⟩, .int .i64 0, .string ⟨#[]⟩]))
  case first =>
    go_wp2_with fail
    go_meet
    case rel => exact ⟨rfl, rfl, rfl, rfl, ⟨twoR_new w _⟩⟩
  case rest =>
    obtain ⟨rfl, rfl, rfl, rfl, hT⟩ := hcut
    go_upto_if 14 with (go_at_call 42; refine (hb1.out _).mono ?_; rintro e w2 ⟨rfl, hb2_⟩; have hT2 := Aside0.mk (twoR_below hT.out hb2_); clear hb2_)
    clear hb1
    go_cut [0] (fun v0 wx => v0 = .string s1 ∧ Aside0 (TwoR w wx #[.bool (!no), .string ⟨#[]⟩, .int .i64 0, .string ⟨#[]⟩]))
    case first =>
      cases no
      · have e := hcase.out.2 rfl
        subst e
        go_wp2_with fail
        go_meet
        case rel => exact ⟨rfl, hT2⟩
      · obtain ⟨h4, e⟩ := hcase.out.1 rfl
        have eA := Aside0.mk e
        have F := twoR_facts hT2.out
        obtain ⟨⟨c0, _, _, _⟩, _, _, f1⟩ := F
        have hT3 := Aside0.mk (twoR_set hT2.out 0 (.bool false))
        clear e
        go_wp2_with fail
        go_meet
        case rel => exact ⟨by rw [← eA.out], hT3⟩
    case rest =>
      obtain ⟨rfl, hT3⟩ := hcut
      clear hT hT2 hcase
      obtain ⟨okp, hokp⟩ : ∃ okp, Lib.hasPrefix s1.data.toList [111, 107] = okp := ⟨_, rfl⟩
      rw [hokp] at hb2 hX
      have hokA := Aside0.mk hokp
      clear hokp
      cases okp
      · have hX0 : Aside0 (testX s.data.toList = (⟨!no, [], 0, [], -1⟩, false)) := ⟨by rw [hX.out]; rfl⟩
        go_wp2_with (go_at_call 42; refine (hb2.out _).mono ?_; rintro e w3 ⟨rfl, hb3_⟩; have hT4 := Aside0.mk (twoR_below hT3.out hb3_); have F := twoR_facts hT4.out; obtain ⟨⟨c0, c1, c2, c3⟩, ⟨z0, z1, z2, z3⟩, f0, _⟩ := F; clear hb3_)
        refine bodyPost_ret (results_test (a := .bool (!no)) (b := .string ⟨#[]⟩) (c := .int .i64 0) (d := .string ⟨#[]⟩) rfl (set4_block hT4.out _ _ _ _).1) rfl ?_
        exact hfin.out _ ⟨#[]⟩ 0 ⟨#[]⟩ (-1) false _ (set4_block hT4.out _ _ _ _).2 (by rw [hX0.out])
      · obtain ⟨s2, hs2⟩ : ∃ s2, s1.extract 2 s1.size = s2 := ⟨_, rfl⟩
        have hs2L : s2.data.toList = s1.data.toList.drop 2 := by rw [← hs2, ext_dropG]
        have h2z : 2 ≤ s1.size := by
          obtain ⟨r, hr⟩ := (hp_iff _ _).1 hokA.out
          rw [size_len, hr]; simp
        have hs2z : s2.size ≤ 65536 := by rw [← hs2, ByteArray.size_extract]; omega
        have hX1 : Aside0 (testX s.data.toList = match nameR (numSplitR s2.data.toList).2 with
          | none => (⟨!no, [], 0, [], (numSplitR s2.data.toList).1⟩, false)
          | some (n, t) => (⟨!no, n, (dirR t).1, (dirR t).2.1, (numSplitR s2.data.toList).1⟩, (dirR t).2.2.isEmpty && okName n && okText (dirR t).2.1)) := ⟨by rw [hX.out, if_pos rfl, hs2L]⟩
        obtain ⟨s3, hs3⟩ : ∃ s3, mkD (numSplitR s2.data.toList).2 = s3 := ⟨_, rfl⟩
        obtain ⟨z, hz⟩ : ∃ z, (numSplitR s2.data.toList).1 = z := ⟨_, rfl⟩
        obtain ⟨bl, hbl⟩ : ∃ bl, Lib.hasPrefix s2.data.toList [32] = bl := ⟨_, rfl⟩
        have hb3 := Aside0.mk (fun W => beg_any s2 ⟨#[32]⟩ W)
        rw [show (⟨#[32]⟩ : ByteArray).data.toList = [32] from rfl, hbl] at hb3
        have hs2A := Aside0.mk hs2
        have hs3A := Aside0.mk hs3
        have hzA := Aside0.mk hz
        have hblA := Aside0.mk hbl
        have hs3L : s3.data.toList = (numSplitR s2.data.toList).2 := by rw [← hs3, mkD_list]
        have hs3z : s3.size ≤ 65536 := by
          rw [size_len, hs3L]
          have h := size_len s2
          unfold numSplitR
          split
          · split
            · rw [List.length_drop]; omega
            · show s2.data.toList.length ≤ 65536; omega
          · show s2.data.toList.length ≤ 65536; omega
        rw [← hs3L, hz] at hX1
        have hs3LA := Aside0.mk hs3L
        clear hX hs2L hs2 hs3 hz hbl hs3L
        go_upto_if 25 with (go_at_call 42; first | ((with_reducible refine (hb2.out _).mono ?_); rintro e w3 ⟨rfl, hb3_⟩; have hT4 := Aside0.mk (twoR_below hT3.out hb3_); have hs2e := hs2A.out; clear hb3_) | ((with_reducible refine (hb3.out _).mono ?_); rintro e w4 ⟨rfl, hb4_⟩; have hT5 := Aside0.mk (twoR_below hT4.out hb4_); clear hb4_))
        clear hb2 hb3
        go_cut [0, 6] (fun v0 v6 wx => v0 = .string s3 ∧ v6 = .int .i64 z ∧ Aside0 (TwoR w wx #[.bool (!no), .string ⟨#[]⟩, .int .i64 0, .string ⟨#[]⟩]))
        case first =>
          cases bl
          · have e1 : numSplitR s2.data.toList = (-1, s2.data.toList) := by unfold numSplitR; rw [if_neg (by rw [hblA.out]; decide)]
            have e2 : Aside0 (s2 = s3) := ⟨by rw [← hs3A.out, e1, mkD_of]⟩
            have e3 : Aside0 (z = -1) := ⟨by rw [← hzA.out, e1]⟩
            clear e1
            go_wp2_with fail
            go_meet
            case rel => exact ⟨by rw [← e2.out], by rw [e3.out], hT5⟩
          · have h1z : 1 ≤ s2.size := by
              obtain ⟨r, hr⟩ := (hp_iff _ _).1 hblA.out
              rw [size_len, hr]; simp
            have hnq := Aside0.mk (fun W => num_any (s2.extract 1 s2.size) W (by rw [ByteArray.size_extract]; omega))
            rw [ext_dropG] at hnq
            have hle := numR_len (s2.data.toList.drop 1)
            rw [List.length_drop, ← size_len] at hle
            have hsp : numSplitR s2.data.toList = if 0 < (numR (s2.data.toList.drop 1)).2 then ((numR (s2.data.toList.drop 1)).1, s2.data.toList.drop (1 + (numR (s2.data.toList.drop 1)).2)) else (-1, s2.data.toList) := by unfold numSplitR; rw [if_pos hblA.out]
            obtain ⟨nv, hnv⟩ : ∃ nv, (numR (s2.data.toList.drop 1)).1 = nv := ⟨_, rfl⟩
            obtain ⟨nn, hnn⟩ : ∃ nn, (numR (s2.data.toList.drop 1)).2 = nn := ⟨_, rfl⟩
            rw [hnv, hnn] at hnq hsp
            rw [hnn] at hle
            clear hnv hnn
            by_cases h0 : 0 < nn
            · rw [if_pos h0] at hsp
              have e2 : Aside0 (s2.extract (1 + nn) s2.size = s3) := ⟨by
                apply ByteArray.ext
                rw [← Array.toList_inj, ext_dropG, hs3LA.out, hsp]⟩
              have e3 : Aside0 (z = nv) := ⟨by rw [← hzA.out, hsp]⟩
              have h0i : decide ((0 : Int) < (nn : Int)) = true := decide_eq_true (by omega)
              clear hsp
              go_wp2_with (go_at_call 62; refine (hnq.out _).mono ?_; rintro e w5 ⟨rfl, hb5_⟩; have hT6 := Aside0.mk (twoR_below hT5.out hb5_); clear hb5_)
              go_meet
              case rel => exact ⟨by rw [← e2.out], by rw [e3.out], hT6⟩
            · rw [if_neg h0] at hsp
              have e2 : Aside0 (s2 = s3) := ⟨by rw [← hs3A.out, hsp, mkD_of]⟩
              have e3 : Aside0 (z = -1) := ⟨by rw [← hzA.out, hsp]⟩
              have h0i : decide ((0 : Int) < (nn : Int)) = false := decide_eq_false (by omega)
              clear hsp
              go_wp2_with (go_at_call 62; refine (hnq.out _).mono ?_; rintro e w5 ⟨rfl, hb5_⟩; have hT6 := Aside0.mk (twoR_below hT5.out hb5_); clear hb5_)
              go_meet
              case rel => exact ⟨by rw [← e2.out], by rw [e3.out], hT6⟩
        case rest =>
          obtain ⟨rfl, rfl, hT7⟩ := hcut
          clear hT3 hT4 hT5 hs2A hs3A hzA hblA hs3LA
          obtain ⟨pf, hpf⟩ : ∃ pf, Lib.hasPrefix s3.data.toList [32, 45, 32] = pf := ⟨_, rfl⟩
          have hb4 := Aside0.mk (fun W => beg_any s3 ⟨#[32, 45, 32]⟩ W)
          rw [show (⟨#[32, 45, 32]⟩ : ByteArray).data.toList = [32, 45, 32] from rfl, hpf] at hb4
          have hpfA := Aside0.mk hpf
          clear hpf
          go_upto_if 40 with (go_at_call 42; refine (hb4.out _).mono ?_; rintro e w6 ⟨rfl, hb6_⟩; have hT8 := Aside0.mk (twoR_below hT7.out hb6_); clear hb6_)
          clear hb4 hT7
          go_cut [0] (fun v0 wx => ∃ (n t : List UInt8), Aside0 (nameR s3.data.toList = some (n, t) ∧ n.length ≤ 65536 ∧ t.length ≤ 65536) ∧ v0 = .string (mkD t) ∧ Aside0 (TwoR w wx #[.bool (!no), .string (mkD n), .int .i64 0, .string ⟨#[]⟩]))
          case first =>
            cases pf
            · have e1 : Aside0 (nameR s3.data.toList = some ([], s3.data.toList) ∧ ([] : List UInt8).length ≤ 65536 ∧ s3.data.toList.length ≤ 65536) := ⟨by unfold nameR; rw [if_neg (by rw [hpfA.out]; decide)], by simp, by rw [← size_len]; exact hs3z⟩
              go_wp2_with fail
              go_meet
              case rel => exact ⟨[], s3.data.toList, e1, by rw [mkD_of], hT8⟩
            · have h3z : 3 ≤ s3.size := by
                obtain ⟨r, hr⟩ := (hp_iff _ _).1 hpfA.out
                rw [size_len, hr]; simp
              obtain ⟨u, hu⟩ : ∃ u, s3.extract 3 s3.size = u := ⟨_, rfl⟩
              have huL : u.data.toList = s3.data.toList.drop 3 := by rw [← hu, ext_dropG]
              have huz : u.size ≤ 65536 := by rw [← hu, ByteArray.size_extract]; omega
              obtain ⟨L, hL⟩ : ∃ L, (toHash u.data.toList).length = L := ⟨_, rfl⟩
              have hLz : L ≤ u.size := by rw [← hL, size_len]; exact (List.takeWhile_sublist _).length_le
              have hin : Aside0 (∀ i, i < L → bAt u i ≠ 35) := ⟨fun i hi he => by
                have h := tw_yesG (fun c => !(c == 35)) u.data.toList i (by rw [← hL] at hi; exact hi)
                rw [show u.data.toList.getD i 0 = bAt u i from rfl, he] at h
                exact absurd h (by decide)⟩
              have hout : Aside0 (L < u.size → bAt u L = 35) := ⟨fun hlt => by
                have h := tw_noG (fun c => !(c == 35)) u.data.toList (by rw [size_len] at hlt; rw [show (u.data.toList.takeWhile fun c => !(c == 35)).length = L from hL]; exact hlt)
                rw [show (u.data.toList.takeWhile fun c => !(c == 35)).length = L from hL, show u.data.toList.getD L 0 = bAt u L from rfl] at h
                simpa using h⟩
              have hnR : Aside0 (nameR s3.data.toList = if L < u.data.toList.length then (if toHash u.data.toList = [] ∨ ¬ (toHash u.data.toList).getLast? = some 32 then none else some (trimS (toHash u.data.toList).dropLast, u.data.toList.drop (L - 1))) else some (trimS u.data.toList, [])) := ⟨by
                unfold nameR
                rw [if_pos hpfA.out, ← huL, hL]⟩
              have htk : Aside0 (toHash u.data.toList = u.data.toList.take L) := ⟨by rw [← hL]; exact (tw_takeG _ _).symm⟩
              have huA := Aside0.mk hu
              clear huL hu hL
              go_upto_block 0 with fail
              rw [huA.out]
              have hTA := hT8
              clear hT8 huA
              go_cut [9] (fun v9 wx => v9 = .int .i64 (L : Int) ∧ Aside0 (wx = w6))
              case first =>
                go_wp2_with fail
                go_loopw [9] (fun v wr => ∃ i : Nat, v = .int .i64 i ∧ i ≤ L ∧ Aside0 (wr = w6)) (fun v _ => L - (Go.RowKit.intOf v).toNat)
                case atStart => exact ⟨0, rfl, Nat.zero_le _, ⟨rfl⟩⟩
                case round =>
                  obtain ⟨i, rfl, hi, hwr⟩ := hrel
                  by_cases hlt : i < L
                  · have hiu : i < u.size := by omega
                    have hcs := at_bAt u i hiu
                    have hne := n35G (hin.out i hlt)
                    have hi0 : (0 : Int) ≤ (i : Int) := by omega
                    have hi1 : (i : Int) < (u.size : Int) := by omega
                    have hltA := Aside0.mk hlt
                    go_wp2_with fail
                    go_roundw
                    case rel => exact ⟨i + 1, by go_num, hltA.out, hwr⟩
                    case measure => simp [Go.RowKit.intOf]; have := hltA.out; omega
                  · have hie : i = L := by omega
                    subst hie
                    by_cases hiu : i < u.size
                    · have hcs := at_bAt u i hiu
                      have hne : (((bAt u i).toNat : Int) != 35) = false := by rw [hout.out hiu]; rfl
                      have hi0 : (0 : Int) ≤ (i : Int) := by omega
                      have hi1 : (i : Int) < (u.size : Int) := by omega
                      go_wp2_with fail
                      go_meet
                      case rel => exact ⟨rfl, hwr⟩
                    · have hi1 : decide ((i : Int) < (u.size : Int)) = false := decide_eq_false (by omega)
                      go_wp2_with fail
                      go_meet
                      case rel => exact ⟨rfl, hwr⟩
              case rest =>
                obtain ⟨rfl, hwx⟩ := hcut
                have hwy := hwx.out.symm
                clear hwx
                subst hwy
                clear hin
                have F := twoR_facts hTA.out
                obtain ⟨⟨c0, c1, c2, c3⟩, ⟨z0, z1, z2, z3⟩, f0, f1⟩ := F
                have hul := size_len u
                by_cases hlt : L < u.size
                · have hb0 := hout.out hlt
                  have hnR1 := hnR.out
                  rw [if_pos (by omega)] at hnR1
                  have hlti : decide ((L : Int) < (u.size : Int)) = true := decide_eq_true (by omega)
                  rcases Nat.eq_zero_or_pos L with hL0 | hL0
                  · subst hL0
                    have hT0 : toHash u.data.toList = [] := by rw [htk.out]; rfl
                    rw [if_pos (.inl hT0)] at hnR1
                    have hXn : Aside0 (testX s.data.toList = (⟨!no, [], 0, [], z⟩, false)) := ⟨by rw [hX1.out, hnR1]⟩
                    clear hnR1 hT0 hul hout hnR htk
                    go_wp2_with fail
                    refine bodyPost_ret (results_test (a := .bool (!no)) (b := .string ⟨#[]⟩) (c := .int .i64 0) (d := .string ⟨#[]⟩) rfl (set4_block hTA.out _ _ _ _).1) rfl ?_
                    exact hfin.out _ ⟨#[]⟩ 0 ⟨#[]⟩ z false _ (set4_block hTA.out _ _ _ _).2 (by rw [hXn.out])
                  · obtain ⟨M, rfl⟩ : ∃ M, L = M + 1 := ⟨L - 1, by omega⟩
                    have hMu : M < u.size := by omega
                    have hcs := at_bAt u M hMu
                    have hlast : (toHash u.data.toList).getLast? = some (bAt u M) := by
                      rw [htk.out, List.getLast?_take, if_neg (by omega), Nat.add_sub_cancel]
                      have := drop_bAt u M hMu
                      have h2 := congrArg (fun l => l.head?) this
                      rw [List.head?_drop] at h2
                      rw [h2]; rfl
                    have hne0 : ¬ toHash u.data.toList = [] := fun h => by rw [h] at hlast; exact absurd hlast (by simp)
                    have hz0 : (((M + 1 : Nat) : Int) == 0) = false := by rw [beq_eq_false_iff_ne]; omega
                    have hwA := Aside0.mk (wnat (M := M) (by omega))
                    have hi0 : (0 : Int) ≤ (M : Int) := by omega
                    have hi1 : (M : Int) < (u.size : Int) := by omega
                    by_cases h32 : bAt u M = 32
                    · have hnb : ¬ (toHash u.data.toList = [] ∨ ¬ (toHash u.data.toList).getLast? = some 32) := by
                        rintro (h | h)
                        · exact hne0 h
                        · exact h (by rw [hlast, h32])
                      rw [if_neg hnb, Nat.add_sub_cancel] at hnR1
                      have hc32 : (((bAt u M).toNat : Int) != 32) = false := by rw [h32]; rfl
                      have hdl : (toHash u.data.toList).dropLast = u.data.toList.take M := by
                        rw [htk.out, List.dropLast_take (by omega), Nat.add_sub_cancel]
                      have hN := Aside0.mk hnR1
                      have hbr := Aside0.mk (fun W => bare_any (u.extract 0 M) W (by rw [ByteArray.size_extract]; omega))
                      rw [show (u.extract 0 M).data.toList = u.data.toList.take M by rw [Lib.extract_data, List.drop_zero, Nat.sub_zero]] at hbr
                      have hend : Aside0 (u.extract M u.size = mkD (u.data.toList.drop M)) := ⟨by
                        apply ByteArray.ext
                        rw [← Array.toList_inj, ext_dropG, mkD_list]⟩
                      rw [hdl] at hN
                      clear hnR1 hdl hlast hne0 h32
                      have hi1le : (M : Int) ≤ (u.size : Int) := by omega
                      have huA3 : Aside0 ((trimS (u.data.toList.take M)).length ≤ 65536 ∧ (u.data.toList.drop M).length ≤ 65536) := ⟨by
                        have h1 := trimS_len (u.data.toList.take M)
                        rw [List.length_take] at h1
                        rw [List.length_drop]; omega⟩
                      clear hul hLz htk hnR hout h3z huz hs3z hs2z hs1z h2z hpfA
                      have hw2 := hwA.out
                      go_wp2_with (go_at_call 63; (with_reducible refine (hbr.out _).mono ?_); rintro e w8 ⟨rfl, hb8_⟩; have hTB := Aside0.mk (twoR_below hTA.out hb8_); have FB := twoR_facts hTB.out; obtain ⟨⟨d0, d1, d2, d3⟩, _, _, f2⟩ := FB; clear hb8_)
                      go_meet
                      case rel => exact ⟨trimS (u.data.toList.take M), u.data.toList.drop M, ⟨hN.out, huA3.out.1, huA3.out.2⟩, by rw [← hend.out], ⟨twoR_set hTB.out 1 _⟩⟩
                    · rw [if_pos (.inr (fun h => h32 (by rw [hlast] at h; exact Option.some.inj h)))] at hnR1
                      have hc32 : (((bAt u M).toNat : Int) != 32) = true := bne_iff_ne.2 (n32G h32)
                      have hXn : Aside0 (testX s.data.toList = (⟨!no, [], 0, [], z⟩, false)) := ⟨by rw [hX1.out, hnR1]⟩
                      clear hnR1 hlast hne0 hul hout hnR htk
                      have hw2 := hwA.out
                      go_wp2_with fail
                      refine bodyPost_ret (results_test (a := .bool (!no)) (b := .string ⟨#[]⟩) (c := .int .i64 0) (d := .string ⟨#[]⟩) rfl (set4_block hTA.out _ _ _ _).1) rfl ?_
                      exact hfin.out _ ⟨#[]⟩ 0 ⟨#[]⟩ z false _ (set4_block hTA.out _ _ _ _).2 (by rw [hXn.out])
                · have hnR1 := hnR.out
                  rw [if_neg (by omega)] at hnR1
                  have hN := Aside0.mk hnR1
                  have hlti : decide ((L : Int) < (u.size : Int)) = false := decide_eq_false (by omega)
                  have hLe : L = u.size := by omega
                  have hbr := Aside0.mk (fun W => bare_any u W (by omega))
                  have hend : Aside0 (u.extract L u.size = mkD []) := ⟨by
                    apply ByteArray.ext
                    rw [← Array.toList_inj, ext_dropG, mkD_list, List.drop_of_length_le (by omega)]⟩
                  have huA3 : Aside0 ((trimS u.data.toList).length ≤ 65536) := ⟨by have h1 := trimS_len u.data.toList; omega⟩
                  clear hnR1 hul hout hnR htk hlt
                  subst hLe
                  go_wp2_with (go_at_call 63; (with_reducible refine (hbr.out _).mono ?_); rintro e w8 ⟨rfl, hb8_⟩; have hTB := Aside0.mk (twoR_below hTA.out hb8_); have FB := twoR_facts hTB.out; obtain ⟨⟨d0, d1, d2, d3⟩, _, _, f2⟩ := FB; clear hb8_)
                  go_meet
                  case rel => exact ⟨trimS u.data.toList, [], ⟨hN.out, huA3.out, by simp⟩, rfl, ⟨twoR_set hTB.out 1 _⟩⟩
          case rest =>
            obtain ⟨n, t, hN, rfl, hT9⟩ := hcut
            have hXn : Aside0 (testX s.data.toList = (⟨!no, n, (dirR t).1, (dirR t).2.1, z⟩, (dirR t).2.2.isEmpty && okName n && okText (dirR t).2.1)) := ⟨by rw [hX1.out, hN.out.1]⟩
            obtain ⟨nB, hnB⟩ : ∃ nB, mkD n = nB := ⟨_, rfl⟩
            obtain ⟨tB, htB⟩ : ∃ tB, mkD t = tB := ⟨_, rfl⟩
            have hnL : Aside0 (nB.data.toList = n) := ⟨by rw [← hnB, mkD_list]⟩
            have htL : Aside0 (tB.data.toList = t) := ⟨by rw [← htB, mkD_list]⟩
            have hnz : nB.size ≤ 65536 := by rw [← hnB, mkD_size]; exact hN.out.2.1
            have htz : tB.size ≤ 65536 := by rw [← htB, mkD_size]; exact hN.out.2.2
            rw [hnB] at hT9
            rw [htB]
            clear hnB htB hN hX1 hs1z hs2z hs3z h2z hs1LA hokA
            obtain ⟨M1, hM1⟩ : ∃ M1, Lib.hasPrefix t (32 :: 35 :: sk) = M1 := ⟨_, rfl⟩
            obtain ⟨M2, hM2⟩ : ∃ M2, Lib.hasPrefix t (32 :: 35 :: td) = M2 := ⟨_, rfl⟩
            have hd1 := Aside0.mk (fun W => beg_any tB ⟨#[32, 35, 32, 83, 75, 73, 80]⟩ W)
            have hd2 := Aside0.mk (fun W => beg_any tB ⟨#[32, 35, 32, 84, 79, 68, 79]⟩ W)
            rw [show (⟨#[32, 35, 32, 83, 75, 73, 80]⟩ : ByteArray).data.toList = 32 :: 35 :: sk from rfl, htL.out, hM1] at hd1
            rw [show (⟨#[32, 35, 32, 84, 79, 68, 79]⟩ : ByteArray).data.toList = 32 :: 35 :: td from rfl, htL.out, hM2] at hd2
            obtain ⟨u, hu⟩ : ∃ u, tB.extract 7 tB.size = u := ⟨_, rfl⟩
            have huL : Aside0 (u.data.toList = t.drop 7) := ⟨by rw [← hu, ext_dropG, htL.out]⟩
            have huz : u.size ≤ 65536 := by rw [← hu, ByteArray.size_extract]; omega
            obtain ⟨b1, hb1⟩ : ∃ b1, Lib.hasPrefix (t.drop 7) [32] = b1 := ⟨_, rfl⟩
            have hd3 := Aside0.mk (fun W => beg_any u ⟨#[32]⟩ W)
            rw [show (⟨#[32]⟩ : ByteArray).data.toList = [32] from rfl, huL.out, hb1] at hd3
            have hbr := Aside0.mk (fun W => bare_any u W (by omega))
            rw [huL.out] at hbr
            have hdR : Aside0 (dirR t = if M1 = true then (if b1 = true then (1, trimS (t.drop 7), []) else (1, [], t.drop 7)) else if M2 = true then (if b1 = true then (2, trimS (t.drop 7), []) else (2, [], t.drop 7)) else (0, [], t)) := ⟨by unfold dirR; rw [hM1, hM2, hb1]⟩
            have hz7 : Aside0 (M1 = true ∨ M2 = true → 7 ≤ tB.size) := ⟨by
              rintro (h | h)
              · obtain ⟨r, hr⟩ := (hp_iff _ _).1 (hM1.trans h)
                rw [size_len, htL.out, hr]; simp [sk]
              · obtain ⟨r, hr⟩ := (hp_iff _ _).1 (hM2.trans h)
                rw [size_len, htL.out, hr]; simp [td]⟩
            have huA := Aside0.mk hu
            have huM : Aside0 (u = mkD (t.drop 7)) := ⟨by rw [← huL.out, mkD_of]⟩
            have htM : Aside0 (tB = mkD t) := ⟨by rw [← htL.out, mkD_of]⟩
            have hfrz : Aside0 (∀ W, TwoR w W #[.bool (!no), .string nB, .int .i64 0, .string ⟨#[]⟩] → True) := ⟨fun _ _ => trivial⟩
            clear hM1 hM2 hb1 hu
            go_upto_block 2 with fail
            go_cut [0] (fun v0 wx => v0 = .string (mkD (dirR t).2.2) ∧ Aside0 (TwoR w wx #[.bool (!no), .string nB, .int .i64 (dirR t).1, .string (mkD (dirR t).2.1)]))
            case first =>
              go_wp2_with fail
              go_loopw [0, 10] (fun v0 kv wr => ∃ k : Nat, v0 = .string tB ∧ kv = .int .i64 k ∧ 1 ≤ k ∧ k ≤ 3 ∧ Aside0 (2 ≤ k → M1 = false) ∧ Aside0 (3 ≤ k → M2 = false) ∧ Aside0 (TwoR w wr #[.bool (!no), .string nB, .int .i64 0, .string ⟨#[]⟩])) (fun _ kv _ => 4 - (Go.RowKit.intOf kv).toNat)
              case atStart => exact ⟨1, rfl, rfl, by omega, by omega, ⟨fun h => by omega⟩, ⟨fun h => by omega⟩, hT9⟩
              case round =>
                obtain ⟨k, rfl, rfl, hk0, hk3, hm1, hm2, hTr⟩ := hrel
                have hTa := Aside0.mk (twoR_below hTr.out ((Below.refl wr.heap.size wr).alloc (Nat.le_refl _) (.cells #[.string ⟨#[]⟩, .string ⟨#[32, 35, 32, 83, 75, 73, 80]⟩, .string ⟨#[32, 35, 32, 84, 79, 68, 79]⟩] 9)))
                rcases (show k = 3 ∨ k = 1 ∨ k = 2 by omega) with rfl | rfl | rfl
                · clear hk0 hk3
                  have e1 : Aside0 (dirR t = (0, [], t)) := ⟨by rw [hdR.out, hm1.out (by omega), hm2.out (by omega)]; rfl⟩
                  go_wp2_with fail
                  go_meet
                  case rel => exact ⟨by rw [e1.out, ← htM.out], ⟨by rw [e1.out]; exact hTr.out⟩⟩
                · clear hk0 hk3
                  have huE := huA.out
                  cases hmt : M1
                  · rw [hmt] at hd1
                    have hmf := Aside0.mk hmt
                    clear hmt
                    go_wp2_with (go_at_call 42; ((with_reducible refine (hd1.out _).mono ?_); rintro e w11 ⟨rfl, hb11⟩; have hT11 := Aside0.mk (twoR_below hTa.out hb11); clear hb11))
                    go_roundw
                    case rel => exact ⟨2, rfl, by go_num, by omega, by omega, ⟨fun _ => by first | trivial | exact hmf.out⟩, ⟨fun h => by omega⟩, hT11⟩
                    case measure => simp [Go.RowKit.intOf] <;> omega
                  · have h7 := hz7.out (.inl hmt)
                    rw [hmt] at hd1
                    cases hbt : b1
                    · have e1 : Aside0 (dirR t = (1, [], t.drop 7)) := ⟨by rw [hdR.out, hmt, hbt]; rfl⟩
                      rw [hbt] at hd3
                      clear hmt hbt
                      go_wp2_with (first | (go_at_call 42; first | ((with_reducible refine (hd1.out _).mono ?_); rintro e w11 ⟨rfl, hb11⟩; have hT11 := Aside0.mk (twoR_below hTa.out hb11); have F := twoR_facts hT11.out; obtain ⟨⟨d0, d1, d2, d3⟩, _, _, f2⟩ := F; clear hb11) | ((with_reducible refine (hd3.out _).mono ?_); rintro e w12 ⟨rfl, hb12⟩; have hT12 : Aside0 (TwoR w w12 #[.bool (!no), .string nB, .int .i64 1, .string ⟨#[]⟩]) := ⟨twoR_below (twoR_set hT11.out 2 (.int .i64 1)) hb12⟩; clear hb12)))
                      go_meet
                      case rel => exact ⟨by rw [e1.out, ← huM.out], ⟨by rw [e1.out]; exact hT12.out⟩⟩
                    · have e1 : Aside0 (dirR t = (1, trimS (t.drop 7), [])) := ⟨by rw [hdR.out, hmt, hbt]; rfl⟩
                      rw [hbt] at hd3
                      clear hmt hbt
                      go_wp2_with (first | (go_at_call 42; first | ((with_reducible refine (hd1.out _).mono ?_); rintro e w11 ⟨rfl, hb11⟩; have hT11 := Aside0.mk (twoR_below hTa.out hb11); have F := twoR_facts hT11.out; obtain ⟨⟨d0, d1, d2, d3⟩, _, _, f2⟩ := F; clear hb11) | ((with_reducible refine (hd3.out _).mono ?_); rintro e w12 ⟨rfl, hb12⟩; have hT12 : Aside0 (TwoR w w12 #[.bool (!no), .string nB, .int .i64 1, .string ⟨#[]⟩]) := ⟨twoR_below (twoR_set hT11.out 2 (.int .i64 1)) hb12⟩; clear hb12)) | (go_at_call 63; (with_reducible refine (hbr.out _).mono ?_); rintro e w13 ⟨rfl, hb13⟩; have hT13 := Aside0.mk (twoR_below hT12.out hb13); have F := twoR_facts hT13.out; obtain ⟨⟨g0, g1, g2, g3⟩, _, _, f3⟩ := F; clear hb13))
                      go_meet
                      case rel => exact ⟨by rw [e1.out]; rfl, ⟨by rw [e1.out]; exact twoR_set hT13.out 3 _⟩⟩
                · clear hk0 hk3
                  have huE := huA.out
                  cases hmt : M2
                  · rw [hmt] at hd2
                    have hmf := Aside0.mk hmt
                    clear hmt
                    go_wp2_with (go_at_call 42; ((with_reducible refine (hd2.out _).mono ?_); rintro e w11 ⟨rfl, hb11⟩; have hT11 := Aside0.mk (twoR_below hTa.out hb11); clear hb11))
                    go_roundw
                    case rel => exact ⟨3, rfl, by go_num, by omega, by omega, ⟨fun _ => hm1.out (by omega)⟩, ⟨fun _ => by first | trivial | exact hmf.out⟩, hT11⟩
                    case measure => simp [Go.RowKit.intOf] <;> omega
                  · have h7 := hz7.out (.inr hmt)
                    rw [hmt] at hd2
                    cases hbt : b1
                    · have e1 : Aside0 (dirR t = (2, [], t.drop 7)) := ⟨by rw [hdR.out, hm1.out (by omega), hmt, hbt]; rfl⟩
                      rw [hbt] at hd3
                      clear hmt hbt
                      go_wp2_with (first | (go_at_call 42; first | ((with_reducible refine (hd2.out _).mono ?_); rintro e w11 ⟨rfl, hb11⟩; have hT11 := Aside0.mk (twoR_below hTa.out hb11); have F := twoR_facts hT11.out; obtain ⟨⟨d0, d1, d2, d3⟩, _, _, f2⟩ := F; clear hb11) | ((with_reducible refine (hd3.out _).mono ?_); rintro e w12 ⟨rfl, hb12⟩; have hT12 : Aside0 (TwoR w w12 #[.bool (!no), .string nB, .int .i64 2, .string ⟨#[]⟩]) := ⟨twoR_below (twoR_set hT11.out 2 (.int .i64 2)) hb12⟩; clear hb12)))
                      go_meet
                      case rel => exact ⟨by rw [e1.out, ← huM.out], ⟨by rw [e1.out]; exact hT12.out⟩⟩
                    · have e1 : Aside0 (dirR t = (2, trimS (t.drop 7), [])) := ⟨by rw [hdR.out, hm1.out (by omega), hmt, hbt]; rfl⟩
                      rw [hbt] at hd3
                      clear hmt hbt
                      go_wp2_with (first | (go_at_call 42; first | ((with_reducible refine (hd2.out _).mono ?_); rintro e w11 ⟨rfl, hb11⟩; have hT11 := Aside0.mk (twoR_below hTa.out hb11); have F := twoR_facts hT11.out; obtain ⟨⟨d0, d1, d2, d3⟩, _, _, f2⟩ := F; clear hb11) | ((with_reducible refine (hd3.out _).mono ?_); rintro e w12 ⟨rfl, hb12⟩; have hT12 : Aside0 (TwoR w w12 #[.bool (!no), .string nB, .int .i64 2, .string ⟨#[]⟩]) := ⟨twoR_below (twoR_set hT11.out 2 (.int .i64 2)) hb12⟩; clear hb12)) | (go_at_call 63; (with_reducible refine (hbr.out _).mono ?_); rintro e w13 ⟨rfl, hb13⟩; have hT13 := Aside0.mk (twoR_below hT12.out hb13); have F := twoR_facts hT13.out; obtain ⟨⟨g0, g1, g2, g3⟩, _, _, f3⟩ := F; clear hb13))
                      go_meet
                      case rel => exact ⟨by rw [e1.out]; rfl, ⟨by rw [e1.out]; exact twoR_set hT13.out 3 _⟩⟩
            case rest =>
              obtain ⟨rfl, hT10⟩ := hcut
              obtain ⟨d, hd⟩ : ∃ d, (dirR t).1 = d := ⟨_, rfl⟩
              obtain ⟨yL, hyL0⟩ : ∃ yL, (dirR t).2.1 = yL := ⟨_, rfl⟩
              obtain ⟨rL, hrL0⟩ : ∃ rL, (dirR t).2.2 = rL := ⟨_, rfl⟩
              rw [hd, hyL0, hrL0] at hXn
              rw [hd, hyL0] at hT10
              rw [hrL0]
              obtain ⟨yB, hyB⟩ : ∃ yB, mkD yL = yB := ⟨_, rfl⟩
              obtain ⟨rB, hrB⟩ : ∃ rB, mkD rL = rB := ⟨_, rfl⟩
              have hyL : Aside0 (yB.data.toList = yL) := ⟨by rw [← hyB, mkD_list]⟩
              have hrT : rB.toList = rL := by rw [toL_data, ← hrB, mkD_list]
              rw [hyB] at hT10
              rw [hrB]
              clear hd hyL0 hrL0 hyB hrB hd1 hd2 hd3 hbr hdR hz7 huA huM htM hfrz huL htL huz htz hT9
              obtain ⟨on, hon⟩ : ∃ on, okName n = on := ⟨_, rfl⟩
              obtain ⟨oy, hoy⟩ : ∃ oy, okText yL = oy := ⟨_, rfl⟩
              have hinC := Aside0.mk (fun W => isn_any nB W (by omega))
              rw [hnL.out, hon] at hinC
              have hirC := Aside0.mk (fun W => isr_any yB W)
              rw [hyL.out, hoy] at hirC
              rw [hon, hoy] at hXn
              clear hon hoy
              have hTd := Aside0.mk (twoR_below hT10.out (pw_below_drewN (Below.refl _ _) 1))
              have F10 := twoR_facts hT10.out
              obtain ⟨⟨c0, c1, c2, c3⟩, ⟨z0, z1, z2, z3⟩, f0, _⟩ := F10
              cases hre : rL.isEmpty
              · have hs0A : (rB.toList == []) = false := by rw [hrT]; cases rL with
                  | nil => cases hre
                  | cons _ _ => rfl
                rw [hre] at hXn
                clear hre hrT
                go_upto_region 35 with fail
                refine Sq.start TR35 [.p 1 (some 104), .p 2 (some 105), .p 3 (some 106), .p 4 (some 107), .p 5 (some 108), .p 6 (some 109), .p 7 (some 110), .p 8 (some 111), .p 9 (some 112), .p 10 (some 113), .p 11 (some 114), .p 12 (some 115), .p 13 (some 116), .r 0 (some 103), .z 14 none, .p 15 (some 3), .p 16 (some 4)] [14] (fun w' => w'.cell? ⟨w.heap.size + 1, 0, none⟩ = some (.bool (!no)) ∧ w'.cell? ⟨w.heap.size + 1, 1, none⟩ = some (.string nB) ∧ w'.cell? ⟨w.heap.size + 1, 2, none⟩ = some (.int .i64 d) ∧ w'.cell? ⟨w.heap.size + 1, 3, none⟩ = some (.string yB)) (by kernel_rfl) TR35_eq (by kernel_rfl) ⟨c0, c1, c2, c3⟩ (fun hHeld => ?_)
                iterate 4 (apply Sq.step_p; rfl; rfl; exact fun _ _ _ h => h; refine Or.inl ⟨by rfl, ?_⟩; intro w'; go_simp; with_reducible rfl; simp only [Act.put, List.setIfInBounds_toArray, List.set_cons_zero, List.set_cons_succ, i64_w, i32_w]; rfl)
                iterate 3 (apply Sq.step_p; rfl; rfl; exact fun _ _ _ h => h; exact Or.inr ⟨by rfl, rfl⟩; simp only [Act.put, List.setIfInBounds_toArray, List.set_cons_zero, List.set_cons_succ, i64_w, i32_w]; rfl)
                iterate 2 (apply Sq.step_p; rfl; rfl; exact fun _ _ _ h => h; refine Or.inl ⟨by rfl, ?_⟩; intro w'; go_simp; with_reducible rfl; simp only [Act.put, List.setIfInBounds_toArray, List.set_cons_zero, List.set_cons_succ, i64_w, i32_w]; rfl)
                iterate 3 (apply Sq.step_p; rfl; rfl; exact fun _ _ _ h => h; exact Or.inr ⟨by rfl, rfl⟩; simp only [Act.put, List.setIfInBounds_toArray, List.set_cons_zero, List.set_cons_succ, i64_w, i32_w]; rfl)
                apply Sq.step_p; rfl; rfl; exact fun _ _ _ h => h; refine Or.inl ⟨by rfl, ?_⟩; intro w'; go_simp; with_reducible rfl; simp only [Act.put, List.setIfInBounds_toArray, List.set_cons_zero, List.set_cons_succ, i64_w, i32_w]; rfl
                apply Sq.step_r; rfl; rfl; exact fun _ _ _ h => h; exact hHeld; refine Or.inl ⟨by rfl, ?_⟩; rintro w' ⟨s0, s1, s2, s3⟩; go_simp; with_reducible rfl; simp only [Act.put, List.setIfInBounds_toArray, List.set_cons_zero, List.set_cons_succ, i64_w, i32_w]; rfl
                refine Sq.step_z rfl rfl (fun K hK => ?_)
                go_simp
                refine hK.out _ _ ?_
                clear hK K
                iterate 2 (apply Sq.step_p; rfl; rfl; exact fun _ _ _ h => h; refine Or.inl ⟨by rfl, ?_⟩; intro w'; go_simp; with_reducible rfl; simp only [Act.put, List.setIfInBounds_toArray, List.set_cons_zero, List.set_cons_succ, i64_w, i32_w]; rfl)
                refine Sq.done ?_
                go_wp2_with fail
                refine bodyPost_ret (results_test (a := .bool (!no)) (b := .string nB) (c := .int .i64 d) (d := .string yB) rfl (set4_block hTd.out _ _ _ _).1) rfl ?_
                exact hfin.out _ nB d yB z false _ (set4_block hTd.out _ _ _ _).2 (by rw [hXn.out, hnL.out, hyL.out]; rfl)
              · have hs0A : (rB.toList == []) = true := by rw [hrT]; cases rL with
                  | nil => rfl
                  | cons _ _ => cases hre
                rw [hre] at hXn
                clear hre hrT
                go_upto_region 35 with fail
                cases on
                · refine Sq.start TR35 [.p 1 (some 104), .p 2 (some 105), .p 3 (some 106), .p 4 (some 107), .p 5 (some 108), .r 0 (some 103), .h 6 (some 109), .h 7 (some 110), .p 8 (some 111), .p 9 (some 112), .p 10 (some 113), .p 11 (some 114), .p 12 (some 115), .p 13 (some 116), .z 14 none, .p 15 (some 3), .p 16 (some 4)] [14] (fun w' => w'.cell? ⟨w.heap.size + 1, 0, none⟩ = some (.bool (!no)) ∧ w'.cell? ⟨w.heap.size + 1, 1, none⟩ = some (.string nB) ∧ w'.cell? ⟨w.heap.size + 1, 2, none⟩ = some (.int .i64 d) ∧ w'.cell? ⟨w.heap.size + 1, 3, none⟩ = some (.string yB)) (by kernel_rfl) TR35_eq (by kernel_rfl) ⟨c0, c1, c2, c3⟩ (fun hHeld => ?_)
                  iterate 5 (apply Sq.step_p; rfl; rfl; exact fun _ _ _ h => h; refine Or.inl ⟨by rfl, ?_⟩; intro w'; go_simp; with_reducible rfl; simp only [Act.put, List.setIfInBounds_toArray, List.set_cons_zero, List.set_cons_succ, i64_w, i32_w]; rfl)
                  apply Sq.step_r; rfl; rfl; exact fun _ _ _ h => h; exact hHeld; refine Or.inl ⟨by rfl, ?_⟩; rintro w' ⟨s0, s1, s2, s3⟩; go_simp; with_reducible rfl; simp only [Act.put, List.setIfInBounds_toArray, List.set_cons_zero, List.set_cons_succ, i64_w, i32_w]; rfl
                  refine Sq.step_h rfl rfl (fun K hK => ?_)
                  go_simp
                  refine hK.out _ _ ⟨hHeld.1, hHeld.2.1, hHeld.2.2.1, hHeld.2.2.2⟩ (fun hHeld => ?_)
                  clear hK K
                  refine Sq.step_h rfl rfl (fun K hK => ?_)
                  refine goes_ Tryz.func64 (by kernel_rfl) rfl #[.string nB] (by rfl) rfl rfl (by simp only [List.map_toArray, List.map_cons, List.map_nil]; rfl) ?_
                  with_reducible refine (hinC.out _).mono ?_
                  rintro e w21 ⟨rfl, hb21⟩
                  refine ⟨_, rfl, ?_⟩
                  refine hK.out _ _ ⟨pw_cell_below hb21 hHeld.1, pw_cell_below hb21 hHeld.2.1, pw_cell_below hb21 hHeld.2.2.1, pw_cell_below hb21 hHeld.2.2.2⟩ (fun hHeld => ?_)
                  clear hK K
                  refine Sq.norm (a' := ?_) ?_ ?_
                  rotate_left
                  · show Act.put _ (some 110) _ = _
                    simp only [Act.put, List.setIfInBounds_toArray, List.set_cons_zero, List.set_cons_succ, i64_w, i32_w]
                    rfl
                  iterate 2 (apply Sq.step_p; rfl; rfl; exact fun _ _ _ h => h; refine Or.inl ⟨by rfl, ?_⟩; intro w'; go_simp; with_reducible rfl; simp only [Act.put, List.setIfInBounds_toArray, List.set_cons_zero, List.set_cons_succ, i64_w, i32_w]; rfl)
                  iterate 3 (apply Sq.step_p; rfl; rfl; exact fun _ _ _ h => h; exact Or.inr ⟨by rfl, rfl⟩; simp only [Act.put, List.setIfInBounds_toArray, List.set_cons_zero, List.set_cons_succ, i64_w, i32_w]; rfl)
                  apply Sq.step_p; rfl; rfl; exact fun _ _ _ h => h; refine Or.inl ⟨by rfl, ?_⟩; intro w'; go_simp; with_reducible rfl; simp only [Act.put, List.setIfInBounds_toArray, List.set_cons_zero, List.set_cons_succ, i64_w, i32_w]; rfl
                  have hTe := Aside0.mk (twoR_below hTd.out hb21)
                  have FE := twoR_facts hTe.out
                  obtain ⟨_, ⟨z0, z1, z2, z3⟩, f0, _⟩ := FE
                  refine Sq.step_z rfl rfl (fun K hK => ?_)
                  go_simp
                  refine hK.out _ _ ?_
                  clear hK K
                  iterate 2 (apply Sq.step_p; rfl; rfl; exact fun _ _ _ h => h; refine Or.inl ⟨by rfl, ?_⟩; intro w'; go_simp; with_reducible rfl; simp only [Act.put, List.setIfInBounds_toArray, List.set_cons_zero, List.set_cons_succ, i64_w, i32_w]; rfl)
                  refine Sq.done ?_
                  go_wp2_with fail
                  refine bodyPost_ret (results_test (a := .bool (!no)) (b := .string nB) (c := .int .i64 d) (d := .string yB) rfl (set4_block hTe.out _ _ _ _).1) rfl ?_
                  exact hfin.out _ nB d yB z false _ (set4_block hTe.out _ _ _ _).2 (by rw [hXn.out, hnL.out, hyL.out]; rfl)
                · refine Sq.start TR35 [.p 1 (some 104), .p 2 (some 105), .p 3 (some 106), .p 4 (some 107), .p 5 (some 108), .r 0 (some 103), .h 6 (some 109), .h 7 (some 110), .p 8 (some 111), .p 9 (some 112), .p 10 (some 113), .r 11 (some 114), .h 12 (some 115), .p 13 (some 116), .z 14 none, .p 15 (some 3), .p 16 (some 4)] [14] (fun w' => w'.cell? ⟨w.heap.size + 1, 0, none⟩ = some (.bool (!no)) ∧ w'.cell? ⟨w.heap.size + 1, 1, none⟩ = some (.string nB) ∧ w'.cell? ⟨w.heap.size + 1, 2, none⟩ = some (.int .i64 d) ∧ w'.cell? ⟨w.heap.size + 1, 3, none⟩ = some (.string yB)) (by kernel_rfl) TR35_eq (by kernel_rfl) ⟨c0, c1, c2, c3⟩ (fun hHeld => ?_)
                  iterate 5 (apply Sq.step_p; rfl; rfl; exact fun _ _ _ h => h; refine Or.inl ⟨by rfl, ?_⟩; intro w'; go_simp; with_reducible rfl; simp only [Act.put, List.setIfInBounds_toArray, List.set_cons_zero, List.set_cons_succ, i64_w, i32_w]; rfl)
                  apply Sq.step_r; rfl; rfl; exact fun _ _ _ h => h; exact hHeld; refine Or.inl ⟨by rfl, ?_⟩; rintro w' ⟨s0, s1, s2, s3⟩; go_simp; with_reducible rfl; simp only [Act.put, List.setIfInBounds_toArray, List.set_cons_zero, List.set_cons_succ, i64_w, i32_w]; rfl
                  refine Sq.step_h rfl rfl (fun K hK => ?_)
                  go_simp
                  refine hK.out _ _ ⟨hHeld.1, hHeld.2.1, hHeld.2.2.1, hHeld.2.2.2⟩ (fun hHeld => ?_)
                  clear hK K
                  refine Sq.step_h rfl rfl (fun K hK => ?_)
                  refine goes_ Tryz.func64 (by kernel_rfl) rfl #[.string nB] (by rfl) rfl rfl (by simp only [List.map_toArray, List.map_cons, List.map_nil]; rfl) ?_
                  with_reducible refine (hinC.out _).mono ?_
                  rintro e w21 ⟨rfl, hb21⟩
                  refine ⟨_, rfl, ?_⟩
                  refine hK.out _ _ ⟨pw_cell_below hb21 hHeld.1, pw_cell_below hb21 hHeld.2.1, pw_cell_below hb21 hHeld.2.2.1, pw_cell_below hb21 hHeld.2.2.2⟩ (fun hHeld => ?_)
                  clear hK K
                  refine Sq.norm (a' := ?_) ?_ ?_
                  rotate_left
                  · show Act.put _ (some 110) _ = _
                    simp only [Act.put, List.setIfInBounds_toArray, List.set_cons_zero, List.set_cons_succ, i64_w, i32_w]
                    rfl
                  iterate 3 (apply Sq.step_p; rfl; rfl; exact fun _ _ _ h => h; refine Or.inl ⟨by rfl, ?_⟩; intro w'; go_simp; with_reducible rfl; simp only [Act.put, List.setIfInBounds_toArray, List.set_cons_zero, List.set_cons_succ, i64_w, i32_w]; rfl)
                  apply Sq.step_r; rfl; rfl; exact fun _ _ _ h => h; exact hHeld; refine Or.inl ⟨by rfl, ?_⟩; rintro w' ⟨s0, s1, s2, s3⟩; go_simp; with_reducible rfl; simp only [Act.put, List.setIfInBounds_toArray, List.set_cons_zero, List.set_cons_succ, i64_w, i32_w]; rfl
                  refine Sq.step_h rfl rfl (fun K hK => ?_)
                  refine goes_ Tryz.func65 (by kernel_rfl) rfl #[.string yB] (by rfl) rfl rfl (by simp only [List.map_toArray, List.map_cons, List.map_nil]; rfl) ?_
                  with_reducible refine (hirC.out _).mono ?_
                  rintro e w22 ⟨rfl, hb22⟩
                  refine ⟨_, rfl, ?_⟩
                  refine hK.out _ _ ⟨pw_cell_below hb22 hHeld.1, pw_cell_below hb22 hHeld.2.1, pw_cell_below hb22 hHeld.2.2.1, pw_cell_below hb22 hHeld.2.2.2⟩ (fun hHeld => ?_)
                  clear hK K
                  refine Sq.norm (a' := ?_) ?_ ?_
                  rotate_left
                  · show Act.put _ (some 115) _ = _
                    simp only [Act.put, List.setIfInBounds_toArray, List.set_cons_zero, List.set_cons_succ, i64_w, i32_w]
                    rfl
                  apply Sq.step_p; rfl; rfl; exact fun _ _ _ h => h; refine Or.inl ⟨by rfl, ?_⟩; intro w'; go_simp; with_reducible rfl; simp only [Act.put, List.setIfInBounds_toArray, List.set_cons_zero, List.set_cons_succ, i64_w, i32_w]; rfl
                  have hTe := Aside0.mk (twoR_below hTd.out hb21)
                  have FE := twoR_facts hTe.out
                  obtain ⟨_, ⟨z0, z1, z2, z3⟩, f0, _⟩ := FE
                  have hTf := Aside0.mk (twoR_below hTe.out hb22)
                  have FF := twoR_facts hTf.out
                  obtain ⟨_, ⟨z0, z1, z2, z3⟩, f0, _⟩ := FF
                  refine Sq.step_z rfl rfl (fun K hK => ?_)
                  go_simp
                  refine hK.out _ _ ?_
                  clear hK K
                  iterate 2 (apply Sq.step_p; rfl; rfl; exact fun _ _ _ h => h; refine Or.inl ⟨by rfl, ?_⟩; intro w'; go_simp; with_reducible rfl; simp only [Act.put, List.setIfInBounds_toArray, List.set_cons_zero, List.set_cons_succ, i64_w, i32_w]; rfl)
                  refine Sq.done ?_
                  go_wp2_with fail
                  refine bodyPost_ret (results_test (a := .bool (!no)) (b := .string nB) (c := .int .i64 d) (d := .string yB) rfl (set4_block hTf.out _ _ _ _).1) rfl ?_
                  exact hfin.out _ nB d yB z oy _ (set4_block hTf.out _ _ _ _).2 (by rw [hXn.out, hnL.out, hyL.out]; rfl)
end Go.Proofs.YtallfkecjibpmaaGreatDoor.G
