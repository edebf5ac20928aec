/- Of this claim's texts (RdD): the declarations that the claim reaches (slimclaim.py). -/
import Derived.Handy
import Derived.Deep.RegionHeld3
import Derived.Test.YtallfkecjibpmaaDoorVRdC
import Derived.Test.YtallfkecjibpmaaDoorVSeq
set_option linter.unusedVariables false
set_option linter.unusedSimpArgs false
namespace Go.Proofs.YtallfkecjibpmaaDoor.G
open Go.RowKit Go.Proofs.YtallfkecjibpmaaDoorW.PrintWords Go.Proofs.YtallfkecjibpmaaDoorW.PrintMore Go.Proofs.YtallfkecjibpmaaDoorW.PrintLast Go.Proofs.YtallfkecjibpmaaDoor.Nm Go.Lib Go.Proofs.YtallfkecjibpmaaDoor.Rd
def TD21 : Bool × List (Nat × Nat) := (true, [(0, 0), (0, 0), (2, 2), (4, 4), (12, 12), (20, 20), (36, 36), (68, 68), (65, 1), (511, 128)])
theorem TD21_eq : Sq.tabM .any (opsOf Tryd.f99 21) = TD21 := by kernel_rfl
def lineV (o : Bool) (n : ByteArray) (d : Int) (y : ByteArray) (z : Int) : Value := .agg #[.bool o, .string n, .int .i64 d, .string y, .int .i64 z]
def TwoL (w W : World) (cs : Array Value) : Prop := W.heap[w.heap.size]? = some (.cells #[.bool false, .string ⟨#[]⟩, .int .i64 0, .string ⟨#[]⟩, .int .i64 0] 97 (0, 0)) ∧ W.heap[w.heap.size + 1]? = some (.cells cs 97 (0, 0)) ∧ Below w.heap.size w W ∧ w.heap.size + 2 ≤ W.heap.size
theorem twoL_new (w : World) (cs : Array Value) : TwoL w ((w.alloc (.cells #[.bool false, .string ⟨#[]⟩, .int .i64 0, .string ⟨#[]⟩, .int .i64 0] 97)).alloc (.cells cs 97)) cs := by
  have h1 : (w.alloc (.cells #[.bool false, .string ⟨#[]⟩, .int .i64 0, .string ⟨#[]⟩, .int .i64 0] 97)).heap.size = w.heap.size + 1 := by simp
  have hb := (Below.refl w.heap.size w).alloc (Nat.le_refl _) (.cells #[.bool false, .string ⟨#[]⟩, .int .i64 0, .string ⟨#[]⟩, .int .i64 0] 97)
  have hb2 := (Below.refl (w.alloc (.cells #[.bool false, .string ⟨#[]⟩, .int .i64 0, .string ⟨#[]⟩, .int .i64 0] 97)).heap.size (w.alloc (.cells #[.bool false, .string ⟨#[]⟩, .int .i64 0, .string ⟨#[]⟩, .int .i64 0] 97))).alloc (Nat.le_refl _) (.cells cs 97)
  refine ⟨(hb2.block _ (by rw [h1]; omega)).trans (heap_alloc_new w _), ?_, hb.alloc (by rw [h1]; omega) _, by simp⟩
  have := heap_alloc_new (w.alloc (.cells #[.bool false, .string ⟨#[]⟩, .int .i64 0, .string ⟨#[]⟩, .int .i64 0] 97)) (.cells cs 97)
  rw [h1] at this
  exact this
theorem twoL_set {w W : World} {cs : Array Value} (h : TwoL w W cs) (i : Nat) (u : Value) : TwoL w (W.setCell ⟨w.heap.size + 1, i, none⟩ u) (cs.setIfInBounds i u) :=
  ⟨(Below.heap_setCell _ _ _ _ (by show w.heap.size ≠ w.heap.size + 1; omega)).trans h.1, blk_set h.2.1 i u, below_set h.2.2.1 (Nat.le_succ _) i u, by have := h.2.2.2; simpa [World.setCell] using this⟩
theorem twoL_below {w W W' : World} {cs : Array Value} (h : TwoL w W cs) (hb : Below W.heap.size W W') : TwoL w W' cs :=
  ⟨(hb.block _ (by have := h.2.2.2; omega)).trans h.1, (hb.block _ (by have := h.2.2.2; omega)).trans h.2.1, h.2.2.1.trans (hb.mono h.2.2.1.size), Nat.le_trans h.2.2.2 hb.size⟩
theorem cutb_any (s : ByteArray) (w : World) (hL : LaidW w) (hs : s.size < 4294967281) :
    Calls Tryd.prog 127 #[.string s, .string ⟨#[32]⟩] w fun e w' => ∃ a b, e = .returned (.tuple #[.string (mkD (toBl s.data.toList)), .string a, .bool b]) ∧ Below w.heap.size w w' := by
  obtain ⟨m, hm⟩ := hL.max
  refine (Tryd.strings_Cut s ⟨#[32]⟩ m w hs hm).mono fun e w' h => ?_
  obtain ⟨h1, n, h2⟩ := h
  rw [show (⟨#[32]⟩ : ByteArray).data.toList = [32] from rfl, cut_toBl] at h1
  exact ⟨_, _, h1, h2 ▸ pw_below_drewN (Below.refl _ _) n⟩
theorem cutP_len {s x y : List UInt8} {d : Int} (h : cutP s = some (x, d, y)) : x.length ≤ s.length := by
  unfold cutP at h
  cases hc : cutH s with
  | none =>
    rw [hc] at h
    simp only at h
    split at h
    · cases h; exact Nat.le_refl _
    · cases h
  | some u =>
    obtain ⟨b, a⟩ := u
    rw [hc] at h
    have e := (cutH_some hc).1
    simp only at h
    split at h
    · split at h
      · cases h
        rw [e, List.length_append]; omega
      · cases h
    · cases h
theorem twoL_facts {w W : World} {a b c d e : Value} (h : TwoL w W #[a, b, c, d, e]) :
    (W.cell? ⟨w.heap.size + 1, 0, none⟩ = some a ∧ W.cell? ⟨w.heap.size + 1, 1, none⟩ = some b ∧ W.cell? ⟨w.heap.size + 1, 2, none⟩ = some c ∧ W.cell? ⟨w.heap.size + 1, 3, none⟩ = some d ∧ W.cell? ⟨w.heap.size + 1, 4, none⟩ = some e) ∧
    (W.cell? ⟨w.heap.size, 0, none⟩ = some (.bool false) ∧ W.cell? ⟨w.heap.size, 1, none⟩ = some (.string ⟨#[]⟩) ∧ W.cell? ⟨w.heap.size, 2, none⟩ = some (.int .i64 0) ∧ W.cell? ⟨w.heap.size, 3, none⟩ = some (.string ⟨#[]⟩) ∧ W.cell? ⟨w.heap.size, 4, none⟩ = some (.int .i64 0)) ∧
    (∀ j, W.frozen? ⟨w.heap.size, j, none⟩ = false) ∧ (∀ j, W.frozen? ⟨w.heap.size + 1, j, none⟩ = false) := ⟨line_cells h.2.1, line_cells h.1, frozen_of h.1, frozen_of h.2.1⟩
theorem twoL_drew {w W : World} {cs : Array Value} (h : TwoL w W cs) : TwoL w W.drew cs := twoL_below h (pw_below_drewN (Below.refl _ _) 1)
theorem numSplit_len (x : List UInt8) : (numSplit x).2.length ≤ x.length := by
  unfold numSplit
  split
  · split
    · rw [List.length_drop]; omega
    · exact Nat.le_refl _
  · exact Nat.le_refl _
theorem results_line {tmps : Array Value} {W : World} {g : Nat} {a b c d e : Value} (hp : tmps.getD 2 undef = .pointer (some ⟨g, 0, none⟩)) (h : W.heap[g]? = some (.cells #[a, b, c, d, e] 97 (0, 0))) :
    (results Tryd.f99 tmps).run Tryd.prog W = .ok (.tuple #[.agg #[a, b, c, d, e], tmps.getD 3 undef]) W := by
  obtain ⟨c0, c1, c2, c3, c4⟩ := line_cells h
  have hp2 : tmps[2]?.getD undef = .pointer (some ⟨g, 0, none⟩) := by simpa using hp
  simp [results, Tryd.results99, go_sem, hp2, c0, c1, c2, c3, c4]
set_option maxHeartbeats 8000000 in
set_option maxRecDepth 100000 in
theorem test_any (s : ByteArray) (w : World) (hL : LaidW w) (hs : s.size ≤ 65536) :
    Calls Tryd.prog 99 #[.string s] w fun e w' => ∃ (o : Bool) (n : ByteArray) (d : Int) (y : ByteArray) (z : Int) (ob : Bool), e = .returned (.tuple #[lineV o n d y z, .bool ob]) ∧ Below w.heap.size w w' ∧
      (match testP s.data.toList with
        | some x => ob = true ∧ o = x.ok ∧ n = mkD x.name ∧ d = x.dir ∧ y = mkD x.reason ∧ z = x.num
        | none => ob = false) := by
  obtain ⟨Q, hQ⟩ : ∃ Q : Ending → World → Prop, Q = fun e w' => ∃ (o : Bool) (n : ByteArray) (d : Int) (y : ByteArray) (z : Int) (ob : Bool), e = .returned (.tuple #[lineV o n d y z, .bool ob]) ∧ Below w.heap.size w w' ∧
      (match testP s.data.toList with
        | some x => ob = true ∧ o = x.ok ∧ n = mkD x.name ∧ d = x.dir ∧ y = mkD x.reason ∧ z = x.num
        | none => ob = false) := ⟨_, rfl⟩
  rw [← hQ]
  have hfin : Aside0 (∀ (o : Bool) (n : ByteArray) (d : Int) (y : ByteArray) (z : Int) (ob : Bool) (w' : World), Below w.heap.size w w' →
      (match testP s.data.toList with
        | some x => ob = true ∧ o = x.ok ∧ n = mkD x.name ∧ d = x.dir ∧ y = mkD x.reason ∧ z = x.num
        | none => ob = false) → Q (.returned (.tuple #[lineV o n d y z, .bool ob])) w') := ⟨fun o n d y z ob w' h1 h2 => by rw [hQ]; exact ⟨o, n, d, y, z, ob, rfl, h1, h2⟩⟩
  clear hQ
  obtain ⟨no, hno⟩ : ∃ no, isNot s.data.toList = no := ⟨_, rfl⟩
  obtain ⟨s1, hs1⟩ : ∃ s1, mkD (afterNot s.data.toList) = s1 := ⟨_, rfl⟩
  have hc1 := Aside0.mk (fun W => cp_any s ⟨#[110, 111, 116, 32]⟩ W)
  rw [show (⟨#[110, 111, 116, 32]⟩ : ByteArray).data.toList = [110, 111, 116, 32] from rfl, show Lib.trimPrefix s.data.toList [110, 111, 116, 32] = afterNot s.data.toList from rfl, hs1, show Lib.hasPrefix s.data.toList [110, 111, 116, 32] = isNot s.data.toList from rfl, hno] at hc1
  have hs1L : Aside0 (s1.data.toList = afterNot s.data.toList) := ⟨by rw [← hs1, mkD_list]⟩
  have hs1z : s1.size ≤ 65536 := by
    have h := size_len s
    rw [← hs1, mkD_size]
    unfold afterNot
    split
    · rw [List.length_drop]; omega
    · omega
  obtain ⟨okp, hokp⟩ : ∃ okp, Lib.hasPrefix (afterNot s.data.toList) [111, 107] = okp := ⟨_, rfl⟩
  obtain ⟨s2, hs2⟩ : ∃ s2, mkD (Lib.trimPrefix (afterNot s.data.toList) [111, 107]) = s2 := ⟨_, rfl⟩
  have hc2 := Aside0.mk (fun W => cp_any s1 ⟨#[111, 107]⟩ W)
  rw [show (⟨#[111, 107]⟩ : ByteArray).data.toList = [111, 107] from rfl, hs1L.out, hs2, hokp] at hc2
  have htP : Aside0 (testP s.data.toList = if okp = true then bodyP no ((afterNot s.data.toList).drop 2) else none) := ⟨by unfold testP; rw [hokp, hno]⟩
  have hs2L : Aside0 (okp = true → s2.data.toList = (afterNot s.data.toList).drop 2) := ⟨fun h => by
    rw [← hs2, mkD_list]
    unfold Lib.trimPrefix
    rw [hokp, if_pos h]; rfl⟩
  have hs2z : s2.size ≤ 65536 := by
    have h := size_len s1
    rw [hs1L.out] at h
    rw [← hs2, mkD_size]
    unfold Lib.trimPrefix
    split
    · rw [List.length_drop]; omega
    · omega
  have hs1A := Aside0.mk hs1
  have hnoA := Aside0.mk hno
  have hs2A := Aside0.mk hs2
  have hokA := Aside0.mk hokp
  clear hs1 hno hs2 hokp
  go_enter Tryd.func99, Tryd.ntmps99
  go_upto_region 1 with fail
  go_cut [2, 3, 4] (fun v2 v3 v4 wx => v2 = .pointer (some ⟨w.heap.size, 0, none⟩) ∧ v3 = .bool false ∧ v4 = .pointer (some ⟨w.heap.size + 1, 0, none⟩) ∧ Aside0 (TwoL w wx #[.bool false, .string ⟨#[]⟩, .int .i64 0, .string ⟨#[]⟩, .int .i64 (-1)]))
  case first =>
    go_wp2_with fail
    go_meet
    case rel => exact ⟨rfl, rfl, rfl, ⟨twoL_new w _⟩⟩
  case rest =>
    obtain ⟨rfl, rfl, rfl, hT⟩ := hcut
    obtain ⟨d0, d1, d2, d3, d4⟩ := line_cells hT.out.2.1
    obtain ⟨z0, z1, z2, z3, z4⟩ := line_cells hT.out.1
    have f0 := frozen_of hT.out.2.1 0
    have f1 := frozen_of hT.out.2.1 1
    have f4 := frozen_of hT.out.2.1 4
    have q0 := frozen_of hT.out.1 0
    have q1 := frozen_of hT.out.1 1
    have q2 := frozen_of hT.out.1 2
    have q3 := frozen_of hT.out.1 3
    have q4 := frozen_of hT.out.1 4
    cases okp
    · go_wp2_with (first | (go_at_call 124; first | (with_reducible refine (hc1.out _).mono ?_; rintro e w1 ⟨rfl, rfl⟩) | (with_reducible refine (hc2.out _).mono ?_; rintro e w1 ⟨rfl, rfl⟩)))
      refine bodyPost_ret (results_line (a := .bool false) (b := .string ⟨#[]⟩) (c := .int .i64 0) (d := .string ⟨#[]⟩) (e := .int .i64 (-1)) rfl ?blk) rfl ?_
      case blk => exact blk_set (blk_set (blk_set (blk_set (blk_set hT.out.1 0 _) 1 _) 2 _) 3 _) 4 _
      refine hfin.out false ⟨#[]⟩ 0 ⟨#[]⟩ (-1) false _ ?_ (by rw [htP.out]; rfl)
      exact below_set (below_set (below_set (below_set (below_set hT.out.2.2.1 (Nat.le_refl _) _ _) (Nat.le_refl _) _ _) (Nat.le_refl _) _ _) (Nat.le_refl _) _ _) (Nat.le_refl _) _ _
    · have hs2L' : Aside0 (s2.data.toList = (afterNot s.data.toList).drop 2) := ⟨hs2L.out rfl⟩
      have htP' : Aside0 (testP s.data.toList = bodyP no s2.data.toList) := ⟨by rw [htP.out, hs2L'.out]; rfl⟩
      clear hs2L htP
      have hcut0 : Aside0 (∀ W : World, TwoL w W #[.bool false, .string ⟨#[]⟩, .int .i64 0, .string ⟨#[]⟩, .int .i64 (-1)] → Calls Tryd.prog 126 #[.pointer (some ⟨w.heap.size + 1, 0, none⟩), .string s2] (W.setCell ⟨w.heap.size + 1, 0, none⟩ (.bool (!no))) fun e w' => ∃ (r : ByteArray) (ob : Bool) (d : Int) (y : ByteArray), e = .returned (.tuple #[.string r, .bool ob]) ∧
          TwoL w w' #[.bool (!no), .string ⟨#[]⟩, .int .i64 d, .string y, .int .i64 (-1)] ∧ (match cutP s2.data.toList with
            | some (x, d', y') => ob = true ∧ r = mkD x ∧ d = d' ∧ y = mkD y'
            | none => ob = false)) :=
        ⟨fun W hT => (cut_any s2 (w.heap.size + 1) (.bool (!no)) (.string ⟨#[]⟩) (.int .i64 (-1)) w _ hL (below_set hT.2.2.1 (Nat.le_succ _) _ _) hs2z (Nat.le_succ _) (blk_set hT.2.1 0 _)).mono fun e w' ⟨r, ob, d, y, h1, h2, h3, h4, h5⟩ => ⟨r, ob, d, y, h1, ⟨(h3.2 w.heap.size (by have := hT.2.2.2; simp [World.setCell]; omega) (by omega)).trans (twoL_set hT 0 (.bool (!no))).1, h2, h4, by have h6 := h3.1; have := hT.2.2.2; simp [World.setCell] at h6; omega⟩, h5⟩⟩
      cases hcP : cutP s2.data.toList with
      | none =>
        have hcut : Aside0 (∀ W : World, TwoL w W #[.bool false, .string ⟨#[]⟩, .int .i64 0, .string ⟨#[]⟩, .int .i64 (-1)] → Calls Tryd.prog 126 #[.pointer (some ⟨w.heap.size + 1, 0, none⟩), .string s2] (W.setCell ⟨w.heap.size + 1, 0, none⟩ (.bool (!no))) fun e w' => ∃ (r : ByteArray) (d : Int) (y : ByteArray), e = .returned (.tuple #[.string r, .bool false]) ∧
          TwoL w w' #[.bool (!no), .string ⟨#[]⟩, .int .i64 d, .string y, .int .i64 (-1)]) := ⟨fun W hT => (hcut0.out W hT).mono fun e w' ⟨r, ob, d, y, h1, h2, h3⟩ => by
            rw [hcP] at h3
            subst h3
            exact ⟨r, d, y, h1, h2⟩⟩
        have hcN : Aside0 (testP s.data.toList = none) := ⟨by rw [htP'.out]; unfold bodyP; rw [hcP]⟩
        clear hcP hcut0
        go_wp2_with (first | (go_at_call 124; first | (with_reducible refine (hc1.out _).mono ?_; rintro e w1 ⟨rfl, rfl⟩) | (with_reducible refine (hc2.out _).mono ?_; rintro e w1 ⟨rfl, rfl⟩)))
        with_reducible refine (hcut.out _ hT.out).mono ?_
        rintro e w5 ⟨r, d, y, rfl, hT5⟩
        have hT5A := Aside0.mk hT5
        have hc5 := line_cells hT5.2.1
        have hz5 := line_cells hT5.1
        have q5 := frozen_of hT5.1
        obtain ⟨c0, c1, c2, c3, c4⟩ := hc5
        obtain ⟨z0, z1, z2, z3, z4⟩ := hz5
        clear hT5
        go_wp2_with fail
        refine bodyPost_ret (results_line (a := .bool (!no)) (b := .string ⟨#[]⟩) (c := .int .i64 d) (d := .string y) (e := .int .i64 (-1)) rfl ?blk) rfl ?_
        case blk => exact blk_set (blk_set (blk_set (blk_set (blk_set hT5A.out.1 0 _) 1 _) 2 _) 3 _) 4 _
        refine hfin.out _ ⟨#[]⟩ d y (-1) false _ ?_ ?_
        · exact below_set (below_set (below_set (below_set (below_set hT5A.out.2.2.1 (Nat.le_refl _) _ _) (Nat.le_refl _) _ _) (Nat.le_refl _) _ _) (Nat.le_refl _) _ _) (Nat.le_refl _) _ _
        · rw [hcN.out]
      | some xx =>
        obtain ⟨x, dd, yy⟩ := xx
        have hcut : Aside0 (∀ W : World, TwoL w W #[.bool false, .string ⟨#[]⟩, .int .i64 0, .string ⟨#[]⟩, .int .i64 (-1)] → Calls Tryd.prog 126 #[.pointer (some ⟨w.heap.size + 1, 0, none⟩), .string s2] (W.setCell ⟨w.heap.size + 1, 0, none⟩ (.bool (!no))) fun e w' => e = .returned (.tuple #[.string (mkD x), .bool true]) ∧
          TwoL w w' #[.bool (!no), .string ⟨#[]⟩, .int .i64 dd, .string (mkD yy), .int .i64 (-1)]) := ⟨fun W hT => (hcut0.out W hT).mono fun e w' ⟨r, ob, d, y, h1, h2, h3⟩ => by
            rw [hcP] at h3
            obtain ⟨ho, h4, h5, h6⟩ := h3
            rw [h1, ho, h4]
            rw [h5, h6] at h2
            exact ⟨rfl, h2⟩⟩
        have hbP : Aside0 (testP s.data.toList = match nameP (numSplit x).2 with | some n => some ⟨!no, n, dd, yy, (numSplit x).1⟩ | none => none) := ⟨by rw [htP'.out]; unfold bodyP; rw [hcP]; rfl⟩
        have hxz : x.length ≤ 65536 := by have h := cutP_len hcP; have h2 := size_len s2; omega
        clear hcP hcut0 htP' hs2L' hs2A hokA
        obtain ⟨r, hr⟩ : ∃ r, mkD x = r := ⟨_, rfl⟩
        obtain ⟨y, hy⟩ : ∃ y, mkD yy = y := ⟨_, rfl⟩
        rw [hr, hy] at hcut
        have hrL : Aside0 (r.data.toList = x) := ⟨by rw [← hr, mkD_list]⟩
        have hyA := Aside0.mk hy
        have hrz : r.size ≤ 65536 := by rw [← hr, mkD_size]; exact hxz
        clear hr hy hxz
        obtain ⟨s3, hs3⟩ : ∃ s3, mkD (numSplit x).2 = s3 := ⟨_, rfl⟩
        obtain ⟨z, hz⟩ : ∃ z, (numSplit x).1 = z := ⟨_, rfl⟩
        have hs3A := Aside0.mk hs3
        have hzA := Aside0.mk hz
        clear hs3 hz
        obtain ⟨bl, hbl⟩ : ∃ bl, Lib.hasPrefix x [32] = bl := ⟨_, rfl⟩
        obtain ⟨p, hp⟩ : ∃ p, mkD (Lib.trimPrefix x [32]) = p := ⟨_, rfl⟩
        have hc3 := Aside0.mk (fun W => cp_any r ⟨#[32]⟩ W)
        rw [show (⟨#[32]⟩ : ByteArray).data.toList = [32] from rfl, hrL.out, hp, hbl] at hc3
        have hblA := Aside0.mk hbl
        have hpA := Aside0.mk hp
        clear hbl hp
        go_upto_if 47 with (first | (go_at_call 124; first | (with_reducible refine (hc1.out _).mono ?_; rintro e w1 ⟨rfl, rfl⟩) | (with_reducible refine (hc2.out _).mono ?_; rintro e w1 ⟨rfl, rfl⟩) | (with_reducible refine (hc3.out _).mono ?_; rintro e w6 ⟨rfl, rfl⟩)) | (go_at_call 126; with_reducible refine (hcut.out _ hT.out).mono ?_; rintro e w5 ⟨rfl, hT5⟩; have hT5A := Aside0.mk hT5; clear hT5))
        clear hT d0 d1 d2 d3 d4 z0 z1 z2 z3 z4 f0 f1 f4 q0 q1 q2 q3 q4 hcut hc1 hc2 hc3
        go_cut [0] (fun v0 wx => v0 = .string s3 ∧ Aside0 (TwoL w wx #[.bool (!no), .string ⟨#[]⟩, .int .i64 dd, .string y, .int .i64 z]))
        case first =>
          cases bl
          · have e1 : numSplit x = (-1, x) := by unfold numSplit; rw [if_neg (by rw [hblA.out]; decide)]
            have e2 : Aside0 (r = s3) := ⟨by rw [← hs3A.out, e1, ← hrL.out, mkD_of]⟩
            have e3 : Aside0 (z = -1) := ⟨by rw [← hzA.out, e1]⟩
            clear e1
            go_wp2_with fail
            go_meet
            case rel => exact ⟨by rw [e2.out], ⟨by rw [e3.out]; exact hT5A.out⟩⟩
          · have hpL : p.data.toList = x.drop 1 := by rw [← hpA.out, mkD_list]; unfold Lib.trimPrefix; rw [if_pos hblA.out]; rfl
            have hpz : p.size ≤ 65536 := by have h1 := size_len p; have h2 := size_len r; rw [hpL, List.length_drop, ← hrL.out] at h1; omega
            have hcb := Aside0.mk (fun W hLW => cutb_any p W hLW (by omega))
            rw [hpL] at hcb
            obtain ⟨b, hb⟩ : ∃ b, mkD (toBl (x.drop 1)) = b := ⟨_, rfl⟩
            rw [hb] at hcb
            have hbL : b.data.toList = toBl (x.drop 1) := by rw [← hb, mkD_list]
            have hbz : 1 + b.size ≤ r.size := by
              have h1 := size_len b
              have h2 := size_len r
              rw [hbL] at h1
              rw [hrL.out] at h2
              have h3 : (toBl (x.drop 1)).length ≤ (x.drop 1).length := (List.takeWhile_sublist _).length_le
              rw [List.length_drop] at h3
              have h4 : 0 < x.length := by
                cases hx : x with
                | nil => have := hblA.out; rw [hx] at this; exact absurd this (by decide)
                | cons _ _ => simp
              omega
            have hnm := Aside0.mk (fun W => number_any b W)
            rw [hbL] at hnm
            obtain ⟨n, hn⟩ : ∃ n, (numP (toBl (x.drop 1))).1 = n := ⟨_, rfl⟩
            obtain ⟨ob, hob⟩ : ∃ ob, (numP (toBl (x.drop 1))).2 = ob := ⟨_, rfl⟩
            rw [hn, hob] at hnm
            have hLT := Aside0.mk (LaidW.below hL hT5A.out.2.2.1)
            have hbA := Aside0.mk hbL
            clear hpL hb hbL
            cases ob
            · have e1 : numSplit x = (-1, x) := by unfold numSplit; rw [if_pos hblA.out, if_neg (by rw [hob]; decide)]
              have e2 : Aside0 (r = s3) := ⟨by rw [← hs3A.out, e1, ← hrL.out, mkD_of]⟩
              have e3 : Aside0 (z = -1) := ⟨by rw [← hzA.out, e1]⟩
              clear e1 hob hn
              go_wp2_with (first | (go_at_call 127; with_reducible refine (hcb.out _ hLT.out).mono ?_; rintro e w7 ⟨q1, q2, rfl, hb7⟩; have hT7 := Aside0.mk (twoL_below hT5A.out hb7); clear hb7) | (go_at_call 125; with_reducible refine (hnm.out _).mono ?_; rintro e w8 ⟨rfl, hb8⟩; have hT8 := Aside0.mk (twoL_below hT7.out hb8); clear hb8))
              go_meet
              case rel => exact ⟨by rw [e2.out], ⟨by rw [e3.out]; exact hT8.out⟩⟩
            · have e1 : numSplit x = (n, x.drop (1 + (toBl (x.drop 1)).length)) := by unfold numSplit; rw [if_pos hblA.out, if_pos (by rw [hob]), hn]
              have e2 : Aside0 (r.extract (1 + b.size) r.size = s3) := ⟨by
                rw [← hs3A.out, e1]
                apply ByteArray.ext
                rw [← Array.toList_inj, Lib.extract_data, mkD_list, hrL.out, size_len b, hbA.out]
                exact List.take_of_length_le (by rw [List.length_drop, ← hrL.out, ← size_len]; exact Nat.le_refl _)⟩
              have e3 : Aside0 (z = n) := ⟨by rw [← hzA.out, e1]⟩
              clear e1 hob hn
              go_wp2_with (first | (go_at_call 127; with_reducible refine (hcb.out _ hLT.out).mono ?_; rintro e w7 ⟨q1, q2, rfl, hb7⟩; have hT7 := Aside0.mk (twoL_below hT5A.out hb7); clear hb7))
              with_reducible refine (hnm.out _).mono ?_
              rintro e w8 ⟨rfl, hb8⟩
              have hT8 := Aside0.mk (twoL_below hT7.out hb8)
              have c4 := (line_cells hT8.out.2.1).2.2.2.2
              have f4 := frozen_of hT8.out.2.1 4
              clear hb8
              go_wp2_with fail
              go_meet
              case rel => exact ⟨by rw [← e2.out], ⟨by rw [e3.out]; exact twoL_set hT8.out 4 _⟩⟩
        case rest =>
          obtain ⟨rfl, hT9⟩ := hcut
          have hxl : x.length ≤ 65536 := by have h := size_len r; rw [hrL.out] at h; omega
          clear hT5A hblA hpA hrL hrz
          cases hs0 : s3.toList.isEmpty
          · have hs0A : (s3.toList == []) = false := by
              rw [beq_eq_false_iff_ne]; intro h; rw [h] at hs0; exact absurd hs0 (by decide)
            have hsL : s3.data.toList = (numSplit x).2 := by rw [← hs3A.out, mkD_list]
            have hne : (numSplit x).2 ≠ [] := by rw [← hsL, ← toL_data]; intro h; rw [h] at hs0; exact absurd hs0 (by decide)
            have hs3z : s3.size ≤ 65536 := by
              have h1 := numSplit_len x
              have h2 := size_len s3
              rw [hsL] at h2; omega
            obtain ⟨pf, hpf⟩ : ∃ pf, Lib.hasPrefix s3.data.toList [32, 45, 32] = pf := ⟨_, rfl⟩
            obtain ⟨nm, hnm⟩ : ∃ nm, mkD (Lib.trimPrefix s3.data.toList [32, 45, 32]) = nm := ⟨_, rfl⟩
            have hc4 := Aside0.mk (fun W => cp_any s3 ⟨#[32, 45, 32]⟩ W)
            rw [show (⟨#[32, 45, 32]⟩ : ByteArray).data.toList = [32, 45, 32] from rfl, hnm, hpf] at hc4
            have hnz : nm.size ≤ 65536 := by
              have h := size_len s3
              rw [← hnm, mkD_size]
              unfold Lib.trimPrefix
              split
              · rw [List.length_drop]; omega
              · omega
            obtain ⟨tr, htr⟩ : ∃ tr, mkD (trimS nm.data.toList) = tr := ⟨_, rfl⟩
            have htm := Aside0.mk (fun W => trim_any nm W (by omega))
            rw [htr] at htm
            have htz : tr.size ≤ 65536 := by
              have h1 := trimS_len nm.data.toList
              have h2 := size_len nm
              rw [← htr, mkD_size]; omega
            have htL : tr.data.toList = trimS nm.data.toList := by rw [← htr, mkD_list]
            obtain ⟨on, hon⟩ : ∃ on, okName (trimS nm.data.toList) = on := ⟨_, rfl⟩
            have hin := Aside0.mk (fun W hLW => isName_any tr W hLW (by omega))
            rw [htL, hon] at hin
            have hnP : Aside0 (nameP (numSplit x).2 = if (pf && on) = true then some tr.data.toList else none) := ⟨by
              unfold nameP
              rw [if_neg hne, ← hsL, hpf]
              cases pf
              · rfl
              · have hd : nm.data.toList = s3.data.toList.drop 3 := by rw [← hnm, mkD_list]; unfold Lib.trimPrefix; rw [if_pos hpf]; rfl
                rw [← hd, hon, htL]; rfl⟩
            have htA := Aside0.mk htr
            clear hpf hnm htr hon htL hne hsL
            have F9 := twoL_facts hT9.out
            obtain ⟨⟨c0, c1, c2, c3, c4⟩, _, _, f9⟩ := F9
            go_upto_region 21 with (first | (go_at_call 124; (with_reducible refine (hc4.out _).mono ?_); rintro e w6 ⟨rfl, rfl⟩) | (go_at_call 96; (with_reducible refine (htm.out _).mono ?_); rintro e w7 ⟨rfl, hb7⟩; have hT7 := Aside0.mk (twoL_below hT9.out hb7); have F7 := twoL_facts hT7.out; obtain ⟨⟨c0, c1, c2, c3, c4⟩, _, _, f7⟩ := F7; clear hb7))
            have hT8a := Aside0.mk (twoL_set hT7.out 1 (.string tr))
            clear c0 c1 c2 c3 c4 f7 f9 hT7 hT9 hc4 htm
            generalize w7.setCell ⟨w.heap.size + 1, 1, none⟩ (.string tr) = w8 at *
            have hT8 : Aside0 (TwoL w w8 #[.bool (!no), .string tr, .int .i64 dd, .string y, .int .i64 z]) := hT8a
            clear hT8a
            have hT10 := Aside0.mk (twoL_drew hT8.out)
            have hL10 := Aside0.mk (LaidW.below hL hT10.out.2.2.1)
            have F10 := twoL_facts hT10.out
            obtain ⟨⟨c0, c1, c2, c3, c4⟩, ⟨z0, z1, z2, z3, z4⟩, f0, _⟩ := F10
            have hgg : w.heap.size ≠ w.heap.size + 1 := by omega
            have F8 := twoL_facts hT8.out
            obtain ⟨⟨y0, y1, y2, y3, y4⟩, ⟨x0, x1, x2, x3, x4⟩, e0, _⟩ := F8
            cases pf
            · refine Sq.start TD21 [.p 1 (some 80), .p 2 (some 81), .p 3 (some 82), .p 4 (some 83), .p 5 (some 84), .p 6 (some 85), .p 7 (some 86), .r 0 (some 79), .z 8 none, .p 9 (some 3)] [8] (fun w' => w'.cell? ⟨w.heap.size + 1, 0, none⟩ = some (.bool (!no)) ∧ w'.cell? ⟨w.heap.size + 1, 1, none⟩ = some (.string tr) ∧ w'.cell? ⟨w.heap.size + 1, 2, none⟩ = some (.int .i64 dd) ∧ w'.cell? ⟨w.heap.size + 1, 3, none⟩ = some (.string y) ∧ w'.cell? ⟨w.heap.size + 1, 4, none⟩ = some (.int .i64 z)) (by kernel_rfl) TD21_eq (by kernel_rfl) ⟨c0, c1, c2, c3, c4⟩ (fun hHeld => ?_)
              iterate 2 (apply Sq.step_p; rfl; rfl; exact fun _ _ _ h => h; refine Or.inl ⟨by rfl, ?_⟩; intro w'; go_simp; with_reducible rfl; simp only [Act.put, List.setIfInBounds_toArray, List.set_cons_zero, List.set_cons_succ, i64_w, i32_w]; rfl)
              iterate 4 (apply Sq.step_p; rfl; rfl; exact fun _ _ _ h => h; exact Or.inr ⟨by rfl, rfl⟩; simp only [Act.put, List.setIfInBounds_toArray, List.set_cons_zero, List.set_cons_succ, i64_w, i32_w]; rfl)
              apply Sq.step_p; rfl; rfl; exact fun _ _ _ h => h; refine Or.inl ⟨by rfl, ?_⟩; intro w'; go_simp; with_reducible rfl; simp only [Act.put, List.setIfInBounds_toArray, List.set_cons_zero, List.set_cons_succ, i64_w, i32_w]; rfl
              apply Sq.step_r; rfl; rfl; exact fun _ _ _ h => h; exact hHeld; refine Or.inl ⟨by rfl, ?_⟩; rintro w' ⟨s0, s1, s2, s3, s4⟩; go_simp; with_reducible rfl; simp only [Act.put, List.setIfInBounds_toArray, List.set_cons_zero, List.set_cons_succ, i64_w, i32_w]; rfl
              refine Sq.step_z rfl rfl (fun K hK => ?_)
              go_simp
              refine hK.out _ _ ?_
              clear hK K
              apply Sq.step_p; rfl; rfl; exact fun _ _ _ h => h; refine Or.inl ⟨by rfl, ?_⟩; intro w'; go_simp; with_reducible rfl; simp only [Act.put, List.setIfInBounds_toArray, List.set_cons_zero, List.set_cons_succ, i64_w, i32_w]; rfl
              refine Sq.done ?_
              go_wp2_with fail
              refine bodyPost_ret (results_line (a := .bool (!no)) (b := .string tr) (c := .int .i64 dd) (d := .string y) (e := .int .i64 z) rfl ?blk) rfl ?_
              case blk => exact blk_set (blk_set (blk_set (blk_set (blk_set hT10.out.1 0 _) 1 _) 2 _) 3 _) 4 _
              refine hfin.out _ tr dd y z false _ ?_ ?_
              · exact below_set (below_set (below_set (below_set (below_set hT10.out.2.2.1 (Nat.le_refl _) _ _) (Nat.le_refl _) _ _) (Nat.le_refl _) _ _) (Nat.le_refl _) _ _) (Nat.le_refl _) _ _
              · rw [hbP.out, hnP.out]; rfl
            · go_region_held3 (fun w' => w'.cell? ⟨w.heap.size + 1, 0, none⟩ = some (.bool (!no)) ∧ w'.cell? ⟨w.heap.size + 1, 1, none⟩ = some (.string tr) ∧ w'.cell? ⟨w.heap.size + 1, 2, none⟩ = some (.int .i64 dd) ∧ w'.cell? ⟨w.heap.size + 1, 3, none⟩ = some (.string y) ∧ w'.cell? ⟨w.heap.size + 1, 4, none⟩ = some (.int .i64 z)) (go_keep) (first | (go_at_call 81; refine (hin.out _ hL10.out).mono ?_; rintro e w9 ⟨rfl, hb9⟩; have hT11 := Aside0.mk (twoL_below hT10.out hb9); have F11 := twoL_facts hT11.out; obtain ⟨⟨c0, c1, c2, c3, c4⟩, ⟨z0, z1, z2, z3, z4⟩, f0, _⟩ := F11; clear hb9))
              go_wp2_with fail
              refine bodyPost_ret (results_line (a := .bool (!no)) (b := .string tr) (c := .int .i64 dd) (d := .string y) (e := .int .i64 z) rfl ?blk) rfl ?_
              case blk => exact blk_set (blk_set (blk_set (blk_set (blk_set hT11.out.1 0 _) 1 _) 2 _) 3 _) 4 _
              refine hfin.out _ tr dd y z on _ ?_ ?_
              · exact below_set (below_set (below_set (below_set (below_set hT11.out.2.2.1 (Nat.le_refl _) _ _) (Nat.le_refl _) _ _) (Nat.le_refl _) _ _) (Nat.le_refl _) _ _) (Nat.le_refl _) _ _
              · rw [hbP.out, hnP.out]
                cases on
                · rfl
                · exact ⟨rfl, rfl, (mkD_of tr).symm, rfl, hyA.out.symm, hzA.out.symm⟩
          · have e1 : Aside0 (nameP (numSplit x).2 = some []) := ⟨by
              have h1 : s3.data.toList = [] := by rw [toL_data] at hs0; simpa using hs0
              rw [← hs3A.out, mkD_list] at h1
              rw [h1]; rfl⟩
            have hs0A : (s3.toList == []) = true := by rw [List.isEmpty_iff] at hs0; rw [hs0]; rfl
            obtain ⟨c0, c1, c2, c3, c4⟩ := line_cells hT9.out.2.1
            obtain ⟨z0, z1, z2, z3, z4⟩ := line_cells hT9.out.1
            have q5 := frozen_of hT9.out.1
            go_wp2_with fail
            refine bodyPost_ret (results_line (a := .bool (!no)) (b := .string ⟨#[]⟩) (c := .int .i64 dd) (d := .string y) (e := .int .i64 z) rfl ?blk) rfl ?_
            case blk => exact blk_set (blk_set (blk_set (blk_set (blk_set hT9.out.1 0 _) 1 _) 2 _) 3 _) 4 _
            refine hfin.out _ ⟨#[]⟩ dd y z true _ ?_ ?_
            · exact below_set (below_set (below_set (below_set (below_set hT9.out.2.2.1 (Nat.le_refl _) _ _) (Nat.le_refl _) _ _) (Nat.le_refl _) _ _) (Nat.le_refl _) _ _) (Nat.le_refl _) _ _
            · rw [hbP.out, e1.out]
              exact ⟨rfl, rfl, rfl, rfl, hyA.out.symm, hzA.out.symm⟩
end Go.Proofs.YtallfkecjibpmaaDoor.G
