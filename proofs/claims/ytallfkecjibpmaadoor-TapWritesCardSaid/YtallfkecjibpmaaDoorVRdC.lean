/- Of this claim's texts (RdC): the declarations that the claim reaches (slimclaim.py). -/
import Derived.Test.YtallfkecjibpmaaDoorVRdB
set_option linter.unusedVariables false
set_option linter.unusedSimpArgs false
namespace Go.Proofs.YtallfkecjibpmaaDoor.G
open Go.RowKit Go.Proofs.YtallfkecjibpmaaDoorW.PrintWords Go.Proofs.YtallfkecjibpmaaDoor.Nm Go.Lib Go.Proofs.YtallfkecjibpmaaDoor.Rd
def c2 (s : ByteArray) : ByteArray × ByteArray × Bool := match cutH s.data.toList with
  | some x => (mkD x.1, mkD x.2, true)
  | none => (s, mkD [], false)
theorem cut2_any (s : ByteArray) (w : World) (hL : LaidW w) (hs : s.size < 4294967281) :
    Calls Tryd.prog 127 #[.string s, .string ⟨#[32, 35]⟩] w fun e w' => e = .returned (.tuple #[.string (c2 s).1, .string (c2 s).2.1, .bool (c2 s).2.2]) ∧ Below w.heap.size w w' := by
  obtain ⟨m, hm⟩ := hL.max
  refine (Tryd.strings_Cut s ⟨#[32, 35]⟩ m w hs hm).mono fun e w' h => ?_
  obtain ⟨h1, n, h2⟩ := h
  refine ⟨?_, h2 ▸ pw_below_drewN (Below.refl _ _) n⟩
  rw [h1]
  rw [show (⟨#[32, 35]⟩ : ByteArray).data.toList = [32, 35] from rfl, cut_cutH]
  unfold c2
  cases cutH s.data.toList with
  | none => simp only [mkD]
  | some x => rfl
theorem cp_any (s p : ByteArray) (w : World) : Calls Tryd.prog 124 #[.string s, .string p] w fun e w' => e = .returned (.tuple #[.string (mkD (Lib.trimPrefix s.data.toList p.data.toList)), .bool (Lib.hasPrefix s.data.toList p.data.toList)]) ∧ w' = w :=
  Tryd.strings_CutPrefix s p w
theorem trim_any (s : ByteArray) (w : World) (hs : s.size ≤ 9223372036854775807) : Calls Tryd.prog 96 #[.string s, .string ⟨#[32]⟩] w fun e w' => e = .returned (.string (mkD (trimS s.data.toList))) ∧ Below w.heap.size w w' :=
  (Tryd.strings_Trim_one s 32 (by decide) w hs).mono fun e w' ⟨h1, h2⟩ => ⟨h1, by
    rcases h2 with rfl | rfl
    · exact Below.refl _ _
    · exact pw_below_drewN (Below.refl _ _) 1⟩
theorem cell_of {w : World} {g t j : Nat} {cs : Array Value} {u : Value} (h : w.heap[g]? = some (.cells cs t (0, 0))) (hj : cs[j]? = some u) : w.cell? ⟨g, j, none⟩ = some u := by
  simp [World.cell?, h, hj]
theorem frozen_of {w : World} {g t : Nat} {cs : Array Value} (h : w.heap[g]? = some (.cells cs t (0, 0))) (j : Nat) : w.frozen? ⟨g, j, none⟩ = false := by
  simp [World.frozen?, h]
theorem line_cells {w : World} {g t : Nat} {vb vn vd vy vz : Value} (h : w.heap[g]? = some (.cells #[vb, vn, vd, vy, vz] t (0, 0))) : w.cell? ⟨g, 0, none⟩ = some vb ∧ w.cell? ⟨g, 1, none⟩ = some vn ∧ w.cell? ⟨g, 2, none⟩ = some vd ∧ w.cell? ⟨g, 3, none⟩ = some vy ∧ w.cell? ⟨g, 4, none⟩ = some vz :=
  ⟨cell_of h rfl, cell_of h rfl, cell_of h rfl, cell_of h rfl, cell_of h rfl⟩
theorem trimS_len (l : List UInt8) : (trimS l).length ≤ l.length := by
  unfold trimS Lib.trimB Lib.trimLeftB Lib.trimRightB
  refine Nat.le_trans (List.dropWhile_sublist _).length_le ?_
  rw [List.length_reverse]
  refine Nat.le_trans (List.dropWhile_sublist _).length_le ?_
  rw [List.length_reverse]; exact Nat.le_refl _
theorem below_set {w0 w : World} {base g : Nat} (h : Below base w0 w) (hb : base ≤ g) (i : Nat) (u : Value) : Below base w0 (w.setCell ⟨g, i, none⟩ u) := h.setCell (p := ⟨g, i, none⟩) hb u
theorem blk_set {w : World} {g t : Nat} {cs : Array Value} (h : w.heap[g]? = some (.cells cs t (0, 0))) (i : Nat) (u : Value) : (w.setCell ⟨g, i, none⟩ u).heap[g]? = some (.cells (cs.setIfInBounds i u) t (0, 0)) := by
  have hlt := (Array.getElem?_eq_some_iff.1 h).1
  simp only [World.setCell, Array.getElem?_modify, h]
  simp
set_option maxHeartbeats 8000000 in
set_option maxRecDepth 100000 in
theorem cut_any (s : ByteArray) (g : Nat) (vb vn vz : Value) (w0 w : World) (hL : LaidW w0) (hbw : Below w0.heap.size w0 w) (hs : s.size ≤ 65536) (hB : w0.heap.size ≤ g)
    (hg : w.heap[g]? = some (.cells #[vb, vn, .int .i64 0, .string ⟨#[]⟩, vz] 97 (0, 0))) :
    Calls Tryd.prog 126 #[.pointer (some ⟨g, 0, none⟩), .string s] w fun e w' => ∃ (r : ByteArray) (ob : Bool) (d : Int) (y : ByteArray), e = .returned (.tuple #[.string r, .bool ob]) ∧
      w'.heap[g]? = some (.cells #[vb, vn, .int .i64 d, .string y, vz] 97 (0, 0)) ∧ FrB g w w' ∧ Below w0.heap.size w0 w' ∧ (match cutP s.data.toList with
        | some (x, d', y') => ob = true ∧ r = mkD x ∧ d = d' ∧ y = mkD y'
        | none => ob = false) := by
  obtain ⟨Q, hQ⟩ : ∃ Q : Ending → World → Prop, Q = fun e w' => ∃ (r : ByteArray) (ob : Bool) (d : Int) (y : ByteArray), e = .returned (.tuple #[.string r, .bool ob]) ∧
      w'.heap[g]? = some (.cells #[vb, vn, .int .i64 d, .string y, vz] 97 (0, 0)) ∧ FrB g w w' ∧ Below w0.heap.size w0 w' ∧ (match cutP s.data.toList with
        | some (x, d', y') => ob = true ∧ r = mkD x ∧ d = d' ∧ y = mkD y'
        | none => ob = false) := ⟨_, rfl⟩
  rw [← hQ]
  have hQA := Aside0.mk hQ
  have hgl : g < w.heap.size := (Array.getElem?_eq_some_iff.1 hg).1
  have hgA := Aside0.mk hg
  have hbwA := Aside0.mk hbw
  have hLw := LaidW.below hL hbw
  clear hQ hg hbw
  have hfin : Aside0 (∀ (r : ByteArray) (ob : Bool) (d : Int) (y : ByteArray) (w' : World), w'.heap[g]? = some (.cells #[vb, vn, .int .i64 d, .string y, vz] 97 (0, 0)) → FrB g w w' → Below w0.heap.size w0 w' →
      (match cutP s.data.toList with
        | some (x, d', y') => ob = true ∧ r = mkD x ∧ d = d' ∧ y = mkD y'
        | none => ob = false) → Q (.returned (.tuple #[.string r, .bool ob])) w') := ⟨fun r ob d y w' h1 h2 h3 h4 => by rw [hQA.out]; exact ⟨r, ob, d, y, rfl, h1, h2, h3, h4⟩⟩
  clear hQA
  have hkeep : Aside0 (∀ w', Below w.heap.size w w' → w'.heap[g]? = some (.cells #[vb, vn, .int .i64 0, .string ⟨#[]⟩, vz] 97 (0, 0)) ∧ FrB g w w' ∧ Below w0.heap.size w0 w') := ⟨fun w' hb => ⟨(hb.block g hgl).trans hgA.out, FrB.of_below hb, hbwA.out.trans (hb.mono hbwA.out.size)⟩⟩
  have hk1 := Aside0.mk (fun W hLW => (cut2_any s W hLW (by omega)))
  cases hcH : cutH s.data.toList with
  | none =>
  have hc2 : c2 s = (s, mkD [], false) := by unfold c2; rw [hcH]
  rw [hc2] at hk1
  have hcP : Aside0 (cutP s.data.toList = if noHash s.data.toList = true then some (s.data.toList, 0, []) else none) := ⟨by unfold cutP; rw [hcH]⟩
  clear hc2 hcH
  go_enter Tryd.func126, Tryd.ntmps126
  go_wp2_with (first | (go_at_call 127; refine (hk1.out _ hLw).mono ?_; rintro e w1 ⟨rfl, hb1⟩; have hb1A := Aside0.mk hb1; clear hb1) | (go_at_call 51; refine (hash_any _ _).mono ?_; rintro e w2 ⟨rfl, rfl⟩))
  go_simp
  obtain ⟨k1, k2, k3⟩ := hkeep.out _ hb1A.out
  refine hfin.out _ _ 0 ⟨#[]⟩ _ k1 k2 k3 ?_
  rw [hcP.out]
  by_cases hn : noHash s.data.toList = true
  · rw [if_pos hn]; exact ⟨hn, (mkD_of s).symm, rfl, rfl⟩
  · rw [if_neg hn]; simpa using hn
  | some x =>
  obtain ⟨bL, aL⟩ := x
  have hc2 : c2 s = (mkD bL, mkD aL, true) := by unfold c2; rw [hcH]
  rw [hc2] at hk1
  have hsz : bL.length + aL.length + 2 = s.size := by
    rw [size_len, (cutH_some hcH).1, List.length_append, List.length_cons, List.length_cons]; omega
  have hcP : Aside0 (cutP s.data.toList = match dirP aL with | some (d, y) => if noHash bL = true then some (bL, d, y) else none | none => none) := ⟨by unfold cutP; rw [hcH]; rfl⟩
  clear hc2 hcH
  obtain ⟨bb, hbb⟩ : ∃ bb, mkD bL = bb := ⟨_, rfl⟩
  obtain ⟨aa, haa⟩ : ∃ aa, mkD aL = aa := ⟨_, rfl⟩
  rw [hbb, haa] at hk1
  have hba := Aside0.mk hbb
  have haA := Aside0.mk haa
  have haL : Aside0 (aa.data.toList = aL) := ⟨by rw [← haa, mkD_list]⟩
  have hbL : Aside0 (bb.data.toList = bL) := ⟨by rw [← hbb, mkD_list]⟩
  clear hbb haa
  obtain ⟨M1, hM1⟩ : ∃ M1, M1 = (Lib.hasPrefix aL sk && headOk (aL.drop 5)) := ⟨_, rfl⟩
  obtain ⟨M2, hM2⟩ : ∃ M2, M2 = (Lib.hasPrefix aL td && headOk (aL.drop 5)) := ⟨_, rfl⟩
  have hdP : Aside0 (dirP aL = if M1 = true then (if okText (trimS (aL.drop 5)) = true then some (1, trimS (aL.drop 5)) else none) else if M2 = true then (if okText (trimS (aL.drop 5)) = true then some (2, trimS (aL.drop 5)) else none) else none) := ⟨by rw [hM1, hM2]; rfl⟩
  have hM1A := Aside0.mk hM1
  have hM2A := Aside0.mk hM2
  have hszA := Aside0.mk hsz
  clear hM1 hM2 hsz
  go_enter Tryd.func126, Tryd.ntmps126
  go_wp2_with (go_at_call 127; refine (hk1.out _ hLw).mono ?_; rintro e w1 ⟨rfl, hb1⟩; have hb1A := Aside0.mk hb1; clear hb1)
  go_loopw [9] (fun kv wr => ∃ k : Nat, kv = .int .i64 k ∧ 1 ≤ k ∧ k ≤ 3 ∧ Aside0 (2 ≤ k → M1 = false) ∧ Aside0 (3 ≤ k → M2 = false) ∧ Aside0 (Below w.heap.size w wr)) (fun kv _ => 4 - (Go.RowKit.intOf kv).toNat)
  case atStart => exact ⟨1, rfl, by omega, by omega, ⟨fun h => by omega⟩, ⟨fun h => by omega⟩, hb1A⟩
  case round =>
    obtain ⟨k, rfl, hk0, hk3, hm1, hm2, hbr⟩ := hrel
    rcases (show k = 3 ∨ k = 1 ∨ k = 2 by omega) with rfl | rfl | rfl
    · clear hk0 hk3
      go_wp2_with fail
      go_simp
      obtain ⟨k1, k2, k3⟩ := hkeep.out _ hbr.out
      refine hfin.out _ _ 0 ⟨#[]⟩ _ k1 k2 k3 ?_
      rw [hcP.out, hdP.out, hm1.out (by omega), hm2.out (by omega)]
      rfl
    · clear hk0 hk3
      have happ : (⟨#[32]⟩ : ByteArray) ++ (⟨#[83, 75, 73, 80]⟩ : ByteArray) = ⟨#[32, 83, 75, 73, 80]⟩ := rfl
      have hcp := Aside0.mk (fun W => cp_any aa ⟨#[32, 83, 75, 73, 80]⟩ W)
      rw [show (⟨#[32, 83, 75, 73, 80]⟩ : ByteArray).data.toList = sk from rfl, haL.out] at hcp
      have hcr : Aside0 (Lib.hasPrefix aL sk = true → Lib.trimPrefix aL sk = aL.drop 5) := ⟨fun h => by unfold Lib.trimPrefix; rw [if_pos h]; rfl⟩
      by_cases hpf : Lib.hasPrefix aL sk = true
      · rw [hcr.out hpf, hpf] at hcp
        have hMe : M1 = headOk (aL.drop 5) := by rw [hM1A.out, hpf, Bool.true_and]
        obtain ⟨r, hr⟩ : ∃ r, mkD (aL.drop 5) = r := ⟨_, rfl⟩
        rw [hr] at hcp
        have hrz : r.size ≤ 65536 := by rw [← hr, mkD_size, List.length_drop]; have := hszA.out; omega
        have hrL : Aside0 (r.data.toList = aL.drop 5) := ⟨by rw [← hr, mkD_list]⟩
        clear hr hpf
        have hr3 : r.toList.isEmpty = true ∧ Aside0 (M1 = true) ∨ r.toList.isEmpty = false ∧ 0 < r.size ∧ ((((bAt r 0).toNat : Int) == 32) = true ∧ Aside0 (M1 = true) ∨ (((bAt r 0).toNat : Int) == 32) = false ∧ Aside0 (M1 = false)) := by
          rw [hMe, ← hrL.out, toL_data]
          have hz := size_len r
          have hh := headD_bAt r
          unfold headOk
          cases hrd : r.data.toList with
          | nil => exact .inl ⟨rfl, ⟨rfl⟩⟩
          | cons q l =>
            rw [hrd] at hz hh
            refine .inr ⟨rfl, by rw [hz, List.length_cons]; omega, ?_⟩
            rw [← hh]
            have c32 : (32 : UInt8).toNat = 32 := rfl
            by_cases hq : q = 32
            · subst hq; exact .inl ⟨rfl, ⟨rfl⟩⟩
            · refine .inr ⟨?_, ⟨?_⟩⟩
              · rw [beq_eq_false_iff_ne]
                exact fun h => hq (UInt8.toNat_inj.1 (by have h2 : (q.toNat : Int) = 32 := h; omega))
              · show (false || (q == 32)) = false
                rw [beq_eq_false_iff_ne.2 hq]; rfl
        clear hMe
        have hrA := Aside0.mk hr3
        clear hr3
        rcases hrA.out with ⟨e1, hm⟩ | ⟨e1, hpos, ⟨e2, hm⟩ | ⟨e2, hm⟩⟩
        rotate_left 2
        · have hcs := at_bAt r 0 hpos
          go_wp2_with (first | (go_at_call 83; refine (directives_any _).mono ?_; rintro e w2 ⟨rfl, rfl⟩) | (go_at_call 124; refine (hcp.out _).mono ?_; rintro e w3 ⟨rfl, rfl⟩))
          go_roundw
          case rel => exact ⟨2, by go_num, by omega, by omega, ⟨fun _ => hm.out⟩, ⟨fun h => by omega⟩, ⟨hbr.out.alloc (by have := hbr.out.size; omega) _⟩⟩
          case measure => simp [Go.RowKit.intOf] <;> omega
        rotate_left 1
        all_goals
          have hcs : r.size = 0 ∨ 0 < r.size := by omega
          first
          | (have hcs2 := at_bAt r 0 hpos; clear hcs)
          | clear hcs
          try have hcs := hcs2
          · have htr := Aside0.mk (fun W => trim_any r W (by omega))
            rw [hrL.out] at htr
            obtain ⟨yb, hyb⟩ : ∃ yb, mkD (trimS (aL.drop 5)) = yb := ⟨_, rfl⟩
            rw [hyb] at htr
            have hyL : Aside0 (yb.data.toList = trimS (aL.drop 5)) := ⟨by rw [← hyb, mkD_list]⟩
            have hyz : yb.size ≤ 65536 := by
              have h1 := trimS_len (aL.drop 5)
              have h2 := size_len r
              rw [hrL.out] at h2
              rw [← hyb, mkD_size]; omega
            have hybA := Aside0.mk hyb.symm
            have hit := Aside0.mk (fun W hLW => isText_any yb W hLW (by omega))
            rw [hyL.out] at hit
            clear hyb
            cases hot : okText (trimS (aL.drop 5))
            all_goals
              rw [hot] at hit
              have hdQ : Aside0 (dirP aL = if okText (trimS (aL.drop 5)) = true then some (1, trimS (aL.drop 5)) else none) := ⟨by rw [hdP.out, hm.out]; rfl⟩
              rw [hot] at hdQ
              clear hot
              go_wp2_with (first | (go_at_call 83; refine (directives_any _).mono ?_; rintro e w2 ⟨rfl, rfl⟩) | (go_at_call 124; refine (hcp.out _).mono ?_; rintro e w3 ⟨rfl, rfl⟩) | (go_at_call 96; refine (htr.out _).mono ?_; rintro e w4 ⟨rfl, hb4⟩; have hbx : Below w.heap.size w w4 := (hbr.out.alloc (by have := hbr.out.size; omega) _).trans (hb4.mono (by have := hbr.out.size; simp; omega)); have hbxA := Aside0.mk hbx; have hc4 := (hbx.block g hgl).trans hgA.out; have hc4A := Aside0.mk hc4; have hln := line_cells hc4; obtain ⟨c0, c1, c2, c3, c4⟩ := hln; have f2 := frozen_of hc4 2; have f3 := frozen_of hc4 3; clear hb4 hbx hc4) | (go_at_call 82; refine (hit.out _ (LaidW.below hL (below_set (below_set (hbwA.out.trans (hbxA.out.mono hbwA.out.size)) hB _ _) hB _ _))).mono ?_; rintro e w5 ⟨rfl, hb5⟩; have hb5A := Aside0.mk hb5; clear hb5) | (go_at_call 51; refine (hash_any _ _).mono ?_; rintro e w6 ⟨rfl, rfl⟩))
              go_simp
              refine hfin.out _ _ 1 yb _ ((hb5A.out.block g (by have := hbxA.out.size; simp [World.setCell]; omega)).trans (blk_set (blk_set hc4A.out 2 _) 3 _)) ?fr ?bl ?mt
              case fr => exact ((FrB.of_below hbxA.out).trans ((FrB.set g _ 2 _).trans (FrB.set g _ 3 _))).trans (FrB.of_below hb5A.out)
              case bl => exact (below_set (below_set (hbwA.out.trans (hbxA.out.mono hbwA.out.size)) hB _ _) hB _ _).trans (hb5A.out.mono (by have h1 := hbwA.out.size; have h2 := hbxA.out.size; simp [World.setCell]; omega))
              case mt =>
                rw [hcP.out, hdQ.out]
                first
                | rfl
                | (rw [if_pos trivial]
                   simp only [hbL.out]
                   by_cases hn : noHash bL = true
                   · rw [if_pos hn]; exact ⟨hn, hba.out.symm, rfl, hybA.out⟩
                   · rw [if_neg hn]; simpa using hn)
      · rw [Bool.not_eq_true] at hpf
        rw [hpf] at hcp
        have hMf : Aside0 (M1 = false) := ⟨by rw [hM1A.out, hpf]; rfl⟩
        obtain ⟨r, hr⟩ : ∃ r, mkD (Lib.trimPrefix aL sk) = r := ⟨_, rfl⟩
        rw [hr] at hcp
        clear hr hpf
        go_wp2_with (first | (go_at_call 83; refine (directives_any _).mono ?_; rintro e w2 ⟨rfl, rfl⟩) | (go_at_call 124; refine (hcp.out _).mono ?_; rintro e w3 ⟨rfl, rfl⟩))
        go_roundw
        case rel => exact ⟨2, by go_num, by omega, by omega, ⟨fun _ => hMf.out⟩, ⟨fun h => by omega⟩, ⟨hbr.out.alloc (by have := hbr.out.size; omega) _⟩⟩
        case measure => simp [Go.RowKit.intOf] <;> omega
    · clear hk0 hk3
      have happ : (⟨#[32]⟩ : ByteArray) ++ (⟨#[84, 79, 68, 79]⟩ : ByteArray) = ⟨#[32, 84, 79, 68, 79]⟩ := rfl
      have hcp := Aside0.mk (fun W => cp_any aa ⟨#[32, 84, 79, 68, 79]⟩ W)
      rw [show (⟨#[32, 84, 79, 68, 79]⟩ : ByteArray).data.toList = td from rfl, haL.out] at hcp
      have hcr : Aside0 (Lib.hasPrefix aL td = true → Lib.trimPrefix aL td = aL.drop 5) := ⟨fun h => by unfold Lib.trimPrefix; rw [if_pos h]; rfl⟩
      by_cases hpf : Lib.hasPrefix aL td = true
      · rw [hcr.out hpf, hpf] at hcp
        have hMe : M2 = headOk (aL.drop 5) := by rw [hM2A.out, hpf, Bool.true_and]
        obtain ⟨r, hr⟩ : ∃ r, mkD (aL.drop 5) = r := ⟨_, rfl⟩
        rw [hr] at hcp
        have hrz : r.size ≤ 65536 := by rw [← hr, mkD_size, List.length_drop]; have := hszA.out; omega
        have hrL : Aside0 (r.data.toList = aL.drop 5) := ⟨by rw [← hr, mkD_list]⟩
        clear hr hpf
        have hr3 : r.toList.isEmpty = true ∧ Aside0 (M2 = true) ∨ r.toList.isEmpty = false ∧ 0 < r.size ∧ ((((bAt r 0).toNat : Int) == 32) = true ∧ Aside0 (M2 = true) ∨ (((bAt r 0).toNat : Int) == 32) = false ∧ Aside0 (M2 = false)) := by
          rw [hMe, ← hrL.out, toL_data]
          have hz := size_len r
          have hh := headD_bAt r
          unfold headOk
          cases hrd : r.data.toList with
          | nil => exact .inl ⟨rfl, ⟨rfl⟩⟩
          | cons q l =>
            rw [hrd] at hz hh
            refine .inr ⟨rfl, by rw [hz, List.length_cons]; omega, ?_⟩
            rw [← hh]
            have c32 : (32 : UInt8).toNat = 32 := rfl
            by_cases hq : q = 32
            · subst hq; exact .inl ⟨rfl, ⟨rfl⟩⟩
            · refine .inr ⟨?_, ⟨?_⟩⟩
              · rw [beq_eq_false_iff_ne]
                exact fun h => hq (UInt8.toNat_inj.1 (by have h2 : (q.toNat : Int) = 32 := h; omega))
              · show (false || (q == 32)) = false
                rw [beq_eq_false_iff_ne.2 hq]; rfl
        clear hMe
        have hrA := Aside0.mk hr3
        clear hr3
        rcases hrA.out with ⟨e1, hm⟩ | ⟨e1, hpos, ⟨e2, hm⟩ | ⟨e2, hm⟩⟩
        rotate_left 2
        · have hcs := at_bAt r 0 hpos
          go_wp2_with (first | (go_at_call 83; refine (directives_any _).mono ?_; rintro e w2 ⟨rfl, rfl⟩) | (go_at_call 124; refine (hcp.out _).mono ?_; rintro e w3 ⟨rfl, rfl⟩))
          go_roundw
          case rel => exact ⟨3, by go_num, by omega, by omega, ⟨fun _ => hm1.out (by omega)⟩, ⟨fun _ => hm.out⟩, ⟨hbr.out.alloc (by have := hbr.out.size; omega) _⟩⟩
          case measure => simp [Go.RowKit.intOf] <;> omega
        rotate_left 1
        all_goals
          have hcs : r.size = 0 ∨ 0 < r.size := by omega
          first
          | (have hcs2 := at_bAt r 0 hpos; clear hcs)
          | clear hcs
          try have hcs := hcs2
          · have htr := Aside0.mk (fun W => trim_any r W (by omega))
            rw [hrL.out] at htr
            obtain ⟨yb, hyb⟩ : ∃ yb, mkD (trimS (aL.drop 5)) = yb := ⟨_, rfl⟩
            rw [hyb] at htr
            have hyL : Aside0 (yb.data.toList = trimS (aL.drop 5)) := ⟨by rw [← hyb, mkD_list]⟩
            have hyz : yb.size ≤ 65536 := by
              have h1 := trimS_len (aL.drop 5)
              have h2 := size_len r
              rw [hrL.out] at h2
              rw [← hyb, mkD_size]; omega
            have hybA := Aside0.mk hyb.symm
            have hit := Aside0.mk (fun W hLW => isText_any yb W hLW (by omega))
            rw [hyL.out] at hit
            clear hyb
            cases hot : okText (trimS (aL.drop 5))
            all_goals
              rw [hot] at hit
              have hdQ : Aside0 (dirP aL = if okText (trimS (aL.drop 5)) = true then some (2, trimS (aL.drop 5)) else none) := ⟨by rw [hdP.out, hm1.out (by omega), hm.out]; rfl⟩
              rw [hot] at hdQ
              clear hot
              go_wp2_with (first | (go_at_call 83; refine (directives_any _).mono ?_; rintro e w2 ⟨rfl, rfl⟩) | (go_at_call 124; refine (hcp.out _).mono ?_; rintro e w3 ⟨rfl, rfl⟩) | (go_at_call 96; refine (htr.out _).mono ?_; rintro e w4 ⟨rfl, hb4⟩; have hbx : Below w.heap.size w w4 := (hbr.out.alloc (by have := hbr.out.size; omega) _).trans (hb4.mono (by have := hbr.out.size; simp; omega)); have hbxA := Aside0.mk hbx; have hc4 := (hbx.block g hgl).trans hgA.out; have hc4A := Aside0.mk hc4; have hln := line_cells hc4; obtain ⟨c0, c1, c2, c3, c4⟩ := hln; have f2 := frozen_of hc4 2; have f3 := frozen_of hc4 3; clear hb4 hbx hc4) | (go_at_call 82; refine (hit.out _ (LaidW.below hL (below_set (below_set (hbwA.out.trans (hbxA.out.mono hbwA.out.size)) hB _ _) hB _ _))).mono ?_; rintro e w5 ⟨rfl, hb5⟩; have hb5A := Aside0.mk hb5; clear hb5) | (go_at_call 51; refine (hash_any _ _).mono ?_; rintro e w6 ⟨rfl, rfl⟩))
              go_simp
              refine hfin.out _ _ 2 yb _ ((hb5A.out.block g (by have := hbxA.out.size; simp [World.setCell]; omega)).trans (blk_set (blk_set hc4A.out 2 _) 3 _)) ?fr ?bl ?mt
              case fr => exact ((FrB.of_below hbxA.out).trans ((FrB.set g _ 2 _).trans (FrB.set g _ 3 _))).trans (FrB.of_below hb5A.out)
              case bl => exact (below_set (below_set (hbwA.out.trans (hbxA.out.mono hbwA.out.size)) hB _ _) hB _ _).trans (hb5A.out.mono (by have h1 := hbwA.out.size; have h2 := hbxA.out.size; simp [World.setCell]; omega))
              case mt =>
                rw [hcP.out, hdQ.out]
                first
                | rfl
                | (rw [if_pos trivial]
                   simp only [hbL.out]
                   by_cases hn : noHash bL = true
                   · rw [if_pos hn]; exact ⟨hn, hba.out.symm, rfl, hybA.out⟩
                   · rw [if_neg hn]; simpa using hn)
      · rw [Bool.not_eq_true] at hpf
        rw [hpf] at hcp
        have hMf : Aside0 (M2 = false) := ⟨by rw [hM2A.out, hpf]; rfl⟩
        obtain ⟨r, hr⟩ : ∃ r, mkD (Lib.trimPrefix aL td) = r := ⟨_, rfl⟩
        rw [hr] at hcp
        clear hr hpf
        go_wp2_with (first | (go_at_call 83; refine (directives_any _).mono ?_; rintro e w2 ⟨rfl, rfl⟩) | (go_at_call 124; refine (hcp.out _).mono ?_; rintro e w3 ⟨rfl, rfl⟩))
        go_roundw
        case rel => exact ⟨3, by go_num, by omega, by omega, ⟨fun _ => hm1.out (by omega)⟩, ⟨fun _ => hMf.out⟩, ⟨hbr.out.alloc (by have := hbr.out.size; omega) _⟩⟩
        case measure => simp [Go.RowKit.intOf] <;> omega
end Go.Proofs.YtallfkecjibpmaaDoor.G
