/- Of this claim's texts (RdG): the declarations that the claim reaches (slimclaim.py). -/
import Derived.Test.YtallfkecjibpmaaDoorVRdF
import Derived.Test.YtallfkecjibpmaaDoorVStrL
set_option linter.unusedVariables false
set_option linter.unusedSimpArgs false
namespace Go.Proofs.YtallfkecjibpmaaDoor.G
open Go.RowKit Go.Proofs.YtallfkecjibpmaaDoorW.PrintWords Go.Proofs.YtallfkecjibpmaaDoorW.PrintMore Go.Proofs.YtallfkecjibpmaaDoorW.PrintLast Go.Proofs.YtallfkecjibpmaaDoor.Nm Go.Lib Go.Proofs.YtallfkecjibpmaaDoor.Rd
def lns (s : ByteArray) : List ByteArray := Lib.splitB ⟨#[10]⟩ 0 (Lib.countB s ⟨#[10]⟩) s
def prot (s : ByteArray) : Pr := Pr.run ((lns s).map (·.data.toList)) Pr.new
theorem segs_mem (c : UInt8) : ∀ (l x : List UInt8), x ∈ Sl.segs c l → x.length ≤ l.length
  | [], x, h => by simp [Sl.segs] at h; subst h; exact Nat.le_refl _
  | b :: l, x, h => by
    by_cases hb : b = c
    · subst hb
      rw [Sl.segs_hit] at h
      rcases List.mem_cons.1 h with rfl | h
      · exact Nat.zero_le _
      · have := segs_mem b l x h; rw [List.length_cons]; omega
    · obtain ⟨y, r, h1, h2⟩ := Sl.segs_miss hb l
      rw [h2] at h
      have hy := segs_mem c l y (by rw [h1]; simp)
      rcases List.mem_cons.1 h with rfl | h
      · rw [List.length_cons, List.length_cons]; omega
      · have := segs_mem c l x (by rw [h1]; exact List.mem_cons_of_mem _ h); rw [List.length_cons]; omega
theorem lns_data (s : ByteArray) : (lns s).map (·.data.toList) = Sl.segs 10 s.data.toList := Sl.splitB_one s 10
theorem lns_len (s : ByteArray) : (lns s).length = Lib.countB s ⟨#[10]⟩ + 1 := Sl.splitB_len s 10
theorem lns_small (s x : ByteArray) (h : x ∈ lns s) : x.size ≤ s.size := by
  have h1 : x.data.toList ∈ Sl.segs 10 s.data.toList := by rw [← lns_data]; exact List.mem_map_of_mem h
  have := segs_mem 10 _ _ h1
  rw [size_len, size_len]; exact this
theorem nx_run (p : Pr) (s : Bs) (r : List Bs) : Pr.run (s :: r) p = if bailS s = true then p.nx s else Pr.run r (p.nx s) := by
  conv => lhs; unfold Pr.run
  unfold Rd.Pr.nx
  by_cases h : bailS s = true
  · rw [if_pos h, if_pos h, if_pos h]
  · rw [if_neg h, if_neg h, if_neg h]
theorem nx_len (p : Pr) (s : Bs) : (p.nx s).ts.length ≤ p.ts.length + 1 ∧ (p.nx s).plans ≤ p.plans + 1 := by
  unfold Rd.Pr.nx
  split
  · exact ⟨Nat.le_succ _, Nat.le_succ _⟩
  · unfold Pr.step
    split
    · exact ⟨Nat.le_succ _, Nat.le_refl _⟩
    · split
      · exact ⟨by simp, Nat.le_succ _⟩
      · exact ⟨Nat.le_succ _, Nat.le_succ _⟩
def errP (s : ByteArray) : Int := if 65536 < s.size then 3 else if (prot s).bad = true then 2 else 0
def PA (s : ByteArray) (w : World) (e : Ending) (w' : World) : Prop := Below w.heap.size w w' ∧ (if errP s = 0 then ∃ g base v, e = .returned (.tuple #[.pointer (some ⟨g, 0, none⟩), .int .i64 0]) ∧ w.heap.size ≤ g ∧ g < base ∧ PL base g (prot s) v w' else e = .returned (.tuple #[.pointer none, .int .i64 (errP s)]))
theorem eq_nil (W : World) : Sem.run Tryd.prog (binOp BinOp.eql 110 Value.nilFunc Value.nilFunc) W = .ok (.bool true) W := by kernel_rfl
theorem eq_fun (W : World) : Sem.run Tryd.prog (binOp BinOp.eql 110 (Value.func (.func 84) #[] #[]) Value.nilFunc) W = .ok (.bool false) W := by kernel_rfl
set_option maxHeartbeats 8000000 in
set_option maxRecDepth 100000 in
theorem parse_any (s : ByteArray) (w : World) (hL : LaidW w) (hs : s.size < 4294967281) : Calls Tryd.prog 68 #[.string s] w (PA s w) := by
  by_cases hbig : 65536 < s.size
  · have hfin : Aside0 (PA s w (.returned (.tuple #[.pointer none, .int .i64 3])) w) := ⟨by
      have e : errP s = 3 := by unfold errP; rw [if_pos hbig]
      refine ⟨Below.refl _ _, ?_⟩
      rw [e, if_neg (by decide)]⟩
    have hb : decide ((65536 : Int) < (s.size : Int)) = true := decide_eq_true (by omega)
    generalize PA s w = Q at *
    go_enter Tryd.func68, Tryd.ntmps68
    go_wp2_with fail
    exact hfin.out
  · have hfin : Aside0 (∀ g base v w', Below w.heap.size w w' → w.heap.size ≤ g → g < base → PL base g (prot s) v w' → (if (prot s).bad = true then PA s w (.returned (.tuple #[.pointer none, .int .i64 2])) w' else PA s w (.returned (.tuple #[.pointer (some ⟨g, 0, none⟩), .int .i64 0])) w')) := ⟨fun g base v w' h1 h2 h3 h4 => by
      by_cases hb : (prot s).bad = true
      · have e : errP s = 2 := by unfold errP; rw [if_neg hbig, if_pos hb]
        rw [if_pos hb]
        refine ⟨h1, ?_⟩
        rw [e, if_neg (by decide)]
      · have e : errP s = 0 := by unfold errP; rw [if_neg hbig, if_neg hb]
        rw [if_neg hb]
        refine ⟨h1, ?_⟩
        rw [if_pos e]
        exact ⟨g, base, v, rfl, h2, h3, h4⟩⟩
    have hb : decide ((65536 : Int) < (s.size : Int)) = false := decide_eq_false (by omega)
    obtain ⟨m, hm⟩ := hL.max
    have hsp : Aside0 (∀ W : World, Below w.heap.size w W → Calls Tryd.prog 85 #[.string s, .string ⟨#[10]⟩] W fun e w' => e = .returned (.slice (some ⟨W.heap.size, 0, none⟩) (lns s).length (lns s).length) ∧ w' = W.alloc (.cells ((lns s).map Value.string).toArray 9)) := ⟨fun W hW => by
      obtain ⟨m, hm⟩ := (LaidW.below hL hW).max
      have h := Tryd.strings_Split s ⟨#[10]⟩ m W hs hm (Nat.le_refl _)
      rw [← lns_len] at h
      exact h⟩
    have hnl : (lns s).length ≤ 65537 := by
      rw [lns_len]
      have := Sl.count_size s 10
      have h2 := size_len s
      omega
    have hsm := Aside0.mk (fun x hx => Nat.le_trans (lns_small s x hx) (show s.size ≤ 65536 by omega))
    have hrun : Aside0 (prot s = Pr.run ((lns s).map (·.data.toList)) Pr.new) := ⟨rfl⟩
    generalize PA s w = Q at *
    generalize prot s = P at *
    generalize lns s = L at *
    clear hm hs hbig
    go_enter Tryd.func68, Tryd.ntmps68
    go_upto_block 0 with (go_at_call 85; refine (hsp.out _ ((Below.refl _ w).alloc (Nat.le_refl _) _)).mono ?_; rintro e w1 ⟨rfl, hw1⟩; have hw1A := Aside0.mk hw1; clear hw1)
    have hcs := Aside0.mk (show w1.heap[w.heap.size + 1]? = some (.cells (L.map Value.string).toArray 9 (0, 0)) by
      rw [hw1A.out]
      have h := heap_alloc_new (w.alloc (.cells #[.slice none 0 0, .int .i64 0, .int .i64 0, .bool false, .bool false, .bool false, .bool false] 95)) (.cells (L.map Value.string).toArray 9)
      rw [show (w.alloc (.cells #[.slice none 0 0, .int .i64 0, .int .i64 0, .bool false, .bool false, .bool false, .bool false] 95)).heap.size = w.heap.size + 1 by simp] at h
      exact h)
    have hB1 : Aside0 (Below w.heap.size w w1) := ⟨by
      rw [hw1A.out]
      exact ((Below.refl _ w).alloc (Nat.le_refl _) _).alloc (by simp) _⟩
    have hP1 : Aside0 (PL (w.heap.size + 2) w.heap.size Pr.new (.slice none 0 0) w1) := ⟨by
      refine ⟨?_, World.ownsRow_nil _ _ _ _⟩
      rw [hw1A.out]
      exact (Lib.alloc_old _ _ _ (by simp)).trans (heap_alloc_new w _)⟩
    have hz1 : Aside0 (w.heap.size + 2 ≤ w1.heap.size) := ⟨by rw [hw1A.out]; simp⟩
    clear hw1A hsp
    go_cut [4] (fun v4 wx => v4 = .pointer (some ⟨w.heap.size, 0, none⟩) ∧ ∃ v, Aside0 (PL (w.heap.size + 2) w.heap.size P v wx ∧ Below w.heap.size w wx))
    case first =>
      go_wp2_with fail
      go_loopw [5, 16] (fun sv iv wr => ∃ (i : Nat) (q : Pr) (v : Value), iv = .int .i64 i ∧ sv = .func (.func 84) #[] #[] ∧ i ≤ L.length ∧ Aside0 (q.ts.length ≤ i ∧ q.plans ≤ i) ∧ Aside0 (Pr.run ((L.drop i).map (·.data.toList)) q = P) ∧ Aside0 (PL (w.heap.size + 2) w.heap.size q v wr) ∧ Aside0 (Below w.heap.size w wr) ∧ Aside0 (w.heap.size + 2 ≤ wr.heap.size) ∧ Aside0 (wr.heap[w.heap.size + 1]? = some (.cells (L.map Value.string).toArray 9 (0, 0)))) (fun _ iv _ => L.length - (Go.RowKit.intOf iv).toNat)
      case atStart => exact ⟨0, Pr.new, .slice none 0 0, rfl, rfl, by omega, ⟨Nat.le_refl _, Nat.le_refl _⟩, ⟨hrun.out.symm⟩, hP1, hB1, hz1, hcs⟩
      case round =>
        have eqN := fun W => eq_nil W
        have eqF := fun W => eq_fun W
        obtain ⟨i, q, v, rfl, rfl, hi, hql, hR, hPq, hBq, hzq, hcq⟩ := hrel
        by_cases hlt : i < L.length
        · obtain ⟨x, hx⟩ : ∃ x, L[i] = x := ⟨_, rfl⟩
          have hci : wr.cell? ⟨w.heap.size + 1, i, none⟩ = some (.string x) := cell_of hcq.out (by simp [hlt, hx])
          have hdr : Aside0 (Pr.run (x.data.toList :: (L.drop (i + 1)).map (·.data.toList)) q = P) := ⟨by
            have := hR.out
            rw [List.drop_eq_getElem_cons hlt, List.map_cons, hx] at this
            exact this⟩
          have hxz := hsm.out x (by rw [← hx]; exact List.getElem_mem hlt)
          have hna := Aside0.mk (next_any q x w.heap.size (w.heap.size + 2) v w wr hL hBq.out (Nat.le_refl _) (by omega) hzq.out hPq.out (by have := hql.out.1; omega) (by have := hql.out.2; omega) hxz)
          have hnl := Aside0.mk (nx_len q x.data.toList)
          have hnlA := Aside0.mk hlt
          clear hx hR
          by_cases hbl : bailS x.data.toList = true
          · have hdr2 : Aside0 (q.nx x.data.toList = P) := ⟨by rw [← hdr.out, nx_run, if_pos hbl]⟩
            have hnR : Aside0 (nxR x.data.toList = .nilFunc) := ⟨by unfold nxR; rw [if_pos hbl]⟩
            have hna2 : Aside0 (Calls Tryd.prog 84 #[.pointer (some ⟨w.heap.size, 0, none⟩), .string x] wr fun e w' => e = .returned .nilFunc ∧ ∃ v', PL (w.heap.size + 2) w.heap.size P v' w' ∧ Below w.heap.size w w') := ⟨hna.out.mono fun e w' h => ⟨by rw [h.1, hnR.out], by obtain ⟨v', h1, _, h3⟩ := h.2; rw [hdr2.out] at h1; exact ⟨v', h1, h3⟩⟩⟩
            clear hna hnR hdr hdr2 hbl
            go_wp2_with (go_at_call 84; refine hna2.out.mono ?_; rintro e w2 ⟨rfl, v', h1, h3⟩; have h13 := Aside0.mk (And.intro h1 h3); clear h1 h3)
            go_meet
            case rel => exact ⟨rfl, v', h13⟩
          · have hdr2 : Aside0 (Pr.run ((L.drop (i + 1)).map (·.data.toList)) (q.nx x.data.toList) = P) := ⟨by rw [← hdr.out, nx_run, if_neg hbl]⟩
            have hnR : Aside0 (nxR x.data.toList = nextV) := ⟨by unfold nxR; rw [if_neg hbl]⟩
            have hna2 : Aside0 (Calls Tryd.prog 84 #[.pointer (some ⟨w.heap.size, 0, none⟩), .string x] wr fun e w' => e = .returned (.func (.func 84) #[] #[]) ∧ ∃ v', PL (w.heap.size + 2) w.heap.size (q.nx x.data.toList) v' w' ∧ FrL (w.heap.size + 2) w.heap.size wr w' ∧ Below w.heap.size w w') := ⟨hna.out.mono fun e w' h => ⟨by rw [h.1, hnR.out]; rfl, h.2⟩⟩
            clear hna hnR hdr hbl
            go_wp2_with (go_at_call 84; refine hna2.out.mono ?_; rintro e w2 ⟨rfl, v', h1, h2, h3⟩; have h1A := Aside0.mk h1; have h2A := Aside0.mk h2; have h3A := Aside0.mk h3; clear h1 h2 h3)
            go_roundw
            case rel => exact ⟨i + 1, q.nx x.data.toList, v', by go_num, rfl, hnlA.out, ⟨by have h1 := hnl.out; have h2 := hql.out; exact ⟨by omega, by omega⟩⟩, hdr2, h1A, h3A, ⟨Nat.le_trans hzq.out h2A.out.1⟩, ⟨(h2A.out.2 _ (by omega) (by omega)).trans hcq.out⟩⟩
            case measure => simp [Go.RowKit.intOf]; have := hnlA.out; omega
        · have hie : i = L.length := by omega
          have hqP : Aside0 (q = P) := ⟨by rw [← hR.out, hie, List.drop_length]; rfl⟩
          subst hie
          clear hR
          go_wp2_with fail
          go_meet
          case rel => exact ⟨rfl, v, ⟨by rw [← hqP.out]; exact ⟨hPq.out, hBq.out⟩⟩⟩
    case rest =>
      obtain ⟨rfl, v, hPB⟩ := hcut
      have hf := Aside0.mk (hfin.out w.heap.size (w.heap.size + 2) v wc hPB.out.2 (Nat.le_refl _) (by omega) hPB.out.1)
      obtain ⟨A, c, rfl⟩ := own_slice hPB.out.1.2
      obtain ⟨c0, c1, c2, c3, c4, c5, c6⟩ := pr_cells hPB.out.1.1
      have hbad : Aside0 (P.bad = (!(P.plans == 1) || P.behind || (P.skips && decide (0 < P.ts.length)))) := ⟨rfl⟩
      generalize P.ts.length = Ln at *
      obtain ⟨pl, hpl⟩ : ∃ pl, P.plans = pl := ⟨_, rfl⟩
      obtain ⟨be, hbe⟩ : ∃ be, P.behind = be := ⟨_, rfl⟩
      obtain ⟨sk, hsk⟩ : ∃ sk, P.skips = sk := ⟨_, rfl⟩
      rw [hpl] at c2
      rw [hbe] at c6
      rw [hsk] at c3
      rw [hpl, hbe, hsk] at hbad
      clear hpl hbe hsk hfin hPB hcs hB1 hP1 hz1
      by_cases hp : pl = 1
      · subst hp
        cases be
        · cases sk
          · have hf2 := hf.out
            rw [if_neg (by rw [hbad.out]; simp)] at hf2
            have hf3 := Aside0.mk hf2
            clear hf hf2
            go_wp2_with fail
            exact hf3.out
          · by_cases hl : 0 < Ln
            · have hf2 := hf.out
              rw [if_pos (by rw [hbad.out]; simp [hl])] at hf2
              have hf3 := Aside0.mk hf2
              have hd : decide ((0 : Int) < (Ln : Int)) = true := decide_eq_true (by omega)
              clear hf hf2
              go_wp2_with fail
              exact hf3.out
            · have hf2 := hf.out
              rw [if_neg (by rw [hbad.out]; simp [hl])] at hf2
              have hf3 := Aside0.mk hf2
              have hd : decide ((0 : Int) < (Ln : Int)) = false := decide_eq_false (by omega)
              clear hf hf2
              go_wp2_with fail
              exact hf3.out
        · have hf2 := hf.out
          rw [if_pos (by rw [hbad.out]; simp)] at hf2
          have hf3 := Aside0.mk hf2
          clear hf hf2
          go_wp2_with fail
          exact hf3.out
      · have hf2 := hf.out
        rw [if_pos (by rw [hbad.out]; simp [hp])] at hf2
        have hf3 := Aside0.mk hf2
        have hd : ((pl : Int) != 1) = true := by rw [bne_iff_ne]; omega
        clear hf hf2
        go_wp2_with fail
        exact hf3.out
end Go.Proofs.YtallfkecjibpmaaDoor.G
