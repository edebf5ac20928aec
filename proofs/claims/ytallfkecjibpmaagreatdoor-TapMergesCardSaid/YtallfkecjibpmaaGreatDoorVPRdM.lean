/- Of this claim's texts (PRdM): the declarations that the claim reaches (slimclaim.py). -/
import Derived.Test.YtallfkecjibpmaaGreatDoorVRdH
import Derived.Test.YtallfkecjibpmaaGreatDoorVPRd2
import Derived.Test.YtallfkecjibpmaaGreatDoorVRdT
import Derived.Test.YtallfkecjibpmaaGreatDoorVM1
set_option linter.unusedVariables false
set_option linter.unusedSimpArgs false
namespace Go.Proofs.YtallfkecjibpmaaGreatDoor.Q
open Go.RowKit Go.Proofs.YtallfkecjibpmaaGreatDoorW.PrintWords Go.Proofs.YtallfkecjibpmaaGreatDoorW.PrintMore Go.Proofs.YtallfkecjibpmaaGreatDoor.G Go.Proofs.YtallfkecjibpmaaGreatDoor.Nm Go.Proofs.YtallfkecjibpmaaGreatDoor.Rd Go.Proofs.YtallfkecjibpmaaGreatDoor.R Go.Proofs.YtallfkecjibpmaaGreatDoor.M
def toR (t : Tst) : S53 := ⟨t.ok, mkD t.name, t.dir, mkD t.reason⟩
def outR (q : Rr) : List S53 × List Int × Int × Bool × Int := (q.ts.map toR, q.ts.map (·.num), q.plan, q.ended, if q.bad = true then 2 else 0)
theorem fin_eq (q : Rr) : (if (q.plans : Int) = 1 then (if (q.first : Int) = 0 then (if q.skip = true then (if ((q.ts.map toR).length : Int) > 0 then some (q.ts.map toR, q.ts.map (·.num), q.plan, q.ended, (2 : Int)) else some (q.ts.map toR, q.ts.map (·.num), q.plan, q.ended, 0)) else some (q.ts.map toR, q.ts.map (·.num), q.plan, q.ended, 0)) else (if (q.first : Int) = ((q.ts.map toR).length : Int) then (if q.skip = true then (if ((q.ts.map toR).length : Int) > 0 then some (q.ts.map toR, q.ts.map (·.num), q.plan, q.ended, 2) else some (q.ts.map toR, q.ts.map (·.num), q.plan, q.ended, 0)) else some (q.ts.map toR, q.ts.map (·.num), q.plan, q.ended, 0)) else some (q.ts.map toR, q.ts.map (·.num), q.plan, q.ended, 2))) else some (q.ts.map toR, q.ts.map (·.num), q.plan, q.ended, 2)) = some (outR q) := by
  unfold outR Rr.bad
  rw [List.length_map]
  by_cases h1 : q.plans = 1
  · rw [if_pos (by omega), beq_iff_eq.2 h1]
    by_cases h2 : q.first = 0
    · rw [if_pos (by omega), beq_iff_eq.2 h2]
      cases hs : q.skip
      · simp
      · by_cases h4 : 0 < q.ts.length
        · rw [if_pos rfl, if_pos (by omega), decide_eq_true h4]; simp
        · rw [if_pos rfl, if_neg (by omega), decide_eq_false h4]; simp
    · rw [if_neg (by omega), beq_eq_false_iff_ne.2 h2]
      by_cases h3 : q.first = q.ts.length
      · rw [if_pos (by omega), beq_iff_eq.2 h3]
        cases hs : q.skip
        · simp
        · by_cases h4 : 0 < q.ts.length
          · rw [if_pos rfl, if_pos (by omega), decide_eq_true h4]; simp
          · rw [if_pos rfl, if_neg (by omega), decide_eq_false h4]; simp
      · rw [if_neg (by omega), beq_eq_false_iff_ne.2 h3]; simp
  · rw [if_neg (by omega), beq_eq_false_iff_ne.2 h1]; simp
theorem rdOf_get (L : List ByteArray) (i : Nat) (h : i < L.length) : rdOf ByteArray.empty L (i : Int) = L[i] := by
  unfold rdOf
  rw [Int.toNat_natCast, List.getD_eq_getElem?_getD, List.getElem?_eq_getElem h]; rfl
theorem rd_get (L : List Int) (i : Nat) (h : i < L.length) : rd L (i : Int) = L[i] := by
  unfold rd
  rw [Int.toNat_natCast, List.getD_eq_getElem?_getD, List.getElem?_eq_getElem h]; rfl
theorem rd53_get (L : List S53) (i : Nat) (h : i < L.length) : rd_T53 L (i : Int) = L[i] := by
  unfold rd_T53
  rw [Int.toNat_natCast, List.getD_eq_getElem?_getD, List.getElem?_eq_getElem h]; rfl
theorem rd45_get (L : List S45) (i : Nat) (h : i < L.length) : rd_T45 L (i : Int) = L[i] := by
  unfold rd_T45
  rw [Int.toNat_natCast, List.getD_eq_getElem?_getD, List.getElem?_eq_getElem h]; rfl
theorem bailS_split (l : Bs) : bailS l = true ↔ l = [66, 97, 105, 108, 32, 111, 117, 116, 33] ∨ Lib.hasPrefix l (bailW ++ [32]) = true := by
  unfold bailS
  rw [Bool.or_eq_true, beq_iff_eq]; exact Iff.rfl
theorem read_l0 (L : List ByteArray) (hx : ∀ x ∈ L, x.size ≤ 65536) (hlen : L.length ≤ 70000) : ∀ (d k i : Nat) (p : Rr), i + d = L.length → 2 * d + 1000200 < k → p.plans ≤ i → p.ts.length ≤ i → p.ended = false →
    motleyref27_read.l0 k (p.plans : Int) (p.first : Int) p.skip L (i : Int) (p.ts.map toR) (p.ts.map (·.num)) p.plan p.ended = some (outR (Rr.run ((L.drop i).map (·.data.toList)) p))
  | 0, k, i, p, hi, hk, hp1, hp2, he => by
    obtain ⟨k, rfl⟩ : ∃ j, k = j + 1 := ⟨k - 1, by omega⟩
    rw [motleyref27_read.l0, if_neg (by omega), List.drop_of_length_le (by omega)]
    exact fin_eq p
  | d + 1, k, i, p, hi, hk, hp1, hp2, he => by
    obtain ⟨k, rfl⟩ : ∃ j, k = j + 2 := ⟨k - 2, by omega⟩
    have hlt : i < L.length := by omega
    obtain ⟨x, hxE⟩ : ∃ x, L[i] = x := ⟨_, rfl⟩
    have hxz : x.size ≤ 65536 := hx x (by rw [← hxE]; exact List.getElem_mem hlt)
    have hdr : (L.drop i).map (·.data.toList) = x.data.toList :: (L.drop (i + 1)).map (·.data.toList) := by
      rw [List.drop_eq_getElem_cons hlt, List.map_cons, hxE]
    have hrun : Rr.run ((L.drop i).map (·.data.toList)) p = if bailS x.data.toList = true then p.bail else Rr.run ((L.drop (i + 1)).map (·.data.toList)) (p.step x.data.toList) := by
      rw [hdr, Rr.run]
    rw [motleyref27_read.l0, if_pos (by omega), if_pos (by omega), rdOf_get L i hlt, hxE, toL_data, begins_eq, hrun]
    simp only [Option.bind_some]
    have hbail : motleyref27_read.j1 (k + 1) (p.plans : Int) (p.first : Int) p.skip L (i : Int) true (p.ts.map toR) (p.ts.map (·.num)) p.plan p.ended = some (outR p.bail) := by
      rw [motleyref27_read.j1, if_pos rfl]
      exact fin_eq p.bail
    by_cases h1 : x.data.toList = [66, 97, 105, 108, 32, 111, 117, 116, 33]
    · rw [if_pos h1, if_pos ((bailS_split _).2 (.inl h1))]; exact hbail
    · rw [if_neg h1, show Lib.hasPrefix x.data.toList [66, 97, 105, 108, 32, 111, 117, 116, 33, 32] = Lib.hasPrefix x.data.toList (bailW ++ [32]) from rfl]
      cases h2 : Lib.hasPrefix x.data.toList (bailW ++ [32])
      · have hb : ¬ bailS x.data.toList = true := fun h => by
          rcases (bailS_split _).1 h with h | h
          · exact h1 h
          · rw [h2] at h; cases h
        rw [if_neg hb, motleyref27_read.j1, if_neg (by decide), if_pos (by omega), if_pos (by omega), rdOf_get L i hlt, hxE]
        obtain ⟨n, b, e1, e2⟩ := plan_f x (by omega) k (by omega)
        rw [e1]
        simp only [Option.bind_some]
        have hst : p.step x.data.toList = match planP x.data.toList with
          | some (n, k) => ⟨p.ts, n, p.plans + 1, p.ts.length, k, p.ended⟩
          | none => match testR x.data.toList with
            | some t => ⟨p.ts ++ [t], p.plan, p.plans, p.first, p.skip, p.ended⟩
            | none => p := by unfold Rr.step; rw [plan_eq]; rfl
        cases hpl : planP x.data.toList with
        | some y =>
          have hy := e2 y hpl
          subst hy
          rw [hpl] at hst
          simp only at hst
          rw [hst]
          simp only [Option.isSome_some, if_true]
          rw [w1 (by omega), w1 (by omega), List.length_map]
          exact read_l0 L hx hlen d k (i + 1) ⟨p.ts, n, p.plans + 1, p.ts.length, b, p.ended⟩ (by omega) (by omega) (by show p.plans + 1 ≤ i + 1; omega) (by show p.ts.length ≤ i + 1; omega) he
        | none =>
          rw [hpl] at hst
          simp only at hst
          simp only [Option.isSome_none, Bool.false_eq_true, if_false]
          have htf : motleyref27_test.f x = some ((testX x.data.toList).1.ok, mkD (testX x.data.toList).1.name, (testX x.data.toList).1.dir, mkD (testX x.data.toList).1.reason, (testX x.data.toList).1.num, (testX x.data.toList).2) := by
            unfold motleyref27_test.f; rw [if_pos hxz]
          rw [htf]
          simp only [Option.bind_some]
          rw [testX_R] at hst
          rw [w1 (by omega)]
          by_cases ht : (testX x.data.toList).2 = true
          · rw [if_pos ht] at hst ⊢
            simp only at hst
            rw [hst, List.length_map, List.length_map, if_pos (by omega), if_pos (by omega)]
            have e := read_l0 L hx hlen d k (i + 1) ⟨p.ts ++ [(testX x.data.toList).1], p.plan, p.plans, p.first, p.skip, p.ended⟩ (by omega) (by omega) (by show p.plans ≤ i + 1; omega) (by show (p.ts ++ _).length ≤ i + 1; simp; omega) he
            rw [← e]
            simp only [List.map_append, List.map_cons, List.map_nil]
            rfl
          · rw [if_neg ht] at hst ⊢
            simp only at hst
            rw [hst]
            exact read_l0 L hx hlen d k (i + 1) p (by omega) (by omega) (by omega) (by omega) he
      · rw [if_pos ((bailS_split _).2 (.inr h2))]
        exact hbail
def protR (s : ByteArray) : Rr := Rr.run ((lns s).map (·.data.toList)) Rr.new
theorem read_f (s : ByteArray) (k : Nat) (hk : 1300000 ≤ k) : motleyref27_read.f k s = some (if 65536 < s.size then ([], [], 0, false, 3) else outR (protR s)) := by
  unfold motleyref27_read.f
  by_cases h : 65536 < s.size
  · rw [if_pos (by omega), if_pos h]
  · rw [if_neg (by omega), if_neg h, lines_eq s (by omega) k (by omega)]
    simp only [Option.bind_some]
    have hl : (lns s).length ≤ 70000 := by
      rw [lns_len]
      have := Sl.count_size s 10
      have h2 := size_len s
      omega
    have := read_l0 (lns s) (fun x hx => Nat.le_trans (lns_small s x hx) (by omega)) hl (lns s).length k 0 Rr.new (by omega) (by omega) (Nat.le_refl _) (Nat.le_refl _) rfl
    rw [List.drop_zero] at this
    exact this
theorem prot_R (s : ByteArray) : PR (prot s) (protR s) := PR.run _ PR.new
theorem run_len_R (s : ByteArray) : (protR s).ts.length ≤ s.size + 1 := by rw [← (prot_R s).ts]; exact prot_len s
theorem Read_l0 (ts : List Tst) (hn : ts.length ≤ 1000000) (b0 : Bool) (pl : Int) (en : Bool) : ∀ (d k i : Nat), i + d = ts.length → d < k →
    motleyref27_Read.l0 k (b0 || mism ts i) (i : Int) (ts.map toR) (ts.map (·.num)) pl en = some (if (b0 || mism ts ts.length) = true then ([], 10) else if 200 < ts.length then ([], 3) else (ts.map toR, 0))
  | 0, k, i, hi, hk => by
    obtain ⟨k, rfl⟩ : ∃ j, k = j + 1 := ⟨k - 1, by omega⟩
    have hie : i = ts.length := by omega
    rw [motleyref27_Read.l0, List.length_map, if_neg (by omega), hie]
    by_cases hb : (b0 || mism ts ts.length) = true
    · rw [if_pos hb, if_pos hb]
    · rw [if_neg hb, if_neg hb, List.length_map]
      by_cases h2 : 200 < ts.length
      · rw [if_pos (by omega), if_pos h2]
      · rw [if_neg (by omega), if_neg h2]
  | d + 1, k, i, hi, hk => by
    obtain ⟨k, rfl⟩ : ∃ j, k = j + 1 := ⟨k - 1, by omega⟩
    have hlt : i < ts.length := by omega
    have ih := Read_l0 ts hn b0 pl en d k (i + 1) (by omega) (by omega)
    have hrd : rd (ts.map (·.num)) (i : Int) = ts[i].num := by rw [rd_get _ i (by rw [List.length_map]; exact hlt), List.getElem_map]
    have hm : mism ts (i + 1) = (mism ts i || (decide (0 ≤ ts[i].num) && !(ts[i].num == (i : Int) + 1))) := by rw [mism, List.getElem?_eq_getElem hlt]
    rw [motleyref27_Read.l0, List.length_map, if_pos (by omega)]
    rw [hm] at ih
    by_cases hb : (b0 || mism ts i) = true
    · rw [if_pos hb, w1 (by omega)]
      rw [← Bool.or_assoc, hb, Bool.true_or] at ih
      exact ih
    · rw [if_neg hb, if_pos (by omega), hrd]
      rw [← Bool.or_assoc, Bool.not_eq_true] at *
      rw [hb, Bool.false_or] at ih
      by_cases h0 : 0 ≤ ts[i].num
      · rw [if_pos h0, w1 (by omega)]
        rw [decide_eq_true h0, Bool.true_and] at ih
        exact ih
      · rw [if_neg h0, w1 (by omega)]
        rw [decide_eq_false h0, Bool.false_and] at ih
        exact ih
theorem Read_f (s : ByteArray) (hs : s.size ≤ 262144) : motleyref27_Read.f 2000000 s = some (if errRd s = 0 then (prot s).ts.map toR else [], errRd s) := by
  have hP := prot_R s
  have hlen := run_len_R s
  unfold motleyref27_Read.f
  rw [read_f s _ (by omega)]
  simp only [Option.bind_some]
  unfold errRd errP
  by_cases hb : 65536 < s.size
  · rw [if_pos hb, if_pos hb]; rfl
  · rw [if_neg hb, if_neg hb, hP.bad, hP.bailed, hP.ts, hP.plan]
    generalize protR s = r at *
    unfold outR
    simp only
    cases hbd : r.bad
    · simp only [Bool.false_eq_true, if_false, ne_eq, not_true_eq_false, if_true]
      cases he : r.ended
      · simp only [Bool.false_eq_true, if_false]
        have h := Read_l0 r.ts (by omega) ((r.ts.length : Int) != r.plan) r.plan false r.ts.length 2000000 0 (by omega) (by omega)
        rw [show mism r.ts 0 = false from rfl, Bool.or_false] at h
        rw [List.length_map]
        refine h.trans ?_
        congr 1
        by_cases h1 : (r.ts.length : Int) = r.plan
        · rw [show ((r.ts.length : Int) != r.plan) = false from by rw [bne_eq_false_iff_eq]; exact h1, Bool.false_or, if_neg (c := ¬ (r.ts.length : Int) = r.plan) (fun h => h h1)]
          cases hm : mism r.ts r.ts.length
          · simp only [Bool.false_eq_true, if_false]
            by_cases h2 : 200 < r.ts.length
            · rw [if_pos h2, if_pos h2]; rfl
            · rw [if_neg h2, if_neg h2]; rfl
          · simp
        · rw [show ((r.ts.length : Int) != r.plan) = true from by rw [bne_iff_ne]; exact h1, Bool.true_or, if_pos rfl, if_pos (c := ¬ (r.ts.length : Int) = r.plan) h1]; rfl
      · rfl
    · rfl
end Go.Proofs.YtallfkecjibpmaaGreatDoor.Q
