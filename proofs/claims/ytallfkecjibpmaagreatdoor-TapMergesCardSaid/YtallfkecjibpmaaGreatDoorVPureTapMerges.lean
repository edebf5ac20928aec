/- Of this claim's texts (PureTapMerges): the declarations that the claim reaches (slimclaim.py). -/
import Derived.Test.YtallfkecjibpmaaGreatDoorVPMg
import Derived.Test.YtallfkecjibpmaaGreatDoorVZ1
set_option linter.unusedVariables false
set_option linter.unusedSimpArgs false
namespace Go.Proofs.YtallfkecjibpmaaGreatDoor.Pure
open Go.RowKit Go.Proofs.YtallfkecjibpmaaGreatDoorW.PrintWords Go.Proofs.YtallfkecjibpmaaGreatDoorW.PrintMore Go.Proofs.YtallfkecjibpmaaGreatDoor.G Go.Proofs.YtallfkecjibpmaaGreatDoor.Nm Go.Proofs.YtallfkecjibpmaaGreatDoor.Rd Go.Proofs.YtallfkecjibpmaaGreatDoor.R Go.Proofs.YtallfkecjibpmaaGreatDoor.M Go.Proofs.YtallfkecjibpmaaGreatDoor.Q Go.Proofs.YtallfkecjibpmaaGreatDoor.Y Go.Proofs.YtallfkecjibpmaaGreatDoor.Z
theorem cont_cons (b : UInt8) (l w : Bs) : Lib.contains (b :: l) w = (w.isPrefixOf (b :: l) || Lib.contains l w) := by
  unfold Lib.contains
  have h1 := Lib.index_ge l w
  rw [Lib.index]
  by_cases h : w.isPrefixOf (b :: l) = true
  · rw [if_pos h, h]; rfl
  · rw [if_neg h, Bool.not_eq_true] at *
    rw [h, Bool.false_or]
    by_cases h2 : Lib.index l w = -1
    · rw [beq_iff_eq.2 h2, if_pos rfl, h2]
    · rw [beq_eq_false_iff_ne.2 h2, if_neg (by simp)]
      by_cases h3 : 0 ≤ Lib.index l w
      · rw [decide_eq_true h3, decide_eq_true (by omega)]
      · omega
theorem cont_nil (w : Bs) : Lib.contains [] w = w.isPrefixOf [] := by
  unfold Lib.contains
  rw [Lib.index]
  rcases w with _ | ⟨c, w⟩ <;> rfl
theorem cont_one : ∀ (l : Bs) (c : UInt8), decide (0 ≤ Lib.indexByte l c) = Lib.contains l [c]
  | [], c => by rw [cont_nil]; rfl
  | b :: l, c => by
    rw [cont_cons, idx_contains, List.contains_cons, ← cont_one l c, idx_contains]
    simp [List.isPrefixOf]
theorem contains_f (n : Bs) (w : ByteArray) (hn : n.length ≤ 200) : strings_Contains.f (mkD n) w = some (Lib.contains n w.data.toList) := by
  unfold strings_Contains.f
  split
  · rename_i c hc
    rw [hc, mkD_list, cont_one]
  · rw [mkD_list, if_pos (by rw [mkD_size]; omega)]
theorem cont_long (n w : Bs) (h : n.length < w.length) : Lib.contains n w = false := by
  unfold Lib.contains
  refine decide_eq_false (fun h2 => ?_)
  have := Lib.index_room n w h2
  omega
theorem pre_iff (n w : Bs) : w.isPrefixOf n = true ↔ n.take w.length = w := by
  rw [List.isPrefixOf_iff_prefix, List.prefix_iff_eq_take]
  exact ⟨fun h => h.symm, fun h => h.symm⟩
def filt (w : Bs) (ts : List Tst) : List Tst := ts.filter (fun t => Lib.contains t.name w)
theorem filt_cons (w : Bs) (t : Tst) (ts : List Tst) : filt w (t :: ts) = if Lib.contains t.name w = true then t :: filt w ts else filt w ts := by
  unfold filt; rw [List.filter_cons]
theorem subset_l0 (ts : List Tst) (hv : ∀ t ∈ ts, vT t) (hn : ts.length ≤ 900) (w : ByteArray) : ∀ (d k i : Nat) (acc : List Tst), i + d = ts.length → 3000 + d < k → acc.length ≤ i → (∀ t ∈ acc, vT t) →
    tap_Subset.l0 k w (acc.map toS) (ts.map toS) (ts.length : Int) (i : Int) = some (wholeW (acc ++ filt w.data.toList (ts.drop i)), 0)
  | 0, k, i, acc, hi, hk, ha, hva => by
    obtain ⟨k, rfl⟩ : ∃ j, k = j + 1 := ⟨k - 1, by omega⟩
    rw [tap_Subset.l0, if_neg (by omega), written_f acc hva (by omega) k (by omega), List.drop_eq_nil_of_le (by omega)]
    show some (wholeW acc, (0 : Int)) = some (wholeW (acc ++ []), 0)
    rw [List.append_nil]
  | d + 1, k, i, acc, hi, hk, ha, hva => by
    obtain ⟨k, rfl⟩ : ∃ j, k = j + 1 := ⟨k - 1, by omega⟩
    have hlt : i < ts.length := by omega
    have hvt := hv ts[i] (List.getElem_mem hlt)
    have hR : rd_T45 (ts.map toS) (i : Int) = toS ts[i] := by rw [rd45_get _ i (by rw [List.length_map]; exact hlt), List.getElem_map]
    rw [tap_Subset.l0, if_pos (by omega), if_pos (by omega), if_pos (by rw [List.length_map]; omega), hR]
    rw [show strings_Contains.f (toS ts[i]).f1 w = some (Lib.contains ts[i].name w.data.toList) from contains_f _ w (okName_len hvt.1), Option.bind_some, List.drop_eq_getElem_cons hlt, filt_cons, w1 (by omega)]
    by_cases hc : Lib.contains ts[i].name w.data.toList = true
    · rw [if_pos hc, if_pos hc, if_pos (by rw [List.length_map]; omega)]
      have ih := subset_l0 ts hv hn w d k (i + 1) (acc ++ [ts[i]]) (by omega) (by omega) (by rw [List.length_append]; simp; omega) (fun t ht => by
        rcases List.mem_append.1 ht with ht | ht
        · exact hva t ht
        · rw [List.mem_singleton.1 ht]; exact hvt)
      rw [List.map_append, List.append_assoc] at ih
      exact ih
    · rw [if_neg hc, if_neg hc]
      exact subset_l0 ts hv hn w d k (i + 1) acc (by omega) (by omega) (by omega) hva
theorem wj (j z : Nat) (h : j + z ≤ 1000000000000) : wrap64 ((j : Int) + (z : Int)) = ((j + z : Nat) : Int) := by rw [Q.w64 (by omega) (by omega)]; omega
theorem refSub_l1 (L acc : List S53) (i : Nat) (t : Tst) (hi : i < L.length) (hL : rd_T53 L (i : Int) = toR t) (h9 : i ≤ 900) (hac : acc.length ≤ 1000) (hn : t.name.length ≤ 200) (w : ByteArray) (hw : w.size ≤ 1000000) (K : Nat) (R : Option (ByteArray × Int))
    (hyes : Lib.contains t.name w.data.toList = true → ∀ k, K ≤ k → motleyref27_Subset.l0 k w L (acc ++ [toR t]) ((i + 1 : Nat) : Int) = R)
    (hno : Lib.contains t.name w.data.toList = false → ∀ k, K ≤ k → motleyref27_Subset.l0 k w L acc ((i + 1 : Nat) : Int) = R) :
    ∀ (d k j : Nat), j + d = t.name.length + 1 → K + d < k → (j ≤ t.name.length ∨ 0 < w.size) → Lib.contains (t.name.drop j) w.data.toList = Lib.contains t.name w.data.toList → motleyref27_Subset.l1 k w L acc (i : Int) (j : Int) = R
  | 0, k, j, hj, hk, h0, hb => by
    obtain ⟨k, rfl⟩ : ∃ m, k = m + 1 := ⟨k - 1, by omega⟩
    have hs := size_len w
    have e1 : (toR t).f1 = mkD t.name := rfl
    have hz : (mkD t.name).size = t.name.length := mkD_size _
    rw [motleyref27_Subset.l1, if_pos (by omega), if_pos (by omega), hL, e1, hz, wj j w.size (by omega), w1 (by omega), if_neg (by omega)]
    refine hno ?_ k (by omega)
    rw [← hb]
    exact cont_long _ _ (by rw [List.length_drop]; omega)
  | d + 1, k, j, hj, hk, h0, hb => by
    obtain ⟨k, rfl⟩ : ∃ m, k = m + 1 := ⟨k - 1, by omega⟩
    have hs := size_len w
    have e1 : (toR t).f1 = mkD t.name := rfl
    have hz : (mkD t.name).size = t.name.length := mkD_size _
    have hrec : 0 < w.size → Lib.contains (t.name.drop (j + 1)) w.data.toList = Lib.contains t.name w.data.toList → motleyref27_Subset.l1 k w L acc (i : Int) ((j + 1 : Nat) : Int) = R := fun h0 => refSub_l1 L acc i t hi hL h9 hac hn w hw K R hyes hno d k (j + 1) (by omega) (by omega) (.inr h0)
    rw [motleyref27_Subset.l1, if_pos (by omega), if_pos (by omega), hL, e1, hz, wj j w.size (by omega), w1 (by omega)]
    by_cases hr : j + w.size ≤ t.name.length
    · rw [if_pos (by omega), if_pos (by omega), if_pos (by omega), Int.toNat_natCast, Int.toNat_natCast, ByteArray.toList_eq, ByteArray.toList_eq, Lib.extract_data, mkD_list, show j + w.size - j = w.data.toList.length by omega]
      by_cases hp : (t.name.drop j).take w.data.toList.length = w.data.toList
      · rw [if_pos hp, if_pos (by omega)]
        have hc : Lib.contains t.name w.data.toList = true := by
          rw [← hb]
          have hp2 := (pre_iff _ _).2 hp
          cases hdr : t.name.drop j with
          | nil => rw [cont_nil, ← hdr]; exact hp2
          | cons b l => rw [cont_cons, ← hdr, hp2, Bool.true_or]
        exact hyes hc k (by omega)
      · rw [if_neg hp, w1 (by omega)]
        have hwp : 0 < w.size := by
          rcases Nat.eq_zero_or_pos w.size with h | h
          · exfalso; apply hp
            have h0 : w.data.toList = [] := List.eq_nil_of_length_eq_zero (by omega)
            rw [h0]; rfl
          · exact h
        refine hrec hwp ?_
        have hp2 : w.data.toList.isPrefixOf (t.name.drop j) = false := by rw [Bool.eq_false_iff]; exact fun h => hp ((pre_iff _ _).1 h)
        have hjl : j < t.name.length := by
          rcases Nat.lt_or_ge j t.name.length with h | h
          · exact h
          · exfalso; apply hp
            have h0 : w.data.toList = [] := List.eq_nil_of_length_eq_zero (by omega)
            rw [h0]; rfl
        rw [← hb, List.drop_eq_getElem_cons hjl, cont_cons, ← List.drop_eq_getElem_cons hjl, hp2, Bool.false_or]
    · rw [if_neg (by omega)]
      refine hno ?_ k (by omega)
      rw [← hb]
      exact cont_long _ _ (by rw [List.length_drop]; omega)
theorem refSub_l0 (ts : List Tst) (hv : ∀ t ∈ ts, vT t) (hn : ts.length ≤ 900) (w : ByteArray) (hw : w.size ≤ 1000000) : ∀ (d k i : Nat) (acc : List Tst), i + d = ts.length → 3000 + 210 * d < k → acc.length ≤ i → (∀ t ∈ acc, vT t) →
    motleyref27_Subset.l0 k w (ts.map toR) (acc.map toR) (i : Int) = some (wholeW (acc ++ filt w.data.toList (ts.drop i)), 0)
  | 0, k, i, acc, hi, hk, ha, hva => by
    obtain ⟨k, rfl⟩ : ∃ j, k = j + 1 := ⟨k - 1, by omega⟩
    rw [motleyref27_Subset.l0, List.length_map, if_neg (by omega), write_f acc hva (by omega) k (by omega), List.drop_eq_nil_of_le (by omega)]
    show some (wholeW acc, (0 : Int)) = some (wholeW (acc ++ []), 0)
    rw [List.append_nil]
  | d + 1, k, i, acc, hi, hk, ha, hva => by
    obtain ⟨k, rfl⟩ : ∃ j, k = j + 1 := ⟨k - 1, by omega⟩
    have hlt : i < ts.length := by omega
    have hlm : i < (ts.map toR).length := by rw [List.length_map]; exact hlt
    have hvt := hv ts[i] (List.getElem_mem hlt)
    have hnl := okName_len hvt.1
    have hR : rd_T53 (ts.map toR) (i : Int) = toR ts[i] := by rw [rd53_get _ i hlm, List.getElem_map]
    rw [motleyref27_Subset.l0, if_pos (by omega), List.drop_eq_getElem_cons hlt, filt_cons]
    refine refSub_l1 _ _ i ts[i] hlm hR (by omega) (by rw [List.length_map]; omega) hnl w hw (3000 + 210 * d + 1) _ ?_ ?_ (ts[i].name.length + 1) k 0 (by omega) (by omega) (.inl (by omega)) rfl
    · intro hc k' hk'
      rw [if_pos hc]
      have ih := refSub_l0 ts hv hn w hw d k' (i + 1) (acc ++ [ts[i]]) (by omega) (by omega) (by rw [List.length_append]; simp; omega) (fun t ht => by
        rcases List.mem_append.1 ht with ht | ht
        · exact hva t ht
        · rw [List.mem_singleton.1 ht]; exact hvt)
      rw [List.map_append, List.append_assoc] at ih
      exact ih
    · intro hc k' hk'
      rw [if_neg (by rw [hc]; decide)]
      exact refSub_l0 ts hv hn w hw d k' (i + 1) acc (by omega) (by omega) (by omega) hva
theorem prot_ok (s : ByteArray) : ∀ t ∈ (prot s).ts, vT t := run_ok _ _ (fun t h => by cases h)
theorem errRd_len {s : ByteArray} (h : errRd s = 0) : (prot s).ts.length ≤ 200 := by
  unfold errRd at h
  by_cases h5 : 200 < (prot s).ts.length
  · exfalso
    split at h
    · rename_i h1; exact h1 h
    · split at h
      · omega
      · split at h
        · omega
        · split at h
          · omega
          · omega
  · omega
def mergeW (a b : ByteArray) : ByteArray × Int := if errRd a = 0 then (if errRd b = 0 then (if 200 < (prot a).ts.length + (prot b).ts.length then (⟨#[]⟩, 3) else (wholeW ((prot a).ts ++ (prot b).ts), 0)) else (⟨#[]⟩, errRd b)) else (⟨#[]⟩, errRd a)
def subW (a w : ByteArray) : ByteArray × Int := if errRd a = 0 then (wholeW (filt w.data.toList (prot a).ts), 0) else (⟨#[]⟩, errRd a)
theorem tapRead (s : ByteArray) (h : s.size ≤ 262144) : tap_Read.f s = some (if errRd s = 0 then (prot s).ts.map toS else [], errRd s) := by unfold tap_Read.f; rw [if_pos (by omega)]
theorem both_ok (a b : ByteArray) : ∀ t ∈ (prot a).ts ++ (prot b).ts, vT t := fun t ht => by
  rcases List.mem_append.1 ht with ht | ht
  · exact prot_ok a t ht
  · exact prot_ok b t ht
theorem tapMerge (a b : ByteArray) (ha : a.size ≤ 262144) (hb : b.size ≤ 262144) : tap_Merge.f 2000000 a b = some (mergeW a b) := by
  unfold tap_Merge.f mergeW
  rw [tapRead a ha, tapRead b hb]
  simp only [Option.bind_some]
  by_cases h1 : errRd a = 0
  · simp only [if_pos h1]
    by_cases h2 : errRd b = 0
    · simp only [if_pos h2]
      have l1 := errRd_len h1
      have l2 := errRd_len h2
      rw [List.length_map, List.length_map, if_pos (by omega), ← List.map_append]
      unfold tap_Write.f
      rw [asked_f _ (both_ok a b) (by rw [List.length_append]; omega) _ (by omega), List.length_append]
      simp only [Option.bind_some]
      by_cases h3 : 200 < (prot a).ts.length + (prot b).ts.length
      · simp only [if_pos h3]; rfl
      · simp only [if_neg h3, if_true]
        rw [written_f _ (both_ok a b) (by rw [List.length_append]; omega) _ (by omega)]; rfl
    · simp only [if_neg h2]
  · simp only [if_neg h1]
theorem refMerge (a b : ByteArray) (ha : a.size ≤ 262144) (hb : b.size ≤ 262144) : motleyref27_Merge.f 2000000 a b = some (mergeW a b) := by
  unfold motleyref27_Merge.f mergeW
  rw [Read_f a ha, Read_f b hb]
  simp only [Option.bind_some]
  by_cases h1 : errRd a = 0
  · simp only [if_pos h1]
    by_cases h2 : errRd b = 0
    · simp only [if_pos h2]
      have l1 := errRd_len h1
      have l2 := errRd_len h2
      rw [List.length_map, List.length_map, if_pos ⟨by omega, by omega⟩, ← List.map_append]
      by_cases h3 : 200 < (prot a).ts.length + (prot b).ts.length
      · rw [if_pos h3, if_pos h3]
      · rw [if_neg h3, if_neg h3, write_f _ (both_ok a b) (by rw [List.length_append]; omega) _ (by omega)]; rfl
    · simp only [if_neg h2]
  · simp only [if_neg h1]
theorem tapSub (a w : ByteArray) (ha : a.size ≤ 262144) : tap_Subset.f 2000000 a w = some (subW a w) := by
  unfold tap_Subset.f subW
  rw [tapRead a ha]
  simp only [Option.bind_some]
  by_cases h1 : errRd a = 0
  · simp only [if_pos h1]
    have l1 := errRd_len h1
    rw [List.length_map]
    exact subset_l0 _ (prot_ok a) (by omega) w (prot a).ts.length 2000000 0 [] (by omega) (by omega) (by simp) (fun t h => by cases h)
  · simp only [if_neg h1]
theorem refSub (a w : ByteArray) (ha : a.size ≤ 262144) (hw : w.size ≤ 262144) : motleyref27_Subset.f 2000000 a w = some (subW a w) := by
  unfold motleyref27_Subset.f subW
  rw [Read_f a ha]
  simp only [Option.bind_some]
  by_cases h1 : errRd a = 0
  · simp only [if_pos h1]
    have l1 := errRd_len h1
    exact refSub_l0 _ (prot_ok a) (by omega) w (by omega) (prot a).ts.length 2000000 0 [] (by omega) (by omega) (by simp) (fun t h => by cases h)
  · simp only [if_neg h1]
theorem TapMerges : motleylaw27_TapMerges.Pure := by
  intro a b w ha hb hw
  refine ⟨2000000, ?_⟩
  unfold motleylaw27_TapMerges.f
  rw [Q.w64 (x := (a.size : Int) + (b.size : Int)) (by omega) (by omega), Q.w64 (x := (a.size : Int) + (b.size : Int) + (w.size : Int)) (by omega) (by omega)]
  by_cases h : (a.size : Int) + (b.size : Int) + (w.size : Int) > 262144
  · rw [if_pos h]; rfl
  · rw [if_neg h, refMerge a b (by omega) (by omega), refSub a w (by omega) (by omega), tapMerge a b (by omega) (by omega), tapSub a w (by omega)]
    simp [motleylaw27_known.f]
end Go.Proofs.YtallfkecjibpmaaGreatDoor.Pure
