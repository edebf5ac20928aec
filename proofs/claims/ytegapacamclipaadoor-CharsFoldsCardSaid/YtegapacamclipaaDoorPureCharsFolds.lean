/- The plain law of CharsFolds: what it computes is true. -/
import Derived.Test.YtegapacamclipaaDoorPForms
import Derived.Test.YtegapacamclipaaDoorM11
import Derived.Test.YtegapacamclipaaDoorM7
import Derived.Test.YtegapacamclipaaDoorPBoth
set_option linter.unusedVariables false
set_option linter.unusedSimpArgs false
namespace Go.Proofs.YtegapacamclipaaDoor.Q
open Go.RowKit Go.Proofs.YtegapacamclipaaDoorW.PrintWords Go.Proofs.YtegapacamclipaaDoor.Tx Go.Proofs.YtegapacamclipaaDoor.G Go.Proofs.YtegapacamclipaaDoor.M Go.Lib

theorem folds_l0 (l : List Int) (hc : allChr l) (hl : l.length ≤ 4096) : ∀ (d k i : Nat) (acc : List Int), i + d = l.length → d + 10 < k → acc.length ≤ 3 * i →
    motleyref02_folds.l0 k acc l (i : Int) = some (acc ++ (l.drop i).flatMap foldI)
  | 0, k, i, acc, hi, hk, hz => by
    obtain ⟨k, rfl⟩ : ∃ j, k = j + 1 := ⟨k - 1, by omega⟩
    simp only [motleyref02_folds.l0]
    rw [if_neg (by omega), List.drop_eq_nil_of_le (by omega), List.flatMap_nil, List.append_nil]
  | d + 1, k, i, acc, hi, hk, hz => by
    obtain ⟨k, rfl⟩ : ∃ j, k = j + 1 := ⟨k - 1, by omega⟩
    have h1 : i < l.length := by omega
    have hcc := allChr_at hc i h1
    have hd : l.drop i = l.getD i 0 :: l.drop (i + 1) := by
      rw [List.drop_eq_getElem_cons h1, List.getD_eq_getElem?_getD, List.getElem?_eq_getElem h1]
      rfl
    have e1 : wrap64 ((i : Int) + 1) = ((i + 1 : Nat) : Int) := by rw [wrap64_id (by omega) (by omega)]; omega
    simp only [motleyref02_folds.l0]
    have := foldI_length (l.getD i 0)
    rw [if_pos (by omega), if_pos (by omega), rd_nat, FoldOf_at _ hcc k (by omega)]
    simp only [Option.bind_some]
    rw [if_pos (by omega), e1, folds_l0 l hc hl d k (i + 1) _ (by omega) (by omega) (by rw [List.length_append]; omega), hd, List.flatMap_cons, List.append_assoc]
theorem folds_eq (s : ByteArray) (h : checkI s = 0) (k : Nat) (hk : 5000 ≤ k) : motleyref02_folds.f k s = some ((runes s.data.toList).flatMap foldI) := by
  have hl := runes_le h
  unfold motleyref02_folds.f
  rw [Runes_eq s h k (by omega)]
  simp only [Option.bind_some]
  have := folds_l0 (runes s.data.toList) (runes_all _) hl (runes s.data.toList).length k 0 [] (by omega) (by omega) (by simp)
  rw [List.drop_zero, List.nil_append] at this
  exact this
def sameR (s t : ByteArray) : Bool × Int := if bothI s t = 0 then (decide ((runes s.data.toList).flatMap foldI = (runes t.data.toList).flatMap foldI), 0) else (false, bothI s t)
theorem folds_len {s : ByteArray} (h : checkI s = 0) : ((runes s.data.toList).flatMap foldI).length ≤ 20000 := by
  have := flat_length (F := foldI) (fun c => (foldI_length c).2) (runes s.data.toList)
  have := runes_le h
  omega
theorem rSame_eq (s t : ByteArray) (k : Nat) (hk : 29000 ≤ k) : motleyref02_SameFold.f k s t = some (sameR s t) := by
  unfold motleyref02_SameFold.f sameR
  rw [both_eq s t k (by omega)]
  simp only [Option.bind_some]
  by_cases h : bothI s t = 0
  · obtain ⟨h1, h2⟩ := both0 h
    have := folds_len h1
    rw [if_pos h, if_pos h, folds_eq s h1 k (by omega), folds_eq t h2 k (by omega)]
    simp only [Option.bind_some]
    rw [SameInts_eq _ _ (by omega) k (by omega)]
    rfl
  · rw [if_neg h, if_neg h]
theorem cSame_eq (s t : ByteArray) (k : Nat) (hk : 29000 ≤ k) : chars_SameFold.f k s t = some (sameR s t) := by
  unfold chars_SameFold.f sameR
  rw [asked_two s t k (by omega)]
  simp only [Option.bind_some]
  by_cases h : bothI s t = 0
  · obtain ⟨h1, h2⟩ := both0 h
    rw [if_pos h, if_pos h, mapFold_eq s h1, mapFold_eq t h2]
    simp only [Option.bind_some, toList_mk]
    congr 2
    have ha := allChr_flat (F := foldI) (fun c hc => foldI_chr hc) (runes_all s.data.toList)
    have hb := allChr_flat (F := foldI) (fun c hc => foldI_chr hc) (runes_all t.data.toList)
    by_cases e : (runes s.data.toList).flatMap foldI = (runes t.data.toList).flatMap foldI
    · rw [e, decide_eq_true rfl, beq_self_eq_true]
    · rw [decide_eq_false e]
      apply beq_false_of_ne
      intro e2
      apply e
      rw [← (runes_enc _ ha).1, e2, (runes_enc _ hb).1]
  · rw [if_neg h, if_neg h]
theorem same_comm (s t : ByteArray) (h : (sameR s t).2 = 0) : sameR t s = sameR s t := by
  have hb : bothI s t = 0 := by
    unfold sameR at h
    by_cases hb : bothI s t = 0
    · exact hb
    · rw [if_neg hb] at h; exact h
  obtain ⟨h1, h2⟩ := both0 hb
  have hb2 : bothI t s = 0 := by unfold bothI; rw [if_pos h2]; exact h1
  unfold sameR
  rw [if_pos hb, if_pos hb2]
  congr 1
  exact decide_eq_decide.2 ⟨Eq.symm, Eq.symm⟩
end Go.Proofs.YtegapacamclipaaDoor.Q
namespace Go.Proofs.YtegapacamclipaaDoor.Pure
open Go.RowKit Go.Proofs.YtegapacamclipaaDoorW.PrintWords Go.Proofs.YtegapacamclipaaDoor.Tx Go.Proofs.YtegapacamclipaaDoor.G Go.Proofs.YtegapacamclipaaDoor.M Go.Proofs.YtegapacamclipaaDoor.Q Go.Lib
theorem CharsFolds : motleylaw02_CharsFolds.Pure := by
  intro s t hs ht
  refine ⟨30002, ?_⟩
  have go : motleylaw02_CharsFolds.j0 30002 s t false = some true := by
    simp only [motleylaw02_CharsFolds.j0, Bool.false_eq_true, if_false]
    rw [rSame_eq s t _ (by omega), cSame_eq s t _ (by omega)]
    simp only [Option.bind_some, bne_self_eq_false, motleylaw02_CharsFolds.j1, Bool.false_eq_true, if_false]
    rw [cSame_eq t s _ (by omega), known_eq 30000 (by omega)]
    simp only [Option.bind_some]
    by_cases h : (sameR s t).2 = 0
    · rw [if_pos h, same_comm s t h, if_pos h, if_pos (beq_self_eq_true _)]
    · rw [if_neg h]
  have kn : motleylaw02_CharsFolds.j0 30002 s t true = some true := by
    simp only [motleylaw02_CharsFolds.j0, if_true]
    rw [known_eq 30001 (by omega)]; rfl
  unfold motleylaw02_CharsFolds.f
  by_cases hz : s.size > 20000
  · rw [if_pos (by omega), kn]
  rw [if_neg (by omega)]
  by_cases hz2 : t.size > 20000
  · rw [decide_eq_true (by omega), kn]
  · rw [decide_eq_false (by omega), go]
end Go.Proofs.YtegapacamclipaaDoor.Pure
