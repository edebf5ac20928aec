/- Of this claim's texts (StrL): the declarations that the claim reaches (slimclaim.py). -/
import Derived.Lib.SplitLaws
import Derived.Lib.Split
import Derived.Lib.Replace
import Derived.Lib.IndexBytes
set_option linter.unusedVariables false
set_option linter.unusedSimpArgs false
namespace Go.Proofs.YtallfkecjibpmaaDoor.Sl
open Go Go.Lib
def segs (c : UInt8) : List UInt8 → List (List UInt8)
  | [] => [[]]
  | b :: l => if b = c then [] :: segs c l else match segs c l with
    | [] => [[b]]
    | x :: r => (b :: x) :: r
theorem segs_ne (c : UInt8) (l : List UInt8) : segs c l ≠ [] := by
  cases l with
  | nil => simp [segs]
  | cons b l =>
    unfold segs
    split
    · simp
    · split <;> simp
theorem segs_hit (c : UInt8) (l : List UInt8) : segs c (c :: l) = [] :: segs c l := by simp [segs]
theorem segs_miss {b c : UInt8} (h : b ≠ c) (l : List UInt8) : ∃ x r, segs c l = x :: r ∧ segs c (b :: l) = (b :: x) :: r := by
  cases hs : segs c l with
  | nil => exact absurd hs (segs_ne c l)
  | cons x r => exact ⟨x, r, rfl, by simp [segs, h, hs]⟩
theorem segs_free {c : UInt8} : ∀ {l : List UInt8}, l.count c = 0 → segs c l = [l]
  | [], _ => rfl
  | b :: l, h => by
    have hb : b ≠ c := by
      rintro rfl
      simp at h
    have hl : l.count c = 0 := by
      rw [List.count_cons] at h
      omega
    simp [segs, hb, segs_free hl]
theorem indexByte_some {c : UInt8} : ∀ {l : List UInt8}, 0 < l.count c → ∃ i : Nat, indexByte l c = i ∧ i < l.length
  | [], h => by simp at h
  | b :: l, h => by
    by_cases hb : b = c
    · subst hb
      exact ⟨0, by simp [indexByte], by simp⟩
    · have hl : 0 < l.count c := by
        rw [List.count_cons_of_ne (by simpa using hb)] at h
        exact h
      obtain ⟨i, hi, hlt⟩ := indexByte_some hl
      refine ⟨i + 1, ?_, by simp; omega⟩
      unfold indexByte
      rw [if_neg (by simpa using hb), hi, if_neg (by simp <;> omega)]
      omega
theorem split_one (c : UInt8) : ∀ l : List UInt8, splitK [c] 0 (l.count c) l = segs c l
  | [] => rfl
  | b :: l => by
    have ih := split_one c l
    by_cases hb : b = c
    · subst hb
      rw [segs_hit, List.count_cons_self, splitK, index_one]
      have e : indexByte (b :: l) b = 0 := by simp [indexByte]
      rw [e, if_neg (by decide)]
      simp [ih]
    · rw [List.count_cons_of_ne (by simpa using hb)]
      obtain ⟨x, r, h1, h2⟩ := segs_miss hb l
      rw [h2]
      by_cases hz : l.count c = 0
      · rw [segs_free hz] at h1
        injection h1 with h3 h4
        rw [hz, ← h3, ← h4]
        rfl
      · obtain ⟨k, hk⟩ : ∃ k, l.count c = k + 1 := ⟨l.count c - 1, by omega⟩
        obtain ⟨i, hi, hlt⟩ := indexByte_some (c := c) (l := l) (by omega)
        rw [hk] at ih ⊢
        rw [splitK, index_one, hi, if_neg (by simp <;> omega)] at ih
        have e : indexByte (b :: l) c = ((i + 1 : Nat) : Int) := by
          unfold indexByte
          rw [if_neg (by simpa using hb), hi, if_neg (by simp <;> omega)]
          omega
        rw [splitK, index_one, e, if_neg (by simp <;> omega)]
        simp only [Int.toNat_natCast, Nat.add_zero, List.length_cons, List.length_nil, Nat.zero_add] at ih ⊢
        rw [h1] at ih
        injection ih with i1 i2
        rw [List.take_succ_cons, i1, List.drop_succ_cons, i2]
theorem segs_length (c : UInt8) : ∀ l : List UInt8, (segs c l).length = l.count c + 1
  | [] => rfl
  | b :: l => by
    by_cases hb : b = c
    · subst hb
      rw [segs_hit, List.count_cons_self, List.length_cons, segs_length b l]
    · obtain ⟨x, r, h1, h2⟩ := segs_miss hb l
      have := segs_length c l
      rw [h1] at this
      rw [h2, List.count_cons_of_ne (by simpa using hb)]
      exact this
theorem count_size (s : ByteArray) (c : UInt8) : countB s ⟨#[c]⟩ ≤ s.data.toList.length := by
  have e : (⟨#[c]⟩ : ByteArray).data.toList = [c] := rfl
  unfold countB
  rw [e, count_one]
  exact List.count_le_length
theorem splitB_one (s : ByteArray) (c : UInt8) : (splitB ⟨#[c]⟩ 0 (countB s ⟨#[c]⟩) s).map (·.data.toList) = segs c s.data.toList := by
  rw [splitB_data]
  have e : (⟨#[c]⟩ : ByteArray).data.toList = [c] := rfl
  have e2 : countB s ⟨#[c]⟩ = s.data.toList.count c := by
    unfold countB
    rw [e, count_one]
  rw [e, e2, split_one]
theorem splitB_len (s : ByteArray) (c : UInt8) : (splitB ⟨#[c]⟩ 0 (countB s ⟨#[c]⟩) s).length = countB s ⟨#[c]⟩ + 1 := by
  have h := congrArg List.length (splitB_one s c)
  rw [List.length_map, segs_length] at h
  rw [h]
  have e : (⟨#[c]⟩ : ByteArray).data.toList = [c] := rfl
  unfold countB
  rw [e, count_one]
end Go.Proofs.YtallfkecjibpmaaDoor.Sl
