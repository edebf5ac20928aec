/- The plain law of CharsClasses: the reference's classes and spans are the program's. -/
import Derived.Test.YtegapacamclipaaDoorSpans3
set_option linter.unusedVariables false
set_option linter.unusedSimpArgs false
namespace Go.Proofs.YtegapacamclipaaDoor.Q
open Go.RowKit Go.Proofs.YtegapacamclipaaDoorW.PrintWords Go.Proofs.YtegapacamclipaaDoor.Cls Go.Proofs.YtegapacamclipaaDoor.C Go.Proofs.YtegapacamclipaaDoor.G Go.Lib
theorem within_eq (a b c : Int) : motleyref02_within.f a b c = some (decide (b ≤ a ∧ a ≤ c)) := by
  unfold motleyref02_within.f
  by_cases h : a ≥ b
  · rw [if_pos h]; congr 1; rw [decide_eq_decide]; omega
  · rw [if_neg h, decide_eq_false (by omega)]
theorem bool_of {a : Bool} {p : Prop} (h : a = true ↔ p) : (a = true ∧ p) ∨ (a = false ∧ ¬ p) := by
  cases a
  · exact .inr ⟨rfl, fun hp => by cases h.2 hp⟩
  · exact .inl ⟨rfl, h.1 rfl⟩
theorem up_eq (k c : Nat) : motleyref02_isUpper.f (k + 2) (c : Int) = some (inL upperL c) := by
  unfold motleyref02_isUpper.f
  simp only [motleyref02_isUpper.j0, motleyref02_isUpper.j1, within_eq, Option.bind_some, decide_eq_true_eq, bne_iff_ne]
  rcases bool_of (upper_iff c) with ⟨hb, h⟩ | ⟨hb, h⟩
  all_goals
    rw [hb]; unfold isUpper at h
    repeat' split
    all_goals first | rfl | (exfalso; omega) | (exfalso; contradiction) | (rw [beq_iff_eq.2 (by omega)]) | (rw [beq_eq_false_iff_ne.2 (by omega)])
theorem lo_eq (k c : Nat) : motleyref02_isLower.f (k + 2) (c : Int) = some (inL lowerL c) := by
  unfold motleyref02_isLower.f
  simp only [motleyref02_isLower.j0, within_eq, Option.bind_some, decide_eq_true_eq, bne_iff_ne]
  rcases bool_of (lower_iff c) with ⟨hb, h⟩ | ⟨hb, h⟩
  all_goals
    rw [hb]; unfold isLower at h
    repeat' split
    all_goals first | rfl | (exfalso; omega) | (exfalso; contradiction) | (rw [beq_iff_eq.2 (by omega)]) | (rw [beq_eq_false_iff_ne.2 (by omega)])
theorem beq_c (c n : Nat) : ((c : Int) == (n : Int)) = decide (c = n) := by
  rw [Bool.eq_iff_iff, beq_iff_eq, decide_eq_true_eq]
  omega
theorem let_eq (k c : Nat) : motleyref02_isLetter.f (k + 2) (c : Int) = some (inL letterL c) := by
  have e : inL letterL c = (inL upperL c || (inL lowerL c || (decide (c = 170) || (decide (c = 186) || decide (c = 700))))) := by
    rw [Bool.eq_iff_iff]
    simp only [Bool.or_eq_true, decide_eq_true_eq, letter_iff, upper_iff, lower_iff, isLetter]
  have h3 : ((c : Int) == 700) = decide (c = 700) := beq_c c 700
  unfold motleyref02_isLetter.f
  rw [up_eq, lo_eq, e, h3]
  simp only [Option.bind_some]
  cases inL upperL c
  · cases inL lowerL c
    · by_cases h1 : c = 170
      · subst h1; rfl
      · by_cases h2 : c = 186
        · subst h2; rfl
        · rw [if_neg (by decide), if_neg (by decide), if_neg (by omega), if_neg (by omega), decide_eq_false h1, decide_eq_false h2]; rfl
    · rfl
  · rfl
theorem dig_eq (c : Nat) : motleyref02_isDigit.f (c : Int) = some (inL digitL c) := by
  unfold motleyref02_isDigit.f
  simp only [within_eq, Option.bind_some, decide_eq_true_eq]
  rcases bool_of (digit_iff c) with ⟨hb, h⟩ | ⟨hb, h⟩
  all_goals
    rw [hb]; unfold isDigit at h
    repeat' split
    all_goals first | rfl | (exfalso; omega) | (rw [decide_eq_true (by omega)]) | (rw [decide_eq_false (by omega)])
theorem mark_eq (c : Nat) : motleyref02_isMark.f (c : Int) = some (inL markL c) := by
  unfold motleyref02_isMark.f
  simp only [within_eq, Option.bind_some]
  rcases bool_of (mark_iff c) with ⟨hb, h⟩ | ⟨hb, h⟩
  all_goals
    rw [hb]; unfold isMark at h
    first | (rw [decide_eq_true (by omega)]) | (rw [decide_eq_false (by omega)])
theorem blank_eq (c : Nat) : motleyref02_isBlank.f (c : Int) = some (inL blankL c) := by
  unfold motleyref02_isBlank.f
  simp only [within_eq, Option.bind_some]
  rcases bool_of (blank_iff c) with ⟨hb, h⟩ | ⟨hb, h⟩
  all_goals
    rw [hb]; unfold isBlank at h
    repeat' split
    all_goals first | rfl | (exfalso; omega) | (rw [decide_eq_true (by omega)]) | (rw [decide_eq_false (by omega)])
theorem wd_eq (k c : Nat) : motleyref02_IsWord.f (k + 2) (c : Int) = some (inL wordL c) := by
  have e : inL wordL c = (inL letterL c || (inL digitL c || (inL markL c || decide (c = 95)))) := by
    rw [Bool.eq_iff_iff]
    simp only [Bool.or_eq_true, decide_eq_true_eq, word_iff, letter_iff, digit_iff, mark_iff, isWord]
  have h3 : ((c : Int) == 95) = decide (c = 95) := beq_c c 95
  unfold motleyref02_IsWord.f
  rw [let_eq, dig_eq, mark_eq, e, h3]
  simp only [Option.bind_some]
  cases inL letterL c
  · cases inL digitL c
    · cases inL markL c
      · rfl
      · rfl
    · rfl
  · rfl
theorem any_char (c : Nat) (h : c ≤ 1114111 ∧ (c < 55296 ∨ 57343 < c)) : inL (clsL 7) c = true := by
  simp only [inL, clsL, List.any_cons, List.any_nil, Bool.or_false, Bool.or_eq_true, Bool.and_eq_true, decide_eq_true_eq]
  omega
theorem clsOf_lit (s : ByteArray) (cl : Fin 8) (h : clsOf s.data.toList = some cl) : s.data.toList = (match cl with | 0 => [117, 112, 112, 101, 114] | 1 => [108, 111, 119, 101, 114] | 2 => [108, 101, 116, 116, 101, 114] | 3 => [100, 105, 103, 105, 116] | 4 => [109, 97, 114, 107] | 5 => [98, 108, 97, 110, 107] | 6 => [119, 111, 114, 100] | 7 => [97, 110, 121]) := by
  unfold clsOf at h
  repeat' split at h
  all_goals first | (cases h; assumption) | cases h
theorem In_eq (k c : Nat) (s : ByteArray) (cl : Fin 8) (h : clsOf s.data.toList = some cl) (hc : c ≤ 1114111 ∧ (c < 55296 ∨ 57343 < c)) : motleyref02_In.f (k + 2) (c : Int) s = some (inL (clsL cl) c) := by
  have hl := clsOf_lit s cl h
  unfold motleyref02_In.f
  rw [ByteArray.toList_eq, up_eq, lo_eq, let_eq, dig_eq, mark_eq, blank_eq, wd_eq]
  simp only [Option.bind_some]
  match cl with
  | 0 => rw [hl]; rfl
  | 1 => rw [hl]; rfl
  | 2 => rw [hl]; rfl
  | 3 => rw [hl]; rfl
  | 4 => rw [hl]; rfl
  | 5 => rw [hl]; rfl
  | 6 => rw [hl]; rfl
  | 7 => rw [hl, any_char c hc]; rfl
theorem IsClass_eq (s : ByteArray) : motleyref02_IsClass.f s = some (clsOf s.data.toList).isSome := by
  unfold motleyref02_IsClass.f clsOf
  rw [ByteArray.toList_eq]
  repeat' split
  all_goals first | rfl | (exfalso; simp_all; done)
theorem IsChar_eq (c : Int) : motleyref02_IsChar.f c = some (decide (0 ≤ c ∧ c ≤ 1114111 ∧ (c < 55296 ∨ 57343 < c))) := by
  unfold motleyref02_IsChar.f
  by_cases h : 0 ≤ c ∧ c ≤ 1114111 ∧ (c < 55296 ∨ 57343 < c)
  · rw [decide_eq_true h]
    repeat' split
    all_goals first | rfl | (exfalso; omega) | (rw [decide_eq_false (by omega)]; rfl)
  · rw [decide_eq_false h]
    repeat' split
    all_goals first | rfl | (exfalso; omega) | (rw [decide_eq_true (by omega)]; rfl)
theorem any_in (L : List (Nat × Nat)) (c : Nat) : (L.any fun x => decide ((x.1 : Int) ≤ (c : Int)) && decide ((c : Int) ≤ (x.2 : Int))) = inL L c := by
  unfold inL
  congr 1
  funext x
  congr 1 <;> (rw [decide_eq_decide]; omega)
theorem Is_eq (k : Nat) (c : Int) (s : ByteArray) : motleyref02_Is.f (k + 2) c s = chars_Is.f c s := by
  unfold motleyref02_Is.f chars_Is.f
  rw [IsClass_eq, IsChar_eq]
  simp only [Option.bind_some]
  cases h : clsOf s.data.toList with
  | none => rfl
  | some cl =>
    simp only [Option.isSome_some, if_true, decide_eq_true_eq]
    by_cases hc : 0 ≤ c ∧ c ≤ 1114111 ∧ (c < 55296 ∨ 57343 < c)
    · rw [if_pos hc, if_pos hc]
      obtain ⟨n, rfl⟩ := Int.eq_ofNat_of_zero_le hc.1
      rw [In_eq k n s cl h (by omega), any_in]
      rfl
    · rw [if_neg hc, if_neg hc]
end Go.Proofs.YtegapacamclipaaDoor.Q
