/- CharsClasses: a scan of all numbers up to a bound finds the spans of a set that is given by sorted spans which do not touch. Plain Lean. -/
set_option linter.unusedVariables false
namespace Go.Proofs.YtegapacamclipaaDoor.Cls
def push (out : List (Nat × Nat)) (c : Nat) : List (Nat × Nat) :=
  match out with
  | [] => [(c, c)]
  | [x] => if x.2 + 1 = c then [(x.1, c)] else [x, (c, c)]
  | x :: y :: r => x :: push (y :: r) c
def scan (p : Nat → Bool) : Nat → Nat → List (Nat × Nat) → List (Nat × Nat)
  | 0, _, out => out
  | n + 1, c, out => scan p n (c + 1) (if p c = true then push out c else out)
def inL (L : List (Nat × Nat)) (c : Nat) : Bool := L.any fun x => decide (x.1 ≤ c) && decide (c ≤ x.2)
/-- Sorted, above b, and apart from each other. -/
def sep : Nat → List (Nat × Nat) → Bool
  | _, [] => true
  | b, x :: r => decide (b ≤ x.1) && (decide (x.1 ≤ x.2) && sep (x.2 + 2) r)
def cutL : List (Nat × Nat) → Nat → List (Nat × Nat)
  | [], _ => []
  | x :: r, c => if x.1 < c then (x.1, min x.2 (c - 1)) :: cutL r c else []
theorem cutL_cons (lo hi : Nat) (r : List (Nat × Nat)) (c : Nat) : cutL ((lo, hi) :: r) c = if lo < c then (lo, min hi (c - 1)) :: cutL r c else [] := rfl
theorem cut_low : ∀ (L : List (Nat × Nat)) (b c : Nat), sep b L = true → c ≤ b → cutL L c = []
  | [], _, _, _, _ => rfl
  | x :: r, b, c, h, hc => by
    simp only [sep, Bool.and_eq_true, decide_eq_true_eq] at h
    rw [cutL, if_neg (by omega)]
theorem in_low : ∀ (L : List (Nat × Nat)) (b c : Nat), sep b L = true → c < b → inL L c = false
  | [], _, _, _, _ => rfl
  | x :: r, b, c, h, hc => by
    simp only [sep, Bool.and_eq_true, decide_eq_true_eq] at h
    have ih := in_low r (x.2 + 2) c h.2.2 (by omega)
    unfold inL at ih ⊢
    rw [List.any_cons, ih, decide_eq_false (by omega)]
    rfl
theorem step : ∀ (L : List (Nat × Nat)) (b c : Nat), sep b L = true → cutL L (c + 1) = if inL L c = true then push (cutL L c) c else cutL L c
  | [], _, _, _ => rfl
  | x :: r, b, c, h => by
    have h' := h
    simp only [sep, Bool.and_eq_true, decide_eq_true_eq] at h
    obtain ⟨h1, h2, h3⟩ := h
    have ih := step r (x.2 + 2) c h3
    have hin : inL (x :: r) c = ((decide (x.1 ≤ c) && decide (c ≤ x.2)) || inL r c) := rfl
    obtain ⟨lo, hi⟩ := x
    simp only at h1 h2 h3 ih hin
    rw [cutL_cons, cutL_cons, hin, Nat.add_sub_cancel]
    by_cases a : c < lo
    · have := in_low r (hi + 2) c h3 (by omega)
      rw [this, decide_eq_false (show ¬ lo ≤ c by omega), if_neg (show ¬ lo < c + 1 by omega), if_neg (show ¬ lo < c by omega)]
      rfl
    by_cases e : c = lo
    · subst e
      rw [decide_eq_true (Nat.le_refl _), decide_eq_true h2, if_pos (show c < c + 1 by omega), if_neg (show ¬ c < c by omega), cut_low r (hi + 2) (c + 1) h3 (by omega), Nat.min_eq_right h2]
      rfl
    by_cases d : c ≤ hi
    · rw [decide_eq_true (show lo ≤ c by omega), decide_eq_true d, if_pos (show lo < c + 1 by omega), if_pos (show lo < c by omega), cut_low r (hi + 2) (c + 1) h3 (by omega), cut_low r (hi + 2) c h3 (by omega), Nat.min_eq_right d, Nat.min_eq_right (show c - 1 ≤ hi by omega)]
      simp only [Bool.and_self, Bool.true_or, if_true, push]
      rw [if_pos (by omega)]
    · rw [decide_eq_false (show ¬ c ≤ hi from d), Bool.and_false, Bool.false_or, if_pos (show lo < c + 1 by omega), if_pos (show lo < c by omega), ih, Nat.min_eq_left (show hi ≤ c by omega), Nat.min_eq_left (show hi ≤ c - 1 by omega)]
      by_cases q : inL r c = true
      · rw [if_pos q, if_pos q]
        cases hX : cutL r c with
        | nil =>
          have : ¬ hi + 1 = c := fun e => by
            have := in_low r (hi + 2) c h3 (by omega)
            rw [this] at q
            cases q
          simp only [push]
          rw [if_neg this]
        | cons y t => rfl
      · rw [if_neg q, if_neg q]
theorem scan_cut (L : List (Nat × Nat)) (b : Nat) (h : sep b L = true) : ∀ (n c : Nat), scan (inL L) n c (cutL L c) = cutL L (c + n)
  | 0, c => rfl
  | n + 1, c => by
    rw [scan, ← step L b c h, scan_cut L b h n (c + 1), show c + 1 + n = c + (n + 1) by omega]
theorem cut_all : ∀ (L : List (Nat × Nat)) (b N : Nat), sep b L = true → (∀ x ∈ L, x.2 < N) → cutL L N = L
  | [], _, _, _, _ => rfl
  | x :: r, b, N, h, hN => by
    simp only [sep, Bool.and_eq_true, decide_eq_true_eq] at h
    have h1 := hN x (by simp)
    rw [cutL, if_pos (by omega), cut_all r (x.2 + 2) N h.2.2 (fun y hy => hN y (by simp [hy])), Nat.min_eq_left (by omega)]
/-- The scan of all numbers below N. -/
theorem scan_all (L : List (Nat × Nat)) (N : Nat) (h : sep 0 L = true) (hN : ∀ x ∈ L, x.2 < N) : scan (inL L) N 0 [] = L := by
  have := scan_cut L 0 h N 0
  rw [cut_low L 0 0 h (Nat.le_refl _), Nat.zero_add, cut_all L 0 N h hN] at this
  exact this
end Go.Proofs.YtegapacamclipaaDoor.Cls
namespace Go.Proofs.YtegapacamclipaaDoor.Cls
def upperL : List (Nat × Nat) := [(0x41, 0x5a), (0xc0, 0xd6), (0xd8, 0xde), (0x391, 0x3a1), (0x3a3, 0x3a9), (0x410, 0x42f), (0x1e9e, 0x1e9e), (0x212a, 0x212b)]
def lowerL : List (Nat × Nat) := [(0x61, 0x7a), (0xb5, 0xb5), (0xdf, 0xf6), (0xf8, 0xff), (0x149, 0x149), (0x17f, 0x17f), (0x3b1, 0x3c9), (0x430, 0x44f), (0xfb00, 0xfb06)]
def letterL : List (Nat × Nat) := [(0x41, 0x5a), (0x61, 0x7a), (0xaa, 0xaa), (0xb5, 0xb5), (0xba, 0xba), (0xc0, 0xd6), (0xd8, 0xf6), (0xf8, 0xff), (0x149, 0x149), (0x17f, 0x17f), (0x2bc, 0x2bc), (0x391, 0x3a1), (0x3a3, 0x3a9), (0x3b1, 0x3c9), (0x410, 0x44f), (0x1e9e, 0x1e9e), (0x212a, 0x212b), (0xfb00, 0xfb06)]
def digitL : List (Nat × Nat) := [(0x30, 0x39), (0x660, 0x669)]
def markL : List (Nat × Nat) := [(0x300, 0x36f)]
def blankL : List (Nat × Nat) := [(9, 13), (0x20, 0x20), (0x85, 0x85), (0xa0, 0xa0), (0x2028, 0x2029)]
def wordL : List (Nat × Nat) := [(0x30, 0x39), (0x41, 0x5a), (0x5f, 0x5f), (0x61, 0x7a), (0xaa, 0xaa), (0xb5, 0xb5), (0xba, 0xba), (0xc0, 0xd6), (0xd8, 0xf6), (0xf8, 0xff), (0x149, 0x149), (0x17f, 0x17f), (0x2bc, 0x2bc), (0x300, 0x36f), (0x391, 0x3a1), (0x3a3, 0x3a9), (0x3b1, 0x3c9), (0x410, 0x44f), (0x660, 0x669), (0x1e9e, 0x1e9e), (0x212a, 0x212b), (0xfb00, 0xfb06)]
def isUpper (c : Nat) : Prop := (0x41 ≤ c ∧ c ≤ 0x5a) ∨ ((0xc0 ≤ c ∧ c ≤ 0xde) ∧ c ≠ 0xd7) ∨ ((0x391 ≤ c ∧ c ≤ 0x3a9) ∧ c ≠ 0x3a2) ∨ (0x410 ≤ c ∧ c ≤ 0x42f) ∨ c = 0x1e9e ∨ c = 0x212a ∨ c = 0x212b
def isLower (c : Nat) : Prop := (0x61 ≤ c ∧ c ≤ 0x7a) ∨ ((0xdf ≤ c ∧ c ≤ 0xff) ∧ c ≠ 0xf7) ∨ (0x3b1 ≤ c ∧ c ≤ 0x3c9) ∨ (0x430 ≤ c ∧ c ≤ 0x44f) ∨ (0xfb00 ≤ c ∧ c ≤ 0xfb06) ∨ c = 0xb5 ∨ c = 0x149 ∨ c = 0x17f
def isLetter (c : Nat) : Prop := isUpper c ∨ isLower c ∨ c = 0xaa ∨ c = 0xba ∨ c = 0x2bc
def isDigit (c : Nat) : Prop := (0x30 ≤ c ∧ c ≤ 0x39) ∨ (0x660 ≤ c ∧ c ≤ 0x669)
def isMark (c : Nat) : Prop := 0x300 ≤ c ∧ c ≤ 0x36f
def isBlank (c : Nat) : Prop := c = 0x20 ∨ c = 0x85 ∨ c = 0xa0 ∨ c = 0x2028 ∨ c = 0x2029 ∨ (9 ≤ c ∧ c ≤ 13)
def isWord (c : Nat) : Prop := isLetter c ∨ isDigit c ∨ isMark c ∨ c = 0x5f
theorem upper_iff (c : Nat) : inL upperL c = true ↔ isUpper c := by simp only [inL, upperL, isUpper, List.any_cons, List.any_nil, Bool.or_eq_true, Bool.and_eq_true, decide_eq_true_eq, Bool.false_eq_true, or_false]; omega
theorem lower_iff (c : Nat) : inL lowerL c = true ↔ isLower c := by simp only [inL, lowerL, isLower, List.any_cons, List.any_nil, Bool.or_eq_true, Bool.and_eq_true, decide_eq_true_eq, Bool.false_eq_true, or_false]; omega
theorem digit_iff (c : Nat) : inL digitL c = true ↔ isDigit c := by simp only [inL, digitL, isDigit, List.any_cons, List.any_nil, Bool.or_eq_true, Bool.and_eq_true, decide_eq_true_eq, Bool.false_eq_true, or_false]
theorem mark_iff (c : Nat) : inL markL c = true ↔ isMark c := by simp only [inL, markL, isMark, List.any_cons, List.any_nil, Bool.or_eq_true, Bool.and_eq_true, decide_eq_true_eq, Bool.false_eq_true, or_false]
theorem blank_iff (c : Nat) : inL blankL c = true ↔ isBlank c := by simp only [inL, blankL, isBlank, List.any_cons, List.any_nil, Bool.or_eq_true, Bool.and_eq_true, decide_eq_true_eq, Bool.false_eq_true, or_false]; omega
set_option maxHeartbeats 2000000 in
theorem letter_iff (c : Nat) : inL letterL c = true ↔ isLetter c := by
  simp only [inL, letterL, isLetter, isUpper, isLower, List.any_cons, List.any_nil, Bool.or_eq_true, Bool.and_eq_true, decide_eq_true_eq, Bool.false_eq_true, or_false]
  constructor
  · intro h; omega
  · intro h; omega
theorem sep_all : sep 0 upperL && sep 0 lowerL && sep 0 letterL && sep 0 digitL && sep 0 markL && sep 0 blankL && sep 0 wordL = true := by decide
set_option maxHeartbeats 4000000 in
theorem word_iff (c : Nat) : inL wordL c = true ↔ isWord c := by
  simp only [inL, wordL, isWord, isLetter, isUpper, isLower, isDigit, isMark, List.any_cons, List.any_nil, Bool.or_eq_true, Bool.and_eq_true, decide_eq_true_eq, Bool.false_eq_true, or_false]
  constructor
  · intro h; omega
  · intro h; omega
/-- No class but any has a number that is no character. -/
theorem word_char (c : Nat) (h : isWord c ∨ isBlank c) : c < 0xd800 ∨ (0xdfff < c ∧ c ≤ 0xffff) := by
  simp only [isWord, isLetter, isUpper, isLower, isDigit, isMark, isBlank] at h
  omega
/-- Spans in ascending order, joined where they touch: the program's way. -/
def joinS : List (Nat × Nat) → List (Nat × Nat) → List (Nat × Nat)
  | out, [] => out
  | out, x :: r => joinS (match out.getLast? with
    | some y => if y.2 + 1 = x.1 then out.dropLast ++ [(y.1, x.2)] else out ++ [x]
    | none => out ++ [x]) r
/-- The rows, as the program has them: a first number and how many. -/
def rowsL (l : List (Nat × Nat)) : List (Nat × Nat) := (l.filter fun x => decide (0 < x.2)).map fun x => (x.1, x.1 + x.2 - 1)
def upperR : List (Nat × Nat) := [(0x41, 26), (0xc0, 23), (0xd8, 7), (0x391, 17), (0x3a3, 7), (0x410, 32), (0x1e9e, 1), (0x212a, 2), (0, 0)]
def lowerR : List (Nat × Nat) := [(0x61, 26), (0xb5, 1), (0xdf, 24), (0xf8, 8), (0x149, 1), (0x17f, 1), (0x3b1, 25), (0x430, 32), (0xfb00, 7)]
def otherR : List (Nat × Nat) := [(0xaa, 1), (0xba, 1), (0x2bc, 1)]
def digitR : List (Nat × Nat) := [(0x30, 10), (0x660, 10)]
def markR : List (Nat × Nat) := [(0x300, 112)]
def blankR : List (Nat × Nat) := [(0x9, 5), (0x20, 1), (0x85, 1), (0xa0, 1), (0x2028, 2)]
def lineR : List (Nat × Nat) := [(0x5f, 1)]
def anyR : List (Nat × Nat) := [(0, 0xd800), (0xe000, 0x10ffff - 0xe000 + 1)]
def ins (x : Nat × Nat) : List (Nat × Nat) → List (Nat × Nat)
  | [] => [x]
  | y :: r => if x.1 ≤ y.1 then x :: y :: r else y :: ins x r
def srt (l : List (Nat × Nat)) : List (Nat × Nat) := l.foldr ins []
theorem joined_all : joinS [] (srt (rowsL upperR)) = upperL ∧ joinS [] (srt (rowsL lowerR)) = lowerL ∧ joinS [] (srt (rowsL upperR ++ rowsL lowerR ++ rowsL otherR)) = letterL ∧ joinS [] (srt (rowsL digitR)) = digitL ∧ joinS [] (srt (rowsL markR)) = markL ∧ joinS [] (srt (rowsL blankR)) = blankL ∧ joinS [] (srt (rowsL upperR ++ rowsL lowerR ++ rowsL otherR ++ rowsL digitR ++ rowsL markR ++ rowsL lineR)) = wordL ∧ joinS [] (srt (rowsL anyR)) = [(0, 0xd7ff), (0xe000, 0x10ffff)] := by decide +kernel
end Go.Proofs.YtegapacamclipaaDoor.Cls
namespace Go.Proofs.YtegapacamclipaaDoor.Cls
/-- All spans of the rows, in ascending order. -/
def tbl : List (Nat × Nat) := [(0, 0xd7ff), (9, 13), (0x20, 0x20), (0x30, 0x39), (0x41, 0x5a), (0x5f, 0x5f), (0x61, 0x7a), (0x85, 0x85), (0xa0, 0xa0), (0xaa, 0xaa), (0xb5, 0xb5), (0xba, 0xba), (0xc0, 0xd6), (0xd8, 0xde), (0xdf, 0xf6), (0xf8, 0xff), (0x149, 0x149), (0x17f, 0x17f), (0x2bc, 0x2bc), (0x300, 0x36f), (0x391, 0x3a1), (0x3a3, 0x3a9), (0x3b1, 0x3c9), (0x410, 0x42f), (0x430, 0x44f), (0x660, 0x669), (0x1e9e, 0x1e9e), (0x2028, 0x2029), (0x212a, 0x212b), (0xe000, 0x10ffff), (0xfb00, 0xfb06)]
abbrev Ix := Fin 31
def tv (i : Ix) : Nat × Nat := tbl[i.1]!
theorem tv_lt : ∀ i j : Ix, (tv i).1 < (tv j).1 ↔ i < j := by decide +kernel
theorem tv_big : ∀ i : Ix, (tv i).1 < 2000000 ∧ (tv i).2 < 2000000 := by decide +kernel
/-- The rows, by number: upper, lower, other, digit, mark, blank, line, any. -/
def pad9 (l : List (Nat × Nat)) : List (Nat × Nat) := l ++ List.replicate (9 - l.length) (0, 0)
def rowN : Fin 8 → List (Nat × Nat)
  | 0 => pad9 upperR | 1 => pad9 lowerR | 2 => pad9 otherR | 3 => pad9 digitR | 4 => pad9 markR | 5 => pad9 blankR | 6 => pad9 lineR | 7 => pad9 anyR
theorem rowN_len : ∀ i, (rowN i).length = 9 := by decide +kernel
theorem rowN_big : ∀ i, ∀ x ∈ rowN i, x.1 < 2000000 ∧ x.2 < 2000000 := by decide +kernel
/-- The classes, by number: upper, lower, letter, digit, mark, blank, word, any. -/
def partsN : Fin 8 → List (Fin 8)
  | 0 => [0] | 1 => [1] | 2 => [0, 1, 2] | 3 => [3] | 4 => [4] | 5 => [5] | 6 => [0, 1, 2, 3, 4, 6] | 7 => [7]
def clsL : Fin 8 → List (Nat × Nat)
  | 0 => upperL | 1 => lowerL | 2 => letterL | 3 => digitL | 4 => markL | 5 => blankL | 6 => wordL | 7 => [(0, 0xd7ff), (0xe000, 0x10ffff)]
def unsorted (ps : List (Fin 8)) : List (Nat × Nat) := ps.flatMap fun p => rowsL (rowN p)
def Dix (cl : Fin 8) : List Ix := (unsorted (partsN cl)).map fun s => Fin.ofNat 31 (tbl.idxOf s)
def Six (cl : Fin 8) : List Ix := (List.finRange 31).filter fun i => (Dix cl).contains i
theorem cls_un : ∀ cl, unsorted (partsN cl) = (Dix cl).map tv := by decide +kernel
theorem cls_perm : ∀ cl, ((Six cl).isPerm (Dix cl)) = true := by decide +kernel
theorem cls_sorted : ∀ cl, (Six cl).Pairwise (· ≤ ·) := by decide +kernel
theorem cls_join : ∀ cl, joinS [] ((Six cl).map tv) = clsL cl := by decide +kernel
theorem cls_len : ∀ cl, 0 < (Dix cl).length ∧ (Dix cl).length ≤ 31 ∧ 0 < (clsL cl).length ∧ (clsL cl).length ≤ 31 := by decide +kernel
theorem sorted_one (cl : Fin 8) (l : List Ix) (hp : l.Perm (Dix cl)) (hs : l.Pairwise (· ≤ ·)) : l = Six cl :=
  List.Perm.eq_of_pairwise (le := (· ≤ ·)) (fun a b _ _ h1 h2 => Fin.le_antisymm h1 h2) hs (cls_sorted cl) (hp.trans (List.isPerm_iff.1 (cls_perm cl)).symm)
end Go.Proofs.YtegapacamclipaaDoor.Cls
