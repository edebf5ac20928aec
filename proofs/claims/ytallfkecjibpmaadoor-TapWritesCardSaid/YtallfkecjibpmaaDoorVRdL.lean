/- Of this claim's texts (RdL): the declarations that the claim reaches (slimclaim.py). -/
import Derived.Lib.Strings
import Derived.Lib.IndexMore
import Derived.Lib.TrimByte
import Derived.Test.YtallfkecjibpmaaDoorVNum
set_option linter.unusedVariables false
set_option linter.unusedSimpArgs false
namespace Go.Proofs.YtallfkecjibpmaaDoor.Rd
open Go.Proofs.YtallfkecjibpmaaDoor.Nm
abbrev Bs := List UInt8
def sk : Bs := [32, 83, 75, 73, 80]
def td : Bs := [32, 84, 79, 68, 79]
def trimS (l : Bs) : Bs := Lib.trimB l 32
def okText (l : Bs) : Bool := decide (l.length ≤ 200) && !l.contains 10 && (trimS l == l)
def noHash (l : Bs) : Bool := !l.contains 35
def okName (l : Bs) : Bool := okText l && noHash l
def cutH : Bs → Option (Bs × Bs)
  | [] => none
  | [c] => none
  | c :: d :: r => if c = 32 ∧ d = 35 then some ([], r) else (cutH (d :: r)).map fun x => (c :: x.1, x.2)
def headOk (r : Bs) : Bool := r.isEmpty || r.headD 0 == 32
def dirP (a : Bs) : Option (Int × Bs) :=
  if (Lib.hasPrefix a sk && headOk (a.drop 5)) = true then (if okText (trimS (a.drop 5)) = true then some (1, trimS (a.drop 5)) else none)
  else if (Lib.hasPrefix a td && headOk (a.drop 5)) = true then (if okText (trimS (a.drop 5)) = true then some (2, trimS (a.drop 5)) else none)
  else none
def cutP (s : Bs) : Option (Bs × Int × Bs) :=
  match cutH s with
  | none => if noHash s = true then some (s, 0, []) else none
  | some (b, a) => match dirP a with
    | some (d, y) => if noHash b = true then some (b, d, y) else none
    | none => none
def numP (d : Bs) : Int × Bool := if d = [] ∨ 9 < d.length ∨ (d.headD 0 = 48 ∧ d ≠ [48]) ∨ ¬ (d.all isDb = true) then (0, false) else ((val d : Int), true)
def toBl (s : Bs) : Bs := s.takeWhile fun c => !(c == 32)
def numSplit (s : Bs) : Int × Bs :=
  if Lib.hasPrefix s [32] = true then (if (numP (toBl (s.drop 1))).2 = true then ((numP (toBl (s.drop 1))).1, s.drop (1 + (toBl (s.drop 1)).length)) else (-1, s)) else (-1, s)
def nameP (s : Bs) : Option Bs :=
  if s = [] then some [] else if Lib.hasPrefix s [32, 45, 32] = true then (if okName (trimS (s.drop 3)) = true then some (trimS (s.drop 3)) else none) else none
structure Tst where
  ok : Bool
  name : Bs
  dir : Int
  reason : Bs
  num : Int
def afterNot (s : Bs) : Bs := if Lib.hasPrefix s [110, 111, 116, 32] = true then s.drop 4 else s
def isNot (s : Bs) : Bool := Lib.hasPrefix s [110, 111, 116, 32]
def bodyP (no : Bool) (s : Bs) : Option Tst :=
  match cutP s with
  | some (x, d, y) => match nameP (numSplit x).2 with
    | some n => some ⟨!no, n, d, y, (numSplit x).1⟩
    | none => none
  | none => none
def testP (s : Bs) : Option Tst := if Lib.hasPrefix (afterNot s) [111, 107] = true then bodyP (isNot s) ((afterNot s).drop 2) else none
def numR (s : Bs) : Int × Nat :=
  if s.takeWhile isDb = [] ∨ 9 < (s.takeWhile isDb).length ∨ (1 < (s.takeWhile isDb).length ∧ (s.takeWhile isDb).headD 0 = 48) then (0, 0) else ((val (s.takeWhile isDb) : Int), (s.takeWhile isDb).length)
def numSplitR (s : Bs) : Int × Bs :=
  if Lib.hasPrefix s [32] = true then (if 0 < (numR (s.drop 1)).2 then ((numR (s.drop 1)).1, s.drop (1 + (numR (s.drop 1)).2)) else (-1, s)) else (-1, s)
def toHash (s : Bs) : Bs := s.takeWhile fun c => !(c == 35)
def nameR (s : Bs) : Option (Bs × Bs) :=
  if Lib.hasPrefix s [32, 45, 32] = true then
    (if (toHash (s.drop 3)).length < (s.drop 3).length then
      (if toHash (s.drop 3) = [] ∨ ¬ (toHash (s.drop 3)).getLast? = some 32 then none else some (trimS (toHash (s.drop 3)).dropLast, (s.drop 3).drop ((toHash (s.drop 3)).length - 1)))
    else some (trimS (s.drop 3), []))
  else some ([], s)
def dirR (s : Bs) : Int × Bs × Bs :=
  if Lib.hasPrefix s (32 :: 35 :: sk) = true then (if Lib.hasPrefix (s.drop 7) [32] = true then (1, trimS (s.drop 7), []) else (1, [], s.drop 7))
  else if Lib.hasPrefix s (32 :: 35 :: td) = true then (if Lib.hasPrefix (s.drop 7) [32] = true then (2, trimS (s.drop 7), []) else (2, [], s.drop 7))
  else (0, [], s)
def finR (no : Bool) (at_ : Int) (s : Bs) : Option Tst :=
  match nameR s with
  | none => none
  | some (n, t) => if ((dirR t).2.2.isEmpty && okName n && okText (dirR t).2.1) = true then some ⟨!no, n, (dirR t).1, (dirR t).2.1, at_⟩ else none
def testR (s : Bs) : Option Tst := if Lib.hasPrefix (afterNot s) [111, 107] = true then finR (isNot s) (numSplitR ((afterNot s).drop 2)).1 (numSplitR ((afterNot s).drop 2)).2 else none
theorem hp_cons (c p : UInt8) (s q : Bs) : Lib.hasPrefix (c :: s) (p :: q) = (p == c && Lib.hasPrefix s q) := rfl
theorem hp_nil (s : Bs) : Lib.hasPrefix s [] = true := by cases s <;> rfl
theorem hp_nilc (p : UInt8) (q : Bs) : Lib.hasPrefix [] (p :: q) = false := rfl
theorem hp_iff (s p : Bs) : Lib.hasPrefix s p = true ↔ ∃ r, s = p ++ r := by
  unfold Lib.hasPrefix
  rw [List.isPrefixOf_iff_prefix]
  exact ⟨fun ⟨r, h⟩ => ⟨r, h.symm⟩, fun ⟨r, h⟩ => ⟨r, h.symm⟩⟩
theorem cutH_some : ∀ {s b a : Bs}, cutH s = some (b, a) → s = b ++ 32 :: 35 :: a ∧ cutH (b ++ [32]) = none
  | [], _, _, h => by cases h
  | [c], _, _, h => by cases h
  | c :: d :: r, b, a, h => by
    rw [cutH] at h
    by_cases hc : c = 32 ∧ d = 35
    · rw [if_pos hc] at h
      obtain ⟨rfl, rfl⟩ := hc
      cases h
      exact ⟨rfl, rfl⟩
    · rw [if_neg hc] at h
      obtain ⟨⟨b', a'⟩, h1, h2⟩ := Option.map_eq_some_iff.1 h
      cases h2
      obtain ⟨e1, e2⟩ := cutH_some h1
      refine ⟨by rw [e1]; rfl, ?_⟩
      cases b' with
      | nil =>
        rw [List.nil_append] at e1
        injection e1 with e3 e4
        show cutH [c, 32] = none
        rw [cutH, if_neg (by rintro ⟨_, h⟩; exact absurd h (by decide))]
        rfl
      | cons x b'' =>
        rw [List.cons_append] at e1
        injection e1 with e3 e4
        subst e3
        show cutH (c :: d :: (b'' ++ [32])) = none
        rw [cutH, if_neg hc]
        rw [List.cons_append] at e2
        rw [e2]
        rfl
theorem cutH_snoc : ∀ {s : Bs}, cutH s = none → cutH (s ++ [32]) = none
  | [], _ => rfl
  | [c], _ => by
    show cutH [c, 32] = none
    rw [cutH, if_neg (by rintro ⟨_, h⟩; exact absurd h (by decide))]
    rfl
  | c :: d :: r, h => by
    rw [cutH] at h
    by_cases hc : c = 32 ∧ d = 35
    · rw [if_pos hc] at h; cases h
    · rw [if_neg hc] at h
      have h1 : cutH (d :: r) = none := Option.map_eq_none_iff.1 h
      have := cutH_snoc h1
      show cutH (c :: d :: (r ++ [32])) = none
      rw [cutH, if_neg hc]
      rw [List.cons_append] at this
      rw [this]
      rfl
theorem cutH_in : ∀ (p q : Bs), cutH (p ++ 32 :: 35 :: q) ≠ none
  | [], q => by
    show cutH (32 :: 35 :: q) ≠ none
    rw [cutH, if_pos ⟨rfl, rfl⟩]
    exact fun h => by cases h
  | [c], q => by
    show cutH (c :: 32 :: 35 :: q) ≠ none
    rw [cutH, if_neg (by rintro ⟨_, h⟩; exact absurd h (by decide))]
    intro h
    exact cutH_in [] q (Option.map_eq_none_iff.1 h)
  | c :: d :: p, q => by
    show cutH (c :: d :: (p ++ 32 :: 35 :: q)) ≠ none
    rw [cutH]
    split
    · exact fun h => by cases h
    · intro h
      exact cutH_in (d :: p) q (Option.map_eq_none_iff.1 h)
theorem cutH_drop (j : Nat) {s : Bs} (h : cutH s = none) : cutH (s.drop j) = none := by
  cases hc : cutH (s.drop j) with
  | none => rfl
  | some x =>
    obtain ⟨b, a⟩ := x
    obtain ⟨e, _⟩ := cutH_some hc
    have e2 := List.take_append_drop j s
    rw [e, ← List.append_assoc] at e2
    rw [← e2] at h
    exact absurd h (cutH_in _ _)
end Go.Proofs.YtallfkecjibpmaaDoor.Rd
