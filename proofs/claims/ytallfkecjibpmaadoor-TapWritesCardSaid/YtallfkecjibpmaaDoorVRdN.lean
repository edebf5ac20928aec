/- Of this claim's texts (RdN): the declarations that the claim reaches (slimclaim.py). -/
import Derived.Test.YtallfkecjibpmaaDoorVRdM
set_option linter.unusedVariables false
set_option linter.unusedSimpArgs false
namespace Go.Proofs.YtallfkecjibpmaaDoor.Rd
open Go.Proofs.YtallfkecjibpmaaDoor.Nm
def dirT (t : Bs) : Option (Int × Bs) := if t = [] then some (0, []) else dirP (t.drop 2)
def mkT (no : Bool) (z : Int) (n : Bs) (d : Option (Int × Bs)) : Option Tst :=
  match d with
  | some (d, y) => some ⟨!no, n, d, y, z⟩
  | none => none
theorem okText_nil : okText [] = true := by decide
theorem okName_nil : okName [] = true := by decide
theorem trimS_nil : trimS [] = [] := by decide
theorem sk_td {a : Bs} (h : Lib.hasPrefix a sk = true) : Lib.hasPrefix a td = false := by
  obtain ⟨r, rfl⟩ := (hp_iff a sk).1 h
  rfl
theorem dir_one (r : Bs) (d : Int) (no : Bool) (z : Int) (n : Bs) :
    (if ((if Lib.hasPrefix r [32] = true then (d, trimS r, []) else (d, ([] : Bs), r)).2.2.isEmpty && okName n && okText (if Lib.hasPrefix r [32] = true then (d, trimS r, ([] : Bs)) else (d, [], r)).2.1) = true
      then some (⟨!no, n, (if Lib.hasPrefix r [32] = true then (d, trimS r, ([] : Bs)) else (d, [], r)).1, (if Lib.hasPrefix r [32] = true then (d, trimS r, ([] : Bs)) else (d, [], r)).2.1, z⟩ : Tst) else none) =
    if okName n = true then mkT no z n (if headOk r = true then (if okText (trimS r) = true then some (d, trimS r) else none) else none) else none := by
  cases r with
  | nil =>
    rw [hp_nilc, show headOk [] = true from rfl, trimS_nil, okText_nil]
    cases okName n <;> rfl
  | cons c r =>
    rw [hp_b]
    have hh : headOk (c :: r) = (32 == c) := by
      unfold headOk
      show (false || (c == 32)) = _
      rw [Bool.false_or]
      by_cases h : c = 32
      · subst h; rfl
      · rw [beq_eq_false_iff_ne.2 h, beq_eq_false_iff_ne.2 (fun h' => h h'.symm)]
    rw [hh]
    by_cases h : ((32 : UInt8) == c) = true
    · simp only [if_pos h]
      cases okName n <;> cases okText (trimS (c :: r)) <;> rfl
    · simp only [if_neg h]
      cases okName n <;> rfl
theorem dirR_T {t : Bs} (ht : Tl t) (no : Bool) (z : Int) (n : Bs) :
    (if ((dirR t).2.2.isEmpty && okName n && okText (dirR t).2.1) = true then some (⟨!no, n, (dirR t).1, (dirR t).2.1, z⟩ : Tst) else none) = if okName n = true then mkT no z n (dirT t) else none := by
  rcases ht with rfl | ⟨a, rfl⟩
  · rw [show dirR [] = (0, [], []) from rfl, show dirT [] = some (0, []) from rfl]
    simp only [okText_nil, Bool.and_true, List.isEmpty_nil, Bool.true_and]
    rfl
  · have e1 : ∀ w : Bs, Lib.hasPrefix (32 :: 35 :: a) (32 :: 35 :: w) = Lib.hasPrefix a w := fun w => by
      rw [hp_cons, hp_cons]; rfl
    have e2 : (32 :: 35 :: a : Bs).drop 7 = a.drop 5 := rfl
    have e3 : dirT (32 :: 35 :: a) = dirP a := by unfold dirT; rw [if_neg (by simp)]; rfl
    rw [e3]
    unfold dirR dirP
    rw [e1, e1, e2]
    by_cases h1 : Lib.hasPrefix a sk = true
    · have h2 := sk_td h1
      rw [h1, h2]
      simp only [Bool.true_and, Bool.false_and, Bool.false_eq_true, if_false, if_true]
      exact dir_one _ _ _ _ _
    · rw [Bool.not_eq_true] at h1
      rw [h1]
      simp only [Bool.false_and, Bool.false_eq_true, if_false]
      by_cases h2 : Lib.hasPrefix a td = true
      · rw [h2]
        simp only [Bool.true_and, if_true]
        exact dir_one _ _ _ _ _
      · rw [Bool.not_eq_true] at h2
        rw [h2]
        simp only [Bool.false_and, Bool.false_eq_true, if_false]
        cases okName n <;> rfl
theorem toHash_cons (c : UInt8) (l : Bs) : toHash (c :: l) = if c = 35 then [] else c :: toHash l := by
  unfold toHash
  rw [List.takeWhile_cons]
  by_cases h : c = 35
  · subst h; rfl
  · rw [if_neg h, if_pos (by simp [h])]
theorem toHash_no : ∀ (u t : Bs), noHash u = true → toHash (u ++ t) = u ++ toHash t
  | [], t, _ => rfl
  | c :: u, t, h => by
    rw [noHash_cons, Bool.and_eq_true] at h
    have hc : c ≠ 35 := by
      rintro rfl
      exact absurd h.1 (by decide)
    rw [List.cons_append, toHash_cons, if_neg hc, toHash_no u t h.2]; rfl
theorem toHash_yes : ∀ (u t : Bs), noHash u = false → ∃ v, u = toHash (u ++ t) ++ 35 :: v
  | [], t, h => by cases h
  | c :: u, t, h => by
    rw [List.cons_append, toHash_cons]
    by_cases hc : c = 35
    · rw [if_pos hc, hc]; exact ⟨u, rfl⟩
    · rw [if_neg hc]
      rw [noHash_cons, show ((35 : UInt8) == c) = false from by rw [beq_eq_false_iff_ne]; exact fun h' => hc h'.symm] at h
      obtain ⟨v, hv⟩ := toHash_yes u t h
      exact ⟨v, by rw [List.cons_append, ← hv]⟩
def finP (no : Bool) (z : Int) (x t : Bs) : Option Tst :=
  if noHash x = true then (match nameP x with
    | some n => mkT no z n (dirT t)
    | none => none) else none
theorem core_name (u t : Bs) (hx : cutH (32 :: 45 :: 32 :: u ++ [32]) = none) (ht : Tl t) (no : Bool) (z : Int) :
    finR no z (32 :: 45 :: 32 :: u ++ t) = finP no z (32 :: 45 :: 32 :: u) t := by
  have hp : ∀ q : Bs, Lib.hasPrefix (32 :: 45 :: 32 :: q) [32, 45, 32] = true := fun q => by rw [hp_cons, hp_cons, hp_cons, hp_nil]; rfl
  have hn : noHash (32 :: 45 :: 32 :: u) = noHash u := by rw [noHash_cons, noHash_cons, noHash_cons]; rfl
  have hP : nameP (32 :: 45 :: 32 :: u) = if okName (trimS u) = true then some (trimS u) else none := by
    unfold nameP
    rw [if_neg (by simp), if_pos (hp u)]
    rfl
  unfold finP
  rw [hn, hP]
  unfold finR nameR
  rw [show (32 :: 45 :: 32 :: u ++ t : Bs) = 32 :: 45 :: 32 :: (u ++ t) from rfl, if_pos (hp _), show (32 :: 45 :: 32 :: (u ++ t) : Bs).drop 3 = u ++ t from rfl]
  have fin : ∀ r : Option (Bs × Bs), r = some (trimS u, t) → (match r with
      | none => none
      | some (n, t) => if ((dirR t).2.2.isEmpty && okName n && okText (dirR t).2.1) = true then some (⟨!no, n, (dirR t).1, (dirR t).2.1, z⟩ : Tst) else none) = (match if okName (trimS u) = true then some (trimS u) else none with
    | some n => mkT no z n (dirT t)
    | none => none) := by
    rintro _ rfl
    simp only
    rw [dirR_T ht]
    cases okName (trimS u) <;> rfl
  by_cases hu : noHash u = true
  · rw [if_pos hu, toHash_no u t hu]
    apply fin
    rcases ht with rfl | ⟨a, rfl⟩
    · rw [show toHash [] = [] from rfl, if_neg (Nat.lt_irrefl _), List.append_nil]
    · have e : toHash (32 :: 35 :: a) = [32] := by rw [toHash_cons, if_neg (by decide), toHash_cons, if_pos rfl]
      rw [e, if_pos (by simp), if_neg (by simp), List.dropLast_concat]
      congr 2
      rw [List.length_append, show ([32] : Bs).length = 1 from rfl, Nat.add_sub_cancel, List.drop_left]
  · rw [if_neg hu]
    rw [Bool.not_eq_true] at hu
    obtain ⟨v, hv⟩ := toHash_yes u t hu
    have hl : (toHash (u ++ t)).length < (u ++ t).length := by
      have := congrArg List.length hv
      rw [List.length_append, List.length_cons] at this
      rw [List.length_append (as := u)]
      omega
    rw [if_pos hl, if_pos]
    by_cases h0 : (toHash (u ++ t)).getLast? = some 32
    · exfalso
      obtain ⟨p, hp2⟩ := List.getLast?_eq_some_iff.1 h0
      rw [hp2] at hv
      rw [hv, show (32 :: 45 :: 32 :: (p ++ [32] ++ 35 :: v) ++ [32] : Bs) = (32 :: 45 :: 32 :: p) ++ 32 :: 35 :: (v ++ [32]) by simp] at hx
      exact cutH_in _ _ hx
    · exact .inr h0
theorem core (x t : Bs) (hx : cutH (x ++ [32]) = none) (ht : Tl t) (no : Bool) (z : Int) : finR no z (x ++ t) = finP no z x t := by
  by_cases h0 : x = []
  · subst h0
    have h1 : Lib.hasPrefix t [32, 45, 32] = false := by
      rcases ht with rfl | ⟨a, rfl⟩
      · rfl
      · rw [hp_cons, hp_cons]; rfl
    unfold finR nameR finP
    rw [List.nil_append, h1]
    simp only [Bool.false_eq_true, if_false]
    rw [dirR_T ht, okName_nil]
    rfl
  by_cases h1 : Lib.hasPrefix x [32, 45, 32] = true
  · obtain ⟨u, rfl⟩ := (hp_iff x _).1 h1
    exact core_name u t hx ht no z
  · have hP : nameP x = none := by unfold nameP; rw [if_neg h0, if_neg h1]
    unfold finP
    rw [hP]
    rw [show (if noHash x = true then (none : Option Tst) else none) = none by split <;> rfl]
    by_cases h2 : Lib.hasPrefix (x ++ t) [32, 45, 32] = true
    · have hx2 : x = [32, 45] ∧ ∃ a, t = 32 :: 35 :: a := by
        obtain ⟨r, hr⟩ := (hp_iff _ _).1 h2
        match x, h0, h1, hr with
        | [], h0, _, _ => exact absurd rfl h0
        | [c], _, _, hr =>
          rcases ht with rfl | ⟨a, rfl⟩
          · cases hr
          · simp at hr
        | [c, d], _, _, hr =>
          rcases ht with rfl | ⟨a, rfl⟩
          · simp at hr
          · simp at hr
            exact ⟨by rw [hr.1, hr.2.1], a, rfl⟩
        | c :: d :: e :: q, _, h1, hr =>
          simp at hr
          obtain ⟨rfl, rfl, rfl, _⟩ := hr
          exact absurd (by rw [hp_cons, hp_cons, hp_cons, hp_nil]; rfl) h1
      obtain ⟨rfl, a, rfl⟩ := hx2
      unfold finR nameR
      rw [h2, if_pos rfl, show ([32, 45] ++ 32 :: 35 :: a : Bs).drop 3 = 35 :: a from rfl, toHash_cons, if_pos rfl, if_pos (by simp), if_pos (.inl rfl)]
    · cases x with
      | nil => exact absurd rfl h0
      | cons c r =>
        unfold finR nameR
        rw [if_neg h2]
        simp only
        rw [List.cons_append, dirR_no ?_]
        · rfl
        · rintro ⟨rfl, q, hq⟩
          cases r with
          | nil =>
            rcases ht with rfl | ⟨a, rfl⟩
            · cases hq
            · injection hq with e1 e2
              exact absurd e1 (by decide)
          | cons d r =>
            injection hq with e1 e2
            subst e1
            exact cutH_in [] (r ++ [32]) (by rw [List.nil_append]; rw [List.cons_append, List.cons_append] at hx; exact hx)
theorem body_eq (no : Bool) (s : Bs) : bodyP no s = finR no (numSplitR s).1 (numSplitR s).2 := by
  have key : ∀ b t : Bs, Tl t → cutH (b ++ [32]) = none → finR no (numSplitR (b ++ t)).1 (numSplitR (b ++ t)).2 = if noHash b = true then (match nameP (numSplit b).2 with
      | some n => mkT no (numSplit b).1 n (dirT t)
      | none => none) else none := by
    intro b t ht hb
    rcases split_ok b t ht with ⟨e, j, hj, hh⟩ | ⟨e1, e2⟩
    · rw [e]
      simp only
      rw [core _ t ?_ ht]
      · unfold finP
        rw [hh, hj]
      · rw [hj]
        by_cases hle : j ≤ b.length
        · rw [← List.drop_append_of_le_length hle]
          exact cutH_drop j hb
        · rw [List.drop_of_length_le (by omega)]
          rfl
    · rw [e2, e1]
      split <;> rfl
  unfold bodyP cutP
  cases hc : cutH s with
  | none =>
    have := key s [] (.inl rfl) (cutH_snoc hc)
    rw [List.append_nil] at this
    rw [this]
    simp only
    by_cases hn : noHash s = true
    · rw [if_pos hn, if_pos hn]
      rfl
    · rw [if_neg hn, if_neg hn]
  | some x =>
    obtain ⟨b, a⟩ := x
    obtain ⟨e, hb⟩ := cutH_some hc
    have := key b (32 :: 35 :: a) (.inr ⟨a, rfl⟩) hb
    rw [← e] at this
    rw [this]
    simp only
    rw [show dirT (32 :: 35 :: a) = dirP a by unfold dirT; rw [if_neg (by simp)]; rfl]
    cases hd : dirP a with
    | none =>
      simp only
      by_cases hn : noHash b = true
      · rw [if_pos hn]
        cases nameP (numSplit b).2 <;> rfl
      · rw [if_neg hn]
    | some y =>
      obtain ⟨d, y⟩ := y
      simp only
      by_cases hn : noHash b = true
      · rw [if_pos hn, if_pos hn]
        rfl
      · rw [if_neg hn, if_neg hn]
theorem test_eq (s : Bs) : testP s = testR s := by
  unfold testP testR
  rw [body_eq]
end Go.Proofs.YtallfkecjibpmaaDoor.Rd
