/- Of this claim's texts (RdM): the declarations that the claim reaches (slimclaim.py). -/
import Derived.Test.YtallfkecjibpmaaDoorVRdL
set_option linter.unusedVariables false
set_option linter.unusedSimpArgs false
namespace Go.Proofs.YtallfkecjibpmaaDoor.Rd
open Go.Proofs.YtallfkecjibpmaaDoor.Nm
def Tl (t : Bs) : Prop := t = [] ∨ ∃ a, t = 32 :: 35 :: a
theorem db32 : isDb 32 = false := by decide
theorem db35 : isDb 35 = false := by decide
theorem db45 : isDb 45 = false := by decide
theorem tw_tail {t : Bs} (ht : Tl t) : ∀ l : Bs, (l ++ t).takeWhile isDb = l.takeWhile isDb
  | [] => by
    rcases ht with rfl | ⟨a, rfl⟩
    · rfl
    · rw [List.nil_append, List.takeWhile_cons, db32]; rfl
  | c :: l => by
    rw [List.cons_append, List.takeWhile_cons, List.takeWhile_cons, tw_tail ht l]
theorem toBl_cons (c : UInt8) (l : Bs) : toBl (c :: l) = if c = 32 then [] else c :: toBl l := by
  unfold toBl
  rw [List.takeWhile_cons]
  by_cases h : c = 32
  · subst h; rfl
  · rw [if_neg h, if_pos (by simp [h])]
theorem toBl_all : ∀ l : Bs, (toBl l).all isDb = true → l.takeWhile isDb = toBl l
  | [], _ => rfl
  | c :: l, h => by
    rw [toBl_cons] at h ⊢
    rw [List.takeWhile_cons]
    by_cases hc : c = 32
    · subst hc; rw [if_pos rfl, db32]; rfl
    · rw [if_neg hc] at h ⊢
      rw [List.all_cons, Bool.and_eq_true] at h
      rw [if_pos h.1, toBl_all l h.2]
theorem toBl_not : ∀ l : Bs, ¬ (toBl l).all isDb = true → ∃ c r, l = l.takeWhile isDb ++ c :: r ∧ c ≠ 32 ∧ isDb c = false
  | [], h => absurd rfl h
  | c :: l, h => by
    rw [toBl_cons] at h
    by_cases hc : c = 32
    · rw [if_pos hc] at h; exact absurd rfl h
    · rw [if_neg hc, List.all_cons, Bool.and_eq_true] at h
      rw [List.takeWhile_cons]
      by_cases hd : isDb c = true
      · rw [if_pos hd]
        obtain ⟨x, r, e, h1, h2⟩ := toBl_not l (fun h' => h ⟨hd, h'⟩)
        exact ⟨x, r, by rw [List.cons_append, ← e], h1, h2⟩
      · rw [if_neg hd]
        exact ⟨c, l, rfl, hc, by simpa using hd⟩
theorem numR_eq (s : Bs) : numR s = if (numP (s.takeWhile isDb)).2 = true then ((numP (s.takeWhile isDb)).1, (s.takeWhile isDb).length) else (0, 0) := by
  have ha : (s.takeWhile isDb).all isDb = true := List.all_takeWhile
  unfold numR numP
  generalize s.takeWhile isDb = D at *
  have hiff : (D = [] ∨ 9 < D.length ∨ (1 < D.length ∧ D.headD 0 = 48)) ↔ (D = [] ∨ 9 < D.length ∨ (D.headD 0 = 48 ∧ D ≠ [48]) ∨ ¬ (D.all isDb = true)) := by
    match D with
    | [] => simp
    | [c] => simp [ha]
    | c :: d :: r => simp [ha]
  by_cases h : D = [] ∨ 9 < D.length ∨ (1 < D.length ∧ D.headD 0 = 48)
  · rw [if_pos h, if_pos (hiff.1 h)]; rfl
  · rw [if_neg h, if_neg (fun h' => h (hiff.2 h'))]; rfl
theorem hp_b (c : UInt8) (s : Bs) : Lib.hasPrefix (c :: s) [32] = (32 == c) := by rw [hp_cons, hp_nil, Bool.and_true]
theorem noHash_cons (c : UInt8) (l : Bs) : noHash (c :: l) = (!(35 == c) && noHash l) := by
  unfold noHash
  rw [List.contains_cons, Bool.not_or]
theorem noHash_digits : ∀ (d r : Bs), d.all isDb = true → noHash (d ++ r) = noHash r
  | [], _, _ => rfl
  | c :: d, r, h => by
    rw [List.all_cons, Bool.and_eq_true] at h
    rw [List.cons_append, noHash_cons, noHash_digits d r h.2]
    have : (35 == c) = false := by
      rw [beq_eq_false_iff_ne]
      rintro rfl
      rw [db35] at h
      exact absurd h.1 (by decide)
    rw [this]; rfl
theorem tw_drop (p : UInt8 → Bool) : ∀ l : Bs, l = l.takeWhile p ++ l.drop (l.takeWhile p).length
  | [] => rfl
  | c :: l => by
    rw [List.takeWhile_cons]
    by_cases h : p c = true
    · rw [if_pos h, List.length_cons, List.drop_succ_cons, List.cons_append, ← tw_drop p l]
    · rw [if_neg h]; rfl
theorem numP_ok {d : Bs} (h : (numP d).2 = true) : d ≠ [] ∧ d.all isDb = true := by
  unfold numP at h
  by_cases hc : d = [] ∨ 9 < d.length ∨ (d.headD 0 = 48 ∧ d ≠ [48]) ∨ ¬ (d.all isDb = true)
  · rw [if_pos hc] at h; cases h
  · exact ⟨fun h' => hc (.inl h'), Classical.not_not.1 (fun h' => hc (.inr (.inr (.inr h'))))⟩
theorem nameP_no {c : UInt8} {r : Bs} (h : c ≠ 45) : nameP (32 :: c :: r) = none := by
  unfold nameP
  rw [if_neg (by simp), hp_cons, hp_cons, show ((45 : UInt8) == c) = false from by rw [beq_eq_false_iff_ne]; exact fun h' => h h'.symm]
  rfl
theorem dirR_no {c : UInt8} {r : Bs} (h : ¬ (c = 32 ∧ ∃ q, r = 35 :: q)) : dirR (c :: r) = (0, [], c :: r) := by
  have hf : ∀ w : Bs, Lib.hasPrefix (c :: r) (32 :: 35 :: w) = false := by
    intro w
    rw [hp_cons]
    by_cases hc : c = 32
    · subst hc
      cases r with
      | nil => rfl
      | cons d q =>
        rw [hp_cons]
        by_cases hd : d = 35
        · subst hd; exact absurd ⟨rfl, q, rfl⟩ h
        · rw [show ((35 : UInt8) == d) = false from by rw [beq_eq_false_iff_ne]; exact fun h' => hd h'.symm]; rfl
    · rw [show ((32 : UInt8) == c) = false from by rw [beq_eq_false_iff_ne]; exact fun h' => hc h'.symm]; rfl
  unfold dirR
  rw [hf sk, hf td]; rfl
theorem finR_no {c : UInt8} {r : Bs} (no : Bool) (z : Int) (h : c ≠ 32) : finR no z (c :: r) = none := by
  unfold finR nameR
  rw [hp_cons, show ((32 : UInt8) == c) = false from by rw [beq_eq_false_iff_ne]; exact fun h' => h h'.symm]
  simp only [Bool.false_and, Bool.false_eq_true, if_false]
  rw [dirR_no (fun h' => h h'.1)]
  rfl
theorem split_ok (b t : Bs) (ht : Tl t) : (numSplitR (b ++ t) = ((numSplit b).1, (numSplit b).2 ++ t) ∧ ∃ j, (numSplit b).2 = b.drop j ∧ noHash b = noHash (b.drop j)) ∨
    (nameP (numSplit b).2 = none ∧ ∀ no, finR no (numSplitR (b ++ t)).1 (numSplitR (b ++ t)).2 = none) := by
  cases b with
  | nil =>
    refine .inl ⟨?_, 0, rfl, rfl⟩
    rcases ht with rfl | ⟨a, rfl⟩
    · rfl
    · rw [List.nil_append]
      unfold numSplitR
      rw [hp_b, if_pos (by decide), show (32 :: 35 :: a : Bs).drop 1 = 35 :: a from rfl]
      unfold numR
      rw [List.takeWhile_cons, db35]
      rfl
  | cons c b =>
    by_cases hc : c = 32
    · subst hc
      have e1 : numSplit (32 :: b) = if (numP (toBl b)).2 = true then ((numP (toBl b)).1, b.drop (toBl b).length) else (-1, 32 :: b) := by
        unfold numSplit
        rw [hp_b, if_pos (by decide), show (32 :: b).drop 1 = b from rfl, Nat.add_comm 1, List.drop_succ_cons]
      have e2 : numSplitR ((32 :: b) ++ t) = if (numP (b.takeWhile isDb)).2 = true then ((numP (b.takeWhile isDb)).1, (b ++ t).drop (b.takeWhile isDb).length) else (-1, 32 :: b ++ t) := by
        unfold numSplitR
        rw [List.cons_append, hp_b, if_pos (by decide), show (32 :: (b ++ t)).drop 1 = b ++ t from rfl, numR_eq, tw_tail ht]
        by_cases hn : (numP (b.takeWhile isDb)).2 = true
        · rw [if_pos hn, if_pos hn]
          simp only
          rw [if_pos (List.length_pos_iff.2 (numP_ok hn).1), Nat.add_comm 1, List.drop_succ_cons]
        · rw [if_neg hn, if_neg hn]; rfl
      by_cases ha : (toBl b).all isDb = true
      · have he := toBl_all b ha
        rw [he] at e2
        refine .inl ?_
        rw [e1, e2]
        by_cases hn : (numP (toBl b)).2 = true
        · rw [if_pos hn, if_pos hn]
          have hle : (toBl b).length ≤ b.length := by unfold toBl; exact (List.takeWhile_sublist _).length_le
          refine ⟨?_, 1 + (toBl b).length, ?_, ?_⟩
          · rw [List.drop_append_of_le_length hle]
          · rw [Nat.add_comm 1, List.drop_succ_cons]
          · rw [Nat.add_comm 1, List.drop_succ_cons, noHash_cons]
            have hb : b = toBl b ++ b.drop (toBl b).length := tw_drop _ b
            conv => lhs; rw [hb, noHash_digits _ _ ha]
            rfl
        · rw [if_neg hn, if_neg hn]
          exact ⟨rfl, 0, rfl, rfl⟩
      · have hpn : ¬ (numP (toBl b)).2 = true := fun h => ha (numP_ok h).2
        obtain ⟨x, r, e, hx, hd⟩ := toBl_not b ha
        by_cases hn : (numP (b.takeWhile isDb)).2 = true
        · refine .inr ?_
          rw [e1, e2, if_neg hpn, if_pos hn]
          obtain ⟨hne, hal⟩ := numP_ok hn
          constructor
          · cases hD : b.takeWhile isDb with
            | nil => exact absurd hD hne
            | cons y D =>
              rw [hD] at hal e
              rw [List.all_cons, Bool.and_eq_true] at hal
              rw [e]
              refine nameP_no ?_
              rintro rfl
              rw [db45] at hal
              exact absurd hal.1 (by decide)
          · intro no
            simp only
            generalize b.takeWhile isDb = D at *
            subst e
            rw [List.append_assoc, List.drop_left]
            exact finR_no no _ hx
        · refine .inl ?_
          rw [e1, e2, if_neg hpn, if_neg hn]
          exact ⟨rfl, 0, rfl, rfl⟩
    · have hf : ∀ q : Bs, Lib.hasPrefix (c :: q) [32] = false := fun q => by
        rw [hp_b, beq_eq_false_iff_ne]
        exact fun h' => hc h'.symm
      refine .inl ⟨?_, 0, ?_, rfl⟩
      · unfold numSplitR numSplit
        rw [List.cons_append, hf, hf]
        rfl
      · unfold numSplit
        rw [hf]; rfl
end Go.Proofs.YtallfkecjibpmaaDoor.Rd
