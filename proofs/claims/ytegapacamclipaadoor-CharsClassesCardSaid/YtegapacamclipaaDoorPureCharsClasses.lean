/- The plain law of CharsClasses: what it computes is true. -/
import Derived.Test.YtegapacamclipaaDoorM4
import Derived.Test.YtegapacamclipaaDoorM3
import Derived.Test.YtegapacamclipaaDoorPCls
set_option linter.unusedVariables false
set_option linter.unusedSimpArgs false
namespace Go.Proofs.YtegapacamclipaaDoor.Q
open Go.RowKit Go.Proofs.YtegapacamclipaaDoorW.PrintWords Go.Proofs.YtegapacamclipaaDoor.Cls Go.Proofs.YtegapacamclipaaDoor.C Go.Proofs.YtegapacamclipaaDoor.G Go.Proofs.YtegapacamclipaaDoor.M Go.Lib
theorem wrapN {x : Int} (h0 : -9223372036854775808 ≤ x) (h1 : x ≤ 9223372036854775807) : wrap64 x = x := by unfold wrap64; omega
theorem push_last : ∀ (o : List (Nat × Nat)) (y : Nat × Nat) (c : Nat), push (o ++ [y]) c = if y.2 + 1 = c then o ++ [(y.1, c)] else o ++ [y] ++ [(c, c)]
  | [], y, c => by simp only [List.nil_append, push]; split <;> rfl
  | [x], y, c => by
    rw [List.singleton_append, push]
    simp only [push]
    split <;> rfl
  | x :: z :: o, y, c => by
    have ih := push_last (z :: o) y c
    rw [List.cons_append, List.cons_append, push]
    rw [List.cons_append] at ih
    rw [ih]
    split <;> rfl
theorem spansN_app (a b : List (Nat × Nat)) : spansN (a ++ b) = spansN a ++ spansN b := by simp [spansN]
theorem rd_last (o : List (Nat × Nat)) (y : Nat × Nat) : rd_T49 (spansN (o ++ [y])) (o.length : Int) = ⟨(y.1 : Int), (y.2 : Int)⟩ := by
  unfold rd_T49
  rw [Int.toNat_natCast, spansN_app, List.getD_eq_getElem?_getD, List.getElem?_append_right (by rw [spansN_len]; exact Nat.le_refl _), spansN_len, Nat.sub_self]
  rfl
theorem set_last (o : List (Nat × Nat)) (y : Nat × Nat) (x : S49) : (spansN (o ++ [y])).set o.length x = spansN o ++ [x] := by
  rw [spansN_app]
  have : ∀ (l : List S49) (a b : S49), (l ++ [a]).set l.length b = l ++ [b] := fun l a b => by
    induction l with
    | nil => rfl
    | cons q l ih => simp [ih]
  have h := this (spansN o) ⟨(y.1 : Int), (y.2 : Int)⟩ x
  rw [spansN_len] at h
  exact h
theorem in_char {cl : Fin 8} (h7 : cl ≠ 7) {c : Nat} (h : inL (clsL cl) c = true) : c < 55296 ∨ (57343 < c ∧ c ≤ 65535) := by
  refine word_char c ?_
  match cl, h7 with
  | 0, _ => exact .inl (.inl (.inl ((upper_iff c).1 h)))
  | 1, _ => exact .inl (.inl (.inr (.inl ((lower_iff c).1 h))))
  | 2, _ => exact .inl (.inl ((letter_iff c).1 h))
  | 3, _ => exact .inl (.inr (.inl ((digit_iff c).1 h)))
  | 4, _ => exact .inl (.inr (.inr (.inl ((mark_iff c).1 h))))
  | 5, _ => exact .inr ((blank_iff c).1 h)
  | 6, _ => exact .inl ((word_iff c).1 h)
  | 7, h => exact absurd rfl h
theorem wrap_nat (c : Nat) (h : c ≤ 65536) : wrap64 ((c : Int) + 1) = ((c + 1 : Nat) : Int) := by unfold wrap64; omega
theorem spans_l0 (s : ByteArray) (cl : Fin 8) (hs : clsOf s.data.toList = some cl) (h7 : cl ≠ 7) : ∀ (n c : Nat) (out : List (Nat × Nat)) (k : Nat), c + n = 65536 → out.length ≤ c → 2 * n + 6 ≤ k →
    motleyref02_Spans.l0 k s (spansN out) (c : Int) = some (spansN (scan (inL (clsL cl)) n c out), 0)
  | 0, c, out, k, hc, ho, hk => by
    obtain ⟨k, rfl⟩ : ∃ j, k = j + 1 := ⟨k - 1, by omega⟩
    simp only [motleyref02_Spans.l0]
    rw [if_neg (by omega), scan]
  | n + 1, c, out, k, hc, ho, hk => by
    obtain ⟨k, rfl⟩ : ∃ j, k = j + 3 + 1 := ⟨k - 4, by omega⟩
    have ih := fun o h => spans_l0 s cl hs h7 n (c + 1) o (k + 2) (by omega) h (by omega)
    rw [scan]
    simp only [motleyref02_Spans.l0]
    rw [if_pos (by omega), IsChar_eq]
    simp only [Option.bind_some]
    have hno : motleyref02_Spans.j1 (k + 3) s (spansN out) (c : Int) true = some (spansN (scan (inL (clsL cl)) n (c + 1) out), 0) := by
      simp only [motleyref02_Spans.j1]
      rw [if_pos trivial, wrap_nat c (by omega), ih out (by omega)]
    by_cases hch : c < 55296 ∨ 57343 < c
    · rw [decide_eq_true (by omega), if_pos rfl, In_eq (k + 1) c s cl hs (by omega)]
      simp only [Option.bind_some]
      cases hin : inL (clsL cl) c with
      | false =>
        rw [if_neg (by decide)]
        exact hno
      | true =>
        rw [if_pos rfl]
        simp only [motleyref02_Spans.j1, Bool.not_true]
        rw [if_neg (by decide), wrap_nat c (by omega)]
        rcases List.eq_nil_or_concat out with rfl | ⟨o, y, rfl⟩
        · rw [if_neg (by simp [spansN]), if_pos (by simp [spansN])]
          exact ih [(c, c)] (by simp)
        · rw [List.concat_eq_append] at ho ⊢
          have hl : (spansN (o ++ [y])).length = o.length + 1 := by rw [spansN_len]; simp
          have ho2 : o.length + 1 ≤ c := by simpa using ho
          have hw : wrap64 (((spansN (o ++ [y])).length : Int) - 1) = (o.length : Int) := by rw [hl]; unfold wrap64; omega
          rw [if_pos (by omega), hw, if_pos (by omega), if_pos (by omega), rd_last, push_last, wrapN (x := (c : Int) - 1) (by omega) (by omega), Int.toNat_natCast, set_last]
          by_cases he : y.2 + 1 = c
          · rw [if_pos (show (y.2 : Int) = (c : Int) - 1 by omega), if_pos he]
            have := ih (o ++ [(y.1, c)]) (by simp; omega)
            rw [spansN_app] at this
            exact this
          · rw [if_neg (show ¬ (y.2 : Int) = (c : Int) - 1 by omega), if_neg he, if_pos (by omega)]
            have := ih (o ++ [y] ++ [(c, c)]) (by simp; omega)
            rw [spansN_app _ [(c, c)]] at this
            exact this
    · rw [decide_eq_false (by omega), if_neg (by decide)]
      have hin : inL (clsL cl) c = false := by
        cases h : inL (clsL cl) c with
        | false => rfl
        | true => have := in_char h7 h; omega
      rw [hin, if_neg (by decide)]
      exact hno
theorem cls_sep : ∀ cl : Fin 8, cl ≠ 7 → sep 0 (clsL cl) = true := by decide
theorem cls_top : ∀ cl : Fin 8, cl ≠ 7 → ∀ x ∈ clsL cl, x.2 < 65536 := by decide
theorem Spans_eq (k : Nat) (s : ByteArray) (hk : 131200 ≤ k) : motleyref02_Spans.f k s = chars_Spans.f s := by
  unfold motleyref02_Spans.f chars_Spans.f
  rw [IsClass_eq]
  simp only [Option.bind_some]
  cases h : clsOf s.data.toList with
  | none => rfl
  | some cl =>
    simp only [Option.isSome_some, if_true]
    have hl := clsOf_lit s cl h
    by_cases h7 : cl = 7
    · subst h7
      rw [ByteArray.toList_eq, if_pos hl]
      rfl
    · rw [ByteArray.toList_eq, if_neg (fun e => h7 (by
        have : clsOf s.data.toList = some 7 := by rw [e]; rfl
        rw [h] at this
        exact Option.some.inj this))]
      have := spans_l0 s cl h h7 65536 0 [] k (by omega) (by simp) (by omega)
      rw [scan_all _ 65536 (cls_sep cl h7) (cls_top cl h7)] at this
      exact this
theorem known_at : motleylaw02_known.f 60 = some true := by kernel_rfl
theorem known_eq (k : Nat) (hk : 60 ≤ k) : motleylaw02_known.f k = some true := at_rounds motleylaw02_known.mono hk known_at
theorem law_l0 (l : List S49) (hl : l.length ≤ 1000) : ∀ (d k i : Nat), i + d = l.length → d + 70 ≤ k → motleylaw02_CharsClasses.l0 k l l (i : Int) = some true
  | 0, k, i, hi, hk => by
    obtain ⟨k, rfl⟩ : ∃ j, k = j + 1 := ⟨k - 1, by omega⟩
    simp only [motleylaw02_CharsClasses.l0]
    rw [if_neg (by omega), known_eq k (by omega)]
    rfl
  | d + 1, k, i, hi, hk => by
    obtain ⟨k, rfl⟩ : ∃ j, k = j + 1 := ⟨k - 1, by omega⟩
    have hw : wrap64 ((i : Int) + 1) = ((i + 1 : Nat) : Int) := by unfold wrap64; omega
    simp only [motleylaw02_CharsClasses.l0]
    rw [if_pos (by omega), if_pos (by omega), if_pos (by omega), if_neg (by simp), hw]
    exact law_l0 l hl d k (i + 1) (by omega) (by omega)
theorem chars_Spans_some (s : ByteArray) : ∃ l e, chars_Spans.f s = some (l, e) ∧ l.length ≤ 31 := by
  unfold chars_Spans.f
  cases h : clsOf s.data.toList with
  | none => exact ⟨_, _, rfl, by simp⟩
  | some cl => exact ⟨_, _, rfl, by rw [spansN_len]; exact (cls_len cl).2.2.2⟩
theorem chars_Is_some (c : Int) (s : ByteArray) : ∃ b e, chars_Is.f c s = some (b, e) := by
  unfold chars_Is.f
  cases h : clsOf s.data.toList with
  | none => exact ⟨_, _, rfl⟩
  | some cl =>
    simp only
    split
    · exact ⟨_, _, rfl⟩
    · exact ⟨_, _, rfl⟩
end Go.Proofs.YtegapacamclipaaDoor.Q
namespace Go.Proofs.YtegapacamclipaaDoor.Pure
open Go.RowKit Go.Proofs.YtegapacamclipaaDoorW.PrintWords Go.Proofs.YtegapacamclipaaDoor.Cls Go.Proofs.YtegapacamclipaaDoor.C Go.Proofs.YtegapacamclipaaDoor.G Go.Proofs.YtegapacamclipaaDoor.M Go.Proofs.YtegapacamclipaaDoor.Q Go.Lib
theorem CharsClasses : M.motleylaw02_CharsClasses.Pure := by
  intro a0 a1 w0 w1
  obtain ⟨F, hF⟩ : ∃ F : Nat, F = 131300 := ⟨_, rfl⟩
  refine ⟨F + 2, ?_⟩
  unfold motleylaw02_CharsClasses.f
  obtain ⟨b, e, hI⟩ := chars_Is_some a0 a1
  obtain ⟨l, g, hS, hl⟩ := chars_Spans_some a1
  rw [Is_eq, Spans_eq _ _ (by omega), hI, hS]
  simp only [Option.bind_some]
  rw [if_neg (by simp), if_pos trivial, if_pos trivial]
  simp only [motleylaw02_CharsClasses.j0]
  rw [if_neg (by simp)]
  exact law_l0 l (by omega) l.length (F + 1) 0 (by omega) (by omega)
end Go.Proofs.YtegapacamclipaaDoor.Pure
