/- The plain law of CharsTurns: what it computes is true. -/
import Derived.Test.YtegapacamclipaaDoorPText
import Derived.Test.YtegapacamclipaaDoorM13
set_option linter.unusedVariables false
set_option linter.unusedSimpArgs false
namespace Go.Proofs.YtegapacamclipaaDoor.Q
open Go.RowKit Go.Proofs.YtegapacamclipaaDoorW.PrintWords Go.Proofs.YtegapacamclipaaDoor.Tx Go.Proofs.YtegapacamclipaaDoor.G Go.Proofs.YtegapacamclipaaDoor.M Go.Lib

theorem set_split (a m b : List Int) (x y z : Int) : ((a ++ x :: m ++ y :: b).set a.length z) = a ++ z :: m ++ y :: b := by
  rw [List.append_assoc, List.set_append_right _ _ (Nat.le_refl _), Nat.sub_self, List.append_assoc]
  rfl
theorem Reverse_l0 : ∀ (n : Nat) (a m b : List Int) (k : Nat), m.length ≤ n → n < k → a.length = b.length → a.length + m.length + b.length ≤ 1000000000 →
    slices_Reverse_int_int.l0 k (a ++ m ++ b) (a.length : Int) ((a.length : Int) + (m.length : Int) - 1) = some (a ++ m.reverse ++ b)
  | n, a, m, b, k, hn, hk, hab, hl => by
    obtain ⟨k, rfl⟩ : ∃ j, k = j + 1 := ⟨k - 1, by omega⟩
    simp only [slices_Reverse_int_int.l0]
    by_cases h : m.length ≤ 1
    · rw [if_neg (by omega)]
      match m, h with
      | [], _ => rfl
      | [x], _ => rfl
    · rw [if_pos (by omega)]
      obtain ⟨x, m', y, rfl⟩ : ∃ x m' y, m = x :: (m' ++ [y]) := by
        match m, h with
        | x :: r, h =>
          have hr : r ≠ [] := fun e => h (by rw [e]; simp)
          exact ⟨x, r.dropLast, r.getLast hr, by rw [List.dropLast_concat_getLast hr]⟩
      simp only [List.length_cons, List.length_append, List.length_nil] at h hn hl ⊢
      rw [if_pos (by omega), if_pos (by omega), if_pos (by omega), if_pos (by omega)]
      have e1 : ((a.length : Int)).toNat = a.length := Int.toNat_natCast _
      have e2 : ((a.length : Int) + ((m'.length + (0 + 1) + 1 : Nat) : Int) - 1).toNat = a.length + (m'.length + 1) := by omega
      have r1 : rd (a ++ x :: (m' ++ [y]) ++ b) (a.length : Int) = x := by
        rw [rd_nat, List.append_assoc, List.getD_eq_getElem?_getD, List.getElem?_append_right (Nat.le_refl _), Nat.sub_self]
        rfl
      have r2 : rd (a ++ x :: (m' ++ [y]) ++ b) ((a.length : Int) + ((m'.length + (0 + 1) + 1 : Nat) : Int) - 1) = y := by
        rw [show (a.length : Int) + ((m'.length + (0 + 1) + 1 : Nat) : Int) - 1 = ((a.length + (m'.length + 1) : Nat) : Int) by omega, rd_nat, List.append_assoc, List.getD_eq_getElem?_getD, List.getElem?_append_right (by omega)]
        rw [show a.length + (m'.length + 1) - a.length = m'.length + 1 by omega]
        simp only [List.cons_append, List.getElem?_cons_succ, List.append_assoc]
        rw [List.getElem?_append_right (Nat.le_refl _), Nat.sub_self]
        rfl
      rw [r1, r2, e1, e2]
      have s1 : ((a ++ x :: (m' ++ [y]) ++ b).set a.length y).set (a.length + (m'.length + 1)) x = (a ++ [y]) ++ m' ++ (x :: b) := by
        rw [List.append_assoc, List.set_append_right _ _ (Nat.le_refl _), Nat.sub_self, List.set_append_right _ _ (by omega)]
        rw [show a.length + (m'.length + 1) - a.length = m'.length + 1 by omega]
        simp only [List.cons_append, List.set_cons_zero, List.set_cons_succ, List.append_assoc]
        rw [List.set_append_right _ _ (Nat.le_refl _), Nat.sub_self]
        simp
      rw [s1]
      have w1 : wrap64 ((a.length : Int) + 1) = ((a ++ [y]).length : Int) := by rw [wrap64_id (by omega) (by omega), List.length_append]; simp
      have w2 : wrap64 ((a.length : Int) + ((m'.length + (0 + 1) + 1 : Nat) : Int) - 1 - 1) = ((a ++ [y]).length : Int) + (m'.length : Int) - 1 := by rw [wrap64_id (by omega) (by omega), List.length_append]; simp; omega
      rw [w1, w2]
      cases n with
      | zero => omega
      | succ n =>
        rw [Reverse_l0 n (a ++ [y]) m' (x :: b) k (by omega) (by omega) (by simp; omega) (by simp; omega)]
        simp
theorem Reverse_eq (l : List Int) (hl : l.length ≤ 1000000000) (k : Nat) (hk : l.length < k) : slices_Reverse_int_int.f k l = some l.reverse := by
  unfold slices_Reverse_int_int.f
  have := Reverse_l0 l.length [] l [] k (Nat.le_refl _) hk rfl (by simp; omega)
  rw [wrap64_id (by omega) (by omega)]
  simpa using this
theorem rReverse_l0 (l : List Int) (hc : allChr l) (hl : l.length ≤ 1000000) : ∀ (i k : Nat), i ≤ l.length → l.length + i + 1 < k →
    motleyref02_Reverse.l0 k l ((l.drop i).reverse) ((i : Int) - 1) = some (mk (enc l.reverse), 0)
  | 0, k, hi, hk => by
    obtain ⟨k, rfl⟩ : ∃ j, k = j + 1 := ⟨k - 1, by omega⟩
    simp only [motleyref02_Reverse.l0]
    rw [if_neg (by omega), List.drop_zero, Write_eq _ (fun c h => hc c (List.mem_reverse.1 h)) (by rw [List.length_reverse]; omega) k (by rw [List.length_reverse]; omega)]
    rfl
  | i + 1, k, hi, hk => by
    obtain ⟨k, rfl⟩ : ∃ j, k = j + 1 := ⟨k - 1, by omega⟩
    simp only [motleyref02_Reverse.l0]
    have h1 : i < l.length := by omega
    have e : ((i + 1 : Nat) : Int) - 1 = (i : Int) := by omega
    rw [e, if_pos (by omega), if_pos (by omega), if_pos (by omega), if_pos (by rw [List.length_reverse, List.length_drop]; omega)]
    have e1 : wrap64 ((i : Int) - 1) = (i : Int) - 1 := wrap64_id (by omega) (by omega)
    have e2 : (l.drop (i + 1)).reverse ++ [rd l (i : Int)] = (l.drop i).reverse := by
      rw [rd_nat, List.drop_eq_getElem_cons h1, List.reverse_cons, List.getD_eq_getElem?_getD, List.getElem?_eq_getElem h1]
      rfl
    rw [e1, e2]
    exact rReverse_l0 l hc hl i k (by omega) (by omega)
theorem runes_rev (s : ByteArray) : allChr (runes s.data.toList).reverse := fun c h => runes_all s.data.toList c (List.mem_reverse.1 h)
def revR (s : ByteArray) : ByteArray × Int := if checkI s = 0 then (mk (enc (runes s.data.toList).reverse), 0) else (mk [], checkI s)
theorem enc_rev_len (l : List Int) : (enc l.reverse).length = (enc l).length := by
  induction l with
  | nil => rfl
  | cons c l ih =>
    rw [List.reverse_cons, enc_append, List.length_append, ih, enc_cons, enc_cons, List.length_append, List.length_append, enc_nil, List.length_nil]
    omega
theorem rev_len {s : ByteArray} (h : checkI s = 0) : (enc (runes s.data.toList).reverse).length ≤ 4096 := by
  rw [enc_rev_len]
  have e := enc_runes' h
  rw [← mk_size, e]
  exact (check0 h).1
theorem rRev_eq (s : ByteArray) (k : Nat) (hk : 10000 ≤ k) : motleyref02_Reverse.f k s = some (revR s) := by
  unfold motleyref02_Reverse.f revR
  rw [Checked_eq s k (by omega)]
  simp only [Option.bind_some]
  by_cases h : checkI s = 0
  · have hl := runes_le h
    rw [if_pos h, if_pos h, Runes_eq s h k (by omega)]
    simp only [Option.bind_some]
    rw [wrap64_id (by omega) (by omega)]
    have := rReverse_l0 (runes s.data.toList) (runes_all _) (by omega) (runes s.data.toList).length k (Nat.le_refl _) (by omega)
    rw [List.drop_length] at this
    exact this
  · rw [if_neg h, if_neg h]; rfl
theorem cRev_eq (s : ByteArray) (k : Nat) (hk : 10000 ≤ k) : chars_Reverse.f k s = some (revR s) := by
  unfold chars_Reverse.f revR
  rw [asked_one s k (by omega)]
  simp only [Option.bind_some]
  by_cases h : checkI s = 0
  · have hl := runes_le h
    rw [if_pos h, if_pos h, points_eq s h]
    simp only [Option.bind_some]
    rw [Reverse_eq _ (by omega) k (by omega)]
    simp only [Option.bind_some]
    rw [ctext_eq _ (runes_rev s) (by rw [List.length_reverse]; omega)]
    simp only [Option.bind_some]
    rw [csized_eq, sizeR_small (rev_len h)]
    rfl
  · rw [if_neg h, if_neg h]; rfl
end Go.Proofs.YtegapacamclipaaDoor.Q
namespace Go.Proofs.YtegapacamclipaaDoor.Pure
open Go.RowKit Go.Proofs.YtegapacamclipaaDoorW.PrintWords Go.Proofs.YtegapacamclipaaDoor.Tx Go.Proofs.YtegapacamclipaaDoor.G Go.Proofs.YtegapacamclipaaDoor.M Go.Proofs.YtegapacamclipaaDoor.Q Go.Lib
theorem CharsTurns : motleylaw02_CharsTurns.Pure := by
  intro s hs
  refine ⟨30000, ?_⟩
  unfold motleylaw02_CharsTurns.f
  by_cases hz : s.size > 20000
  · rw [if_pos (by omega), known_eq _ (by omega)]; rfl
  rw [if_neg (by omega), rRev_eq s _ (by omega), cRev_eq s _ (by omega)]
  simp only [Option.bind_some, if_true, bne_self_eq_false, motleylaw02_CharsTurns.j0, Bool.false_eq_true, if_false]
  rw [cRev_eq _ 29999 (by omega), known_eq 29999 (by omega)]
  simp only [Option.bind_some]
  unfold revR
  by_cases h : checkI s = 0
  · simp only [if_pos h, if_true]
    rw [if_pos (check_enc (runes_rev s) (rev_len h))]
    simp only [if_true, mk_list, (runes_enc _ (runes_rev s)).1, List.reverse_reverse, enc_runes' h]
  · simp only [if_neg h]
end Go.Proofs.YtegapacamclipaaDoor.Pure
