/- What both sides say of whole texts: valid, checked; and the known answers. Plain Lean. -/
import Derived.Test.YthdalpminhbckaaDoorPBase
import Derived.Test.YthdalpminhbckaaDoorM2
import Derived.Test.YthdalpminhbckaaDoorM1
set_option linter.unusedVariables false
set_option linter.unusedSimpArgs false
namespace Go.Proofs.YthdalpminhbckaaDoor.Q
open Go.RowKit Go.Proofs.YthdalpminhbckaaDoorW.PrintWords Go.Proofs.YthdalpminhbckaaDoor.Tx Go.Proofs.YthdalpminhbckaaDoor.G Go.Proofs.YthdalpminhbckaaDoor.M Go.Lib

def mk (l : List UInt8) : ByteArray := ⟨l.toArray⟩
theorem mk_list (l : List UInt8) : (mk l).data.toList = l := by simp [mk]
theorem mk_size (l : List UInt8) : (mk l).size = l.length := by rw [size_len, mk_list]
theorem mk_of (s : ByteArray) : mk s.data.toList = s := by cases s; simp [mk]
theorem ba_ext {a b : ByteArray} (h : a.data.toList = b.data.toList) : a = b := by rw [← mk_of a, ← mk_of b, h]
theorem toList_data (s : ByteArray) : s.toList = s.data.toList := by exact ByteArray.toList_eq s
theorem toList_mk (l : List UInt8) : (mk l).toList = l := by rw [toList_data, mk_list]
theorem ext_drop (s : ByteArray) (n : Nat) : (s.extract n s.size).data.toList = s.data.toList.drop n := by
  rw [Lib.extract_data, List.take_of_length_le]
  rw [List.length_drop, ← size_len]
  omega
theorem firstR_nil : firstR [] = (0, 0) := rfl
theorem firstR_bad {l : List UInt8} (h : bad l) : firstR l = (0, 0) := by unfold firstR; rw [if_pos (.inr h)]
theorem firstR_good {l : List UInt8} (e : l ≠ []) (h : ¬ bad l) : firstR l = (((dec l).1 : Int), ((dec l).2 : Int)) := by unfold firstR; rw [if_neg (by rintro (x | x); exact e x; exact h x)]
theorem ne_of_lt {s : ByteArray} {pos : Nat} (h : pos < s.size) : s.data.toList.drop pos ≠ [] := drop_ne h

theorem Valid_l0 (s : ByteArray) (hs : s.size ≤ 140737488351232) : ∀ (d pos k : Nat), pos ≤ s.size → s.size - pos ≤ d → d + 10 ≤ k →
    motleyref02_Valid.l0 k s (pos : Int) = some (((pos + valid (s.data.toList.drop pos) : Nat) : Int), decide (pos + valid (s.data.toList.drop pos) = s.size))
  | d, pos, k, hp, hd, hk => by
    obtain ⟨k, rfl⟩ : ∃ j, k = j + 1 := ⟨k - 1, by omega⟩
    simp only [motleyref02_Valid.l0]
    by_cases h : pos < s.size
    case neg =>
      have e : s.data.toList.drop pos = [] := List.drop_eq_nil_of_le (by rw [← size_len]; omega)
      rw [if_neg (by omega), e, valid_nil, decide_eq_true (by omega)]
      rfl
    rw [if_pos (by omega), if_pos (by omega), if_pos (by omega), Int.toNat_natCast]
    obtain ⟨j, rfl⟩ : ∃ j, k = j + 9 := ⟨k - 9, by omega⟩
    rw [first_eq, ext_drop]
    have ne := ne_of_lt h
    by_cases hb : bad (s.data.toList.drop pos)
    · rw [firstR_bad hb, valid_bad ne hb]
      simp only [Option.bind_some, if_true, Nat.add_zero]
      rw [decide_eq_false (by omega)]
    · rw [firstR_good ne hb, valid_cons ne hb]
      have hw := dec_width (s.data.toList.drop pos)
      have hf := dec_fits _ ne
      rw [List.length_drop, ← size_len] at hf
      simp only [Option.bind_some]
      rw [if_neg (by omega)]
      have e1 : wrap64 ((pos : Int) + ((dec (s.data.toList.drop pos)).2 : Int)) = ((pos + (dec (s.data.toList.drop pos)).2 : Nat) : Int) := by rw [wrap64_id (by omega) (by omega)]; omega
      cases d with
      | zero => omega
      | succ d =>
        rw [e1, Valid_l0 s hs d _ _ (by omega) (by omega) (by omega), List.drop_drop, Nat.add_assoc]
theorem Valid_eq (s : ByteArray) (hs : s.size ≤ 140737488351232) (k : Nat) (hk : s.size + 10 ≤ k) :
    motleyref02_Valid.f k s = some ((valid s.data.toList : Int), decide (valid s.data.toList = s.size)) := by
  unfold motleyref02_Valid.f
  have := Valid_l0 s hs s.size 0 k (by omega) (by omega) hk
  rw [List.drop_zero, Nat.zero_add] at this
  exact this

/-- The errors of a text. -/
def checkI (s : ByteArray) : Int := if s.size > 4096 then 3 else if valid s.data.toList = s.size then 0 else 2
theorem check0 {s : ByteArray} (h : checkI s = 0) : s.size ≤ 4096 ∧ valid s.data.toList = s.data.toList.length := by
  unfold checkI at h
  split at h
  · cases h
  · split at h
    · rename_i a b; rw [← size_len]; exact ⟨by omega, b⟩
    · cases h
theorem cValid_any (s : ByteArray) (h : s.size ≤ 140737488351232) : chars_Valid.f s = some ((valid s.data.toList : Int), decide (valid s.data.toList = s.size)) := by
  unfold chars_Valid.f
  rw [if_pos (by omega)]
  congr 2
  exact decide_eq_decide.2 (by omega)
theorem rAsked_eq (s : ByteArray) (k : Nat) (hk : 4200 ≤ k) : motleyref25_Asked.f k s = some (checkI s) := by
  unfold motleyref25_Asked.f checkI
  by_cases h : s.size > 4096
  · rw [if_pos (by omega), if_pos h]
  · rw [if_neg (by omega), if_neg h, Valid_eq s (by omega) k (by omega)]
    simp only [Option.bind_some, decide_eq_true_eq]
    by_cases h2 : valid s.data.toList = s.size
    · rw [if_pos h2, if_pos h2]
    · rw [if_neg h2, if_neg h2]
theorem dAsked_eq (s : ByteArray) : doc_asked.f s = some (checkI s) := by
  unfold doc_asked.f checkI
  by_cases h : s.size > 4096
  · rw [if_pos (by omega), if_pos h]
  · rw [if_neg (by omega), if_neg h, cValid_any s (by omega)]
    simp only [Option.bind_some, decide_eq_true_eq]
    by_cases h2 : valid s.data.toList = s.size
    · rw [if_pos h2, if_pos h2]
    · rw [if_neg h2, if_neg h2]
/-- The byte at a place, as a number. -/
def bN (s : ByteArray) (i : Nat) : Nat := (s.data.toList.getD i 0).toNat
theorem bt_N (s : ByteArray) (i : Nat) : bt s (i : Int) = ((bN s i : Nat) : Int) := bt_getD s i
theorem bN_lt (s : ByteArray) (i : Nat) : bN s i < 256 := byte_lt _ _
set_option maxRecDepth 100000 in
theorem dKnown_at : motleylaw25_known.f 200 = some true := by kernel_rfl
theorem dKnown_eq (k : Nat) (hk : 200 ≤ k) : motleylaw25_known.f k = some true := at_rounds motleylaw25_known.mono hk dKnown_at
end Go.Proofs.YthdalpminhbckaaDoor.Q
