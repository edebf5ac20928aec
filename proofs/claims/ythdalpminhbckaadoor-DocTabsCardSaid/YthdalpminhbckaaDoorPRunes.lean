/- doc: the characters of a text, and the text of characters, as the reference has them. Plain Lean. -/
import Derived.Test.YthdalpminhbckaaDoorPDoc
import Derived.Test.YthdalpminhbckaaDoorM2
set_option linter.unusedVariables false
set_option linter.unusedSimpArgs false
namespace Go.Proofs.YthdalpminhbckaaDoor.Q
open Go.RowKit Go.Proofs.YthdalpminhbckaaDoorW.PrintWords Go.Proofs.YthdalpminhbckaaDoor.Tx Go.Proofs.YthdalpminhbckaaDoor.G Go.Proofs.YthdalpminhbckaaDoor.M Go.Lib

theorem enc_take_succ (l : List Int) (k : Nat) (h : k < l.length) : enc (l.take (k + 1)) = enc (l.take k) ++ encodeRune (l.getD k 0) := by
  rw [List.take_succ_eq_append_getElem h, enc_append, enc_cons, enc_nil, List.append_nil, List.getD_eq_getElem?_getD, List.getElem?_eq_getElem h]
  rfl
def allChr (l : List Int) : Prop := ∀ c ∈ l, chr c
theorem allChr_at {l : List Int} (h : allChr l) (k : Nat) (hk : k < l.length) : chr (l.getD k 0) := by
  rw [List.getD_eq_getElem?_getD, List.getElem?_eq_getElem hk]
  exact h _ (List.getElem_mem hk)
theorem valid_drop {l : List UInt8} (e : l ≠ []) (h : valid l = l.length) : ¬ bad l ∧ valid (l.drop (dec l).2) = (l.drop (dec l).2).length := by
  have hb : ¬ bad l := fun hb => by
    rw [valid_bad e hb] at h
    exact e (List.eq_nil_of_length_eq_zero h.symm)
  have hf := dec_fits l e
  rw [valid_cons e hb] at h
  rw [List.length_drop]
  exact ⟨hb, by omega⟩
theorem Runes_l0 : ∀ (n : Nat) (s : ByteArray) (acc : List Int) (k : Nat), s.size ≤ n → valid s.data.toList = s.data.toList.length → n + 10 ≤ k → acc.length + n < 17592186044416 →
    motleyref02_Runes.l0 k s acc = some (acc ++ runes s.data.toList)
  | n, s, acc, k, hn, hv, hk, ha => by
    obtain ⟨k, rfl⟩ : ∃ j, k = j + 1 := ⟨k - 1, by omega⟩
    simp only [motleyref02_Runes.l0]
    by_cases h : 0 < s.size
    case neg =>
      have e : s.data.toList = [] := List.eq_nil_of_length_eq_zero (by rw [← size_len]; omega)
      rw [if_neg (by omega), e, runes_nil, List.append_nil]
    rw [if_pos (by omega)]
    obtain ⟨j, rfl⟩ : ∃ j, k = j + 9 := ⟨k - 9, by omega⟩
    have ne : s.data.toList ≠ [] := fun e => by rw [size_len, e] at h; exact absurd h (by simp)
    obtain ⟨hb, hv2⟩ := valid_drop ne hv
    rw [first_eq, firstR_good ne hb]
    have hw := dec_width s.data.toList
    have hf := dec_fits _ ne
    rw [← size_len] at hf
    simp only [Option.bind_some]
    rw [if_neg (by omega), if_pos (by omega), if_pos (by omega), if_pos (by omega), Int.toNat_natCast]
    cases n with
    | zero => omega
    | succ n =>
      have hz : (s.extract (dec s.data.toList).2 s.size).size ≤ n := by rw [size_len, ext_drop, List.length_drop, ← size_len]; omega
      rw [Runes_l0 n _ _ _ hz (by rw [ext_drop]; exact hv2) (by omega) (by rw [List.length_append]; simp only [List.length_singleton]; omega)]
      rw [ext_drop, runes_cons ne, List.append_assoc]
      rfl
theorem Runes_eq (s : ByteArray) (h : checkI s = 0) (k : Nat) (hk : 4200 ≤ k) : motleyref02_Runes.f k s = some (runes s.data.toList) := by
  obtain ⟨h1, h2⟩ := check0 h
  unfold motleyref02_Runes.f
  rw [Runes_l0 4096 s [] k h1 h2 (by omega) (by simp), List.nil_append]
theorem one_eq (c : Int) (hc : chr c) : motleyref02_one.f c = some (mk (encodeRune c)) := by
  have h0 : 0 ≤ c ∧ c ≤ 1114111 := by unfold chr at hc; omega
  have hd : ∀ n : Int, Int.tdiv c n = c / n := fun n => Int.tdiv_eq_ediv_of_nonneg h0.1
  have hm : ∀ a n : Int, 0 ≤ a → Int.tmod a n = a % n := fun a n h => Int.tmod_eq_emod_of_nonneg h
  have u : ∀ x : Int, 0 ≤ x → x < 9223372036854775807 → wrap64 x = x := fun x h1 h2 => wrap64_id (by omega) (by omega)
  unfold motleyref02_one.f
  have go : ∀ a b : List Int, a = b → strOfNums a = mk (b.map fun x => x.toNat.toUInt8) := fun a b h => by rw [h]; rfl
  by_cases c1 : c < 128
  · rw [if_pos c1, encodeRune, encodeRuneZ_one h0.1 (by omega)]
    exact congrArg some (go _ _ (by rw [Int.emod_eq_of_lt h0.1 (by omega)]))
  rw [if_neg c1]
  by_cases c2 : c < 2048
  · rw [if_pos c2, encodeRune, encodeRuneZ_two (by omega) (by omega)]
    refine congrArg some (go _ _ ?_)
    rw [hd, hm _ _ h0.1, u (c / 64) (by omega) (by omega), u (192 + c / 64) (by omega) (by omega), u (128 + c % 64) (by omega) (by omega)]
    rw [Int.emod_eq_of_lt (by omega) (by omega), Int.emod_eq_of_lt (by omega) (by omega)]
  rw [if_neg c2]
  by_cases c3 : c < 65536
  · rw [if_pos c3, encodeRune, encodeRuneZ_three (by unfold chr at hc; omega)]
    refine congrArg some (go _ _ ?_)
    rw [hd, hd, hm _ _ h0.1, u (c / 64) (by omega) (by omega), u (c / 4096) (by omega) (by omega), hm _ _ (by omega), u (224 + c / 4096) (by omega) (by omega), u (128 + c / 64 % 64) (by omega) (by omega), u (128 + c % 64) (by omega) (by omega)]
    rw [Int.emod_eq_of_lt (by omega) (by omega), Int.emod_eq_of_lt (a := 128 + c / 64 % 64) (by omega) (by omega), Int.emod_eq_of_lt (a := 128 + c % 64) (by omega) (by omega)]
  rw [if_neg c3, encodeRune, encodeRuneZ_four (by omega) (by omega)]
  refine congrArg some (go _ _ ?_)
  rw [hd, hd, hd, hm _ _ h0.1, u (c / 64) (by omega) (by omega), u (c / 4096) (by omega) (by omega), u (c / 262144) (by omega) (by omega), hm _ _ (by omega), hm _ _ (by omega), u (240 + c / 262144) (by omega) (by omega), u (128 + c / 4096 % 64) (by omega) (by omega), u (128 + c / 64 % 64) (by omega) (by omega), u (128 + c % 64) (by omega) (by omega)]
  rw [Int.emod_eq_of_lt (by omega) (by omega), Int.emod_eq_of_lt (a := 128 + c / 4096 % 64) (by omega) (by omega), Int.emod_eq_of_lt (a := 128 + c / 64 % 64) (by omega) (by omega), Int.emod_eq_of_lt (a := 128 + c % 64) (by omega) (by omega)]

def ints (u : List UInt8) : List Int := u.map fun b => (b.toNat : Int)
theorem ints_append (a b : List UInt8) : ints (a ++ b) = ints a ++ ints b := by simp [ints]
theorem ints_length (a : List UInt8) : (ints a).length = a.length := by simp [ints]
theorem bytesOf_mk (u : List UInt8) : bytesOf (mk u) = ints u := by unfold bytesOf ints; rw [mk_list]
theorem str_ints (u : List UInt8) : strOfNums (ints u) = mk u := by
  apply ba_ext
  rw [strOfNums_data, mk_list, ints, List.map_map]
  conv => rhs; rw [← List.map_id u]
  congr 1
  funext b
  simp
theorem rd_nat (l : List Int) (i : Nat) : rd l (i : Int) = l.getD i 0 := by rw [rd, Int.toNat_natCast]
theorem Write_l0 (l : List Int) (hc : allChr l) (hl : l.length ≤ 1000000000) : ∀ (d k i : Nat), i + d = l.length → d < k →
    motleyref02_Write.l0 k l (ints (enc (l.take i))) (i : Int) = some (mk (enc l))
  | 0, k, i, hi, hk => by
    obtain ⟨k, rfl⟩ : ∃ j, k = j + 1 := ⟨k - 1, by omega⟩
    simp only [motleyref02_Write.l0]
    rw [if_neg (by omega), List.take_of_length_le (by omega), str_ints]
  | d + 1, k, i, hi, hk => by
    obtain ⟨k, rfl⟩ : ∃ j, k = j + 1 := ⟨k - 1, by omega⟩
    simp only [motleyref02_Write.l0]
    have h1 := enc_length (l.take i)
    have h2 := encodeRune_length (l.getD i 0)
    have h3 : (l.take i).length = i := by rw [List.length_take]; omega
    rw [if_pos (by omega), if_pos (by omega), rd_nat, one_eq _ (allChr_at hc i (by omega))]
    simp only [Option.bind_some]
    rw [if_pos (by rw [ints_length, mk_size]; omega), bytesOf_mk, ← ints_append, ← enc_take_succ l i (by omega)]
    have e1 : wrap64 ((i : Int) + 1) = ((i + 1 : Nat) : Int) := by rw [wrap64_id (by omega) (by omega)]; omega
    rw [e1, Write_l0 l hc hl d k (i + 1) (by omega) (by omega)]
theorem Write_eq (l : List Int) (hc : allChr l) (hl : l.length ≤ 1000000000) (k : Nat) (hk : l.length < k) : motleyref02_Write.f k l = some (mk (enc l)) := by
  unfold motleyref02_Write.f
  exact Write_l0 l hc hl l.length k 0 (by omega) hk
theorem runes_all (s : List UInt8) : allChr (runes s) := fun c hc => runes_chr s c hc
theorem enc_runes' {s : ByteArray} (h : checkI s = 0) : mk (enc (runes s.data.toList)) = s := by
  rw [enc_runes _ _ (Nat.le_refl _) (check0 h).2, mk_of]
theorem runes_le {s : ByteArray} (h : checkI s = 0) : (runes s.data.toList).length ≤ 4096 := by
  have h1 := (check0 h).1
  have h2 := runes_length s.data.toList
  rw [← size_len] at h2
  omega
/-- What the texts made of characters come to when they may be too long. -/
def sizeR (u : List UInt8) : ByteArray × Int := if u.length > 4096 then (mk [], 3) else (mk u, 0)
end Go.Proofs.YthdalpminhbckaaDoor.Q
