/- What the reference's and the program's words on whole texts come to, in plain Lean: valid, checked, characters, written. -/
import Derived.Test.YtegapacamclipaaGreatDoorPBase
import Derived.Test.YtegapacamclipaaGreatDoorM1
import Derived.Test.YtegapacamclipaaGreatDoorM2
import Derived.Test.YtegapacamclipaaGreatDoorM3
set_option linter.unusedVariables false
set_option linter.unusedSimpArgs false
namespace Go.Proofs.YtegapacamclipaaGreatDoor.Q
open Go.RowKit Go.Proofs.YtegapacamclipaaGreatDoorW.PrintWords Go.Proofs.YtegapacamclipaaGreatDoor.Tx Go.Proofs.YtegapacamclipaaGreatDoor.G Go.Proofs.YtegapacamclipaaGreatDoor.M Go.Lib

def mk (l : List UInt8) : ByteArray := ⟨l.toArray⟩
theorem mk_list (l : List UInt8) : (mk l).data.toList = l := by simp [mk]
theorem mk_size (l : List UInt8) : (mk l).size = l.length := by rw [size_len, mk_list]
theorem mk_of (s : ByteArray) : mk s.data.toList = s := by cases s; simp [mk]
theorem ba_ext {a b : ByteArray} (h : a.data.toList = b.data.toList) : a = b := by rw [← mk_of a, ← mk_of b, h]
theorem toList_data (s : ByteArray) : s.toList = s.data.toList := by exact ByteArray.toList_eq s
theorem toList_mk (l : List UInt8) : (mk l).toList = l := by rw [toList_data, mk_list]
theorem ext_drop (s : ByteArray) (n : Nat) : (s.extract n s.size).data.toList = s.data.toList.drop n := by
  rw [Lib.extract_data, List.take_of_length_le]
  rw [List.length_drop, ← size_len]
  omega
theorem firstR_nil : firstR [] = (0, 0) := rfl
theorem firstR_bad {l : List UInt8} (h : bad l) : firstR l = (0, 0) := by unfold firstR; rw [if_pos (.inr h)]
theorem firstR_good {l : List UInt8} (e : l ≠ []) (h : ¬ bad l) : firstR l = (((dec l).1 : Int), ((dec l).2 : Int)) := by unfold firstR; rw [if_neg (by rintro (x | x); exact e x; exact h x)]
theorem ne_of_lt {s : ByteArray} {pos : Nat} (h : pos < s.size) : s.data.toList.drop pos ≠ [] := drop_ne h

theorem Valid_l0 (s : ByteArray) (hs : s.size ≤ 140737488351232) : ∀ (d pos k : Nat), pos ≤ s.size → s.size - pos ≤ d → d + 10 ≤ k →
    motleyref02_Valid.l0 k s (pos : Int) = some (((pos + valid (s.data.toList.drop pos) : Nat) : Int), decide (pos + valid (s.data.toList.drop pos) = s.size))
  | d, pos, k, hp, hd, hk => by
    obtain ⟨k, rfl⟩ : ∃ j, k = j + 1 := ⟨k - 1, by omega⟩
    simp only [motleyref02_Valid.l0]
    by_cases h : pos < s.size
    case neg =>
      have e : s.data.toList.drop pos = [] := List.drop_eq_nil_of_le (by rw [← size_len]; omega)
      rw [if_neg (by omega), e, valid_nil, decide_eq_true (by omega)]
      rfl
    rw [if_pos (by omega), if_pos (by omega), if_pos (by omega), Int.toNat_natCast]
    obtain ⟨j, rfl⟩ : ∃ j, k = j + 9 := ⟨k - 9, by omega⟩
    rw [first_eq, ext_drop]
    have ne := ne_of_lt h
    by_cases hb : bad (s.data.toList.drop pos)
    · rw [firstR_bad hb, valid_bad ne hb]
      simp only [Option.bind_some, if_true, Nat.add_zero]
      rw [decide_eq_false (by omega)]
    · rw [firstR_good ne hb, valid_cons ne hb]
      have hw := dec_width (s.data.toList.drop pos)
      have hf := dec_fits _ ne
      rw [List.length_drop, ← size_len] at hf
      simp only [Option.bind_some]
      rw [if_neg (by omega)]
      have e1 : wrap64 ((pos : Int) + ((dec (s.data.toList.drop pos)).2 : Int)) = ((pos + (dec (s.data.toList.drop pos)).2 : Nat) : Int) := by rw [wrap64_id (by omega) (by omega)]; omega
      cases d with
      | zero => omega
      | succ d =>
        rw [e1, Valid_l0 s hs d _ _ (by omega) (by omega) (by omega), List.drop_drop, Nat.add_assoc]
theorem Valid_eq (s : ByteArray) (hs : s.size ≤ 140737488351232) (k : Nat) (hk : s.size + 10 ≤ k) :
    motleyref02_Valid.f k s = some ((valid s.data.toList : Int), decide (valid s.data.toList = s.size)) := by
  unfold motleyref02_Valid.f
  have := Valid_l0 s hs s.size 0 k (by omega) (by omega) hk
  rw [List.drop_zero, Nat.zero_add] at this
  exact this

/-- The errors of a text. -/
def checkI (s : ByteArray) : Int := if s.size > 4096 then 3 else if valid s.data.toList = s.size then 0 else 2
theorem Checked_eq (s : ByteArray) (k : Nat) (hk : 4200 ≤ k) : motleyref02_Checked.f k s = some (checkI s) := by
  unfold motleyref02_Checked.f checkI
  by_cases h : s.size > 4096
  · rw [if_pos (by omega), if_pos h]
  · rw [if_neg (by omega), if_neg h, Valid_eq s (by omega) k (by omega)]
    simp only [Option.bind_some, decide_eq_true_eq]
    by_cases h2 : valid s.data.toList = s.size
    · rw [if_pos h2, if_pos h2]
    · rw [if_neg h2, if_neg h2]
theorem check0 {s : ByteArray} (h : checkI s = 0) : s.size ≤ 4096 ∧ valid s.data.toList = s.data.toList.length := by
  unfold checkI at h
  split at h
  · cases h
  · split at h
    · rename_i a b; rw [← size_len]; exact ⟨by omega, b⟩
    · cases h
theorem cValid_eq (s : ByteArray) (h : s.size ≤ 4096) : chars_Valid.f s = some ((valid s.data.toList : Int), decide (valid s.data.toList = s.size)) := by
  unfold chars_Valid.f
  rw [if_pos (by omega)]
  congr 2
  exact decide_eq_decide.2 (by omega)
theorem asked_one (s : ByteArray) (k : Nat) (hk : 10 ≤ k) : chars_asked.f k [s] = some (checkI s) := by
  obtain ⟨k, rfl⟩ : ∃ j, k = j + 2 := ⟨k - 2, by omega⟩
  unfold chars_asked.f checkI
  simp only [chars_asked.l0, List.length_singleton]
  rw [if_pos (by decide), if_pos (by decide), if_pos (by decide)]
  rw [show rdOf ByteArray.empty [s] 0 = s from rfl]
  by_cases h : s.size > 4096
  · rw [if_pos (by omega), if_pos h]
  · rw [if_neg (by omega), if_neg h, cValid_eq s (by omega)]
    simp only [Option.bind_some, decide_eq_true_eq]
    by_cases h2 : valid s.data.toList = s.size
    · rw [if_pos h2, if_pos h2, if_neg (show ¬ wrap64 (0 + 1) < ((1 : Nat) : Int) by rw [wrap64_id (by omega) (by omega)]; omega)]
    · rw [if_neg h2, if_neg h2]

theorem valid_drop {l : List UInt8} (e : l ≠ []) (h : valid l = l.length) : ¬ bad l ∧ valid (l.drop (dec l).2) = (l.drop (dec l).2).length := by
  have hb : ¬ bad l := fun hb => by
    rw [valid_bad e hb] at h
    exact e (List.eq_nil_of_length_eq_zero h.symm)
  have hf := dec_fits l e
  rw [valid_cons e hb] at h
  rw [List.length_drop]
  exact ⟨hb, by omega⟩
theorem Runes_l0 : ∀ (n : Nat) (s : ByteArray) (acc : List Int) (k : Nat), s.size ≤ n → valid s.data.toList = s.data.toList.length → n + 10 ≤ k → acc.length + n < 17592186044416 →
    motleyref02_Runes.l0 k s acc = some (acc ++ runes s.data.toList)
  | n, s, acc, k, hn, hv, hk, ha => by
    obtain ⟨k, rfl⟩ : ∃ j, k = j + 1 := ⟨k - 1, by omega⟩
    simp only [motleyref02_Runes.l0]
    by_cases h : 0 < s.size
    case neg =>
      have e : s.data.toList = [] := List.eq_nil_of_length_eq_zero (by rw [← size_len]; omega)
      rw [if_neg (by omega), e, runes_nil, List.append_nil]
    rw [if_pos (by omega)]
    obtain ⟨j, rfl⟩ : ∃ j, k = j + 9 := ⟨k - 9, by omega⟩
    have ne : s.data.toList ≠ [] := fun e => by rw [size_len, e] at h; exact absurd h (by simp)
    obtain ⟨hb, hv2⟩ := valid_drop ne hv
    rw [first_eq, firstR_good ne hb]
    have hw := dec_width s.data.toList
    have hf := dec_fits _ ne
    rw [← size_len] at hf
    simp only [Option.bind_some]
    rw [if_neg (by omega), if_pos (by omega), if_pos (by omega), if_pos (by omega), Int.toNat_natCast]
    cases n with
    | zero => omega
    | succ n =>
      have hz : (s.extract (dec s.data.toList).2 s.size).size ≤ n := by rw [size_len, ext_drop, List.length_drop, ← size_len]; omega
      rw [Runes_l0 n _ _ _ hz (by rw [ext_drop]; exact hv2) (by omega) (by rw [List.length_append]; simp only [List.length_singleton]; omega)]
      rw [ext_drop, runes_cons ne, List.append_assoc]
      rfl
theorem Runes_eq (s : ByteArray) (h : checkI s = 0) (k : Nat) (hk : 4200 ≤ k) : motleyref02_Runes.f k s = some (runes s.data.toList) := by
  obtain ⟨h1, h2⟩ := check0 h
  unfold motleyref02_Runes.f
  rw [Runes_l0 4096 s [] k h1 h2 (by omega) (by simp), List.nil_append]
theorem points_eq (s : ByteArray) (h : checkI s = 0) : chars_points.f s = some (runes s.data.toList) := by
  have := (check0 h).1
  unfold chars_points.f
  rw [if_pos (by omega)]

theorem one_eq (c : Int) (hc : chr c) : motleyref02_one.f c = some (mk (encodeRune c)) := by
  have h0 : 0 ≤ c ∧ c ≤ 1114111 := by unfold chr at hc; omega
  have hd : ∀ n : Int, Int.tdiv c n = c / n := fun n => Int.tdiv_eq_ediv_of_nonneg h0.1
  have hm : ∀ a n : Int, 0 ≤ a → Int.tmod a n = a % n := fun a n h => Int.tmod_eq_emod_of_nonneg h
  have u : ∀ x : Int, 0 ≤ x → x < 9223372036854775807 → wrap64 x = x := fun x h1 h2 => wrap64_id (by omega) (by omega)
  unfold motleyref02_one.f
  have go : ∀ a b : List Int, a = b → strOfNums a = mk (b.map fun x => x.toNat.toUInt8) := fun a b h => by rw [h]; rfl
  by_cases c1 : c < 128
  · rw [if_pos c1, encodeRune, encodeRuneZ_one h0.1 (by omega)]
    exact congrArg some (go _ _ (by rw [Int.emod_eq_of_lt h0.1 (by omega)]))
  rw [if_neg c1]
  by_cases c2 : c < 2048
  · rw [if_pos c2, encodeRune, encodeRuneZ_two (by omega) (by omega)]
    refine congrArg some (go _ _ ?_)
    rw [hd, hm _ _ h0.1, u (c / 64) (by omega) (by omega), u (192 + c / 64) (by omega) (by omega), u (128 + c % 64) (by omega) (by omega)]
    rw [Int.emod_eq_of_lt (by omega) (by omega), Int.emod_eq_of_lt (by omega) (by omega)]
  rw [if_neg c2]
  by_cases c3 : c < 65536
  · rw [if_pos c3, encodeRune, encodeRuneZ_three (by unfold chr at hc; omega)]
    refine congrArg some (go _ _ ?_)
    rw [hd, hd, hm _ _ h0.1, u (c / 64) (by omega) (by omega), u (c / 4096) (by omega) (by omega), hm _ _ (by omega), u (224 + c / 4096) (by omega) (by omega), u (128 + c / 64 % 64) (by omega) (by omega), u (128 + c % 64) (by omega) (by omega)]
    rw [Int.emod_eq_of_lt (by omega) (by omega), Int.emod_eq_of_lt (a := 128 + c / 64 % 64) (by omega) (by omega), Int.emod_eq_of_lt (a := 128 + c % 64) (by omega) (by omega)]
  rw [if_neg c3, encodeRune, encodeRuneZ_four (by omega) (by omega)]
  refine congrArg some (go _ _ ?_)
  rw [hd, hd, hd, hm _ _ h0.1, u (c / 64) (by omega) (by omega), u (c / 4096) (by omega) (by omega), u (c / 262144) (by omega) (by omega), hm _ _ (by omega), hm _ _ (by omega), u (240 + c / 262144) (by omega) (by omega), u (128 + c / 4096 % 64) (by omega) (by omega), u (128 + c / 64 % 64) (by omega) (by omega), u (128 + c % 64) (by omega) (by omega)]
  rw [Int.emod_eq_of_lt (by omega) (by omega), Int.emod_eq_of_lt (a := 128 + c / 4096 % 64) (by omega) (by omega), Int.emod_eq_of_lt (a := 128 + c / 64 % 64) (by omega) (by omega), Int.emod_eq_of_lt (a := 128 + c % 64) (by omega) (by omega)]

def ints (u : List UInt8) : List Int := u.map fun b => (b.toNat : Int)
theorem ints_append (a b : List UInt8) : ints (a ++ b) = ints a ++ ints b := by simp [ints]
theorem ints_length (a : List UInt8) : (ints a).length = a.length := by simp [ints]
theorem bytesOf_mk (u : List UInt8) : bytesOf (mk u) = ints u := by unfold bytesOf ints; rw [mk_list]
theorem str_ints (u : List UInt8) : strOfNums (ints u) = mk u := by
  apply ba_ext
  rw [strOfNums_data, mk_list, ints, List.map_map]
  conv => rhs; rw [← List.map_id u]
  congr 1
  funext b
  simp
theorem rd_nat (l : List Int) (i : Nat) : rd l (i : Int) = l.getD i 0 := by rw [rd, Int.toNat_natCast]
theorem ctext_eq (l : List Int) (hc : allChr l) (hl : l.length ≤ 1000000000) : chars_text.f l = some (mk (enc l)) := by
  unfold chars_text.f
  rw [if_pos ⟨hc, by omega⟩]
  rfl
theorem runes_all (s : List UInt8) : allChr (runes s) := fun c hc => runes_chr s c hc
theorem enc_runes' {s : ByteArray} (h : checkI s = 0) : mk (enc (runes s.data.toList)) = s := by
  rw [enc_runes _ _ (Nat.le_refl _) (check0 h).2, mk_of]
theorem runes_le {s : ByteArray} (h : checkI s = 0) : (runes s.data.toList).length ≤ 4096 := by
  have h1 := (check0 h).1
  have h2 := runes_length s.data.toList
  rw [← size_len] at h2
  omega
/-- What the texts made of characters come to when they may be too long. -/
def sizeR (u : List UInt8) : ByteArray × Int := if u.length > 4096 then (mk [], 3) else (mk u, 0)
theorem csized_eq (u : List UInt8) : chars_sized.f (mk u) = some (sizeR u) := by
  unfold chars_sized.f sizeR
  rw [mk_size]
  by_cases h : u.length > 4096
  · rw [if_pos (by omega), if_pos h]; rfl
  · rw [if_neg (by omega), if_neg h]
theorem rsized_eq (u : List UInt8) : motleyref02_sized.f (mk u) = some (sizeR u) := by
  unfold motleyref02_sized.f sizeR
  rw [mk_size]
  by_cases h : u.length > 4096
  · rw [if_pos (by omega), if_pos h]; rfl
  · rw [if_neg (by omega), if_neg h]
theorem check_enc {l : List Int} (hc : allChr l) (h : (enc l).length ≤ 4096) : checkI (mk (enc l)) = 0 := by
  unfold checkI
  rw [mk_size, mk_list, if_neg (by omega), if_pos (runes_enc l hc).2]
theorem sizeR_small {u : List UInt8} (h : u.length ≤ 4096) : sizeR u = (mk u, 0) := by unfold sizeR; rw [if_neg (by omega)]
theorem sizeR_runes {s : ByteArray} (h : checkI s = 0) : sizeR (enc (runes s.data.toList)) = (s, 0) := by
  have e := enc_runes' h
  have e2 : (enc (runes s.data.toList)).length = s.size := by rw [← mk_size, e]
  rw [sizeR_small (by rw [e2]; exact (check0 h).1), e]
set_option maxRecDepth 100000 in
theorem known_at : motleylaw02_known.f 60 = some true := by kernel_rfl
theorem known_eq (k : Nat) (hk : 60 ≤ k) : motleylaw02_known.f k = some true := at_rounds motleylaw02_known.mono hk known_at
end Go.Proofs.YtegapacamclipaaGreatDoor.Q
