/- Plain facts on bytes and characters, no program in them: reading a character, writing one, and that the two undo each other. -/
import Derived.Lib.DecodeN
import Derived.Lib.RuneBytes
import Derived.Lib.RuneCount
set_option linter.unusedVariables false
set_option linter.unusedSimpArgs false
namespace Go.Proofs.YtegapacamclipaaGreatDoor.Tx
open Go Go.Lib

/-- The character at the begin of a list of bytes, and its width. -/
def dec (l : List UInt8) : Nat × Nat := decodeN l.length (l.getD 0 0).toNat (l.getD 1 0).toNat (l.getD 2 0).toNat (l.getD 3 0).toNat

theorem get!_drop (s : ByteArray) (i k : Nat) : s.get! (i + k) = (s.data.toList.drop i).getD k 0 := by
  obtain ⟨d⟩ := s
  rw [List.getD_eq_getElem?_getD, List.getElem?_drop]
  show d[i + k]! = _
  rw [getElem!_def]
  rw [← Array.getElem?_toList]
  cases d.toList[i + k]? <;> rfl
theorem size_len (s : ByteArray) : s.size = s.data.toList.length := by
  obtain ⟨d⟩ := s
  simp [ByteArray.size]
theorem dec_eq (s : ByteArray) (i : Nat) : Utf8.decode s i = dec (s.data.toList.drop i) := by
  rw [decode_at, dec, List.length_drop, ← size_len]
  rw [show s.get! i = s.get! (i + 0) from rfl, get!_drop, get!_drop, get!_drop, get!_drop]

/-- No character stands at the begin. -/
def bad (l : List UInt8) : Prop := (dec l).1 = 65533 ∧ (dec l).2 = 1
instance (l : List UInt8) : Decidable (bad l) := by unfold bad; exact inferInstance

theorem byte_lt (l : List UInt8) (k : Nat) : (l.getD k 0).toNat < 256 := (l.getD k 0).toNat_lt

def chr (c : Int) : Prop := (0 ≤ c ∧ c < 55296) ∨ (57343 < c ∧ c ≤ 1114111)

set_option maxHeartbeats 2000000 in
theorem dec_width (l : List UInt8) : 1 ≤ (dec l).2 ∧ (dec l).2 ≤ 4 := by
  unfold dec decodeN
  repeat' split
  all_goals simp
theorem dec_fits (l : List UInt8) (h : l ≠ []) : (dec l).2 ≤ l.length := by
  have hl : 1 ≤ l.length := by cases l <;> simp_all
  unfold dec decodeN
  repeat' split
  all_goals (simp only; omega)
theorem dec_small (l : List UInt8) : (dec l).1 ≤ 1114111 := by
  have h0 := byte_lt l 0; have h1 := byte_lt l 1; have h2 := byte_lt l 2; have h3 := byte_lt l 3
  unfold dec
  generalize (l.getD 0 0).toNat = a at *
  generalize (l.getD 1 0).toNat = b at *
  generalize (l.getD 2 0).toNat = c at *
  generalize (l.getD 3 0).toNat = d at *
  unfold decodeN
  repeat' split
  all_goals (simp only; omega)
theorem dec_chr (l : List UInt8) : chr (dec l).1 := by
  have h0 := byte_lt l 0; have h1 := byte_lt l 1; have h2 := byte_lt l 2; have h3 := byte_lt l 3
  unfold dec chr
  generalize (l.getD 0 0).toNat = a at *
  generalize (l.getD 1 0).toNat = b at *
  generalize (l.getD 2 0).toNat = c at *
  generalize (l.getD 3 0).toNat = d at *
  unfold decodeN
  repeat' split
  all_goals (simp only; omega)

/-! ### the characters of a text -/
def runesF : Nat → List UInt8 → List Int
  | 0, _ => []
  | f + 1, l => if l = [] then [] else ((dec l).1 : Int) :: runesF f (l.drop (dec l).2)
def runes (l : List UInt8) : List Int := runesF l.length l
theorem runesF_more : ∀ f l, l.length ≤ f → runesF f l = runesF l.length l
  | 0, l, h => by
    have : l = [] := List.eq_nil_of_length_eq_zero (by omega)
    subst this; rfl
  | f + 1, l, h => by
    by_cases e : l = []
    · subst e; simp [runesF]
    · have hl : 1 ≤ l.length := by cases l <;> simp_all
      obtain ⟨n, hn⟩ : ∃ n, l.length = n + 1 := ⟨l.length - 1, by omega⟩
      rw [hn]
      simp only [runesF, if_neg e]
      have hw := dec_width l
      have hd : (l.drop (dec l).2).length ≤ n := by rw [List.length_drop]; omega
      have hd2 : (l.drop (dec l).2).length ≤ f := by omega
      rw [runesF_more f _ hd2, runesF_more n _ hd]
theorem runes_nil : runes [] = [] := rfl
theorem runes_cons {l : List UInt8} (e : l ≠ []) : runes l = ((dec l).1 : Int) :: runes (l.drop (dec l).2) := by
  have hl : 1 ≤ l.length := by cases l <;> simp_all
  obtain ⟨n, hn⟩ : ∃ n, l.length = n + 1 := ⟨l.length - 1, by omega⟩
  unfold runes
  rw [hn]
  simp only [runesF, if_neg e]
  have hw := dec_width l
  have hd : (l.drop (dec l).2).length ≤ n := by rw [List.length_drop]; omega
  rw [runesF_more n _ hd]
theorem runesF_length : ∀ f l, (runesF f l).length ≤ f
  | 0, _ => by simp [runesF]
  | f + 1, l => by
    have ih := runesF_length f (l.drop (dec l).2)
    simp only [runesF]
    split
    · simp
    · simp; omega
theorem runes_length (l : List UInt8) : (runes l).length ≤ l.length := runesF_length _ _
theorem runesF_chr : ∀ f l, ∀ c ∈ runesF f l, chr c
  | 0, _, c, h => by simp [runesF] at h
  | f + 1, l, c, h => by
    simp only [runesF] at h
    split at h
    · simp at h
    · rcases List.mem_cons.1 h with rfl | h
      · exact dec_chr l
      · exact runesF_chr f _ c h
theorem runes_chr (l : List UInt8) : ∀ c ∈ runes l, chr c := runesF_chr _ _

/-- How many bytes at the begin are characters. -/
def pre : Nat → List UInt8 → Nat
  | 0, _ => 0
  | f + 1, l => if l = [] then 0 else if bad l then 0 else (dec l).2 + pre f (l.drop (dec l).2)
def valid (l : List UInt8) : Nat := pre l.length l
theorem pre_more : ∀ f l, l.length ≤ f → pre f l = pre l.length l
  | 0, l, h => by
    have : l = [] := List.eq_nil_of_length_eq_zero (by omega)
    subst this; rfl
  | f + 1, l, h => by
    by_cases e : l = []
    · subst e; simp [pre]
    · have hl : 1 ≤ l.length := by cases l <;> simp_all
      obtain ⟨n, hn⟩ : ∃ n, l.length = n + 1 := ⟨l.length - 1, by omega⟩
      rw [hn]
      simp only [pre, if_neg e]
      have hw := dec_width l
      have hd : (l.drop (dec l).2).length ≤ n := by rw [List.length_drop]; omega
      have hd2 : (l.drop (dec l).2).length ≤ f := by omega
      rw [pre_more f _ hd2, pre_more n _ hd]
theorem valid_nil : valid [] = 0 := rfl
theorem valid_bad {l : List UInt8} (e : l ≠ []) (h : bad l) : valid l = 0 := by
  have hl : 1 ≤ l.length := by cases l <;> simp_all
  obtain ⟨n, hn⟩ : ∃ n, l.length = n + 1 := ⟨l.length - 1, by omega⟩
  unfold valid
  rw [hn]
  simp only [pre, if_neg e, if_pos h]
theorem valid_cons {l : List UInt8} (e : l ≠ []) (h : ¬ bad l) : valid l = (dec l).2 + valid (l.drop (dec l).2) := by
  have hl : 1 ≤ l.length := by cases l <;> simp_all
  obtain ⟨n, hn⟩ : ∃ n, l.length = n + 1 := ⟨l.length - 1, by omega⟩
  unfold valid
  rw [hn]
  simp only [pre, if_neg e, if_neg h]
  have hw := dec_width l
  have hd : (l.drop (dec l).2).length ≤ n := by rw [List.length_drop]; omega
  rw [pre_more n _ hd]
theorem pre_le : ∀ f l, pre f l ≤ l.length
  | 0, _ => by simp [pre]
  | f + 1, l => by
    by_cases e : l = []
    · subst e; simp [pre]
    · have ih := pre_le f (l.drop (dec l).2)
      have hf := dec_fits l e
      rw [List.length_drop] at ih
      simp only [pre, if_neg e]
      split
      · omega
      · omega
theorem valid_le (l : List UInt8) : valid l ≤ l.length := pre_le _ _

/-! ### writing characters -/
def enc (cs : List Int) : List UInt8 := cs.flatMap encodeRune
theorem enc_nil : enc [] = [] := rfl
theorem enc_cons (c : Int) (cs : List Int) : enc (c :: cs) = encodeRune c ++ enc cs := by simp [enc]
theorem enc_append (a b : List Int) : enc (a ++ b) = enc a ++ enc b := by simp [enc]
theorem encodeRune_length (c : Int) : 1 ≤ (encodeRune c).length ∧ (encodeRune c).length ≤ 4 := by
  have := encodeRuneZ_length c
  simpa [encodeRune] using this
theorem enc_length (cs : List Int) : (enc cs).length ≤ 4 * cs.length := by
  induction cs with
  | nil => simp [enc]
  | cons c cs ih =>
    rw [enc_cons]
    have := encodeRune_length c
    simp; omega

theorem getD0 (a : UInt8) (l : List UInt8) : ((a :: l).getD 0 0) = a := rfl

theorem u8_eq {a : UInt8} {n : Nat} (h : n = a.toNat) : n.toUInt8 = a := by
  subst h
  simp
set_option maxHeartbeats 4000000 in
/-- What was read is written as it was. -/
theorem enc_dec (l : List UInt8) (e : l ≠ []) (h : ¬ bad l) : encodeRune (dec l).1 = l.take (dec l).2 := by
  have k : dec l = dec l := rfl
  unfold bad at h
  unfold dec at h ⊢
  have hl : ∀ k, k < l.length → l.getD k 0 = l.getD k 0 := fun _ _ => rfl
  have hb := byte_lt l
  match l, e with
  | [a], _ =>
    have h0 := hb 0
    simp only [List.getD_cons_zero, List.getD_cons_succ, List.getD_nil, List.length_cons, List.length_nil] at h h0 ⊢
    have ha := a.toNat_lt
    generalize hx : a.toNat = x at *
    by_cases c : x < 128
    · simp only [decodeN, if_pos c]
      rw [encodeRune, encodeRuneZ_one (by omega) (by omega)]
      simp [u8_eq (a := a) (n := x) hx.symm]
    · exfalso; apply h
      unfold decodeN
      repeat' split
      all_goals first | (exfalso; omega) | exact ⟨rfl, rfl⟩
  | [a, b], _ =>
    simp only [List.getD_cons_zero, List.getD_cons_succ, List.getD_nil, List.length_cons, List.length_nil] at h ⊢
    have ha := a.toNat_lt; have hb1 := b.toNat_lt
    generalize hx : a.toNat = x at *
    generalize hy : b.toNat = y at *
    by_cases c : x < 128
    · simp only [decodeN, if_pos c]
      rw [encodeRune, encodeRuneZ_one (by omega) (by omega)]
      simp [u8_eq (a := a) (n := x) hx.symm]
    · by_cases c2 : x / 32 = 6 ∧ y / 64 = 2 ∧ x % 32 * 64 + y % 64 ≥ 128
      · have hd : decodeN 2 x y 0 0 = (x % 32 * 64 + y % 64, 2) := by
          unfold decodeN
          rw [if_neg c, if_pos ⟨c2.1, by omega, c2.2.1⟩, if_pos c2.2.2]
        rw [show (0 + 1 + 1 : Nat) = 2 from rfl, show (0 : UInt8).toNat = 0 from rfl, hd]
        simp only
        rw [encodeRune, encodeRuneZ_two (by omega) (by omega)]
        simp only [List.map_cons, List.map_nil, List.take_succ_cons, List.take_zero]
        rw [u8_eq (a := a) (by omega), u8_eq (a := b) (by omega)]
      · exfalso; apply h
        unfold decodeN
        repeat' split
        all_goals first | (exfalso; omega) | exact ⟨rfl, rfl⟩
  | [a, b, c3], _ =>
    simp only [List.getD_cons_zero, List.getD_cons_succ, List.getD_nil, List.length_cons, List.length_nil] at h ⊢
    have ha := a.toNat_lt; have hb1 := b.toNat_lt; have hc1 := c3.toNat_lt
    generalize hx : a.toNat = x at *
    generalize hy : b.toNat = y at *
    generalize hz : c3.toNat = z at *
    rw [show (0 + 1 + 1 + 1 : Nat) = 3 from rfl, show (0 : UInt8).toNat = 0 from rfl] at h ⊢
    by_cases c : x < 128
    · simp only [decodeN, if_pos c]
      rw [encodeRune, encodeRuneZ_one (by omega) (by omega)]
      simp [u8_eq (a := a) (n := x) hx.symm]
    · by_cases c2 : x / 32 = 6 ∧ y / 64 = 2 ∧ x % 32 * 64 + y % 64 ≥ 128
      · have hd : decodeN 3 x y z 0 = (x % 32 * 64 + y % 64, 2) := by
          unfold decodeN
          rw [if_neg c, if_pos ⟨c2.1, by omega, c2.2.1⟩, if_pos c2.2.2]
        rw [hd]
        simp only
        rw [encodeRune, encodeRuneZ_two (by omega) (by omega)]
        simp only [List.map_cons, List.map_nil, List.take_succ_cons, List.take_zero]
        rw [u8_eq (a := a) (by omega), u8_eq (a := b) (by omega)]
      · by_cases c4 : x / 16 = 14 ∧ y / 64 = 2 ∧ z / 64 = 2 ∧ x % 16 * 4096 + y % 64 * 64 + z % 64 ≥ 2048 ∧ (x % 16 * 4096 + y % 64 * 64 + z % 64 < 55296 ∨ (57344 ≤ x % 16 * 4096 + y % 64 * 64 + z % 64 ∧ x % 16 * 4096 + y % 64 * 64 + z % 64 ≤ 1114111))
        · have hd : decodeN 3 x y z 0 = (x % 16 * 4096 + y % 64 * 64 + z % 64, 3) := by
            unfold decodeN
            rw [if_neg c, if_neg (by omega), if_pos (by omega), if_pos c4.2.2.2]
          rw [hd]
          simp only
          rw [encodeRune, encodeRuneZ_three (by omega)]
          simp only [List.map_cons, List.map_nil, List.take_succ_cons, List.take_zero]
          rw [u8_eq (a := a) (by omega), u8_eq (a := b) (by omega), u8_eq (a := c3) (by omega)]
        · exfalso; apply h
          unfold decodeN
          repeat' split
          all_goals first | (exfalso; omega) | exact ⟨rfl, rfl⟩
  | a :: b :: c3 :: d :: r, _ =>
    simp only [List.getD_cons_zero, List.getD_cons_succ, List.getD_nil, List.length_cons, List.length_nil] at h ⊢
    have ha := a.toNat_lt; have hb1 := b.toNat_lt; have hc1 := c3.toNat_lt; have hd1 := d.toNat_lt
    generalize hx : a.toNat = x at *
    generalize hy : b.toNat = y at *
    generalize hz : c3.toNat = z at *
    generalize hw : d.toNat = w at *
    generalize hn : r.length + 1 + 1 + 1 + 1 = n at *
    by_cases c : x < 128
    · simp only [decodeN, if_pos c]
      rw [encodeRune, encodeRuneZ_one (by omega) (by omega)]
      simp [u8_eq (a := a) (n := x) hx.symm]
    · by_cases c2 : x / 32 = 6 ∧ y / 64 = 2 ∧ x % 32 * 64 + y % 64 ≥ 128
      · have hd : decodeN n x y z w = (x % 32 * 64 + y % 64, 2) := by
          unfold decodeN
          rw [if_neg c, if_pos ⟨c2.1, by omega, c2.2.1⟩, if_pos c2.2.2]
        rw [hd]
        simp only
        rw [encodeRune, encodeRuneZ_two (by omega) (by omega)]
        simp only [List.map_cons, List.map_nil, List.take_succ_cons, List.take_zero]
        rw [u8_eq (a := a) (by omega), u8_eq (a := b) (by omega)]
      · by_cases c4 : x / 16 = 14 ∧ y / 64 = 2 ∧ z / 64 = 2 ∧ x % 16 * 4096 + y % 64 * 64 + z % 64 ≥ 2048 ∧ (x % 16 * 4096 + y % 64 * 64 + z % 64 < 55296 ∨ (57344 ≤ x % 16 * 4096 + y % 64 * 64 + z % 64 ∧ x % 16 * 4096 + y % 64 * 64 + z % 64 ≤ 1114111))
        · have hd : decodeN n x y z w = (x % 16 * 4096 + y % 64 * 64 + z % 64, 3) := by
            unfold decodeN
            rw [if_neg c, if_neg (by omega), if_pos (by omega), if_pos c4.2.2.2]
          rw [hd]
          simp only
          rw [encodeRune, encodeRuneZ_three (by omega)]
          simp only [List.map_cons, List.map_nil, List.take_succ_cons, List.take_zero]
          rw [u8_eq (a := a) (by omega), u8_eq (a := b) (by omega), u8_eq (a := c3) (by omega)]
        · by_cases c5 : x / 8 = 30 ∧ y / 64 = 2 ∧ z / 64 = 2 ∧ w / 64 = 2 ∧ x % 8 * 262144 + y % 64 * 4096 + z % 64 * 64 + w % 64 ≥ 65536 ∧ (x % 8 * 262144 + y % 64 * 4096 + z % 64 * 64 + w % 64 < 55296 ∨ (57344 ≤ x % 8 * 262144 + y % 64 * 4096 + z % 64 * 64 + w % 64 ∧ x % 8 * 262144 + y % 64 * 4096 + z % 64 * 64 + w % 64 ≤ 1114111))
          · have hd : decodeN n x y z w = (x % 8 * 262144 + y % 64 * 4096 + z % 64 * 64 + w % 64, 4) := by
              unfold decodeN
              rw [if_neg c, if_neg (by omega), if_neg (by omega), if_pos (by omega), if_pos c5.2.2.2.2]
            rw [hd]
            simp only
            rw [encodeRune, encodeRuneZ_four (by omega) (by omega)]
            simp only [List.map_cons, List.map_nil, List.take_succ_cons, List.take_zero]
            rw [u8_eq (a := a) (by omega), u8_eq (a := b) (by omega), u8_eq (a := c3) (by omega), u8_eq (a := d) (by omega)]
          · exfalso; apply h
            unfold decodeN
            repeat' split
            all_goals first | (exfalso; omega) | exact ⟨rfl, rfl⟩

theorem toNat_u8 {n : Nat} (h : n < 256) : (n.toUInt8).toNat = n := by
  simp [Nat.mod_eq_of_lt h]
set_option maxHeartbeats 4000000 in
/-- What was written is read as it was. -/
theorem dec_enc (c : Int) (hc : chr c) (r : List UInt8) : dec (encodeRune c ++ r) = (c.toNat, (encodeRune c).length) ∧ ¬ bad (encodeRune c ++ r) := by
  unfold chr at hc
  obtain ⟨n, rfl⟩ := Int.eq_ofNat_of_zero_le (show 0 ≤ c by omega)
  have key : dec (encodeRune n ++ r) = (n, (encodeRune n).length) := by
    by_cases c1 : n ≤ 127
    · rw [encodeRune, encodeRuneZ_one (by omega) (by omega)]
      have e : ((n : Int).toNat.toUInt8).toNat = n := by rw [Int.toNat_natCast]; exact toNat_u8 (by omega)
      simp only [List.map_cons, List.map_nil, List.cons_append, List.nil_append, dec, List.getD_cons_zero, e, List.length_cons, List.length_nil]
      simp [decodeN, show n < 128 by omega]
    · by_cases c2 : n ≤ 2047
      · rw [encodeRune, encodeRuneZ_two (by omega) (by omega)]
        have e1 : (((192 + (n : Int) / 64)).toNat.toUInt8).toNat = 192 + n / 64 := by rw [show ((192 + (n : Int) / 64)).toNat = 192 + n / 64 by omega]; exact toNat_u8 (by omega)
        have e2 : (((128 + (n : Int) % 64)).toNat.toUInt8).toNat = 128 + n % 64 := by rw [show ((128 + (n : Int) % 64)).toNat = 128 + n % 64 by omega]; exact toNat_u8 (by omega)
        simp only [List.map_cons, List.map_nil, List.cons_append, List.nil_append, dec, List.getD_cons_zero, List.getD_cons_succ, e1, e2, List.length_cons, List.length_nil]
        unfold decodeN
        rw [if_neg (by omega), if_pos (by omega), if_pos (by omega)]
        refine Prod.ext ?_ rfl
        simp only
        omega
      · by_cases c3 : n ≤ 65535
        · rw [encodeRune, encodeRuneZ_three (by omega)]
          have e1 : (((224 + (n : Int) / 4096)).toNat.toUInt8).toNat = 224 + n / 4096 := by rw [show ((224 + (n : Int) / 4096)).toNat = 224 + n / 4096 by omega]; exact toNat_u8 (by omega)
          have e2 : (((128 + (n : Int) / 64 % 64)).toNat.toUInt8).toNat = 128 + n / 64 % 64 := by rw [show ((128 + (n : Int) / 64 % 64)).toNat = 128 + n / 64 % 64 by omega]; exact toNat_u8 (by omega)
          have e3 : (((128 + (n : Int) % 64)).toNat.toUInt8).toNat = 128 + n % 64 := by rw [show ((128 + (n : Int) % 64)).toNat = 128 + n % 64 by omega]; exact toNat_u8 (by omega)
          simp only [List.map_cons, List.map_nil, List.cons_append, List.nil_append, dec, List.getD_cons_zero, List.getD_cons_succ, e1, e2, e3, List.length_cons, List.length_nil]
          unfold decodeN
          rw [if_neg (by omega), if_neg (by omega), if_pos (by omega), if_pos (by omega)]
          refine Prod.ext ?_ rfl
          simp only
          omega
        · rw [encodeRune, encodeRuneZ_four (by omega) (by omega)]
          have e1 : (((240 + (n : Int) / 262144)).toNat.toUInt8).toNat = 240 + n / 262144 := by rw [show ((240 + (n : Int) / 262144)).toNat = 240 + n / 262144 by omega]; exact toNat_u8 (by omega)
          have e2 : (((128 + (n : Int) / 4096 % 64)).toNat.toUInt8).toNat = 128 + n / 4096 % 64 := by rw [show ((128 + (n : Int) / 4096 % 64)).toNat = 128 + n / 4096 % 64 by omega]; exact toNat_u8 (by omega)
          have e3 : (((128 + (n : Int) / 64 % 64)).toNat.toUInt8).toNat = 128 + n / 64 % 64 := by rw [show ((128 + (n : Int) / 64 % 64)).toNat = 128 + n / 64 % 64 by omega]; exact toNat_u8 (by omega)
          have e4 : (((128 + (n : Int) % 64)).toNat.toUInt8).toNat = 128 + n % 64 := by rw [show ((128 + (n : Int) % 64)).toNat = 128 + n % 64 by omega]; exact toNat_u8 (by omega)
          simp only [List.map_cons, List.map_nil, List.cons_append, List.nil_append, dec, List.getD_cons_zero, List.getD_cons_succ, e1, e2, e3, e4, List.length_cons, List.length_nil]
          unfold decodeN
          rw [if_neg (by omega), if_neg (by omega), if_neg (by omega), if_pos (by omega), if_pos (by omega)]
          refine Prod.ext ?_ rfl
          simp only
          omega
  refine ⟨by rw [key]; simp, ?_⟩
  unfold bad
  rw [key]
  rintro ⟨h1, h2⟩
  simp only at h1 h2
  subst h1
  rw [encodeRune, encodeRuneZ_three (by omega)] at h2
  simp at h2

theorem encodeRune_ne (c : Int) (r : List UInt8) : encodeRune c ++ r ≠ [] := by
  have := encodeRune_length c
  intro h
  have h2 := congrArg List.length h
  rw [List.length_append, List.length_nil] at h2
  omega
/-- The characters of what was written. -/
theorem runes_enc (cs : List Int) (h : ∀ c ∈ cs, chr c) : runes (enc cs) = cs ∧ valid (enc cs) = (enc cs).length := by
  induction cs with
  | nil => exact ⟨rfl, rfl⟩
  | cons c cs ih =>
    obtain ⟨i1, i2⟩ := ih (fun x hx => h x (List.mem_cons_of_mem _ hx))
    have hc := h c List.mem_cons_self
    obtain ⟨d1, d2⟩ := dec_enc c hc (enc cs)
    have h0 : 0 ≤ c := by unfold chr at hc; omega
    rw [enc_cons]
    constructor
    · rw [runes_cons (encodeRune_ne _ _), d1]
      simp only [List.drop_left', i1]
      rw [Int.toNat_of_nonneg h0]
    · rw [valid_cons (encodeRune_ne _ _) d2, d1]
      simp only [List.drop_left', i2, List.length_append]
/-- A text that is valid is what its characters make. -/
theorem enc_runes : ∀ (n : Nat) (l : List UInt8), l.length ≤ n → valid l = l.length → enc (runes l) = l
  | 0, l, hn, _ => by
    have : l = [] := List.eq_nil_of_length_eq_zero (by omega)
    subst this; rfl
  | n + 1, l, hn, hv => by
    by_cases e : l = []
    · subst e; rfl
    · have hw := dec_width l
      have hf := dec_fits l e
      have hb : ¬ bad l := by
        intro hb
        rw [valid_bad e hb] at hv
        omega
      have hv2 : valid (l.drop (dec l).2) = (l.drop (dec l).2).length := by
        rw [valid_cons e hb] at hv
        rw [List.length_drop]; omega
      rw [runes_cons e, enc_cons, enc_runes n _ (by rw [List.length_drop]; omega) hv2, enc_dec l e hb, List.take_append_drop]

end Go.Proofs.YtegapacamclipaaGreatDoor.Tx
