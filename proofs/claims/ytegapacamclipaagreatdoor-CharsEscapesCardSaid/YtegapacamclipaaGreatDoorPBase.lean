/- What the reference's words on texts come to: the first character, which beginning is valid, the characters, the text of characters. Plain Lean, no program. -/
import Derived.Test.YtegapacamclipaaGreatDoorM2
import Derived.Test.YtegapacamclipaaGreatDoorUnesc
set_option linter.unusedVariables false
set_option linter.unusedSimpArgs false
namespace Go.Proofs.YtegapacamclipaaGreatDoor.Q
open Go.RowKit Go.Proofs.YtegapacamclipaaGreatDoorW.PrintWords Go.Proofs.YtegapacamclipaaGreatDoor.Tx Go.Proofs.YtegapacamclipaaGreatDoor.G Go.Proofs.YtegapacamclipaaGreatDoor.M Go.Lib

theorem bt_getD (s : ByteArray) (i : Nat) : bt s (i : Int) = ((s.data.toList.getD i 0).toNat : Int) := by
  unfold bt
  rw [Int.toNat_natCast]
  split
  case isTrue h =>
    have h' : i < s.data.toList.length := by rw [← size_len]; exact h
    rw [List.getD_eq_getElem?_getD, List.getElem?_eq_getElem h']
    rfl
  case isFalse h =>
    have h' : s.data.toList.length ≤ i := by rw [← size_len]; omega
    rw [List.getD_eq_getElem?_getD, List.getElem?_eq_none h']
    rfl

theorem wrap64_id {x : Int} (h0 : -9223372036854775808 ≤ x) (h1 : x ≤ 9223372036854775807) : wrap64 x = x := by unfold wrap64; omega

theorem IsChar_eq (c : Int) : motleyref02_IsChar.f c = some (decide (chr c)) := by
  unfold motleyref02_IsChar.f
  by_cases h : chr c
  · rw [decide_eq_true h]; unfold chr at h
    repeat' split
    all_goals first | (exfalso; omega) | (rw [decide_eq_false (by omega)]; rfl) | rfl
  · rw [decide_eq_false h]; unfold chr at h
    repeat' split
    all_goals first | rfl | (exfalso; omega) | (rw [decide_eq_true (by omega)]; rfl)

/-- The character that a text begins with, and its bytes; 0 and 0 if there is none. -/
def firstR (l : List UInt8) : Int × Int := if l = [] ∨ bad l then (0, 0) else ((dec l).1, (dec l).2)

theorem first_end (k : Nat) (s : ByteArray) (n c least i : Int) (h : ¬ i < n) :
    motleyref02_first.l0 (k + 1) s n c least i = some (if ¬ c < least ∧ chr c then (c, n) else (0, 0)) := by
  simp only [motleyref02_first.l0, if_neg h]
  by_cases h1 : c < least
  · rw [if_pos h1, if_neg (by omega)]
  · rw [if_neg h1, IsChar_eq]
    by_cases h2 : chr c
    · simp [h1, h2]
    · simp [h2]
theorem first_step (k : Nat) (s : ByteArray) (n c least : Int) (i : Nat) (b : Nat) (hb : (s.data.toList.getD i 0).toNat = b) (h : (i : Int) < n) (hi : i < s.size) (hn : n ≤ 4) (c0 : 0 ≤ c) (c1 : c ≤ 1000000000) (b0 : 128 ≤ b) (b1 : b < 192) :
    motleyref02_first.l0 (k + 1) s n c least i = motleyref02_first.l0 k s n (c * 64 + b - 128) least ((i + 1 : Nat) : Int) := by
  simp only [motleyref02_first.l0]
  rw [if_pos h, if_pos (by omega), if_pos (by omega), bt_getD, hb, if_neg (by omega), if_neg (by omega)]
  have e1 : wrap64 (c * 64) = c * 64 := wrap64_id (by omega) (by omega)
  have e2 : wrap64 (b : Int) = b := wrap64_id (by omega) (by omega)
  have e3 : wrap64 (c * 64 + b) = c * 64 + b := wrap64_id (by omega) (by omega)
  have e4 : wrap64 (c * 64 + b - 128) = c * 64 + b - 128 := wrap64_id (by omega) (by omega)
  have e5 : wrap64 ((i : Int) + 1) = ((i + 1 : Nat) : Int) := by rw [wrap64_id (by omega) (by omega)]; omega
  rw [e1, e2, e3, e4, e5]
theorem first_not (k : Nat) (s : ByteArray) (n c least : Int) (i : Nat) (b : Nat) (hb : (s.data.toList.getD i 0).toNat = b) (h : (i : Int) < n) (hi : i < s.size) (h2 : b < 128 ∨ 192 ≤ b) :
    motleyref02_first.l0 (k + 1) s n c least i = some (0, 0) := by
  simp only [motleyref02_first.l0]
  rw [if_pos h, if_pos (by omega), if_pos (by omega), bt_getD, hb]
  by_cases h3 : (b : Int) < 128
  · rw [if_pos h3]
  · rw [if_neg h3, if_pos (by omega)]

theorem first_many (k : Nat) (s : ByteArray) (n c least : Int) (b1 b2 b3 : Nat) (e1 : (s.data.toList.getD 1 0).toNat = b1) (e2 : (s.data.toList.getD 2 0).toNat = b2) (e3 : (s.data.toList.getD 3 0).toNat = b3)
    (hn : 2 ≤ n ∧ n ≤ 4) (hs : n ≤ s.size) (c0 : 0 ≤ c) (c1 : c ≤ 1000) :
    motleyref02_first.l0 (k + 4) s n c least 1 = some (
      if (128 ≤ b1 ∧ b1 < 192) ∧ (2 < n → 128 ≤ b2 ∧ b2 < 192) ∧ (3 < n → 128 ≤ b3 ∧ b3 < 192) then
        (let v := if n = 2 then c * 64 + b1 - 128 else if n = 3 then (c * 64 + b1 - 128) * 64 + b2 - 128 else ((c * 64 + b1 - 128) * 64 + b2 - 128) * 64 + b3 - 128
         if ¬ v < least ∧ chr v then (v, n) else (0, 0))
      else (0, 0)) := by
  by_cases g1 : 128 ≤ b1 ∧ b1 < 192
  case neg => rw [if_neg (fun h => g1 h.1)]; exact first_not (k + 3) s n c least 1 b1 e1 (by omega) (by omega) (by omega)
  rw [show (1 : Int) = ((1 : Nat) : Int) from rfl, first_step (k + 3) s n c least 1 b1 e1 (by omega) (by omega) (by omega) c0 (by omega) g1.1 g1.2]
  by_cases g2 : 2 < n
  case neg =>
    rw [if_pos ⟨g1, fun h => absurd h g2, fun h => absurd h (by omega)⟩, first_end (k + 2) _ _ _ _ _ (by omega)]
    simp only [if_pos (show n = 2 by omega)]
  by_cases g3 : 128 ≤ b2 ∧ b2 < 192
  case neg => rw [if_neg (fun h => g3 (h.2.1 g2))]; exact first_not (k + 2) s n _ least 2 b2 e2 (by omega) (by omega) (by omega)
  rw [first_step (k + 2) s n _ least 2 b2 e2 (by omega) (by omega) (by omega) (by omega) (by omega) g3.1 g3.2]
  by_cases g4 : 3 < n
  case neg =>
    rw [if_pos ⟨g1, fun _ => g3, fun h => absurd h (by omega)⟩, first_end (k + 1) _ _ _ _ _ (by omega)]
    simp only [if_neg (show ¬ n = 2 by omega), if_pos (show n = 3 by omega)]
  by_cases g5 : 128 ≤ b3 ∧ b3 < 192
  case neg => rw [if_neg (fun h => g5 (h.2.2 g4))]; exact first_not (k + 1) s n _ least 3 b3 e3 (by omega) (by omega) (by omega)
  rw [first_step (k + 1) s n _ least 3 b3 e3 (by omega) (by omega) (by omega) (by omega) (by omega) g5.1 g5.2]
  rw [if_pos ⟨g1, fun _ => g3, fun _ => g5⟩, first_end k _ _ _ _ _ (by omega)]
  simp only [if_neg (show ¬ n = 2 by omega), if_neg (show ¬ n = 3 by omega)]

theorem many2 (k : Nat) (s : ByteArray) (c least : Int) (b1 : Nat) (e1 : (s.data.toList.getD 1 0).toNat = b1) (hs : 2 ≤ s.size) (c0 : 0 ≤ c) (c1 : c ≤ 1000) :
    motleyref02_first.l0 (k + 4) s 2 c least 1 = some (if (128 ≤ b1 ∧ b1 < 192) ∧ ¬ c * 64 + b1 - 128 < least ∧ chr (c * 64 + b1 - 128) then (c * 64 + b1 - 128, ((2 : Nat) : Int)) else (0, 0)) := by
  rw [first_many k s 2 c least b1 _ _ e1 rfl rfl (by omega) (by omega) c0 c1]
  congr 1
  by_cases g1 : 128 ≤ b1 ∧ b1 < 192
  · rw [if_pos ⟨g1, fun h => absurd h (by omega), fun h => absurd h (by omega)⟩]
    simp only [if_true, eq_true g1, true_and]
    rfl
  · rw [if_neg (fun h => g1 h.1), if_neg (fun h => g1 h.1)]
theorem many3 (k : Nat) (s : ByteArray) (c least : Int) (b1 b2 : Nat) (e1 : (s.data.toList.getD 1 0).toNat = b1) (e2 : (s.data.toList.getD 2 0).toNat = b2) (hs : 3 ≤ s.size) (c0 : 0 ≤ c) (c1 : c ≤ 1000) :
    motleyref02_first.l0 (k + 4) s 3 c least 1 = some (if ((128 ≤ b1 ∧ b1 < 192) ∧ 128 ≤ b2 ∧ b2 < 192) ∧ ¬ (c * 64 + b1 - 128) * 64 + b2 - 128 < least ∧ chr ((c * 64 + b1 - 128) * 64 + b2 - 128) then ((c * 64 + b1 - 128) * 64 + b2 - 128, ((3 : Nat) : Int)) else (0, 0)) := by
  rw [first_many k s 3 c least b1 b2 _ e1 e2 rfl (by omega) (by omega) c0 c1]
  congr 1
  by_cases g1 : (128 ≤ b1 ∧ b1 < 192) ∧ 128 ≤ b2 ∧ b2 < 192
  · rw [if_pos ⟨g1.1, fun _ => g1.2, fun h => absurd h (by omega)⟩]
    simp only [if_neg (show ¬ (3 : Int) = 2 by omega), if_true, eq_true g1, true_and]
    rfl
  · rw [if_neg (fun h => g1 ⟨h.1, h.2.1 (by omega)⟩), if_neg (fun h => g1 h.1)]
theorem many4 (k : Nat) (s : ByteArray) (c least : Int) (b1 b2 b3 : Nat) (e1 : (s.data.toList.getD 1 0).toNat = b1) (e2 : (s.data.toList.getD 2 0).toNat = b2) (e3 : (s.data.toList.getD 3 0).toNat = b3) (hs : 4 ≤ s.size) (c0 : 0 ≤ c) (c1 : c ≤ 1000) :
    motleyref02_first.l0 (k + 4) s 4 c least 1 = some (if ((128 ≤ b1 ∧ b1 < 192) ∧ (128 ≤ b2 ∧ b2 < 192) ∧ 128 ≤ b3 ∧ b3 < 192) ∧ ¬ ((c * 64 + b1 - 128) * 64 + b2 - 128) * 64 + b3 - 128 < least ∧ chr (((c * 64 + b1 - 128) * 64 + b2 - 128) * 64 + b3 - 128) then (((c * 64 + b1 - 128) * 64 + b2 - 128) * 64 + b3 - 128, ((4 : Nat) : Int)) else (0, 0)) := by
  rw [first_many k s 4 c least b1 b2 b3 e1 e2 e3 (by omega) (by omega) c0 c1]
  congr 1
  by_cases g1 : (128 ≤ b1 ∧ b1 < 192) ∧ (128 ≤ b2 ∧ b2 < 192) ∧ 128 ≤ b3 ∧ b3 < 192
  · rw [if_pos ⟨g1.1, fun _ => g1.2.1, fun _ => g1.2.2⟩]
    simp only [if_neg (show ¬ (4 : Int) = 2 by omega), if_neg (show ¬ (4 : Int) = 3 by omega), eq_true g1, true_and]
    rfl
  · rw [if_neg (fun h => g1 ⟨h.1, h.2.1 (by omega), h.2.2 (by omega)⟩), if_neg (fun h => g1 h.1)]
theorem first_fin (n : Nat) (D : Nat × Nat) (P : Prop) [Decidable P] (v : Int) (m : Nat) (hn : n ≠ 0) (hm : m ≠ 1) (h1 : P → (D.1 : Int) = v ∧ D.2 = m) (h2 : ¬ P → D.1 = 65533 ∧ D.2 = 1) :
    some (if P then (v, (m : Int)) else (0, 0)) = some (if n = 0 ∨ (D.1 = 65533 ∧ D.2 = 1) then (0, 0) else ((D.1 : Int), (D.2 : Int))) := by
  by_cases h : P
  · rw [if_pos h, if_neg (by have := (h1 h).2; omega), (h1 h).1, (h1 h).2]
  · rw [if_neg h, if_pos (.inr (h2 h))]
theorem first_none (n : Nat) (D : Nat × Nat) (h : n = 0 ∨ (D.1 = 65533 ∧ D.2 = 1)) : some ((0 : Int), (0 : Int)) = some (if n = 0 ∨ (D.1 = 65533 ∧ D.2 = 1) then (0, 0) else ((D.1 : Int), (D.2 : Int))) := by rw [if_pos h]
set_option maxHeartbeats 4000000 in
theorem first_eq (s : ByteArray) (k : Nat) : motleyref02_first.f (k + 9) s = some (firstR s.data.toList) := by
  have hz : s.size = s.data.toList.length := size_len s
  have t0 : bt s 0 = _ := bt_getD s 0
  have l0 := byte_lt s.data.toList 0; have l1 := byte_lt s.data.toList 1; have l2 := byte_lt s.data.toList 2; have l3 := byte_lt s.data.toList 3
  have nil : s.data.toList = [] ↔ s.size = 0 := by rw [hz]; exact List.length_eq_zero_iff.symm
  have hd : firstR s.data.toList = if s.size = 0 ∨ ((decodeN s.size (s.data.toList.getD 0 0).toNat (s.data.toList.getD 1 0).toNat (s.data.toList.getD 2 0).toNat (s.data.toList.getD 3 0).toNat).1 = 65533 ∧ (decodeN s.size (s.data.toList.getD 0 0).toNat (s.data.toList.getD 1 0).toNat (s.data.toList.getD 2 0).toNat (s.data.toList.getD 3 0).toNat).2 = 1) then (0, 0)
      else (((decodeN s.size (s.data.toList.getD 0 0).toNat (s.data.toList.getD 1 0).toNat (s.data.toList.getD 2 0).toNat (s.data.toList.getD 3 0).toNat).1 : Int), ((decodeN s.size (s.data.toList.getD 0 0).toNat (s.data.toList.getD 1 0).toNat (s.data.toList.getD 2 0).toNat (s.data.toList.getD 3 0).toNat).2 : Int)) := by
    unfold firstR bad dec
    simp only [nil, ← hz]
  rw [hd]
  have m2 := fun k c least hs c0 c1 => many2 k s c least _ rfl hs c0 c1
  have m3 := fun k c least hs c0 c1 => many3 k s c least _ _ rfl rfl hs c0 c1
  have m4 := fun k c least hs c0 c1 => many4 k s c least _ _ _ rfl rfl rfl hs c0 c1
  simp only [motleyref02_first.f, motleyref02_first.j0, motleyref02_first.j1, motleyref02_first.j2, motleyref02_first.j3]
  rw [t0]
  generalize (s.data.toList.getD 0 0).toNat = b0 at *
  generalize (s.data.toList.getD 1 0).toNat = b1 at *
  generalize (s.data.toList.getD 2 0).toNat = b2 at *
  generalize (s.data.toList.getD 3 0).toNat = b3 at *
  generalize s.size = n at *
  clear hd nil hz
  have w0 : wrap64 (b0 : Int) = b0 := wrap64_id (by omega) (by omega)
  have w1 : wrap64 ((b0 : Int) - 192) = b0 - 192 := wrap64_id (by omega) (by omega)
  have w2 : wrap64 ((b0 : Int) - 224) = b0 - 224 := wrap64_id (by omega) (by omega)
  have w3 : wrap64 ((b0 : Int) - 240) = b0 - 240 := wrap64_id (by omega) (by omega)
  rw [w0, w1, w2, w3]
  by_cases h0 : n = 0
  · rw [if_pos (by omega), if_pos (.inl h0)]
  rw [if_neg (by omega), if_pos (by omega)]
  by_cases h1 : b0 < 128
  · rw [if_pos (by omega)]
    simp only [decodeN, if_pos h1]
    rw [if_neg (by omega)]
    rfl
  rw [if_neg (by omega)]
  by_cases h2 : b0 < 192
  · rw [if_neg (by omega), if_neg (by simp), if_neg (by omega), if_neg (by simp), if_neg (by omega)]
    simp only [if_true]
    refine first_none n _ (.inr ?_)
    unfold decodeN
    repeat' split
    all_goals first | (exfalso; omega) | exact ⟨rfl, rfl⟩
  rw [if_pos (by omega)]
  by_cases h3 : b0 < 224
  · rw [if_pos (decide_eq_true (by omega)), if_neg (by omega)]
    by_cases h4 : n < 2
    · rw [if_pos (decide_eq_true (by omega))]
      refine first_none n _ (.inr ?_)
      unfold decodeN
      repeat' split
      all_goals first | (exfalso; omega) | exact ⟨rfl, rfl⟩
    rw [if_neg (by rw [decide_eq_true_eq]; omega), m2 _ _ _ (by omega) (by omega) (by omega)]
    · refine first_fin n _ _ _ 2 h0 (by omega) (fun hP => ?_) (fun hP => ?_)
      all_goals (unfold chr at hP; unfold decodeN; repeat' split)
      all_goals first | (exfalso; omega) | (refine ⟨?_, rfl⟩; simp only; omega) | exact ⟨rfl, rfl⟩
  rw [if_neg (by rw [decide_eq_true_eq]; omega), if_pos (by omega)]
  by_cases h5 : b0 < 240
  · rw [if_pos (decide_eq_true (by omega)), if_neg (by omega)]
    by_cases h4 : n < 3
    · rw [if_pos (decide_eq_true (by omega))]
      refine first_none n _ (.inr ?_)
      unfold decodeN
      repeat' split
      all_goals first | (exfalso; omega) | exact ⟨rfl, rfl⟩
    rw [if_neg (by rw [decide_eq_true_eq]; omega), m3 _ _ _ (by omega) (by omega) (by omega)]
    · refine first_fin n _ _ _ 3 h0 (by omega) (fun hP => ?_) (fun hP => ?_)
      all_goals (unfold chr at hP; unfold decodeN; repeat' split)
      all_goals first | (exfalso; omega) | (refine ⟨?_, rfl⟩; simp only; omega) | exact ⟨rfl, rfl⟩
  rw [if_neg (by rw [decide_eq_true_eq]; omega), if_pos (by omega)]
  by_cases h6 : b0 < 248
  · rw [if_pos (by omega), if_neg (by omega)]
    by_cases h4 : n < 4
    · rw [if_pos (decide_eq_true (by omega))]
      refine first_none n _ (.inr ?_)
      unfold decodeN
      repeat' split
      all_goals first | (exfalso; omega) | exact ⟨rfl, rfl⟩
    rw [if_neg (by rw [decide_eq_true_eq]; omega), m4 _ _ _ (by omega) (by omega) (by omega)]
    · refine first_fin n _ _ _ 4 h0 (by omega) (fun hP => ?_) (fun hP => ?_)
      all_goals (unfold chr at hP; unfold decodeN; repeat' split)
      all_goals first | (exfalso; omega) | (refine ⟨?_, rfl⟩; simp only; omega) | exact ⟨rfl, rfl⟩
  rw [if_neg (by omega)]
  simp only [if_true]
  refine first_none n _ (.inr ?_)
  unfold decodeN
  repeat' split
  all_goals first | (exfalso; omega) | exact ⟨rfl, rfl⟩
end Go.Proofs.YtegapacamclipaaGreatDoor.Q
