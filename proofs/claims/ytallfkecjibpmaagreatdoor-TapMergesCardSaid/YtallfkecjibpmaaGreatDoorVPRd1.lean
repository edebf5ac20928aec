/- Of this claim's texts (PRd1): the declarations that the claim reaches (slimclaim.py). -/
import Derived.Test.YtallfkecjibpmaaGreatDoorVRdG
import Derived.Test.YtallfkecjibpmaaGreatDoorVR4
import Derived.Test.YtallfkecjibpmaaGreatDoorVR2
import Derived.Test.YtallfkecjibpmaaGreatDoorVR0
set_option linter.unusedVariables false
set_option linter.unusedSimpArgs false
namespace Go.Proofs.YtallfkecjibpmaaGreatDoor.Q
open Go.RowKit Go.Proofs.YtallfkecjibpmaaGreatDoorW.PrintWords Go.Proofs.YtallfkecjibpmaaGreatDoor.G Go.Proofs.YtallfkecjibpmaaGreatDoor.Nm Go.Proofs.YtallfkecjibpmaaGreatDoor.Rd Go.Proofs.YtallfkecjibpmaaGreatDoor.R
theorem w64 {x : Int} (h0 : -9223372036854775808 ≤ x) (h1 : x ≤ 9223372036854775807) : wrap64 x = x := by unfold wrap64; omega
theorem w1 {i : Nat} (h : i ≤ 1000000000000) : wrap64 ((i : Int) + 1) = ((i + 1 : Nat) : Int) := by rw [w64 (by omega) (by omega)]; omega
theorem begins_eq (s p : ByteArray) : motleyref27_begins.f s p = some (Lib.hasPrefix s.data.toList p.data.toList) := by
  unfold motleyref27_begins.f
  have h1 := size_len s
  have h2 := size_len p
  by_cases h : p.size ≤ s.size
  · rw [if_pos (by omega), if_pos (by omega), if_pos (by omega), Int.toNat_natCast, toL_data, toL_data, Lib.extract_data, List.drop_zero, Nat.sub_zero, h2]
    congr 1
    unfold Lib.hasPrefix
    rw [Bool.eq_iff_iff, beq_iff_eq, List.isPrefixOf_iff_prefix, List.prefix_iff_eq_take]
    exact eq_comm
  · rw [if_neg (by omega)]
    congr 1
    symm
    rw [← Bool.not_eq_true]
    unfold Lib.hasPrefix
    rw [List.isPrefixOf_iff_prefix]
    intro hp
    have := hp.length_le
    omega
theorem isDigit_eq (c : UInt8) : motleyref27_isDigit.f (c.toNat : Int) = some (isDb c) := by
  unfold motleyref27_isDigit.f isDb isD
  by_cases h : 48 ≤ c.toNat
  · rw [if_pos (by omega)]
    congr 1
    exact decide_eq_decide.2 (by omega)
  · rw [if_neg (by omega)]
    congr 1
    exact (decide_eq_false (fun hh : 48 ≤ c.toNat ∧ c.toNat ≤ 57 => h hh.1)).symm
theorem pow18 (i : Nat) (h : i ≤ 17) : (10 : Nat) ^ i ≤ 100000000000000000 := by
  have := Nat.pow_le_pow_right (n := 10) (by decide) h
  simpa using this
theorem digits_l0 (s : ByteArray) (hs : s.size ≤ 18) (hd : ∀ i, i < s.size → isD (bAt s i)) : ∀ (d k i v : Nat), i + d = s.size → d < k → v < 10 ^ i → motleyref27_digits.l0 k s (v : Int) (i : Int) = some ((valF v (s.data.toList.drop i) : Nat) : Int)
  | 0, k, i, v, hi, hk, hv => by
    obtain ⟨k, rfl⟩ : ∃ j, k = j + 1 := ⟨k - 1, by omega⟩
    simp only [motleyref27_digits.l0]
    rw [if_neg (by omega), List.drop_of_length_le (by rw [← size_len]; omega)]
    rfl
  | d + 1, k, i, v, hi, hk, hv => by
    obtain ⟨k, rfl⟩ : ∃ j, k = j + 1 := ⟨k - 1, by omega⟩
    have hc := hd i (by omega)
    have hp := pow18 i (by omega)
    unfold isD at hc
    have e1 : Aside0 (wrap64 (wrap64 (10 * (v : Int)) + (((bAt s i).toNat : Int) - 48) % 256) = ((10 * v + ((bAt s i).toNat - 48) : Nat) : Int)) := ⟨by
      rw [w64 (x := 10 * (v : Int)) (by omega) (by omega), w64 (by omega) (by omega)]; omega⟩
    have e2 : Aside0 (wrap64 ((i : Int) + 1) = ((i + 1 : Nat) : Int)) := ⟨by rw [w64 (by omega) (by omega)]; omega⟩
    simp only [motleyref27_digits.l0]
    rw [if_pos (by omega), if_pos (by omega), bt_bAt, drop_bAt s i (by omega), e1.out, e2.out]
    exact digits_l0 s hs hd d k (i + 1) _ (by omega) (by omega) (by rw [Nat.pow_succ]; omega)
theorem bAt_isD (s : ByteArray) (hd : ∀ c ∈ s.data.toList, isD c) (i : Nat) (hi : i < s.size) : isD (bAt s i) := by
  unfold bAt
  have h' : i < s.data.toList.length := by rw [← size_len]; exact hi
  rw [List.getD_eq_getElem?_getD, List.getElem?_eq_getElem h']
  exact hd _ (List.getElem_mem h')
theorem digits_eq (s : ByteArray) (l : List UInt8) (hl : s.data.toList = l) (hd : ∀ c ∈ l, isD c) (h18 : l.length ≤ 18) (k : Nat) (hk : 20 ≤ k) : motleyref27_digits.f k s = some ((val l : Nat) : Int) := by
  have hz : s.size = l.length := by rw [size_len, hl]
  have := digits_l0 s (by omega) (bAt_isD s (by rw [hl]; exact hd)) s.size k 0 0 (by omega) (by omega) (by simp)
  rw [List.drop_zero, hl] at this
  exact this
def bL (l : List UInt8) : List UInt8 := l.dropWhile (· == 32)
def bR (l : List UInt8) : List UInt8 := (l.reverse.dropWhile (· == 32)).reverse
theorem bR_cons (c : UInt8) (r : List UInt8) : bR (c :: r) = if bR r = [] then (if c = 32 then [] else [c]) else c :: bR r := by
  unfold bR
  rw [List.reverse_cons, List.dropWhile_append]
  cases h : r.reverse.dropWhile (· == 32) with
  | nil =>
    simp only [List.isEmpty_nil, if_true, List.reverse_nil]
    rw [List.dropWhile_cons]
    by_cases hc : c = 32
    · subst hc; rfl
    · rw [if_neg (by simpa using hc), if_neg hc]; rfl
  | cons d q =>
    simp
theorem bL_cons (c : UInt8) (r : List UInt8) : bL (c :: r) = if c = 32 then bL r else c :: r := by
  unfold bL
  rw [List.dropWhile_cons]
  by_cases hc : c = 32
  · subst hc; rfl
  · rw [if_neg (by simpa using hc), if_neg hc]
theorem b_swap : ∀ l : List UInt8, bL (bR l) = bR (bL l)
  | [] => rfl
  | c :: r => by
    have ih := b_swap r
    rw [bR_cons, bL_cons]
    by_cases hc : c = 32
    · subst hc
      rw [if_pos rfl, if_pos rfl, ← ih]
      by_cases hr : bR r = []
      · rw [if_pos hr, hr]
      · rw [if_neg hr, bL_cons, if_pos rfl]
    · rw [if_neg hc, if_neg hc]
      by_cases hr : bR r = []
      · rw [if_pos hr, bL_cons, if_neg hc, bR_cons, if_pos hr, if_neg hc]
      · rw [if_neg hr, bL_cons, if_neg hc, bR_cons, if_neg hr]
theorem trimS_def (l : List UInt8) : trimS l = bR (bL l) := b_swap l
theorem bL_len (l : List UInt8) : (bL l).length ≤ l.length := (List.dropWhile_sublist _).length_le
theorem bR_len (l : List UInt8) : (bR l).length ≤ l.length := by
  unfold bR; rw [List.length_reverse]
  refine Nat.le_trans (List.dropWhile_sublist _).length_le ?_
  rw [List.length_reverse]; exact Nat.le_refl _
theorem bR_snoc (l : List UInt8) (c : UInt8) : bR (l ++ [c]) = if c = 32 then bR l else l ++ [c] := by
  unfold bR
  rw [List.reverse_append, List.reverse_singleton, List.singleton_append, List.dropWhile_cons]
  by_cases hc : c = 32
  · subst hc; rfl
  · rw [if_neg (by simpa using hc), if_neg hc, List.reverse_cons, List.reverse_reverse]
def endsOk (l : List UInt8) : Bool := l.isEmpty || (!(l.headD 0 == 32) && !(l.getLastD 0 == 32))
theorem trimS_ends (l : List UInt8) : (trimS l == l) = endsOk l := by
  rw [trimS_def]
  rcases List.eq_nil_or_concat l with rfl | ⟨m, d, rfl⟩
  · rfl
  · rw [List.concat_eq_append]
    have hl : (m ++ [d]).getLastD 0 = d := by simp
    unfold endsOk
    rw [hl, show (m ++ [d]).isEmpty = false by simp, Bool.false_or]
    cases hm : m ++ [d] with
    | nil => simp at hm
    | cons c r =>
      have hh : (c :: r).headD 0 = c := rfl
      rw [hh, bL_cons]
      by_cases hc : c = 32
      · rw [if_pos hc]
        have : bR (bL r) ≠ c :: r := fun h => by
          have h1 := congrArg List.length h
          have h2 := bR_len (bL r)
          have h3 := bL_len r
          rw [List.length_cons] at h1
          omega
        rw [beq_eq_false_iff_ne.2 this, hc]; rfl
      · rw [if_neg hc, ← hm, bR_snoc]
        by_cases hd : d = 32
        · rw [if_pos hd]
          have : bR m ≠ m ++ [d] := fun h => by
            have h1 := congrArg List.length h
            have h2 := bR_len m
            rw [List.length_append, List.length_singleton] at h1
            omega
          rw [beq_eq_false_iff_ne.2 this, hd]; simp
        · rw [if_neg hd, beq_self_eq_true, beq_eq_false_iff_ne.2 hc, beq_eq_false_iff_ne.2 hd]; rfl
theorem getLastD_bAt (s : ByteArray) (h : 0 < s.size) : s.data.toList.getLastD 0 = bAt s (s.size - 1) := by
  unfold bAt
  rw [size_len] at h ⊢
  rw [List.getD_eq_getElem?_getD, ← List.getLast?_eq_getElem?]
  cases hl : s.data.toList with
  | nil => rw [hl] at h; exact absurd h (by simp)
  | cons c r =>
    simp [List.getLastD_eq_getLast?, List.getLast?_cons]
theorem n32 {a : UInt8} (h : ¬ a = 32) : ¬ ((a.toNat : Int) = 32) := fun e => h (UInt8.toNat_inj.1 (by have : (32 : UInt8).toNat = 32 := rfl; omega))
theorem n10 {a : UInt8} (h : ¬ a = 10) : ¬ ((a.toNat : Int) = 10) := fun e => h (UInt8.toNat_inj.1 (by have : (10 : UInt8).toNat = 10 := rfl; omega))
theorem n35 {a : UInt8} (h : ¬ a = 35) : ¬ ((a.toNat : Int) = 35) := fun e => h (UInt8.toNat_inj.1 (by have : (35 : UInt8).toNat = 35 := rfl; omega))
theorem n48 {a : UInt8} (h : ¬ a = 48) : ¬ ((a.toNat : Int) = 48) := fun e => h (UInt8.toNat_inj.1 (by have : (48 : UInt8).toNat = 48 := rfl; omega))
theorem isReason_l0 (s : ByteArray) (hs : s.size ≤ 200) : ∀ (d k i : Nat), i + d = s.size → d < k → motleyref27_isReason.l0 k s (i : Int) = some (!(s.data.toList.drop i).contains 10 && endsOk s.data.toList)
  | 0, k, i, hi, hk => by
    obtain ⟨k, rfl⟩ : ∃ j, k = j + 1 := ⟨k - 1, by omega⟩
    have hz := size_len s
    simp only [motleyref27_isReason.l0]
    rw [if_neg (by omega), List.drop_of_length_le (by omega)]
    show _ = some (true && endsOk s.data.toList)
    rw [Bool.true_and, toL_data]
    by_cases hn : s.data.toList = []
    · rw [if_pos hn, hn]; rfl
    · have hp : 0 < s.size := by
        rw [hz]
        cases h : s.data.toList with
        | nil => exact absurd h hn
        | cons c r => simp
      rw [if_neg hn, if_pos (by omega), show (0 : Int) = ((0 : Nat) : Int) from rfl, bt_bAt, w64 (by omega) (by omega), show (s.size : Int) - 1 = ((s.size - 1 : Nat) : Int) by omega, bt_bAt]
      unfold endsOk
      rw [show s.data.toList.isEmpty = false by rw [List.isEmpty_eq_false_iff]; exact hn, Bool.false_or, headD_bAt, getLastD_bAt s hp]
      by_cases h1 : bAt s 0 = 32
      · rw [if_pos (by rw [h1]; rfl), h1]; rfl
      · rw [if_neg (n32 h1), if_pos (by omega), if_pos (by omega), beq_eq_false_iff_ne.2 h1]
        congr 1
        show _ = (true && _)
        rw [Bool.true_and]
        by_cases h2 : bAt s (s.size - 1) = 32
        · rw [h2]; rfl
        · rw [beq_eq_false_iff_ne.2 h2]
          exact bne_iff_ne.2 (n32 h2)
  | d + 1, k, i, hi, hk => by
    obtain ⟨k, rfl⟩ : ∃ j, k = j + 1 := ⟨k - 1, by omega⟩
    simp only [motleyref27_isReason.l0]
    rw [if_pos (by omega), if_pos (by omega), bt_bAt, w1 (by omega), drop_bAt s i (by omega), List.contains_cons]
    by_cases h : bAt s i = 10
    · rw [if_pos (by rw [h]; rfl), h]; rfl
    · rw [if_neg (n10 h), isReason_l0 s hs d k (i + 1) (by omega) (by omega), show ((10 : UInt8) == bAt s i) = false from beq_eq_false_iff_ne.2 (fun e => h e.symm), Bool.false_or]
theorem isReason_eq (s : ByteArray) (k : Nat) (hk : 202 ≤ k) : motleyref27_isReason.f k s = some (okText s.data.toList) := by
  unfold motleyref27_isReason.f okText
  have hz := size_len s
  by_cases h : s.size ≤ 200
  · have := isReason_l0 s h s.size k 0 (by omega) (by omega)
    rw [if_neg (by omega), show (0 : Int) = ((0 : Nat) : Int) from rfl, this, List.drop_zero, decide_eq_true (by omega), trimS_ends, Bool.true_and]
  · rw [if_pos (by omega), decide_eq_false (by omega)]; rfl
theorem isName_l0 (s : ByteArray) (hs : s.size ≤ 1000000) : ∀ (d k i : Nat), i + d = s.size → d + 202 < k → motleyref27_isName.l0 k s (i : Int) = some (okText s.data.toList && !(s.data.toList.drop i).contains 35)
  | 0, k, i, hi, hk => by
    obtain ⟨k, rfl⟩ : ∃ j, k = j + 1 := ⟨k - 1, by omega⟩
    have hz := size_len s
    simp only [motleyref27_isName.l0]
    rw [if_neg (by omega), List.drop_of_length_le (by omega), isReason_eq s k (by omega)]
    simp
  | d + 1, k, i, hi, hk => by
    obtain ⟨k, rfl⟩ : ∃ j, k = j + 1 := ⟨k - 1, by omega⟩
    simp only [motleyref27_isName.l0]
    rw [if_pos (by omega), if_pos (by omega), bt_bAt, w1 (by omega), drop_bAt s i (by omega), List.contains_cons]
    by_cases h : bAt s i = 35
    · rw [if_pos (by rw [h]; rfl), h]; simp
    · rw [if_neg (n35 h), isName_l0 s hs d k (i + 1) (by omega) (by omega), show ((35 : UInt8) == bAt s i) = false from beq_eq_false_iff_ne.2 (fun e => h e.symm), Bool.false_or]
theorem isName_eq (s : ByteArray) (hs : s.size ≤ 1000000) (k : Nat) (hk : 1000300 ≤ k) : motleyref27_isName.f k s = some (okName s.data.toList) := by
  have := isName_l0 s hs s.size k 0 (by omega) (by omega)
  rw [List.drop_zero] at this
  exact this
theorem bare_l1 : ∀ (n : Nat) (k : Nat) (s : ByteArray), s.size = n → n < k → n ≤ 1000000 → motleyref27_bare.l1 k s = some (mkD (bR s.data.toList))
  | 0, k, s, hn, hk, _ => by
    obtain ⟨k, rfl⟩ : ∃ j, k = j + 1 := ⟨k - 1, by omega⟩
    have hz := size_len s
    simp only [motleyref27_bare.l1]
    rw [if_neg (by omega)]
    have e : s.data.toList = [] := List.eq_nil_of_length_eq_zero (by omega)
    rw [← mkD_of s, e]; rfl
  | n + 1, k, s, hn, hk, hm => by
    obtain ⟨k, rfl⟩ : ∃ j, k = j + 1 := ⟨k - 1, by omega⟩
    have hz := size_len s
    simp only [motleyref27_bare.l1]
    rw [if_pos (by omega), w64 (by omega) (by omega), show (s.size : Int) - 1 = (n : Int) by omega, if_pos (by omega), if_pos (by omega), bt_bAt]
    have hsp : s.data.toList = s.data.toList.take n ++ [bAt s n] := by
      conv => lhs; rw [← List.take_append_drop n s.data.toList]
      rw [drop_bAt s n (by omega), List.drop_of_length_le (by omega)]
    have hx : (s.extract 0 n).data.toList = s.data.toList.take n := by rw [Lib.extract_data, List.drop_zero, Nat.sub_zero]
    rw [hsp, bR_snoc]
    by_cases h : bAt s n = 32
    · rw [if_pos (by rw [h]; rfl), if_pos (by omega), Int.toNat_natCast, if_pos h, bare_l1 n k (s.extract 0 n) (by rw [ByteArray.size_extract]; omega) (by omega) (by omega), hx]
    · rw [if_neg (n32 h), if_neg h, ← hsp, mkD_of]
theorem bare_l0 : ∀ (n : Nat) (k : Nat) (s : ByteArray), s.size = n → 2 * n + 2 < k → n ≤ 1000000 → motleyref27_bare.l0 k s = some (mkD (bR (bL s.data.toList)))
  | 0, k, s, hn, hk, _ => by
    obtain ⟨k, rfl⟩ : ∃ j, k = j + 1 := ⟨k - 1, by omega⟩
    have hz := size_len s
    simp only [motleyref27_bare.l0]
    rw [if_neg (by omega)]
    obtain ⟨k, rfl⟩ : ∃ j, k = j + 1 := ⟨k - 1, by omega⟩
    simp only [motleyref27_bare.j1]
    rw [bare_l1 0 k s hn (by omega) (by omega), show s.data.toList = [] from List.eq_nil_of_length_eq_zero (by omega)]; rfl
  | n + 1, k, s, hn, hk, hm => by
    obtain ⟨k, rfl⟩ : ∃ j, k = j + 1 := ⟨k - 1, by omega⟩
    have hz := size_len s
    simp only [motleyref27_bare.l0]
    rw [if_pos (by omega), if_pos (by omega), show (0 : Int) = ((0 : Nat) : Int) from rfl, bt_bAt]
    have hsp : s.data.toList = bAt s 0 :: s.data.toList.drop 1 := by have := drop_bAt s 0 (by omega); rwa [List.drop_zero] at this
    have hx : (s.extract 1 s.size).data.toList = s.data.toList.drop 1 := by
      rw [Lib.extract_data]; exact List.take_of_length_le (by rw [List.length_drop]; omega)
    by_cases h : bAt s 0 = 32
    · rw [if_pos (by rw [h]; rfl), if_pos (by omega), bare_l0 n k (s.extract 1 s.size) (by rw [ByteArray.size_extract]; omega) (by omega) (by omega), hx]
      conv => rhs; rw [hsp, bL_cons, if_pos h]
    · rw [if_neg (n32 h)]
      obtain ⟨k, rfl⟩ : ∃ j, k = j + 1 := ⟨k - 1, by omega⟩
      simp only [motleyref27_bare.j1]
      rw [bare_l1 (n + 1) k s hn (by omega) hm]
      conv => rhs; rw [hsp, bL_cons, if_neg h, ← hsp]
theorem bare_eq (s : ByteArray) (hs : s.size ≤ 1000000) (k : Nat) (hk : 2000100 ≤ k) : motleyref27_bare.f k s = some (mkD (trimS s.data.toList)) := by
  rw [trimS_def]; exact bare_l0 s.size k s rfl (by omega) hs
end Go.Proofs.YtallfkecjibpmaaGreatDoor.Q
