/- Of this claim's texts (PWr1): the declarations that the claim reaches (slimclaim.py). -/
import Derived.Test.YtallfkecjibpmaaDoorVRdH
import Derived.Test.YtallfkecjibpmaaDoorVRdW
import Derived.Test.YtallfkecjibpmaaDoorVR2
import Derived.Test.YtallfkecjibpmaaDoorVR3
set_option linter.unusedVariables false
set_option linter.unusedSimpArgs false
namespace Go.Proofs.YtallfkecjibpmaaDoor.Q
open Go.RowKit Go.Proofs.YtallfkecjibpmaaDoorW.PrintWords Go.Proofs.YtallfkecjibpmaaDoorW.PrintMore Go.Proofs.YtallfkecjibpmaaDoor.G Go.Proofs.YtallfkecjibpmaaDoor.Nm Go.Proofs.YtallfkecjibpmaaDoor.Rd Go.Proofs.YtallfkecjibpmaaDoor.R
theorem w64 {x : Int} (h0 : -9223372036854775808 ≤ x) (h1 : x ≤ 9223372036854775807) : wrap64 x = x := by unfold wrap64; omega
theorem w1 {i : Nat} (h : i ≤ 1000000000000) : wrap64 ((i : Int) + 1) = ((i + 1 : Nat) : Int) := by rw [w64 (by omega) (by omega)]; omega
def bL (l : List UInt8) : List UInt8 := l.dropWhile (· == 32)
def bR (l : List UInt8) : List UInt8 := (l.reverse.dropWhile (· == 32)).reverse
theorem bR_cons (c : UInt8) (r : List UInt8) : bR (c :: r) = if bR r = [] then (if c = 32 then [] else [c]) else c :: bR r := by
  unfold bR
  rw [List.reverse_cons, List.dropWhile_append]
  cases h : r.reverse.dropWhile (· == 32) with
  | nil =>
    simp only [List.isEmpty_nil, if_true, List.reverse_nil]
    rw [List.dropWhile_cons]
    by_cases hc : c = 32
    · subst hc; rfl
    · rw [if_neg (by simpa using hc), if_neg hc]; rfl
  | cons d q =>
    simp
theorem bL_cons (c : UInt8) (r : List UInt8) : bL (c :: r) = if c = 32 then bL r else c :: r := by
  unfold bL
  rw [List.dropWhile_cons]
  by_cases hc : c = 32
  · subst hc; rfl
  · rw [if_neg (by simpa using hc), if_neg hc]
theorem b_swap : ∀ l : List UInt8, bL (bR l) = bR (bL l)
  | [] => rfl
  | c :: r => by
    have ih := b_swap r
    rw [bR_cons, bL_cons]
    by_cases hc : c = 32
    · subst hc
      rw [if_pos rfl, if_pos rfl, ← ih]
      by_cases hr : bR r = []
      · rw [if_pos hr, hr]
      · rw [if_neg hr, bL_cons, if_pos rfl]
    · rw [if_neg hc, if_neg hc]
      by_cases hr : bR r = []
      · rw [if_pos hr, bL_cons, if_neg hc, bR_cons, if_pos hr, if_neg hc]
      · rw [if_neg hr, bL_cons, if_neg hc, bR_cons, if_neg hr]
theorem trimS_def (l : List UInt8) : trimS l = bR (bL l) := b_swap l
theorem bL_len (l : List UInt8) : (bL l).length ≤ l.length := (List.dropWhile_sublist _).length_le
theorem bR_len (l : List UInt8) : (bR l).length ≤ l.length := by
  unfold bR; rw [List.length_reverse]
  refine Nat.le_trans (List.dropWhile_sublist _).length_le ?_
  rw [List.length_reverse]; exact Nat.le_refl _
theorem bR_snoc (l : List UInt8) (c : UInt8) : bR (l ++ [c]) = if c = 32 then bR l else l ++ [c] := by
  unfold bR
  rw [List.reverse_append, List.reverse_singleton, List.singleton_append, List.dropWhile_cons]
  by_cases hc : c = 32
  · subst hc; rfl
  · rw [if_neg (by simpa using hc), if_neg hc, List.reverse_cons, List.reverse_reverse]
def endsOk (l : List UInt8) : Bool := l.isEmpty || (!(l.headD 0 == 32) && !(l.getLastD 0 == 32))
theorem trimS_ends (l : List UInt8) : (trimS l == l) = endsOk l := by
  rw [trimS_def]
  rcases List.eq_nil_or_concat l with rfl | ⟨m, d, rfl⟩
  · rfl
  · rw [List.concat_eq_append]
    have hl : (m ++ [d]).getLastD 0 = d := by simp
    unfold endsOk
    rw [hl, show (m ++ [d]).isEmpty = false by simp, Bool.false_or]
    cases hm : m ++ [d] with
    | nil => simp at hm
    | cons c r =>
      have hh : (c :: r).headD 0 = c := rfl
      rw [hh, bL_cons]
      by_cases hc : c = 32
      · rw [if_pos hc]
        have : bR (bL r) ≠ c :: r := fun h => by
          have h1 := congrArg List.length h
          have h2 := bR_len (bL r)
          have h3 := bL_len r
          rw [List.length_cons] at h1
          omega
        rw [beq_eq_false_iff_ne.2 this, hc]; rfl
      · rw [if_neg hc, ← hm, bR_snoc]
        by_cases hd : d = 32
        · rw [if_pos hd]
          have : bR m ≠ m ++ [d] := fun h => by
            have h1 := congrArg List.length h
            have h2 := bR_len m
            rw [List.length_append, List.length_singleton] at h1
            omega
          rw [beq_eq_false_iff_ne.2 this, hd]; simp
        · rw [if_neg hd, beq_self_eq_true, beq_eq_false_iff_ne.2 hc, beq_eq_false_iff_ne.2 hd]; rfl
theorem getLastD_bAt (s : ByteArray) (h : 0 < s.size) : s.data.toList.getLastD 0 = bAt s (s.size - 1) := by
  unfold bAt
  rw [size_len] at h ⊢
  rw [List.getD_eq_getElem?_getD, ← List.getLast?_eq_getElem?]
  cases hl : s.data.toList with
  | nil => rw [hl] at h; exact absurd h (by simp)
  | cons c r =>
    simp [List.getLastD_eq_getLast?, List.getLast?_cons]
theorem n32 {a : UInt8} (h : ¬ a = 32) : ¬ ((a.toNat : Int) = 32) := fun e => h (UInt8.toNat_inj.1 (by have : (32 : UInt8).toNat = 32 := rfl; omega))
theorem n10 {a : UInt8} (h : ¬ a = 10) : ¬ ((a.toNat : Int) = 10) := fun e => h (UInt8.toNat_inj.1 (by have : (10 : UInt8).toNat = 10 := rfl; omega))
theorem n35 {a : UInt8} (h : ¬ a = 35) : ¬ ((a.toNat : Int) = 35) := fun e => h (UInt8.toNat_inj.1 (by have : (35 : UInt8).toNat = 35 := rfl; omega))
theorem isReason_l0 (s : ByteArray) (hs : s.size ≤ 200) : ∀ (d k i : Nat), i + d = s.size → d < k → motleyref27_isReason.l0 k s (i : Int) = some (!(s.data.toList.drop i).contains 10 && endsOk s.data.toList)
  | 0, k, i, hi, hk => by
    obtain ⟨k, rfl⟩ : ∃ j, k = j + 1 := ⟨k - 1, by omega⟩
    have hz := size_len s
    simp only [motleyref27_isReason.l0]
    rw [if_neg (by omega), List.drop_of_length_le (by omega)]
    show _ = some (true && endsOk s.data.toList)
    rw [Bool.true_and, toL_data]
    by_cases hn : s.data.toList = []
    · rw [if_pos hn, hn]; rfl
    · have hp : 0 < s.size := by
        rw [hz]
        cases h : s.data.toList with
        | nil => exact absurd h hn
        | cons c r => simp
      rw [if_neg hn, if_pos (by omega), show (0 : Int) = ((0 : Nat) : Int) from rfl, bt_bAt, w64 (by omega) (by omega), show (s.size : Int) - 1 = ((s.size - 1 : Nat) : Int) by omega, bt_bAt]
      unfold endsOk
      rw [show s.data.toList.isEmpty = false by rw [List.isEmpty_eq_false_iff]; exact hn, Bool.false_or, headD_bAt, getLastD_bAt s hp]
      by_cases h1 : bAt s 0 = 32
      · rw [if_pos (by rw [h1]; rfl), h1]; rfl
      · rw [if_neg (n32 h1), if_pos (by omega), if_pos (by omega), beq_eq_false_iff_ne.2 h1]
        congr 1
        show _ = (true && _)
        rw [Bool.true_and]
        by_cases h2 : bAt s (s.size - 1) = 32
        · rw [h2]; rfl
        · rw [beq_eq_false_iff_ne.2 h2]
          exact bne_iff_ne.2 (n32 h2)
  | d + 1, k, i, hi, hk => by
    obtain ⟨k, rfl⟩ : ∃ j, k = j + 1 := ⟨k - 1, by omega⟩
    simp only [motleyref27_isReason.l0]
    rw [if_pos (by omega), if_pos (by omega), bt_bAt, w1 (by omega), drop_bAt s i (by omega), List.contains_cons]
    by_cases h : bAt s i = 10
    · rw [if_pos (by rw [h]; rfl), h]; rfl
    · rw [if_neg (n10 h), isReason_l0 s hs d k (i + 1) (by omega) (by omega), show ((10 : UInt8) == bAt s i) = false from beq_eq_false_iff_ne.2 (fun e => h e.symm), Bool.false_or]
theorem isReason_eq (s : ByteArray) (k : Nat) (hk : 202 ≤ k) : motleyref27_isReason.f k s = some (okText s.data.toList) := by
  unfold motleyref27_isReason.f okText
  have hz := size_len s
  by_cases h : s.size ≤ 200
  · have := isReason_l0 s h s.size k 0 (by omega) (by omega)
    rw [if_neg (by omega), show (0 : Int) = ((0 : Nat) : Int) from rfl, this, List.drop_zero, decide_eq_true (by omega), trimS_ends, Bool.true_and]
  · rw [if_pos (by omega), decide_eq_false (by omega)]; rfl
theorem isName_l0 (s : ByteArray) (hs : s.size ≤ 1000000) : ∀ (d k i : Nat), i + d = s.size → d + 202 < k → motleyref27_isName.l0 k s (i : Int) = some (okText s.data.toList && !(s.data.toList.drop i).contains 35)
  | 0, k, i, hi, hk => by
    obtain ⟨k, rfl⟩ : ∃ j, k = j + 1 := ⟨k - 1, by omega⟩
    have hz := size_len s
    simp only [motleyref27_isName.l0]
    rw [if_neg (by omega), List.drop_of_length_le (by omega), isReason_eq s k (by omega)]
    simp
  | d + 1, k, i, hi, hk => by
    obtain ⟨k, rfl⟩ : ∃ j, k = j + 1 := ⟨k - 1, by omega⟩
    simp only [motleyref27_isName.l0]
    rw [if_pos (by omega), if_pos (by omega), bt_bAt, w1 (by omega), drop_bAt s i (by omega), List.contains_cons]
    by_cases h : bAt s i = 35
    · rw [if_pos (by rw [h]; rfl), h]; simp
    · rw [if_neg (n35 h), isName_l0 s hs d k (i + 1) (by omega) (by omega), show ((35 : UInt8) == bAt s i) = false from beq_eq_false_iff_ne.2 (fun e => h e.symm), Bool.false_or]
theorem isName_eq (s : ByteArray) (hs : s.size ≤ 1000000) (k : Nat) (hk : 1000300 ≤ k) : motleyref27_isName.f k s = some (okName s.data.toList) := by
  have := isName_l0 s hs s.size k 0 (by omega) (by omega)
  rw [List.drop_zero] at this
  exact this
theorem segs_cut (c : UInt8) : ∀ (a b : List UInt8), ¬ c ∈ a → Sl.segs c (a ++ c :: b) = a :: Sl.segs c b
  | [], b, _ => Sl.segs_hit c b
  | d :: a, b, h => by
    have hd : ¬ d = c := fun e => h (by rw [e]; simp)
    obtain ⟨x, r, h1, h2⟩ := Sl.segs_miss hd (a ++ c :: b)
    rw [segs_cut c a b (fun e => h (List.mem_cons_of_mem _ e))] at h1
    injection h1 with h3 h4
    rw [List.cons_append, h2, ← h3, ← h4]
theorem segs_none (c : UInt8) (a : List UInt8) (h : ¬ c ∈ a) : Sl.segs c a = [a] := Sl.segs_free (List.count_eq_zero.2 h)
def toR (t : Tst) : S86 := ⟨t.ok, mkD t.name, t.dir, mkD t.reason⟩
theorem rd53_get (L : List S86) (i : Nat) (h : i < L.length) : rd_T86 L (i : Int) = L[i] := by
  unfold rd_T86
  rw [Int.toNat_natCast, List.getD_eq_getElem?_getD, List.getElem?_eq_getElem h]; rfl
theorem rd45_get (L : List S57) (i : Nat) (h : i < L.length) : rd_T57 L (i : Int) = L[i] := by
  unfold rd_T57
  rw [Int.toNat_natCast, List.getD_eq_getElem?_getD, List.getElem?_eq_getElem h]; rfl
theorem same_l0 (ts : List Tst) (hn : ts.length ≤ 1000000) : ∀ (d k i : Nat), i + d = ts.length → d < k → motleylaw27_same.l0 k (ts.map toS) (ts.map toR) (i : Int) = some true
  | 0, k, i, hi, hk => by
    obtain ⟨k, rfl⟩ : ∃ j, k = j + 1 := ⟨k - 1, by omega⟩
    rw [motleylaw27_same.l0, List.length_map, if_neg (by omega)]
  | d + 1, k, i, hi, hk => by
    obtain ⟨k, rfl⟩ : ∃ j, k = j + 1 := ⟨k - 1, by omega⟩
    have hlt : i < ts.length := by omega
    rw [motleylaw27_same.l0, List.length_map, if_pos (by omega), if_pos (by omega), List.length_map, if_pos (by omega),
      rd45_get _ i (by rw [List.length_map]; exact hlt), rd53_get _ i (by rw [List.length_map]; exact hlt), List.getElem_map, List.getElem_map, w1 (by omega)]
    rw [if_neg (by simp [toS, toR])]
    exact same_l0 ts hn d k (i + 1) (by omega) (by omega)
theorem same_eq (ts : List Tst) (hn : ts.length ≤ 1000000) (k : Nat) (hk : 1000001 ≤ k) : motleylaw27_same.f k (ts.map toS) (ts.map toR) = some true := by
  unfold motleylaw27_same.f
  rw [List.length_map, List.length_map, if_pos rfl]
  exact same_l0 ts hn ts.length k 0 (by omega) (by omega)
end Go.Proofs.YtallfkecjibpmaaDoor.Q
