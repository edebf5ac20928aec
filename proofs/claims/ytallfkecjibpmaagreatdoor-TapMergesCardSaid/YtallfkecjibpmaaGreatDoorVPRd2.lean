/- Of this claim's texts (PRd2): the declarations that the claim reaches (slimclaim.py). -/
import Derived.Test.YtallfkecjibpmaaGreatDoorVPRd1
set_option linter.unusedVariables false
set_option linter.unusedSimpArgs false
namespace Go.Proofs.YtallfkecjibpmaaGreatDoor.Q
open Go.RowKit Go.Proofs.YtallfkecjibpmaaGreatDoorW.PrintWords Go.Proofs.YtallfkecjibpmaaGreatDoor.G Go.Proofs.YtallfkecjibpmaaGreatDoor.Nm Go.Proofs.YtallfkecjibpmaaGreatDoor.Rd Go.Proofs.YtallfkecjibpmaaGreatDoor.R
theorem tw_yes (p : UInt8 → Bool) : ∀ (l : List UInt8) (i : Nat), i < (l.takeWhile p).length → p (l.getD i 0) = true
  | [], i, h => by simp at h
  | c :: l, i, h => by
    rw [List.takeWhile_cons] at h
    by_cases hc : p c = true
    · rw [if_pos hc] at h
      match i, h with
      | 0, _ => exact hc
      | i + 1, h => exact tw_yes p l i (by simpa using h)
    · rw [if_neg hc] at h; simp at h
theorem tw_no (p : UInt8 → Bool) : ∀ (l : List UInt8), (l.takeWhile p).length < l.length → p (l.getD (l.takeWhile p).length 0) = false
  | [], h => by simp at h
  | c :: l, h => by
    rw [List.takeWhile_cons] at h ⊢
    by_cases hc : p c = true
    · rw [if_pos hc] at h ⊢
      exact tw_no p l (by simpa using h)
    · rw [if_neg hc]; simpa using hc
theorem tw_take (p : UInt8 → Bool) (l : List UInt8) : l.take (l.takeWhile p).length = l.takeWhile p := by
  conv => lhs; rw [tw_drop p l]
  rw [List.take_append_of_le_length (by rw [← tw_drop p l]; exact Nat.le_refl _)]
  rw [← tw_drop p l, List.take_length]
theorem numRm_le (l : List UInt8) (m : Nat) : (numRm l m).2 ≤ l.length := by
  unfold numRm
  split
  · exact Nat.zero_le _
  · exact (List.takeWhile_sublist _).length_le
theorem number_fin (s : ByteArray) (m k : Nat) (hm : m ≤ 9) (hk : 20 ≤ k) (n : Nat) (hn : n = (s.data.toList.takeWhile isDb).length) (hs : s.size ≤ 1000000) :
    (if (n : Int) = 0 then some ((0 : Int), (0 : Int)) else (if (n : Int) > (m : Int) then (some (0, 0)) else (if (n : Int) > 1 then (if 0 < (s.size : Int) then (if (bt s 0) = 48 then (some (0, 0)) else (if (n : Int) ≤ (s.size : Int) then ((motleyref27_digits.f k (s.extract 0 ((n : Int) : Int).toNat)).bind fun t104 => (some (t104, (n : Int)))) else (none))) else (none)) else (if (n : Int) ≤ (s.size : Int) then ((motleyref27_digits.f k (s.extract 0 ((n : Int) : Int).toNat)).bind fun t105 => (some (t105, (n : Int)))) else (none))))) = some ((numRm s.data.toList m).1, ((numRm s.data.toList m).2 : Int)) := by
  have hz := size_len s
  have hle : n ≤ s.size := by rw [hn, hz]; exact (List.takeWhile_sublist _).length_le
  have hall : ∀ c ∈ s.data.toList.takeWhile isDb, isD c := fun c hc => by
    have := List.all_eq_true.1 (List.all_takeWhile (l := s.data.toList) (p := isDb)) c hc
    exact of_decide_eq_true this
  have hx : (s.extract 0 n).data.toList = s.data.toList.takeWhile isDb := by
    rw [Lib.extract_data, List.drop_zero, Nat.sub_zero, hn, tw_take]
  unfold numRm
  rw [← hn]
  by_cases h0 : n = 0
  · have hT : s.data.toList.takeWhile isDb = [] := List.eq_nil_of_length_eq_zero (by omega)
    rw [if_pos (by omega), if_pos (.inl hT)]; rfl
  · have hT : ¬ s.data.toList.takeWhile isDb = [] := fun h => h0 (by rw [hn, h]; rfl)
    rw [if_neg (by omega)]
    by_cases h1 : m < n
    · rw [if_pos (by omega), if_pos (.inr (.inl h1))]; rfl
    · rw [if_neg (by omega)]
      have hd := digits_eq (s.extract 0 n) _ hx hall (by rw [← hn]; omega) k hk
      have hh : (s.data.toList.takeWhile isDb).headD 0 = bAt s 0 := by
        rw [← headD_bAt]
        cases hl : s.data.toList with
        | nil => rfl
        | cons c r =>
          rw [hl] at hT
          rw [List.takeWhile_cons] at hT ⊢
          by_cases hc : isDb c = true
          · rw [if_pos hc]; rfl
          · rw [if_neg hc] at hT; exact absurd rfl hT
      by_cases h2 : 1 < n
      · rw [if_pos (by omega), if_pos (by omega), show (0 : Int) = ((0 : Nat) : Int) from rfl, bt_bAt]
        by_cases h3 : bAt s 0 = 48
        · rw [if_pos (by rw [h3]; rfl), if_pos (.inr (.inr ⟨h2, by rw [hh]; exact h3⟩))]
          first | done | rfl
        · rw [if_neg (n48 h3), if_pos (by omega), Int.toNat_natCast, hd, if_neg (by
            rintro (h | h | h)
            · exact hT h
            · exact h1 h
            · exact h3 (by rw [← hh]; exact h.2))]; rfl
      · rw [if_neg (by omega), if_pos (by omega), Int.toNat_natCast, hd, if_neg (by
            rintro (h | h | h)
            · exact hT h
            · exact h1 h
            · exact h2 h.1)]; rfl
theorem number_l0 (s : ByteArray) (m : Nat) (hm : m ≤ 9) (hs : s.size ≤ 1000000) : ∀ (d k i : Nat), i + d = (s.data.toList.takeWhile isDb).length → d + 21 < k → motleyref27_number.l0 k s (m : Int) (i : Int) = some ((numRm s.data.toList m).1, ((numRm s.data.toList m).2 : Int))
  | 0, k, i, hi, hk => by
    obtain ⟨k, rfl⟩ : ∃ j, k = j + 1 := ⟨k - 1, by omega⟩
    have hz := size_len s
    have hle : i ≤ s.size := by rw [hz, show i = (s.data.toList.takeWhile isDb).length by omega]; exact (List.takeWhile_sublist _).length_le
    have hf := number_fin s m k hm (by omega) i (by omega) hs
    simp only [motleyref27_number.l0]
    by_cases h : i < s.size
    · have hb : isDb (bAt s i) = false := by
        have h' := tw_no isDb s.data.toList (by omega)
        rw [show (s.data.toList.takeWhile isDb).length = i by omega] at h'
        exact h'
      rw [if_pos (by omega), if_pos (by omega), bt_bAt, isDigit_eq, hb]
      simp only [Option.bind_some, Bool.false_eq_true, if_false]
      exact hf
    · rw [if_neg (by omega)]
      have hp : (0 : Int) ≤ (i : Int) := by omega
      simp only [if_pos hp]
      exact hf
  | d + 1, k, i, hi, hk => by
    obtain ⟨k, rfl⟩ : ∃ j, k = j + 1 := ⟨k - 1, by omega⟩
    have hz := size_len s
    have hle : (s.data.toList.takeWhile isDb).length ≤ s.size := by rw [hz]; exact (List.takeWhile_sublist _).length_le
    have hb : isDb (bAt s i) = true := tw_yes isDb s.data.toList i (by omega)
    simp only [motleyref27_number.l0]
    rw [if_pos (by omega), if_pos (by omega), bt_bAt, isDigit_eq, hb]
    simp only [Option.bind_some, if_true]
    rw [w1 (by omega)]
    exact number_l0 s m hm hs d k (i + 1) (by omega) (by omega)
theorem number_eq (s : ByteArray) (m : Nat) (hm : m ≤ 9) (hs : s.size ≤ 1000000) (k : Nat) (hk : 1000100 ≤ k) : motleyref27_number.f k s (m : Int) = some ((numRm s.data.toList m).1, ((numRm s.data.toList m).2 : Int)) := by
  have hz := size_len s
  have hle : (s.data.toList.takeWhile isDb).length ≤ s.size := by rw [hz]; exact (List.takeWhile_sublist _).length_le
  exact number_l0 s m hm hs (s.data.toList.takeWhile isDb).length k 0 (by omega) (by omega)
theorem ext_drop (s : ByteArray) (n : Nat) : (s.extract n s.size).data.toList = s.data.toList.drop n := by
  rw [Lib.extract_data]; exact List.take_of_length_le (by rw [List.length_drop, size_len]; exact Nat.le_refl _)
theorem plan_f (s : ByteArray) (hs : s.size ≤ 1000000) (k : Nat) (hk : 1000100 ≤ k) : ∃ (n : Int) (b : Bool), motleyref27_plan.f k s = some (n, b, (planP s.data.toList).isSome) ∧ ∀ x, planP s.data.toList = some x → x = (n, b) := by
  rw [← plan_eq]
  unfold motleyref27_plan.f planR
  have hz := size_len s
  rw [begins_eq]
  simp only [Option.bind_some]
  by_cases hp : Lib.hasPrefix s.data.toList [49, 46, 46] = true
  · rw [if_pos hp, if_pos hp, begins_eq, show Lib.hasPrefix s.data.toList (⟨#[49, 46, 46, 48, 32, 35, 32, 83, 75, 73, 80, 32]⟩ : ByteArray).data.toList = Lib.hasPrefix s.data.toList (skipW ++ [32]) from rfl, toL_data]
    simp only [Option.bind_some]
    by_cases hs1 : s.data.toList = skipW
    · have hsk : skipS s.data.toList = true := by unfold skipS; rw [hs1]; rfl
      rw [if_pos (show s.data.toList = [49, 46, 46, 48, 32, 35, 32, 83, 75, 73, 80] from hs1), if_pos hsk]
      exact ⟨0, true, rfl, fun x hx => by cases hx; rfl⟩
    · rw [if_neg (show ¬ s.data.toList = [49, 46, 46, 48, 32, 35, 32, 83, 75, 73, 80] from hs1)]
      by_cases hs2 : Lib.hasPrefix s.data.toList (skipW ++ [32]) = true
      · have hsk : skipS s.data.toList = true := by unfold skipS; rw [hs2]; simp
        rw [if_pos hs2, if_pos hsk]
        exact ⟨0, true, rfl, fun x hx => by cases hx; rfl⟩
      · have hsk : ¬ skipS s.data.toList = true := by
          unfold skipS
          rw [Bool.or_eq_true, beq_iff_eq]
          rintro (h | h)
          · exact hs1 h
          · exact hs2 h
        have h3 : 3 ≤ s.size := by
          obtain ⟨r, hr⟩ := (hp_iff _ _).1 hp
          rw [hz, hr]; simp
        have hnm := number_eq (s.extract 3 s.size) 3 (by omega) (by rw [ByteArray.size_extract]; omega) k hk
        rw [ext_drop] at hnm
        have hle := numRm_le (s.data.toList.drop 3) 3
        rw [if_neg hs2, if_neg hsk, if_pos (by omega), show (3 : Int) = ((3 : Nat) : Int) from rfl, hnm]
        simp only [Option.bind_some]
        generalize numRm (s.data.toList.drop 3) 3 = q at *
        obtain ⟨q1, q2⟩ := q
        simp only at hle ⊢
        rw [List.length_drop] at hle
        rw [w64 (by omega) (by omega)]
        by_cases h0 : 0 < q2
        · rw [if_pos (by omega)]
          refine ⟨q1, false, ?_, ?_⟩
          · congr 2
            rw [List.length_drop]
            by_cases hq : q2 = s.data.toList.length - 3
            · rw [if_pos ⟨h0, hq⟩, beq_iff_eq.2 (by omega)]; rfl
            · rw [if_neg (fun h => hq h.2), beq_eq_false_iff_ne.2 (by omega)]; rfl
          · intro x hx
            split at hx
            · cases hx; rfl
            · cases hx
        · rw [if_neg (by omega), if_neg (fun h => h0 h.1)]
          exact ⟨q1, false, rfl, fun x hx => by cases hx⟩
  · rw [if_neg hp, if_neg hp]
    exact ⟨0, false, rfl, fun x hx => by cases hx⟩
theorem segs_cut (c : UInt8) : ∀ (a b : List UInt8), ¬ c ∈ a → Sl.segs c (a ++ c :: b) = a :: Sl.segs c b
  | [], b, _ => Sl.segs_hit c b
  | d :: a, b, h => by
    have hd : ¬ d = c := fun e => h (by rw [e]; simp)
    obtain ⟨x, r, h1, h2⟩ := Sl.segs_miss hd (a ++ c :: b)
    rw [segs_cut c a b (fun e => h (List.mem_cons_of_mem _ e))] at h1
    injection h1 with h3 h4
    rw [List.cons_append, h2, ← h3, ← h4]
theorem segs_none (c : UInt8) (a : List UInt8) (h : ¬ c ∈ a) : Sl.segs c a = [a] := Sl.segs_free (List.count_eq_zero.2 h)
theorem lines_l0 (s : ByteArray) (hs : s.size ≤ 1000000) : ∀ (d k : Nat) (acc : List ByteArray) (at_ i : Nat), i + d = s.size → at_ ≤ i → ¬ (10 : UInt8) ∈ (s.data.toList.drop at_).take (i - at_) → d + 2 < k → acc.length ≤ i →
    ∃ r, motleyref27_lines.l0 k s acc (at_ : Int) (i : Int) = some r ∧ r.map (·.data.toList) = acc.map (·.data.toList) ++ Sl.segs 10 (s.data.toList.drop at_)
  | 0, k, acc, at_, i, hi, ha, hno, hk, hl => by
    obtain ⟨k, rfl⟩ : ∃ j, k = j + 2 := ⟨k - 2, by omega⟩
    have hz := size_len s
    have he : i = s.size := by omega
    subst he
    refine ⟨acc ++ [s.extract at_ s.size], ?_, ?_⟩
    · rw [motleyref27_lines.l0]
      rw [if_pos (by omega), if_pos rfl, if_pos (by omega), if_pos (by omega), if_pos (by omega), w1 (by omega), motleyref27_lines.l0, if_neg (by omega), Int.toNat_natCast, Int.toNat_natCast]
    · rw [List.map_append, List.map_singleton, ext_drop, segs_none]
      rw [List.take_of_length_le (by rw [List.length_drop]; omega)] at hno
      exact hno
  | d + 1, k, acc, at_, i, hi, ha, hno, hk, hl => by
    obtain ⟨k, rfl⟩ : ∃ j, k = j + 1 := ⟨k - 1, by omega⟩
    have hz := size_len s
    have hsp : (s.data.toList.drop at_).drop (i - at_) = bAt s i :: s.data.toList.drop (i + 1) := by
      rw [List.drop_drop, show at_ + (i - at_) = i by omega, drop_bAt s i (by omega)]
    have hjoin : s.data.toList.drop at_ = (s.data.toList.drop at_).take (i - at_) ++ bAt s i :: s.data.toList.drop (i + 1) := by
      conv => lhs; rw [← List.take_append_drop (i - at_) (s.data.toList.drop at_)]
      rw [hsp]
    by_cases h : bAt s i = 10
    · obtain ⟨r, h1, h2⟩ := lines_l0 s hs d k (acc ++ [s.extract at_ i]) (i + 1) (i + 1) (by omega) (Nat.le_refl _) (by simp) (by omega) (by simp; omega)
      refine ⟨r, ?_, ?_⟩
      · rw [motleyref27_lines.l0, if_pos (by omega), if_neg (by omega), if_pos (by omega), if_pos (by omega), bt_bAt, if_pos (by rw [h]; rfl), if_pos (by omega), if_pos (by omega), if_pos (by omega), w1 (by omega), Int.toNat_natCast, Int.toNat_natCast]
        exact h1
      · rw [h2, List.map_append, List.map_singleton, List.append_assoc, List.singleton_append, Lib.extract_data]
        conv => rhs; rw [hjoin, h, segs_cut 10 _ _ hno]
    · obtain ⟨r, h1, h2⟩ := lines_l0 s hs d k acc at_ (i + 1) (by omega) (by omega) (by
        have e : (s.data.toList.drop at_).take (i + 1 - at_) = (s.data.toList.drop at_).take (i - at_) ++ [bAt s i] := by
          rw [show i + 1 - at_ = (i - at_) + 1 by omega]
          have hlt : i - at_ < (s.data.toList.drop at_).length := by rw [List.length_drop]; omega
          rw [List.take_succ_eq_append_getElem hlt]
          congr 2
          have := congrArg (fun l => l.head?) hsp
          rw [List.head?_drop, List.getElem?_eq_getElem hlt] at this
          exact Option.some.inj this
        rw [e, List.mem_append, List.mem_singleton]
        rintro (h' | h')
        · exact hno h'
        · exact h h'.symm) (by omega) (by omega)
      refine ⟨r, ?_, h2⟩
      rw [motleyref27_lines.l0, if_pos (by omega), if_neg (by omega), if_pos (by omega), if_pos (by omega), bt_bAt, if_neg (n10 h), w1 (by omega)]
      exact h1
theorem data_inj : ∀ {a b : List ByteArray}, a.map (·.data.toList) = b.map (·.data.toList) → a = b
  | [], [], _ => rfl
  | [], _ :: _, h => by simp at h
  | _ :: _, [], h => by simp at h
  | x :: a, y :: b, h => by
    rw [List.map_cons, List.map_cons] at h
    injection h with h1 h2
    rw [data_inj h2, ← mkD_of x, h1, mkD_of]
theorem lines_eq (s : ByteArray) (hs : s.size ≤ 1000000) (k : Nat) (hk : 1000100 ≤ k) : motleyref27_lines.f k s = some (lns s) := by
  obtain ⟨r, h1, h2⟩ := lines_l0 s hs s.size k [] 0 0 (by omega) (Nat.le_refl _) (by simp) (by omega) (Nat.le_refl _)
  rw [List.drop_zero, List.map_nil, List.nil_append, ← lns_data] at h2
  rw [← data_inj h2]
  exact h1
end Go.Proofs.YtallfkecjibpmaaGreatDoor.Q
