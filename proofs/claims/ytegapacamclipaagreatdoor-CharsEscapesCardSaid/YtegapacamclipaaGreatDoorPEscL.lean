/- CharsEscapes: plain facts on escaped texts: cut, braces, what an escaped text means. -/
import Derived.Test.YtegapacamclipaaGreatDoorUnesc
set_option linter.unusedVariables false
set_option linter.unusedSimpArgs false
namespace Go.Proofs.YtegapacamclipaaGreatDoor.Q
open Go.RowKit Go.Proofs.YtegapacamclipaaGreatDoorW.PrintWords Go.Proofs.YtegapacamclipaaGreatDoor.Tx Go.Proofs.YtegapacamclipaaGreatDoor.G Go.Lib
theorem cut_nil (x : UInt8) : Lib.cut [] [x] = ([], [], false) := rfl
theorem cut_hit (x : UInt8) (r : List UInt8) : Lib.cut (x :: r) [x] = ([], r, true) := by
  unfold Lib.cut
  rw [index_one]
  simp [Lib.indexByte]
theorem cut_miss (c x : UInt8) (r : List UInt8) (h : c ≠ x) : Lib.cut (c :: r) [x] = (c :: (Lib.cut r [x]).1, (Lib.cut r [x]).2.1, (Lib.cut r [x]).2.2) := by
  unfold Lib.cut
  rw [index_one, index_one]
  have hg := Lib.indexByte_ge r x
  have e : Lib.indexByte (c :: r) x = if Lib.indexByte r x == -1 then -1 else Lib.indexByte r x + 1 := by
    rw [Lib.indexByte, if_neg (by simpa using h)]
  rw [e]
  by_cases h1 : Lib.indexByte r x = -1
  · have hp : (Lib.indexByte r x == -1) = true := by simpa using h1
    rw [if_pos hp, if_neg (by decide), if_neg (show ¬ 0 ≤ Lib.indexByte r x by omega)]
  · have hn : ¬ (Lib.indexByte r x == -1) = true := by simpa using h1
    rw [if_neg hn]
    obtain ⟨i, hi⟩ := Int.eq_ofNat_of_zero_le (show 0 ≤ Lib.indexByte r x by omega)
    rw [hi, if_pos (by omega), if_pos (by omega)]
    have e2 : ((i : Int) + 1).toNat = i + 1 := by omega
    simp only [e2, Int.toNat_natCast, List.take_succ_cons, List.length_cons, List.length_nil]
    rw [show i + 1 + (0 + 1) = (i + (0 + 1)) + 1 by omega, List.drop_succ_cons]
/-- What stands in braces, as the reference reads it: m digits at most. -/
def bl : Nat → List UInt8 → Nat → Nat → Option (Nat × Nat)
  | _, [], _, _ => none
  | m, c :: r, v, n =>
    if 0 < m ∧ isH c = true then bl (m - 1) r (v * 16 + hv c) (n + 1)
    else if n = 0 then none else if c = 125 then (if chr (v : Int) then some (v, n) else none) else none
theorem bl_eq : ∀ (r : List UInt8) (m v n : Nat), bl m r v n = if (Lib.cut r [125]).2.2 = true ∧ 1 ≤ n + (Lib.cut r [125]).1.length ∧ (Lib.cut r [125]).1.length ≤ m ∧ (Lib.cut r [125]).1.all isH = true ∧ chr (hval (Lib.cut r [125]).1 v : Int) then some (hval (Lib.cut r [125]).1 v, n + (Lib.cut r [125]).1.length) else none
  | [], m, v, n => by rw [bl, cut_nil]; simp
  | c :: r, m, v, n => by
    by_cases h : c = 125
    · subst h
      rw [cut_hit, bl, if_neg (by rintro ⟨_, h⟩; exact absurd h (by decide))]
      simp only [List.length_nil, List.all_nil, Nat.add_zero, hval, List.foldl_nil, true_and, if_true]
      by_cases h0 : n = 0
      · rw [if_pos h0, if_neg (by omega)]
      · rw [if_neg h0]
        by_cases hc : chr (v : Int)
        · rw [if_pos hc, if_pos ⟨by omega, by omega, hc⟩]
        · rw [if_neg hc, if_neg (fun h => hc h.2.2)]
    · rw [cut_miss c 125 r h, bl]
      simp only [List.length_cons, List.all_cons, Bool.and_eq_true]
      by_cases h1 : 0 < m ∧ isH c = true
      · rw [if_pos h1, bl_eq r (m - 1) (v * 16 + hv c) (n + 1)]
        have e : hval (c :: (Lib.cut r [125]).1) v = hval (Lib.cut r [125]).1 (v * 16 + hv c) := rfl
        rw [e, show n + 1 + (Lib.cut r [125]).1.length = n + ((Lib.cut r [125]).1.length + 1) by omega]
        congr 1
        apply propext
        constructor
        · rintro ⟨a, b, c', d, e⟩; exact ⟨a, b, by omega, ⟨h1.2, d⟩, e⟩
        · rintro ⟨a, b, c', d, e⟩; exact ⟨a, b, by omega, d.2, e⟩
      · rw [if_neg h1, if_neg (show ¬ (_ ∧ _ ∧ _ ∧ _ ∧ _) from fun ⟨_, _, c', d, _⟩ => h1 ⟨by omega, d.1⟩)]
        simp only [if_neg h, ite_self]
theorem hexR_zero (l : List UInt8) (h : (hexR l).2 = 0) : hexR l = (0, 0) := by
  unfold hexR hexRes at h ⊢
  split at h
  · simp only at h; omega
  · rename_i h2; rw [if_neg h2]
def brOut : Option (Nat × Nat) → Int × Int
  | some (v, n) => ((v : Int), (n : Int) + 3)
  | none => (0, 0)
theorem hexR_bl (r : List UInt8) : hexR (120 :: 123 :: r) = brOut (bl 6 r 0 0) := by
  have e : Lib.trimPrefix (120 :: 123 :: r) [120, 123] = r := by
    unfold Lib.trimPrefix Lib.hasPrefix
    rw [if_pos (by rfl)]
    rfl
  unfold hexR
  rw [e, bl_eq, show Lib.hasPrefix (120 :: 123 :: r) [120, 123] = true from rfl]
  unfold hexRes
  simp only [true_and, Nat.zero_add]
  split
  · rfl
  · rfl
theorem unF_nil (k : Nat) (acc : List UInt8) : unF (k + 1) [] acc = some acc := by
  rw [unF, cut_nil]; simp
theorem unF_plain (k : Nat) (c : UInt8) (l acc : List UInt8) (h : c ≠ 92) : unF (k + 1) (c :: l) acc = unF (k + 1) l (acc ++ [c]) := by
  rw [unF, unF, cut_miss c 92 l h]
  simp only [List.append_assoc, List.singleton_append]
theorem unF_esc (k : Nat) (r acc : List UInt8) : unF (k + 1) (92 :: r) acc = if Lib.hasPrefix r [92] = true then unF k (r.drop 1) (acc ++ [92]) else if (hexR r).2 = 0 then none else unF k (r.drop (hexR r).2.toNat) (acc ++ encodeRune (hexR r).1) := by
  rw [unF, cut_hit]
  simp
theorem unF_fuel : ∀ (n : Nat) (l acc : List UInt8) (k k' : Nat), l.length ≤ n → l.length < k → l.length < k' → unF k l acc = unF k' l acc
  | n, [], acc, k, k', _, hk, hk' => by
    obtain ⟨k, rfl⟩ : ∃ j, k = j + 1 := ⟨k - 1, by omega⟩
    obtain ⟨k', rfl⟩ : ∃ j, k' = j + 1 := ⟨k' - 1, by omega⟩
    rw [unF_nil, unF_nil]
  | 0, c :: l, acc, k, k', hn, hk, hk' => by simp at hn
  | n + 1, c :: l, acc, k, k', hn, hk, hk' => by
    obtain ⟨k, rfl⟩ : ∃ j, k = j + 1 := ⟨k - 1, by omega⟩
    obtain ⟨k', rfl⟩ : ∃ j, k' = j + 1 := ⟨k' - 1, by omega⟩
    simp only [List.length_cons] at hn hk hk'
    by_cases h : c = 92
    · subst h
      rw [unF_esc, unF_esc]
      split
      · exact unF_fuel n _ _ _ _ (by rw [List.length_drop]; omega) (by rw [List.length_drop]; omega) (by rw [List.length_drop]; omega)
      · split
        · rfl
        · exact unF_fuel n _ _ _ _ (by rw [List.length_drop]; omega) (by rw [List.length_drop]; omega) (by rw [List.length_drop]; omega)
    · rw [unF_plain _ _ _ _ h, unF_plain _ _ _ _ h]
      exact unF_fuel n _ _ _ _ (by omega) (by omega) (by omega)
/-! the digits of a number -/
theorem hexD_isH : ∀ d : Fin 16, isH (hexD d.1) = true ∧ hv (hexD d.1) = d.1 := by decide
theorem hexD_at (d : Nat) (h : d < 16) : isH (hexD d) = true ∧ hv (hexD d) = d := hexD_isH ⟨d, h⟩
theorem hexF_facts : ∀ (n u : Nat) (l : List UInt8), u < 16 ^ (n + 1) → l.all isH = true → (hexF n u l).all isH = true ∧ hval (hexF n u l) 0 = hval l u
  | 0, u, l, hu, hl => by
    have h := hexD_at u (by simpa using hu)
    rw [hexF]
    refine ⟨by rw [List.all_cons, h.1, hl]; rfl, ?_⟩
    show hval l (0 * 16 + hv (hexD u)) = _
    rw [h.2]; simp
  | n + 1, u, l, hu, hl => by
    rw [hexF]
    split
    · rename_i hu16
      have h := hexD_at u hu16
      refine ⟨by rw [List.all_cons, h.1, hl]; rfl, ?_⟩
      show hval l (0 * 16 + hv (hexD u)) = _
      rw [h.2]; simp
    · have h := hexD_at (u % 16) (Nat.mod_lt _ (by decide))
      have ih := hexF_facts n (u / 16) (hexD (u % 16) :: l) (Nat.div_lt_of_lt_mul (by rw [Nat.pow_succ] at hu; omega)) (by rw [List.all_cons, h.1, hl]; rfl)
      refine ⟨ih.1, ih.2.trans ?_⟩
      show hval l (u / 16 * 16 + hv (hexD (u % 16))) = _
      rw [h.2]
      congr 1
      omega
theorem hexF_short : ∀ (n m u : Nat) (l : List UInt8), u < 16 ^ (m + 1) → (hexF n u l).length ≤ m + 1 + l.length ∧ l.length + 1 ≤ (hexF n u l).length
  | 0, m, u, l, hu => by rw [hexF]; simp; omega
  | n + 1, m, u, l, hu => by
    rw [hexF]
    split
    · simp; omega
    · rename_i h
      obtain ⟨m, rfl⟩ : ∃ m1, m = m1 + 1 := by
        cases m with
        | zero => simp at hu; omega
        | succ m => exact ⟨m, rfl⟩
      have := hexF_short n m (u / 16) (hexD (u % 16) :: l) (Nat.div_lt_of_lt_mul (by rw [Nat.pow_succ] at hu; omega))
      simp only [List.length_cons] at this
      omega
theorem hexL_facts (u : Nat) (hu : u < 16777216) : (hexL u).all isH = true ∧ hval (hexL u) 0 = u ∧ 1 ≤ (hexL u).length ∧ (hexL u).length ≤ 6 := by
  have h1 := hexF_facts 6 u [] (by omega) rfl
  have h2 := hexF_short 6 5 u [] (by omega)
  exact ⟨h1.1, h1.2, by simpa [hexL] using h2.2, by simpa [hexL] using h2.1⟩
theorem cut_free : ∀ (d t : List UInt8), d.all isH = true → Lib.cut (d ++ 125 :: t) [125] = (d, t, true)
  | [], t, _ => cut_hit 125 t
  | c :: d, t, h => by
    rw [List.all_cons, Bool.and_eq_true] at h
    rw [List.cons_append, cut_miss c 125 _ (fun e => by rw [e] at h; exact absurd h.1 (by decide)), cut_free d t h.2]
theorem hexR_of (u : Nat) (t : List UInt8) (hu : chr (u : Int)) : hexR (120 :: 123 :: (hexL u ++ 125 :: t)) = ((u : Int), ((hexL u).length : Int) + 3) := by
  obtain ⟨h1, h2, h3, h4⟩ := hexL_facts u (by unfold chr at hu; omega)
  rw [hexR_bl, bl_eq, cut_free _ _ h1]
  simp only [Nat.zero_add, h2]
  rw [if_pos ⟨trivial, h3, h4, h1, hu⟩]
  rfl
theorem one_byte (c : Int) (h : 0 ≤ c ∧ c < 128) : encodeRune c = [UInt8.ofNat c.toNat] := by
  obtain ⟨n, rfl⟩ := Int.eq_ofNat_of_zero_le h.1
  have : ∀ m : Fin 128, encodeRune (m.1 : Int) = [UInt8.ofNat m.1] := by decide
  exact this ⟨n, by omega⟩
theorem unF_escU (k : Nat) (c : Int) (hc : chr c) (t acc : List UInt8) : ∃ k', k ≤ k' ∧ unF (k' + 1) (escU c ++ t) acc = unF (k + 1) t (acc ++ encodeRune c) := by
  unfold escU
  by_cases h1 : c = 92
  · subst h1
    refine ⟨k + 1, by omega, ?_⟩
    rw [if_pos rfl, List.cons_append, List.cons_append, List.nil_append, unF_esc, if_pos (by unfold Lib.hasPrefix; rfl)]
    rfl
  · rw [if_neg h1]
    by_cases h2 : c < 32 ∨ 126 < c
    · rw [if_pos h2]
      obtain ⟨u, rfl⟩ := Int.eq_ofNat_of_zero_le (show 0 ≤ c by unfold chr at hc; omega)
      refine ⟨k + 1, by omega, ?_⟩
      rw [Int.toNat_natCast]
      have e : [92, 120, 123] ++ hexL u ++ [125] ++ t = 92 :: (120 :: 123 :: (hexL u ++ 125 :: t)) := by simp
      rw [e, unF_esc, if_neg (by unfold Lib.hasPrefix; simp), hexR_of u t hc, if_neg (by simp only; omega)]
      have e2 : (120 :: 123 :: (hexL u ++ 125 :: t)).drop (((hexL u).length : Int) + 3).toNat = t := by
        rw [show (((hexL u).length : Int) + 3).toNat = (hexL u).length + 1 + 1 + 1 by omega, List.drop_succ_cons, List.drop_succ_cons, show (hexL u).length + 1 = ((hexL u) ++ [125]).length by simp, show hexL u ++ 125 :: t = (hexL u ++ [125]) ++ t by simp, List.drop_left]
      simp only [e2]
    · rw [if_neg h2]
      refine ⟨k, Nat.le_refl _, ?_⟩
      rw [one_byte c (by unfold chr at hc; omega), List.singleton_append, unF_plain]
      intro e
      have := congrArg UInt8.toNat e
      simp at this
      omega
theorem unF_all : ∀ (cs : List Int) (acc : List UInt8), allChr cs → ∃ k, unF (k + 1) (mapL escU cs) acc = some (acc ++ enc cs)
  | [], acc, _ => ⟨0, by rw [show mapL escU [] = [] from rfl, unF_nil, enc_nil, List.append_nil]⟩
  | c :: cs, acc, h => by
    obtain ⟨k, hk⟩ := unF_all cs (acc ++ encodeRune c) (fun d hd => h d (by simp [hd]))
    obtain ⟨k', _, h2⟩ := unF_escU k c (h c (by simp)) (mapL escU cs) acc
    exact ⟨k', by rw [mapL_cons, h2, hk, enc_cons, List.append_assoc]⟩
end Go.Proofs.YtegapacamclipaaGreatDoor.Q
