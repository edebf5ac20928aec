/- The plain law of DocWords: what it computes is true. -/
import Derived.Test.YthdalpminhbckaaDoorPDoc
import Derived.Test.YthdalpminhbckaaDoorM7
set_option linter.unusedVariables false
set_option linter.unusedSimpArgs false
namespace Go.Proofs.YthdalpminhbckaaDoor.Q
open Go.RowKit Go.Proofs.YthdalpminhbckaaDoorW.PrintWords Go.Proofs.YthdalpminhbckaaDoor.Tx Go.Proofs.YthdalpminhbckaaDoor.G Go.Proofs.YthdalpminhbckaaDoor.M Go.Lib

theorem size_app' (a b : ByteArray) : (a ++ b).size = a.size + b.size := ByteArray.size_append
theorem ext_one' (s : ByteArray) (i : Nat) (h : i < s.size) : (s.extract i (i + 1)).size = 1 := by
  rw [ByteArray.size_extract]; omega
/-- A part in quotes, from a place on: what is in it and where it ends. -/
def partM (s : ByteArray) (q : Nat) : Nat → Nat → ByteArray → Option (ByteArray × Nat)
  | 0, _, _ => none
  | n + 1, i, out =>
    if i < s.size then
      if bN s i = q then some (out, i)
      else if q = 34 ∧ bN s i = 92 ∧ i + 1 < s.size ∧ (bN s (i + 1) = 34 ∨ bN s (i + 1) = 92) then partM s q n (i + 2) (out ++ s.extract (i + 1) (i + 2))
      else partM s q n (i + 1) (out ++ s.extract i (i + 1))
    else none
theorem partM_on (s : ByteArray) (q : Nat) : ∀ (n i : Nat) (out o : ByteArray) (e : Nat), i ≤ s.size → partM s q n i out = some (o, e) → i ≤ e ∧ e < s.size ∧ o.size ≤ out.size + (e - i)
  | 0, i, out, o, e, hi, h => by cases h
  | n + 1, i, out, o, e, hi, h => by
    unfold partM at h
    by_cases h1 : i < s.size
    case neg => rw [if_neg h1] at h; cases h
    rw [if_pos h1] at h
    by_cases h2 : bN s i = q
    · rw [if_pos h2] at h
      simp only [Option.some.injEq, Prod.mk.injEq] at h
      obtain ⟨rfl, rfl⟩ := h
      exact ⟨by omega, h1, by omega⟩
    rw [if_neg h2] at h
    by_cases h3 : q = 34 ∧ bN s i = 92 ∧ i + 1 < s.size ∧ (bN s (i + 1) = 34 ∨ bN s (i + 1) = 92)
    · rw [if_pos h3] at h
      obtain ⟨a, b, c⟩ := partM_on s q n (i + 2) _ o e (by omega) h
      rw [size_app', ext_one' s (i + 1) h3.2.2.1] at c
      exact ⟨by omega, b, by omega⟩
    · rw [if_neg h3] at h
      obtain ⟨a, b, c⟩ := partM_on s q n (i + 1) _ o e (by omega) h
      rw [size_app', ext_one' s i h1] at c
      exact ⟨by omega, b, by omega⟩
def partI (r : Option (ByteArray × Nat)) : ByteArray × Int := match r with
  | some (o, e) => (o, (e : Int))
  | none => (mk [], -1)
set_option maxHeartbeats 1000000 in
theorem ext_shift (s : ByteArray) (a i j : Nat) (h : a + j ≤ s.size) : (s.extract a s.size).extract i j = s.extract (a + i) (a + j) := by
  apply ba_ext
  rw [Lib.extract_data, Lib.extract_data, Lib.extract_data, List.drop_take, List.take_take, List.drop_drop]
  congr 1
  omega
theorem bN_shift (s : ByteArray) (a i : Nat) : bN (s.extract a s.size) i = bN s (a + i) := by
  unfold bN
  rw [ext_drop, List.getD_eq_getElem?_getD, List.getElem?_drop, List.getD_eq_getElem?_getD]
theorem size_shift (s : ByteArray) (a : Nat) : (s.extract a s.size).size = s.size - a := by rw [ByteArray.size_extract]; omega
theorem partM_shift (s : ByteArray) (q a : Nat) (ha : a ≤ s.size) : ∀ (n i : Nat) (out : ByteArray), partM (s.extract a s.size) q n i out = (partM s q n (a + i) out).map fun r => (r.1, r.2 - a)
  | 0, i, out => rfl
  | n + 1, i, out => by
    unfold partM
    rw [size_shift]
    by_cases h1 : i < s.size - a
    case neg => rw [if_neg h1, if_neg (show ¬ a + i < s.size by omega)]; rfl
    rw [if_pos h1, if_pos (show a + i < s.size by omega), bN_shift s a i]
    by_cases h2 : bN s (a + i) = q
    · rw [if_pos h2, if_pos h2]
      simp
    rw [if_neg h2, if_neg h2]
    by_cases h3 : q = 34 ∧ bN s (a + i) = 92 ∧ i + 1 < s.size - a ∧ (bN (s.extract a s.size) (i + 1) = 34 ∨ bN (s.extract a s.size) (i + 1) = 92)
    · have h4 := h3
      rw [bN_shift] at h4
      rw [if_pos h3, if_pos (show q = 34 ∧ bN s (a + i) = 92 ∧ a + i + 1 < s.size ∧ (bN s (a + i + 1) = 34 ∨ bN s (a + i + 1) = 92) from ⟨h4.1, h4.2.1, by omega, h4.2.2.2⟩), ext_shift s a (i + 1) (i + 2) (by omega), partM_shift s q a ha n (i + 2)]
      rfl
    · rw [if_neg h3, if_neg (show ¬ (q = 34 ∧ bN s (a + i) = 92 ∧ a + i + 1 < s.size ∧ (bN s (a + i + 1) = 34 ∨ bN s (a + i + 1) = 92)) from fun h4 => h3 ⟨h4.1, h4.2.1, by omega, by rw [bN_shift]; exact h4.2.2.2⟩), ext_shift s a i (i + 1) (by omega), partM_shift s q a ha n (i + 1)]
      rfl
/-- What quoted gives. -/
def quotI (r : Option (ByteArray × Nat)) : ByteArray × Int := match r with
  | some (o, e) => (o, ((e + 1 : Nat) : Int))
  | none => (mk [], -1)
set_option maxHeartbeats 1000000 in
theorem quoted_eq (s : ByteArray) (hs : s.size ≤ 4096) (q : Nat) : ∀ (n i k : Nat) (out : ByteArray), s.size - i < n → i ≤ s.size → n < k → out.size ≤ i →
    doc_quoted.l0 k s (q : Int) out (i : Int) = some (quotI (partM s q n i out))
  | 0, i, k, out, hn, hi, hk, hz => by omega
  | n + 1, i, k, out, hn, hi, hk, hz => by
    obtain ⟨k, rfl⟩ : ∃ j, k = j + 1 := ⟨k - 1, by omega⟩
    simp only [doc_quoted.l0]
    unfold partM
    by_cases h1 : i < s.size
    case neg => rw [if_neg (by omega), if_neg h1]; rfl
    have e1 : Aside0 (wrap64 ((i : Int) + 1) = ((i + 1 : Nat) : Int)) := ⟨by rw [wrap64_id (by omega) (by omega)]; omega⟩
    have e2 : Aside0 (wrap64 (((i + 1 : Nat) : Int) + 1) = ((i + 2 : Nat) : Int)) := ⟨by rw [wrap64_id (by omega) (by omega)]; omega⟩
    rw [if_pos (show (i : Int) < (s.size : Int) by omega), if_pos h1, if_pos (by omega), bt_N, e1.out, bt_N, e2.out]
    simp only [Int.toNat_natCast]
    have one := ext_one' s i h1
    have step1 : doc_quoted.l0 k s (q : Int) (out ++ s.extract i (i + 1)) ((i + 1 : Nat) : Int) = some (quotI (partM s q n (i + 1) (out ++ s.extract i (i + 1)))) :=
      quoted_eq s hs q n (i + 1) k _ (by omega) (by omega) (by omega) (by rw [size_app', one]; omega)
    by_cases h2 : bN s i = q
    · rw [if_pos (by omega), if_pos h2]; rfl
    rw [if_neg (show ¬ ((bN s i : Nat) : Int) = (q : Int) by omega), if_neg h2]
    have plain : (if (i : Int) ≤ ((i + 1 : Nat) : Int) then (if ((i + 1 : Nat) : Int) ≤ (s.size : Int) then (if out.size + (s.extract i (i + 1)).size ≤ 9223372036854775807 then doc_quoted.l0 k s (q : Int) (out ++ s.extract i (i + 1)) ((i + 1 : Nat) : Int) else none) else none) else none) = some (quotI (partM s q n (i + 1) (out ++ s.extract i (i + 1)))) := by
      rw [if_pos (by omega), if_pos (by omega), if_pos (by omega), step1]
    by_cases h3 : q = 34 ∧ bN s i = 92 ∧ i + 1 < s.size ∧ (bN s (i + 1) = 34 ∨ bN s (i + 1) = 92)
    · have two : (s.extract (i + 1) (i + 2)).size = 1 := ext_one' s (i + 1) h3.2.2.1
      rw [if_pos h3, if_pos (show (q : Int) = 34 by omega), if_pos (show ((bN s i : Nat) : Int) = 92 by omega), if_pos (show ((i + 1 : Nat) : Int) < (s.size : Int) by omega), if_pos (show (0 : Int) ≤ ((i + 1 : Nat) : Int) by omega)]
      have skip : (if ((i + 1 : Nat) : Int) ≤ ((i + 2 : Nat) : Int) then (if ((i + 2 : Nat) : Int) ≤ (s.size : Int) then (if out.size + (s.extract (i + 1) (i + 2)).size ≤ 9223372036854775807 then doc_quoted.l0 k s (q : Int) (out ++ s.extract (i + 1) (i + 2)) ((i + 2 : Nat) : Int) else none) else none) else none) = some (quotI (partM s q n (i + 2) (out ++ s.extract (i + 1) (i + 2)))) := by
        rw [if_pos (by omega), if_pos (by omega), if_pos (by omega)]
        exact quoted_eq s hs q n (i + 2) k _ (by omega) (by omega) (by omega) (by rw [size_app', two]; omega)
      by_cases h4 : bN s (i + 1) = 34
      · rw [if_pos (by omega)]; exact skip
      · rw [if_neg (by omega), if_pos (by omega)]; exact skip
    · rw [if_neg h3]
      by_cases q1 : q = 34
      case neg => rw [if_neg (by omega)]; exact plain
      rw [if_pos (show (q : Int) = 34 by omega)]
      by_cases q2 : bN s i = 92
      case neg => rw [if_neg (by omega)]; exact plain
      rw [if_pos (show ((bN s i : Nat) : Int) = 92 by omega)]
      by_cases q3 : i + 1 < s.size
      case neg => rw [if_neg (by omega)]; exact plain
      rw [if_pos (show ((i + 1 : Nat) : Int) < (s.size : Int) by omega), if_pos (show (0 : Int) ≤ ((i + 1 : Nat) : Int) by omega), if_neg (by omega), if_neg (by omega)]
      exact plain
def gapB (b : Nat) : Prop := b = 9 ∨ b = 10 ∨ b = 13 ∨ b = 32
instance (b : Nat) : Decidable (gapB b) := by unfold gapB; exact inferInstance
/-- The words of a command line, from a place on. -/
def wordsM (s : ByteArray) (F : Nat) : Nat → Nat → List ByteArray → ByteArray → Bool → List ByteArray × Int
  | 0, _, _, _, _ => ([], 0)
  | n + 1, i, l, x, b =>
    if i < s.size then
      if gapB (bN s i) then wordsM s F n (i + 1) (if b = true then l ++ [x] else l) (mk []) false
      else if bN s i = 92 then (if i + 1 = s.size then ([], 2) else wordsM s F n (i + 2) l (x ++ s.extract (i + 1) (i + 2)) true)
      else if bN s i = 39 ∨ bN s i = 34 then (match partM s (bN s i) F (i + 1) (mk []) with
        | none => ([], 2)
        | some r => wordsM s F n (r.2 + 1) l (x ++ r.1) true)
      else wordsM s F n (i + 1) l (x ++ s.extract i (i + 1)) true
    else ((if b = true then l ++ [x] else l), 0)
theorem mkn : (mk []).size = 0 := by rw [mk_size]; rfl
set_option maxHeartbeats 2000000 in
set_option maxHeartbeats 2000000 in
theorem dWords_l0 (s : ByteArray) (F : Nat) (hs : s.size ≤ 4096) (hF : 4097 ≤ F) (hG : F ≤ 5000) : ∀ (n i k : Nat) (l : List ByteArray) (x : ByteArray) (b : Bool), s.size - i < n → i ≤ s.size → 3 * n + 6000 ≤ k → x.size ≤ i → l.length ≤ i →
    doc_Words.l0 k s l x b (i : Int) = some (wordsM s F n i l x b)
  | 0, i, k, l, x, b, hn, hi, hk, hx, hl => by omega
  | n + 1, i, k, l, x, b, hn, hi, hk, hx, hl => by
    obtain ⟨k, rfl⟩ : ∃ j, k = j + 1 := ⟨k - 1, by omega⟩
    simp only [doc_Words.l0]
    unfold wordsM
    by_cases h1 : i < s.size
    case neg =>
      rw [if_neg (by omega), if_neg h1]
      cases b
      · rfl
      · rw [if_pos rfl, if_pos (by omega), if_pos rfl]
    have e1 : Aside0 (wrap64 ((i : Int) + 1) = ((i + 1 : Nat) : Int)) := ⟨by rw [wrap64_id (by omega) (by omega)]; omega⟩
    have e2 : Aside0 (wrap64 (((i + 1 : Nat) : Int) + 1) = ((i + 2 : Nat) : Int)) := ⟨by rw [wrap64_id (by omega) (by omega)]; omega⟩
    rw [if_pos (show (i : Int) < (s.size : Int) by omega), if_pos h1, if_pos (by omega), bt_N]
    obtain ⟨k, rfl⟩ : ∃ j, k = j + 1 := ⟨k - 1, by omega⟩
    have gap : ∀ m : Bool, m = true → gapB (bN s i) → doc_Words.j1 (k + 1) s l x b (i : Int) (bN s i) (bN s i) m = some (wordsM s F n (i + 1) (if b = true then l ++ [x] else l) (mk []) false) := by
      rintro m rfl _
      simp only [doc_Words.j1, if_true, e1.out]
      cases b
      · exact dWords_l0 s F hs hF hG n (i + 1) k _ _ _ (by omega) (by omega) (by omega) (by rw [show (⟨#[]⟩ : ByteArray) = mk [] from rfl, mkn]; omega) (by omega)
      · rw [if_pos rfl, if_pos (by omega)]
        exact dWords_l0 s F hs hF hG n (i + 1) k _ _ _ (by omega) (by omega) (by omega) (by rw [show (⟨#[]⟩ : ByteArray) = mk [] from rfl, mkn]; omega) (by simp; omega)
    by_cases g1 : bN s i = 9
    · rw [if_pos (by omega), if_pos (show gapB (bN s i) from .inl g1)]; exact gap _ (by rw [beq_iff_eq]; omega) (.inl g1)
    by_cases g2 : bN s i = 10
    · rw [if_neg (by omega), if_pos (by omega), if_pos (show gapB (bN s i) from .inr (.inl g2))]; exact gap _ (by rw [beq_iff_eq]; omega) (.inr (.inl g2))
    by_cases g3 : bN s i = 13
    · rw [if_neg (by omega), if_neg (by omega), if_pos (by omega), if_pos (show gapB (bN s i) from .inr (.inr (.inl g3)))]; exact gap _ (by rw [beq_iff_eq]; omega) (.inr (.inr (.inl g3)))
    rw [if_neg (by omega), if_neg (by omega), if_neg (by omega)]
    by_cases g4 : bN s i = 32
    · rw [if_pos (show gapB (bN s i) from .inr (.inr (.inr g4)))]; exact gap _ (by rw [beq_iff_eq]; omega) (.inr (.inr (.inr g4)))
    rw [if_neg (show ¬ gapB (bN s i) by unfold gapB; omega), show (((bN s i : Nat) : Int) == 32) = false by rw [beq_eq_false_iff_ne]; omega]
    simp only [doc_Words.j1, Bool.false_eq_true, if_false, e1.out, e2.out, Int.toNat_natCast]
    by_cases hb : bN s i = 92
    · rw [if_pos (show ((bN s i : Nat) : Int) = 92 by omega), if_pos hb]
      by_cases hi1 : i + 1 = s.size
      · rw [if_pos (by omega), if_pos hi1]
      · have two : (s.extract (i + 1) (i + 2)).size = 1 := ext_one' s (i + 1) (by omega)
        rw [if_neg (by omega), if_neg hi1, if_pos (by omega), if_pos (by omega), if_pos (by omega), if_pos (by omega)]
        exact dWords_l0 s F hs hF hG n (i + 2) k _ _ _ (by omega) (by omega) (by omega) (by rw [size_app', two]; omega) (by omega)
    rw [if_neg (show ¬ ((bN s i : Nat) : Int) = 92 by omega), if_neg hb]
    obtain ⟨k, rfl⟩ : ∃ j, k = j + 1 := ⟨k - 1, by omega⟩
    have yes : ∀ m : Bool, m = true → (bN s i = 39 ∨ bN s i = 34) → doc_Words.j2 (k + 1) s l x (i : Int) (bN s i) m = some (match partM s (bN s i) F (i + 1) (mk []) with
        | none => ([], 2)
        | some r => wordsM s F n (r.2 + 1) l (x ++ r.1) true) := by
      rintro m rfl _
      simp only [doc_Words.j2, if_true, e1.out, Int.toNat_natCast]
      rw [if_pos (by omega), if_pos (by omega)]
      unfold doc_quoted.f
      have hq := quoted_eq (s.extract (i + 1) s.size) (by rw [size_shift]; omega) (bN s i) F 0 k (mk []) (by rw [size_shift]; omega) (by omega) (by omega) (by rw [mkn]; omega)
      rw [show ((0 : Nat) : Int) = 0 from rfl] at hq
      rw [show (⟨#[]⟩ : ByteArray) = mk [] from rfl, hq, partM_shift s (bN s i) (i + 1) (by omega)]
      simp only [Option.bind_some, Nat.add_zero]
      cases hp : partM s (bN s i) F (i + 1) (mk []) with
      | none => rfl
      | some r =>
        obtain ⟨o, e⟩ := r
        obtain ⟨p1, p2, p3⟩ := partM_on s _ _ _ _ _ _ (by omega) hp
        rw [mkn] at p3
        show (if ((e - (i + 1) + 1 : Nat) : Int) < 0 then some (([] : List ByteArray), (2 : Int)) else (if x.size + o.size ≤ 9223372036854775807 then doc_Words.l0 k s l (x ++ o) true (wrap64 (wrap64 ((i : Int) + ((e - (i + 1) + 1 : Nat) : Int)) + 1)) else none)) = _
        have e3 : Aside0 (wrap64 ((i : Int) + ((e - (i + 1) + 1 : Nat) : Int)) = ((e : Nat) : Int)) := ⟨by rw [wrap64_id (by omega) (by omega)]; omega⟩
        have e4 : Aside0 (wrap64 ((e : Int) + 1) = ((e + 1 : Nat) : Int)) := ⟨by rw [wrap64_id (by omega) (by omega)]; omega⟩
        rw [if_neg (by omega), if_pos (by omega), e3.out, e4.out]
        exact dWords_l0 s F hs hF hG n (e + 1) k _ _ _ (by omega) (by omega) (by omega) (by rw [size_app']; omega) (by omega)
    by_cases h39 : bN s i = 39
    · rw [if_pos (by omega), if_pos (show bN s i = 39 ∨ bN s i = 34 from .inl h39)]
      exact yes _ (by rw [beq_iff_eq]; omega) (.inl h39)
    rw [if_neg (by omega)]
    by_cases h34 : bN s i = 34
    · rw [if_pos (show bN s i = 39 ∨ bN s i = 34 from .inr h34)]
      exact yes _ (by rw [beq_iff_eq]; omega) (.inr h34)
    rw [if_neg (show ¬ (bN s i = 39 ∨ bN s i = 34) by omega), show (((bN s i : Nat) : Int) == 34) = false by rw [beq_eq_false_iff_ne]; omega]
    have one := ext_one' s i h1
    simp only [doc_Words.j2, Bool.false_eq_true, if_false, e1.out, Int.toNat_natCast]
    rw [if_pos (by omega), if_pos (by omega), if_pos (by omega), if_pos (by omega)]
    exact dWords_l0 s F hs hF hG n (i + 1) k _ _ _ (by omega) (by omega) (by omega) (by rw [size_app', one]; omega) (by omega)
def wordsR (s : ByteArray) : List ByteArray × Int := if checkI s = 0 then wordsM s 5000 5000 0 [] (mk []) false else ([], checkI s)
theorem dWords_eq (s : ByteArray) (k : Nat) (hk : 30000 ≤ k) : doc_Words.f k s = some (wordsR s) := by
  unfold doc_Words.f wordsR
  rw [dAsked_eq]
  simp only [Option.bind_some]
  by_cases h : checkI s = 0
  · have hs := (check0 h).1
    rw [if_pos h, if_pos h]
    exact dWords_l0 s 5000 hs (by omega) (by omega) 5000 0 k [] (mk []) false (by omega) (by omega) (by omega) (by rw [mkn]; omega) (by simp)
  · rw [if_neg h, if_neg h]
theorem wordsM_len (s : ByteArray) (F : Nat) : ∀ (n i : Nat) (l : List ByteArray) (x : ByteArray) (b : Bool), (wordsM s F n i l x b).1.length ≤ l.length + n
  | 0, i, l, x, b => by simp [wordsM]
  | n + 1, i, l, x, b => by
    have hb : (if b = true then l ++ [x] else l).length ≤ l.length + 1 := by cases b <;> simp
    unfold wordsM
    split
    · split
      · have := wordsM_len s F n (i + 1) (if b = true then l ++ [x] else l) (mk []) false
        omega
      · split
        · split
          · simp
          · have := wordsM_len s F n (i + 2) l (x ++ s.extract (i + 1) (i + 2)) true
            omega
        · split
          · split
            · simp
            · rename_i r _
              have := wordsM_len s F n (r.2 + 1) l (x ++ r.1) true
              omega
          · have := wordsM_len s F n (i + 1) l (x ++ s.extract i (i + 1)) true
            omega
    · simp only
      omega
theorem SameTexts_l0 (l : List ByteArray) (hl : l.length ≤ 1000000) : ∀ (d i k : Nat), l.length - i ≤ d → i ≤ l.length → d < k → motleyref01_SameTexts.l0 k l l (i : Int) = some true
  | d, i, k, hd, hi, hk => by
    obtain ⟨k, rfl⟩ : ∃ j, k = j + 1 := ⟨k - 1, by omega⟩
    simp only [motleyref01_SameTexts.l0]
    by_cases h : i < l.length
    · rw [if_pos (by omega), if_pos (by omega), if_pos (by omega), if_true]
      have e1 : Aside0 (wrap64 ((i : Int) + 1) = ((i + 1 : Nat) : Int)) := ⟨by rw [wrap64_id (by omega) (by omega)]; omega⟩
      cases d with
      | zero => omega
      | succ d => rw [e1.out, SameTexts_l0 l hl d (i + 1) k (by omega) (by omega) (by omega)]
    · rw [if_neg (by omega)]
theorem SameTexts_eq (l : List ByteArray) (hl : l.length ≤ 1000000) (k : Nat) (hk : l.length < k) : motleyref01_SameTexts.f k l l = some true := by
  unfold motleyref01_SameTexts.f
  rw [if_pos rfl]
  exact SameTexts_l0 l hl l.length 0 k (by omega) (by omega) hk
end Go.Proofs.YthdalpminhbckaaDoor.Q
namespace Go.Proofs.YthdalpminhbckaaDoor.Pure
open Go.RowKit Go.Proofs.YthdalpminhbckaaDoorW.PrintWords Go.Proofs.YthdalpminhbckaaDoor.Tx Go.Proofs.YthdalpminhbckaaDoor.G Go.Proofs.YthdalpminhbckaaDoor.M Go.Proofs.YthdalpminhbckaaDoor.Q Go.Lib
end Go.Proofs.YthdalpminhbckaaDoor.Pure
