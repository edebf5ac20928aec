/- The plain law of DocPlains: what it computes is true. -/
import Derived.Test.YthdalpminhbckaaDoorPDoc
import Derived.Test.YthdalpminhbckaaDoorM3
set_option linter.unusedVariables false
set_option linter.unusedSimpArgs false
namespace Go.Proofs.YthdalpminhbckaaDoor.Q
open Go.RowKit Go.Proofs.YthdalpminhbckaaDoorW.PrintWords Go.Proofs.YthdalpminhbckaaDoor.Tx Go.Proofs.YthdalpminhbckaaDoor.G Go.Proofs.YthdalpminhbckaaDoor.M Go.Lib

/-- A mark begins at a place. -/
def isM (s : ByteArray) (i : Nat) : Prop := i + 1 < s.size ∧ bN s (i + 1) = 60 ∧ (bN s i = 66 ∨ bN s i = 73 ∨ bN s i = 67 ∨ bN s i = 69 ∨ bN s i = 76)
instance (s : ByteArray) (i : Nat) : Decidable (isM s i) := by unfold isM; exact inferInstance
def ent (c : Nat) (t : ByteArray) : ByteArray := if c = 69 then (if t.data.toList = [108, 116] then mk [60] else if t.data.toList = [103, 116] then mk [62] else t) else t
/-- A text without its marks, from a place on. -/
def inner (s : ByteArray) : Nat → Nat → Bool → ByteArray → Bool → ByteArray × Nat × Bool
  | 0, i, o, out, ok => (out, i, ok && !o)
  | n + 1, i, o, out, ok =>
    if i < s.size then
      if o = true ∧ bN s i = 62 then (out, i + 1, ok)
      else if isM s i then inner s n (inner s n (i + 2) true (mk []) true).2.1 o (out ++ ent (bN s i) (inner s n (i + 2) true (mk []) true).1) (ok && (inner s n (i + 2) true (mk []) true).2.2)
      else inner s n (i + 1) o (out ++ s.extract i (i + 1)) ok
    else (out, i, ok && !o)
theorem size_app (a b : ByteArray) : (a ++ b).size = a.size + b.size := ByteArray.size_append
theorem ent_size (c : Nat) (t : ByteArray) : (ent c t).size ≤ t.size + 0 ∨ (ent c t).size ≤ 1 := by
  unfold ent
  repeat' split
  all_goals first | (left; omega) | (right; rw [mk_size]; simp)
theorem ent_le (c : Nat) (t : ByteArray) (n : Nat) (h : t.size ≤ n) : (ent c t).size ≤ n + 1 := by
  rcases ent_size c t with h1 | h1 <;> omega
theorem ext_one (s : ByteArray) (i : Nat) (h : i < s.size) : (s.extract i (i + 1)).size = 1 := by
  rw [ByteArray.size_extract]; omega
/-- It goes on, and writes no more than it reads. -/
theorem inner_on (s : ByteArray) : ∀ (n i : Nat) (o : Bool) (out : ByteArray) (ok : Bool), i ≤ s.size →
    i ≤ (inner s n i o out ok).2.1 ∧ (inner s n i o out ok).2.1 ≤ s.size ∧ (inner s n i o out ok).1.size ≤ out.size + ((inner s n i o out ok).2.1 - i)
  | 0, i, o, out, ok, h => ⟨Nat.le_refl _, h, by simp [inner]⟩
  | n + 1, i, o, out, ok, h => by
    unfold inner
    by_cases h1 : i < s.size
    case neg => rw [if_neg h1]; exact ⟨Nat.le_refl _, h, by simp⟩
    rw [if_pos h1]
    by_cases h2 : o = true ∧ bN s i = 62
    · rw [if_pos h2]; exact ⟨by simp, h1, by simp⟩
    rw [if_neg h2]
    by_cases h3 : isM s i
    · rw [if_pos h3]
      obtain ⟨a1, a2, a3⟩ := inner_on s n (i + 2) true (mk []) true (by have := h3.1; omega)
      obtain ⟨b1, b2, b3⟩ := inner_on s n (inner s n (i + 2) true (mk []) true).2.1 o (out ++ ent (bN s i) (inner s n (i + 2) true (mk []) true).1) (ok && (inner s n (i + 2) true (mk []) true).2.2) a2
      have e : (mk []).size = 0 := by rw [mk_size]; rfl
      have := ent_le (bN s i) (inner s n (i + 2) true (mk []) true).1 _ a3
      rw [size_app] at b3
      exact ⟨by omega, b2, by omega⟩
    · rw [if_neg h3]
      obtain ⟨b1, b2, b3⟩ := inner_on s n (i + 1) o (out ++ s.extract i (i + 1)) ok (by omega)
      rw [size_app, ext_one s i h1] at b3
      exact ⟨by omega, b2, by omega⟩

theorem find_mark : ∀ c : Fin 256, (Lib.indexByte [66, 73, 67, 69, 76] c.val.toUInt8 ≥ 0) ↔ (c.val = 66 ∨ c.val = 73 ∨ c.val = 67 ∨ c.val = 69 ∨ c.val = 76) := by decide +kernel
theorem IndexByte_eq (c : Nat) (h : c < 256) : ∃ r, strings_IndexByte.f (⟨#[66, 73, 67, 69, 76]⟩ : ByteArray) (c : Int) = some r ∧ (r ≥ 0 ↔ (c = 66 ∨ c = 73 ∨ c = 67 ∨ c = 69 ∨ c = 76)) := by
  refine ⟨_, rfl, ?_⟩
  have := find_mark ⟨c, h⟩
  simpa using this
theorem entity_eq (t : ByteArray) : doc_entity.f t = some (ent 69 t) := by
  unfold doc_entity.f ent
  rw [toList_data, if_pos rfl]
  repeat' split
  all_goals rfl
theorem j2_mark (s : ByteArray) (i : Nat) (o ok : Bool) (out : ByteArray) (k : Nat) (m : Bool) (ht : m = true) (t : ByteArray) (next : Nat) (good : Bool)
    (hi : i + 2 ≤ 1000000) (hf : doc_marked.f k s ((i + 2 : Nat) : Int) true = some (t, (next : Int), good)) (hz : out.size + t.size + 1 ≤ 1000000000) :
    doc_marked.j2 (k + 1) s i o out ok (bN s i) m = doc_marked.l0 k s next o (out ++ ent (bN s i) t) (ok && good) := by
  subst ht
  have e : wrap64 ((i : Int) + 2) = ((i + 2 : Nat) : Int) := by rw [wrap64_id (by omega) (by omega)]; omega
  simp only [doc_marked.j2, if_true, e, hf, Option.bind_some]
  have he := ent_le (bN s i) t _ (Nat.le_refl _)
  have e3 : ∀ u : ByteArray, u.size ≤ t.size + 1 → ∀ (b : Bool) (x : Option (ByteArray × Int × Bool)), (if out.size + u.size ≤ 9223372036854775807 then x else none) = x := fun u hu b x => by rw [if_pos (by omega)]
  by_cases h1 : bN s i = 69
  · have h2 : ((bN s i : Nat) : Int) = 69 := by omega
    rw [h1] at he
    simp only [h2, if_true, h1, entity_eq, Option.bind_some]
    cases ok
    · simp only [Bool.false_eq_true, if_false, Bool.false_and]
      exact e3 _ he false _
    · simp only [if_true, Bool.true_and]
      exact e3 _ he false _
  · have h2 : ¬ ((bN s i : Nat) : Int) = 69 := by omega
    have e2 : ent (bN s i) t = t := by unfold ent; rw [if_neg h1]
    rw [e2]
    simp only [if_neg h2]
    cases ok
    · simp only [Bool.false_eq_true, if_false, Bool.false_and]
      exact e3 _ (by omega) false _
    · simp only [if_true, Bool.true_and]
      exact e3 _ (by omega) false _
theorem marked_eq (s : ByteArray) (hs : s.size ≤ 4096) : ∀ (n i k : Nat) (o ok : Bool) (out : ByteArray), i ≤ s.size → s.size - i < n → 6 * n ≤ k → out.size ≤ i →
    doc_marked.l0 k s (i : Int) o out ok = some ((inner s n i o out ok).1, ((inner s n i o out ok).2.1 : Int), (inner s n i o out ok).2.2)
  | 0, i, k, o, ok, out, hi, hn, hk, hz => by omega
  | n + 1, i, k, o, ok, out, hi, hn, hk, hz => by
    obtain ⟨k, rfl⟩ : ∃ j, k = j + 1 := ⟨k - 1, by omega⟩
    simp only [doc_marked.l0]
    unfold inner
    by_cases h1 : i < s.size
    case neg =>
      rw [if_neg (by omega), if_neg h1]
      cases ok <;> simp
    rw [if_pos (show (i : Int) < (s.size : Int) by omega), if_pos (by omega), if_pos h1, bt_N]
    obtain ⟨k, rfl⟩ : ∃ j, k = j + 1 := ⟨k - 1, by omega⟩
    have e1 : wrap64 ((i : Int) + 1) = ((i + 1 : Nat) : Int) := by rw [wrap64_id (by omega) (by omega)]; omega
    by_cases h2 : o = true ∧ bN s i = 62
    · rw [if_pos h2.1, if_pos h2, show (((bN s i : Nat) : Int) == 62) = true by rw [beq_iff_eq]; omega]
      simp only [doc_marked.j1, if_true, e1]
    rw [if_neg h2]
    have hx : (if o = true then doc_marked.j1 (k + 1) s i o out ok (bN s i) (((bN s i : Nat) : Int) == 62) else doc_marked.j1 (k + 1) s i o out ok (bN s i) false) = doc_marked.j1 (k + 1) s i o out ok (bN s i) false := by
      cases o
      · rfl
      · rw [if_pos rfl, show (((bN s i : Nat) : Int) == 62) = false by rw [beq_eq_false_iff_ne]; intro h; exact h2 ⟨rfl, by omega⟩]
    rw [hx]
    obtain ⟨r, hr, hr2⟩ := IndexByte_eq (bN s i) (bN_lt s i)
    simp only [doc_marked.j1, Bool.false_eq_true, if_false, hr, Option.bind_some, e1]
    obtain ⟨k, rfl⟩ : ∃ j, k = j + 1 := ⟨k - 1, by omega⟩
    have yes : isM s i → doc_marked.j2 (k + 1) s i o out ok (bN s i) true = some ((inner s n (inner s n (i + 2) true (mk []) true).2.1 o (out ++ ent (bN s i) (inner s n (i + 2) true (mk []) true).1) (ok && (inner s n (i + 2) true (mk []) true).2.2)).1, ((inner s n (inner s n (i + 2) true (mk []) true).2.1 o (out ++ ent (bN s i) (inner s n (i + 2) true (mk []) true).1) (ok && (inner s n (i + 2) true (mk []) true).2.2)).2.1 : Int), (inner s n (inner s n (i + 2) true (mk []) true).2.1 o (out ++ ent (bN s i) (inner s n (i + 2) true (mk []) true).1) (ok && (inner s n (i + 2) true (mk []) true).2.2)).2.2) := by
      intro hm
      have h3 := hm.1
      obtain ⟨a1, a2, a3⟩ := inner_on s n (i + 2) true (mk []) true (by omega)
      have e : (mk []).size = 0 := by rw [mk_size]; rfl
      have hent := ent_le (bN s i) (inner s n (i + 2) true (mk []) true).1 _ a3
      obtain ⟨k, rfl⟩ : ∃ j, k = j + 1 := ⟨k - 1, by omega⟩
      have hf : doc_marked.f (k + 1) s ((i + 2 : Nat) : Int) true = some ((inner s n (i + 2) true (mk []) true).1, ((inner s n (i + 2) true (mk []) true).2.1 : Int), (inner s n (i + 2) true (mk []) true).2.2) := by
        simp only [doc_marked.f]
        exact marked_eq s hs n (i + 2) k true true (mk []) (by omega) (by omega) (by omega) (by omega)
      rw [j2_mark s i o ok out (k + 1) true rfl _ _ _ (by omega) hf (by omega)]
      exact marked_eq s hs n _ (k + 1) o _ _ a2 (by omega) (by omega) (by rw [size_app]; omega)
    have no : ¬ isM s i → doc_marked.j2 (k + 1) s i o out ok (bN s i) false = some ((inner s n (i + 1) o (out ++ s.extract i (i + 1)) ok).1, ((inner s n (i + 1) o (out ++ s.extract i (i + 1)) ok).2.1 : Int), (inner s n (i + 1) o (out ++ s.extract i (i + 1)) ok).2.2) := by
      intro hm
      simp only [doc_marked.j2, Bool.false_eq_true, if_false, e1]
      rw [if_pos (by omega), if_pos (by omega), if_pos (by omega), Int.toNat_natCast, Int.toNat_natCast, if_pos (by rw [ext_one s i h1]; omega)]
      exact marked_eq s hs n (i + 1) k o ok _ (by omega) (by omega) (by omega) (by rw [size_app, ext_one s i h1]; omega)
    by_cases h3 : isM s i
    · rw [if_pos h3, if_pos (hr2.2 h3.2.2), if_pos (show ((i + 1 : Nat) : Int) < (s.size : Int) by have := h3.1; omega), if_pos (by omega), bt_N, show (((bN s (i + 1) : Nat) : Int) == 60) = true by rw [beq_iff_eq]; have := h3.2.1; omega]
      exact yes h3
    · rw [if_neg h3]
      by_cases h4 : r ≥ 0
      · rw [if_pos h4]
        by_cases h5 : i + 1 < s.size
        · rw [if_pos (show ((i + 1 : Nat) : Int) < (s.size : Int) by omega), if_pos (by omega), bt_N, show (((bN s (i + 1) : Nat) : Int) == 60) = false by rw [beq_eq_false_iff_ne]; intro h; exact h3 ⟨h5, by omega, hr2.1 h4⟩]
          exact no h3
        · rw [if_neg (show ¬ ((i + 1 : Nat) : Int) < (s.size : Int) by omega)]
          exact no h3
      · rw [if_neg h4]
        exact no h3
theorem isMark_eq (s : ByteArray) (i : Nat) (h : i < s.size) (hs : s.size ≤ 4096) : motleyref25_isMark.f s (i : Int) = some (decide (isM s i)) := by
  unfold motleyref25_isMark.f
  have e1 : wrap64 ((i : Int) + 1) = ((i + 1 : Nat) : Int) := by rw [wrap64_id (by omega) (by omega)]; omega
  rw [e1, bt_N, bt_N]
  have key : ∀ b : Bool, (b = true ↔ isM s i) → some b = some (decide (isM s i)) := fun b hb => by
    by_cases h : isM s i
    · rw [hb.2 h, decide_eq_true h]
    · rw [decide_eq_false h]
      cases b
      · rfl
      · exact absurd (hb.1 rfl) h
  by_cases h5 : i + 1 < s.size
  case neg =>
    rw [if_neg (by omega)]
    exact key _ ⟨(fun h => by cases h), fun h => absurd h.1 h5⟩
  rw [if_pos (by omega), if_pos (by omega)]
  by_cases h6 : bN s (i + 1) = 60
  case neg =>
    rw [if_neg (by omega)]
    exact key _ ⟨(fun h => by cases h), fun h => absurd h.2.1 h6⟩
  rw [if_pos (by omega), if_pos (by omega), if_pos (by omega)]
  have g : isM s i ↔ (bN s i = 66 ∨ bN s i = 73 ∨ bN s i = 67 ∨ bN s i = 69 ∨ bN s i = 76) := ⟨fun h => h.2.2, fun h => ⟨h5, h6, h⟩⟩
  by_cases c1 : bN s i = 66
  · rw [if_pos (by omega)]; exact key _ ⟨fun _ => g.2 (by omega), fun _ => rfl⟩
  rw [if_neg (by omega)]
  by_cases c2 : bN s i = 73
  · rw [if_pos (by omega)]; exact key _ ⟨fun _ => g.2 (by omega), fun _ => rfl⟩
  rw [if_neg (by omega)]
  by_cases c3 : bN s i = 67
  · rw [if_pos (by omega)]; exact key _ ⟨fun _ => g.2 (by omega), fun _ => rfl⟩
  rw [if_neg (by omega)]
  by_cases c4 : bN s i = 69
  · rw [if_pos (by omega)]; exact key _ ⟨fun _ => g.2 (by omega), fun _ => rfl⟩
  rw [if_neg (by omega)]
  exact key _ ⟨fun h => by rw [beq_iff_eq] at h; exact g.2 (by omega), fun h => by rw [beq_iff_eq]; have := g.1 h; omega⟩
theorem j2_in (s : ByteArray) (i : Nat) (h : i < s.size) (o ok : Bool) (out t : ByteArray) (k : Nat) (next : Int) (hz : out.size + t.size + 1 ≤ 1000000000) :
    motleyref25_inside.j2 (k + 2) s i o out ok t next = motleyref25_inside.l0 k s next o (out ++ ent (bN s i) t) ok := by
  simp only [motleyref25_inside.j2]
  rw [if_pos (by omega), if_pos (by omega), bt_N, toList_data]
  by_cases h1 : bN s i = 69
  · rw [if_pos (show ((bN s i : Nat) : Int) = 69 by omega)]
    simp only [motleyref25_inside.j3, bt_N, toList_data]
    by_cases h2 : t.data.toList = [108, 116]
    · have e2 : ent (bN s i) t = mk [60] := by unfold ent; rw [if_pos h1, if_pos h2]
      rw [e2, show (t.data.toList == [108, 116]) = true by rw [h2]; rfl, if_pos rfl, if_pos (by omega)]
      rfl
    · rw [show (t.data.toList == [108, 116]) = false by rw [beq_eq_false_iff_ne]; exact h2]
      simp only [Bool.false_eq_true, if_false]
      rw [if_pos (by omega), if_pos (by omega), if_pos (show ((bN s i : Nat) : Int) = 69 by omega)]
      by_cases h3 : t.data.toList = [103, 116]
      · have e2 : ent (bN s i) t = mk [62] := by unfold ent; rw [if_pos h1, if_neg h2, if_pos h3]
        rw [e2, if_pos h3, if_pos (by omega)]
        rfl
      · have e2 : ent (bN s i) t = t := by unfold ent; rw [if_pos h1, if_neg h2, if_neg h3]
        rw [e2, if_neg h3, if_pos (by omega)]
  · have e2 : ent (bN s i) t = t := by unfold ent; rw [if_neg h1]
    rw [if_neg (show ¬ ((bN s i : Nat) : Int) = 69 by omega), e2]
    simp only [motleyref25_inside.j3, Bool.false_eq_true, if_false, bt_N]
    rw [if_pos (by omega), if_pos (by omega), if_neg (show ¬ ((bN s i : Nat) : Int) = 69 by omega), if_pos (by omega)]
theorem inside_eq (s : ByteArray) (hs : s.size ≤ 4096) : ∀ (n i k : Nat) (o ok : Bool) (out : ByteArray), i ≤ s.size → s.size - i < n → 6 * n ≤ k → out.size ≤ i →
    motleyref25_inside.l0 k s (i : Int) o out ok = some ((inner s n i o out ok).1, ((inner s n i o out ok).2.1 : Int), (inner s n i o out ok).2.2)
  | 0, i, k, o, ok, out, hi, hn, hk, hz => by omega
  | n + 1, i, k, o, ok, out, hi, hn, hk, hz => by
    obtain ⟨k, rfl⟩ : ∃ j, k = j + 1 := ⟨k - 1, by omega⟩
    simp only [motleyref25_inside.l0]
    unfold inner
    by_cases h1 : i < s.size
    case neg =>
      rw [if_neg (by omega), if_neg h1]
      cases ok <;> simp
    rw [if_pos (show (i : Int) < (s.size : Int) by omega), if_pos h1, bt_N]
    obtain ⟨k, rfl⟩ : ∃ j, k = j + 1 := ⟨k - 1, by omega⟩
    have e1 : wrap64 ((i : Int) + 1) = ((i + 1 : Nat) : Int) := by rw [wrap64_id (by omega) (by omega)]; omega
    have e2 : wrap64 ((i : Int) + 2) = ((i + 2 : Nat) : Int) := by rw [wrap64_id (by omega) (by omega)]; omega
    by_cases h2 : o = true ∧ bN s i = 62
    · rw [if_pos h2.1, if_pos (by omega), if_pos h2, show (((bN s i : Nat) : Int) == 62) = true by rw [beq_iff_eq]; omega]
      simp only [motleyref25_inside.j1, if_true, e1]
    rw [if_neg h2]
    have hx : (if o = true then (if (0 : Int) ≤ (i : Int) then motleyref25_inside.j1 (k + 1) s i o out ok (((bN s i : Nat) : Int) == 62) else none) else motleyref25_inside.j1 (k + 1) s i o out ok false) = motleyref25_inside.j1 (k + 1) s i o out ok false := by
      cases o
      · rfl
      · rw [if_pos rfl, if_pos (by omega), show (((bN s i : Nat) : Int) == 62) = false by rw [beq_eq_false_iff_ne]; intro h; exact h2 ⟨rfl, by omega⟩]
    rw [hx]
    simp only [motleyref25_inside.j1, Bool.false_eq_true, if_false, isMark_eq s i h1 hs, Option.bind_some, decide_eq_true_eq, e1, e2]
    by_cases h3 : isM s i
    · rw [if_pos h3, if_pos h3]
      have h4 := h3.1
      obtain ⟨a1, a2, a3⟩ := inner_on s n (i + 2) true (mk []) true (by omega)
      have e : (mk []).size = 0 := by rw [mk_size]; rfl
      have hent := ent_le (bN s i) (inner s n (i + 2) true (mk []) true).1 _ a3
      obtain ⟨k, rfl⟩ : ∃ j, k = j + 2 := ⟨k - 2, by omega⟩
      have hf : motleyref25_inside.f (k + 2) s ((i + 2 : Nat) : Int) true = some ((inner s n (i + 2) true (mk []) true).1, ((inner s n (i + 2) true (mk []) true).2.1 : Int), (inner s n (i + 2) true (mk []) true).2.2) := by
        simp only [motleyref25_inside.f]
        exact inside_eq s hs n (i + 2) (k + 1) true true (mk []) (by omega) (by omega) (by omega) (by omega)
      rw [hf]
      simp only [Option.bind_some]
      have fin : ∀ b : Bool, b = (ok && (inner s n (i + 2) true (mk []) true).2.2) → motleyref25_inside.j2 (k + 2) s i o out b (inner s n (i + 2) true (mk []) true).1 ((inner s n (i + 2) true (mk []) true).2.1 : Int) = some ((inner s n (inner s n (i + 2) true (mk []) true).2.1 o (out ++ ent (bN s i) (inner s n (i + 2) true (mk []) true).1) (ok && (inner s n (i + 2) true (mk []) true).2.2)).1, ((inner s n (inner s n (i + 2) true (mk []) true).2.1 o (out ++ ent (bN s i) (inner s n (i + 2) true (mk []) true).1) (ok && (inner s n (i + 2) true (mk []) true).2.2)).2.1 : Int), (inner s n (inner s n (i + 2) true (mk []) true).2.1 o (out ++ ent (bN s i) (inner s n (i + 2) true (mk []) true).1) (ok && (inner s n (i + 2) true (mk []) true).2.2)).2.2) := by
        rintro b rfl
        rw [j2_in s i h1 o _ out _ k _ (by omega)]
        exact inside_eq s hs n _ k o _ _ a2 (by omega) (by omega) (by rw [size_app]; omega)
      cases ok
      · exact fin false rfl
      · exact fin _ (by simp)
    · rw [if_neg h3, if_neg h3, if_pos (by omega), if_pos (by omega), if_pos (by omega), Int.toNat_natCast, Int.toNat_natCast, if_pos (by rw [ext_one s i h1]; omega)]
      exact inside_eq s hs n (i + 1) k o ok _ (by omega) (by omega) (by omega) (by rw [size_app, ext_one s i h1]; omega)
def plainR (s : ByteArray) : ByteArray × Int := if checkI s = 0 then ((inner s 5000 0 false (mk []) true).1, 0) else (mk [], checkI s)
theorem cPlain_eq (s : ByteArray) (k : Nat) (hk : 30001 ≤ k) : doc_Plain.f k s = some (plainR s) := by
  obtain ⟨k, rfl⟩ : ∃ j, k = j + 1 := ⟨k - 1, by omega⟩
  unfold doc_Plain.f plainR
  rw [dAsked_eq]
  simp only [Option.bind_some]
  by_cases h : checkI s = 0
  · have hs := (check0 h).1
    rw [if_pos h, if_pos h]
    unfold doc_plain.f
    simp only [doc_marked.f]
    have := marked_eq s hs 5000 0 k false true (mk []) (by omega) (by omega) (by omega) (by rw [mk_size]; simp)
    rw [show (⟨#[]⟩ : ByteArray) = mk [] from rfl]
    rw [show ((0 : Nat) : Int) = 0 from rfl] at this
    rw [this]
    rfl
  · rw [if_neg h, if_neg h]; rfl
theorem rPlain_eq (s : ByteArray) (k : Nat) (hk : 30001 ≤ k) : motleyref25_Plain.f k s = some (plainR s) := by
  obtain ⟨k, rfl⟩ : ∃ j, k = j + 1 := ⟨k - 1, by omega⟩
  unfold motleyref25_Plain.f plainR
  rw [rAsked_eq s _ (by omega)]
  simp only [Option.bind_some]
  by_cases h : checkI s = 0
  · have hs := (check0 h).1
    rw [if_pos h, if_pos h]
    unfold motleyref25_plain.f
    simp only [motleyref25_inside.f]
    have := inside_eq s hs 5000 0 k false true (mk []) (by omega) (by omega) (by omega) (by rw [mk_size]; simp)
    rw [show (⟨#[]⟩ : ByteArray) = mk [] from rfl]
    rw [show ((0 : Nat) : Int) = 0 from rfl] at this
    rw [this]
    rfl
  · rw [if_neg h, if_neg h]; rfl
end Go.Proofs.YthdalpminhbckaaDoor.Q
namespace Go.Proofs.YthdalpminhbckaaDoor.Pure
open Go.RowKit Go.Proofs.YthdalpminhbckaaDoorW.PrintWords Go.Proofs.YthdalpminhbckaaDoor.Tx Go.Proofs.YthdalpminhbckaaDoor.G Go.Proofs.YthdalpminhbckaaDoor.M Go.Proofs.YthdalpminhbckaaDoor.Q Go.Lib
theorem DocPlains : motleylaw25_DocPlains.Pure := by
  intro s hs
  refine ⟨40000, ?_⟩
  unfold motleylaw25_DocPlains.f motleylaw25_over.f
  rw [dKnown_eq 40000 (by omega), rPlain_eq s _ (by omega), cPlain_eq s _ (by omega)]
  simp only [Option.bind_some, if_true]
  split <;> rfl
end Go.Proofs.YthdalpminhbckaaDoor.Pure
