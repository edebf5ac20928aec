/- doc: words quoted: walked by hand. -/
import Derived.Test.YthdalpminhbckaaDoorK3
import Derived.Test.YthdalpminhbckaaDoorK1
import Derived.Test.YthdalpminhbckaaDoorStrs
import Derived.Test.YthdalpminhbckaaDoorBuild
import Derived.Test.YthdalpminhbckaaDoorWMore
import Derived.WalkKit
import Derived.BigCall
import Derived.Shelf.Strings.MapGrows
set_option linter.unusedVariables false
set_option linter.unusedSimpArgs false
namespace Go.Proofs.YthdalpminhbckaaDoor.QL
def gap (c : UInt8) : Prop := c.toNat = 9 ∨ c.toNat = 10 ∨ c.toNat = 13 ∨ c.toNat = 32
instance (c : UInt8) : Decidable (gap c) := by unfold gap; exact inferInstance
/-- A part in quotes: what is in it, and what stands behind its end. -/
def pl (q : UInt8) : List UInt8 → List UInt8 → Option (List UInt8 × List UInt8)
  | [], _ => none
  | c :: r, o => if c = q then some (o, r) else
    match r with
    | [] => pl q [] (o ++ [c])
    | d :: r' => if q = 34 ∧ c = 92 ∧ (d = 34 ∨ d = 92) then pl q r' (o ++ [d]) else pl q (d :: r') (o ++ [c])
theorem pl_less (q : UInt8) : ∀ (n : Nat) (l o o' r : List UInt8), l.length ≤ n → pl q l o = some (o', r) → r.length < l.length
  | _, [], _, _, _, _, h => by simp [pl] at h
  | 0, c :: r, _, _, _, hn, _ => by simp at hn
  | n + 1, [c], o, o', r', hn, h => by
    unfold pl at h
    split at h
    · simp at h; simp [← h.2]
    · simp [pl] at h
  | n + 1, c :: d :: r, o, o', r', hn, h => by
    unfold pl at h
    simp only [List.length_cons] at hn ⊢
    split at h
    · simp at h; simp [← h.2]
    · simp only at h
      split at h
      · have := pl_less q n r _ _ _ (by omega) h
        omega
      · have := pl_less q n (d :: r) _ _ _ (by simp; omega) h
        simp at this
        omega
/-- The words of a command line. -/
def wl (l : List UInt8) (ws : List (List UInt8)) (x : List UInt8) (b : Bool) : List (List UInt8) × Int :=
  match l with
  | [] => (if b then ws ++ [x] else ws, 0)
  | c :: r =>
    if gap c then wl r (if b then ws ++ [x] else ws) [] false
    else if c = 92 then
      match r with
      | [] => ([], 2)
      | d :: r' => wl r' ws (x ++ [d]) true
    else if c = 39 ∨ c = 34 then
      if h : (pl c r []).isSome = true then wl ((pl c r []).get h).2 ws (x ++ ((pl c r []).get h).1) true else ([], 2)
    else wl r ws (x ++ [c]) true
termination_by l.length
decreasing_by
  all_goals simp only [List.length_cons]
  all_goals first | omega | (have := pl_less c r.length r [] ((pl c r []).get h).1 ((pl c r []).get h).2 (Nat.le_refl _) (Option.some_get h).symm; omega)
/-- A word as it is quoted. -/
def esc (w : List UInt8) : List UInt8 := w.flatMap fun c => if c = 39 then [39, 92, 39, 39] else [c]
def bareC (c : UInt8) : Prop := (97 ≤ c.toNat ∧ c.toNat ≤ 122) ∨ (65 ≤ c.toNat ∧ c.toNat ≤ 90) ∨ (48 ≤ c.toNat ∧ c.toNat ≤ 57) ∨ c.toNat = 95 ∨ c.toNat = 46 ∨ c.toNat = 47 ∨ c.toNat = 45 ∨ c.toNat = 61 ∨ c.toNat > 126
instance (c : UInt8) : Decidable (bareC c) := by unfold bareC; exact inferInstance
def bareW (w : List UInt8) : Prop := w ≠ [] ∧ ∀ c ∈ w, bareC c
instance (w : List UInt8) : Decidable (bareW w) := by unfold bareW; exact inferInstance
def quo (w : List UInt8) : List UInt8 := if bareW w then w else 39 :: (esc w ++ [39])
def joinQ : List (List UInt8) → List UInt8
  | [] => []
  | [w] => quo w
  | w :: v :: r => quo w ++ 32 :: joinQ (v :: r)
theorem bare_not {c : UInt8} (h : bareC c) : ¬ gap c ∧ c ≠ 92 ∧ c ≠ 39 ∧ c ≠ 34 := by
  unfold bareC at h
  unfold gap
  refine ⟨by omega, ?_, ?_, ?_⟩ <;> (rintro rfl; simp at h)
theorem wl_nil (ws : List (List UInt8)) (x : List UInt8) (b : Bool) : wl [] ws x b = (if b then ws ++ [x] else ws, 0) := by rw [wl.eq_def]
theorem wl_gap (c : UInt8) (r : List UInt8) (ws : List (List UInt8)) (x : List UInt8) (b : Bool) (h : gap c) : wl (c :: r) ws x b = wl r (if b then ws ++ [x] else ws) [] false := by rw [wl.eq_def]; simp only; rw [if_pos h]
theorem wl_esc (d : UInt8) (r : List UInt8) (ws : List (List UInt8)) (x : List UInt8) (b : Bool) : wl (92 :: d :: r) ws x b = wl r ws (x ++ [d]) true := by
  rw [wl.eq_def]; simp only; rw [if_neg (by decide), if_pos trivial]
theorem wl_quote (c : UInt8) (r : List UInt8) (ws : List (List UInt8)) (x : List UInt8) (b : Bool) (h : c = 39 ∨ c = 34) (o r' : List UInt8) (hp : pl c r [] = some (o, r')) : wl (c :: r) ws x b = wl r' ws (x ++ o) true := by
  have hg : ¬ gap c := by rcases h with rfl | rfl <;> decide
  have hb : c ≠ 92 := by rcases h with rfl | rfl <;> decide
  rw [wl.eq_def]
  simp only
  rw [if_neg hg, if_neg hb, if_pos h, dif_pos (by rw [hp]; rfl)]
  simp only [hp, Option.get_some]
theorem wl_bad (c : UInt8) (r : List UInt8) (ws : List (List UInt8)) (x : List UInt8) (b : Bool) (h : c = 39 ∨ c = 34) (hp : pl c r [] = none) : wl (c :: r) ws x b = ([], 2) := by
  have hg : ¬ gap c := by rcases h with rfl | rfl <;> decide
  have hb : c ≠ 92 := by rcases h with rfl | rfl <;> decide
  rw [wl.eq_def]
  simp only
  rw [if_neg hg, if_neg hb, if_pos h, dif_neg (by rw [hp]; simp)]
theorem wl_plain (c : UInt8) (r : List UInt8) (ws : List (List UInt8)) (x : List UInt8) (b : Bool) (h1 : ¬ gap c) (h2 : c ≠ 92) (h3 : ¬ (c = 39 ∨ c = 34)) : wl (c :: r) ws x b = wl r ws (x ++ [c]) true := by
  rw [wl.eq_def]; simp only; rw [if_neg h1, if_neg h2, if_neg h3]
theorem wl_bare : ∀ (w r : List UInt8) (ws : List (List UInt8)) (x : List UInt8) (b : Bool), (∀ c ∈ w, bareC c) → wl (w ++ r) ws x b = wl r ws (x ++ w) (if w = [] then b else true)
  | [], r, ws, x, b, _ => by simp
  | c :: w, r, ws, x, b, h => by
    obtain ⟨h1, h2, h3, h4⟩ := bare_not (h c (by simp))
    rw [List.cons_append, wl_plain c _ _ _ _ h1 h2 (by rintro (e | e); exact h3 e; exact h4 e), wl_bare w r ws _ true (fun d hd => h d (by simp [hd]))]
    simp
/-- Up to the next quote. -/
theorem pl_to : ∀ (u r o : List UInt8), (∀ c ∈ u, c ≠ 39) → pl 39 (u ++ 39 :: r) o = some (o ++ u, r)
  | [], r, o, _ => by rw [List.nil_append, List.append_nil, pl.eq_def]; simp only [if_true]
  | [c], r, o, h => by
    have := h c (by simp)
    rw [List.cons_append, List.nil_append, pl.eq_def]
    simp only
    rw [if_neg this, if_neg (by rintro ⟨e, _⟩; cases e), pl.eq_def]
    simp
  | c :: d :: u, r, o, h => by
    have := h c (by simp)
    have ih := pl_to (d :: u) r (o ++ [c]) (fun e he => h e (by simp [he]))
    simp only [List.cons_append, List.nil_append] at ih ⊢
    rw [pl.eq_def]
    simp only
    rw [if_neg this, if_neg (by rintro ⟨e, _⟩; cases e), ih]
    simp
theorem esc_free : ∀ (u : List UInt8), (∀ c ∈ u, c ≠ 39) → esc u = u
  | [], _ => rfl
  | c :: u, h => by
    have ih := esc_free u (fun e he => h e (by simp [he]))
    have h1 := h c (by simp)
    unfold esc at ih ⊢
    rw [List.flatMap_cons, ih, if_neg h1]
    rfl
theorem esc_app (a b : List UInt8) : esc (a ++ b) = esc a ++ esc b := by unfold esc; rw [List.flatMap_append]
theorem split_q : ∀ (w : List UInt8), (∀ c ∈ w, c ≠ 39) ∨ ∃ u v, w = u ++ 39 :: v ∧ (∀ c ∈ u, c ≠ 39)
  | [] => .inl (by simp)
  | c :: w => by
    by_cases h : c = 39
    · exact .inr ⟨[], w, by simp [h], by simp⟩
    · rcases split_q w with h1 | ⟨u, v, rfl, h1⟩
      · exact .inl (by intro d hd; rcases List.mem_cons.1 hd with rfl | hd; exact h; exact h1 d hd)
      · exact .inr ⟨c :: u, v, by simp, by intro d hd; rcases List.mem_cons.1 hd with rfl | hd; exact h; exact h1 d hd⟩
theorem wl_quoted : ∀ (n : Nat) (w r : List UInt8) (ws : List (List UInt8)) (x : List UInt8) (b : Bool), w.length ≤ n → wl (39 :: (esc w ++ 39 :: r)) ws x b = wl r ws (x ++ w) true
  | n, w, r, ws, x, b, hn => by
    rcases split_q w with h | ⟨u, v, rfl, h⟩
    · rw [esc_free w h, wl_quote 39 _ ws x b (.inl rfl) w r (by rw [pl_to w r [] h]; simp)]
    · cases n with
      | zero => simp at hn
      | succ n =>
        have e : esc (u ++ 39 :: v) = u ++ [39, 92, 39, 39] ++ esc v := by
          rw [esc_app, esc_free u h]
          simp [esc]
        rw [e, show u ++ [39, 92, 39, 39] ++ esc v ++ 39 :: r = u ++ 39 :: (92 :: 39 :: 39 :: (esc v ++ 39 :: r)) by simp, wl_quote 39 _ ws x b (.inl rfl) u (92 :: 39 :: 39 :: (esc v ++ 39 :: r)) (by rw [pl_to u _ [] h]; simp), wl_esc, wl_quoted n v r ws _ true (by simp at hn; omega)]
        simp
theorem wl_quo (w r : List UInt8) (ws : List (List UInt8)) (x : List UInt8) (b : Bool) : wl (quo w ++ r) ws x b = wl r ws (x ++ w) true := by
  unfold quo
  by_cases h : bareW w
  · rw [if_pos h, wl_bare w r ws x b h.2, if_neg h.1]
  · rw [if_neg h]
    have := wl_quoted w.length w r ws x b (Nat.le_refl _)
    simpa using this
theorem wl_join : ∀ (l : List (List UInt8)) (ws : List (List UInt8)), wl (joinQ l) ws [] false = (ws ++ l, 0)
  | [], ws => by simp [joinQ, wl_nil]
  | [w], ws => by
    have := wl_quo w [] ws [] false
    rw [List.append_nil] at this
    rw [joinQ, this, wl_nil]
    simp
  | w :: v :: r, ws => by
    rw [joinQ, wl_quo, wl_gap 32 _ _ _ _ (by decide)]
    simp only [if_true]
    rw [wl_join (v :: r)]
    simp
end Go.Proofs.YthdalpminhbckaaDoor.QL
namespace Go.Proofs.YthdalpminhbckaaDoor.G
open Go.RowKit Go.Proofs.YthdalpminhbckaaDoorW.PrintWords Go.Proofs.YthdalpminhbckaaDoor.Tx Go.Lib Go.Proofs.YthdalpminhbckaaDoor.K Go.Proofs.YthdalpminhbckaaDoor.QL

theorem bt_getD' (s : ByteArray) (i : Nat) : bt s (i : Int) = ((s.data.toList.getD i 0).toNat : Int) := by
  unfold bt
  rw [Int.toNat_natCast]
  split
  case isTrue h =>
    have h' : i < s.data.toList.length := by rw [← size_len]; exact h
    rw [List.getD_eq_getElem?_getD, List.getElem?_eq_getElem h']
    rfl
  case isFalse h =>
    have h' : s.data.toList.length ≤ i := by rw [← size_len]; omega
    rw [List.getD_eq_getElem?_getD, List.getElem?_eq_none h']
    rfl
theorem letter_eq (c : Int) : doc_isLetter.f c = some (decide ((97 ≤ c ∧ c ≤ 122) ∨ (65 ≤ c ∧ c ≤ 90))) := by
  unfold doc_isLetter.f
  by_cases h1 : c ≥ 97
  · rw [if_pos h1]
    by_cases h2 : c ≤ 122
    · rw [if_pos h2, decide_eq_true (.inl ⟨h1, h2⟩)]
    · rw [if_neg h2, if_pos (by omega)]
      congr 1
      exact decide_eq_decide.2 ⟨fun h => by omega, fun h => by omega⟩
  · rw [if_neg h1]
    by_cases h3 : c ≥ 65
    · rw [if_pos h3]
      congr 1
      exact decide_eq_decide.2 ⟨fun h => by omega, fun h => by omega⟩
    · rw [if_neg h3, decide_eq_false (by omega)]
theorem find_five : ∀ c : Fin 256, (Lib.indexByte [95, 46, 47, 45, 61] c.val.toUInt8 ≥ 0) ↔ (c.val = 95 ∨ c.val = 46 ∨ c.val = 47 ∨ c.val = 45 ∨ c.val = 61) := by decide +kernel
theorem five_eq (c : Nat) (h : c < 256) : ∃ r, strings_IndexByte.f (⟨#[95, 46, 47, 45, 61]⟩ : ByteArray) (c : Int) = some r ∧ (r ≥ 0 ↔ (c = 95 ∨ c = 46 ∨ c = 47 ∨ c = 45 ∨ c = 61)) := by
  refine ⟨_, rfl, ?_⟩
  have := find_five ⟨c, h⟩
  simpa using this
def plainB (s : ByteArray) : Bool := decide (bareW s.data.toList)
def Pd (s : ByteArray) (l : List UInt8) : Bool := decide (s.data.toList ≠ [] ∧ ∀ c ∈ l, bareC c)
theorem Pd_yes {s : ByteArray} {c : UInt8} {l : List UInt8} (h : bareC c) : some (Pd s l) = some (Pd s (c :: l)) := by
  unfold Pd
  congr 1
  exact decide_eq_decide.2 ⟨fun x => ⟨x.1, fun y hy => by rcases List.mem_cons.1 hy with rfl | hy; exact h; exact x.2 y hy⟩, fun x => ⟨x.1, fun y hy => x.2 y (List.mem_cons_of_mem _ hy)⟩⟩
theorem Pd_no {s : ByteArray} {c : UInt8} {l : List UInt8} (h : ¬ bareC c) : some false = some (Pd s (c :: l)) := by
  unfold Pd
  rw [decide_eq_false (fun x => h (x.2 c (by simp)))]
theorem plain_step (s : ByteArray) (hs : s.size ≤ 4096) : ∀ (d i k : Nat), i ≤ s.size → s.size - i = d → d < k → doc_isPlain.l0 k s (s.size : Int) (i : Int) = some (Pd s (s.data.toList.drop i))
  | d, i, k, hi, hd, hk => by
    obtain ⟨k, rfl⟩ : ∃ j, k = j + 1 := ⟨k - 1, by omega⟩
    simp only [doc_isPlain.l0]
    by_cases h : i < s.size
    case neg =>
      rw [if_neg (by omega), List.drop_eq_nil_of_le (by rw [← size_len]; omega)]
      unfold Pd
      congr 1
      rw [ByteArray.toList_eq, Bool.eq_iff_iff]
      simp
    have hlt : i < s.data.toList.length := by rw [← size_len]; exact h
    rw [if_pos (by omega), if_pos (by omega), if_pos (by omega), bt_getD', letter_eq]
    have hb : (s.data.toList.getD i 0).toNat < 256 := (s.data.toList.getD i 0).toNat_lt
    have hdrop : s.data.toList.drop i = s.data.toList.getD i 0 :: s.data.toList.drop (i + 1) := by
      rw [List.getD_eq_getElem?_getD, List.getElem?_eq_getElem hlt]
      exact List.drop_eq_getElem_cons hlt
    rw [hdrop]
    generalize hc : s.data.toList.getD i 0 = c at *
    obtain ⟨r, hr, hr2⟩ := five_eq c.toNat hb
    cases d with
    | zero => omega
    | succ d =>
      have e : wrap64 ((i : Int) + 1) = ((i + 1 : Nat) : Int) := by unfold wrap64; omega
      have ih := plain_step s hs d (i + 1) k (by omega) (by omega) (by omega)
      simp only [Option.bind_some, decide_eq_true_eq, e, ih, hr]
      have yes : bareC c → some (Pd s (s.data.toList.drop (i + 1))) = some (Pd s (c :: s.data.toList.drop (i + 1))) := Pd_yes
      have no : ¬ bareC c → some false = some (Pd s (c :: s.data.toList.drop (i + 1))) := Pd_no
      unfold bareC at yes no
      by_cases a1 : (97 ≤ (c.toNat : Int) ∧ (c.toNat : Int) ≤ 122) ∨ (65 ≤ (c.toNat : Int) ∧ (c.toNat : Int) ≤ 90)
      · rw [if_pos a1]; exact yes (by omega)
      rw [if_neg a1]
      by_cases a2 : (c.toNat : Int) ≥ 48
      · rw [if_pos a2]
        by_cases a3 : (c.toNat : Int) ≤ 57
        · rw [if_pos a3]; exact yes (by omega)
        rw [if_neg a3]
        by_cases a4 : (c.toNat : Int) > 126
        · rw [if_pos a4]; exact yes (by omega)
        rw [if_neg a4]
        by_cases a5 : r ≥ 0
        · rw [if_pos a5]; exact yes (by have := hr2.1 a5; omega)
        · rw [if_neg a5]; exact no (fun h => a5 (hr2.2 (by omega)))
      · rw [if_neg a2]
        by_cases a4 : (c.toNat : Int) > 126
        · rw [if_pos a4]; exact yes (by omega)
        rw [if_neg a4]
        by_cases a5 : r ≥ 0
        · rw [if_pos a5]; exact yes (by have := hr2.1 a5; omega)
        · rw [if_neg a5]; exact no (fun h => a5 (hr2.2 (by omega)))
theorem plain_eq (s : ByteArray) (hs : s.size ≤ 4096) : doc_isPlain.f 5000 s = some (plainB s) := by
  unfold doc_isPlain.f
  have := plain_step s hs s.size 0 5000 (by omega) (by omega) (by omega)
  rw [List.drop_zero] at this
  exact this
/-- A word as it is quoted. -/
def quoB (s : ByteArray) : List UInt8 := quo s.data.toList
theorem esc_replace (l : List UInt8) : Lib.replaceAll l [39] [39, 92, 39, 39] = esc l := by
  rw [Sl.replaceAll_one 39 [39, 92, 39, 39] l (by decide)]
  rfl
theorem esc_len (l : List UInt8) : (esc l).length ≤ 4 * l.length := by
  induction l with
  | nil => simp [esc]
  | cons c l ih =>
    unfold esc at ih ⊢
    rw [List.flatMap_cons, List.length_append, List.length_cons]
    split
    · simp only [List.length_cons, List.length_nil]; omega
    · simp only [List.length_cons, List.length_nil]; omega
theorem quo_len (l : List UInt8) : (quo l).length ≤ 4 * l.length + 2 := by
  have := esc_len l
  unfold quo
  split
  · omega
  · simp; omega
/-- The first k words, quoted, with blanks between them. -/
def accQ (xs : List ByteArray) : Nat → List UInt8
  | 0 => []
  | k + 1 => accQ xs k ++ (if k = 0 then [] else [32]) ++ quoB (rdOf ByteArray.empty xs (k : Int))
theorem accQ_mono (xs : List ByteArray) : ∀ (d k : Nat), (accQ xs k).length ≤ (accQ xs (k + d)).length
  | 0, k => Nat.le_refl _
  | d + 1, k => by
    have := accQ_mono xs d k
    show _ ≤ (accQ xs (k + d) ++ _ ++ _).length
    rw [List.length_append, List.length_append]
    omega
def askB (s : ByteArray) : Int := match doc_asked.f s with
  | some e => e
  | none => 0
theorem ask_some (s : ByteArray) : doc_asked.f s = some (askB s) := by
  have : ∃ e, doc_asked.f s = some e := by
    unfold doc_asked.f
    by_cases h : (s.size : Int) > 4096
    · rw [if_pos h]; exact ⟨_, rfl⟩
    · rw [if_neg h]
      unfold chars_Valid.f
      rw [if_pos (by omega)]
      simp only [Option.bind_some]
      split <;> exact ⟨_, rfl⟩
  obtain ⟨e, h⟩ := this
  unfold askB
  rw [h]
theorem ask_size {s : ByteArray} (h : askB s = 0) : s.size ≤ 4096 := by
  rcases Nat.lt_or_ge 4096 s.size with h1 | h1
  · have := ask_some s
    unfold doc_asked.f at this
    rw [if_pos (by omega)] at this
    simp at this
    omega
  · exact h1
/-- The first error of words; 0 if there is none. -/
def firstE : List ByteArray → Int
  | [] => 0
  | x :: r => if askB x = 0 then firstE r else askB x
theorem firstE_all : ∀ {xs : List ByteArray}, firstE xs = 0 → ∀ x ∈ xs, askB x = 0
  | y :: xs, h, x, hx => by
    unfold firstE at h
    by_cases h0 : askB y = 0
    · rw [if_pos h0] at h
      rcases List.mem_cons.1 hx with rfl | hx
      · exact h0
      · exact firstE_all h x hx
    · rw [if_neg h0] at h; exact absurd h h0
theorem firstE_drop (xs : List ByteArray) (k : Nat) (h : k < xs.length) : firstE (xs.drop k) = if askB (rdOf ByteArray.empty xs (k : Int)) = 0 then firstE (xs.drop (k + 1)) else askB (rdOf ByteArray.empty xs (k : Int)) := by
  rw [List.drop_eq_getElem_cons h]
  unfold rdOf
  rw [Int.toNat_natCast, List.getD_eq_getElem?_getD, List.getElem?_eq_getElem h]
  rfl
def doc_Quote.f (l0 : List ByteArray) : Option (ByteArray × Int) :=
  if firstE l0 = 0 then (if l0.length ≤ 100000 then (if (accQ l0 l0.length).length > 4096 then some (⟨#[]⟩, 3) else some (⟨(accQ l0 l0.length).toArray⟩, 0)) else none) else some (⟨#[]⟩, firstE l0)
theorem rd_mem' (xs : List ByteArray) (k : Nat) (h : k < xs.length) : rdOf ByteArray.empty xs (k : Int) ∈ xs := by
  unfold rdOf
  rw [Int.toNat_natCast, List.getD_eq_getElem?_getD, List.getElem?_eq_getElem h]
  exact List.getElem_mem h
set_option maxHeartbeats 2000000 in
set_option maxRecDepth 100000 in
theorem Quote_err (A0 : Option Addr) (c0 : Nat) (l0 : List ByteArray) (w : World) (hL : LaidW w) (hr0 : Kd.C Kd.string w A0 l0.length l0) (he : ¬ firstE l0 = 0) :
    Calls Tryd.prog 19 #[.slice A0 l0.length c0] w fun e w' => e = .returned (.tuple #[.string ⟨#[]⟩, .int .i64 (firstE l0)]) ∧ Below w.heap.size w w' := by
  have hn := Kd.C_max hr0
  have hC := Aside0.mk hr0
  have hask := Aside0.mk (fun x w hL => doc_asked.calls x (askB x) w hL (ask_some x))
  have hfd := Aside0.mk (firstE_drop l0)
  have hE : Aside0 (firstE (l0.drop 0) = firstE l0 ∧ ¬ firstE l0 = 0) := ⟨rfl, he⟩
  clear hr0 he
  generalize firstE l0 = E at *
  go_enter Tryd.func19, Tryd.ntmps19
  go_wp2
  go_loopw [12] (fun i wr => ∃ k : Nat, k ≤ l0.length ∧ i = .int .i64 k ∧ Below w.heap.size w wr ∧ Aside0 (firstE (l0.drop k) = E ∧ ¬ E = 0)) (fun i _ => l0.length - (Go.RowKit.intOf i).toNat)
  case atStart => exact ⟨0, by omega, rfl, Below.refl _ _, hE⟩
  case round =>
    obtain ⟨k, hk, rfl, hb, hEk⟩ := hrel
    by_cases hlt : k < l0.length
    · obtain ⟨ad, e0, hcell⟩ := Kd.at_string (Kd.C_below hC.out hb) (k : Int) (by omega) (by omega)
      rw [Int.toNat_natCast] at hcell
      cases e0
      have hf := Aside0.mk (hfd.out k hlt)
      have ha := Aside0.mk (hask.out (rdOf ByteArray.empty l0 (k : Int)) wr (hL.below hb))
      generalize rdOf ByteArray.empty l0 (k : Int) = x at *
      by_cases hx : askB x = 0
      · have hxx := Aside0.mk hx
        rw [hx] at ha
        clear hx
        go_wp2_with (go_at_call 36; refine ha.out.mono ?_; rintro e w1 ⟨rfl, hb1⟩)
        go_roundw
        case rel => exact ⟨k + 1, by omega, by go_num, hb.trans (hb1.mono hb.size), ⟨by rw [← hEk.out.1, hf.out, if_pos hxx.out], hEk.out.2⟩⟩
        case measure => simp [Go.RowKit.intOf]; omega
      · have hee : Aside0 (askB x = E) := ⟨by rw [← hEk.out.1, hf.out, if_neg hx]⟩
        rw [hee.out] at ha hx
        have d1 : (E == 0) = false := beq_eq_false_iff_ne.2 hx
        have d2 : (E != 0) = true := bne_iff_ne.2 hx
        clear hx
        go_wp2_with (go_at_call 36; refine ha.out.mono ?_; rintro e w1 ⟨rfl, hb1⟩)
        go_ret2
        exact ⟨rfl, hb.trans (hb1.mono hb.size)⟩
    · exfalso
      obtain rfl : k = l0.length := by omega
      obtain ⟨h1, h2⟩ := hEk.out
      rw [List.drop_length] at h1
      exact h2 h1.symm

theorem IsB_drewN {B b : Nat} {bs : List Value} {w : World} (h : IsB B b bs w) (n : Nat) : IsB B b bs (w.drewN n) := IsBuilderF.below h (pw_below_drewN (Below.refl _ _) n)
theorem ret_p2 {a b : ByteArray} {i j : Int} (h1 : a = b) (h2 : i = j) : Ending.returned (.tuple #[.string a, .int .i64 i]) = .returned (.tuple #[.string b, .int .i64 j]) := by rw [h1, h2]
def resQ (l : List UInt8) : Value := .tuple (if l.length > 4096 then #[.string ⟨#[]⟩, .int .i64 3] else #[.string ⟨l.toArray⟩, .int .i64 0])
theorem resQ_big {l : List UInt8} (h : l.length > 4096) : resQ l = .tuple #[.string ⟨#[]⟩, .int .i64 3] := by unfold resQ; rw [if_pos h]
theorem resQ_small {l : List UInt8} (h : l.length ≤ 4096) : resQ l = .tuple #[.string ⟨l.toArray⟩, .int .i64 0] := by unfold resQ; rw [if_neg (by omega)]
theorem len_any (B b : Nat) (acc : List UInt8) (n : Nat) (hn : acc.length = n) (w : World) (h : IsB B b (byteCells acc) w) :
    Calls Tryd.prog 46 #[.pointer (some ⟨b, 0, none⟩)] w fun e w' => e = .returned (.int .i64 (n : Int)) ∧ w' = w := by
  have := Tryd.Builder_Len_f B b (byteCells acc) w h
  rwa [byteCells_length, hn] at this
theorem quoB_plain {x : ByteArray} (h : plainB x = true) : quoB x = x.data.toList := by
  unfold plainB at h
  unfold quoB quo
  rw [if_pos (of_decide_eq_true h)]
theorem quoB_not {x : ByteArray} (h : plainB x = false) : quoB x = 39 :: (esc x.data.toList ++ [39]) := by
  unfold plainB at h
  unfold quoB quo
  rw [if_neg (of_decide_eq_false h)]
theorem ba_list (s : ByteArray) : s = ⟨s.data.toList.toArray⟩ := by simp
theorem ba_app_list (a b : ByteArray) : (a ++ b).data.toList = a.data.toList ++ b.data.toList := by simp
theorem byteCells_app (a b : List UInt8) : byteCells (a ++ b) = byteCells a ++ byteCells b := by simp [byteCells]
set_option maxHeartbeats 4000000 in
set_option maxRecDepth 100000 in
theorem Quote_good (A0 : Option Addr) (c0 : Nat) (l0 : List ByteArray) (w : World) (hL : LaidW w) (hr0 : Kd.C Kd.string w A0 l0.length l0) (hn : l0.length ≤ 100000) (he : firstE l0 = 0) :
    Calls Tryd.prog 19 #[.slice A0 l0.length c0] w fun e w' => e = .returned (resQ (accQ l0 l0.length)) ∧ Below w.heap.size w w' := by
  have hC := Aside0.mk hr0
  have hask := Aside0.mk (fun x (hx : x ∈ l0) w hL => doc_asked.calls x 0 w hL (by rw [ask_some, firstE_all he x hx]))
  have hsz := Aside0.mk (fun x (hx : x ∈ l0) => ask_size (firstE_all he x hx))
  have hpl := Aside0.mk (fun x (hx : x.size ≤ 4096) w => doc_isPlain.calls 5000 x (plainB x) w (plain_eq x hx))
  have hrp := Aside0.mk (fun x (hx : x.size ≤ 4096) w hL => strings_ReplaceAll.calls x (⟨#[39]⟩ : ByteArray) (⟨#[39, 92, 39, 39]⟩ : ByteArray) ⟨(esc x.data.toList).toArray⟩ w hL (by
    unfold strings_ReplaceAll.f
    have hcz := Sl.count_size x 39
    rw [← size_len] at hcz
    rw [if_pos ⟨by omega, by decide, by show x.size + Lib.countB x ⟨#[39]⟩ * 4 ≤ _; omega⟩]
    show some (⟨(Lib.replaceAll x.data.toList [39] [39, 92, 39, 39]).toArray⟩ : ByteArray) = _
    rw [esc_replace]))
  have hmem := Aside0.mk (rd_mem' l0)
  have hmono := Aside0.mk (accQ_mono l0)
  have hstep := Aside0.mk (fun k => (show accQ l0 (k + 1) = accQ l0 k ++ (if k = 0 then [] else [32]) ++ quoB (rdOf ByteArray.empty l0 (k : Int)) from rfl))
  clear hr0 he
  go_enter Tryd.func19, Tryd.ntmps19
  go_wp2
  go_loopw [12] (fun i wr => ∃ k : Nat, k ≤ l0.length ∧ i = .int .i64 k ∧ Below w.heap.size w wr) (fun i _ => l0.length - (Go.RowKit.intOf i).toNat)
  case atStart => exact ⟨0, by omega, rfl, Below.refl _ _⟩
  case round =>
    obtain ⟨k, hk, rfl, hb⟩ := hrel
    by_cases hlt : k < l0.length
    · obtain ⟨ad, e0, hcell⟩ := Kd.at_string (Kd.C_below hC.out hb) (k : Int) (by omega) (by omega)
      rw [Int.toNat_natCast] at hcell
      cases e0
      have ha := Aside0.mk (hask.out (rdOf ByteArray.empty l0 (k : Int)) (hmem.out k hlt) wr (hL.below hb))
      generalize rdOf ByteArray.empty l0 (k : Int) = x at *
      go_wp2_with (go_at_call 36; refine ha.out.mono ?_; rintro e w1 ⟨rfl, hb1⟩)
      go_roundw
      case rel => exact ⟨k + 1, by omega, by go_num, hb.trans (hb1.mono hb.size)⟩
      case measure => simp [Go.RowKit.intOf]; omega
    · obtain rfl : k = l0.length := by omega
      obtain ⟨wo, rfl⟩ : ∃ wo : World, wo = wr := ⟨_, rfl⟩
      have hL1 := hL.below hb
      have hC1 := Aside0.mk (Kd.C_below hC.out hb)
      have hbW := Aside0.mk hb
      clear hb hC hL hlt hk
      go_wp2
      go_loopw [24] (fun i wq => ∃ k : Nat, k ≤ l0.length ∧ i = .int .i64 k ∧ Aside0 (IsB wo.heap.size wo.heap.size (byteCells (accQ l0 k)) wq) ∧ Below wo.heap.size wo wq ∧ (accQ l0 k).length ≤ 4096) (fun i _ => l0.length - (Go.RowKit.intOf i).toNat)
      case atStart => exact ⟨0, by omega, rfl, ⟨IsBuilderF.of (fresh_isBuilder 51 5 wo)⟩, (Below.refl _ _).alloc (Nat.le_refl _) _, by simp [accQ]⟩
      case round =>
        obtain ⟨k, hk, rfl, hI, hb, hacc⟩ := hrel
        have hsw := hb.size
        by_cases hlt : k < l0.length
        · obtain ⟨ad, e0, hcell⟩ := Kd.at_string (Kd.C_below hC1.out hb) (k : Int) (by omega) (by omega)
          rw [Int.toNat_natCast] at hcell
          cases e0
          have hxs := hsz.out _ (hmem.out k hlt)
          have hs1 := Aside0.mk (hstep.out k)
          have hmo := Aside0.mk (hmono.out (l0.length - (k + 1)) (k + 1))
          have hkk : Aside0 (k + 1 + (l0.length - (k + 1)) = l0.length) := ⟨by omega⟩
          generalize rdOf ByteArray.empty l0 (k : Int) = x at *
          have hp := Aside0.mk (hpl.out x hxs)
          have hr := Aside0.mk (hrp.out x hxs)
          have hql := quo_len x.data.toList
          rw [← size_len] at hql
          -- the blank between words
          obtain ⟨acc1, hacc1⟩ : ∃ acc1, acc1 = accQ l0 k ++ (if k = 0 then [] else [32]) := ⟨_, rfl⟩
          have hal1 : acc1.length ≤ 4097 := by rw [hacc1]; split <;> simp <;> omega
          have hA1 := Aside0.mk hacc1
          clear hacc1
          have hbyte := Aside0.mk (writeByte_any wo.heap.size wo.heap.size (byteCells (accQ l0 k)) 32 wr hI.out (by rw [byteCells_length]; omega) hsw)
          have hq2 : Aside0 (accQ l0 (k + 1) = acc1 ++ quoB x) := ⟨by rw [hs1.out, hA1.out]⟩
          have hst0 : (k = 0 ∧ decide (0 < k) = false) ∨ (¬ k = 0 ∧ decide (0 < k) = true) := by
            by_cases h : k = 0
            · exact .inl ⟨h, decide_eq_false (by omega)⟩
            · exact .inr ⟨h, decide_eq_true (by omega)⟩
          rcases hst0 with ⟨hk0, hd0⟩ | ⟨hk0, hd0⟩
          · have hI1 : Aside0 (IsB wo.heap.size wo.heap.size (byteCells acc1) wr) := ⟨by rw [hA1.out, if_pos hk0, List.append_nil]; exact hI.out⟩
            clear hk0 hA1 hI hs1
            go_wp2_with fail
            have hb2 := Below.refl wo.heap.size wr
            obtain ⟨w2, hw2⟩ : ∃ w2 : World, w2 = wr := ⟨_, rfl⟩
            rw [← hw2] at hI1 hb2 ⊢
            have hbA := Aside0.mk (hb.trans (show Below wo.heap.size wr w2 by rw [hw2]; exact Below.refl _ _))
            clear hw2 hb2
            clear hb hbyte
            have hsz2 := hbA.out.size
            have hL2 := Aside0.mk (hL1.below (hbA.out.mono (Nat.le_refl _)))
            rcases (Bool.eq_false_or_eq_true (plainB x)) with hpb | hpb
            · have hqx := quoB_plain hpb
              rw [hpb] at hp
              have hI2 : Aside0 (∀ w3, AtB wo.heap.size wo.heap.size (.pointer (some ⟨wo.heap.size, 0, none⟩)) (byteCells acc1 ++ strCells x) w3 → IsB wo.heap.size wo.heap.size (byteCells (accQ l0 (k + 1))) w3) := ⟨fun w3 h3 => by rw [hq2.out, hqx, byteCells_app]; exact Or.inr h3⟩
              have hlq : (accQ l0 (k + 1)).length = acc1.length + x.size := by rw [hq2.out, hqx, List.length_append, size_len]
              clear hpb hqx hq2
              have hle := Aside0.mk (fun w3 => len_any wo.heap.size wo.heap.size (accQ l0 (k + 1)) (acc1.length + x.size) hlq w3)
              have hws := Aside0.mk (fun nd => writeString_any wo.heap.size wo.heap.size (byteCells acc1) x (w2.drewN nd) (IsB_drewN hI1.out nd) (by rw [byteCells_length]; omega) (by simpa using hsz2))
              rcases (show 4096 < acc1.length + x.size ∨ ¬ 4096 < acc1.length + x.size by omega) with hov | hov
              · have hbig : (accQ l0 l0.length).length > 4096 := by have := hmo.out; rw [hkk.out] at this; omega
                have hbg := Aside0.mk (resQ_big hbig)
                have d1 : decide (4096 < acc1.length + x.size) = true := decide_eq_true hov
                have d2 : decide ((4096 : Int) < ((acc1.length + x.size : Nat) : Int)) = true := decide_eq_true (by omega)
                have d3 : decide ((4096 : Int) < (acc1.length : Int) + (x.size : Int)) = true := decide_eq_true (by omega)
                clear hov hbig hlq
                go_wp2_with (first | (go_at_call 43; refine (hp.out _).mono ?_; rintro e w3 ⟨rfl, ⟨nd, rfl⟩⟩) | (go_at_call 44; refine (hws.out nd).mono ?_; rintro e w4 ⟨rfl, h4, hb4, hk4⟩; have hI4 := Aside0.mk (hI2.out _ h4); clear h4 hk4) | (go_at_call 46; refine (hle.out _ hI4.out).mono ?_; rintro e w5 ⟨rfl, rfl⟩))
                go_ret2
                exact ⟨by rw [hbg.out]; rfl, hbW.out.trans ((hbA.out.trans ((pw_below_drewN (Below.refl _ _) nd).trans hb4)).mono hbW.out.size)⟩
              · have d1 : decide (4096 < acc1.length + x.size) = false := decide_eq_false hov
                have d2 : decide ((4096 : Int) < ((acc1.length + x.size : Nat) : Int)) = false := decide_eq_false (by omega)
                have d3 : decide ((4096 : Int) < (acc1.length : Int) + (x.size : Int)) = false := decide_eq_false (by omega)
                have hln := Aside0.mk (show (accQ l0 (k + 1)).length ≤ 4096 by omega)
                clear hov hlq
                go_wp2_with (first | (go_at_call 43; refine (hp.out _).mono ?_; rintro e w3 ⟨rfl, ⟨nd, rfl⟩⟩) | (go_at_call 44; refine (hws.out nd).mono ?_; rintro e w4 ⟨rfl, h4, hb4, hk4⟩; have hI4 := Aside0.mk (hI2.out _ h4); clear h4 hk4) | (go_at_call 46; refine (hle.out _ hI4.out).mono ?_; rintro e w5 ⟨rfl, rfl⟩))
                go_roundw
                case rel => exact ⟨k + 1, by omega, by go_num, hI4, hbA.out.trans ((pw_below_drewN (Below.refl _ _) nd).trans hb4), hln.out⟩
                case measure => simp [Go.RowKit.intOf]; omega
            · have hqx := quoB_not hpb
              rw [hpb] at hp
              have hel := esc_len x.data.toList
              rw [← size_len] at hel
              obtain ⟨y, hy⟩ : ∃ y : ByteArray, y = ⟨(esc x.data.toList).toArray⟩ := ⟨_, rfl⟩
              have hyl : y.data.toList = esc x.data.toList := by rw [hy]
              rw [← hy] at hr
              have hyz : y.size ≤ 16384 := by rw [size_len, hyl]; omega
              obtain ⟨z, hz⟩ : ∃ z : ByteArray, z = (⟨#[39]⟩ : ByteArray) ++ y ++ (⟨#[39]⟩ : ByteArray) := ⟨_, rfl⟩
              have hzl : z.data.toList = quoB x := by rw [hz, ba_app_list, ba_app_list, hyl, hqx]; simp
              have hzz : z.size = y.size + 2 := by rw [hz, ByteArray.size_append, ByteArray.size_append]; show 1 + y.size + 1 = _; omega
              have hI2 : Aside0 (∀ w3, AtB wo.heap.size wo.heap.size (.pointer (some ⟨wo.heap.size, 0, none⟩)) (byteCells acc1 ++ strCells z) w3 → IsB wo.heap.size wo.heap.size (byteCells (accQ l0 (k + 1))) w3) := ⟨fun w3 h3 => by rw [hq2.out, ← hzl, byteCells_app]; exact Or.inr h3⟩
              have hlq : (accQ l0 (k + 1)).length = acc1.length + z.size := by rw [hq2.out, ← hzl, List.length_append, size_len]
              have hzA := Aside0.mk hz
              have hyy := Aside0.mk hy
              clear hpb hqx hq2 hyl hel hzl hy hz
              have hle := Aside0.mk (fun w3 => len_any wo.heap.size wo.heap.size (accQ l0 (k + 1)) (acc1.length + z.size) hlq w3)
              have hws := Aside0.mk (fun w3 (h3 : Below w2.heap.size w2 w3) => writeString_any wo.heap.size wo.heap.size (byteCells acc1) z w3 (IsBuilderF.below hI1.out h3) (by rw [byteCells_length]; omega) (by have := h3.size; omega))
              rw [hzA.out] at hws hI2
              rcases (show 4096 < acc1.length + z.size ∨ ¬ 4096 < acc1.length + z.size by omega) with hov | hov
              · have hbig : (accQ l0 l0.length).length > 4096 := by have := hmo.out; rw [hkk.out] at this; omega
                have hbg := Aside0.mk (resQ_big hbig)
                have d1 : decide (4096 < acc1.length + z.size) = true := decide_eq_true hov
                have d2 : decide ((4096 : Int) < ((acc1.length + z.size : Nat) : Int)) = true := decide_eq_true (by omega)
                have d3 : decide ((4096 : Int) < (acc1.length : Int) + (z.size : Int)) = true := decide_eq_true (by omega)
                clear hov hbig hlq hzz
                go_wp2_with (first | (go_at_call 43; refine (hp.out _).mono ?_; rintro e w3 ⟨rfl, ⟨nd, rfl⟩⟩; have hb3 := pw_below_drewN (Below.refl w2.heap.size w2) nd) | (go_at_call 45; refine (hr.out _ (hL2.out.below hb3)).mono ?_; rintro e w6 ⟨rfl, hb6⟩; have hb7 := hb3.trans (hb6.mono hb3.size)) | (go_at_call 44; refine (hws.out _ hb7).mono ?_; rintro e w4 ⟨rfl, h4, hb4, hk4⟩; have hI4 := Aside0.mk (hI2.out _ h4); clear h4 hk4) | (go_at_call 46; refine (hle.out _ hI4.out).mono ?_; rintro e w5 ⟨rfl, rfl⟩))
                go_ret2
                exact ⟨by rw [hbg.out]; rfl, hbW.out.trans ((hbA.out.trans ((hb7.mono hsz2).trans hb4)).mono hbW.out.size)⟩
              · have d1 : decide (4096 < acc1.length + z.size) = false := decide_eq_false hov
                have d2 : decide ((4096 : Int) < ((acc1.length + z.size : Nat) : Int)) = false := decide_eq_false (by omega)
                have d3 : decide ((4096 : Int) < (acc1.length : Int) + (z.size : Int)) = false := decide_eq_false (by omega)
                have hln := Aside0.mk (show (accQ l0 (k + 1)).length ≤ 4096 by omega)
                clear hov hlq hzz
                go_wp2_with (first | (go_at_call 43; refine (hp.out _).mono ?_; rintro e w3 ⟨rfl, ⟨nd, rfl⟩⟩; have hb3 := pw_below_drewN (Below.refl w2.heap.size w2) nd) | (go_at_call 45; refine (hr.out _ (hL2.out.below hb3)).mono ?_; rintro e w6 ⟨rfl, hb6⟩; have hb7 := hb3.trans (hb6.mono hb3.size)) | (go_at_call 44; refine (hws.out _ hb7).mono ?_; rintro e w4 ⟨rfl, h4, hb4, hk4⟩; have hI4 := Aside0.mk (hI2.out _ h4); clear h4 hk4) | (go_at_call 46; refine (hle.out _ hI4.out).mono ?_; rintro e w5 ⟨rfl, rfl⟩))
                go_roundw
                case rel => exact ⟨k + 1, by omega, by go_num, hI4, hbA.out.trans ((hb7.mono hsz2).trans hb4), hln.out⟩
                case measure => simp [Go.RowKit.intOf]; omega
          · have hA2 : Aside0 (acc1 = accQ l0 k ++ [32]) := ⟨by rw [hA1.out, if_neg hk0]⟩
            clear hk0 hA1 hI hs1
            go_wp2_with (go_at_call 42; refine hbyte.out.mono ?_; rintro e w2 ⟨rfl, h2, hb2, hk2⟩)
            have hI1 : Aside0 (IsB wo.heap.size wo.heap.size (byteCells acc1) w2) := ⟨by rw [hA2.out, byteCells_app]; exact Or.inr h2⟩
            have hbA := Aside0.mk (hb.trans hb2)
            clear hb2 hk2 h2
            clear hb hbyte
            have hsz2 := hbA.out.size
            have hL2 := Aside0.mk (hL1.below (hbA.out.mono (Nat.le_refl _)))
            rcases (Bool.eq_false_or_eq_true (plainB x)) with hpb | hpb
            · have hqx := quoB_plain hpb
              rw [hpb] at hp
              have hI2 : Aside0 (∀ w3, AtB wo.heap.size wo.heap.size (.pointer (some ⟨wo.heap.size, 0, none⟩)) (byteCells acc1 ++ strCells x) w3 → IsB wo.heap.size wo.heap.size (byteCells (accQ l0 (k + 1))) w3) := ⟨fun w3 h3 => by rw [hq2.out, hqx, byteCells_app]; exact Or.inr h3⟩
              have hlq : (accQ l0 (k + 1)).length = acc1.length + x.size := by rw [hq2.out, hqx, List.length_append, size_len]
              clear hpb hqx hq2
              have hle := Aside0.mk (fun w3 => len_any wo.heap.size wo.heap.size (accQ l0 (k + 1)) (acc1.length + x.size) hlq w3)
              have hws := Aside0.mk (fun nd => writeString_any wo.heap.size wo.heap.size (byteCells acc1) x (w2.drewN nd) (IsB_drewN hI1.out nd) (by rw [byteCells_length]; omega) (by simpa using hsz2))
              rcases (show 4096 < acc1.length + x.size ∨ ¬ 4096 < acc1.length + x.size by omega) with hov | hov
              · have hbig : (accQ l0 l0.length).length > 4096 := by have := hmo.out; rw [hkk.out] at this; omega
                have hbg := Aside0.mk (resQ_big hbig)
                have d1 : decide (4096 < acc1.length + x.size) = true := decide_eq_true hov
                have d2 : decide ((4096 : Int) < ((acc1.length + x.size : Nat) : Int)) = true := decide_eq_true (by omega)
                have d3 : decide ((4096 : Int) < (acc1.length : Int) + (x.size : Int)) = true := decide_eq_true (by omega)
                clear hov hbig hlq
                go_wp2_with (first | (go_at_call 43; refine (hp.out _).mono ?_; rintro e w3 ⟨rfl, ⟨nd, rfl⟩⟩) | (go_at_call 44; refine (hws.out nd).mono ?_; rintro e w4 ⟨rfl, h4, hb4, hk4⟩; have hI4 := Aside0.mk (hI2.out _ h4); clear h4 hk4) | (go_at_call 46; refine (hle.out _ hI4.out).mono ?_; rintro e w5 ⟨rfl, rfl⟩))
                go_ret2
                exact ⟨by rw [hbg.out]; rfl, hbW.out.trans ((hbA.out.trans ((pw_below_drewN (Below.refl _ _) nd).trans hb4)).mono hbW.out.size)⟩
              · have d1 : decide (4096 < acc1.length + x.size) = false := decide_eq_false hov
                have d2 : decide ((4096 : Int) < ((acc1.length + x.size : Nat) : Int)) = false := decide_eq_false (by omega)
                have d3 : decide ((4096 : Int) < (acc1.length : Int) + (x.size : Int)) = false := decide_eq_false (by omega)
                have hln := Aside0.mk (show (accQ l0 (k + 1)).length ≤ 4096 by omega)
                clear hov hlq
                go_wp2_with (first | (go_at_call 43; refine (hp.out _).mono ?_; rintro e w3 ⟨rfl, ⟨nd, rfl⟩⟩) | (go_at_call 44; refine (hws.out nd).mono ?_; rintro e w4 ⟨rfl, h4, hb4, hk4⟩; have hI4 := Aside0.mk (hI2.out _ h4); clear h4 hk4) | (go_at_call 46; refine (hle.out _ hI4.out).mono ?_; rintro e w5 ⟨rfl, rfl⟩))
                go_roundw
                case rel => exact ⟨k + 1, by omega, by go_num, hI4, hbA.out.trans ((pw_below_drewN (Below.refl _ _) nd).trans hb4), hln.out⟩
                case measure => simp [Go.RowKit.intOf]; omega
            · have hqx := quoB_not hpb
              rw [hpb] at hp
              have hel := esc_len x.data.toList
              rw [← size_len] at hel
              obtain ⟨y, hy⟩ : ∃ y : ByteArray, y = ⟨(esc x.data.toList).toArray⟩ := ⟨_, rfl⟩
              have hyl : y.data.toList = esc x.data.toList := by rw [hy]
              rw [← hy] at hr
              have hyz : y.size ≤ 16384 := by rw [size_len, hyl]; omega
              obtain ⟨z, hz⟩ : ∃ z : ByteArray, z = (⟨#[39]⟩ : ByteArray) ++ y ++ (⟨#[39]⟩ : ByteArray) := ⟨_, rfl⟩
              have hzl : z.data.toList = quoB x := by rw [hz, ba_app_list, ba_app_list, hyl, hqx]; simp
              have hzz : z.size = y.size + 2 := by rw [hz, ByteArray.size_append, ByteArray.size_append]; show 1 + y.size + 1 = _; omega
              have hI2 : Aside0 (∀ w3, AtB wo.heap.size wo.heap.size (.pointer (some ⟨wo.heap.size, 0, none⟩)) (byteCells acc1 ++ strCells z) w3 → IsB wo.heap.size wo.heap.size (byteCells (accQ l0 (k + 1))) w3) := ⟨fun w3 h3 => by rw [hq2.out, ← hzl, byteCells_app]; exact Or.inr h3⟩
              have hlq : (accQ l0 (k + 1)).length = acc1.length + z.size := by rw [hq2.out, ← hzl, List.length_append, size_len]
              have hzA := Aside0.mk hz
              have hyy := Aside0.mk hy
              clear hpb hqx hq2 hyl hel hzl hy hz
              have hle := Aside0.mk (fun w3 => len_any wo.heap.size wo.heap.size (accQ l0 (k + 1)) (acc1.length + z.size) hlq w3)
              have hws := Aside0.mk (fun w3 (h3 : Below w2.heap.size w2 w3) => writeString_any wo.heap.size wo.heap.size (byteCells acc1) z w3 (IsBuilderF.below hI1.out h3) (by rw [byteCells_length]; omega) (by have := h3.size; omega))
              rw [hzA.out] at hws hI2
              rcases (show 4096 < acc1.length + z.size ∨ ¬ 4096 < acc1.length + z.size by omega) with hov | hov
              · have hbig : (accQ l0 l0.length).length > 4096 := by have := hmo.out; rw [hkk.out] at this; omega
                have hbg := Aside0.mk (resQ_big hbig)
                have d1 : decide (4096 < acc1.length + z.size) = true := decide_eq_true hov
                have d2 : decide ((4096 : Int) < ((acc1.length + z.size : Nat) : Int)) = true := decide_eq_true (by omega)
                have d3 : decide ((4096 : Int) < (acc1.length : Int) + (z.size : Int)) = true := decide_eq_true (by omega)
                clear hov hbig hlq hzz
                go_wp2_with (first | (go_at_call 43; refine (hp.out _).mono ?_; rintro e w3 ⟨rfl, ⟨nd, rfl⟩⟩; have hb3 := pw_below_drewN (Below.refl w2.heap.size w2) nd) | (go_at_call 45; refine (hr.out _ (hL2.out.below hb3)).mono ?_; rintro e w6 ⟨rfl, hb6⟩; have hb7 := hb3.trans (hb6.mono hb3.size)) | (go_at_call 44; refine (hws.out _ hb7).mono ?_; rintro e w4 ⟨rfl, h4, hb4, hk4⟩; have hI4 := Aside0.mk (hI2.out _ h4); clear h4 hk4) | (go_at_call 46; refine (hle.out _ hI4.out).mono ?_; rintro e w5 ⟨rfl, rfl⟩))
                go_ret2
                exact ⟨by rw [hbg.out]; rfl, hbW.out.trans ((hbA.out.trans ((hb7.mono hsz2).trans hb4)).mono hbW.out.size)⟩
              · have d1 : decide (4096 < acc1.length + z.size) = false := decide_eq_false hov
                have d2 : decide ((4096 : Int) < ((acc1.length + z.size : Nat) : Int)) = false := decide_eq_false (by omega)
                have d3 : decide ((4096 : Int) < (acc1.length : Int) + (z.size : Int)) = false := decide_eq_false (by omega)
                have hln := Aside0.mk (show (accQ l0 (k + 1)).length ≤ 4096 by omega)
                clear hov hlq hzz
                go_wp2_with (first | (go_at_call 43; refine (hp.out _).mono ?_; rintro e w3 ⟨rfl, ⟨nd, rfl⟩⟩; have hb3 := pw_below_drewN (Below.refl w2.heap.size w2) nd) | (go_at_call 45; refine (hr.out _ (hL2.out.below hb3)).mono ?_; rintro e w6 ⟨rfl, hb6⟩; have hb7 := hb3.trans (hb6.mono hb3.size)) | (go_at_call 44; refine (hws.out _ hb7).mono ?_; rintro e w4 ⟨rfl, h4, hb4, hk4⟩; have hI4 := Aside0.mk (hI2.out _ h4); clear h4 hk4) | (go_at_call 46; refine (hle.out _ hI4.out).mono ?_; rintro e w5 ⟨rfl, rfl⟩))
                go_roundw
                case rel => exact ⟨k + 1, by omega, by go_num, hI4, hbA.out.trans ((hb7.mono hsz2).trans hb4), hln.out⟩
                case measure => simp [Go.RowKit.intOf]; omega
        · obtain rfl : k = l0.length := by omega
          go_wp2_with (go_at_call 47; refine (Tryd.Builder_String_any_k wo.heap.size wo.heap.size (accQ l0 l0.length) wr hI.out hsw).mono ?_; rintro e w3 ⟨rfl, _, b1, _⟩)
          go_ret2
          exact ⟨by rw [resQ_small hacc]; rfl, hbW.out.trans ((hb.trans b1).mono hbW.out.size)⟩
theorem doc_Quote.calls (A0 : Option Addr) (c0 : Nat) (l0 : List ByteArray) (r1 : ByteArray) (r2 : Int) (w : World) (hL : LaidW w) (hr0 : Kd.C Kd.string w A0 l0.length l0) (hc0 : l0.length ≤ c0) (h : doc_Quote.f l0 = some (r1, r2)) :
    Calls Tryd.prog 19 #[.slice A0 l0.length c0] w fun e w' => e = .returned (.tuple #[.string r1, .int .i64 r2]) ∧ Below w.heap.size w w' := by
  unfold doc_Quote.f at h
  split at h
  · rename_i he
    split at h
    case isFalse => cases h
    case isTrue hn =>
    have hg := Quote_good A0 c0 l0 w hL hr0 hn he
    split at h
    · rename_i hb
      simp only [Option.some.injEq, Prod.mk.injEq] at h
      obtain ⟨rfl, rfl⟩ := h
      rw [resQ_big hb] at hg
      exact hg
    · rename_i hb
      simp only [Option.some.injEq, Prod.mk.injEq] at h
      obtain ⟨rfl, rfl⟩ := h
      rw [resQ_small (by omega)] at hg
      exact hg
  · rename_i he
    simp only [Option.some.injEq, Prod.mk.injEq] at h
    obtain ⟨rfl, rfl⟩ := h
    exact Quote_err A0 c0 l0 w hL hr0 he
end Go.Proofs.YthdalpminhbckaaDoor.G
