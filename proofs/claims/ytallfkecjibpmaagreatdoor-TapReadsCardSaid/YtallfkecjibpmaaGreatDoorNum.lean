/- Numerals, and spans of seconds: plain Lean, no program in it. -/
import Derived.Lib.ItoaNum
import Derived.Lib.ItoaMem
import Derived.Lib.AtoiTie
set_option linter.unusedVariables false
set_option linter.unusedSimpArgs false
namespace Go.Proofs.YtallfkecjibpmaaGreatDoor.Nm
open Go.Lib
def isD (c : UInt8) : Prop := 48 ≤ c.toNat ∧ c.toNat ≤ 57
instance (c : UInt8) : Decidable (isD c) := by unfold isD; exact inferInstance
/-- The number of digits. -/
def valF (v : Nat) (l : List UInt8) : Nat := l.foldl (fun v c => 10 * v + (c.toNat - 48)) v
def val (l : List UInt8) : Nat := valF 0 l
theorem dig_nat (u : Nat) (h : u < 10) : (UInt8.ofNat (48 + u)).toNat = 48 + u := by rw [UInt8.toNat_ofNat']; omega
theorem isD_dig (u : Nat) (h : u < 10) : isD (UInt8.ofNat (48 + u)) := by unfold isD; rw [dig_nat u h]; omega
theorem valF_app (v : Nat) (a b : List UInt8) : valF v (a ++ b) = valF (valF v a) b := by unfold valF; rw [List.foldl_append]
theorem valF_one (v : Nat) (c : UInt8) : valF v [c] = 10 * v + (c.toNat - 48) := rfl
theorem val_zeros : ∀ (k : Nat) (l : List UInt8), val (List.replicate k 48 ++ l) = val l
  | 0, l => rfl
  | k + 1, l => by
    have := val_zeros k l
    unfold val at this ⊢
    rw [List.replicate_succ, List.cons_append]
    exact this
theorem dec_small {u : Nat} (h : u < 10) : decDigits u = [UInt8.ofNat (48 + u)] := by rw [decDigits, dif_pos h]
theorem dec_big {u : Nat} (h : ¬ u < 10) : decDigits u = decDigits (u / 10) ++ [UInt8.ofNat (48 + u % 10)] := by rw [decDigits, dif_neg h]
theorem val_dec : ∀ u : Nat, val (decDigits u) = u := by
  intro u
  induction u using Nat.strongRecOn with
  | _ u ih =>
    by_cases h : u < 10
    · rw [dec_small h]
      show 10 * 0 + _ = _
      rw [dig_nat u h]; omega
    · rw [dec_big h]
      unfold val at ih ⊢
      rw [valF_app, ih (u / 10) (by omega), valF_one, dig_nat _ (Nat.mod_lt _ (by omega))]
      omega
theorem dec_isD : ∀ u : Nat, ∀ c ∈ decDigits u, isD c := by
  intro u
  induction u using Nat.strongRecOn with
  | _ u ih =>
    by_cases h : u < 10
    · rw [dec_small h]; intro c hc; rw [List.mem_singleton] at hc; rw [hc]; exact isD_dig u h
    · rw [dec_big h]
      intro c hc
      rcases List.mem_append.1 hc with hc | hc
      · exact ih (u / 10) (by omega) c hc
      · rw [List.mem_singleton] at hc; rw [hc]; exact isD_dig _ (Nat.mod_lt _ (by omega))
theorem dec_ne (u : Nat) : decDigits u ≠ [] := by
  by_cases h : u < 10
  · rw [dec_small h]; simp
  · rw [dec_big h]; simp
theorem dec_len : ∀ (k u : Nat), u < 10 ^ (k + 1) → (decDigits u).length ≤ k + 1
  | 0, u, h => by rw [dec_small (by simpa using h)]; simp
  | k + 1, u, h => by
    by_cases h1 : u < 10
    · rw [dec_small h1]; simp
    · rw [dec_big h1, List.length_append]
      have := dec_len k (u / 10) (by rw [Nat.pow_succ] at h; omega)
      simp
      omega
/-- No zero stands ahead but in 0 itself. -/
theorem dec_head : ∀ u : Nat, ∀ c r, decDigits u = c :: r → c.toNat = 48 → u = 0 := by
  intro u
  induction u using Nat.strongRecOn with
  | _ u ih =>
    intro c r h hc
    by_cases h1 : u < 10
    · rw [dec_small h1] at h
      injection h with h2 h3
      rw [← h2, dig_nat u h1] at hc
      omega
    · rw [dec_big h1] at h
      cases hd : decDigits (u / 10) with
      | nil => exact absurd hd (dec_ne _)
      | cons d t =>
        rw [hd, List.cons_append] at h
        injection h with h2 h3
        have := ih (u / 10) (by omega) d t hd (by rw [h2]; exact hc)
        omega
/-- A number with so many digits at least. -/
def pad (w u : Nat) : List UInt8 := List.replicate (w - (decDigits u).length) 48 ++ decDigits u
theorem val_pad (w u : Nat) : val (pad w u) = u := by unfold pad; rw [val_zeros, val_dec]
theorem pad_isD (w u : Nat) : ∀ c ∈ pad w u, isD c := by
  intro c hc
  rcases List.mem_append.1 hc with hc | hc
  · rw [(List.mem_replicate.1 hc).2]; decide
  · exact dec_isD u c hc
theorem pad_len (k u : Nat) (h : u < 10 ^ (k + 1)) : (pad (k + 1) u).length = k + 1 := by
  have := dec_len k u h
  unfold pad
  rw [List.length_append, List.length_replicate]
  omega
theorem pad_le (w u : Nat) : (pad w u).length = max w (decDigits u).length := by
  unfold pad
  rw [List.length_append, List.length_replicate]
  omega
theorem valF_bound : ∀ (l : List UInt8) (v : Nat), (∀ c ∈ l, isD c) → valF v l < (v + 1) * 10 ^ l.length
  | [], v, _ => by simp [valF]
  | c :: r, v, h => by
    have h1 := h c (by simp)
    have ih := valF_bound r (10 * v + (c.toNat - 48)) (fun d hd => h d (by simp [hd]))
    have e : valF v (c :: r) = valF (10 * v + (c.toNat - 48)) r := rfl
    rw [e, List.length_cons, Nat.pow_succ]
    unfold isD at h1
    have h2 : 10 * v + (c.toNat - 48) + 1 ≤ (v + 1) * 10 := by omega
    calc _ < (10 * v + (c.toNat - 48) + 1) * 10 ^ r.length := ih
      _ ≤ ((v + 1) * 10) * 10 ^ r.length := Nat.mul_le_mul_right _ h2
      _ = _ := by rw [Nat.mul_assoc, Nat.mul_comm 10]
theorem val_bound (l : List UInt8) (h : ∀ c ∈ l, isD c) : val l < 10 ^ l.length := by
  have := valF_bound l 0 h
  simpa [val] using this
/-- The units of spans: their sizes and names; 4: none. -/
def usz : Nat → Nat
  | 0 => 86400
  | 1 => 3600
  | 2 => 60
  | _ => 1
def unm : Nat → UInt8
  | 0 => 100
  | 1 => 104
  | 2 => 109
  | _ => 115
/-- The first unit from u on that has a name; 4: none. -/
def findF : Nat → Nat → UInt8 → Nat
  | 0, u, _ => u
  | f + 1, u, c => if unm u = c then u else findF f (u + 1) c
def findU (u : Nat) (c : UInt8) : Nat := findF (4 - u) u c
theorem findF_le : ∀ (f u : Nat) (c : UInt8), findF f u c ≤ u + f ∧ u ≤ findF f u c
  | 0, u, c => by simp [findF]
  | f + 1, u, c => by
    unfold findF
    split
    · omega
    · have := findF_le f (u + 1) c; omega
theorem findU_stop (c : UInt8) : findU 4 c = 4 := rfl
theorem findU_hit {u : Nat} {c : UInt8} (h : u < 4) (e : unm u = c) : findU u c = u := by
  unfold findU
  obtain ⟨f, hf⟩ : ∃ f, 4 - u = f + 1 := ⟨3 - u, by omega⟩
  rw [hf, findF, if_pos e]
theorem findU_miss {u : Nat} {c : UInt8} (h : u < 4) (e : unm u ≠ c) : findU u c = findU (u + 1) c := by
  unfold findU
  obtain ⟨f, hf⟩ : ∃ f, 4 - u = f + 1 := ⟨3 - u, by omega⟩
  rw [hf, findF, if_neg e, show 4 - (u + 1) = f by omega]
theorem findU_nameF : ∀ (j u : Fin 4), u.val ≤ j.val → findU u.val (unm j.val) = j.val := by decide
theorem findU_name (u j : Nat) (h : u ≤ j) (h4 : j < 4) : findU u (unm j) = j := findU_nameF ⟨j, h4⟩ ⟨u, by omega⟩ h
/-- What a list of bytes is as a span: the rounds of reading it. -/
def isDb (c : UInt8) : Bool := decide (isD c)
def pS : Nat → List UInt8 → Bool → Nat → Nat → Option Nat
  | 0, _, _, _, _ => none
  | f + 1, [], _, _, t => some t
  | f + 1, c0 :: l, first, u, t =>
    let l1 := if first = false ∧ c0 = 32 then l else c0 :: l
    let ds := l1.takeWhile isDb
    if ds = [] ∨ 9 < ds.length then none else
    match l1.dropWhile isDb with
    | [] => none
    | c :: r => if findU u c = 4 then none else pS f r false (findU u c + 1) (t + val ds * usz (findU u c))
/-- The parts of a number of seconds. -/
def spL : Nat → Nat → Nat → List (List UInt8)
  | 0, _, _ => []
  | f + 1, j, n => (if 0 < n / usz j then [decDigits (n / usz j) ++ [unm j]] else []) ++ spL f (j + 1) (n % usz j)
/-- The parts, each behind a blank but the first one. -/
def runOn : Bool → List (List UInt8) → List UInt8
  | _, [] => []
  | first, x :: r => (if first then [] else [32]) ++ x ++ runOn false r
theorem tw_app (a : List UInt8) (c : UInt8) (r : List UInt8) (h : ∀ x ∈ a, isD x) (hc : ¬ isD c) : (a ++ c :: r).takeWhile isDb = a ∧ (a ++ c :: r).dropWhile isDb = c :: r := by
  induction a with
  | nil => simp [isDb, hc]
  | cons x a ih =>
    have hx := h x (by simp)
    obtain ⟨h1, h2⟩ := ih (fun y hy => h y (by simp [hy]))
    constructor
    · rw [List.cons_append, List.takeWhile_cons, if_pos (by simpa [isDb] using hx), h1]
    · rw [List.cons_append, List.dropWhile_cons, if_pos (by simpa [isDb] using hx), h2]
theorem unm_notD (j : Nat) (h : j < 4) : ¬ isD (unm j) := by
  have : j = 0 ∨ j = 1 ∨ j = 2 ∨ j = 3 := by omega
  rcases this with rfl | rfl | rfl | rfl <;> decide
/-- What is written of a number is read as it. -/
theorem pS_back : ∀ (f j n u t g : Nat) (first : Bool), f + j = 4 → u ≤ j → n ≤ 1000000000 → (j = 4 → n = 0) → (0 < j → n < usz (j - 1)) → f < g → pS g (runOn first (spL f j n)) first u t = some (t + n)
  | 0, j, n, u, t, g, first, hf, hu, hn, h4, hz, hg => by
    obtain ⟨g, rfl⟩ : ∃ k, g = k + 1 := ⟨g - 1, by omega⟩
    rw [h4 (by omega)]
    rfl
  | f + 1, j, n, u, t, g, first, hf, hu, hn, h4, hz, hg => by
    obtain ⟨g, rfl⟩ : ∃ k, g = k + 1 := ⟨g - 1, by omega⟩
    have hpos : 0 < usz j := by unfold usz; split <;> omega
    have hmod : n % usz j < usz j := Nat.mod_lt _ hpos
    have hmodn : n % usz j ≤ n := Nat.mod_le _ _
    have hqn : n / usz j ≤ n := Nat.div_le_self _ _
    unfold spL
    by_cases hq : 0 < n / usz j
    · rw [if_pos hq]
      have hd := dec_isD (n / usz j)
      have hne := dec_ne (n / usz j)
      have hln : (decDigits (n / usz j)).length ≤ 9 := by
        have hb : n / usz j < 10 ^ 9 := by
          have hc : j = 0 ∨ j = 1 ∨ j = 2 ∨ j = 3 := by omega
          rcases hc with rfl | rfl | rfl | rfl
          · simp only [usz]; omega
          · simp only [usz]; omega
          · simp only [usz]; omega
          · have := hz (by omega)
            simp only [usz] at this ⊢
            omega
        exact dec_len 8 _ hb
      obtain ⟨c0, ds, hds⟩ : ∃ c0 ds, decDigits (n / usz j) = c0 :: ds := by
        cases h : decDigits (n / usz j) with
        | nil => exact absurd h hne
        | cons c0 ds => exact ⟨c0, ds, rfl⟩
      have hc0 : c0 ≠ 32 := by
        have := hd c0 (by rw [hds]; simp)
        intro e
        subst e
        exact absurd this (by decide)
      obtain ⟨t1, t2⟩ := tw_app (decDigits (n / usz j)) (unm j) (runOn false (spL f (j + 1) (n % usz j))) hd (unm_notD j (by omega))
      have hfind := findU_name u j hu (by omega)
      have ih := pS_back f (j + 1) (n % usz j) (j + 1) (t + n / usz j * usz j) g false (by omega) (by omega) (by omega) (by
        intro h
        have : j = 3 := by omega
        subst this
        simp only [usz] at hmod ⊢
        omega) (by intro _; rw [Nat.add_sub_cancel]; exact hmod) (by omega)
      have hdm : t + n / usz j * usz j + n % usz j = t + n := by
        have := Nat.div_add_mod n (usz j)
        rw [Nat.mul_comm] at this
        omega
      have key : ∀ (first : Bool) (L : List UInt8), L = (if first then [] else [32]) ++ (decDigits (n / usz j) ++ unm j :: runOn false (spL f (j + 1) (n % usz j))) → pS (g + 1) L first u t = some (t + n) := by
        intro first L hL
        have hl1 : ∃ a L', L = a :: L' ∧ (if first = false ∧ a = 32 then L' else a :: L') = decDigits (n / usz j) ++ unm j :: runOn false (spL f (j + 1) (n % usz j)) := by
          cases first with
          | true =>
            refine ⟨c0, ds ++ unm j :: runOn false (spL f (j + 1) (n % usz j)), by rw [hL, hds]; rfl, ?_⟩
            rw [if_neg (by simp), hds]; rfl
          | false =>
            refine ⟨32, decDigits (n / usz j) ++ unm j :: runOn false (spL f (j + 1) (n % usz j)), by rw [hL]; rfl, ?_⟩
            rw [if_pos ⟨rfl, rfl⟩]
        obtain ⟨a, L', rfl, h1⟩ := hl1
        unfold pS
        simp only
        rw [h1, t1, t2, if_neg (by rintro (h | h); exact hne h; omega)]
        simp only
        rw [hfind, if_neg (by omega), val_dec, ih, hdm]
      apply key
      simp only [List.cons_append, List.nil_append, runOn, List.append_assoc]
    · have hq0 : n / usz j = 0 := Nat.eq_zero_of_not_pos hq
      have hlt : n < usz j := by
        rcases Nat.lt_or_ge n (usz j) with h | h
        · exact h
        · exact absurd (Nat.div_pos h hpos) hq
      rw [if_neg hq, List.nil_append, Nat.mod_eq_of_lt hlt]
      exact pS_back f (j + 1) n u t (g + 1) first (by omega) (by omega) hn (by
        intro h
        have : j = 3 := by omega
        subst this
        simp only [usz] at hlt
        omega) (by intro _; rw [Nat.add_sub_cancel]; exact hlt) (by omega)
theorem decFrom_val : ∀ (l : List UInt8) (acc : Nat), (∀ c ∈ l, isD c) → decFrom acc l = some (valF acc l)
  | [], acc, _ => rfl
  | c :: r, acc, h => by
    have hc := h c (by simp)
    unfold isD at hc
    simp only [decFrom, digitVal, if_pos hc]
    rw [decFrom_val r _ (fun x hx => h x (by simp [hx])), Nat.mul_comm]
    rfl
/-- Atoi of at most 18 digits. -/
theorem atoi_dig (l : List UInt8) (hne : l ≠ []) (hd : ∀ c ∈ l, isD c) (hl : l.length ≤ 18) : atoiAll l = .ok (val l : Int) := by
  rw [atoiAll_short l hl]
  cases l with
  | nil => exact absurd rfl hne
  | cons c r =>
    have hc := hd c (by simp)
    have h45 : (c == 45) = false := by
      rw [beq_eq_false_iff_ne]
      intro e; subst e; exact absurd hc (by decide)
    have h43 : (c == 43) = false := by
      rw [beq_eq_false_iff_ne]
      intro e; subst e; exact absurd hc (by decide)
    unfold atoi
    simp only [h45, h43, Bool.false_eq_true, if_false]
    unfold decNat
    rw [List.isEmpty_cons, if_neg (by simp), decFrom_val _ 0 hd]
    rfl
end Go.Proofs.YtallfkecjibpmaaGreatDoor.Nm
