/- Tabs and blanks over lists of characters: plain Lean, no program in it. -/
set_option linter.unusedVariables false
namespace Go.Proofs.YthdalpminhbckaaDoor.Tabs
/-- Tabs become blanks: over characters. -/
def expR (tab : Nat) : List Int → Nat → List Int
  | [], _ => []
  | c :: r, col => if c = 10 then 10 :: expR tab r 0 else if c = 9 then List.replicate (tab - col % tab) 32 ++ expR tab r (col + (tab - col % tab)) else c :: expR tab r (col + 1)
/-- Rows of blanks become tabs: b blanks are not written yet. -/
def unR (tab : Nat) : List Int → Nat → Nat → List Int
  | [], _, b => List.replicate b 32
  | c :: r, col, b =>
    if c = 10 then List.replicate b 32 ++ 10 :: unR tab r 0 0
    else if c = 32 then (if (col + 1) % tab = 0 then (if 1 < b + 1 then 9 else 32) :: unR tab r (col + 1) 0 else unR tab r (col + 1) (b + 1))
    else if c = 9 then List.replicate b 32 ++ 9 :: unR tab r (col + (tab - col % tab)) 0
    else List.replicate b 32 ++ c :: unR tab r (col + 1) 0
/-- As the reference does it: what is written is taken back. -/
def unO (tab : Nat) : List Int → List Int → Nat → Nat → List Int
  | [], o, _, _ => o
  | c :: r, o, col, b =>
    let b1 := if c = 32 then b + 1 else 0
    let o1 := o ++ [c]
    let col1 := if c = 10 then 0 else if c = 9 then col + (tab - col % tab) else col + 1
    if col1 % tab = 0 ∧ c = 32 then unO tab r (if 2 ≤ b1 then o1.take (o1.length - b1) ++ [9] else o1) col1 0
    else unO tab r o1 col1 b1
theorem unO_eq (tab : Nat) (ht : 1 ≤ tab) : ∀ (cs o : List Int) (col b : Nat), unO tab cs (o ++ List.replicate b 32) col b = o ++ unR tab cs col b
  | [], o, col, b => rfl
  | c :: r, o, col, b => by
    unfold unO unR
    by_cases h10 : c = 10
    · subst h10
      simp only [if_true, show ¬ ((10 : Int) = 32) by omega, if_false, and_false]
      have := unO_eq tab ht r (o ++ List.replicate b 32 ++ [10]) 0 0
      simp only [List.replicate_zero, List.append_nil] at this
      rw [this]
      simp
    by_cases h32 : c = 32
    · subst h32
      simp only [show ¬ ((32 : Int) = 10) by omega, show ¬ ((32 : Int) = 9) by omega, if_false, if_true, and_true]
      have e : o ++ List.replicate b 32 ++ [(32 : Int)] = o ++ List.replicate (b + 1) 32 := by rw [List.replicate_succ']; simp
      by_cases hm : (col + 1) % tab = 0
      · rw [if_pos hm, if_pos hm, e]
        by_cases hb : 1 < b + 1
        · rw [if_pos (by omega), if_pos hb]
          have h2 : (o ++ List.replicate (b + 1) (32 : Int)).take ((o ++ List.replicate (b + 1) (32 : Int)).length - (b + 1)) = o := by
            rw [List.length_append, List.length_replicate, Nat.add_sub_cancel, List.take_left]
          rw [h2]
          have := unO_eq tab ht r (o ++ [9]) (col + 1) 0
          simp only [List.replicate_zero, List.append_nil] at this
          rw [this]
          simp
        · have hb0 : b = 0 := by omega
          subst hb0
          rw [if_neg (by omega), if_neg hb]
          have := unO_eq tab ht r (o ++ [32]) (col + 1) 0
          simp only [List.replicate_zero, List.append_nil] at this
          rw [show List.replicate (0 + 1) (32 : Int) = [32] from rfl, this]
          simp
      · rw [if_neg hm, if_neg hm, e]
        exact unO_eq tab ht r o (col + 1) (b + 1)
    simp only [h10, h32, if_false, and_false]
    by_cases h9 : c = 9
    · subst h9
      simp only [if_true]
      have := unO_eq tab ht r (o ++ List.replicate b 32 ++ [9]) (col + (tab - col % tab)) 0
      simp only [List.replicate_zero, List.append_nil] at this
      rw [this]
      simp
    · simp only [h9, if_false]
      have := unO_eq tab ht r (o ++ List.replicate b 32 ++ [c]) (col + 1) 0
      simp only [List.replicate_zero, List.append_nil] at this
      rw [this]
      simp
theorem exp_blanks (tab : Nat) : ∀ (b : Nat) (r : List Int) (col : Nat), expR tab (List.replicate b 32 ++ r) col = List.replicate b 32 ++ expR tab r (col + b)
  | 0, r, col => rfl
  | b + 1, r, col => by
    rw [List.replicate_succ, List.cons_append, expR, if_neg (by omega), if_neg (by omega), exp_blanks tab b r (col + 1), List.cons_append]
    congr 3
    omega
theorem exp_un (tab : Nat) (ht : 1 ≤ tab) : ∀ (cs : List Int) (col b : Nat), (∀ c ∈ cs, c ≠ 9) → (col % tab + b) < tab ∨ (b = 0) → expR tab (unR tab cs (col + b) b) col = List.replicate b 32 ++ cs
  | [], col, b, h, hb => by
    have := exp_blanks tab b [] col
    simpa [unR, expR] using this
  | c :: r, col, b, h, hb => by
    have hr : ∀ c ∈ r, c ≠ 9 := fun x hx => h x (by simp [hx])
    unfold unR
    by_cases h10 : c = 10
    · subst h10
      have := exp_un tab ht r 0 0 hr (.inr rfl)
      simp only [if_true]
      rw [exp_blanks, expR, if_pos rfl]
      simp only [Nat.zero_add, List.replicate_zero, List.nil_append] at this
      rw [this]
    by_cases h32 : c = 32
    · subst h32
      simp only [show ¬ ((32 : Int) = 10) by omega, if_false, if_true]
      by_cases hm : (col + b + 1) % tab = 0
      · rw [if_pos hm]
        have ih := exp_un tab ht r (col + b + 1) 0 hr (.inr rfl)
        simp only [Nat.add_zero, List.replicate_zero, List.nil_append] at ih
        by_cases hb1 : 1 < b + 1
        · have hb2 : col % tab + b < tab := by omega
          rw [if_pos hb1, expR, if_neg (by omega), if_pos rfl]
          have e : tab - col % tab = b + 1 := by
            have h1 : (col + b + 1) % tab = (col % tab + (b + 1)) % tab := by rw [Nat.add_assoc, Nat.add_mod, Nat.mod_add_mod, Nat.add_mod_mod] ; simp [Nat.add_mod]
            have h2 : (col % tab + (b + 1)) % tab = 0 := by rw [← h1]; exact hm
            rcases Nat.lt_or_ge (col % tab + (b + 1)) tab with h3 | h3
            · rw [Nat.mod_eq_of_lt h3] at h2; omega
            · omega
          rw [e, show col + (b + 1) = col + b + 1 by omega, ih, List.replicate_succ' (n := b)]
          simp
        · have hb0 : b = 0 := by omega
          subst hb0
          rw [if_neg hb1, expR, if_neg (by omega), if_neg (by omega)]
          simp only [Nat.add_zero] at ih ⊢
          rw [ih]
          simp
      · rw [if_neg hm]
        have hlt : col % tab + (b + 1) < tab := by
          have h1 : (col + b + 1) % tab = (col % tab + (b + 1)) % tab := by rw [Nat.add_assoc, Nat.add_mod, Nat.mod_add_mod, Nat.add_mod_mod] ; simp [Nat.add_mod]
          have h4 := Nat.mod_lt col (show 0 < tab by omega)
          rcases Nat.lt_or_ge (col % tab + (b + 1)) tab with h3 | h3
          · exact h3
          · have h5 : col % tab + (b + 1) = tab := by omega
            rw [h1, h5, Nat.mod_self] at hm
            exact absurd rfl hm
        have ih := exp_un tab ht r col (b + 1) hr (.inl hlt)
        rw [show col + b + 1 = col + (b + 1) by omega, ih, List.replicate_succ']
        simp
    have h9 : c ≠ 9 := h c (by simp)
    simp only [h10, h32, h9, if_false]
    have ih := exp_un tab ht r (col + b + 1) 0 hr (.inr rfl)
    simp only [Nat.add_zero, List.replicate_zero, List.nil_append] at ih
    rw [exp_blanks, expR, if_neg h10, if_neg h9, ih]
/-- Without tabs it is itself. -/
theorem exp_self (tab : Nat) : ∀ (cs : List Int) (col : Nat), (∀ c ∈ cs, c ≠ 9) → expR tab cs col = cs
  | [], _, _ => rfl
  | c :: r, col, h => by
    have hr : ∀ c ∈ r, c ≠ 9 := fun x hx => h x (by simp [hx])
    unfold expR
    by_cases h10 : c = 10
    · subst h10; rw [if_pos rfl, exp_self tab r 0 hr]
    · rw [if_neg h10, if_neg (h c (by simp)), exp_self tab r (col + 1) hr]
/-- It has no tabs. -/
theorem exp_no (tab : Nat) : ∀ (cs : List Int) (col : Nat), ∀ c ∈ expR tab cs col, c ≠ 9
  | [], _, c, h => by cases h
  | d :: r, col, c, h => by
    unfold expR at h
    split at h
    · rcases List.mem_cons.1 h with rfl | h
      · omega
      · exact exp_no tab r _ c h
    · split at h
      · rcases List.mem_append.1 h with h | h
        · have := (List.mem_replicate.1 h).2; omega
        · exact exp_no tab r _ c h
      · rcases List.mem_cons.1 h with rfl | h
        · assumption
        · exact exp_no tab r _ c h
end Go.Proofs.YthdalpminhbckaaDoor.Tabs
