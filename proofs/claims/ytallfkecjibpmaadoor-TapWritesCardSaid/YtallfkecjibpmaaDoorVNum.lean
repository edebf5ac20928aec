/- Of this claim's texts (Num): the declarations that the claim reaches (slimclaim.py). -/
import Derived.Lib.ItoaNum
import Derived.Lib.ItoaMem
import Derived.Lib.AtoiTie
set_option linter.unusedVariables false
set_option linter.unusedSimpArgs false
namespace Go.Proofs.YtallfkecjibpmaaDoor.Nm
open Go.Lib
def isD (c : UInt8) : Prop := 48 ≤ c.toNat ∧ c.toNat ≤ 57
instance (c : UInt8) : Decidable (isD c) := by unfold isD; exact inferInstance
def valF (v : Nat) (l : List UInt8) : Nat := l.foldl (fun v c => 10 * v + (c.toNat - 48)) v
def val (l : List UInt8) : Nat := valF 0 l
theorem dig_nat (u : Nat) (h : u < 10) : (UInt8.ofNat (48 + u)).toNat = 48 + u := by rw [UInt8.toNat_ofNat']; omega
theorem isD_dig (u : Nat) (h : u < 10) : isD (UInt8.ofNat (48 + u)) := by unfold isD; rw [dig_nat u h]; omega
theorem valF_app (v : Nat) (a b : List UInt8) : valF v (a ++ b) = valF (valF v a) b := by unfold valF; rw [List.foldl_append]
theorem valF_one (v : Nat) (c : UInt8) : valF v [c] = 10 * v + (c.toNat - 48) := rfl
theorem dec_small {u : Nat} (h : u < 10) : decDigits u = [UInt8.ofNat (48 + u)] := by rw [decDigits, dif_pos h]
theorem dec_big {u : Nat} (h : ¬ u < 10) : decDigits u = decDigits (u / 10) ++ [UInt8.ofNat (48 + u % 10)] := by rw [decDigits, dif_neg h]
theorem val_dec : ∀ u : Nat, val (decDigits u) = u := by
  intro u
  induction u using Nat.strongRecOn with
  | _ u ih =>
    by_cases h : u < 10
    · rw [dec_small h]
      show 10 * 0 + _ = _
      rw [dig_nat u h]; omega
    · rw [dec_big h]
      unfold val at ih ⊢
      rw [valF_app, ih (u / 10) (by omega), valF_one, dig_nat _ (Nat.mod_lt _ (by omega))]
      omega
theorem dec_isD : ∀ u : Nat, ∀ c ∈ decDigits u, isD c := by
  intro u
  induction u using Nat.strongRecOn with
  | _ u ih =>
    by_cases h : u < 10
    · rw [dec_small h]; intro c hc; rw [List.mem_singleton] at hc; rw [hc]; exact isD_dig u h
    · rw [dec_big h]
      intro c hc
      rcases List.mem_append.1 hc with hc | hc
      · exact ih (u / 10) (by omega) c hc
      · rw [List.mem_singleton] at hc; rw [hc]; exact isD_dig _ (Nat.mod_lt _ (by omega))
theorem dec_ne (u : Nat) : decDigits u ≠ [] := by
  by_cases h : u < 10
  · rw [dec_small h]; simp
  · rw [dec_big h]; simp
theorem dec_len : ∀ (k u : Nat), u < 10 ^ (k + 1) → (decDigits u).length ≤ k + 1
  | 0, u, h => by rw [dec_small (by simpa using h)]; simp
  | k + 1, u, h => by
    by_cases h1 : u < 10
    · rw [dec_small h1]; simp
    · rw [dec_big h1, List.length_append]
      have := dec_len k (u / 10) (by rw [Nat.pow_succ] at h; omega)
      simp
      omega
theorem dec_head : ∀ u : Nat, ∀ c r, decDigits u = c :: r → c.toNat = 48 → u = 0 := by
  intro u
  induction u using Nat.strongRecOn with
  | _ u ih =>
    intro c r h hc
    by_cases h1 : u < 10
    · rw [dec_small h1] at h
      injection h with h2 h3
      rw [← h2, dig_nat u h1] at hc
      omega
    · rw [dec_big h1] at h
      cases hd : decDigits (u / 10) with
      | nil => exact absurd hd (dec_ne _)
      | cons d t =>
        rw [hd, List.cons_append] at h
        injection h with h2 h3
        have := ih (u / 10) (by omega) d t hd (by rw [h2]; exact hc)
        omega
def isDb (c : UInt8) : Bool := decide (isD c)
theorem decFrom_val : ∀ (l : List UInt8) (acc : Nat), (∀ c ∈ l, isD c) → decFrom acc l = some (valF acc l)
  | [], acc, _ => rfl
  | c :: r, acc, h => by
    have hc := h c (by simp)
    unfold isD at hc
    simp only [decFrom, digitVal, if_pos hc]
    rw [decFrom_val r _ (fun x hx => h x (by simp [hx])), Nat.mul_comm]
    rfl
theorem atoi_dig (l : List UInt8) (hne : l ≠ []) (hd : ∀ c ∈ l, isD c) (hl : l.length ≤ 18) : atoiAll l = .ok (val l : Int) := by
  rw [atoiAll_short l hl]
  cases l with
  | nil => exact absurd rfl hne
  | cons c r =>
    have hc := hd c (by simp)
    have h45 : (c == 45) = false := by
      rw [beq_eq_false_iff_ne]
      intro e; subst e; exact absurd hc (by decide)
    have h43 : (c == 43) = false := by
      rw [beq_eq_false_iff_ne]
      intro e; subst e; exact absurd hc (by decide)
    unfold atoi
    simp only [h45, h43, Bool.false_eq_true, if_false]
    unfold decNat
    rw [List.isEmpty_cons, if_neg (by simp), decFrom_val _ 0 hd]
    rfl
end Go.Proofs.YtallfkecjibpmaaDoor.Nm
