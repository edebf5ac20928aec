/- Of this claim's texts (Num): the declarations that the claim reaches (slimclaim.py). -/
import Derived.Lib.ItoaNum
import Derived.Lib.ItoaMem
import Derived.Lib.AtoiTie
set_option linter.unusedVariables false
set_option linter.unusedSimpArgs false
namespace Go.Proofs.YtallfkecjibpmaaGreatDoor.Nm
open Go.Lib
def isD (c : UInt8) : Prop := 48 ≤ c.toNat ∧ c.toNat ≤ 57
instance (c : UInt8) : Decidable (isD c) := by unfold isD; exact inferInstance
def valF (v : Nat) (l : List UInt8) : Nat := l.foldl (fun v c => 10 * v + (c.toNat - 48)) v
def val (l : List UInt8) : Nat := valF 0 l
theorem dec_small {u : Nat} (h : u < 10) : decDigits u = [UInt8.ofNat (48 + u)] := by rw [decDigits, dif_pos h]
theorem dec_big {u : Nat} (h : ¬ u < 10) : decDigits u = decDigits (u / 10) ++ [UInt8.ofNat (48 + u % 10)] := by rw [decDigits, dif_neg h]
theorem dec_len : ∀ (k u : Nat), u < 10 ^ (k + 1) → (decDigits u).length ≤ k + 1
  | 0, u, h => by rw [dec_small (by simpa using h)]; simp
  | k + 1, u, h => by
    by_cases h1 : u < 10
    · rw [dec_small h1]; simp
    · rw [dec_big h1, List.length_append]
      have := dec_len k (u / 10) (by rw [Nat.pow_succ] at h; omega)
      simp
      omega
def isDb (c : UInt8) : Bool := decide (isD c)
theorem decFrom_val : ∀ (l : List UInt8) (acc : Nat), (∀ c ∈ l, isD c) → decFrom acc l = some (valF acc l)
  | [], acc, _ => rfl
  | c :: r, acc, h => by
    have hc := h c (by simp)
    unfold isD at hc
    simp only [decFrom, digitVal, if_pos hc]
    rw [decFrom_val r _ (fun x hx => h x (by simp [hx])), Nat.mul_comm]
    rfl
theorem atoi_dig (l : List UInt8) (hne : l ≠ []) (hd : ∀ c ∈ l, isD c) (hl : l.length ≤ 18) : atoiAll l = .ok (val l : Int) := by
  rw [atoiAll_short l hl]
  cases l with
  | nil => exact absurd rfl hne
  | cons c r =>
    have hc := hd c (by simp)
    have h45 : (c == 45) = false := by
      rw [beq_eq_false_iff_ne]
      intro e; subst e; exact absurd hc (by decide)
    have h43 : (c == 43) = false := by
      rw [beq_eq_false_iff_ne]
      intro e; subst e; exact absurd hc (by decide)
    unfold atoi
    simp only [h45, h43, Bool.false_eq_true, if_false]
    unfold decNat
    rw [List.isEmpty_cons, if_neg (by simp), decFrom_val _ 0 hd]
    rfl
end Go.Proofs.YtallfkecjibpmaaGreatDoor.Nm
