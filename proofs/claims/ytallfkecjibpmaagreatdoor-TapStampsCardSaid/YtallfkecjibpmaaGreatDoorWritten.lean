/- The decimal text of a number, as the reference writes it. -/
import Derived.Test.YtallfkecjibpmaaGreatDoorTapS
import Derived.Laws.Runes
import Derived.BigCall
import Derived.Lib.ItoaNum
set_option linter.unusedVariables false
namespace Go.Proofs.YtallfkecjibpmaaGreatDoor.G
open Go.RowKit Go.Proofs.YtallfkecjibpmaaGreatDoorW.PrintWords Go.Lib

theorem enc_digit (n : Nat) (h : n < 10) : Utf8.encode (48 + (n : Int)) = ⟨#[UInt8.ofNat (48 + n)]⟩ := by
  have : n = 0 ∨ n = 1 ∨ n = 2 ∨ n = 3 ∨ n = 4 ∨ n = 5 ∨ n = 6 ∨ n = 7 ∨ n = 8 ∨ n = 9 := by omega
  rcases this with rfl | rfl | rfl | rfl | rfl | rfl | rfl | rfl | rfl | rfl <;> rfl
theorem dec_small {u : Nat} (h : u < 10) : decDigits u = [UInt8.ofNat (48 + u)] := by rw [decDigits, dif_pos h]
theorem dec_big {u : Nat} (h : ¬ u < 10) : decDigits u = decDigits (u / 10) ++ [UInt8.ofNat (48 + u % 10)] := by rw [decDigits, dif_neg h]
theorem dec_len : ∀ (k u : Nat), u < 10 ^ (k + 1) → (decDigits u).length ≤ k + 1
  | 0, u, h => by rw [dec_small (by simpa using h)]; simp
  | k + 1, u, h => by
    by_cases h1 : u < 10
    · rw [dec_small h1]; simp
    · rw [dec_big h1, List.length_append]
      have := dec_len k (u / 10) (by rw [Nat.pow_succ] at h; omega)
      simp
      omega
theorem dec_len19 {u : Nat} (h : u ≤ 9223372036854775807) : (decDigits u).length ≤ 19 := dec_len 18 u (by omega)
theorem ba_app (a b : List UInt8) : (⟨a.toArray⟩ : ByteArray) ++ ⟨b.toArray⟩ = ⟨(a ++ b).toArray⟩ := by
  rw [ByteArray.ext_iff]
  simp
theorem ret_str {a b : ByteArray} (h : a = b) : Ending.returned (.string a) = .returned (.string b) := by rw [h]
set_option maxHeartbeats 1000000 in
set_option maxRecDepth 100000 in
theorem written_nat : ∀ (n : Nat), n ≤ 9223372036854775807 → ∀ w : World,
    Calls Tryz.prog 47 #[.int .i64 (n : Int)] w fun e w' => e = .returned (.string ⟨(decDigits n).toArray⟩) ∧ w' = w := by
  intro n
  induction n using Nat.strongRecOn with
  | _ n ih =>
    intro hn w
    have d1 : decide ((n : Int) < 0) = false := decide_eq_false (by omega)
    by_cases h : n < 10
    · have d2 : decide (10 ≤ (n : Int)) = false := decide_eq_false (by omega)
      have he := enc_digit n h
      have hq := dec_small h
      rw [hq, ← he]
      clear ih he hq
      go_enter Tryz.func47, Tryz.ntmps47
      go_wp2
      go_ret
      exact ⟨rfl, rfl⟩
    · have d2 : decide (10 ≤ (n : Int)) = true := decide_eq_true (by omega)
      have hi := Aside0.mk (ih (n / 10) (by omega) (by omega))
      have hq := dec_big h
      have he := enc_digit (n % 10) (by omega)
      have h19 := dec_len19 (show n / 10 ≤ 9223372036854775807 by omega)
      rw [show ((n / 10 : Nat) : Int) = (n : Int) / 10 by omega] at hi
      have hz1 : (⟨(decDigits (n / 10)).toArray⟩ : ByteArray).size ≤ 19 := by simpa [ByteArray.size] using h19
      have hz2 : (Utf8.encode (48 + (n : Int) % 10)).size ≤ 4 := by rw [show (n : Int) % 10 = ((n % 10 : Nat) : Int) by omega, he]; show 1 ≤ 4; omega
      have hfin : (⟨(decDigits (n / 10)).toArray⟩ : ByteArray) ++ Utf8.encode (48 + (n : Int) % 10) = ⟨(decDigits n).toArray⟩ := by
        rw [show (n : Int) % 10 = ((n % 10 : Nat) : Int) by omega, he, hq, show (⟨#[UInt8.ofNat (48 + n % 10)]⟩ : ByteArray) = ⟨[UInt8.ofNat (48 + n % 10)].toArray⟩ from rfl, ba_app]
      rw [← hfin]
      clear ih hq he h19 hfin
      generalize (⟨(decDigits (n / 10)).toArray⟩ : ByteArray) = s at *
      go_enter Tryz.func47, Tryz.ntmps47
      go_wp2_with (go_at_call 47; refine (hi.out _).mono ?_; rintro e w' ⟨rfl, rfl⟩)
      go_ret
      exact ⟨rfl, rfl⟩
def motleyref01_Written.f (a0 : Int) : Option ByteArray := if -9223372036854775808 < a0 ∧ a0 ≤ 9223372036854775807 then some ⟨(Lib.itoa a0).toArray⟩ else none
set_option maxHeartbeats 1000000 in
set_option maxRecDepth 100000 in
theorem motleyref01_Written.calls (a0 : Int) (r : ByteArray) (w : World) (h : motleyref01_Written.f a0 = some r) :
    Calls Tryz.prog 47 #[.int .i64 a0] w fun e w' => e = .returned (.string r) ∧ Drawn0 w w' := by
  unfold motleyref01_Written.f at h
  split at h
  case isFalse => cases h
  case isTrue hs =>
  obtain rfl := Option.some.inj h
  clear h
  by_cases hn : a0 < 0
  · have hi := Aside0.mk (written_nat a0.natAbs (by omega))
    rw [show ((a0.natAbs : Nat) : Int) = -a0 by omega] at hi
    have hfin : (⟨#[45]⟩ : ByteArray) ++ ⟨(decDigits a0.natAbs).toArray⟩ = ⟨(Lib.itoa a0).toArray⟩ := by
      rw [show (⟨#[45]⟩ : ByteArray) = ⟨[45].toArray⟩ from rfl, ba_app]
      unfold Lib.itoa
      rw [if_pos hn]
      rfl
    rw [← hfin]
    have h19 := dec_len19 (show a0.natAbs ≤ 9223372036854775807 by omega)
    have hz1 : (⟨(decDigits a0.natAbs).toArray⟩ : ByteArray).size ≤ 19 := by simpa [ByteArray.size] using h19
    clear hfin h19
    generalize (⟨(decDigits a0.natAbs).toArray⟩ : ByteArray) = s at *
    have d1 := decide_eq_true hn
    obtain ⟨hl, hu⟩ := hs
    go_enter Tryz.func47, Tryz.ntmps47
    go_wp2_with (go_at_call 47; refine (hi.out _).mono ?_; rintro e w' ⟨rfl, rfl⟩)
    go_ret
    exact ⟨rfl, Drawn0.refl _⟩
  · obtain ⟨n, rfl⟩ : ∃ n : Nat, a0 = (n : Int) := ⟨a0.toNat, by omega⟩
    refine (written_nat n (by omega) w).mono fun e w' ⟨h1, h2⟩ => ⟨?_, h2 ▸ Drawn0.refl _⟩
    rw [h1]
    unfold Lib.itoa
    rw [if_neg hn, Int.toNat_natCast]
end Go.Proofs.YtallfkecjibpmaaGreatDoor.G
