/- CharsEscapes: what stands in braces. -/
import Derived.Test.YtegapacamclipaaGreatDoorPText
import Derived.Test.YtegapacamclipaaGreatDoorPEscL
import Derived.Test.YtegapacamclipaaGreatDoorM3
set_option linter.unusedVariables false
set_option linter.unusedSimpArgs false
namespace Go.Proofs.YtegapacamclipaaGreatDoor.Q
open Go.RowKit Go.Proofs.YtegapacamclipaaGreatDoorW.PrintWords Go.Proofs.YtegapacamclipaaGreatDoor.Tx Go.Proofs.YtegapacamclipaaGreatDoor.G Go.Proofs.YtegapacamclipaaGreatDoor.M Go.Lib
/-! Braced -/
theorem Digit_at : ∀ n : Fin 256, motleyref02_Digit.f 2 (n.1 : Int) = some (if isH (UInt8.ofNat n.1) = true then (hv (UInt8.ofNat n.1) : Int) else -1) := by decide +kernel
theorem Digit_eq (k : Nat) (c : UInt8) : motleyref02_Digit.f (k + 2) (c.toNat : Int) = some (if isH c = true then (hv c : Int) else -1) := by
  have h := Digit_at ⟨c.toNat, c.toNat_lt⟩
  simp only [UInt8.ofNat_toNat] at h
  exact at_rounds (motleyref02_Digit.mono (c.toNat : Int)) (Nat.le_add_left 2 k) h
theorem bt_at (r : List UInt8) (i : Nat) (h : i < r.length) : bt (mk r) (i : Int) = (r[i].toNat : Int) := by
  rw [bt_getD, mk_list]
  simp [List.getD_eq_getElem?_getD, h]
theorem pow6 (i : Nat) (h : i ≤ 6) : 16 ^ i ≤ 16777216 := by
  match i, h with
  | 0, _ => decide
  | 1, _ => decide
  | 2, _ => decide
  | 3, _ => decide
  | 4, _ => decide
  | 5, _ => decide
  | 6, _ => decide
def brEnd (c : UInt8) (v i : Nat) : Option (Nat × Nat) := if c = 125 then (if chr (v : Int) then some (v, i - 2) else none) else none
theorem Br_end (c : UInt8) (v i : Nat) (hi : 2 ≤ i) (h8 : i ≤ 8) :
    (if ((c.toNat : Int)) = 125 then ((motleyref02_IsChar.f (v : Int)).bind fun t231 => (if t231 = true then (some ((v : Int), wrap64 ((i : Int) + 1))) else (some (0, 0)))) else (some (0, 0))) = some (brOut (brEnd c v i)) := by
  have hw : wrap64 ((i : Int) + 1) = ((i + 1 : Nat) : Int) := by rw [wrap64_id (by omega) (by omega)]; omega
  unfold brEnd
  by_cases h5 : c = 125
  · have e : (c.toNat : Int) = 125 := by rw [h5]; rfl
    rw [if_pos e, if_pos h5, IsChar_eq, hw, Option.bind_some]
    by_cases hc : chr (v : Int)
    · rw [decide_eq_true hc, if_pos rfl, if_pos hc]
      simp only [brOut]
      rw [show ((i + 1 : Nat) : Int) = ((i - 2 : Nat) : Int) + 3 by omega]
    · rw [decide_eq_false hc, if_neg (by decide), if_neg hc]; rfl
  · rw [if_neg h5, if_neg (fun h => h5 (UInt8.toNat_inj.1 (by have e2 : (125 : UInt8).toNat = 125 := rfl; rw [e2]; omega)))]; rfl
theorem bl_no (m : Nat) (c : UInt8) (r : List UInt8) (v i : Nat) (h : ¬ (0 < m ∧ isH c = true)) (hi : 2 < i) : bl m (c :: r) v (i - 2) = brEnd c v i := by
  rw [bl, if_neg h, if_neg (by omega)]; rfl
theorem bl_zero (m : Nat) (c : UInt8) (r : List UInt8) (v : Nat) (h : ¬ (0 < m ∧ isH c = true)) : bl m (c :: r) v 0 = none := by
  rw [bl, if_neg h, if_pos rfl]
theorem bl_yes (m : Nat) (c : UInt8) (r : List UInt8) (v n : Nat) (h : isH c = true) : bl (m + 1) (c :: r) v n = bl m r (v * 16 + hv c) (n + 1) := by
  rw [bl, if_pos ⟨by omega, h⟩]; rfl
theorem hv_lt (c : UInt8) (hh : isH c = true) : hv c < 16 := by
  have e := hh
  simp only [isH, Bool.or_eq_true, Bool.and_eq_true, decide_eq_true_eq] at e
  unfold hv; split <;> (try split) <;> omega
theorem br_sum (v h : Nat) (hv0 : v < 16777216) (hh : h < 16) : wrap64 (wrap64 ((v : Int) * 16) + (h : Int)) = ((v * 16 + h : Nat) : Int) := by
  have e : wrap64 ((v : Int) * 16) = (v : Int) * 16 := wrap64_id (by omega) (by omega)
  rw [e, wrap64_id (by omega) (by omega)]
  omega
theorem br_pow (i v h : Nat) (hi : 2 ≤ i) (hv0 : v < 16 ^ (i - 2)) (hh : h < 16) : v * 16 + h < 16 ^ (i + 1 - 2) := by
  rw [show i + 1 - 2 = (i - 2) + 1 by omega, Nat.pow_succ]; omega
theorem Br_out (r : List UInt8) (k i v m : Nat) (hi : 2 ≤ i) (hie : i = r.length) : motleyref02_Braced.l0 (k + 1) (mk r) (v : Int) (i : Int) = some (brOut (bl m (r.drop i) v (i - 2))) := by
  rw [motleyref02_Braced.l0.eq_2, mk_size, if_neg (show ¬ (i : Int) < (r.length : Int) by omega), List.drop_of_length_le (by omega), bl]
  by_cases h2 : i = 2
  · rw [if_pos (show (i : Int) = 2 by omega)]; rfl
  · rw [if_neg (show ¬ (i : Int) = 2 by omega), if_pos (show (i : Int) = (r.length : Int) by omega)]; rfl
theorem Br_zero (r : List UInt8) (k i v : Nat) (hi8 : i = 8) (hlt : i < r.length) :
    motleyref02_Braced.l0 (k + 1) (mk r) (v : Int) (i : Int) = some (brOut (bl 0 (r.drop i) v (i - 2))) := by
  subst hi8
  rw [motleyref02_Braced.l0.eq_2, mk_size, if_pos (show ((8 : Nat) : Int) < (r.length : Int) by omega), List.drop_eq_getElem_cons hlt, bt_at r 8 hlt]
  rw [if_neg (show ¬ ((8 : Nat) : Int) < 8 by omega), if_neg (show ¬ ((8 : Nat) : Int) = 2 by omega), if_neg (show ¬ ((8 : Nat) : Int) = (r.length : Int) by omega), if_pos (show (0 : Int) ≤ ((8 : Nat) : Int) by omega), bl_no 0 _ _ v 8 (fun h => absurd h.1 (Nat.lt_irrefl 0)) (by decide)]
  exact Br_end _ v 8 (by decide) (by decide)
theorem Br_hex (r : List UInt8) (k i v : Nat) (hi : i < 8) (hlt : i < r.length) (hh : isH r[i] = true) :
    motleyref02_Braced.l0 (k + 2 + 1) (mk r) (v : Int) (i : Int) = motleyref02_Braced.l0 (k + 2) (mk r) (wrap64 (wrap64 ((v : Int) * 16) + (hv r[i] : Int))) (wrap64 ((i : Int) + 1)) := by
  rw [motleyref02_Braced.l0.eq_2, mk_size, if_pos (show (i : Int) < (r.length : Int) by omega), bt_at r i hlt]
  rw [if_pos (show (i : Int) < 8 by omega), if_pos (show (0 : Int) ≤ (i : Int) by omega), Digit_eq]
  rw [Option.bind_some, if_pos hh, if_pos (Int.natCast_nonneg _), Option.bind_some]
theorem Br_no (r : List UInt8) (k i v m : Nat) (hi : i < 8) (hi2 : 2 < i) (hlt : i < r.length) (hh : ¬ isH r[i] = true) :
    motleyref02_Braced.l0 (k + 2 + 1) (mk r) (v : Int) (i : Int) = some (brOut (bl m (r.drop i) v (i - 2))) := by
  rw [motleyref02_Braced.l0.eq_2, mk_size, if_pos (show (i : Int) < (r.length : Int) by omega), List.drop_eq_getElem_cons hlt, bt_at r i hlt]
  rw [if_pos (show (i : Int) < 8 by omega), if_pos (show (0 : Int) ≤ (i : Int) by omega), Digit_eq]
  rw [Option.bind_some, if_neg hh, if_neg (by decide)]
  rw [if_neg (show ¬ (i : Int) = 2 by omega), if_neg (show ¬ (i : Int) = (r.length : Int) by omega), bl_no m _ _ v i (fun h => hh h.2) hi2]
  exact Br_end _ v i (by omega) (by omega)
theorem Br_no2 (r : List UInt8) (k v m : Nat) (hlt : 2 < r.length) (hh : ¬ isH r[2] = true) :
    motleyref02_Braced.l0 (k + 2 + 1) (mk r) (v : Int) (2 : Int) = some (brOut (bl m (r.drop 2) v 0)) := by
  have hb := bt_at r 2 hlt
  rw [show ((2 : Nat) : Int) = 2 from rfl] at hb
  rw [motleyref02_Braced.l0.eq_2, mk_size, if_pos (show (2 : Int) < (r.length : Int) by omega), List.drop_eq_getElem_cons hlt, hb]
  rw [if_pos (show (2 : Int) < 8 by decide), if_pos (show (0 : Int) ≤ (2 : Int) by decide), Digit_eq]
  rw [Option.bind_some, if_neg hh, if_neg (by decide), if_pos rfl, bl_zero m _ _ v (fun h => hh h.2)]
  rfl
theorem Br_l0 (r : List UInt8) (m : Nat) : ∀ (i k v : Nat), i + m = 8 → 2 ≤ i → i ≤ r.length → v < 16 ^ (i - 2) → m + 8 ≤ k →
    motleyref02_Braced.l0 k (mk r) (v : Int) (i : Int) = some (brOut (bl m (r.drop i) v (i - 2))) := by
  induction m with
  | zero =>
    intro i k v him hi hir hv0 hk
    clear hv0
    obtain ⟨k, rfl⟩ : ∃ j, k = j + 1 := ⟨k - 1, by omega⟩
    by_cases hlt : i < r.length
    · exact Br_zero r k i v him hlt
    · exact Br_out r k i v 0 hi (by omega)
  | succ m IH =>
    intro i k v him hi hir hv0 hk
    have hvA := Aside0.mk hv0
    clear hv0
    obtain ⟨k, rfl⟩ : ∃ j, k = j + 2 + 1 := ⟨k - 3, by omega⟩
    by_cases hlt : i < r.length
    · by_cases hh : isH r[i] = true
      · have hw : wrap64 ((i : Int) + 1) = ((i + 1 : Nat) : Int) := by rw [wrap64_id (by omega) (by omega)]; omega
        have h16 := hv_lt _ hh
        have hp := pow6 (i - 2) (by omega)
        have ih2 := IH (i + 1) (k + 2) (v * 16 + hv r[i]) (by omega) (by omega) (by omega) (br_pow i v _ hi hvA.1 h16) (by omega)
        have hsum := br_sum v (hv r[i]) (Nat.lt_of_lt_of_le hvA.1 hp) h16
        rw [Br_hex r k i v (by omega) hlt hh, hw, hsum, ih2, List.drop_eq_getElem_cons hlt, bl_yes m _ _ v _ hh, show i + 1 - 2 = i - 2 + 1 by omega]
      · by_cases h2 : i = 2
        · subst h2
          exact Br_no2 r k v (m + 1) hlt hh
        · exact Br_no r k i v (m + 1) (by omega) (by omega) hlt hh
    · exact Br_out r (k + 2) i v (m + 1) hi (by omega)
theorem Braced_eq (r : List UInt8) (k : Nat) (hr : r.length ≤ 5000) (hk : 20 ≤ k) : motleyref02_Braced.f k (mk r) = some (hexR r) := by
  obtain ⟨k, rfl⟩ : ∃ j, k = j + 1 := ⟨k - 1, by omega⟩
  unfold motleyref02_Braced.f
  rw [mk_size]
  have hj : motleyref02_Braced.j0 (k + 1) (mk r) true = some (0, 0) := by simp only [motleyref02_Braced.j0]; rw [if_pos trivial]
  by_cases h4 : r.length < 4
  · rw [if_pos (by omega), hj]
    have := hexR_n r
    rw [hexR_zero r (by omega)]
  · rw [if_neg (by omega), if_pos (by decide), if_pos (by omega)]
    have he : ((mk r).extract 0 2).toList = r.take 2 := by rw [toList_data, Lib.extract_data, mk_list, List.drop_zero]
    rw [he]
    by_cases hp : r.take 2 = [120, 123]
    · rw [hp, show (([120, 123] : List UInt8) != [120, 123]) = false by decide]
      simp only [motleyref02_Braced.j0]
      rw [if_neg (by decide)]
      have e : r = 120 :: 123 :: r.drop 2 := by
        have := List.take_append_drop 2 r
        rw [hp] at this
        exact this.symm
      have := Br_l0 r 6 2 k 0 (by omega) (by omega) (by omega) (by decide) (by omega)
      rw [show ((0 : Nat) : Int) = 0 from rfl, show ((2 : Nat) : Int) = 2 from rfl] at this
      rw [this]
      conv => rhs; rw [e, hexR_bl]
    · rw [show (r.take 2 != [120, 123]) = true from bne_iff_ne.2 hp, hj]
      have hf : Lib.hasPrefix r [120, 123] = false := by
        cases h : Lib.hasPrefix r [120, 123] with
        | false => rfl
        | true =>
          unfold Lib.hasPrefix at h
          obtain ⟨t, rfl⟩ := List.isPrefixOf_iff_prefix.1 h
          exact absurd rfl hp
      unfold hexR hexRes
      rw [hf, if_neg (by simp)]
end Go.Proofs.YtegapacamclipaaGreatDoor.Q
