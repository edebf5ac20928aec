/- Whether a list stands in another one at a place, in the reference's words. -/
import Derived.Test.YtegapacamclipaaDoorRest
import Derived.Test.YtegapacamclipaaDoorK1
set_option linter.unusedVariables false
set_option linter.unusedSimpArgs false
namespace Go.Proofs.YtegapacamclipaaDoor.G
open Go.RowKit Go.Proofs.YtegapacamclipaaDoorW.PrintWords Go.Proofs.YtegapacamclipaaDoor.Tx Go.Lib Go.Proofs.YtegapacamclipaaDoor.K

theorem SameInts_l0 (l m : List Int) (hlm : l.length = m.length) (hl : l.length ≤ 4611686018427387904) : ∀ (d : Nat) (k : Nat) (i : Nat), i + d = l.length → d < k → l.take i = m.take i →
    motleyref02_SameInts.l0 k l m (i : Int) = some (decide (l = m))
  | 0, k, i, hi, hk, he => by
    obtain ⟨k, rfl⟩ : ∃ j, k = j + 1 := ⟨k - 1, by omega⟩
    simp only [motleyref02_SameInts.l0]
    rw [if_neg (by omega)]
    rw [List.take_of_length_le (by omega), List.take_of_length_le (by omega)] at he
    rw [decide_eq_true he]
  | d + 1, k, i, hi, hk, he => by
    obtain ⟨k, rfl⟩ : ∃ j, k = j + 1 := ⟨k - 1, by omega⟩
    simp only [motleyref02_SameInts.l0]
    rw [if_pos (by omega), if_pos (by omega), if_pos (by omega)]
    have h1 : i < l.length := by omega
    have h2 : i < m.length := by omega
    have e1 : rd l (i : Int) = l[i] := by rw [rd, Int.toNat_natCast, List.getD_eq_getElem?_getD, List.getElem?_eq_getElem h1]; rfl
    have e2 : rd m (i : Int) = m[i] := by rw [rd, Int.toNat_natCast, List.getD_eq_getElem?_getD, List.getElem?_eq_getElem h2]; rfl
    rw [e1, e2]
    by_cases e : l[i] = m[i]
    · rw [if_pos e]
      have hw : wrap64 ((i : Int) + 1) = ((i + 1 : Nat) : Int) := by unfold wrap64; omega
      rw [hw]
      refine SameInts_l0 l m hlm hl d k (i + 1) (by omega) (by omega) ?_
      rw [List.take_succ_eq_append_getElem h1, List.take_succ_eq_append_getElem h2, he, e]
    · rw [if_neg e]
      rw [decide_eq_false]
      rintro rfl
      exact e rfl
theorem SameInts_eq (l m : List Int) (hl : l.length ≤ 4611686018427387904) (k : Nat) (hk : l.length < k) : motleyref02_SameInts.f k l m = some (decide (l = m)) := by
  unfold motleyref02_SameInts.f
  by_cases h : l.length = m.length
  · rw [if_pos (by omega)]
    exact SameInts_l0 l m h hl l.length k 0 (by omega) hk (by simp)
  · rw [if_neg (by omega), decide_eq_false]
    rintro rfl
    exact h rfl

theorem Equal_l0 (l m : List Int) (hlm : l.length = m.length) (hl : l.length ≤ 4611686018427387904) : ∀ (d : Nat) (k : Nat) (i : Nat), i + d = l.length → d < k → l.take i = m.take i →
    slices_Equal_int_int.l0 k l m (l.length : Int) (i : Int) = some (decide (l = m))
  | 0, k, i, hi, hk, he => by
    obtain ⟨k, rfl⟩ : ∃ j, k = j + 1 := ⟨k - 1, by omega⟩
    simp only [slices_Equal_int_int.l0]
    rw [if_neg (by omega)]
    rw [List.take_of_length_le (by omega), List.take_of_length_le (by omega)] at he
    rw [decide_eq_true he]
  | d + 1, k, i, hi, hk, he => by
    obtain ⟨k, rfl⟩ : ∃ j, k = j + 1 := ⟨k - 1, by omega⟩
    simp only [slices_Equal_int_int.l0]
    rw [if_pos (by omega), if_pos (by omega), if_pos (by omega), if_pos (by omega)]
    have h1 : i < l.length := by omega
    have h2 : i < m.length := by omega
    have e1 : rd l (i : Int) = l[i] := by rw [rd, Int.toNat_natCast, List.getD_eq_getElem?_getD, List.getElem?_eq_getElem h1]; rfl
    have e2 : rd m (i : Int) = m[i] := by rw [rd, Int.toNat_natCast, List.getD_eq_getElem?_getD, List.getElem?_eq_getElem h2]; rfl
    rw [e1, e2]
    by_cases e : l[i] = m[i]
    · rw [if_pos e]
      have hw : wrap64 ((i : Int) + 1) = ((i + 1 : Nat) : Int) := by unfold wrap64; omega
      rw [hw]
      refine Equal_l0 l m hlm hl d k (i + 1) (by omega) (by omega) ?_
      rw [List.take_succ_eq_append_getElem h1, List.take_succ_eq_append_getElem h2, he, e]
    · rw [if_neg e]
      rw [decide_eq_false]
      rintro rfl
      exact e rfl
theorem Equal_eq (l m : List Int) (hl : l.length ≤ 4611686018427387904) (k : Nat) (hk : l.length < k) : slices_Equal_int_int.f k l m = some (decide (l = m)) := by
  unfold slices_Equal_int_int.f
  by_cases h : l.length = m.length
  · rw [if_pos (by omega)]
    exact Equal_l0 l m h hl l.length k 0 (by omega) hk (by simp)
  · rw [if_neg (by omega), decide_eq_false]
    rintro rfl
    exact h rfl

def standsB (l m : List Int) (n : Nat) : Bool := decide (n + m.length ≤ l.length ∧ (l.take (n + m.length)).drop n = m)
def motleyref02_stands.f (l0 l1 : List Int) (a2 : Int) : Option Bool := if 0 ≤ a2 ∧ a2 ≤ l0.length ∧ l0.length ≤ 1099511627776 ∧ l1.length ≤ 1099511627776 then some (standsB l0 l1 a2.toNat) else none
set_option maxHeartbeats 1000000 in
set_option maxRecDepth 100000 in
theorem motleyref02_stands.calls (A0 : Option Addr) (c0 : Nat) (l0 : List Int) (A1 : Option Addr) (c1 : Nat) (l1 : List Int) (a2 : Int) (r : Bool) (w : World) (hr0 : Kd.C (Kd.int .i64) w A0 l0.length l0) (hc0 : l0.length ≤ c0) (hr1 : Kd.C (Kd.int .i64) w A1 l1.length l1) (hc1 : l1.length ≤ c1) (h : motleyref02_stands.f l0 l1 a2 = some r) :
    Calls Tryd.prog 66 #[.slice A0 l0.length c0, .slice A1 l1.length c1, .int .i64 a2] w fun e w' => e = .returned (.bool r) ∧ Drawn0 w w' := by
  unfold motleyref02_stands.f at h
  split at h
  case isFalse => cases h
  case isTrue hs =>
  obtain ⟨h0, h1, h2, h3⟩ := hs
  obtain rfl := Option.some.inj h
  obtain ⟨n, rfl⟩ := Int.eq_ofNat_of_zero_le h0
  rw [Int.toNat_natCast]
  have hsb : Aside0 (standsB l0 l1 n = decide (n + l1.length ≤ l0.length ∧ (l0.take (n + l1.length)).drop n = l1)) := ⟨rfl⟩
  have hR0 := Aside0.mk hr0
  have hR1 := Aside0.mk hr1
  clear hr0 hr1 h h0
  have h1' : n ≤ l0.length := by omega
  by_cases hle : n + l1.length ≤ l0.length
  · obtain ⟨i0, hi0, _, hsz, _⟩ := info_parts infoInt
    obtain ⟨A', hcut, hA, hC⟩ := print_mid_of (P := Tryd.prog) (Value.int .i64) 0 36 3 .i64 .i64 Tryd.underlying36 hi0 hsz A0 c0 l0 (n : Int) ((n : Int) + (l1.length : Int)) (by omega) (by omega) (by omega) hc0
    have ht : ((n : Int) + (l1.length : Int)).toNat = n + l1.length := by omega
    rw [Int.toNat_natCast, ht] at hcut hA hC
    have hRm := Aside0.mk (Kd.C_of_reads (h1 := fun _ => rfl) (hA _ (Kd.reads_of_C hR0.out)))
    generalize hm : (l0.take (n + l1.length)).drop n = m at *
    have hml : m.length ≤ 4611686018427387904 := by rw [← hm, List.length_drop, List.length_take]; omega
    have hS := Aside0.mk (SameInts_eq m l1 hml (m.length + 1) (by omega))
    have hd : decide ((n : Int) + (l1.length : Int) ≤ (l0.length : Int)) = true := decide_eq_true (by omega)
    clear hA hm hi0 hsz
    go_enter Tryd.func66, Tryd.ntmps66
    go_wp2_with (go_at_call 32; refine (motleyref02_SameInts.calls (m.length + 1) _ _ m _ _ l1 _ _ hRm.out hC hR1.out hc1 hS.out).mono ?_; rintro e w' ⟨rfl, ⟨nd, rfl⟩⟩)
    go_ret
    exact ⟨ret_bool (by rw [hsb.out]; exact (decide_eq_decide.2 ⟨fun h => ⟨hle, h⟩, fun h => h.2⟩)), by repeat (first | exact Drawn0.refl _ | apply Drawn0.step)⟩
  · have hd : decide ((n : Int) + (l1.length : Int) ≤ (l0.length : Int)) = false := decide_eq_false (by omega)
    have hf : Aside0 (standsB l0 l1 n = false) := ⟨by rw [hsb.out]; exact decide_eq_false (fun h => hle h.1)⟩
    rw [hf.out]
    go_enter Tryd.func66, Tryd.ntmps66
    go_wp2_with fail
    go_ret
    exact ⟨rfl, Drawn0.refl _⟩
def chars_stands.f (l0 l1 : List Int) (a2 : Int) : Option Bool := if 0 ≤ a2 ∧ a2 ≤ l0.length ∧ l0.length ≤ 1099511627776 ∧ l1.length ≤ 1099511627776 then some (standsB l0 l1 a2.toNat) else none
set_option maxHeartbeats 1000000 in
set_option maxRecDepth 100000 in
theorem chars_stands.calls (A0 : Option Addr) (c0 : Nat) (l0 : List Int) (A1 : Option Addr) (c1 : Nat) (l1 : List Int) (a2 : Int) (r : Bool) (w : World) (hr0 : Kd.C (Kd.int .i64) w A0 l0.length l0) (hc0 : l0.length ≤ c0) (hr1 : Kd.C (Kd.int .i64) w A1 l1.length l1) (hc1 : l1.length ≤ c1) (h : chars_stands.f l0 l1 a2 = some r) :
    Calls Tryd.prog 67 #[.slice A0 l0.length c0, .slice A1 l1.length c1, .int .i64 a2] w fun e w' => e = .returned (.bool r) ∧ Drawn0 w w' := by
  unfold chars_stands.f at h
  split at h
  case isFalse => cases h
  case isTrue hs =>
  obtain ⟨h0, h1, h2, h3⟩ := hs
  obtain rfl := Option.some.inj h
  obtain ⟨n, rfl⟩ := Int.eq_ofNat_of_zero_le h0
  rw [Int.toNat_natCast]
  have hsb : Aside0 (standsB l0 l1 n = decide (n + l1.length ≤ l0.length ∧ (l0.take (n + l1.length)).drop n = l1)) := ⟨rfl⟩
  have hR0 := Aside0.mk hr0
  have hR1 := Aside0.mk hr1
  clear hr0 hr1 h h0
  have h1' : n ≤ l0.length := by omega
  by_cases hle : n + l1.length ≤ l0.length
  · obtain ⟨i0, hi0, _, hsz, _⟩ := info_parts infoInt
    obtain ⟨A', hcut, hA, hC⟩ := print_mid_of (P := Tryd.prog) (Value.int .i64) 0 36 3 .i64 .i64 Tryd.underlying36 hi0 hsz A0 c0 l0 (n : Int) ((n : Int) + (l1.length : Int)) (by omega) (by omega) (by omega) hc0
    have ht : ((n : Int) + (l1.length : Int)).toNat = n + l1.length := by omega
    rw [Int.toNat_natCast, ht] at hcut hA hC
    have hRm := Aside0.mk (Kd.C_of_reads (h1 := fun _ => rfl) (hA _ (Kd.reads_of_C hR0.out)))
    generalize hm : (l0.take (n + l1.length)).drop n = m at *
    have hml : m.length ≤ 4611686018427387904 := by rw [← hm, List.length_drop, List.length_take]; omega
    have hS := Aside0.mk (Equal_eq m l1 hml (m.length + 1) (by omega))
    have hd : decide ((n : Int) + (l1.length : Int) ≤ (l0.length : Int)) = true := decide_eq_true (by omega)
    clear hA hm hi0 hsz
    go_enter Tryd.func67, Tryd.ntmps67
    go_wp2_with (go_at_call 85; refine (slices_Equal_int_int.calls (m.length + 1) _ _ m _ _ l1 _ _ hRm.out hC hR1.out hc1 hS.out).mono ?_; rintro e w' ⟨rfl, ⟨nd, rfl⟩⟩)
    go_ret
    exact ⟨ret_bool (by rw [hsb.out]; exact (decide_eq_decide.2 ⟨fun h => ⟨hle, h⟩, fun h => h.2⟩)), by repeat (first | exact Drawn0.refl _ | apply Drawn0.step)⟩
  · have hd : decide ((n : Int) + (l1.length : Int) ≤ (l0.length : Int)) = false := decide_eq_false (by omega)
    have hf : Aside0 (standsB l0 l1 n = false) := ⟨by rw [hsb.out]; exact decide_eq_false (fun h => hle h.1)⟩
    rw [hf.out]
    go_enter Tryd.func67, Tryd.ntmps67
    go_wp2_with fail
    go_ret
    exact ⟨rfl, Drawn0.refl _⟩
end Go.Proofs.YtegapacamclipaaDoor.G
