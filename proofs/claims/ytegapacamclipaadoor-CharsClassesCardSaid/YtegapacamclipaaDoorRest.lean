/- What is left of the functions of this seat's program that the printer does not take: a search by a predicate, a title, a count of characters. -/
import Derived.Test.YtegapacamclipaaDoorMaps
set_option linter.unusedVariables false
set_option linter.unusedSimpArgs false
namespace Go.Proofs.YtegapacamclipaaDoor.G
open Go.RowKit Go.Proofs.YtegapacamclipaaDoorW.PrintWords Go.Proofs.YtegapacamclipaaDoor.Tx Go.Lib

/-- 'x[:j:j]', read alone. -/
theorem cut_to_max {P : Program} (t e : TypeId) (kh : IntKind) {i : TypeInfo} (ht : P.underlying t = some (.slice e)) (hi : P.info? e = some i) (A : Option Addr) (n c : Nat) (j : Int) (h0 : 0 ≤ j) (hm : j ≤ n) (hc : n ≤ c) :
    ∀ W : World, (Instr.slice t (.slice A n c) none (some (.int kh j)) (some (.int kh j))).run P W = .ok (.slice A j.toNat j.toNat) W := by
  intro W
  have hel : P.elem t = e := by simp [Program.elem, ht]
  have hu : P.underlying t = some (.slice (P.elem t)) := by rw [hel]; exact ht
  have ha : (A.map fun x => x.add 0) = A := by cases A <;> simp [Addr.add]
  rw [run_slice_hm W t A n c hu kh kh j j h0 (by omega) (by omega), hel]
  simp [sizeOf, typeInfo, hi, sliced, Result.andThen, ha]

theorem runeCount_eq (s : ByteArray) : ∀ f pos, runeCountFrom s f pos = (runesF f (s.data.toList.drop pos)).length
  | 0, _ => rfl
  | f + 1, pos => by
    have ih := runeCount_eq s f (pos + (Utf8.decode s pos).2)
    unfold runeCountFrom
    simp only [runesF]
    by_cases hp : pos < s.size
    · rw [if_pos hp, if_neg (drop_ne hp), ih, dec_eq, List.length_cons, List.drop_drop]
      omega
    · rw [if_neg hp, if_pos (List.drop_of_length_le (by rw [← size_len]; omega))]
      rfl
def utf8_RuneCountInString.f (a0 : ByteArray) : Option Int := if a0.size ≤ 140737488351232 then some ((runes a0.data.toList).length : Int) else none
theorem utf8_RuneCountInString.calls (a0 : ByteArray) (r : Int) (w : World) (h : utf8_RuneCountInString.f a0 = some r) :
    Calls Tryd.prog 57 #[.string a0] w fun e w' => e = .returned (.int .i64 r) ∧ Below w.heap.size w w' := by
  unfold utf8_RuneCountInString.f at h
  split at h
  case isFalse => cases h
  case isTrue hs =>
  obtain rfl := Option.some.inj h
  refine (Tryd.utf8_RuneCountInString a0 w (by omega)).mono ?_
  rintro e w' ⟨rfl, pos, rfl⟩
  refine ⟨ret_int ?_, (Below.refl _ w).alloc (Nat.le_refl _) _⟩
  rw [runeCount, runeCount_eq, List.drop_zero, runes, size_len]

/-! ### slices.ContainsFunc -/
set_option maxHeartbeats 1000000 in
set_option maxRecDepth 100000 in
theorem indexFunc_any (g : Nat) (p : Int → Bool) (eg : ∀ args w, (callFunc g args).run Tryd.prog w = .ok (.enter g args) w)
    (hp : ∀ (c : Int) (W : World), Calls Tryd.prog g #[.int .i64 c] W fun e W' => e = .returned (.bool (p c)) ∧ W' = W)
    (A0 : Option Addr) (c0 : Nat) (l0 : List Int) (w : World) (hr0 : Kd.C (Kd.int .i64) w A0 l0.length l0) :
    Calls Tryd.prog 84 #[.slice A0 l0.length c0, .func (.func g) #[] #[]] w fun e w' => (∃ i : Int, e = .returned (.int .i64 i) ∧ decide (0 ≤ i) = l0.any p) ∧ w' = w := by
  have hR := Aside0.mk hr0
  have hm := Kd.C_max hr0
  clear hr0
  go_enter Tryd.func84, Tryd.ntmps84
  go_wp2_with fail
  go_loop [8] (fun v => ∃ k : Nat, v = .int .i64 k ∧ k ≤ l0.length ∧ Aside0 ((l0.take k).any p = false)) (fun v => l0.length - (Go.RowKit.intOf v).toNat)
  case atStart => exact ⟨0, rfl, by omega, ⟨rfl⟩⟩
  case round =>
    obtain ⟨k, rfl, hk, hno⟩ := hrel
    by_cases hlt : k < l0.length
    · obtain ⟨ad, e0, hcell⟩ := Kd.at_int hR.out (k : Int) (by omega) (by omega)
      rw [rd, Int.toNat_natCast] at hcell
      cases e0
      have hts : Aside0 ((l0.take (k + 1)).any p = p (l0.getD k 0)) := ⟨by
        rw [List.take_succ_eq_append_getElem hlt, List.any_append, hno.out, List.getD_eq_getElem?_getD, List.getElem?_eq_getElem hlt]
        simp⟩
      have hall : Aside0 (p (l0.getD k 0) = true → l0.any p = true) := ⟨fun h => by
        rw [← List.take_append_drop (k + 1) l0, List.any_append, hts.out, h]
        rfl⟩
      generalize l0.getD k 0 = c at *
      have hpc := Aside0.mk (hp c)
      clear hp
      rcases (Bool.eq_false_or_eq_true (p c)) with hb | hb
      · rw [hb] at hpc
        have hb := Aside0.mk hb
        go_wp2_with (go_at_fn g; refine (hpc.out _).mono ?_; rintro e w' ⟨rfl, rfl⟩)
        go_ret
        refine ⟨⟨_, rfl, ?_⟩, rfl⟩
        rw [hall.out hb.out]
        simp
      · rw [hb] at hpc
        have hb := Aside0.mk hb
        go_wp2_with (go_at_fn g; refine (hpc.out _).mono ?_; rintro e w' ⟨rfl, rfl⟩)
        go_round
        case rel => exact ⟨k + 1, by go_num, by omega, ⟨by rw [hts.out, hb.out]⟩⟩
        case measure => simp [Go.RowKit.intOf]; omega
    · have hall : Aside0 (l0.any p = false) := ⟨by rw [← hno.out, List.take_of_length_le (by omega)]⟩
      go_wp2_with fail
      go_ret
      refine ⟨⟨_, rfl, ?_⟩, rfl⟩
      rw [hall.out]
      rfl
set_option maxHeartbeats 1000000 in
theorem containsFunc_any (g : Nat) (p : Int → Bool) (eg : ∀ args w, (callFunc g args).run Tryd.prog w = .ok (.enter g args) w)
    (hp : ∀ (c : Int) (W : World), Calls Tryd.prog g #[.int .i64 c] W fun e W' => e = .returned (.bool (p c)) ∧ W' = W)
    (A0 : Option Addr) (c0 : Nat) (l0 : List Int) (w : World) (hr0 : Kd.C (Kd.int .i64) w A0 l0.length l0) :
    Calls Tryd.prog 61 #[.slice A0 l0.length c0, .func (.func g) #[] #[]] w fun e w' => e = .returned (.bool (l0.any p)) ∧ w' = w := by
  have hC := Aside0.mk (fun w hr => indexFunc_any g p eg hp A0 c0 l0 w hr)
  have hR := Aside0.mk hr0
  clear hr0 hp
  go_enter Tryd.func61, Tryd.ntmps61
  go_wp2_with (go_at_call 84; refine (hC.out _ hR.out).mono ?_)
  rintro e w' ⟨⟨i, rfl, hi⟩, rfl⟩
  have hi := Aside0.mk hi
  go_wp2
  go_ret
  exact ⟨by rw [← hi.out]; rfl, rfl⟩

theorem ret_bool {a b : Bool} (h : a = b) : Ending.returned (.bool a) = .returned (.bool b) := by rw [h]
def noChr (c : Int) : Bool := !decide (chr c)
set_option maxHeartbeats 1000000 in
theorem Text1_any (c : Int) (w : World) : Calls Tryd.prog 62 #[.int .i64 c] w fun e w' => e = .returned (.bool (noChr c)) ∧ w' = w := by
  have hn : Aside0 (noChr c = !decide (chr c)) := ⟨rfl⟩
  rcases (show c < 0 ∨ (0 ≤ c ∧ c < 55296) ∨ (55296 ≤ c ∧ c ≤ 57343) ∨ (57344 ≤ c ∧ c ≤ 1114111) ∨ 1114112 ≤ c by omega) with h | ⟨h, h2⟩ | ⟨h, h2⟩ | ⟨h, h2⟩ | h
  all_goals
    go_enter Tryd.func62, Tryd.ntmps62
    go_wp2
    go_ret
    refine ⟨?_, rfl⟩
    rw [hn.out]
    first | (show Ending.returned (.bool (!decide (c < 55296) && !decide (57343 < c))) = _; refine ret_bool ?_; rw [Bool.eq_iff_iff]; simp only [Bool.and_eq_true, Bool.not_eq_true', decide_eq_false_iff_not]; unfold chr; omega) | (show Ending.returned (.bool true) = _; refine ret_bool ?_; rw [decide_eq_false (show ¬ chr c by unfold chr; omega)]; rfl) | (show Ending.returned (.bool false) = _; refine ret_bool ?_; rw [decide_eq_true (show chr c by unfold chr; omega)]; rfl)
def anyNoChar.f (l0 : List Int) : Option Bool := some (l0.any noChr)
theorem anyNoChar.calls (A0 : Option Addr) (c0 : Nat) (l0 : List Int) (r : Bool) (w : World) (hr0 : Kd.C (Kd.int .i64) w A0 l0.length l0) (hc0 : l0.length ≤ c0) (h : anyNoChar.f l0 = some r) :
    Calls Tryd.prog 61 #[.slice A0 l0.length c0, .func (.func 62) #[] #[]] w fun e w' => e = .returned (.bool r) ∧ Drawn0 w w' := by
  obtain rfl := Option.some.inj h
  exact (containsFunc_any _ noChr (enters_of Tryd.func62 (by kernel_rfl) rfl) (fun c W => Text1_any c W) A0 c0 l0 w hr0).mono fun e w' ⟨h1, h2⟩ => ⟨h1, h2 ▸ Drawn0.refl _⟩
end Go.Proofs.YtegapacamclipaaDoor.G
