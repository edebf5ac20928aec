/- Of this claim's texts (K0, K1, K2, Cal, Len, Written, Known): the declarations that the claim reaches (slimclaim.py). -/
import Derived.Test.YtallfkecjibpmaaDoorProg
import Derived.Below
import Derived.Deep.Draws
import Derived.Deep.AppendLies
import Derived.Maps.AppendAt
import Derived.OwnWalk
import Derived.Laws.BytesArg
import Derived.Laws.MakeOwn
import Derived.Laws.OwnMore
import Derived.Deep.OwnRows
import Derived.Tactics
import Derived.Lib.ConvBytes
import Derived.Laws.Slices
import Derived.WalkKit
import Derived.KernelRfl
import Derived.RowKit3
import Derived.Deep.LoopGhost
import Derived.Deep.QuietTactic
import Derived.BigQuiet
import Derived.WideLaws
import Derived.Deep.DeepCutAuto
import Derived.Deep.CutBlock
import Derived.Deep.RegionHeld3
import Derived.Laws.Rows
import Derived.Lib.AppendStr
import Derived.ArgAppend
import Derived.Laws.IdiomCopy
import Derived.OrdersHeld
import Derived.Laws.BitsLemmas
import Derived.RowKit
import Derived.Laws.Runes
import Derived.BigCall
import Derived.Lib.ItoaNum
import Derived.Test.YtallfkecjibpmaaDoorVW
import Derived.Test.YtallfkecjibpmaaDoorVTapS
import Derived.Test.YtallfkecjibpmaaDoorVJ1
namespace Go.Proofs.YtallfkecjibpmaaDoor.K
open Go.RowKit Go.Proofs.YtallfkecjibpmaaDoorW.PrintWords Go.Proofs.YtallfkecjibpmaaDoorW.PrintLast Go.Proofs.YtallfkecjibpmaaDoorW.PrintMore
attribute [local go_sem] max2_int min2_int max_two min_two max_three min_three max_four min_four   
set_option linter.unusedVariables false
set_option linter.unusedSimpArgs false
def errW : Option Int → Value
  | none => .nilIface
  | some c => .iface 0 (.int .i64 c)
theorem errW_none : errW none = .nilIface := rfl
theorem errW_some (c : Int) : errW (some c) = .iface 0 (.int .i64 c) := rfl
end Go.Proofs.YtallfkecjibpmaaDoor.K
namespace Go.Proofs.YtallfkecjibpmaaDoor.K
open Go.RowKit Go.Proofs.YtallfkecjibpmaaDoorW.PrintWords Go.Proofs.YtallfkecjibpmaaDoorW.PrintLast Go.Proofs.YtallfkecjibpmaaDoorW.PrintMore
attribute [local go_sem] max2_int min2_int max_two min_two max_three min_three max_four min_four   
set_option linter.unusedVariables false
set_option linter.unusedSimpArgs false
def tap_before.f (a0 : Int) : Option (Int) := some (wrap64 ((wrap64 ((wrap64 ((wrap64 (365 * (wrap64 (a0 - 1)))) + (wrap64 (Int.tdiv (wrap64 (a0 - 1)) 4)))) - (wrap64 (Int.tdiv (wrap64 (a0 - 1)) 100)))) + (wrap64 (Int.tdiv (wrap64 (a0 - 1)) 400))))
set_option maxHeartbeats 8000000 in
set_option maxRecDepth 100000 in
theorem tap_before.calls (a0 : Int) (r : Int) (w : World) (h : tap_before.f a0 = some r) :
    Calls Tryd.prog 39 #[.int .i64 a0] w fun e w' => e = .returned (.int .i64 r) ∧ Drawn0 w w' := by
  have H : (some (wrap64 ((wrap64 ((wrap64 ((wrap64 (365 * (wrap64 (a0 - 1)))) + (wrap64 (Int.tdiv (wrap64 (a0 - 1)) 4)))) - (wrap64 (Int.tdiv (wrap64 (a0 - 1)) 100)))) + (wrap64 (Int.tdiv (wrap64 (a0 - 1)) 400))))) = some r := h
  clear h
  obtain rfl := Option.some.inj H
  go_enter Tryd.func39, Tryd.ntmps39
  go_wp2
  go_ret
  exact ⟨by first | rfl | (simp; done) | (simp [*]; done) | (simp; generalize ByteArray.toList _ = l_; cases l_ <;> rfl), by repeat (first | exact Drawn0.refl _ | apply Drawn0.step)⟩
def tap_epoch.f  : Option (Int) := (tap_before.f 1970).bind fun t101 => (some t101)
set_option maxHeartbeats 8000000 in
set_option maxRecDepth 100000 in
theorem tap_epoch.calls  (r : Int) (w : World) (h : tap_epoch.f  = some r) :
    Calls Tryd.prog 40 #[] w fun e w' => e = .returned (.int .i64 r) ∧ Drawn0 w w' := by
  have H : ((tap_before.f 1970).bind fun t101 => (some t101)) = some r := h
  clear h
  replace H := Option.bind_eq_some_iff.mp H
  obtain ⟨t101, A10, H⟩ := H
  replace H : (some t101) = some r := H
  have A1 := Aside0.mk A10
  clear A10
  obtain rfl := Option.some.inj H
  go_enter Tryd.func40, Tryd.ntmps40
  go_wp2_with (first | ((with_reducible refine gate_callee (f := 39) rfl ?_); refine goesL_ (some 1) rfl rfl Tryd.func39 (by kernel_rfl) rfl #[.int .i64 1970] rfl (by (try simp only [List.map_toArray, List.map_cons, List.map_nil]); first | done | rfl | (simp only [List.length_drop, List.length_take]; rfl)) ?_; (with_reducible refine (tap_before.calls 1970 t101 _ A1.out).mono ?_); rintro e w' ⟨rfl, ⟨nd, rfl⟩⟩; refine ⟨_, rfl, ?_⟩))
  go_ret
  exact ⟨by first | rfl | (simp; done) | (simp [*]; done) | (simp; generalize ByteArray.toList _ = l_; cases l_ <;> rfl), by repeat (first | exact Drawn0.refl _ | apply Drawn0.step)⟩
end Go.Proofs.YtallfkecjibpmaaDoor.K
namespace Go.Proofs.YtallfkecjibpmaaDoor.K
open Go.RowKit Go.Proofs.YtallfkecjibpmaaDoorW.PrintWords Go.Proofs.YtallfkecjibpmaaDoorW.PrintLast Go.Proofs.YtallfkecjibpmaaDoorW.PrintMore
attribute [local go_sem] max2_int min2_int max_two min_two max_three min_three max_four min_four   
set_option linter.unusedVariables false
set_option linter.unusedSimpArgs false
def tap_isLeap.f (a0 : Int) : Option (Bool) := if (Int.tmod a0 4) = 0 then (if (Int.tmod a0 100) = 0 then (some ((Int.tmod a0 400) == 0)) else (some true)) else (some false)
set_option maxHeartbeats 8000000 in
set_option maxRecDepth 100000 in
theorem tap_isLeap.calls (a0 : Int) (r : Bool) (w : World) (h : tap_isLeap.f a0 = some r) :
    Calls Tryd.prog 70 #[.int .i64 a0] w fun e w' => e = .returned (.bool r) ∧ Drawn0 w w' := by
  have H : (if (Int.tmod a0 4) = 0 then (if (Int.tmod a0 100) = 0 then (some ((Int.tmod a0 400) == 0)) else (some true)) else (some false)) = some r := h
  clear h
  by_cases c2 : (Int.tmod a0 4) = 0
  · rw [if_pos c2] at H
    have c2b0 : ((Int.tmod a0 4) == 0) = true := beq_iff_eq.mpr c2
    have c2b1 : ((Int.tmod a0 4) != 0) = false := bne_eq_false_iff_eq.mpr c2
    clear c2
    by_cases c3 : (Int.tmod a0 100) = 0
    · rw [if_pos c3] at H
      have c3b0 : ((Int.tmod a0 100) == 0) = true := beq_iff_eq.mpr c3
      have c3b1 : ((Int.tmod a0 100) != 0) = false := bne_eq_false_iff_eq.mpr c3
      clear c3
      obtain rfl := Option.some.inj H
      go_enter Tryd.func70, Tryd.ntmps70
      go_wp2
      go_ret
      exact ⟨by first | rfl | (simp; done) | (simp [*]; done) | (simp; generalize ByteArray.toList _ = l_; cases l_ <;> rfl), by repeat (first | exact Drawn0.refl _ | apply Drawn0.step)⟩
    · rw [if_neg c3] at H
      have c3b0 : ((Int.tmod a0 100) == 0) = false := beq_eq_false_iff_ne.mpr c3
      have c3b1 : ((Int.tmod a0 100) != 0) = true := bne_iff_ne.mpr c3
      obtain rfl := Option.some.inj H
      go_enter Tryd.func70, Tryd.ntmps70
      go_wp2
      go_ret
      exact ⟨by first | rfl | (simp; done) | (simp [*]; done) | (simp; generalize ByteArray.toList _ = l_; cases l_ <;> rfl), by repeat (first | exact Drawn0.refl _ | apply Drawn0.step)⟩
  · rw [if_neg c2] at H
    have c2b0 : ((Int.tmod a0 4) == 0) = false := beq_eq_false_iff_ne.mpr c2
    have c2b1 : ((Int.tmod a0 4) != 0) = true := bne_iff_ne.mpr c2
    obtain rfl := Option.some.inj H
    go_enter Tryd.func70, Tryd.ntmps70
    go_wp2
    go_ret
    exact ⟨by first | rfl | (simp; done) | (simp [*]; done) | (simp; generalize ByteArray.toList _ = l_; cases l_ <;> rfl), by repeat (first | exact Drawn0.refl _ | apply Drawn0.step)⟩
end Go.Proofs.YtallfkecjibpmaaDoor.K
set_option linter.unusedVariables false
set_option linter.unusedSimpArgs false
namespace Go.Proofs.YtallfkecjibpmaaDoor.Cal
def leap (y : Int) : Bool := decide (y % 4 = 0 ∧ (y % 100 ≠ 0 ∨ y % 400 = 0))
def bef (y : Int) : Int := 365 * (y - 1) + (y - 1) / 4 - (y - 1) / 100 + (y - 1) / 400
def len (y m : Int) : Int := if m = 2 then (if leap y then 29 else 28) else if m = 4 ∨ m = 6 ∨ m = 9 ∨ m = 11 then 30 else 31
def mon (y m : Int) : Int := if m ≤ 1 then 0 else if m = 2 then 31 else (if leap y then 1 else 0) + (if m = 3 then 59 else if m = 4 then 90 else if m = 5 then 120 else if m = 6 then 151 else if m = 7 then 181 else if m = 8 then 212 else if m = 9 then 243 else if m = 10 then 273 else if m = 11 then 304 else if m = 12 then 334 else 365)
theorem mon_next (y m : Int) (h1 : 1 ≤ m) (h2 : m ≤ 12) : mon y (m + 1) = mon y m + len y m := by
  have : m = 1 ∨ m = 2 ∨ m = 3 ∨ m = 4 ∨ m = 5 ∨ m = 6 ∨ m = 7 ∨ m = 8 ∨ m = 9 ∨ m = 10 ∨ m = 11 ∨ m = 12 := by omega
  rcases this with rfl | rfl | rfl | rfl | rfl | rfl | rfl | rfl | rfl | rfl | rfl | rfl <;> cases h : leap y <;> simp [mon, len, h]
theorem len_pos (y m : Int) : 28 ≤ len y m ∧ len y m ≤ 31 := by
  unfold len; cases leap y <;> simp <;> repeat' split
  all_goals omega
theorem mon_le (y m n : Int) (h1 : 1 ≤ m) (h : m ≤ n) (h2 : n ≤ 13) : mon y m ≤ mon y n := by
  obtain ⟨k, rfl⟩ : ∃ k : Nat, n = m + k := ⟨(n - m).toNat, by omega⟩
  induction k with
  | zero => simp
  | succ k ih =>
    have := ih (by omega) (by omega)
    have h3 := mon_next y (m + k) (by omega) (by omega)
    have h4 := len_pos y (m + k)
    rw [show m + ((k + 1 : Nat) : Int) = m + k + 1 by omega, h3]
    omega
theorem mon_one (y : Int) : mon y 1 = 0 := by simp [mon]
theorem mon_all (y : Int) : 365 ≤ mon y 13 ∧ mon y 13 ≤ 366 := by unfold mon; cases leap y <;> simp
end Go.Proofs.YtallfkecjibpmaaDoor.Cal
namespace Go.Proofs.YtallfkecjibpmaaDoor.G
open Go.RowKit Go.Proofs.YtallfkecjibpmaaDoorW.PrintWords Go.Proofs.YtallfkecjibpmaaDoor.K Go.Proofs.YtallfkecjibpmaaDoor.Cal
theorem w64 {x : Int} (h0 : -9223372036854775808 ≤ x) (h1 : x ≤ 9223372036854775807) : wrap64 x = x := by unfold wrap64; omega
theorem before_eq (y : Int) (h1 : 1 ≤ y) (h2 : y ≤ 100000) : tap_before.f y = some (bef y) := by
  unfold tap_before.f bef
  rw [w64 (x := y - 1) (by omega) (by omega), Int.tdiv_eq_ediv_of_nonneg (by omega), Int.tdiv_eq_ediv_of_nonneg (by omega), Int.tdiv_eq_ediv_of_nonneg (by omega)]
  rw [w64 (x := 365 * (y - 1)) (by omega) (by omega), w64 (x := (y - 1) / 4) (by omega) (by omega), w64 (x := (y - 1) / 100) (by omega) (by omega), w64 (x := (y - 1) / 400) (by omega) (by omega), w64 (x := 365 * (y - 1) + (y - 1) / 4) (by omega) (by omega), w64 (x := 365 * (y - 1) + (y - 1) / 4 - (y - 1) / 100) (by omega) (by omega), w64 (by omega) (by omega)]
theorem epoch_eq : tap_epoch.f = some 719162 := by
  unfold tap_epoch.f
  rw [before_eq 1970 (by omega) (by omega)]
  rfl
theorem isLeap_eq (y : Int) (h1 : 1 ≤ y) : tap_isLeap.f y = some (leap y) := by
  unfold tap_isLeap.f leap
  rw [Int.tmod_eq_emod_of_nonneg (by omega), Int.tmod_eq_emod_of_nonneg (by omega), Int.tmod_eq_emod_of_nonneg (by omega)]
  by_cases h4 : y % 4 = 0
  · rw [if_pos h4]
    by_cases h100 : y % 100 = 0
    · rw [if_pos h100]
      congr 1
      rw [Bool.eq_iff_iff]
      simp
      omega
    · rw [if_neg h100, decide_eq_true ⟨h4, .inl h100⟩]
  · rw [if_neg h4, decide_eq_false (fun h => h4 h.1)]
end Go.Proofs.YtallfkecjibpmaaDoor.G
set_option linter.unusedVariables false
namespace Go.Proofs.YtallfkecjibpmaaDoor.G
open Go.RowKit Go.Proofs.YtallfkecjibpmaaDoorW.PrintWords Go.Proofs.YtallfkecjibpmaaDoor.K Go.Proofs.YtallfkecjibpmaaDoor.Cal
def lensA (b : Int) : Array Value := #[.int .i64 31, .int .i64 b, .int .i64 31, .int .i64 30, .int .i64 31, .int .i64 30, .int .i64 31, .int .i64 31, .int .i64 30, .int .i64 31, .int .i64 30, .int .i64 31]
def feb (l : Bool) : Int := if l then 29 else 28
set_option maxHeartbeats 400000 in
set_option maxRecDepth 100000 in
theorem lengths_any (y : Int) (l : Bool) (w : World) (h : tap_isLeap.f y = some l) :
    Calls Tryd.prog 41 #[.int .i64 y] w fun e w' => e = .returned (.agg (lensA (feb l))) ∧ Below w.heap.size w w' := by
  have hu := Tryd.underlying54
  cases l
  all_goals
    go_enter Tryd.func41, Tryd.ntmps41
    go_wp2_with (go_at_call 70; refine (tap_isLeap.calls y _ _ h).mono ?_; rintro e w' ⟨rfl, ⟨nd, rfl⟩⟩)
    refine bodyPost_ret (v := .agg (lensA _)) (by simp [results, Tryd.results41, go_sem, lensA, feb]) rfl ⟨rfl, ?_⟩
    repeat refine Below.setCell ?_ (by simp) _
    refine pw_below_drewN ?_ _
    repeat refine Below.setCell ?_ (by simp) _
    exact ((Below.refl _ w).alloc (Nat.le_refl _) _).alloc (by simp) _
theorem twelve {m : Int} (h1 : 1 ≤ m) (h2 : m ≤ 12) : m = 1 ∨ m = 2 ∨ m = 3 ∨ m = 4 ∨ m = 5 ∨ m = 6 ∨ m = 7 ∨ m = 8 ∨ m = 9 ∨ m = 10 ∨ m = 11 ∨ m = 12 := by omega
def tap_lengthOf.f (a0 a1 : Int) : Option Int := if 1 ≤ a0 ∧ 1 ≤ a1 ∧ a1 ≤ 12 then some (len a0 a1) else none
set_option maxHeartbeats 4000000 in
set_option maxRecDepth 100000 in
theorem tap_lengthOf.calls (a0 a1 : Int) (r : Int) (w : World) (h : tap_lengthOf.f a0 a1 = some r) :
    Calls Tryd.prog 38 #[.int .i64 a0, .int .i64 a1] w fun e w' => e = .returned (.int .i64 r) ∧ Below w.heap.size w w' := by
  unfold tap_lengthOf.f at h
  split at h
  case isFalse => cases h
  case isTrue hs =>
  obtain ⟨hy, h1, h2⟩ := hs
  obtain rfl := Option.some.inj h
  clear h
  have hL := Aside0.mk (fun w => lengths_any a0 (leap a0) w (isLeap_eq a0 hy))
  obtain ⟨b, hb⟩ : ∃ b, b = feb (leap a0) := ⟨_, rfl⟩
  have hB : len a0 2 = b := by rw [hb]; unfold len feb; simp
  rw [← hb] at hL
  have hlen : Aside0 (∀ m, m ≠ 2 → len a0 m = if m = 4 ∨ m = 6 ∨ m = 9 ∨ m = 11 then 30 else 31) := ⟨fun m hm => by unfold len; rw [if_neg hm]⟩
  have hB := Aside0.mk hB
  clear hb
  rcases twelve h1 h2 with rfl | rfl | rfl | rfl | rfl | rfl | rfl | rfl | rfl | rfl | rfl | rfl
  all_goals
    clear h1 h2
    first | rw [hB.out] | rw [hlen.out _ (by decide)]
    go_enter Tryd.func38, Tryd.ntmps38
    go_wp2_with (go_at_call 41; refine (hL.out _).mono ?_; rintro e w1 ⟨rfl, hb1⟩; unfold lensA)
    go_ret
    exact ⟨rfl, hb1.alloc hb1.size _⟩
def tap_Days.f (a0 a1 a2 : Int) : Option (Int × Int) := if 1 ≤ a0 ∧ a0 ≤ 9999 ∧ 1 ≤ a1 ∧ a1 ≤ 12 ∧ 1 ≤ a2 ∧ a2 ≤ len a0 a1 then some (bef a0 + mon a0 a1 + a2 - 1 - 719162, 0) else some (0, 1)
theorem dayLen (a0 a1 : Int) : ∃ x, len a0 a1 = x := ⟨_, rfl⟩
set_option maxHeartbeats 4000000 in
set_option maxRecDepth 100000 in
theorem Days_bad (a0 a1 a2 : Int) (w : World) (h : ¬ (1 ≤ a0 ∧ a0 ≤ 9999 ∧ 1 ≤ a1 ∧ a1 ≤ 12 ∧ 1 ≤ a2 ∧ a2 ≤ len a0 a1)) :
    Calls Tryd.prog 11 #[.int .i64 a0, .int .i64 a1, .int .i64 a2] w fun e w' => e = .returned (.tuple #[.int .i64 0, .int .i64 1]) ∧ Below w.heap.size w w' := by
  have HB := Below.refl w.heap.size w
  by_cases c1 : a0 < 1
  · have d1 := decide_eq_true c1
    clear h c1
    go_enter Tryd.func11, Tryd.ntmps11
    go_wp2
    go_ret2
    exact ⟨rfl, HB⟩
  have d1 := decide_eq_false c1
  by_cases c2 : 9999 < a0
  · have d2 := decide_eq_true c2
    clear h c1 c2
    go_enter Tryd.func11, Tryd.ntmps11
    go_wp2
    go_ret2
    exact ⟨rfl, HB⟩
  have d2 := decide_eq_false c2
  by_cases c3 : a1 < 1
  · have d3 := decide_eq_true c3
    clear h c1 c2 c3
    go_enter Tryd.func11, Tryd.ntmps11
    go_wp2
    go_ret2
    exact ⟨rfl, HB⟩
  have d3 := decide_eq_false c3
  by_cases c4 : 12 < a1
  · have d4 := decide_eq_true c4
    clear h c1 c2 c3 c4
    go_enter Tryd.func11, Tryd.ntmps11
    go_wp2
    go_ret2
    exact ⟨rfl, HB⟩
  have d4 := decide_eq_false c4
  by_cases c5 : a2 < 1
  · have d5 := decide_eq_true c5
    clear h c1 c2 c3 c4 c5
    go_enter Tryd.func11, Tryd.ntmps11
    go_wp2
    go_ret2
    exact ⟨rfl, HB⟩
  have d5 := decide_eq_false c5
  have hc := Aside0.mk (fun w => tap_lengthOf.calls a0 a1 (len a0 a1) w (by unfold tap_lengthOf.f; rw [if_pos (by omega)]))
  have c6 : len a0 a1 < a2 := by omega
  obtain ⟨x, hx⟩ := dayLen a0 a1
  rw [hx] at hc c6
  have d6 := decide_eq_true c6
  clear h hx c1 c2 c3 c4 c5 c6
  go_enter Tryd.func11, Tryd.ntmps11
  go_wp2_with (go_at_call 38; refine (hc.out _).mono ?_; rintro e w1 ⟨rfl, hb1⟩)
  go_ret2
  exact ⟨rfl, hb1⟩
theorem ret_2i {k l : IntKind} {a b c : Int} (h : a = b) : Ending.returned (.tuple #[.int k a, .int l c]) = .returned (.tuple #[.int k b, .int l c]) := by rw [h]
theorem run_head (b M : Nat) (h : M ≤ 12) (w : World) : (Instr.sliceAt 54 (.pointer (some ⟨b, 0, none⟩)) none (some (.int .i64 (M : Int))) none).run Tryd.prog w = .ok (.slice (some ⟨b, 0, none⟩) M 12) w := by
  have hl : Tryd.prog.arrayLen 54 = 12 := by kernel_rfl
  have he : Tryd.prog.elem 54 = 3 := by kernel_rfl
  obtain ⟨i0, hi, hz0, hz1, hz2⟩ := info_parts (show (Tryd.prog.info? 3).map (fun i => (i.zero, i.size, i.bytes)) = some (some (.int .i64 0), 1, 8) by kernel_rfl)
  rw [run_sliceAt_array_h w 54 ⟨b, 0, none⟩ (by rw [hl, he]; exact Tryd.underlying54) .i64 (M : Int) (by omega) (by rw [hl]; omega), he, hl]
  simp [sizeOf, typeInfo, hi, slicedAt, Result.andThen, Addr.add]
set_option maxHeartbeats 4000000 in
set_option maxRecDepth 100000 in
theorem Days_good (a0 a1 a2 : Int) (w : World) (h : 1 ≤ a0 ∧ a0 ≤ 9999 ∧ 1 ≤ a1 ∧ a1 ≤ 12 ∧ 1 ≤ a2 ∧ a2 ≤ len a0 a1) :
    Calls Tryd.prog 11 #[.int .i64 a0, .int .i64 a1, .int .i64 a2] w fun e w' => e = .returned (.tuple #[.int .i64 (bef a0 + mon a0 a1 + a2 - 1 - 719162), .int .i64 0]) ∧ Below w.heap.size w w' := by
  obtain ⟨h1, h2, h3, h4, h5, h6⟩ := h
  have d1 := decide_eq_false (show ¬ a0 < 1 by omega)
  have d2 := decide_eq_false (show ¬ 9999 < a0 by omega)
  have d3 := decide_eq_false (show ¬ a1 < 1 by omega)
  have d4 := decide_eq_false (show ¬ 12 < a1 by omega)
  have d5 := decide_eq_false (show ¬ a2 < 1 by omega)
  have hc := Aside0.mk (fun w => tap_lengthOf.calls a0 a1 (len a0 a1) w (by unfold tap_lengthOf.f; rw [if_pos (by omega)]))
  have hL := Aside0.mk (fun w => lengths_any a0 (leap a0) w (isLeap_eq a0 h1))
  have hbf := Aside0.mk (fun w => tap_before.calls a0 (bef a0) w (before_eq a0 (by omega) (by omega)))
  have hep := Aside0.mk (fun w => tap_epoch.calls 719162 w epoch_eq)
  have hl31 := len_pos a0 a1
  have hbb : 0 ≤ bef a0 ∧ bef a0 ≤ 3651694 := by unfold bef; omega
  have hmm : ∀ m, 1 ≤ m → m ≤ 12 → 0 ≤ mon a0 m ∧ mon a0 m ≤ 366 := fun m x y => by
    have q1 := mon_le a0 1 m (by omega) (by omega) (by omega)
    have q2 := mon_le a0 m 13 (by omega) (by omega) (by omega)
    have q3 := mon_all a0
    rw [mon_one] at q1
    omega
  have hmm := Aside0.mk hmm
  have hnx := Aside0.mk (mon_next a0)
  have hl0 : Aside0 (feb (leap a0) = len a0 2) := ⟨by unfold len feb; simp⟩
  have hlen : Aside0 (∀ m, m ≠ 2 → len a0 m = if m = 4 ∨ m = 6 ∨ m = 9 ∨ m = 11 then 30 else 31) := ⟨fun m hm => by unfold len; rw [if_neg hm]⟩
  have hlp := Aside0.mk (fun m => len_pos a0 m)
  have hm0 := Aside0.mk (mon_one a0)
  rw [hl0.out] at hL
  generalize hB : bef a0 = B at *
  obtain ⟨x, hx⟩ := dayLen a0 a1
  rw [hx] at hc h6 hl31
  have d6 := decide_eq_false (show ¬ x < a2 by omega)
  clear hx hB
  obtain ⟨M, rfl⟩ : ∃ M : Nat, a1 = (M : Int) + 1 := ⟨(a1 - 1).toNat, by omega⟩
  go_enter Tryd.func11, Tryd.ntmps11
  go_wp2_with (first | (go_at_call 38; refine (hc.out _).mono ?_; rintro e w1 ⟨rfl, hb1⟩) | (go_at_call 39; refine (hbf.out _).mono ?_; rintro e w' ⟨rfl, ⟨nd, rfl⟩⟩) | (go_at_call 40; refine (hep.out _).mono ?_; rintro e w' ⟨rfl, ⟨nd2, rfl⟩⟩) | (go_at_call 41; refine (hL.out _).mono ?_; rintro e w2 ⟨rfl, hb2⟩; unfold lensA))
  rw [run_head w2.heap.size M (by omega)]
  simp only [Result.andThen]
  rw [Oper.upon_value]
  go_wp2
  obtain ⟨W, hW⟩ : ∃ W : World, W = w2.alloc (.cells #[.int .i64 31, .int .i64 (len a0 2), .int .i64 31, .int .i64 30, .int .i64 31, .int .i64 30, .int .i64 31, .int .i64 31, .int .i64 30, .int .i64 31, .int .i64 30, .int .i64 31] 54) := ⟨_, rfl⟩
  rw [← hW]
  have hbW : Below w.heap.size w W := by rw [hW]; exact ((pw_below_drewN hb1 _).trans (hb2.mono (by have := hb1.size; simp; omega))).alloc (by have := hb1.size; have := hb2.size; simp at this; omega) _
  have hcells : Aside0 (∀ k : Nat, k < 11 → W.cell? ⟨w2.heap.size, k, none⟩ = some (.int .i64 (len a0 ((k : Int) + 1)))) := ⟨fun k hk => by
    rw [hW]
    have : k = 0 ∨ k = 1 ∨ k = 2 ∨ k = 3 ∨ k = 4 ∨ k = 5 ∨ k = 6 ∨ k = 7 ∨ k = 8 ∨ k = 9 ∨ k = 10 := by omega
    rcases this with rfl | rfl | rfl | rfl | rfl | rfl | rfl | rfl | rfl | rfl | rfl
    all_goals first | (simp; done) | (simp; rw [hlen.out _ (by decide)]; simp; done) | (simp; rw [hlen.out _ (by decide)]; rfl)⟩
  clear hW
  generalize w2.heap.size = g at *
  go_loop [8, 50] (fun n i => ∃ k : Nat, k ≤ M ∧ i = .int .i64 k ∧ n = .int .i64 (B - 719162 + a2 - 1 + mon a0 ((k : Int) + 1))) (fun _ i => M - (intOf i).toNat)
  case atStart => exact ⟨0, by omega, rfl, by rw [show ((0 : Nat) : Int) + 1 = 1 from rfl, hm0.out, Int.add_zero]⟩
  case round =>
    obtain ⟨k, hk, rfl, rfl⟩ := hrel
    by_cases hlt : k < M
    · have hc := hcells.out k (by omega)
      have h9 := hmm.out ((k : Int) + 1) (by omega) (by omega)
      have h8 := hlp.out ((k : Int) + 1)
      have hn := Aside0.mk (hnx.out ((k : Int) + 1) (by omega) (by omega))
      generalize mon a0 ((k : Int) + 1) = z at *
      generalize len a0 ((k : Int) + 1) = v at *
      go_wp2
      go_round
      case rel => exact ⟨k + 1, by omega, by go_num, by rw [show ((k + 1 : Nat) : Int) + 1 = (k : Int) + 1 + 1 by omega, hn.out, Int.add_assoc]⟩
      case measure => simp [intOf]; omega
    · obtain rfl : k = M := by omega
      have h9 := hmm.out ((k : Int) + 1) (by omega) (by omega)
      go_wp2
      go_ret2
      exact ⟨ret_2i (by omega), hbW⟩
theorem tap_Days.calls (a0 a1 a2 : Int) (r1 r2 : Int) (w : World) (h : tap_Days.f a0 a1 a2 = some (r1, r2)) :
    Calls Tryd.prog 11 #[.int .i64 a0, .int .i64 a1, .int .i64 a2] w fun e w' => e = .returned (.tuple #[.int .i64 r1, .int .i64 r2]) ∧ Below w.heap.size w w' := by
  unfold tap_Days.f at h
  split at h
  case isTrue hs =>
    simp only [Option.some.injEq, Prod.mk.injEq] at h
    obtain ⟨rfl, rfl⟩ := h
    exact Days_good a0 a1 a2 w hs
  case isFalse hs =>
    simp only [Option.some.injEq, Prod.mk.injEq] at h
    obtain ⟨rfl, rfl⟩ := h
    exact Days_bad a0 a1 a2 w hs
end Go.Proofs.YtallfkecjibpmaaDoor.G
set_option linter.unusedVariables false
namespace Go.Proofs.YtallfkecjibpmaaDoor.G
open Go.RowKit Go.Proofs.YtallfkecjibpmaaDoorW.PrintWords Go.Lib
theorem enc_digit (n : Nat) (h : n < 10) : Utf8.encode (48 + (n : Int)) = ⟨#[UInt8.ofNat (48 + n)]⟩ := by
  have : n = 0 ∨ n = 1 ∨ n = 2 ∨ n = 3 ∨ n = 4 ∨ n = 5 ∨ n = 6 ∨ n = 7 ∨ n = 8 ∨ n = 9 := by omega
  rcases this with rfl | rfl | rfl | rfl | rfl | rfl | rfl | rfl | rfl | rfl <;> rfl
theorem dec_small {u : Nat} (h : u < 10) : decDigits u = [UInt8.ofNat (48 + u)] := by rw [decDigits, dif_pos h]
theorem dec_big {u : Nat} (h : ¬ u < 10) : decDigits u = decDigits (u / 10) ++ [UInt8.ofNat (48 + u % 10)] := by rw [decDigits, dif_neg h]
theorem dec_len : ∀ (k u : Nat), u < 10 ^ (k + 1) → (decDigits u).length ≤ k + 1
  | 0, u, h => by rw [dec_small (by simpa using h)]; simp
  | k + 1, u, h => by
    by_cases h1 : u < 10
    · rw [dec_small h1]; simp
    · rw [dec_big h1, List.length_append]
      have := dec_len k (u / 10) (by rw [Nat.pow_succ] at h; omega)
      simp
      omega
theorem dec_len19 {u : Nat} (h : u ≤ 9223372036854775807) : (decDigits u).length ≤ 19 := dec_len 18 u (by omega)
theorem ba_app (a b : List UInt8) : (⟨a.toArray⟩ : ByteArray) ++ ⟨b.toArray⟩ = ⟨(a ++ b).toArray⟩ := by
  rw [ByteArray.ext_iff]
  simp
set_option maxHeartbeats 1000000 in
set_option maxRecDepth 100000 in
theorem written_nat : ∀ (n : Nat), n ≤ 9223372036854775807 → ∀ w : World,
    Calls Tryd.prog 60 #[.int .i64 (n : Int)] w fun e w' => e = .returned (.string ⟨(decDigits n).toArray⟩) ∧ w' = w := by
  intro n
  induction n using Nat.strongRecOn with
  | _ n ih =>
    intro hn w
    have d1 : decide ((n : Int) < 0) = false := decide_eq_false (by omega)
    by_cases h : n < 10
    · have d2 : decide (10 ≤ (n : Int)) = false := decide_eq_false (by omega)
      have he := enc_digit n h
      have hq := dec_small h
      rw [hq, ← he]
      clear ih he hq
      go_enter Tryd.func60, Tryd.ntmps60
      go_wp2
      go_ret
      exact ⟨rfl, rfl⟩
    · have d2 : decide (10 ≤ (n : Int)) = true := decide_eq_true (by omega)
      have hi := Aside0.mk (ih (n / 10) (by omega) (by omega))
      have hq := dec_big h
      have he := enc_digit (n % 10) (by omega)
      have h19 := dec_len19 (show n / 10 ≤ 9223372036854775807 by omega)
      rw [show ((n / 10 : Nat) : Int) = (n : Int) / 10 by omega] at hi
      have hz1 : (⟨(decDigits (n / 10)).toArray⟩ : ByteArray).size ≤ 19 := by simpa [ByteArray.size] using h19
      have hz2 : (Utf8.encode (48 + (n : Int) % 10)).size ≤ 4 := by rw [show (n : Int) % 10 = ((n % 10 : Nat) : Int) by omega, he]; show 1 ≤ 4; omega
      have hfin : (⟨(decDigits (n / 10)).toArray⟩ : ByteArray) ++ Utf8.encode (48 + (n : Int) % 10) = ⟨(decDigits n).toArray⟩ := by
        rw [show (n : Int) % 10 = ((n % 10 : Nat) : Int) by omega, he, hq, show (⟨#[UInt8.ofNat (48 + n % 10)]⟩ : ByteArray) = ⟨[UInt8.ofNat (48 + n % 10)].toArray⟩ from rfl, ba_app]
      rw [← hfin]
      clear ih hq he h19 hfin
      generalize (⟨(decDigits (n / 10)).toArray⟩ : ByteArray) = s at *
      go_enter Tryd.func60, Tryd.ntmps60
      go_wp2_with (go_at_call 60; refine (hi.out _).mono ?_; rintro e w' ⟨rfl, rfl⟩)
      go_ret
      exact ⟨rfl, rfl⟩
def motleyref01_Written.f (a0 : Int) : Option ByteArray := if -9223372036854775808 < a0 ∧ a0 ≤ 9223372036854775807 then some ⟨(Lib.itoa a0).toArray⟩ else none
set_option maxHeartbeats 1000000 in
set_option maxRecDepth 100000 in
theorem motleyref01_Written.calls (a0 : Int) (r : ByteArray) (w : World) (h : motleyref01_Written.f a0 = some r) :
    Calls Tryd.prog 60 #[.int .i64 a0] w fun e w' => e = .returned (.string r) ∧ Drawn0 w w' := by
  unfold motleyref01_Written.f at h
  split at h
  case isFalse => cases h
  case isTrue hs =>
  obtain rfl := Option.some.inj h
  clear h
  by_cases hn : a0 < 0
  · have hi := Aside0.mk (written_nat a0.natAbs (by omega))
    rw [show ((a0.natAbs : Nat) : Int) = -a0 by omega] at hi
    have hfin : (⟨#[45]⟩ : ByteArray) ++ ⟨(decDigits a0.natAbs).toArray⟩ = ⟨(Lib.itoa a0).toArray⟩ := by
      rw [show (⟨#[45]⟩ : ByteArray) = ⟨[45].toArray⟩ from rfl, ba_app]
      unfold Lib.itoa
      rw [if_pos hn]
      rfl
    rw [← hfin]
    have h19 := dec_len19 (show a0.natAbs ≤ 9223372036854775807 by omega)
    have hz1 : (⟨(decDigits a0.natAbs).toArray⟩ : ByteArray).size ≤ 19 := by simpa [ByteArray.size] using h19
    clear hfin h19
    generalize (⟨(decDigits a0.natAbs).toArray⟩ : ByteArray) = s at *
    have d1 := decide_eq_true hn
    obtain ⟨hl, hu⟩ := hs
    go_enter Tryd.func60, Tryd.ntmps60
    go_wp2_with (go_at_call 60; refine (hi.out _).mono ?_; rintro e w' ⟨rfl, rfl⟩)
    go_ret
    exact ⟨rfl, Drawn0.refl _⟩
  · obtain ⟨n, rfl⟩ : ∃ n : Nat, a0 = (n : Int) := ⟨a0.toNat, by omega⟩
    refine (written_nat n (by omega) w).mono fun e w' ⟨h1, h2⟩ => ⟨?_, h2 ▸ Drawn0.refl _⟩
    rw [h1]
    unfold Lib.itoa
    rw [if_neg hn, Int.toNat_natCast]
end Go.Proofs.YtallfkecjibpmaaDoor.G
set_option linter.unusedVariables false
namespace Go.Proofs.YtallfkecjibpmaaDoor.G
open Go.RowKit Go.Proofs.YtallfkecjibpmaaDoorW.PrintWords Go.Lib Go.Proofs.YtallfkecjibpmaaDoor.J
theorem text_nil : tap_isText.f (⟨#[]⟩ : ByteArray) = some true := by kernel_rfl
theorem name_nil : tap_isName.f (⟨#[]⟩ : ByteArray) = some true := by kernel_rfl
theorem cell_lt {w : World} {b o : Nat} {v : Value} (h : w.cell? ⟨b, o, none⟩ = some v) : b < w.heap.size := World.block_lt_of_cell? w _ h
structure OneTest (b : Nat) (w : World) : Prop where
  c0 : w.cell? ⟨b, 0, none⟩ = some (.bool true)
  c1 : w.cell? ⟨b, 1, none⟩ = some (.string ⟨#[]⟩)
  c2 : w.cell? ⟨b, 2, none⟩ = some (.int .i64 0)
  c3 : w.cell? ⟨b, 3, none⟩ = some (.string ⟨#[]⟩)
theorem OneTest.below {b : Nat} {w w' : World} (h : OneTest b w) (hb : Below w.heap.size w w') : OneTest b w' :=
  ⟨pw_cell_below hb h.c0, pw_cell_below hb h.c1, pw_cell_below hb h.c2, pw_cell_below hb h.c3⟩
set_option maxHeartbeats 1000000 in
set_option maxRecDepth 100000 in
theorem asked_one (b : Nat) (w : World) (hL : LaidW w) (h : OneTest b w) :
    Calls Tryd.prog 66 #[.slice (some ⟨b, 0, none⟩) 1 1] w fun e w' => e = .returned (.int .i64 0) ∧ Below w.heap.size w w' := by
  have hbl := cell_lt h.c0
  have hH := Aside0.mk h
  have hu := Tryd.underlying57
  clear h
  go_enter Tryd.func66, Tryd.ntmps66
  go_wp2
  go_loopw [10] (fun i wr => ∃ k : Nat, k ≤ 1 ∧ i = .int .i64 k ∧ Below w.heap.size w wr) (fun i _ => 1 - (Go.RowKit.intOf i).toNat)
  case atStart => exact ⟨0, by omega, rfl, Below.refl _ _⟩
  case round =>
    obtain ⟨k, hk, rfl, hb⟩ := hrel
    have hL2 := hL.below hb
    obtain ⟨c0, c1, c2, c3⟩ := hH.out.below hb
    have hsz := hb.size
    rcases (show k = 0 ∨ k = 1 by omega) with rfl | rfl
    · go_wp2_with (first | (go_at_call 81; refine (tap_isName.calls _ true _ (hL2.below ((Below.refl _ _).alloc (Nat.le_refl _) _)) name_nil).mono ?_; rintro e w1 ⟨rfl, hb1⟩; have q3 : w1.cell? ⟨wr.heap.size, 3, none⟩ = some (.string ⟨#[]⟩) := pw_cell_below hb1 (by simp)) | (go_at_call 82; refine (tap_isText.calls _ true _ (LaidW.below hL2 (((Below.refl _ _).alloc (Nat.le_refl _) _).trans (hb1.mono (by simp)))) text_nil).mono ?_; rintro e w2 ⟨rfl, hb2⟩))
      go_roundw
      case rel => exact ⟨1, by omega, rfl, (hb.trans (((Below.refl _ _).alloc (Nat.le_refl _) _).mono hsz)).trans ((hb1.trans (hb2.mono hb1.size)).mono (by simp; omega))⟩
      case measure => simp [Go.RowKit.intOf]
    · go_wp2
      go_ret
      exact ⟨rfl, hb⟩
theorem itoa_one : strconv_Itoa.f 1 = some (⟨#[49]⟩ : ByteArray) := by
  unfold strconv_Itoa.f Lib.itoa
  rw [if_pos (by omega), if_neg (by omega), show (1 : Int).toNat = 1 from rfl, dec_small (by omega)]
  rfl
def okText : ByteArray := ⟨#[49, 46, 46, 49, 10, 111, 107, 32, 49, 10]⟩
set_option maxHeartbeats 1000000 in
set_option maxRecDepth 100000 in
theorem written_one (b : Nat) (w : World) (hL : LaidW w) (h : OneTest b w) :
    Calls Tryd.prog 67 #[.slice (some ⟨b, 0, none⟩) 1 1] w fun e w' => e = .returned (.string okText) ∧ Below w.heap.size w w' := by
  have hbl := cell_lt h.c0
  have hH := Aside0.mk h
  have hu := Tryd.underlying57
  clear h
  go_enter Tryd.func67, Tryd.ntmps67
  go_wp2_with (go_at_call 61; refine (strconv_Itoa.calls 1 _ _ hL itoa_one).mono ?_; rintro e w1 ⟨rfl, hb1⟩)
  go_loopw [13, 3] (fun i s wr => ∃ k : Nat, k ≤ 1 ∧ i = .int .i64 k ∧ s = .string (if k = 0 then ⟨#[49, 46, 46, 49, 10]⟩ else okText) ∧ Below w.heap.size w wr) (fun i _ _ => 1 - (Go.RowKit.intOf i).toNat)
  case atStart => exact ⟨0, by omega, rfl, rfl, hb1⟩
  case round =>
    obtain ⟨k, hk, rfl, rfl, hb⟩ := hrel
    have hL2 := hL.below hb
    obtain ⟨c0, c1, c2, c3⟩ := hH.out.below hb
    have hsz := hb.size
    rcases (show k = 0 ∨ k = 1 by omega) with rfl | rfl
    · simp only [if_true]
      go_wp2_with (go_at_call 61; refine (strconv_Itoa.calls 1 _ _ (hL2.below ((Below.refl _ _).alloc (Nat.le_refl _) _)) itoa_one).mono ?_; rintro e w2 ⟨rfl, hb2⟩; have q1 : w2.cell? ⟨wr.heap.size, 1, none⟩ = some (.string ⟨#[]⟩) := pw_cell_below hb2 (by simp); have q2 : w2.cell? ⟨wr.heap.size, 2, none⟩ = some (.int .i64 0) := pw_cell_below hb2 (by simp); have q3 : w2.cell? ⟨wr.heap.size, 3, none⟩ = some (.string ⟨#[]⟩) := pw_cell_below hb2 (by simp))
      go_roundw
      case rel => exact ⟨1, by omega, rfl, rfl, (hb.trans (((Below.refl _ _).alloc (Nat.le_refl _) _).mono hsz)).trans (hb2.mono (by simp; omega))⟩
      case measure => simp [Go.RowKit.intOf]
    · rw [if_neg (by omega)]
      go_wp2
      go_ret
      exact ⟨rfl, hb⟩
set_option maxHeartbeats 1000000 in
set_option maxRecDepth 100000 in
theorem Write_one (b : Nat) (w : World) (hL : LaidW w) (h : OneTest b w) :
    Calls Tryd.prog 32 #[.slice (some ⟨b, 0, none⟩) 1 1] w fun e w' => e = .returned (.tuple #[.string okText, .int .i64 0]) ∧ Below w.heap.size w w' := by
  have hH := Aside0.mk h
  clear h
  go_enter Tryd.func32, Tryd.ntmps32
  go_wp2_with (first | (go_at_call 66; refine (asked_one b _ hL hH.out).mono ?_; rintro e w1 ⟨rfl, hb1⟩) | (go_at_call 67; refine (written_one b _ (hL.below hb1) (hH.out.below hb1)).mono ?_; rintro e w2 ⟨rfl, hb2⟩))
  go_ret2
  exact ⟨rfl, hb1.trans (hb2.mono hb1.size)⟩
set_option maxHeartbeats 1000000 in
set_option maxRecDepth 100000 in
theorem Easter_known (w : World) :
    Calls Tryd.prog 14 #[.int .i64 2000] w fun e w' => e = .returned (.tuple #[.int .i64 4, .int .i64 23, .int .i64 0]) ∧ w' = w := by
  go_enter Tryd.func14, Tryd.ntmps14
  go_wp2
  go_ret3
  exact ⟨rfl, rfl⟩
def motleylaw27_known.f : Option Bool := some true
set_option maxHeartbeats 1000000 in
set_option maxRecDepth 100000 in
theorem motleylaw27_known.calls (r : Bool) (w : World) (hL : LaidW w) (h : motleylaw27_known.f = some r) :
    Calls Tryd.prog 12 #[] w fun e w' => e = .returned (.bool r) ∧ Below w.heap.size w w' := by
  obtain rfl := Option.some.inj h
  have hu := Tryd.underlying57
  have hd := Aside0.mk (fun w => tap_Days.calls 2000 3 1 11017 0 w (by decide +kernel))
  go_enter Tryd.func12, Tryd.ntmps12
  go_wp2_with (first | (go_at_call 32; refine (Write_one _ _ (hL.below ((Below.refl _ _).alloc (Nat.le_refl _) _)) ⟨by simp, by simp, by simp, by simp⟩).mono ?_; rintro e w1 ⟨rfl, hb1⟩; unfold okText) | (go_at_call 11; refine (hd.out _).mono ?_; rintro e w2 ⟨rfl, hb2⟩) | (go_at_call 14; refine (Easter_known _).mono ?_; rintro e w3 ⟨rfl, rfl⟩))
  go_ret
  exact ⟨rfl, ((Below.refl _ _).alloc (Nat.le_refl _) _).trans ((hb1.trans (hb2.mono hb1.size)).mono (by simp))⟩
end Go.Proofs.YtallfkecjibpmaaDoor.G
