/- The days of the months, the number of a date, the date of a number: walked by hand. -/
import Derived.Test.YtallfkecjibpmaaGreatDoorCal
set_option linter.unusedVariables false
namespace Go.Proofs.YtallfkecjibpmaaGreatDoor.G
open Go.RowKit Go.Proofs.YtallfkecjibpmaaGreatDoorW.PrintWords Go.Proofs.YtallfkecjibpmaaGreatDoor.K Go.Proofs.YtallfkecjibpmaaGreatDoor.Cal

def lensA (b : Int) : Array Value := #[.int .i64 31, .int .i64 b, .int .i64 31, .int .i64 30, .int .i64 31, .int .i64 30, .int .i64 31, .int .i64 31, .int .i64 30, .int .i64 31, .int .i64 30, .int .i64 31]
def feb (l : Bool) : Int := if l then 29 else 28
set_option maxHeartbeats 400000 in
set_option maxRecDepth 100000 in
theorem lengths_any (y : Int) (l : Bool) (w : World) (h : tap_isLeap.f y = some l) :
    Calls Tryz.prog 40 #[.int .i64 y] w fun e w' => e = .returned (.agg (lensA (feb l))) ∧ Below w.heap.size w w' := by
  have hu := Tryz.underlying81
  cases l
  all_goals
    go_enter Tryz.func40, Tryz.ntmps40
    go_wp2_with (go_at_call 61; refine (tap_isLeap.calls y _ _ h).mono ?_; rintro e w' ⟨rfl, ⟨nd, rfl⟩⟩)
    refine bodyPost_ret (v := .agg (lensA _)) (by simp [results, Tryz.results40, go_sem, lensA, feb]) rfl ⟨rfl, ?_⟩
    repeat refine Below.setCell ?_ (by simp) _
    refine pw_below_drewN ?_ _
    repeat refine Below.setCell ?_ (by simp) _
    exact ((Below.refl _ w).alloc (Nat.le_refl _) _).alloc (by simp) _
theorem twelve {m : Int} (h1 : 1 ≤ m) (h2 : m ≤ 12) : m = 1 ∨ m = 2 ∨ m = 3 ∨ m = 4 ∨ m = 5 ∨ m = 6 ∨ m = 7 ∨ m = 8 ∨ m = 9 ∨ m = 10 ∨ m = 11 ∨ m = 12 := by omega
def tap_lengthOf.f (a0 a1 : Int) : Option Int := if 1 ≤ a0 ∧ 1 ≤ a1 ∧ a1 ≤ 12 then some (len a0 a1) else none
set_option maxHeartbeats 4000000 in
set_option maxRecDepth 100000 in
theorem tap_lengthOf.calls (a0 a1 : Int) (r : Int) (w : World) (h : tap_lengthOf.f a0 a1 = some r) :
    Calls Tryz.prog 37 #[.int .i64 a0, .int .i64 a1] w fun e w' => e = .returned (.int .i64 r) ∧ Below w.heap.size w w' := by
  unfold tap_lengthOf.f at h
  split at h
  case isFalse => cases h
  case isTrue hs =>
  obtain ⟨hy, h1, h2⟩ := hs
  obtain rfl := Option.some.inj h
  clear h
  have hL := Aside0.mk (fun w => lengths_any a0 (leap a0) w (isLeap_eq a0 hy))
  obtain ⟨b, hb⟩ : ∃ b, b = feb (leap a0) := ⟨_, rfl⟩
  have hB : len a0 2 = b := by rw [hb]; unfold len feb; simp
  rw [← hb] at hL
  have hlen : Aside0 (∀ m, m ≠ 2 → len a0 m = if m = 4 ∨ m = 6 ∨ m = 9 ∨ m = 11 then 30 else 31) := ⟨fun m hm => by unfold len; rw [if_neg hm]⟩
  have hB := Aside0.mk hB
  clear hb
  rcases twelve h1 h2 with rfl | rfl | rfl | rfl | rfl | rfl | rfl | rfl | rfl | rfl | rfl | rfl
  all_goals
    clear h1 h2
    first | rw [hB.out] | rw [hlen.out _ (by decide)]
    go_enter Tryz.func37, Tryz.ntmps37
    go_wp2_with (go_at_call 40; refine (hL.out _).mono ?_; rintro e w1 ⟨rfl, hb1⟩; unfold lensA)
    go_ret
    exact ⟨rfl, hb1.alloc hb1.size _⟩

def tap_Days.f (a0 a1 a2 : Int) : Option (Int × Int) := if 1 ≤ a0 ∧ a0 ≤ 9999 ∧ 1 ≤ a1 ∧ a1 ≤ 12 ∧ 1 ≤ a2 ∧ a2 ≤ len a0 a1 then some (bef a0 + mon a0 a1 + a2 - 1 - 719162, 0) else some (0, 1)
theorem dayLen (a0 a1 : Int) : ∃ x, len a0 a1 = x := ⟨_, rfl⟩
set_option maxHeartbeats 4000000 in
set_option maxRecDepth 100000 in
theorem Days_bad (a0 a1 a2 : Int) (w : World) (h : ¬ (1 ≤ a0 ∧ a0 ≤ 9999 ∧ 1 ≤ a1 ∧ a1 ≤ 12 ∧ 1 ≤ a2 ∧ a2 ≤ len a0 a1)) :
    Calls Tryz.prog 21 #[.int .i64 a0, .int .i64 a1, .int .i64 a2] w fun e w' => e = .returned (.tuple #[.int .i64 0, .int .i64 1]) ∧ Below w.heap.size w w' := by
  have HB := Below.refl w.heap.size w
  by_cases c1 : a0 < 1
  · have d1 := decide_eq_true c1
    clear h c1
    go_enter Tryz.func21, Tryz.ntmps21
    go_wp2
    go_ret2
    exact ⟨rfl, HB⟩
  have d1 := decide_eq_false c1
  by_cases c2 : 9999 < a0
  · have d2 := decide_eq_true c2
    clear h c1 c2
    go_enter Tryz.func21, Tryz.ntmps21
    go_wp2
    go_ret2
    exact ⟨rfl, HB⟩
  have d2 := decide_eq_false c2
  by_cases c3 : a1 < 1
  · have d3 := decide_eq_true c3
    clear h c1 c2 c3
    go_enter Tryz.func21, Tryz.ntmps21
    go_wp2
    go_ret2
    exact ⟨rfl, HB⟩
  have d3 := decide_eq_false c3
  by_cases c4 : 12 < a1
  · have d4 := decide_eq_true c4
    clear h c1 c2 c3 c4
    go_enter Tryz.func21, Tryz.ntmps21
    go_wp2
    go_ret2
    exact ⟨rfl, HB⟩
  have d4 := decide_eq_false c4
  by_cases c5 : a2 < 1
  · have d5 := decide_eq_true c5
    clear h c1 c2 c3 c4 c5
    go_enter Tryz.func21, Tryz.ntmps21
    go_wp2
    go_ret2
    exact ⟨rfl, HB⟩
  have d5 := decide_eq_false c5
  have hc := Aside0.mk (fun w => tap_lengthOf.calls a0 a1 (len a0 a1) w (by unfold tap_lengthOf.f; rw [if_pos (by omega)]))
  have c6 : len a0 a1 < a2 := by omega
  obtain ⟨x, hx⟩ := dayLen a0 a1
  rw [hx] at hc c6
  have d6 := decide_eq_true c6
  clear h hx c1 c2 c3 c4 c5 c6
  go_enter Tryz.func21, Tryz.ntmps21
  go_wp2_with (go_at_call 37; refine (hc.out _).mono ?_; rintro e w1 ⟨rfl, hb1⟩)
  go_ret2
  exact ⟨rfl, hb1⟩
theorem ret_2i {k l : IntKind} {a b c : Int} (h : a = b) : Ending.returned (.tuple #[.int k a, .int l c]) = .returned (.tuple #[.int k b, .int l c]) := by rw [h]
theorem run_head (b M : Nat) (h : M ≤ 12) (w : World) : (Instr.sliceAt 81 (.pointer (some ⟨b, 0, none⟩)) none (some (.int .i64 (M : Int))) none).run Tryz.prog w = .ok (.slice (some ⟨b, 0, none⟩) M 12) w := by
  have hl : Tryz.prog.arrayLen 81 = 12 := by kernel_rfl
  have he : Tryz.prog.elem 81 = 3 := by kernel_rfl
  obtain ⟨i0, hi, hz0, hz1, hz2⟩ := info_parts (show (Tryz.prog.info? 3).map (fun i => (i.zero, i.size, i.bytes)) = some (some (.int .i64 0), 1, 8) by kernel_rfl)
  rw [run_sliceAt_array_h w 81 ⟨b, 0, none⟩ (by rw [hl, he]; exact Tryz.underlying81) .i64 (M : Int) (by omega) (by rw [hl]; omega), he, hl]
  simp [sizeOf, typeInfo, hi, slicedAt, Result.andThen, Addr.add]
set_option maxHeartbeats 4000000 in
set_option maxRecDepth 100000 in
theorem Days_good (a0 a1 a2 : Int) (w : World) (h : 1 ≤ a0 ∧ a0 ≤ 9999 ∧ 1 ≤ a1 ∧ a1 ≤ 12 ∧ 1 ≤ a2 ∧ a2 ≤ len a0 a1) :
    Calls Tryz.prog 21 #[.int .i64 a0, .int .i64 a1, .int .i64 a2] w fun e w' => e = .returned (.tuple #[.int .i64 (bef a0 + mon a0 a1 + a2 - 1 - 719162), .int .i64 0]) ∧ Below w.heap.size w w' := by
  obtain ⟨h1, h2, h3, h4, h5, h6⟩ := h
  have d1 := decide_eq_false (show ¬ a0 < 1 by omega)
  have d2 := decide_eq_false (show ¬ 9999 < a0 by omega)
  have d3 := decide_eq_false (show ¬ a1 < 1 by omega)
  have d4 := decide_eq_false (show ¬ 12 < a1 by omega)
  have d5 := decide_eq_false (show ¬ a2 < 1 by omega)
  have hc := Aside0.mk (fun w => tap_lengthOf.calls a0 a1 (len a0 a1) w (by unfold tap_lengthOf.f; rw [if_pos (by omega)]))
  have hL := Aside0.mk (fun w => lengths_any a0 (leap a0) w (isLeap_eq a0 h1))
  have hbf := Aside0.mk (fun w => tap_before.calls a0 (bef a0) w (before_eq a0 (by omega) (by omega)))
  have hep := Aside0.mk (fun w => tap_epoch.calls 719162 w epoch_eq)
  have hl31 := len_pos a0 a1
  have hbb : 0 ≤ bef a0 ∧ bef a0 ≤ 3651694 := by unfold bef; omega
  have hmm : ∀ m, 1 ≤ m → m ≤ 12 → 0 ≤ mon a0 m ∧ mon a0 m ≤ 366 := fun m x y => by
    have q1 := mon_le a0 1 m (by omega) (by omega) (by omega)
    have q2 := mon_le a0 m 13 (by omega) (by omega) (by omega)
    have q3 := mon_all a0
    rw [mon_one] at q1
    omega
  have hmm := Aside0.mk hmm
  have hnx := Aside0.mk (mon_next a0)
  have hl0 : Aside0 (feb (leap a0) = len a0 2) := ⟨by unfold len feb; simp⟩
  have hlen : Aside0 (∀ m, m ≠ 2 → len a0 m = if m = 4 ∨ m = 6 ∨ m = 9 ∨ m = 11 then 30 else 31) := ⟨fun m hm => by unfold len; rw [if_neg hm]⟩
  have hlp := Aside0.mk (fun m => len_pos a0 m)
  have hm0 := Aside0.mk (mon_one a0)
  rw [hl0.out] at hL
  generalize hB : bef a0 = B at *
  obtain ⟨x, hx⟩ := dayLen a0 a1
  rw [hx] at hc h6 hl31
  have d6 := decide_eq_false (show ¬ x < a2 by omega)
  clear hx hB
  obtain ⟨M, rfl⟩ : ∃ M : Nat, a1 = (M : Int) + 1 := ⟨(a1 - 1).toNat, by omega⟩
  go_enter Tryz.func21, Tryz.ntmps21
  go_wp2_with (first | (go_at_call 37; refine (hc.out _).mono ?_; rintro e w1 ⟨rfl, hb1⟩) | (go_at_call 38; refine (hbf.out _).mono ?_; rintro e w' ⟨rfl, ⟨nd, rfl⟩⟩) | (go_at_call 39; refine (hep.out _).mono ?_; rintro e w' ⟨rfl, ⟨nd2, rfl⟩⟩) | (go_at_call 40; refine (hL.out _).mono ?_; rintro e w2 ⟨rfl, hb2⟩; unfold lensA))
  rw [run_head w2.heap.size M (by omega)]
  simp only [Result.andThen]
  rw [Oper.upon_value]
  go_wp2
  obtain ⟨W, hW⟩ : ∃ W : World, W = w2.alloc (.cells #[.int .i64 31, .int .i64 (len a0 2), .int .i64 31, .int .i64 30, .int .i64 31, .int .i64 30, .int .i64 31, .int .i64 31, .int .i64 30, .int .i64 31, .int .i64 30, .int .i64 31] 81) := ⟨_, rfl⟩
  rw [← hW]
  have hbW : Below w.heap.size w W := by rw [hW]; exact ((pw_below_drewN hb1 _).trans (hb2.mono (by have := hb1.size; simp; omega))).alloc (by have := hb1.size; have := hb2.size; simp at this; omega) _
  have hcells : Aside0 (∀ k : Nat, k < 11 → W.cell? ⟨w2.heap.size, k, none⟩ = some (.int .i64 (len a0 ((k : Int) + 1)))) := ⟨fun k hk => by
    rw [hW]
    have : k = 0 ∨ k = 1 ∨ k = 2 ∨ k = 3 ∨ k = 4 ∨ k = 5 ∨ k = 6 ∨ k = 7 ∨ k = 8 ∨ k = 9 ∨ k = 10 := by omega
    rcases this with rfl | rfl | rfl | rfl | rfl | rfl | rfl | rfl | rfl | rfl | rfl
    all_goals first | (simp; done) | (simp; rw [hlen.out _ (by decide)]; simp; done) | (simp; rw [hlen.out _ (by decide)]; rfl)⟩
  clear hW
  generalize w2.heap.size = g at *
  go_loop [8, 50] (fun n i => ∃ k : Nat, k ≤ M ∧ i = .int .i64 k ∧ n = .int .i64 (B - 719162 + a2 - 1 + mon a0 ((k : Int) + 1))) (fun _ i => M - (intOf i).toNat)
  case atStart => exact ⟨0, by omega, rfl, by rw [show ((0 : Nat) : Int) + 1 = 1 from rfl, hm0.out, Int.add_zero]⟩
  case round =>
    obtain ⟨k, hk, rfl, rfl⟩ := hrel
    by_cases hlt : k < M
    · have hc := hcells.out k (by omega)
      have h9 := hmm.out ((k : Int) + 1) (by omega) (by omega)
      have h8 := hlp.out ((k : Int) + 1)
      have hn := Aside0.mk (hnx.out ((k : Int) + 1) (by omega) (by omega))
      generalize mon a0 ((k : Int) + 1) = z at *
      generalize len a0 ((k : Int) + 1) = v at *
      go_wp2
      go_round
      case rel => exact ⟨k + 1, by omega, by go_num, by rw [show ((k + 1 : Nat) : Int) + 1 = (k : Int) + 1 + 1 by omega, hn.out, Int.add_assoc]⟩
      case measure => simp [intOf]; omega
    · obtain rfl : k = M := by omega
      have h9 := hmm.out ((k : Int) + 1) (by omega) (by omega)
      go_wp2
      go_ret2
      exact ⟨ret_2i (by omega), hbW⟩
theorem tap_Days.calls (a0 a1 a2 : Int) (r1 r2 : Int) (w : World) (h : tap_Days.f a0 a1 a2 = some (r1, r2)) :
    Calls Tryz.prog 21 #[.int .i64 a0, .int .i64 a1, .int .i64 a2] w fun e w' => e = .returned (.tuple #[.int .i64 r1, .int .i64 r2]) ∧ Below w.heap.size w w' := by
  unfold tap_Days.f at h
  split at h
  case isTrue hs =>
    simp only [Option.some.injEq, Prod.mk.injEq] at h
    obtain ⟨rfl, rfl⟩ := h
    exact Days_good a0 a1 a2 w hs
  case isFalse hs =>
    simp only [Option.some.injEq, Prod.mk.injEq] at h
    obtain ⟨rfl, rfl⟩ := h
    exact Days_bad a0 a1 a2 w hs
end Go.Proofs.YtallfkecjibpmaaGreatDoor.G
