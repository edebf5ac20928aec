/- The date of a number: walked by hand. -/
import Derived.Test.YtallfkecjibpmaaGreatDoorLen
set_option linter.unusedVariables false
namespace Go.Proofs.YtallfkecjibpmaaGreatDoor.G
open Go.RowKit Go.Proofs.YtallfkecjibpmaaGreatDoorW.PrintWords Go.Proofs.YtallfkecjibpmaaGreatDoor.K Go.Proofs.YtallfkecjibpmaaGreatDoor.Cal

def tap_Date.f (a0 : Int) : Option (Int × Int × Int × Int) := if -719162 ≤ a0 ∧ a0 < 2932897 then some ((dateOf (a0 + 719162)).1, (dateOf (a0 + 719162)).2.1, (dateOf (a0 + 719162)).2.2, 0) else some (0, 0, 0, 1)
theorem idx12 (b : Int) (k : Nat) (v : Int) (hk : k < 12) (hv : (lensA b)[k]? = some (.int .i64 v)) (w : World) :
    (Instr.index 81 (.agg #[.int .i64 31, .int .i64 b, .int .i64 31, .int .i64 30, .int .i64 31, .int .i64 30, .int .i64 31, .int .i64 31, .int .i64 30, .int .i64 31, .int .i64 30, .int .i64 31]) (.int .i64 (k : Int))).run Tryz.prog w = .ok (.int .i64 v) w := by
  have : k = 0 ∨ k = 1 ∨ k = 2 ∨ k = 3 ∨ k = 4 ∨ k = 5 ∨ k = 6 ∨ k = 7 ∨ k = 8 ∨ k = 9 ∨ k = 10 ∨ k = 11 := by omega
  rcases this with rfl | rfl | rfl | rfl | rfl | rfl | rfl | rfl | rfl | rfl | rfl | rfl
  all_goals
    simp [lensA] at hv
    subst hv
    have hl : Tryz.prog.arrayLen 81 = 12 := by kernel_rfl
    simp [Instr.index, run_underlying Tryz.underlying81, go_sem]
theorem lens_at (y : Int) (k : Nat) (hk : k < 12) : (lensA (len y 2))[k]? = some (.int .i64 (len y ((k : Int) + 1))) := by
  have hlen : ∀ m, m ≠ 2 → len y m = if m = 4 ∨ m = 6 ∨ m = 9 ∨ m = 11 then 30 else 31 := fun m hm => by unfold len; rw [if_neg hm]
  have : k = 0 ∨ k = 1 ∨ k = 2 ∨ k = 3 ∨ k = 4 ∨ k = 5 ∨ k = 6 ∨ k = 7 ∨ k = 8 ∨ k = 9 ∨ k = 10 ∨ k = 11 := by omega
  rcases this with rfl | rfl | rfl | rfl | rfl | rfl | rfl | rfl | rfl | rfl | rfl | rfl
  all_goals first | (simp [lensA]; done) | (simp [lensA]; rw [hlen _ (by decide)]; simp; done) | (simp [lensA]; rw [hlen _ (by decide)]; rfl)
theorem ret_4i {a b c x y z d : Int} (h1 : a = x) (h2 : b = y) (h3 : c = z) : Ending.returned (.tuple #[.int .i64 a, .int .i64 b, .int .i64 c, .int .i64 d]) = .returned (.tuple #[.int .i64 x, .int .i64 y, .int .i64 z, .int .i64 d]) := by rw [h1, h2, h3]
set_option maxHeartbeats 4000000 in
set_option maxRecDepth 100000 in
theorem Date_bad (a0 : Int) (w : World) (h : ¬ (-719162 ≤ a0 ∧ a0 < 2932897)) :
    Calls Tryz.prog 32 #[.int .i64 a0] w fun e w' => e = .returned (.tuple #[.int .i64 0, .int .i64 0, .int .i64 0, .int .i64 1]) ∧ Below w.heap.size w w' := by
  have hiy := Aside0.mk (fun w => tap_inYears.calls a0 false w (by rw [inYears_eq, decide_eq_false h]))
  clear h
  go_enter Tryz.func32, Tryz.ntmps32
  go_wp2_with (go_at_call 56; refine (hiy.out _).mono ?_; rintro e w' ⟨rfl, ⟨nd, rfl⟩⟩)
  refine bodyPost_ret (v := .tuple #[.int .i64 0, .int .i64 0, .int .i64 0, .int .i64 1]) (by simp [results, Tryz.results32, go_sem]) rfl ⟨rfl, ?_⟩
  exact pw_below_drewN (Below.refl _ _) _
set_option maxHeartbeats 4000000 in
set_option maxRecDepth 100000 in
theorem Date_good (a0 : Int) (w : World) (h0 : -719162 ≤ a0) (h1 : a0 < 2932897) :
    Calls Tryz.prog 32 #[.int .i64 a0] w fun e w' => e = .returned (.tuple #[.int .i64 (dateOf (a0 + 719162)).1, .int .i64 (dateOf (a0 + 719162)).2.1, .int .i64 (dateOf (a0 + 719162)).2.2, .int .i64 0]) ∧ Below w.heap.size w w' := by
  have hiy := Aside0.mk (fun w => tap_inYears.calls a0 true w (by rw [inYears_eq, decide_eq_true ⟨h0, h1⟩]))
  have hep := Aside0.mk (fun w => tap_epoch.calls 719162 w epoch_eq)
  have hdt := Aside0.mk (fun y m d (h : IsDate (a0 + 719162) y m d) => dateOf_eq (by omega) (by omega) h)
  generalize dateOf (a0 + 719162) = D at *
  have hbf := Aside0.mk (fun y (h1 : 1 ≤ y) (h2 : y ≤ 10000) w => tap_before.calls y (bef y) w (before_eq y (by omega) (by omega)))
  have hq : (a0 + 719162) / 366 ≤ 9978 := by omega
  have hq0 : 0 ≤ (a0 + 719162) / 366 := by omega
  have hb0 : bef ((a0 + 719162) / 366 + 1) ≤ a0 + 719162 := by unfold bef; omega
  have hbe : bef 10000 = 3652059 := by decide
  have hbe := Aside0.mk hbe
  have hn0 : 0 ≤ a0 + 719162 := by omega
  go_enter Tryz.func32, Tryz.ntmps32
  go_wp2_with (first | (go_at_call 56; refine (hiy.out _).mono ?_; rintro e w' ⟨rfl, ⟨nd, rfl⟩⟩) | (go_at_call 39; refine (hep.out _).mono ?_; rintro e w' ⟨rfl, ⟨nd2, rfl⟩⟩))
  have hD := Aside0.mk (Below.refl w.heap.size w)
  have hpb := Aside0.mk (fun y (x : 1 ≤ y) => bef_next y x)
  have hbn := Aside0.mk (fun y (x1 : 1 ≤ y) (x2 : y ≤ 10000) => (show 0 ≤ bef y ∧ bef y ≤ 3652059 by unfold bef; omega))
  generalize hN : a0 + 719162 = N at *
  have hN2 : N < 3652059 := by omega
  have hq1 : 1 ≤ N / 366 + 1 := by omega
  have hq2 : N / 366 + 1 ≤ 9999 := by omega
  generalize N / 366 + 1 = y0 at *
  go_loopw [7] (fun v wr => ∃ (y : Int) (m : Nat), v = .int .i64 y ∧ wr = w.drewN m ∧ 1 ≤ y ∧ y ≤ 9999 ∧ bef y ≤ N) (fun v _ => (10000 - intOf v).toNat)
  case atStart => exact ⟨y0, _, rfl, rfl, hq1, hq2, hb0⟩
  case round =>
    obtain ⟨y, m, rfl, rfl, hy1, hy2, hyN⟩ := hrel
    have hc := Aside0.mk (hbf.out (y + 1) (by omega) (by omega))
    have hbd := hbn.out (y + 1) (by omega) (by omega)
    by_cases hlt : bef (y + 1) ≤ N
    · have hy3 : y + 1 ≤ 9999 := by
        rcases Int.lt_or_le y 9999 with h | h
        · omega
        · obtain rfl : y = 9999 := by omega
          have := hbe.out
          rw [show (9999 : Int) + 1 = 10000 from rfl] at hlt
          omega
      have hlt2 := Aside0.mk hlt
      generalize bef (y + 1) = z at hc hlt hbd
      go_wp2_with (go_at_call 38; refine (hc.out _).mono ?_; rintro e w' ⟨rfl, ⟨nd3, rfl⟩⟩)
      go_roundw
      case rel => exact ⟨y + 1, _, rfl, by first | rfl | rw [World.drewN_drewN], by omega, by omega, hlt2.out⟩
      case measure => simp [intOf]; omega
    · have hbd2 := hbn.out y (by omega) (by omega)
      have hc2 := Aside0.mk (hbf.out y (by omega) (by omega))
      have hnx := Aside0.mk (hpb.out y hy1)
      have hlt2 := Aside0.mk (show N < bef (y + 1) by omega)
      have hL := Aside0.mk (fun w => lengths_any y (leap y) w (isLeap_eq y hy1))
      have hl0 : Aside0 (feb (leap y) = len y 2) := ⟨by unfold len feb; simp⟩
      rw [hl0.out] at hL
      have hR := Aside0.mk (show N - bef y < mon y 13 by have := hnx.out; have := hlt2.out; omega)
      have hR0 : 0 ≤ N - bef y := by omega
      have hdte := Aside0.mk (fun (mm dd : Int) (a1 : 1 ≤ mm) (a2 : mm ≤ 12) (a3 : 1 ≤ dd) (a4 : dd ≤ len y mm) (a5 : bef y + mon y mm + dd - 1 = N) => hdt.out y mm dd ⟨hy1, a1, a2, a3, a4, a5⟩)
      generalize bef (y + 1) = z at hc hlt hbd
      clear hnx hlt2
      generalize hby : bef y = by_ at *
      clear hby
      go_wp2_with (first | (go_at_call 38; first | ((with_reducible refine (hc.out _).mono ?_); rintro e w' ⟨rfl, ⟨nd3, rfl⟩⟩) | ((with_reducible refine (hc2.out _).mono ?_); rintro e w' ⟨rfl, ⟨nd4, rfl⟩⟩)) | (go_at_call 40; refine (hL.out _).mono ?_; rintro e w2 ⟨rfl, hb2⟩; unfold lensA))
      have hm0 := Aside0.mk (mon_one y)
      have hmx := Aside0.mk (mon_next y)
      have hmn := Aside0.mk (fun (k : Nat) (a : k ≤ 12) => (show 0 ≤ mon y ((k : Int) + 1) ∧ mon y ((k : Int) + 1) ≤ 366 from by
        have q1 := mon_le y 1 ((k : Int) + 1) (by omega) (by omega) (by omega)
        have q2 := mon_le y ((k : Int) + 1) 13 (by omega) (by omega) (by omega)
        have q3 := mon_all y
        rw [mon_one] at q1
        omega))
      have hlp := Aside0.mk (fun m => len_pos y m)
      have hix := Aside0.mk (fun k (hk : k < 12) w => idx12 (len y 2) k _ hk (lens_at y k hk) w)
      obtain ⟨W, hW⟩ : ∃ W : World, W = w2 := ⟨_, rfl⟩
      rw [← hW]
      have hbW : Below w.heap.size w W := by rw [hW]; exact (pw_below_drewN (Below.refl _ _) _).trans hb2
      clear hW
      go_loop [33, 6, 8] (fun i n m => ∃ k : Nat, k ≤ 12 ∧ i = .int .i64 k ∧ n = .int .i64 (N - by_ - mon y ((k : Int) + 1)) ∧ m = .int .i64 ((k : Int) + 1) ∧ 0 ≤ N - by_ - mon y ((k : Int) + 1)) (fun i _ _ => 12 - (intOf i).toNat)
      case atStart => exact ⟨0, by omega, rfl, by rw [show ((0 : Nat) : Int) + 1 = 1 from rfl, hm0.out, Int.sub_zero], rfl, by rw [show ((0 : Nat) : Int) + 1 = 1 from rfl, hm0.out, Int.sub_zero]; exact hR0⟩
      case round =>
        obtain ⟨k, hk, rfl, rfl, rfl, hr⟩ := hrel
        have hk2 : k < 12 := by
          rcases Nat.lt_or_ge k 12 with h | h
          · exact h
          · obtain rfl : k = 12 := by omega
            have := hR.out
            rw [show ((12 : Nat) : Int) + 1 = 13 from rfl] at hr
            omega
        have hi := hix.out k hk2
        have hmb := hmn.out k hk
        have hnx := Aside0.mk (hmx.out ((k : Int) + 1) (by omega) (by omega))
        have hld := hlp.out ((k : Int) + 1)
        have hdx := Aside0.mk (hdte.out ((k : Int) + 1) (N - by_ - mon y ((k : Int) + 1) + 1) (by omega) (by omega) (by omega))
        by_cases hlt3 : N - by_ - mon y ((k : Int) + 1) < len y ((k : Int) + 1)
        · have hdd := Aside0.mk (hdx.out (by omega) (by omega))
          generalize mon y ((k : Int) + 1) = z1 at *
          generalize len y ((k : Int) + 1) = v1 at *
          go_wp2
          refine bodyPost_ret (v := .tuple #[.int .i64 y, .int .i64 ((k : Int) + 1), .int .i64 (N - by_ - z1 + 1), .int .i64 0]) (by simp [results, Tryz.results32, go_sem]) rfl ⟨?_, hbW⟩
          rw [hdd.out]
        · have hnx2 := Aside0.mk (show 0 ≤ N - by_ - mon y (((k + 1 : Nat) : Int) + 1) by have := hnx.out; rw [show ((k + 1 : Nat) : Int) + 1 = (k : Int) + 1 + 1 by omega]; omega)
          have hnx3 := Aside0.mk (show N - by_ - mon y (((k + 1 : Nat) : Int) + 1) = N - by_ - mon y ((k : Int) + 1) - len y ((k : Int) + 1) by have := hnx.out; rw [show ((k + 1 : Nat) : Int) + 1 = (k : Int) + 1 + 1 by omega]; omega)
          generalize mon y ((k : Int) + 1) = z1 at *
          generalize len y ((k : Int) + 1) = v1 at *
          go_wp2
          go_round
          case rel => exact ⟨k + 1, by omega, by go_num, by rw [hnx3.out], by go_num, hnx2.out⟩
          case measure => simp [intOf]; omega
theorem tap_Date.calls (a0 : Int) (r1 r2 r3 r4 : Int) (w : World) (h : tap_Date.f a0 = some (r1, r2, r3, r4)) :
    Calls Tryz.prog 32 #[.int .i64 a0] w fun e w' => e = .returned (.tuple #[.int .i64 r1, .int .i64 r2, .int .i64 r3, .int .i64 r4]) ∧ Below w.heap.size w w' := by
  unfold tap_Date.f at h
  split at h
  case isTrue hs =>
    simp only [Option.some.injEq, Prod.mk.injEq] at h
    obtain ⟨rfl, rfl, rfl, rfl⟩ := h
    exact Date_good a0 w hs.1 hs.2
  case isFalse hs =>
    simp only [Option.some.injEq, Prod.mk.injEq] at h
    obtain ⟨rfl, rfl, rfl, rfl⟩ := h
    exact Date_bad a0 w hs
end Go.Proofs.YtallfkecjibpmaaGreatDoor.G
