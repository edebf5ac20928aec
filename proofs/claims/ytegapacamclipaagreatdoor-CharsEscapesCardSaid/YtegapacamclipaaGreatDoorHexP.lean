/- strconv.ParseInt at base 16, for one to six hexadecimal digits: walked by hand. -/
import Derived.Test.YtegapacamclipaaGreatDoorHexF
set_option linter.unusedVariables false
set_option linter.unusedSimpArgs false
namespace Go.Proofs.YtegapacamclipaaGreatDoor.G
open Go.RowKit Go.Proofs.YtegapacamclipaaGreatDoorW.PrintWords
/-- A hexadecimal digit, and its value. -/
def isH (c : UInt8) : Bool := (decide (48 ≤ c.toNat) && decide (c.toNat ≤ 57)) || ((decide (97 ≤ c.toNat) && decide (c.toNat ≤ 102)) || (decide (65 ≤ c.toNat) && decide (c.toNat ≤ 70)))
def hv (c : UInt8) : Nat := if c.toNat ≤ 57 then c.toNat - 48 else if c.toNat ≤ 70 then c.toNat - 55 else c.toNat - 87
def hval (l : List UInt8) (a : Nat) : Nat := l.foldl (fun a c => a * 16 + hv c) a
theorem or32 : ∀ n : Fin 103, 65 ≤ n.1 → (n.1 ≤ 70 → bits .or .u8 (n.1 : Int) 32 = (n.1 : Int) + 32) ∧ (97 ≤ n.1 → bits .or .u8 (n.1 : Int) 32 = (n.1 : Int)) := by decide +kernel
theorem lower_up (c : Nat) (h1 : 65 ≤ c) (h2 : c ≤ 70) (w : World) : Calls Tryz.prog 94 #[.int .u8 c] w fun e w' => e = .returned (.int .u8 ((c : Int) + 32)) ∧ w' = w := by
  have e1 := (or32 ⟨c, by omega⟩ h1).1 h2
  simp only at e1
  go_enter Tryz.func94, Tryz.ntmps94
  go_wp2
  go_ret
  exact ⟨rfl, rfl⟩
theorem lower_lo (c : Nat) (h1 : 97 ≤ c) (h2 : c ≤ 102) (w : World) : Calls Tryz.prog 94 #[.int .u8 c] w fun e w' => e = .returned (.int .u8 (c : Int)) ∧ w' = w := by
  have e1 := (or32 ⟨c, by omega⟩ (by show 65 ≤ c; omega)).2 h1
  simp only at e1
  go_enter Tryz.func94, Tryz.ntmps94
  go_wp2
  go_ret
  exact ⟨rfl, rfl⟩
def mkB (l : List UInt8) : ByteArray := ⟨l.toArray⟩
theorem mkB_size (l : List UInt8) : (mkB l).size = l.length := by simp [mkB, ByteArray.size]
theorem mkB_list (l : List UInt8) : (mkB l).data.toList = l := by simp [mkB]
theorem pow_le (i : Nat) (h : i ≤ 5) (n : Nat) (hn : n < 16 ^ i) : n < 1048576 :=
  Nat.lt_of_lt_of_le hn (Nat.le_trans (Nat.pow_le_pow_right (by decide) h) (by decide))
set_option maxHeartbeats 8000000 in
set_option maxRecDepth 100000 in
theorem parseU16 (ds : List UInt8) (h0 : 0 < ds.length) (h6 : ds.length ≤ 6) (hd : ∀ c ∈ ds, isH c = true) (w : World) :
    Calls Tryz.prog 83 #[.string (mkB ds), .int .i64 16, .int .i64 32] w fun e w' => e = .returned (.tuple #[.int .u64 (hval ds 0 : Int), .nilIface]) ∧ Below w.heap.size w w' := by
  have hne : ((mkB ds).toList == ([] : List UInt8)) = false := by
    rw [ByteArray.toList_eq, mkB_list]
    cases ds with
    | nil => exact absurd h0 (by simp)
    | cons a b => rfl
  have hne2 : (mkB ds).toList.isEmpty = false := by
    rw [ByteArray.toList_eq, mkB_list]
    cases ds with
    | nil => exact absurd h0 (by simp)
    | cons a b => rfl
  have hne3 : ((mkB ds).toList = []) = False := eq_false (fun h => by rw [h] at hne2; exact absurd hne2 (by simp))
  have hdA := Aside0.mk hd
  have hsz := mkB_size ds
  have hcl := Aside0.mk (fun j (hj : j < ds.length) => (show (Lib.bytesWorld w 5 (mkB ds)).cell? ⟨w.heap.size, j, none⟩ = some (.int .u8 ((ds.getD j 0).toNat : Int)) by
    have := Lib.bytesWorld_cell w 5 (mkB ds) j (by rw [mkB_size]; exact hj)
    rw [mkB_list] at this
    exact this))
  have hbw := Aside0.mk (bytes_below (Below.refl w.heap.size w) (Nat.le_refl _) 5 (mkB ds))
  have kb := fun W => print_bytes (P := Tryz.prog) 9 32 5 Tryz.underlying9 Tryz.underlying32 Tryz.underlying5 (mkB ds) W
  rw [hsz] at kb
  clear hd hsz
  go_enter Tryz.func83, Tryz.ntmps83
  go_wp2
  go_loop [12, 13, 101] (fun bv nv iv => ∃ (i n : Nat), bv = .bool false ∧ nv = .int .u64 n ∧ iv = .int .i64 i ∧ i ≤ ds.length ∧ Aside0 (n < 16 ^ i) ∧ Aside0 (hval (ds.drop i) n = hval ds 0)) (fun _ _ iv => ds.length - (Go.RowKit.intOf iv).toNat)
  case atStart => exact ⟨0, 0, rfl, rfl, rfl, by omega, ⟨by simp⟩, ⟨rfl⟩⟩
  case round =>
    obtain ⟨i, n, rfl, rfl, rfl, hi, hn, hh⟩ := hrel
    by_cases hlt : i < ds.length
    · have hc := hcl.out i hlt
      have hg : ds.getD i 0 = ds[i] := by simp [List.getD_eq_getElem?_getD, hlt]
      rw [hg] at hc
      have hdr := Aside0.mk (List.drop_eq_getElem_cons hlt)
      have hx := Aside0.mk (hdA.out ds[i] (List.getElem_mem hlt))
      clear hg kb
      generalize ds[i] = c at *
      have hp := Aside0.mk (pow_le i (by omega) n hn.out)
      have hcA := Aside0.mk hc
      have hltA := Aside0.mk hlt
      clear hi
      go_upto_block 5 with (fail)
      go_cut [12, 16] (fun v12 v wc => v12 = .bool false ∧ v = .int .u8 (hv c : Int) ∧ wc = Lib.bytesWorld w 5 (mkB ds))
      case first =>
        have h3 : (48 ≤ c.toNat ∧ c.toNat ≤ 57) ∨ (65 ≤ c.toNat ∧ c.toNat ≤ 70) ∨ (97 ≤ c.toNat ∧ c.toNat ≤ 102) := by
          have := hx.out
          simp only [isH, Bool.or_eq_true, Bool.and_eq_true, decide_eq_true_eq] at this
          omega
        have b0 : (((c.toNat : Nat) : Int) == 95) = false := by rw [beq_eq_false_iff_ne]; omega
        rcases h3 with h3 | h3 | h3
        · have b1 : (48 : Int) ≤ (c.toNat : Int) := by omega
          have b2 : (c.toNat : Int) ≤ 57 := by omega
          have hw : Aside0 (((hv c : Nat) : Int) = (c.toNat : Int) - 48) := ⟨by unfold hv; rw [if_pos (by omega)]; omega⟩
          clear h3
          go_wp2
          go_meet
          case rel => exact ⟨rfl, by rw [hw.out], rfl⟩
        · have b1 : (48 : Int) ≤ (c.toNat : Int) := by omega
          have b2 : decide ((c.toNat : Int) ≤ 57) = false := decide_eq_false (by omega)
          have b3 : (97 : Int) ≤ (c.toNat : Int) + 32 := by omega
          have b4 : (c.toNat : Int) + 32 ≤ 122 := by omega
          have hl := Aside0.mk (fun W => lower_up c.toNat h3.1 h3.2 W)
          have hw : Aside0 (((hv c : Nat) : Int) = (c.toNat : Int) + 32 - 97 + 10) := ⟨by unfold hv; rw [if_neg (by omega), if_pos (by omega)]; omega⟩
          clear h3
          go_wp2_with (go_at_call 94; refine (hl.out _).mono ?_; rintro e w' ⟨rfl, rfl⟩)
          go_meet
          case rel => exact ⟨rfl, by rw [hw.out], rfl⟩
        · have b1 : (48 : Int) ≤ (c.toNat : Int) := by omega
          have b2 : decide ((c.toNat : Int) ≤ 57) = false := decide_eq_false (by omega)
          have b3 : (97 : Int) ≤ (c.toNat : Int) := by omega
          have b4 : (c.toNat : Int) ≤ 122 := by omega
          have hl := Aside0.mk (fun W => lower_lo c.toNat h3.1 h3.2 W)
          have hw : Aside0 (((hv c : Nat) : Int) = (c.toNat : Int) - 97 + 10) := ⟨by unfold hv; rw [if_neg (by omega), if_neg (by omega)]; omega⟩
          clear h3
          go_wp2_with (go_at_call 94; refine (hl.out _).mono ?_; rintro e w' ⟨rfl, rfl⟩)
          go_meet
          case rel => exact ⟨rfl, by rw [hw.out], rfl⟩
      case rest =>
        obtain ⟨rfl, rfl, rfl⟩ := hcut
        have hd16 : hv c < 16 := by
          have := hx.out
          simp only [isH, Bool.or_eq_true, Bool.and_eq_true, decide_eq_true_eq] at this
          unfold hv; split <;> (try split) <;> omega
        have hvl := Aside0.mk (show hval (c :: ds.drop (i + 1)) n = hval (ds.drop (i + 1)) (n * 16 + hv c) from rfl)
        generalize hv c = d at *
        have hpn := hp.out
        have b5 : decide ((16 : Int) ≤ (d : Int)) = false := decide_eq_false (by omega)
        have b6 : decide ((1152921504606846976 : Int) ≤ (n : Int)) = false := decide_eq_false (by omega)
        have e1 : IntKind.u64.wrap ((n : Int) * 16) = (n : Int) * 16 := wraps_u64 _ (by omega) (by omega)
        have e2 : IntKind.u64.wrap ((n : Int) * 16 + (d : Int)) = (n : Int) * 16 + (d : Int) := wraps_u64 _ (by omega) (by omega)
        have e3 : IntKind.u64.wrap (d : Int) = (d : Int) := wraps_u64 _ (by omega) (by omega)
        have b7 : decide ((4294967295 : Int) < (n : Int) * 16 + (d : Int)) = false := decide_eq_false (by omega)
        have hdA2 := Aside0.mk hd16
        clear hpn hd16
        go_wp2
        go_round
        case rel => exact ⟨i + 1, n * 16 + d, rfl, by go_num, by go_num, hltA.out, ⟨by have h1 := hn.out; have h2 := hdA2.out; rw [Nat.pow_succ]; omega⟩, ⟨by have h1 := hh.out; rw [hdr.out, hvl.out] at h1; exact h1⟩⟩
        case measure => simp [Go.RowKit.intOf]; have := hltA.out; omega
    · have hi2 : i = ds.length := by omega
      have hend := Aside0.mk (show n = hval ds 0 by have h1 := hh.out; rw [hi2, List.drop_length] at h1; exact h1)
      clear hi2 hi
      go_wp2
      go_ret2
      exact ⟨congrArg (fun m : Nat => Ending.returned (.tuple #[.int .u64 (m : Int), .nilIface])) hend.out, hbw.out⟩
theorem hval_lt : ∀ (l : List UInt8) (a k : Nat), (∀ c ∈ l, isH c = true) → a < 16 ^ k → hval l a < 16 ^ (k + l.length)
  | [], a, k, _, h => h
  | c :: l, a, k, hd, h => by
    have hx := hd c (by simp)
    have h16 : hv c < 16 := by
      simp only [isH, Bool.or_eq_true, Bool.and_eq_true, decide_eq_true_eq] at hx
      unfold hv; split <;> (try split) <;> omega
    have := hval_lt l (a * 16 + hv c) (k + 1) (fun d hd2 => hd d (by simp [hd2])) (by rw [Nat.pow_succ]; omega)
    rw [List.length_cons, show k + (l.length + 1) = k + 1 + l.length by omega]
    exact this
set_option maxHeartbeats 4000000 in
set_option maxRecDepth 100000 in
theorem parseI16 (ds : List UInt8) (h0 : 0 < ds.length) (h6 : ds.length ≤ 6) (hd : ∀ c ∈ ds, isH c = true) (w : World) :
    Calls Tryz.prog 67 #[.string (mkB ds), .int .i64 16, .int .i64 32] w fun e w' => e = .returned (.tuple #[.int .i64 (hval ds 0 : Int), .nilIface]) ∧ Below w.heap.size w w' := by
  have hpu := Aside0.mk (parseU16 ds h0 h6 hd w)
  have hlt := Nat.lt_of_lt_of_le (hval_lt ds 0 0 hd (by decide)) (Nat.pow_le_pow_right (n := 16) (by decide) (show 0 + ds.length ≤ 6 by omega))
  have hh := hd ds[0] (List.getElem_mem h0)
  have hne : ((mkB ds).toList == ([] : List UInt8)) = false := by
    rw [ByteArray.toList_eq, mkB_list]
    cases ds with
    | nil => exact absurd h0 (by simp)
    | cons a b => rfl
  have hne2 : (mkB ds).toList.isEmpty = false := by
    rw [ByteArray.toList_eq, mkB_list]
    cases ds with
    | nil => exact absurd h0 (by simp)
    | cons a b => rfl
  have hne3 : ((mkB ds).toList = []) = False := eq_false (fun h => by rw [h] at hne2; exact absurd hne2 (by simp))
  have hix : ∀ W, (Instr.index 9 (.string (mkB ds)) (.int .i64 0)).run Tryz.prog W = .ok (.int .u8 ((ds[0]).toNat : Int)) W := fun W => by
    have e : (mkB ds)[0]? = some ds[0] := by
      have hs : 0 < (mkB ds).size := by rw [mkB_size]; exact h0
      rw [getElem?_pos (mkB ds) 0 hs]
      rfl
    simp [Instr.index, asIntOf, run_underlying Tryz.underlying9, e]
  generalize ds[0] = c at *
  have b1 : (((c.toNat : Nat) : Int) == 43) = false := by
    simp only [isH, Bool.or_eq_true, Bool.and_eq_true, decide_eq_true_eq] at hh
    rw [beq_eq_false_iff_ne]; omega
  have b2 : (((c.toNat : Nat) : Int) == 45) = false := by
    simp only [isH, Bool.or_eq_true, Bool.and_eq_true, decide_eq_true_eq] at hh
    rw [beq_eq_false_iff_ne]; omega
  generalize hval ds 0 = m at *
  have b3 : decide ((2147483648 : Int) ≤ (m : Int)) = false := decide_eq_false (by omega)
  have b4 : (m : Int) < 16777216 := by omega
  clear hh hd hlt h0 h6
  go_enter Tryz.func67, Tryz.ntmps67
  go_wp2_with (go_at_call 83; refine hpu.out.mono ?_; rintro e w1 ⟨rfl, hB⟩)
  trace_state
  go_ret2
  exact ⟨rfl, hB⟩
end Go.Proofs.YtegapacamclipaaGreatDoor.G
