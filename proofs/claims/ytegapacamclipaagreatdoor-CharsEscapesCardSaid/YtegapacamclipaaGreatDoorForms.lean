/- The small, capital and folded forms of characters in this seat's program, as plain functions; that the program's functions give them. -/
import Derived.Test.YtegapacamclipaaGreatDoorGive
set_option linter.unusedVariables false
set_option linter.unusedSimpArgs false
namespace Go.Proofs.YtegapacamclipaaGreatDoor.G
open Go.RowKit Go.Proofs.YtegapacamclipaaGreatDoorW.PrintWords Go.Proofs.YtegapacamclipaaGreatDoor.Tx Go.Lib

instance (c : Int) : Decidable (chr c) := by unfold chr; exact inferInstance

def isUp (c : Int) : Prop := (65 ≤ c ∧ c ≤ 90) ∨ (192 ≤ c ∧ c ≤ 222 ∧ c ≠ 215) ∨ (913 ≤ c ∧ c ≤ 937 ∧ c ≠ 930) ∨ (1040 ≤ c ∧ c ≤ 1071)
instance (c : Int) : Decidable (isUp c) := by unfold isUp; exact inferInstance
def isLow (c : Int) : Prop := (97 ≤ c ∧ c ≤ 122) ∨ (224 ≤ c ∧ c ≤ 254 ∧ c ≠ 247) ∨ (945 ≤ c ∧ c ≤ 969) ∨ (1072 ≤ c ∧ c ≤ 1103)
instance (c : Int) : Decidable (isLow c) := by unfold isLow; exact inferInstance
def smallI (c : Int) : Int := if isUp c then c + 32 else if c = 7838 then 223 else if c = 8490 then 107 else if c = 8491 then 229 else c
theorem smallI_chr {c : Int} (h : chr c) : chr (smallI c) := by
  unfold smallI
  unfold chr at *
  unfold isUp
  repeat' split
  all_goals omega
def lowU (c : Int) : List UInt8 := encodeRune (smallI c)
def ligU (c : Int) : List UInt8 := if c = 64256 then [70, 70] else if c = 64257 then [70, 73] else if c = 64258 then [70, 76] else if c = 64259 then [70, 70, 73] else if c = 64260 then [70, 70, 76] else [83, 84]
def capU (c : Int) : List UInt8 := if c = 962 then [206, 163] else if c = 383 then [83] else if c = 223 then [83, 83] else if c = 329 then [202, 188, 78]
  else if 64256 ≤ c ∧ c ≤ 64262 then ligU c else if isLow c then encodeRune (c - 32) else encodeRune c
def ligL (c : Int) : List UInt8 := if c = 64256 then [102, 102] else if c = 64257 then [102, 105] else if c = 64258 then [102, 108] else if c = 64259 then [102, 102, 105] else if c = 64260 then [102, 102, 108] else [115, 116]
def foldU (c : Int) : List UInt8 := if c = 181 then [206, 188] else if c = 223 ∨ c = 7838 then [115, 115] else if c = 329 then [202, 188, 110] else if c = 383 then [115] else if c = 962 then [207, 131]
  else if 64256 ≤ c ∧ c ≤ 64262 then ligL c else encodeRune (smallI c)

theorem encode_eq (r : Int) (h : chr r) : Utf8.encode r = ⟨(encodeRune r).toArray⟩ := by
  unfold chr at h
  obtain ⟨n, rfl⟩ := Int.eq_ofNat_of_zero_le (show 0 ≤ r by omega)
  have hv : Utf8.valid (n : Int) = true := by
    unfold Utf8.valid
    simp only [Bool.or_eq_true, Bool.and_eq_true, decide_eq_true_eq]
    omega
  unfold Utf8.encode
  simp only [hv, if_true, Int.toNat_natCast]
  by_cases c1 : n ≤ 127
  · rw [if_pos (by omega), encodeRune, encodeRuneZ_one (by omega) (by omega)]
    simp
  · rw [if_neg (by omega)]
    by_cases c2 : n ≤ 2047
    · rw [if_pos (by omega), encodeRune, encodeRuneZ_two (by omega) (by omega)]
      simp only [List.map_cons, List.map_nil]
      rw [show (192 + (n : Int) / 64).toNat = 192 + n / 64 by omega, show (128 + (n : Int) % 64).toNat = 128 + n % 64 by omega]
    · rw [if_neg (by omega)]
      by_cases c3 : n ≤ 65535
      · rw [if_pos (by omega), encodeRune, encodeRuneZ_three (by omega)]
        simp only [List.map_cons, List.map_nil]
        rw [show (224 + (n : Int) / 4096).toNat = 224 + n / 4096 by omega, show (128 + (n : Int) / 64 % 64).toNat = 128 + n / 64 % 64 by omega, show (128 + (n : Int) % 64).toNat = 128 + n % 64 by omega]
      · rw [if_neg (by omega), encodeRune, encodeRuneZ_four (by omega) (by omega)]
        simp only [List.map_cons, List.map_nil]
        rw [show (240 + (n : Int) / 262144).toNat = 240 + n / 262144 by omega, show (128 + (n : Int) / 4096 % 64).toNat = 128 + n / 4096 % 64 by omega, show (128 + (n : Int) / 64 % 64).toNat = 128 + n / 64 % 64 by omega, show (128 + (n : Int) % 64).toNat = 128 + n % 64 by omega]
theorem wrap32_chr (c : Int) (h : chr c) : wrap32 c = c := by unfold chr at h; unfold wrap32; omega

theorem ret_int {k : IntKind} {a b : Int} (h : a = b) : Ending.returned (.int k a) = .returned (.int k b) := by rw [h]
theorem ret_str {a b : ByteArray} (h : a = b) : Ending.returned (.string a) = .returned (.string b) := by rw [h]

set_option maxHeartbeats 4000000 in
set_option maxRecDepth 100000 in
theorem small_any (c : Int) (w : World) (hc : chr c) :
    Calls Tryz.prog 51 #[.int .i64 c] w fun e w' => e = .returned (.int .i64 (smallI c)) ∧ w' = w := by
  have hb : 0 ≤ c ∧ c ≤ 1114111 := by unfold chr at hc; omega
  obtain ⟨hb0, hb1⟩ := hb
  clear hc
  rcases (show c ≤ 64 ∨ (65 ≤ c ∧ c ≤ 90) ∨ (91 ≤ c ∧ c ≤ 191) ∨ (192 ≤ c ∧ c ≤ 214) ∨ (215 ≤ c ∧ c ≤ 215) ∨ (216 ≤ c ∧ c ≤ 222) ∨ (223 ≤ c ∧ c ≤ 912) ∨ (913 ≤ c ∧ c ≤ 929) ∨ (930 ≤ c ∧ c ≤ 930) ∨ (931 ≤ c ∧ c ≤ 937) ∨ (938 ≤ c ∧ c ≤ 1039) ∨ (1040 ≤ c ∧ c ≤ 1071) ∨ (1072 ≤ c ∧ c ≤ 7837) ∨ (7838 ≤ c ∧ c ≤ 7838) ∨ (7839 ≤ c ∧ c ≤ 8489) ∨ (8490 ≤ c ∧ c ≤ 8490) ∨ (8491 ≤ c ∧ c ≤ 8491) ∨ (8492 ≤ c) by omega) with h | ⟨h, h2⟩ | ⟨h, h2⟩ | ⟨h, h2⟩ | ⟨h, h2⟩ | ⟨h, h2⟩ | ⟨h, h2⟩ | ⟨h, h2⟩ | ⟨h, h2⟩ | ⟨h, h2⟩ | ⟨h, h2⟩ | ⟨h, h2⟩ | ⟨h, h2⟩ | ⟨h, h2⟩ | ⟨h, h2⟩ | ⟨h, h2⟩ | ⟨h, h2⟩ | h
  all_goals
    have he := Aside0.mk (show ∀ x, smallI c = x → smallI c = x from fun _ h => h)
    go_enter Tryz.func51, Tryz.ntmps51
    go_wp2
    go_ret
    refine ⟨ret_int ?_, rfl⟩
    unfold smallI isUp
    first | omega | (repeat' split <;> omega)

/-- How the walk spells a character as a text. -/
theorem str_of (c : Int) (hc : chr c) : Utf8.encode (wrap32 c) = ⟨(encodeRune c).toArray⟩ := by rw [wrap32_chr c hc, encode_eq c hc]

set_option maxHeartbeats 4000000 in
set_option maxRecDepth 100000 in
theorem lowered_any (c : Int) (w : World) (hc : chr c) :
    Calls Tryz.prog 35 #[.int .i64 c] w fun e w' => e = .returned (.string ⟨(lowU c).toArray⟩) ∧ w' = w := by
  have hs := smallI_chr hc
  have hs2 := Aside0.mk (encode_eq _ hs)
  have hb : 0 ≤ smallI c ∧ smallI c ≤ 1114111 := by unfold chr at hs; omega
  obtain ⟨hb0, hb1⟩ := hb
  have hl := Aside0.mk (show lowU c = encodeRune (smallI c) from rfl)
  go_enter Tryz.func35, Tryz.ntmps35
  go_wp2_with (go_at_call 51; refine (small_any _ _ hc).mono ?_; rintro e w' ⟨rfl, rfl⟩)
  go_ret
  exact ⟨ret_str (by rw [hl.out, ← hs2.out]), rfl⟩

set_option maxHeartbeats 8000000 in
set_option maxRecDepth 100000 in
theorem FoldOf_any (c : Int) (w : World) (hc : chr c) :
    Calls Tryz.prog 31 #[.int .i64 c] w fun e w' => e = .returned (.string ⟨(foldU c).toArray⟩) ∧ w' = w := by
  have hb : 0 ≤ c ∧ c ≤ 1114111 := by unfold chr at hc; omega
  obtain ⟨hb0, hb1⟩ := hb
  have hs := smallI_chr hc
  have hs2 := Aside0.mk (encode_eq _ hs)
  have hsb : 0 ≤ smallI c ∧ smallI c ≤ 1114111 := by unfold chr at hs; omega
  obtain ⟨hs0, hs1⟩ := hsb
  clear hs
  by_cases hg : c = 181 ∨ c = 223 ∨ c = 7838 ∨ c = 329 ∨ c = 383 ∨ c = 962 ∨ (64256 ≤ c ∧ c ≤ 64262)
  · clear hs2
    have hg2 : c = 181 ∨ c = 223 ∨ c = 7838 ∨ c = 329 ∨ c = 383 ∨ c = 962 ∨ c = 64256 ∨ c = 64257 ∨ c = 64258 ∨ c = 64259 ∨ c = 64260 ∨ c = 64261 ∨ c = 64262 := by omega
    clear hg hb0 hb1 hs0 hs1 hc
    have i0 : ∀ w, (Instr.index 65 (.agg #[.string ⟨#[102, 102]⟩, .string ⟨#[102, 105]⟩, .string ⟨#[102, 108]⟩, .string ⟨#[102, 102, 105]⟩, .string ⟨#[102, 102, 108]⟩, .string ⟨#[115, 116]⟩, .string ⟨#[115, 116]⟩]) (.int .i64 0)).run Tryz.prog w = .ok (.string ⟨#[102, 102]⟩) w := fun _ => by kernel_rfl
    have i1 : ∀ w, (Instr.index 65 (.agg #[.string ⟨#[102, 102]⟩, .string ⟨#[102, 105]⟩, .string ⟨#[102, 108]⟩, .string ⟨#[102, 102, 105]⟩, .string ⟨#[102, 102, 108]⟩, .string ⟨#[115, 116]⟩, .string ⟨#[115, 116]⟩]) (.int .i64 1)).run Tryz.prog w = .ok (.string ⟨#[102, 105]⟩) w := fun _ => by kernel_rfl
    have i2 : ∀ w, (Instr.index 65 (.agg #[.string ⟨#[102, 102]⟩, .string ⟨#[102, 105]⟩, .string ⟨#[102, 108]⟩, .string ⟨#[102, 102, 105]⟩, .string ⟨#[102, 102, 108]⟩, .string ⟨#[115, 116]⟩, .string ⟨#[115, 116]⟩]) (.int .i64 2)).run Tryz.prog w = .ok (.string ⟨#[102, 108]⟩) w := fun _ => by kernel_rfl
    have i3 : ∀ w, (Instr.index 65 (.agg #[.string ⟨#[102, 102]⟩, .string ⟨#[102, 105]⟩, .string ⟨#[102, 108]⟩, .string ⟨#[102, 102, 105]⟩, .string ⟨#[102, 102, 108]⟩, .string ⟨#[115, 116]⟩, .string ⟨#[115, 116]⟩]) (.int .i64 3)).run Tryz.prog w = .ok (.string ⟨#[102, 102, 105]⟩) w := fun _ => by kernel_rfl
    have i4 : ∀ w, (Instr.index 65 (.agg #[.string ⟨#[102, 102]⟩, .string ⟨#[102, 105]⟩, .string ⟨#[102, 108]⟩, .string ⟨#[102, 102, 105]⟩, .string ⟨#[102, 102, 108]⟩, .string ⟨#[115, 116]⟩, .string ⟨#[115, 116]⟩]) (.int .i64 4)).run Tryz.prog w = .ok (.string ⟨#[102, 102, 108]⟩) w := fun _ => by kernel_rfl
    have i5 : ∀ w, (Instr.index 65 (.agg #[.string ⟨#[102, 102]⟩, .string ⟨#[102, 105]⟩, .string ⟨#[102, 108]⟩, .string ⟨#[102, 102, 105]⟩, .string ⟨#[102, 102, 108]⟩, .string ⟨#[115, 116]⟩, .string ⟨#[115, 116]⟩]) (.int .i64 5)).run Tryz.prog w = .ok (.string ⟨#[115, 116]⟩) w := fun _ => by kernel_rfl
    have i6 : ∀ w, (Instr.index 65 (.agg #[.string ⟨#[102, 102]⟩, .string ⟨#[102, 105]⟩, .string ⟨#[102, 108]⟩, .string ⟨#[102, 102, 105]⟩, .string ⟨#[102, 102, 108]⟩, .string ⟨#[115, 116]⟩, .string ⟨#[115, 116]⟩]) (.int .i64 6)).run Tryz.prog w = .ok (.string ⟨#[115, 116]⟩) w := fun _ => by kernel_rfl
    rcases hg2 with rfl | rfl | rfl | rfl | rfl | rfl | rfl | rfl | rfl | rfl | rfl | rfl | rfl
    all_goals
      go_enter Tryz.func31, Tryz.ntmps31
      go_wp2
      go_ret
      exact ⟨rfl, rfl⟩
  · have hl := Aside0.mk (show foldU c = encodeRune (smallI c) by unfold foldU; rw [if_neg (by omega), if_neg (by omega), if_neg (by omega), if_neg (by omega), if_neg (by omega), if_neg (by omega)])
    have q1 : (c == 181) = false := beq_eq_false_iff_ne.2 (by omega)
    have q2 : (c == 223) = false := beq_eq_false_iff_ne.2 (by omega)
    have q3 : (c == 7838) = false := beq_eq_false_iff_ne.2 (by omega)
    have q4 : (c == 329) = false := beq_eq_false_iff_ne.2 (by omega)
    have q5 : (c == 383) = false := beq_eq_false_iff_ne.2 (by omega)
    have q6 : (c == 962) = false := beq_eq_false_iff_ne.2 (by omega)
    rcases (show c ≤ 64255 ∨ 64263 ≤ c by omega) with h | h
    all_goals clear hg
    all_goals
      go_enter Tryz.func31, Tryz.ntmps31
      go_wp2_with (first | (go_at_call 51; refine (small_any _ _ hc).mono ?_; rintro e w' ⟨rfl, rfl⟩) | go_in)
      all_goals
        go_ret
        exact ⟨ret_str (by rw [hl.out, ← hs2.out]), rfl⟩

set_option maxHeartbeats 8000000 in
set_option maxRecDepth 100000 in
theorem capital_any (c : Int) (w : World) (hc : chr c) :
    Calls Tryz.prog 32 #[.int .i64 c] w fun e w' => e = .returned (.string ⟨(capU c).toArray⟩) ∧ w' = w := by
  have hb : 0 ≤ c ∧ c ≤ 1114111 := by unfold chr at hc; omega
  obtain ⟨hb0, hb1⟩ := hb
  by_cases hg : c = 962 ∨ c = 383 ∨ c = 223 ∨ c = 329 ∨ (64256 ≤ c ∧ c ≤ 64262)
  · have hg2 : c = 962 ∨ c = 383 ∨ c = 223 ∨ c = 329 ∨ c = 64256 ∨ c = 64257 ∨ c = 64258 ∨ c = 64259 ∨ c = 64260 ∨ c = 64261 ∨ c = 64262 := by omega
    clear hg hb0 hb1 hc
    have i0 : ∀ w, (Instr.index 65 (.agg #[.string ⟨#[70, 70]⟩, .string ⟨#[70, 73]⟩, .string ⟨#[70, 76]⟩, .string ⟨#[70, 70, 73]⟩, .string ⟨#[70, 70, 76]⟩, .string ⟨#[83, 84]⟩, .string ⟨#[83, 84]⟩]) (.int .i64 0)).run Tryz.prog w = .ok (.string ⟨#[70, 70]⟩) w := fun _ => by kernel_rfl
    have i1 : ∀ w, (Instr.index 65 (.agg #[.string ⟨#[70, 70]⟩, .string ⟨#[70, 73]⟩, .string ⟨#[70, 76]⟩, .string ⟨#[70, 70, 73]⟩, .string ⟨#[70, 70, 76]⟩, .string ⟨#[83, 84]⟩, .string ⟨#[83, 84]⟩]) (.int .i64 1)).run Tryz.prog w = .ok (.string ⟨#[70, 73]⟩) w := fun _ => by kernel_rfl
    have i2 : ∀ w, (Instr.index 65 (.agg #[.string ⟨#[70, 70]⟩, .string ⟨#[70, 73]⟩, .string ⟨#[70, 76]⟩, .string ⟨#[70, 70, 73]⟩, .string ⟨#[70, 70, 76]⟩, .string ⟨#[83, 84]⟩, .string ⟨#[83, 84]⟩]) (.int .i64 2)).run Tryz.prog w = .ok (.string ⟨#[70, 76]⟩) w := fun _ => by kernel_rfl
    have i3 : ∀ w, (Instr.index 65 (.agg #[.string ⟨#[70, 70]⟩, .string ⟨#[70, 73]⟩, .string ⟨#[70, 76]⟩, .string ⟨#[70, 70, 73]⟩, .string ⟨#[70, 70, 76]⟩, .string ⟨#[83, 84]⟩, .string ⟨#[83, 84]⟩]) (.int .i64 3)).run Tryz.prog w = .ok (.string ⟨#[70, 70, 73]⟩) w := fun _ => by kernel_rfl
    have i4 : ∀ w, (Instr.index 65 (.agg #[.string ⟨#[70, 70]⟩, .string ⟨#[70, 73]⟩, .string ⟨#[70, 76]⟩, .string ⟨#[70, 70, 73]⟩, .string ⟨#[70, 70, 76]⟩, .string ⟨#[83, 84]⟩, .string ⟨#[83, 84]⟩]) (.int .i64 4)).run Tryz.prog w = .ok (.string ⟨#[70, 70, 76]⟩) w := fun _ => by kernel_rfl
    have i5 : ∀ w, (Instr.index 65 (.agg #[.string ⟨#[70, 70]⟩, .string ⟨#[70, 73]⟩, .string ⟨#[70, 76]⟩, .string ⟨#[70, 70, 73]⟩, .string ⟨#[70, 70, 76]⟩, .string ⟨#[83, 84]⟩, .string ⟨#[83, 84]⟩]) (.int .i64 5)).run Tryz.prog w = .ok (.string ⟨#[83, 84]⟩) w := fun _ => by kernel_rfl
    have i6 : ∀ w, (Instr.index 65 (.agg #[.string ⟨#[70, 70]⟩, .string ⟨#[70, 73]⟩, .string ⟨#[70, 76]⟩, .string ⟨#[70, 70, 73]⟩, .string ⟨#[70, 70, 76]⟩, .string ⟨#[83, 84]⟩, .string ⟨#[83, 84]⟩]) (.int .i64 6)).run Tryz.prog w = .ok (.string ⟨#[83, 84]⟩) w := fun _ => by kernel_rfl
    rcases hg2 with rfl | rfl | rfl | rfl | rfl | rfl | rfl | rfl | rfl | rfl | rfl
    all_goals
      go_enter Tryz.func32, Tryz.ntmps32
      go_wp2
      go_ret
      exact ⟨rfl, rfl⟩
  · have q2 : (c == 962) = false := beq_eq_false_iff_ne.2 (by omega)
    have q3 : (c == 383) = false := beq_eq_false_iff_ne.2 (by omega)
    have q4 : (c == 223) = false := beq_eq_false_iff_ne.2 (by omega)
    have q5 : (c == 329) = false := beq_eq_false_iff_ne.2 (by omega)
    by_cases hlw : isLow c
    · have hc2 : chr (c - 32) := by unfold isLow at hlw; unfold chr; omega
      have hl := Aside0.mk (show capU c = encodeRune (c - 32) by unfold capU; rw [if_neg (by omega), if_neg (by omega), if_neg (by omega), if_neg (by omega), if_neg (by omega), if_pos hlw])
      have hs2 := Aside0.mk (encode_eq _ hc2)
      unfold isLow at hlw
      rcases (show (97 ≤ c ∧ c ≤ 122) ∨ (224 ≤ c ∧ c ≤ 246) ∨ (248 ≤ c ∧ c ≤ 254) ∨ (945 ≤ c ∧ c ≤ 969) ∨ (1072 ≤ c ∧ c ≤ 1103) by omega) with ⟨h, h2⟩ | ⟨h, h2⟩ | ⟨h, h2⟩ | ⟨h, h2⟩ | ⟨h, h2⟩
      all_goals clear hg hlw hc hc2
      all_goals
        go_enter Tryz.func32, Tryz.ntmps32
        go_wp2
        all_goals
          go_ret
          exact ⟨ret_str (by rw [hl.out, ← hs2.out]), rfl⟩
    · have hl := Aside0.mk (show capU c = encodeRune c by unfold capU; rw [if_neg (by omega), if_neg (by omega), if_neg (by omega), if_neg (by omega), if_neg (by omega), if_neg hlw])
      have hs2 := Aside0.mk (encode_eq _ hc)
      unfold isLow at hlw
      rcases (show c ≤ 96 ∨ (123 ≤ c ∧ c ≤ 223) ∨ (247 ≤ c ∧ c ≤ 247) ∨ (255 ≤ c ∧ c ≤ 944) ∨ (970 ≤ c ∧ c ≤ 1071) ∨ (1104 ≤ c ∧ c ≤ 64255) ∨ 64263 ≤ c by omega) with h | ⟨h, h2⟩ | ⟨h, h2⟩ | ⟨h, h2⟩ | ⟨h, h2⟩ | ⟨h, h2⟩ | h
      all_goals clear hg hlw hc
      all_goals
        go_enter Tryz.func32, Tryz.ntmps32
        go_wp2
        all_goals
          go_ret
          exact ⟨ret_str (by rw [hl.out, ← hs2.out]), rfl⟩
end Go.Proofs.YtegapacamclipaaGreatDoor.G
