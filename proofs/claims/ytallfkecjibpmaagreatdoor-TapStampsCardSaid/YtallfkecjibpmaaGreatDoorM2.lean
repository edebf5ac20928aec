/- What the Go functions of this seat give, as Lean functions, and that each call comes to it. Written by the session's own program (wip/tools/mprint.py). -/
import Derived.Test.YtallfkecjibpmaaGreatDoorM0
import Derived.Test.YtallfkecjibpmaaGreatDoorM1
namespace Go.Proofs.YtallfkecjibpmaaGreatDoor.M
open Go.RowKit Go.Proofs.YtallfkecjibpmaaGreatDoor.G Go.Proofs.YtallfkecjibpmaaGreatDoorW.PrintWords Go.Proofs.YtallfkecjibpmaaGreatDoorW.PrintLast Go.Proofs.YtallfkecjibpmaaGreatDoorW.PrintMore
attribute [local go_sem] max2_int min2_int max_two min_two max_three min_three max_four min_four   -- for this text's walks alone
set_option linter.unusedVariables false
set_option linter.unusedSimpArgs false

/-! ### tap_Stamp: function 18 -/
def tap_Stamp.f (a0 : Int) : Option (ByteArray × Int) := (tap_clock.f a0).bind fun bt135 => (if bt135.2.2.2.2 = true then ((tap_Date.f bt135.1).bind fun bt141 => ((tap_pad.f bt141.1 4).bind fun t145 => (if t145.size + 1 ≤ 9223372036854775807 then ((tap_pad.f bt141.2.1 2).bind fun t146 => (if (t145 ++ (⟨#[45]⟩ : ByteArray)).size + t146.size ≤ 9223372036854775807 then (if ((t145 ++ (⟨#[45]⟩ : ByteArray)) ++ t146).size + 1 ≤ 9223372036854775807 then ((tap_pad.f bt141.2.2.1 2).bind fun t147 => (if (((t145 ++ (⟨#[45]⟩ : ByteArray)) ++ t146) ++ (⟨#[45]⟩ : ByteArray)).size + t147.size ≤ 9223372036854775807 then (if ((((t145 ++ (⟨#[45]⟩ : ByteArray)) ++ t146) ++ (⟨#[45]⟩ : ByteArray)) ++ t147).size + 1 ≤ 9223372036854775807 then ((tap_pad.f bt135.2.1 2).bind fun t148 => (if (((((t145 ++ (⟨#[45]⟩ : ByteArray)) ++ t146) ++ (⟨#[45]⟩ : ByteArray)) ++ t147) ++ (⟨#[84]⟩ : ByteArray)).size + t148.size ≤ 9223372036854775807 then (if ((((((t145 ++ (⟨#[45]⟩ : ByteArray)) ++ t146) ++ (⟨#[45]⟩ : ByteArray)) ++ t147) ++ (⟨#[84]⟩ : ByteArray)) ++ t148).size + 1 ≤ 9223372036854775807 then ((tap_pad.f bt135.2.2.1 2).bind fun t149 => (if (((((((t145 ++ (⟨#[45]⟩ : ByteArray)) ++ t146) ++ (⟨#[45]⟩ : ByteArray)) ++ t147) ++ (⟨#[84]⟩ : ByteArray)) ++ t148) ++ (⟨#[58]⟩ : ByteArray)).size + t149.size ≤ 9223372036854775807 then (if ((((((((t145 ++ (⟨#[45]⟩ : ByteArray)) ++ t146) ++ (⟨#[45]⟩ : ByteArray)) ++ t147) ++ (⟨#[84]⟩ : ByteArray)) ++ t148) ++ (⟨#[58]⟩ : ByteArray)) ++ t149).size + 1 ≤ 9223372036854775807 then ((tap_pad.f bt135.2.2.2.1 2).bind fun t150 => (if (((((((((t145 ++ (⟨#[45]⟩ : ByteArray)) ++ t146) ++ (⟨#[45]⟩ : ByteArray)) ++ t147) ++ (⟨#[84]⟩ : ByteArray)) ++ t148) ++ (⟨#[58]⟩ : ByteArray)) ++ t149) ++ (⟨#[58]⟩ : ByteArray)).size + t150.size ≤ 9223372036854775807 then (if ((((((((((t145 ++ (⟨#[45]⟩ : ByteArray)) ++ t146) ++ (⟨#[45]⟩ : ByteArray)) ++ t147) ++ (⟨#[84]⟩ : ByteArray)) ++ t148) ++ (⟨#[58]⟩ : ByteArray)) ++ t149) ++ (⟨#[58]⟩ : ByteArray)) ++ t150).size + 1 ≤ 9223372036854775807 then (some (((((((((((t145 ++ (⟨#[45]⟩ : ByteArray)) ++ t146) ++ (⟨#[45]⟩ : ByteArray)) ++ t147) ++ (⟨#[84]⟩ : ByteArray)) ++ t148) ++ (⟨#[58]⟩ : ByteArray)) ++ t149) ++ (⟨#[58]⟩ : ByteArray)) ++ t150) ++ (⟨#[90]⟩ : ByteArray), 0)) else (none)) else (none))) else (none)) else (none))) else (none)) else (none))) else (none)) else (none))) else (none)) else (none))) else (none)))) else (some ((⟨#[]⟩ : ByteArray), 1)))
def tap_Stamp.T5 : Bool × List (List Nat × List Nat) := (true, [([], []), ([0], [0]), ([1], [1]), ([], []), ([3, 1], [3]), ([2, 4], [2, 4]), ([5], [5]), ([], []), ([7, 4], [7]), ([6, 8], [6, 8]), ([9], [9]), ([], []), ([11], [11]), ([12, 8], [12]), ([10, 13], [10, 13]), ([14], [14]), ([], []), ([16], [16]), ([17, 13], [17]), ([15, 18], [15, 18]), ([19], [19]), ([], []), ([21], [21]), ([22, 18], [22]), ([20, 23], [20, 23]), ([24], [24]), ([25, 23, 0, 1, 2, 3, 4, 5, 6, 7, 8, 9, 10, 11, 12, 13, 14, 15, 16, 17, 18, 19, 20, 21, 22, 23, 24, 25], [25]), ([26, 0, 1, 2, 3, 4, 5, 6, 7, 8, 9, 10, 11, 12, 13, 14, 15, 16, 17, 18, 19, 20, 21, 22, 23, 24, 25, 26], [])])
def tap_Stamp.B5 : List Nat := [0, 1, 3, 0, 11, 31, 63, 0, 155, 511, 1023, 0, 2048, 6555, 16383, 32767, 0, 65536, 211355, 524287, 1048575, 0, 2097152, 6764955, 16777215, 33554431, 67108863, 134217727]
theorem tap_Stamp.tab5 : rtab .any (opsOf Tryz.f18 5) = tap_Stamp.T5 := by kernel_rfl
theorem tap_Stamp.bits5 : waitsOk tap_Stamp.T5.2 tap_Stamp.B5 = true := by kernel_rfl
set_option maxHeartbeats 8000000 in
set_option maxRecDepth 100000 in
theorem tap_Stamp.calls (a0 : Int) (r1 : ByteArray) (r2 : Int) (w : World) (hL : LaidW w) (h : tap_Stamp.f a0 = some (r1, r2)) :
    Calls Tryz.prog 18 #[.int .i64 a0] w fun e w' => e = .returned (.tuple #[.string r1, .int .i64 r2]) ∧ Below w.heap.size w w' := by
  have hu70 := Tryz.underlying70
  have HB := Aside0.mk (Below.refl w.heap.size w)
  have H : ((tap_clock.f a0).bind fun bt135 => (if bt135.2.2.2.2 = true then ((tap_Date.f bt135.1).bind fun bt141 => ((tap_pad.f bt141.1 4).bind fun t145 => (if t145.size + 1 ≤ 9223372036854775807 then ((tap_pad.f bt141.2.1 2).bind fun t146 => (if (t145 ++ (⟨#[45]⟩ : ByteArray)).size + t146.size ≤ 9223372036854775807 then (if ((t145 ++ (⟨#[45]⟩ : ByteArray)) ++ t146).size + 1 ≤ 9223372036854775807 then ((tap_pad.f bt141.2.2.1 2).bind fun t147 => (if (((t145 ++ (⟨#[45]⟩ : ByteArray)) ++ t146) ++ (⟨#[45]⟩ : ByteArray)).size + t147.size ≤ 9223372036854775807 then (if ((((t145 ++ (⟨#[45]⟩ : ByteArray)) ++ t146) ++ (⟨#[45]⟩ : ByteArray)) ++ t147).size + 1 ≤ 9223372036854775807 then ((tap_pad.f bt135.2.1 2).bind fun t148 => (if (((((t145 ++ (⟨#[45]⟩ : ByteArray)) ++ t146) ++ (⟨#[45]⟩ : ByteArray)) ++ t147) ++ (⟨#[84]⟩ : ByteArray)).size + t148.size ≤ 9223372036854775807 then (if ((((((t145 ++ (⟨#[45]⟩ : ByteArray)) ++ t146) ++ (⟨#[45]⟩ : ByteArray)) ++ t147) ++ (⟨#[84]⟩ : ByteArray)) ++ t148).size + 1 ≤ 9223372036854775807 then ((tap_pad.f bt135.2.2.1 2).bind fun t149 => (if (((((((t145 ++ (⟨#[45]⟩ : ByteArray)) ++ t146) ++ (⟨#[45]⟩ : ByteArray)) ++ t147) ++ (⟨#[84]⟩ : ByteArray)) ++ t148) ++ (⟨#[58]⟩ : ByteArray)).size + t149.size ≤ 9223372036854775807 then (if ((((((((t145 ++ (⟨#[45]⟩ : ByteArray)) ++ t146) ++ (⟨#[45]⟩ : ByteArray)) ++ t147) ++ (⟨#[84]⟩ : ByteArray)) ++ t148) ++ (⟨#[58]⟩ : ByteArray)) ++ t149).size + 1 ≤ 9223372036854775807 then ((tap_pad.f bt135.2.2.2.1 2).bind fun t150 => (if (((((((((t145 ++ (⟨#[45]⟩ : ByteArray)) ++ t146) ++ (⟨#[45]⟩ : ByteArray)) ++ t147) ++ (⟨#[84]⟩ : ByteArray)) ++ t148) ++ (⟨#[58]⟩ : ByteArray)) ++ t149) ++ (⟨#[58]⟩ : ByteArray)).size + t150.size ≤ 9223372036854775807 then (if ((((((((((t145 ++ (⟨#[45]⟩ : ByteArray)) ++ t146) ++ (⟨#[45]⟩ : ByteArray)) ++ t147) ++ (⟨#[84]⟩ : ByteArray)) ++ t148) ++ (⟨#[58]⟩ : ByteArray)) ++ t149) ++ (⟨#[58]⟩ : ByteArray)) ++ t150).size + 1 ≤ 9223372036854775807 then (some (((((((((((t145 ++ (⟨#[45]⟩ : ByteArray)) ++ t146) ++ (⟨#[45]⟩ : ByteArray)) ++ t147) ++ (⟨#[84]⟩ : ByteArray)) ++ t148) ++ (⟨#[58]⟩ : ByteArray)) ++ t149) ++ (⟨#[58]⟩ : ByteArray)) ++ t150) ++ (⟨#[90]⟩ : ByteArray), 0)) else (none)) else (none))) else (none)) else (none))) else (none)) else (none))) else (none)) else (none))) else (none)) else (none))) else (none)))) else (some ((⟨#[]⟩ : ByteArray), 1)))) = some (r1, r2) := h
  clear h
  replace H := Option.bind_eq_some_iff.mp H
  obtain ⟨⟨t135, t136, t137, t138, t139⟩, A20, H⟩ := H
  replace H : (if t139 = true then ((tap_Date.f t135).bind fun bt141 => ((tap_pad.f bt141.1 4).bind fun t145 => (if t145.size + 1 ≤ 9223372036854775807 then ((tap_pad.f bt141.2.1 2).bind fun t146 => (if (t145 ++ (⟨#[45]⟩ : ByteArray)).size + t146.size ≤ 9223372036854775807 then (if ((t145 ++ (⟨#[45]⟩ : ByteArray)) ++ t146).size + 1 ≤ 9223372036854775807 then ((tap_pad.f bt141.2.2.1 2).bind fun t147 => (if (((t145 ++ (⟨#[45]⟩ : ByteArray)) ++ t146) ++ (⟨#[45]⟩ : ByteArray)).size + t147.size ≤ 9223372036854775807 then (if ((((t145 ++ (⟨#[45]⟩ : ByteArray)) ++ t146) ++ (⟨#[45]⟩ : ByteArray)) ++ t147).size + 1 ≤ 9223372036854775807 then ((tap_pad.f t136 2).bind fun t148 => (if (((((t145 ++ (⟨#[45]⟩ : ByteArray)) ++ t146) ++ (⟨#[45]⟩ : ByteArray)) ++ t147) ++ (⟨#[84]⟩ : ByteArray)).size + t148.size ≤ 9223372036854775807 then (if ((((((t145 ++ (⟨#[45]⟩ : ByteArray)) ++ t146) ++ (⟨#[45]⟩ : ByteArray)) ++ t147) ++ (⟨#[84]⟩ : ByteArray)) ++ t148).size + 1 ≤ 9223372036854775807 then ((tap_pad.f t137 2).bind fun t149 => (if (((((((t145 ++ (⟨#[45]⟩ : ByteArray)) ++ t146) ++ (⟨#[45]⟩ : ByteArray)) ++ t147) ++ (⟨#[84]⟩ : ByteArray)) ++ t148) ++ (⟨#[58]⟩ : ByteArray)).size + t149.size ≤ 9223372036854775807 then (if ((((((((t145 ++ (⟨#[45]⟩ : ByteArray)) ++ t146) ++ (⟨#[45]⟩ : ByteArray)) ++ t147) ++ (⟨#[84]⟩ : ByteArray)) ++ t148) ++ (⟨#[58]⟩ : ByteArray)) ++ t149).size + 1 ≤ 9223372036854775807 then ((tap_pad.f t138 2).bind fun t150 => (if (((((((((t145 ++ (⟨#[45]⟩ : ByteArray)) ++ t146) ++ (⟨#[45]⟩ : ByteArray)) ++ t147) ++ (⟨#[84]⟩ : ByteArray)) ++ t148) ++ (⟨#[58]⟩ : ByteArray)) ++ t149) ++ (⟨#[58]⟩ : ByteArray)).size + t150.size ≤ 9223372036854775807 then (if ((((((((((t145 ++ (⟨#[45]⟩ : ByteArray)) ++ t146) ++ (⟨#[45]⟩ : ByteArray)) ++ t147) ++ (⟨#[84]⟩ : ByteArray)) ++ t148) ++ (⟨#[58]⟩ : ByteArray)) ++ t149) ++ (⟨#[58]⟩ : ByteArray)) ++ t150).size + 1 ≤ 9223372036854775807 then (some (((((((((((t145 ++ (⟨#[45]⟩ : ByteArray)) ++ t146) ++ (⟨#[45]⟩ : ByteArray)) ++ t147) ++ (⟨#[84]⟩ : ByteArray)) ++ t148) ++ (⟨#[58]⟩ : ByteArray)) ++ t149) ++ (⟨#[58]⟩ : ByteArray)) ++ t150) ++ (⟨#[90]⟩ : ByteArray), 0)) else (none)) else (none))) else (none)) else (none))) else (none)) else (none))) else (none)) else (none))) else (none)) else (none))) else (none)))) else (some ((⟨#[]⟩ : ByteArray), 1))) = some (r1, r2) := H
  have A2 := Aside0.mk A20
  clear A20
  by_cases c3 : t139 = true
  · subst c3
    have H1 : ((tap_Date.f t135).bind fun bt141 => ((tap_pad.f bt141.1 4).bind fun t145 => (if t145.size + 1 ≤ 9223372036854775807 then ((tap_pad.f bt141.2.1 2).bind fun t146 => (if (t145 ++ (⟨#[45]⟩ : ByteArray)).size + t146.size ≤ 9223372036854775807 then (if ((t145 ++ (⟨#[45]⟩ : ByteArray)) ++ t146).size + 1 ≤ 9223372036854775807 then ((tap_pad.f bt141.2.2.1 2).bind fun t147 => (if (((t145 ++ (⟨#[45]⟩ : ByteArray)) ++ t146) ++ (⟨#[45]⟩ : ByteArray)).size + t147.size ≤ 9223372036854775807 then (if ((((t145 ++ (⟨#[45]⟩ : ByteArray)) ++ t146) ++ (⟨#[45]⟩ : ByteArray)) ++ t147).size + 1 ≤ 9223372036854775807 then ((tap_pad.f t136 2).bind fun t148 => (if (((((t145 ++ (⟨#[45]⟩ : ByteArray)) ++ t146) ++ (⟨#[45]⟩ : ByteArray)) ++ t147) ++ (⟨#[84]⟩ : ByteArray)).size + t148.size ≤ 9223372036854775807 then (if ((((((t145 ++ (⟨#[45]⟩ : ByteArray)) ++ t146) ++ (⟨#[45]⟩ : ByteArray)) ++ t147) ++ (⟨#[84]⟩ : ByteArray)) ++ t148).size + 1 ≤ 9223372036854775807 then ((tap_pad.f t137 2).bind fun t149 => (if (((((((t145 ++ (⟨#[45]⟩ : ByteArray)) ++ t146) ++ (⟨#[45]⟩ : ByteArray)) ++ t147) ++ (⟨#[84]⟩ : ByteArray)) ++ t148) ++ (⟨#[58]⟩ : ByteArray)).size + t149.size ≤ 9223372036854775807 then (if ((((((((t145 ++ (⟨#[45]⟩ : ByteArray)) ++ t146) ++ (⟨#[45]⟩ : ByteArray)) ++ t147) ++ (⟨#[84]⟩ : ByteArray)) ++ t148) ++ (⟨#[58]⟩ : ByteArray)) ++ t149).size + 1 ≤ 9223372036854775807 then ((tap_pad.f t138 2).bind fun t150 => (if (((((((((t145 ++ (⟨#[45]⟩ : ByteArray)) ++ t146) ++ (⟨#[45]⟩ : ByteArray)) ++ t147) ++ (⟨#[84]⟩ : ByteArray)) ++ t148) ++ (⟨#[58]⟩ : ByteArray)) ++ t149) ++ (⟨#[58]⟩ : ByteArray)).size + t150.size ≤ 9223372036854775807 then (if ((((((((((t145 ++ (⟨#[45]⟩ : ByteArray)) ++ t146) ++ (⟨#[45]⟩ : ByteArray)) ++ t147) ++ (⟨#[84]⟩ : ByteArray)) ++ t148) ++ (⟨#[58]⟩ : ByteArray)) ++ t149) ++ (⟨#[58]⟩ : ByteArray)) ++ t150).size + 1 ≤ 9223372036854775807 then (some (((((((((((t145 ++ (⟨#[45]⟩ : ByteArray)) ++ t146) ++ (⟨#[45]⟩ : ByteArray)) ++ t147) ++ (⟨#[84]⟩ : ByteArray)) ++ t148) ++ (⟨#[58]⟩ : ByteArray)) ++ t149) ++ (⟨#[58]⟩ : ByteArray)) ++ t150) ++ (⟨#[90]⟩ : ByteArray), 0)) else (none)) else (none))) else (none)) else (none))) else (none)) else (none))) else (none)) else (none))) else (none)) else (none))) else (none)))) = some (r1, r2) := by rw [if_pos rfl] at H; exact H
    clear H
    have H := H1
    clear H1
    replace H := Option.bind_eq_some_iff.mp H
    obtain ⟨⟨t141, t142, t143, t144⟩, A40, H⟩ := H
    replace H : ((tap_pad.f t141 4).bind fun t145 => (if t145.size + 1 ≤ 9223372036854775807 then ((tap_pad.f t142 2).bind fun t146 => (if (t145 ++ (⟨#[45]⟩ : ByteArray)).size + t146.size ≤ 9223372036854775807 then (if ((t145 ++ (⟨#[45]⟩ : ByteArray)) ++ t146).size + 1 ≤ 9223372036854775807 then ((tap_pad.f t143 2).bind fun t147 => (if (((t145 ++ (⟨#[45]⟩ : ByteArray)) ++ t146) ++ (⟨#[45]⟩ : ByteArray)).size + t147.size ≤ 9223372036854775807 then (if ((((t145 ++ (⟨#[45]⟩ : ByteArray)) ++ t146) ++ (⟨#[45]⟩ : ByteArray)) ++ t147).size + 1 ≤ 9223372036854775807 then ((tap_pad.f t136 2).bind fun t148 => (if (((((t145 ++ (⟨#[45]⟩ : ByteArray)) ++ t146) ++ (⟨#[45]⟩ : ByteArray)) ++ t147) ++ (⟨#[84]⟩ : ByteArray)).size + t148.size ≤ 9223372036854775807 then (if ((((((t145 ++ (⟨#[45]⟩ : ByteArray)) ++ t146) ++ (⟨#[45]⟩ : ByteArray)) ++ t147) ++ (⟨#[84]⟩ : ByteArray)) ++ t148).size + 1 ≤ 9223372036854775807 then ((tap_pad.f t137 2).bind fun t149 => (if (((((((t145 ++ (⟨#[45]⟩ : ByteArray)) ++ t146) ++ (⟨#[45]⟩ : ByteArray)) ++ t147) ++ (⟨#[84]⟩ : ByteArray)) ++ t148) ++ (⟨#[58]⟩ : ByteArray)).size + t149.size ≤ 9223372036854775807 then (if ((((((((t145 ++ (⟨#[45]⟩ : ByteArray)) ++ t146) ++ (⟨#[45]⟩ : ByteArray)) ++ t147) ++ (⟨#[84]⟩ : ByteArray)) ++ t148) ++ (⟨#[58]⟩ : ByteArray)) ++ t149).size + 1 ≤ 9223372036854775807 then ((tap_pad.f t138 2).bind fun t150 => (if (((((((((t145 ++ (⟨#[45]⟩ : ByteArray)) ++ t146) ++ (⟨#[45]⟩ : ByteArray)) ++ t147) ++ (⟨#[84]⟩ : ByteArray)) ++ t148) ++ (⟨#[58]⟩ : ByteArray)) ++ t149) ++ (⟨#[58]⟩ : ByteArray)).size + t150.size ≤ 9223372036854775807 then (if ((((((((((t145 ++ (⟨#[45]⟩ : ByteArray)) ++ t146) ++ (⟨#[45]⟩ : ByteArray)) ++ t147) ++ (⟨#[84]⟩ : ByteArray)) ++ t148) ++ (⟨#[58]⟩ : ByteArray)) ++ t149) ++ (⟨#[58]⟩ : ByteArray)) ++ t150).size + 1 ≤ 9223372036854775807 then (some (((((((((((t145 ++ (⟨#[45]⟩ : ByteArray)) ++ t146) ++ (⟨#[45]⟩ : ByteArray)) ++ t147) ++ (⟨#[84]⟩ : ByteArray)) ++ t148) ++ (⟨#[58]⟩ : ByteArray)) ++ t149) ++ (⟨#[58]⟩ : ByteArray)) ++ t150) ++ (⟨#[90]⟩ : ByteArray), 0)) else (none)) else (none))) else (none)) else (none))) else (none)) else (none))) else (none)) else (none))) else (none)) else (none))) else (none))) = some (r1, r2) := H
    have A4 := Aside0.mk A40
    clear A40
    replace H := Option.bind_eq_some_iff.mp H
    obtain ⟨t145, A50, H⟩ := H
    replace H : (if t145.size + 1 ≤ 9223372036854775807 then ((tap_pad.f t142 2).bind fun t146 => (if (t145 ++ (⟨#[45]⟩ : ByteArray)).size + t146.size ≤ 9223372036854775807 then (if ((t145 ++ (⟨#[45]⟩ : ByteArray)) ++ t146).size + 1 ≤ 9223372036854775807 then ((tap_pad.f t143 2).bind fun t147 => (if (((t145 ++ (⟨#[45]⟩ : ByteArray)) ++ t146) ++ (⟨#[45]⟩ : ByteArray)).size + t147.size ≤ 9223372036854775807 then (if ((((t145 ++ (⟨#[45]⟩ : ByteArray)) ++ t146) ++ (⟨#[45]⟩ : ByteArray)) ++ t147).size + 1 ≤ 9223372036854775807 then ((tap_pad.f t136 2).bind fun t148 => (if (((((t145 ++ (⟨#[45]⟩ : ByteArray)) ++ t146) ++ (⟨#[45]⟩ : ByteArray)) ++ t147) ++ (⟨#[84]⟩ : ByteArray)).size + t148.size ≤ 9223372036854775807 then (if ((((((t145 ++ (⟨#[45]⟩ : ByteArray)) ++ t146) ++ (⟨#[45]⟩ : ByteArray)) ++ t147) ++ (⟨#[84]⟩ : ByteArray)) ++ t148).size + 1 ≤ 9223372036854775807 then ((tap_pad.f t137 2).bind fun t149 => (if (((((((t145 ++ (⟨#[45]⟩ : ByteArray)) ++ t146) ++ (⟨#[45]⟩ : ByteArray)) ++ t147) ++ (⟨#[84]⟩ : ByteArray)) ++ t148) ++ (⟨#[58]⟩ : ByteArray)).size + t149.size ≤ 9223372036854775807 then (if ((((((((t145 ++ (⟨#[45]⟩ : ByteArray)) ++ t146) ++ (⟨#[45]⟩ : ByteArray)) ++ t147) ++ (⟨#[84]⟩ : ByteArray)) ++ t148) ++ (⟨#[58]⟩ : ByteArray)) ++ t149).size + 1 ≤ 9223372036854775807 then ((tap_pad.f t138 2).bind fun t150 => (if (((((((((t145 ++ (⟨#[45]⟩ : ByteArray)) ++ t146) ++ (⟨#[45]⟩ : ByteArray)) ++ t147) ++ (⟨#[84]⟩ : ByteArray)) ++ t148) ++ (⟨#[58]⟩ : ByteArray)) ++ t149) ++ (⟨#[58]⟩ : ByteArray)).size + t150.size ≤ 9223372036854775807 then (if ((((((((((t145 ++ (⟨#[45]⟩ : ByteArray)) ++ t146) ++ (⟨#[45]⟩ : ByteArray)) ++ t147) ++ (⟨#[84]⟩ : ByteArray)) ++ t148) ++ (⟨#[58]⟩ : ByteArray)) ++ t149) ++ (⟨#[58]⟩ : ByteArray)) ++ t150).size + 1 ≤ 9223372036854775807 then (some (((((((((((t145 ++ (⟨#[45]⟩ : ByteArray)) ++ t146) ++ (⟨#[45]⟩ : ByteArray)) ++ t147) ++ (⟨#[84]⟩ : ByteArray)) ++ t148) ++ (⟨#[58]⟩ : ByteArray)) ++ t149) ++ (⟨#[58]⟩ : ByteArray)) ++ t150) ++ (⟨#[90]⟩ : ByteArray), 0)) else (none)) else (none))) else (none)) else (none))) else (none)) else (none))) else (none)) else (none))) else (none)) else (none))) else (none)) = some (r1, r2) := H
    have A5 := Aside0.mk A50
    clear A50
    by_cases c6 : t145.size + 1 ≤ 9223372036854775807
    · rw [if_pos c6] at H
      have c6b0 := eq_true c6
      have c6b1 : decide (t145.size + 1 ≤ 9223372036854775807) = true := decide_eq_true c6
      try have c6b2 : (9223372036854775807 < t145.size + 1) = False := eq_false (Nat.not_lt.2 c6)
      replace H := Option.bind_eq_some_iff.mp H
      obtain ⟨t146, A70, H⟩ := H
      replace H : (if (t145 ++ (⟨#[45]⟩ : ByteArray)).size + t146.size ≤ 9223372036854775807 then (if ((t145 ++ (⟨#[45]⟩ : ByteArray)) ++ t146).size + 1 ≤ 9223372036854775807 then ((tap_pad.f t143 2).bind fun t147 => (if (((t145 ++ (⟨#[45]⟩ : ByteArray)) ++ t146) ++ (⟨#[45]⟩ : ByteArray)).size + t147.size ≤ 9223372036854775807 then (if ((((t145 ++ (⟨#[45]⟩ : ByteArray)) ++ t146) ++ (⟨#[45]⟩ : ByteArray)) ++ t147).size + 1 ≤ 9223372036854775807 then ((tap_pad.f t136 2).bind fun t148 => (if (((((t145 ++ (⟨#[45]⟩ : ByteArray)) ++ t146) ++ (⟨#[45]⟩ : ByteArray)) ++ t147) ++ (⟨#[84]⟩ : ByteArray)).size + t148.size ≤ 9223372036854775807 then (if ((((((t145 ++ (⟨#[45]⟩ : ByteArray)) ++ t146) ++ (⟨#[45]⟩ : ByteArray)) ++ t147) ++ (⟨#[84]⟩ : ByteArray)) ++ t148).size + 1 ≤ 9223372036854775807 then ((tap_pad.f t137 2).bind fun t149 => (if (((((((t145 ++ (⟨#[45]⟩ : ByteArray)) ++ t146) ++ (⟨#[45]⟩ : ByteArray)) ++ t147) ++ (⟨#[84]⟩ : ByteArray)) ++ t148) ++ (⟨#[58]⟩ : ByteArray)).size + t149.size ≤ 9223372036854775807 then (if ((((((((t145 ++ (⟨#[45]⟩ : ByteArray)) ++ t146) ++ (⟨#[45]⟩ : ByteArray)) ++ t147) ++ (⟨#[84]⟩ : ByteArray)) ++ t148) ++ (⟨#[58]⟩ : ByteArray)) ++ t149).size + 1 ≤ 9223372036854775807 then ((tap_pad.f t138 2).bind fun t150 => (if (((((((((t145 ++ (⟨#[45]⟩ : ByteArray)) ++ t146) ++ (⟨#[45]⟩ : ByteArray)) ++ t147) ++ (⟨#[84]⟩ : ByteArray)) ++ t148) ++ (⟨#[58]⟩ : ByteArray)) ++ t149) ++ (⟨#[58]⟩ : ByteArray)).size + t150.size ≤ 9223372036854775807 then (if ((((((((((t145 ++ (⟨#[45]⟩ : ByteArray)) ++ t146) ++ (⟨#[45]⟩ : ByteArray)) ++ t147) ++ (⟨#[84]⟩ : ByteArray)) ++ t148) ++ (⟨#[58]⟩ : ByteArray)) ++ t149) ++ (⟨#[58]⟩ : ByteArray)) ++ t150).size + 1 ≤ 9223372036854775807 then (some (((((((((((t145 ++ (⟨#[45]⟩ : ByteArray)) ++ t146) ++ (⟨#[45]⟩ : ByteArray)) ++ t147) ++ (⟨#[84]⟩ : ByteArray)) ++ t148) ++ (⟨#[58]⟩ : ByteArray)) ++ t149) ++ (⟨#[58]⟩ : ByteArray)) ++ t150) ++ (⟨#[90]⟩ : ByteArray), 0)) else (none)) else (none))) else (none)) else (none))) else (none)) else (none))) else (none)) else (none))) else (none)) else (none)) = some (r1, r2) := H
      have A7 := Aside0.mk A70
      clear A70
      by_cases c8 : (t145 ++ (⟨#[45]⟩ : ByteArray)).size + t146.size ≤ 9223372036854775807
      · rw [if_pos c8] at H
        have c8b0 := eq_true c8
        have c8b1 : decide ((t145 ++ (⟨#[45]⟩ : ByteArray)).size + t146.size ≤ 9223372036854775807) = true := decide_eq_true c8
        try have c8b3 : (9223372036854775807 < t145.size + 1 + t146.size) = False := eq_false (by have h_ := c8; (first | simp only [ByteArray.size_append, ByteArray.size_extract, Nat.min_self] at h_ | simp only [ByteArray.size_append] at h_); exact Nat.not_lt.2 h_)
        try have c8b2 : (9223372036854775807 < (t145 ++ (⟨#[45]⟩ : ByteArray)).size + t146.size) = False := eq_false (Nat.not_lt.2 c8)
        by_cases c9 : ((t145 ++ (⟨#[45]⟩ : ByteArray)) ++ t146).size + 1 ≤ 9223372036854775807
        · rw [if_pos c9] at H
          have c9b0 := eq_true c9
          have c9b1 : decide (((t145 ++ (⟨#[45]⟩ : ByteArray)) ++ t146).size + 1 ≤ 9223372036854775807) = true := decide_eq_true c9
          try have c9b3 : (9223372036854775807 < t145.size + 1 + t146.size + 1) = False := eq_false (by have h_ := c9; (first | simp only [ByteArray.size_append, ByteArray.size_extract, Nat.min_self] at h_ | simp only [ByteArray.size_append] at h_); exact Nat.not_lt.2 h_)
          try have c9b2 : (9223372036854775807 < ((t145 ++ (⟨#[45]⟩ : ByteArray)) ++ t146).size + 1) = False := eq_false (Nat.not_lt.2 c9)
          replace H := Option.bind_eq_some_iff.mp H
          obtain ⟨t147, A100, H⟩ := H
          replace H : (if (((t145 ++ (⟨#[45]⟩ : ByteArray)) ++ t146) ++ (⟨#[45]⟩ : ByteArray)).size + t147.size ≤ 9223372036854775807 then (if ((((t145 ++ (⟨#[45]⟩ : ByteArray)) ++ t146) ++ (⟨#[45]⟩ : ByteArray)) ++ t147).size + 1 ≤ 9223372036854775807 then ((tap_pad.f t136 2).bind fun t148 => (if (((((t145 ++ (⟨#[45]⟩ : ByteArray)) ++ t146) ++ (⟨#[45]⟩ : ByteArray)) ++ t147) ++ (⟨#[84]⟩ : ByteArray)).size + t148.size ≤ 9223372036854775807 then (if ((((((t145 ++ (⟨#[45]⟩ : ByteArray)) ++ t146) ++ (⟨#[45]⟩ : ByteArray)) ++ t147) ++ (⟨#[84]⟩ : ByteArray)) ++ t148).size + 1 ≤ 9223372036854775807 then ((tap_pad.f t137 2).bind fun t149 => (if (((((((t145 ++ (⟨#[45]⟩ : ByteArray)) ++ t146) ++ (⟨#[45]⟩ : ByteArray)) ++ t147) ++ (⟨#[84]⟩ : ByteArray)) ++ t148) ++ (⟨#[58]⟩ : ByteArray)).size + t149.size ≤ 9223372036854775807 then (if ((((((((t145 ++ (⟨#[45]⟩ : ByteArray)) ++ t146) ++ (⟨#[45]⟩ : ByteArray)) ++ t147) ++ (⟨#[84]⟩ : ByteArray)) ++ t148) ++ (⟨#[58]⟩ : ByteArray)) ++ t149).size + 1 ≤ 9223372036854775807 then ((tap_pad.f t138 2).bind fun t150 => (if (((((((((t145 ++ (⟨#[45]⟩ : ByteArray)) ++ t146) ++ (⟨#[45]⟩ : ByteArray)) ++ t147) ++ (⟨#[84]⟩ : ByteArray)) ++ t148) ++ (⟨#[58]⟩ : ByteArray)) ++ t149) ++ (⟨#[58]⟩ : ByteArray)).size + t150.size ≤ 9223372036854775807 then (if ((((((((((t145 ++ (⟨#[45]⟩ : ByteArray)) ++ t146) ++ (⟨#[45]⟩ : ByteArray)) ++ t147) ++ (⟨#[84]⟩ : ByteArray)) ++ t148) ++ (⟨#[58]⟩ : ByteArray)) ++ t149) ++ (⟨#[58]⟩ : ByteArray)) ++ t150).size + 1 ≤ 9223372036854775807 then (some (((((((((((t145 ++ (⟨#[45]⟩ : ByteArray)) ++ t146) ++ (⟨#[45]⟩ : ByteArray)) ++ t147) ++ (⟨#[84]⟩ : ByteArray)) ++ t148) ++ (⟨#[58]⟩ : ByteArray)) ++ t149) ++ (⟨#[58]⟩ : ByteArray)) ++ t150) ++ (⟨#[90]⟩ : ByteArray), 0)) else (none)) else (none))) else (none)) else (none))) else (none)) else (none))) else (none)) else (none)) = some (r1, r2) := H
          have A10 := Aside0.mk A100
          clear A100
          by_cases c11 : (((t145 ++ (⟨#[45]⟩ : ByteArray)) ++ t146) ++ (⟨#[45]⟩ : ByteArray)).size + t147.size ≤ 9223372036854775807
          · rw [if_pos c11] at H
            have c11b0 := eq_true c11
            have c11b1 : decide ((((t145 ++ (⟨#[45]⟩ : ByteArray)) ++ t146) ++ (⟨#[45]⟩ : ByteArray)).size + t147.size ≤ 9223372036854775807) = true := decide_eq_true c11
            try have c11b3 : (9223372036854775807 < t145.size + 1 + t146.size + 1 + t147.size) = False := eq_false (by have h_ := c11; (first | simp only [ByteArray.size_append, ByteArray.size_extract, Nat.min_self] at h_ | simp only [ByteArray.size_append] at h_); exact Nat.not_lt.2 h_)
            try have c11b2 : (9223372036854775807 < (((t145 ++ (⟨#[45]⟩ : ByteArray)) ++ t146) ++ (⟨#[45]⟩ : ByteArray)).size + t147.size) = False := eq_false (Nat.not_lt.2 c11)
            by_cases c12 : ((((t145 ++ (⟨#[45]⟩ : ByteArray)) ++ t146) ++ (⟨#[45]⟩ : ByteArray)) ++ t147).size + 1 ≤ 9223372036854775807
            · rw [if_pos c12] at H
              have c12b0 := eq_true c12
              have c12b1 : decide (((((t145 ++ (⟨#[45]⟩ : ByteArray)) ++ t146) ++ (⟨#[45]⟩ : ByteArray)) ++ t147).size + 1 ≤ 9223372036854775807) = true := decide_eq_true c12
              try have c12b3 : (9223372036854775807 < t145.size + 1 + t146.size + 1 + t147.size + 1) = False := eq_false (by have h_ := c12; (first | simp only [ByteArray.size_append, ByteArray.size_extract, Nat.min_self] at h_ | simp only [ByteArray.size_append] at h_); exact Nat.not_lt.2 h_)
              try have c12b2 : (9223372036854775807 < ((((t145 ++ (⟨#[45]⟩ : ByteArray)) ++ t146) ++ (⟨#[45]⟩ : ByteArray)) ++ t147).size + 1) = False := eq_false (Nat.not_lt.2 c12)
              replace H := Option.bind_eq_some_iff.mp H
              obtain ⟨t148, A130, H⟩ := H
              replace H : (if (((((t145 ++ (⟨#[45]⟩ : ByteArray)) ++ t146) ++ (⟨#[45]⟩ : ByteArray)) ++ t147) ++ (⟨#[84]⟩ : ByteArray)).size + t148.size ≤ 9223372036854775807 then (if ((((((t145 ++ (⟨#[45]⟩ : ByteArray)) ++ t146) ++ (⟨#[45]⟩ : ByteArray)) ++ t147) ++ (⟨#[84]⟩ : ByteArray)) ++ t148).size + 1 ≤ 9223372036854775807 then ((tap_pad.f t137 2).bind fun t149 => (if (((((((t145 ++ (⟨#[45]⟩ : ByteArray)) ++ t146) ++ (⟨#[45]⟩ : ByteArray)) ++ t147) ++ (⟨#[84]⟩ : ByteArray)) ++ t148) ++ (⟨#[58]⟩ : ByteArray)).size + t149.size ≤ 9223372036854775807 then (if ((((((((t145 ++ (⟨#[45]⟩ : ByteArray)) ++ t146) ++ (⟨#[45]⟩ : ByteArray)) ++ t147) ++ (⟨#[84]⟩ : ByteArray)) ++ t148) ++ (⟨#[58]⟩ : ByteArray)) ++ t149).size + 1 ≤ 9223372036854775807 then ((tap_pad.f t138 2).bind fun t150 => (if (((((((((t145 ++ (⟨#[45]⟩ : ByteArray)) ++ t146) ++ (⟨#[45]⟩ : ByteArray)) ++ t147) ++ (⟨#[84]⟩ : ByteArray)) ++ t148) ++ (⟨#[58]⟩ : ByteArray)) ++ t149) ++ (⟨#[58]⟩ : ByteArray)).size + t150.size ≤ 9223372036854775807 then (if ((((((((((t145 ++ (⟨#[45]⟩ : ByteArray)) ++ t146) ++ (⟨#[45]⟩ : ByteArray)) ++ t147) ++ (⟨#[84]⟩ : ByteArray)) ++ t148) ++ (⟨#[58]⟩ : ByteArray)) ++ t149) ++ (⟨#[58]⟩ : ByteArray)) ++ t150).size + 1 ≤ 9223372036854775807 then (some (((((((((((t145 ++ (⟨#[45]⟩ : ByteArray)) ++ t146) ++ (⟨#[45]⟩ : ByteArray)) ++ t147) ++ (⟨#[84]⟩ : ByteArray)) ++ t148) ++ (⟨#[58]⟩ : ByteArray)) ++ t149) ++ (⟨#[58]⟩ : ByteArray)) ++ t150) ++ (⟨#[90]⟩ : ByteArray), 0)) else (none)) else (none))) else (none)) else (none))) else (none)) else (none)) = some (r1, r2) := H
              have A13 := Aside0.mk A130
              clear A130
              by_cases c14 : (((((t145 ++ (⟨#[45]⟩ : ByteArray)) ++ t146) ++ (⟨#[45]⟩ : ByteArray)) ++ t147) ++ (⟨#[84]⟩ : ByteArray)).size + t148.size ≤ 9223372036854775807
              · rw [if_pos c14] at H
                have c14b0 := eq_true c14
                have c14b1 : decide ((((((t145 ++ (⟨#[45]⟩ : ByteArray)) ++ t146) ++ (⟨#[45]⟩ : ByteArray)) ++ t147) ++ (⟨#[84]⟩ : ByteArray)).size + t148.size ≤ 9223372036854775807) = true := decide_eq_true c14
                try have c14b3 : (9223372036854775807 < t145.size + 1 + t146.size + 1 + t147.size + 1 + t148.size) = False := eq_false (by have h_ := c14; (first | simp only [ByteArray.size_append, ByteArray.size_extract, Nat.min_self] at h_ | simp only [ByteArray.size_append] at h_); exact Nat.not_lt.2 h_)
                try have c14b2 : (9223372036854775807 < (((((t145 ++ (⟨#[45]⟩ : ByteArray)) ++ t146) ++ (⟨#[45]⟩ : ByteArray)) ++ t147) ++ (⟨#[84]⟩ : ByteArray)).size + t148.size) = False := eq_false (Nat.not_lt.2 c14)
                by_cases c15 : ((((((t145 ++ (⟨#[45]⟩ : ByteArray)) ++ t146) ++ (⟨#[45]⟩ : ByteArray)) ++ t147) ++ (⟨#[84]⟩ : ByteArray)) ++ t148).size + 1 ≤ 9223372036854775807
                · rw [if_pos c15] at H
                  have c15b0 := eq_true c15
                  have c15b1 : decide (((((((t145 ++ (⟨#[45]⟩ : ByteArray)) ++ t146) ++ (⟨#[45]⟩ : ByteArray)) ++ t147) ++ (⟨#[84]⟩ : ByteArray)) ++ t148).size + 1 ≤ 9223372036854775807) = true := decide_eq_true c15
                  try have c15b3 : (9223372036854775807 < t145.size + 1 + t146.size + 1 + t147.size + 1 + t148.size + 1) = False := eq_false (by have h_ := c15; (first | simp only [ByteArray.size_append, ByteArray.size_extract, Nat.min_self] at h_ | simp only [ByteArray.size_append] at h_); exact Nat.not_lt.2 h_)
                  try have c15b2 : (9223372036854775807 < ((((((t145 ++ (⟨#[45]⟩ : ByteArray)) ++ t146) ++ (⟨#[45]⟩ : ByteArray)) ++ t147) ++ (⟨#[84]⟩ : ByteArray)) ++ t148).size + 1) = False := eq_false (Nat.not_lt.2 c15)
                  replace H := Option.bind_eq_some_iff.mp H
                  obtain ⟨t149, A160, H⟩ := H
                  replace H : (if (((((((t145 ++ (⟨#[45]⟩ : ByteArray)) ++ t146) ++ (⟨#[45]⟩ : ByteArray)) ++ t147) ++ (⟨#[84]⟩ : ByteArray)) ++ t148) ++ (⟨#[58]⟩ : ByteArray)).size + t149.size ≤ 9223372036854775807 then (if ((((((((t145 ++ (⟨#[45]⟩ : ByteArray)) ++ t146) ++ (⟨#[45]⟩ : ByteArray)) ++ t147) ++ (⟨#[84]⟩ : ByteArray)) ++ t148) ++ (⟨#[58]⟩ : ByteArray)) ++ t149).size + 1 ≤ 9223372036854775807 then ((tap_pad.f t138 2).bind fun t150 => (if (((((((((t145 ++ (⟨#[45]⟩ : ByteArray)) ++ t146) ++ (⟨#[45]⟩ : ByteArray)) ++ t147) ++ (⟨#[84]⟩ : ByteArray)) ++ t148) ++ (⟨#[58]⟩ : ByteArray)) ++ t149) ++ (⟨#[58]⟩ : ByteArray)).size + t150.size ≤ 9223372036854775807 then (if ((((((((((t145 ++ (⟨#[45]⟩ : ByteArray)) ++ t146) ++ (⟨#[45]⟩ : ByteArray)) ++ t147) ++ (⟨#[84]⟩ : ByteArray)) ++ t148) ++ (⟨#[58]⟩ : ByteArray)) ++ t149) ++ (⟨#[58]⟩ : ByteArray)) ++ t150).size + 1 ≤ 9223372036854775807 then (some (((((((((((t145 ++ (⟨#[45]⟩ : ByteArray)) ++ t146) ++ (⟨#[45]⟩ : ByteArray)) ++ t147) ++ (⟨#[84]⟩ : ByteArray)) ++ t148) ++ (⟨#[58]⟩ : ByteArray)) ++ t149) ++ (⟨#[58]⟩ : ByteArray)) ++ t150) ++ (⟨#[90]⟩ : ByteArray), 0)) else (none)) else (none))) else (none)) else (none)) = some (r1, r2) := H
                  have A16 := Aside0.mk A160
                  clear A160
                  by_cases c17 : (((((((t145 ++ (⟨#[45]⟩ : ByteArray)) ++ t146) ++ (⟨#[45]⟩ : ByteArray)) ++ t147) ++ (⟨#[84]⟩ : ByteArray)) ++ t148) ++ (⟨#[58]⟩ : ByteArray)).size + t149.size ≤ 9223372036854775807
                  · rw [if_pos c17] at H
                    have c17b0 := eq_true c17
                    have c17b1 : decide ((((((((t145 ++ (⟨#[45]⟩ : ByteArray)) ++ t146) ++ (⟨#[45]⟩ : ByteArray)) ++ t147) ++ (⟨#[84]⟩ : ByteArray)) ++ t148) ++ (⟨#[58]⟩ : ByteArray)).size + t149.size ≤ 9223372036854775807) = true := decide_eq_true c17
                    try have c17b3 : (9223372036854775807 < t145.size + 1 + t146.size + 1 + t147.size + 1 + t148.size + 1 + t149.size) = False := eq_false (by have h_ := c17; (first | simp only [ByteArray.size_append, ByteArray.size_extract, Nat.min_self] at h_ | simp only [ByteArray.size_append] at h_); exact Nat.not_lt.2 h_)
                    try have c17b2 : (9223372036854775807 < (((((((t145 ++ (⟨#[45]⟩ : ByteArray)) ++ t146) ++ (⟨#[45]⟩ : ByteArray)) ++ t147) ++ (⟨#[84]⟩ : ByteArray)) ++ t148) ++ (⟨#[58]⟩ : ByteArray)).size + t149.size) = False := eq_false (Nat.not_lt.2 c17)
                    by_cases c18 : ((((((((t145 ++ (⟨#[45]⟩ : ByteArray)) ++ t146) ++ (⟨#[45]⟩ : ByteArray)) ++ t147) ++ (⟨#[84]⟩ : ByteArray)) ++ t148) ++ (⟨#[58]⟩ : ByteArray)) ++ t149).size + 1 ≤ 9223372036854775807
                    · rw [if_pos c18] at H
                      have c18b0 := eq_true c18
                      have c18b1 : decide (((((((((t145 ++ (⟨#[45]⟩ : ByteArray)) ++ t146) ++ (⟨#[45]⟩ : ByteArray)) ++ t147) ++ (⟨#[84]⟩ : ByteArray)) ++ t148) ++ (⟨#[58]⟩ : ByteArray)) ++ t149).size + 1 ≤ 9223372036854775807) = true := decide_eq_true c18
                      try have c18b3 : (9223372036854775807 < t145.size + 1 + t146.size + 1 + t147.size + 1 + t148.size + 1 + t149.size + 1) = False := eq_false (by have h_ := c18; (first | simp only [ByteArray.size_append, ByteArray.size_extract, Nat.min_self] at h_ | simp only [ByteArray.size_append] at h_); exact Nat.not_lt.2 h_)
                      try have c18b2 : (9223372036854775807 < ((((((((t145 ++ (⟨#[45]⟩ : ByteArray)) ++ t146) ++ (⟨#[45]⟩ : ByteArray)) ++ t147) ++ (⟨#[84]⟩ : ByteArray)) ++ t148) ++ (⟨#[58]⟩ : ByteArray)) ++ t149).size + 1) = False := eq_false (Nat.not_lt.2 c18)
                      replace H := Option.bind_eq_some_iff.mp H
                      obtain ⟨t150, A190, H⟩ := H
                      replace H : (if (((((((((t145 ++ (⟨#[45]⟩ : ByteArray)) ++ t146) ++ (⟨#[45]⟩ : ByteArray)) ++ t147) ++ (⟨#[84]⟩ : ByteArray)) ++ t148) ++ (⟨#[58]⟩ : ByteArray)) ++ t149) ++ (⟨#[58]⟩ : ByteArray)).size + t150.size ≤ 9223372036854775807 then (if ((((((((((t145 ++ (⟨#[45]⟩ : ByteArray)) ++ t146) ++ (⟨#[45]⟩ : ByteArray)) ++ t147) ++ (⟨#[84]⟩ : ByteArray)) ++ t148) ++ (⟨#[58]⟩ : ByteArray)) ++ t149) ++ (⟨#[58]⟩ : ByteArray)) ++ t150).size + 1 ≤ 9223372036854775807 then (some (((((((((((t145 ++ (⟨#[45]⟩ : ByteArray)) ++ t146) ++ (⟨#[45]⟩ : ByteArray)) ++ t147) ++ (⟨#[84]⟩ : ByteArray)) ++ t148) ++ (⟨#[58]⟩ : ByteArray)) ++ t149) ++ (⟨#[58]⟩ : ByteArray)) ++ t150) ++ (⟨#[90]⟩ : ByteArray), 0)) else (none)) else (none)) = some (r1, r2) := H
                      have A19 := Aside0.mk A190
                      clear A190
                      by_cases c20 : (((((((((t145 ++ (⟨#[45]⟩ : ByteArray)) ++ t146) ++ (⟨#[45]⟩ : ByteArray)) ++ t147) ++ (⟨#[84]⟩ : ByteArray)) ++ t148) ++ (⟨#[58]⟩ : ByteArray)) ++ t149) ++ (⟨#[58]⟩ : ByteArray)).size + t150.size ≤ 9223372036854775807
                      · rw [if_pos c20] at H
                        have c20b0 := eq_true c20
                        have c20b1 : decide ((((((((((t145 ++ (⟨#[45]⟩ : ByteArray)) ++ t146) ++ (⟨#[45]⟩ : ByteArray)) ++ t147) ++ (⟨#[84]⟩ : ByteArray)) ++ t148) ++ (⟨#[58]⟩ : ByteArray)) ++ t149) ++ (⟨#[58]⟩ : ByteArray)).size + t150.size ≤ 9223372036854775807) = true := decide_eq_true c20
                        try have c20b3 : (9223372036854775807 < t145.size + 1 + t146.size + 1 + t147.size + 1 + t148.size + 1 + t149.size + 1 + t150.size) = False := eq_false (by have h_ := c20; (first | simp only [ByteArray.size_append, ByteArray.size_extract, Nat.min_self] at h_ | simp only [ByteArray.size_append] at h_); exact Nat.not_lt.2 h_)
                        try have c20b2 : (9223372036854775807 < (((((((((t145 ++ (⟨#[45]⟩ : ByteArray)) ++ t146) ++ (⟨#[45]⟩ : ByteArray)) ++ t147) ++ (⟨#[84]⟩ : ByteArray)) ++ t148) ++ (⟨#[58]⟩ : ByteArray)) ++ t149) ++ (⟨#[58]⟩ : ByteArray)).size + t150.size) = False := eq_false (Nat.not_lt.2 c20)
                        by_cases c21 : ((((((((((t145 ++ (⟨#[45]⟩ : ByteArray)) ++ t146) ++ (⟨#[45]⟩ : ByteArray)) ++ t147) ++ (⟨#[84]⟩ : ByteArray)) ++ t148) ++ (⟨#[58]⟩ : ByteArray)) ++ t149) ++ (⟨#[58]⟩ : ByteArray)) ++ t150).size + 1 ≤ 9223372036854775807
                        · rw [if_pos c21] at H
                          have c21b0 := eq_true c21
                          have c21b1 : decide (((((((((((t145 ++ (⟨#[45]⟩ : ByteArray)) ++ t146) ++ (⟨#[45]⟩ : ByteArray)) ++ t147) ++ (⟨#[84]⟩ : ByteArray)) ++ t148) ++ (⟨#[58]⟩ : ByteArray)) ++ t149) ++ (⟨#[58]⟩ : ByteArray)) ++ t150).size + 1 ≤ 9223372036854775807) = true := decide_eq_true c21
                          try have c21b3 : (9223372036854775807 < t145.size + 1 + t146.size + 1 + t147.size + 1 + t148.size + 1 + t149.size + 1 + t150.size + 1) = False := eq_false (by have h_ := c21; (first | simp only [ByteArray.size_append, ByteArray.size_extract, Nat.min_self] at h_ | simp only [ByteArray.size_append] at h_); exact Nat.not_lt.2 h_)
                          try have c21b2 : (9223372036854775807 < ((((((((((t145 ++ (⟨#[45]⟩ : ByteArray)) ++ t146) ++ (⟨#[45]⟩ : ByteArray)) ++ t147) ++ (⟨#[84]⟩ : ByteArray)) ++ t148) ++ (⟨#[58]⟩ : ByteArray)) ++ t149) ++ (⟨#[58]⟩ : ByteArray)) ++ t150).size + 1) = False := eq_false (Nat.not_lt.2 c21)
                          simp only [Option.some.injEq, Prod.mk.injEq] at H
                          obtain ⟨rfl, rfl⟩ := H
                          go_enter Tryz.func18, Tryz.ntmps18
                          try go_wp2_with (first | ((with_reducible refine gate_callee (f := 31) rfl ?_); refine goesL_ (some 13) rfl rfl Tryz.func31 (by kernel_rfl) rfl #[.int .i64 a0] rfl (by (try simp only [List.map_toArray, List.map_cons, List.map_nil]); first | done | rfl | (simp only [List.length_drop, List.length_take]; rfl)) ?_; (with_reducible refine (tap_clock.calls a0 t135 t136 t137 t138 true _ A2.out).mono ?_); rintro e w22 ⟨rfl, hb⟩; refine ⟨_, rfl, ?_⟩; have n0_ := Aside0.mk (below_step (by repeat (first | (with_reducible first | exact HB.out | apply below_alloc | apply pw_below_drewN | apply below_drew1) | exact HB.out)) hb); clear HB; have HB := n0_; clear n0_; (try clear hb); (try clear hb2); (try clear hk); (try clear hi)) | ((with_reducible refine gate_dst (N := 5) rfl ?_); refine box_event ?hg (N := 5) ?hd (cs := #[.int .i64 0, .int .i64 0, .int .i64 0]) (t := 70) ?hr ?_; (case hd => rfl); (case hg => rfl); (case hr => first | (go_simp; done) | (go_simp; rfl)); intro gb140 hg w23 hbox hb; have n0_ := Aside0.mk (below_step (by repeat (first | (with_reducible first | exact HB.out | apply below_alloc | apply pw_below_drewN | apply below_drew1) | exact HB.out)) hb); have n1_ := Aside0.mk (hbox); have n2_ := Aside0.mk ((by rw [hg]; exact (below_size (by repeat (first | (with_reducible first | exact HB.out | apply below_alloc | apply pw_below_drewN | apply below_drew1) | exact HB.out))) : w.heap.size ≤ gb140)); have n3_ := Aside0.mk ((by rw [hg]; exact (below_size (by repeat (first | (with_reducible first | exact HB.out | apply below_alloc | apply pw_below_drewN | apply below_drew1) | exact HB.out))) : w.heap.size ≤ gb140)); clear HB; have HB := n0_; have BK140 := n1_; have GW140 := n2_; have GE140 := n3_; clear n0_ n1_ n2_ n3_; clear hb hbox hg; have hcz24_0 : w23.cell? ⟨gb140, 0, none⟩ = some (.int .i64 0) := (blk_cell BK140.out 0).trans rfl; have hcz24_1 : w23.cell? ⟨gb140, 1, none⟩ = some (.int .i64 0) := (blk_cell BK140.out 1).trans rfl; have hcz24_2 : w23.cell? ⟨gb140, 2, none⟩ = some (.int .i64 0) := (blk_cell BK140.out 2).trans rfl; have hfz24_0 := blk_frozen BK140.out 0; have hfz24_1 := blk_frozen BK140.out 1; have hfz24_2 := blk_frozen BK140.out 2) | ((with_reducible refine gate_callee (f := 32) rfl ?_); refine goesL_ (some 21) rfl rfl Tryz.func32 (by kernel_rfl) rfl #[.int .i64 t135] rfl (by (try simp only [List.map_toArray, List.map_cons, List.map_nil]); first | done | rfl | (simp only [List.length_drop, List.length_take]; rfl)) ?_; (with_reducible refine (tap_Date.calls t135 t141 t142 t143 t144 _ A4.out).mono ?_); rintro e w25 ⟨rfl, hb⟩; refine ⟨_, rfl, ?_⟩; have n0_ := Aside0.mk (blk_below (g := gb140) (o := .cells #[.int .i64 t136, .int .i64 t137, .int .i64 t138] 70 (0, 0)) (by (with_reducible repeat (first | refine blk_drewN ?_ _ | refine blk_drew ?_ | refine blk_alloc ?_ _)); refine blk_put (cs := #[.int .i64 t136, .int .i64 t137, .int .i64 0]) ?_ 2 _ rfl; (with_reducible repeat (first | refine blk_drewN ?_ _ | refine blk_drew ?_ | refine blk_alloc ?_ _)); refine blk_put (cs := #[.int .i64 t136, .int .i64 0, .int .i64 0]) ?_ 1 _ rfl; (with_reducible repeat (first | refine blk_drewN ?_ _ | refine blk_drew ?_ | refine blk_alloc ?_ _)); refine blk_put (cs := #[.int .i64 0, .int .i64 0, .int .i64 0]) ?_ 0 _ rfl; (with_reducible repeat (first | refine blk_drewN ?_ _ | refine blk_drew ?_ | refine blk_alloc ?_ _)); exact BK140.out) hb); have n1_ := Aside0.mk (below_step (by repeat (first | (with_reducible first | exact HB.out | apply below_alloc | apply pw_below_drewN | apply below_drew1 | refine below_set ?_ GE140.out) | exact HB.out)) hb); clear BK140; clear HB; have BK140 := n0_; have HB := n1_; clear n0_ n1_; (try clear hb); (try clear hb2); (try clear hk); (try clear hi)))
                          have n0_ := Aside0.mk (blk_drew BK140.out)
                          have n1_ := Aside0.mk (below_drew1 HB.out)
                          clear BK140
                          clear HB
                          have BK140 := n0_
                          have HB := n1_
                          clear n0_ n1_
                          refine start_ (n := 28) (S := fun w' => w'.cell? ⟨gb140, 0, none⟩ = some (.int .i64 t136) ∧ w'.cell? ⟨gb140, 1, none⟩ = some (.int .i64 t137) ∧ w'.cell? ⟨gb140, 2, none⟩ = some (.int .i64 t138)) (ds := []) #[false, false, false, false, false, false, false, false, false, false, false, false, false, false, false, false, false, false, false, false, false, false, false, false, false, false, false, false] (by kernel_rfl) rfl rfl ⟨(blk_cell BK140.out 0).trans rfl, (blk_cell BK140.out 1).trans rfl, (blk_cell BK140.out 2).trans rfl⟩ (fun hHeld => ?_); refine with_tabW tap_Stamp.tab5 tap_Stamp.bits5 (fun HT_ HW_ => ?_)
                          generalize w25.drew = w26 at BK140 HB hHeld ⊢
                          refine pure_ (i := 0) (N := some 26) (v := ?_) (a' := ?_) #[true, false, false, false, false, false, false, false, false, false, false, false, false, false, false, false, false, false, false, false, false, false, false, false, false, false, false, false] rfl rfl (any_of HT_.out (by kernel_rfl)) (fun _ _ _ h => h) (Or.inl ⟨by rfl, ?_⟩) ?_ ?_
                          rotate_left
                          · intro w'
                            go_simp
                            with_reducible rfl
                          rotate_left
                          · simp only [Act.put, List.setIfInBounds_toArray, List.set_cons_zero, List.set_cons_succ, i64_w, i32_w]
                            rfl
                          refine pure_ (i := 3) (N := some 29) (v := ?_) (a' := ?_) #[true, false, false, true, false, false, false, false, false, false, false, false, false, false, false, false, false, false, false, false, false, false, false, false, false, false, false, false] rfl rfl (any_of HT_.out (by kernel_rfl)) (fun _ _ _ h => h) (Or.inl ⟨by rfl, ?_⟩) ?_ ?_
                          rotate_left
                          · intro w'
                            go_simp
                            with_reducible rfl
                          rotate_left
                          · simp only [Act.put, List.setIfInBounds_toArray, List.set_cons_zero, List.set_cons_succ, i64_w, i32_w]
                            rfl
                          refine pure_ (i := 7) (N := some 33) (v := ?_) (a' := ?_) #[true, false, false, true, false, false, false, true, false, false, false, false, false, false, false, false, false, false, false, false, false, false, false, false, false, false, false, false] rfl rfl (any_of HT_.out (by kernel_rfl)) (fun _ _ _ h => h) (Or.inl ⟨by rfl, ?_⟩) ?_ ?_
                          rotate_left
                          · intro w'
                            go_simp
                            with_reducible rfl
                          rotate_left
                          · simp only [Act.put, List.setIfInBounds_toArray, List.set_cons_zero, List.set_cons_succ, i64_w, i32_w]
                            rfl
                          refine pure_ (i := 11) (N := some 37) (v := ?_) (a' := ?_) #[true, false, false, true, false, false, false, true, false, false, false, true, false, false, false, false, false, false, false, false, false, false, false, false, false, false, false, false] rfl rfl (any_of HT_.out (by kernel_rfl)) (fun _ _ _ h => h) (Or.inl ⟨by rfl, ?_⟩) ?_ ?_
                          rotate_left
                          · intro w'
                            go_simp
                            with_reducible rfl
                          rotate_left
                          · simp only [Act.put, List.setIfInBounds_toArray, List.set_cons_zero, List.set_cons_succ, i64_w, i32_w]
                            rfl
                          refine pure_ (i := 16) (N := some 42) (v := ?_) (a' := ?_) #[true, false, false, true, false, false, false, true, false, false, false, true, false, false, false, false, true, false, false, false, false, false, false, false, false, false, false, false] rfl rfl (any_of HT_.out (by kernel_rfl)) (fun _ _ _ h => h) (Or.inl ⟨by rfl, ?_⟩) ?_ ?_
                          rotate_left
                          · intro w'
                            go_simp
                            with_reducible rfl
                          rotate_left
                          · simp only [Act.put, List.setIfInBounds_toArray, List.set_cons_zero, List.set_cons_succ, i64_w, i32_w]
                            rfl
                          refine pure_ (i := 21) (N := some 47) (v := ?_) (a' := ?_) #[true, false, false, true, false, false, false, true, false, false, false, true, false, false, false, false, true, false, false, false, false, true, false, false, false, false, false, false] rfl rfl (any_of HT_.out (by kernel_rfl)) (fun _ _ _ h => h) (Or.inl ⟨by rfl, ?_⟩) ?_ ?_
                          rotate_left
                          · intro w'
                            go_simp
                            with_reducible rfl
                          rotate_left
                          · simp only [Act.put, List.setIfInBounds_toArray, List.set_cons_zero, List.set_cons_succ, i64_w, i32_w]
                            rfl
                          refine take_ (i := 12) (N := some 38) (v := ?_) (a' := ?_) #[true, false, false, true, false, false, false, true, false, false, false, true, true, false, false, false, true, false, false, false, false, true, false, false, false, false, false, false] rfl rfl (take_ofW HT_.out HW_.out (by kernel_rfl)) (fun _ _ _ h => h) (Or.inl ⟨by rfl, ?_⟩) hHeld ?_ ?_
                          rotate_left
                          · rintro w' ⟨s0, s1, s2⟩
                            go_simp
                            with_reducible rfl
                          rotate_left
                          · simp only [Act.put, List.setIfInBounds_toArray, List.set_cons_zero, List.set_cons_succ, i64_w, i32_w]
                            rfl
                          refine take_ (i := 17) (N := some 43) (v := ?_) (a' := ?_) #[true, false, false, true, false, false, false, true, false, false, false, true, true, false, false, false, true, true, false, false, false, true, false, false, false, false, false, false] rfl rfl (take_ofW HT_.out HW_.out (by kernel_rfl)) (fun _ _ _ h => h) (Or.inl ⟨by rfl, ?_⟩) hHeld ?_ ?_
                          rotate_left
                          · rintro w' ⟨s0, s1, s2⟩
                            go_simp
                            with_reducible rfl
                          rotate_left
                          · simp only [Act.put, List.setIfInBounds_toArray, List.set_cons_zero, List.set_cons_succ, i64_w, i32_w]
                            rfl
                          refine take_ (i := 22) (N := some 48) (v := ?_) (a' := ?_) #[true, false, false, true, false, false, false, true, false, false, false, true, true, false, false, false, true, true, false, false, false, true, true, false, false, false, false, false] rfl rfl (take_ofW HT_.out HW_.out (by kernel_rfl)) (fun _ _ _ h => h) (Or.inl ⟨by rfl, ?_⟩) hHeld ?_ ?_
                          rotate_left
                          · rintro w' ⟨s0, s1, s2⟩
                            go_simp
                            with_reducible rfl
                          rotate_left
                          · simp only [Act.put, List.setIfInBounds_toArray, List.set_cons_zero, List.set_cons_succ, i64_w, i32_w]
                            rfl
                          refine one_ (i := 1) (N := some 27) #[true, true, false, true, false, false, false, true, false, false, false, true, true, false, false, false, true, true, false, false, false, true, true, false, false, false, false, false] rfl rfl (one_of HT_.out (by kernel_rfl)) (by decide) (fun K hK => ?_)
                          refine goes_ Tryz.func33 (by kernel_rfl) rfl #[.int .i64 t141, .int .i64 4] (by rfl) rfl rfl (by (try simp only [List.map_toArray, List.map_cons, List.map_nil]); first | done | rfl | (simp only [List.length_drop, List.length_take]; rfl)) ?_
                          with_reducible refine (tap_pad.calls t141 4 t145 _ ?side1 A5.out).mono ?_
                          (case side1 => first | exact hL | exact LaidW.below hL (by repeat (first | (with_reducible first | exact HB.out | apply below_alloc | apply pw_below_drewN | apply below_drew1 | refine below_set ?_ GE140.out) | exact HB.out)))
                          rintro e w27 ⟨rfl, hb⟩
                          refine ⟨_, rfl, ?_⟩
                          have n0_ := Aside0.mk (blk_below (g := gb140) (o := .cells #[.int .i64 t136, .int .i64 t137, .int .i64 t138] 70 (0, 0)) (by (with_reducible repeat (first | refine blk_drewN ?_ _ | refine blk_drew ?_ | refine blk_alloc ?_ _)); exact BK140.out) hb)
                          have n1_ := Aside0.mk (below_step (by repeat (first | (with_reducible first | exact HB.out | apply below_alloc | apply pw_below_drewN | apply below_drew1 | refine below_set ?_ GE140.out) | exact HB.out)) hb)
                          clear BK140
                          clear HB
                          have BK140 := n0_
                          have HB := n1_
                          clear n0_ n1_
                          (try clear hb)
                          (try clear hb2)
                          (try clear hk)
                          (try clear hi)
                          refine hK.out _ _ ⟨(blk_cell BK140.out 0).trans rfl, (blk_cell BK140.out 1).trans rfl, (blk_cell BK140.out 2).trans rfl⟩ (fun hHeld => ?_)
                          clear hK K
                          refine norm_ (a' := ?_) ?_ ?_
                          rotate_left
                          · show Act.put _ (some 27) _ = _
                            simp only [Act.put, List.setIfInBounds_toArray, List.set_cons_zero, List.set_cons_succ, i64_w, i32_w]
                            rfl
                          refine pure_ (i := 2) (N := some 28) (v := ?_) (a' := ?_) #[true, true, true, true, false, false, false, true, false, false, false, true, true, false, false, false, true, true, false, false, false, true, true, false, false, false, false, false] rfl rfl (any_of HT_.out (by kernel_rfl)) (fun _ _ _ h => h) (Or.inl ⟨by rfl, ?_⟩) ?_ ?_
                          rotate_left
                          · intro w'
                            go_simp
                            with_reducible rfl
                          rotate_left
                          · simp only [Act.put, List.setIfInBounds_toArray, List.set_cons_zero, List.set_cons_succ, i64_w, i32_w]
                            rfl
                          refine one_ (i := 4) (N := some 30) #[true, true, true, true, true, false, false, true, false, false, false, true, true, false, false, false, true, true, false, false, false, true, true, false, false, false, false, false] rfl rfl (one_of HT_.out (by kernel_rfl)) (by decide) (fun K hK => ?_)
                          refine goes_ Tryz.func33 (by kernel_rfl) rfl #[.int .i64 t142, .int .i64 2] (by rfl) rfl rfl (by (try simp only [List.map_toArray, List.map_cons, List.map_nil]); first | done | rfl | (simp only [List.length_drop, List.length_take]; rfl)) ?_
                          with_reducible refine (tap_pad.calls t142 2 t146 _ ?side1 A7.out).mono ?_
                          (case side1 => first | exact hL | exact LaidW.below hL (by repeat (first | (with_reducible first | exact HB.out | apply below_alloc | apply pw_below_drewN | apply below_drew1 | refine below_set ?_ GE140.out) | exact HB.out)))
                          rintro e w28 ⟨rfl, hb⟩
                          refine ⟨_, rfl, ?_⟩
                          have n0_ := Aside0.mk (blk_below (g := gb140) (o := .cells #[.int .i64 t136, .int .i64 t137, .int .i64 t138] 70 (0, 0)) (by (with_reducible repeat (first | refine blk_drewN ?_ _ | refine blk_drew ?_ | refine blk_alloc ?_ _)); exact BK140.out) hb)
                          have n1_ := Aside0.mk (below_step (by repeat (first | (with_reducible first | exact HB.out | apply below_alloc | apply pw_below_drewN | apply below_drew1 | refine below_set ?_ GE140.out) | exact HB.out)) hb)
                          clear BK140
                          clear HB
                          have BK140 := n0_
                          have HB := n1_
                          clear n0_ n1_
                          (try clear hb)
                          (try clear hb2)
                          (try clear hk)
                          (try clear hi)
                          refine hK.out _ _ ⟨(blk_cell BK140.out 0).trans rfl, (blk_cell BK140.out 1).trans rfl, (blk_cell BK140.out 2).trans rfl⟩ (fun hHeld => ?_)
                          clear hK K
                          refine norm_ (a' := ?_) ?_ ?_
                          rotate_left
                          · show Act.put _ (some 30) _ = _
                            simp only [Act.put, List.setIfInBounds_toArray, List.set_cons_zero, List.set_cons_succ, i64_w, i32_w]
                            rfl
                          refine pure_ (i := 5) (N := some 31) (v := ?_) (a' := ?_) #[true, true, true, true, true, true, false, true, false, false, false, true, true, false, false, false, true, true, false, false, false, true, true, false, false, false, false, false] rfl rfl (any_of HT_.out (by kernel_rfl)) (fun _ _ _ h => h) (Or.inl ⟨by rfl, ?_⟩) ?_ ?_
                          rotate_left
                          · intro w'
                            go_simp
                            with_reducible rfl
                          rotate_left
                          · simp only [Act.put, List.setIfInBounds_toArray, List.set_cons_zero, List.set_cons_succ, i64_w, i32_w]
                            rfl
                          refine pure_ (i := 6) (N := some 32) (v := ?_) (a' := ?_) #[true, true, true, true, true, true, true, true, false, false, false, true, true, false, false, false, true, true, false, false, false, true, true, false, false, false, false, false] rfl rfl (any_of HT_.out (by kernel_rfl)) (fun _ _ _ h => h) (Or.inl ⟨by rfl, ?_⟩) ?_ ?_
                          rotate_left
                          · intro w'
                            go_simp
                            with_reducible rfl
                          rotate_left
                          · simp only [Act.put, List.setIfInBounds_toArray, List.set_cons_zero, List.set_cons_succ, i64_w, i32_w]
                            rfl
                          refine one_ (i := 8) (N := some 34) #[true, true, true, true, true, true, true, true, true, false, false, true, true, false, false, false, true, true, false, false, false, true, true, false, false, false, false, false] rfl rfl (one_of HT_.out (by kernel_rfl)) (by decide) (fun K hK => ?_)
                          refine goes_ Tryz.func33 (by kernel_rfl) rfl #[.int .i64 t143, .int .i64 2] (by rfl) rfl rfl (by (try simp only [List.map_toArray, List.map_cons, List.map_nil]); first | done | rfl | (simp only [List.length_drop, List.length_take]; rfl)) ?_
                          with_reducible refine (tap_pad.calls t143 2 t147 _ ?side1 A10.out).mono ?_
                          (case side1 => first | exact hL | exact LaidW.below hL (by repeat (first | (with_reducible first | exact HB.out | apply below_alloc | apply pw_below_drewN | apply below_drew1 | refine below_set ?_ GE140.out) | exact HB.out)))
                          rintro e w29 ⟨rfl, hb⟩
                          refine ⟨_, rfl, ?_⟩
                          have n0_ := Aside0.mk (blk_below (g := gb140) (o := .cells #[.int .i64 t136, .int .i64 t137, .int .i64 t138] 70 (0, 0)) (by (with_reducible repeat (first | refine blk_drewN ?_ _ | refine blk_drew ?_ | refine blk_alloc ?_ _)); exact BK140.out) hb)
                          have n1_ := Aside0.mk (below_step (by repeat (first | (with_reducible first | exact HB.out | apply below_alloc | apply pw_below_drewN | apply below_drew1 | refine below_set ?_ GE140.out) | exact HB.out)) hb)
                          clear BK140
                          clear HB
                          have BK140 := n0_
                          have HB := n1_
                          clear n0_ n1_
                          (try clear hb)
                          (try clear hb2)
                          (try clear hk)
                          (try clear hi)
                          refine hK.out _ _ ⟨(blk_cell BK140.out 0).trans rfl, (blk_cell BK140.out 1).trans rfl, (blk_cell BK140.out 2).trans rfl⟩ (fun hHeld => ?_)
                          clear hK K
                          refine norm_ (a' := ?_) ?_ ?_
                          rotate_left
                          · show Act.put _ (some 34) _ = _
                            simp only [Act.put, List.setIfInBounds_toArray, List.set_cons_zero, List.set_cons_succ, i64_w, i32_w]
                            rfl
                          refine pure_ (i := 9) (N := some 35) (v := ?_) (a' := ?_) #[true, true, true, true, true, true, true, true, true, true, false, true, true, false, false, false, true, true, false, false, false, true, true, false, false, false, false, false] rfl rfl (any_of HT_.out (by kernel_rfl)) (fun _ _ _ h => h) (Or.inl ⟨by rfl, ?_⟩) ?_ ?_
                          rotate_left
                          · intro w'
                            go_simp
                            with_reducible rfl
                          rotate_left
                          · simp only [Act.put, List.setIfInBounds_toArray, List.set_cons_zero, List.set_cons_succ, i64_w, i32_w]
                            rfl
                          refine pure_ (i := 10) (N := some 36) (v := ?_) (a' := ?_) #[true, true, true, true, true, true, true, true, true, true, true, true, true, false, false, false, true, true, false, false, false, true, true, false, false, false, false, false] rfl rfl (any_of HT_.out (by kernel_rfl)) (fun _ _ _ h => h) (Or.inl ⟨by rfl, ?_⟩) ?_ ?_
                          rotate_left
                          · intro w'
                            go_simp
                            with_reducible rfl
                          rotate_left
                          · simp only [Act.put, List.setIfInBounds_toArray, List.set_cons_zero, List.set_cons_succ, i64_w, i32_w]
                            rfl
                          refine one_ (i := 13) (N := some 39) #[true, true, true, true, true, true, true, true, true, true, true, true, true, true, false, false, true, true, false, false, false, true, true, false, false, false, false, false] rfl rfl (one_of HT_.out (by kernel_rfl)) (by decide) (fun K hK => ?_)
                          refine goes_ Tryz.func33 (by kernel_rfl) rfl #[.int .i64 t136, .int .i64 2] (by rfl) rfl rfl (by (try simp only [List.map_toArray, List.map_cons, List.map_nil]); first | done | rfl | (simp only [List.length_drop, List.length_take]; rfl)) ?_
                          with_reducible refine (tap_pad.calls t136 2 t148 _ ?side1 A13.out).mono ?_
                          (case side1 => first | exact hL | exact LaidW.below hL (by repeat (first | (with_reducible first | exact HB.out | apply below_alloc | apply pw_below_drewN | apply below_drew1 | refine below_set ?_ GE140.out) | exact HB.out)))
                          rintro e w30 ⟨rfl, hb⟩
                          refine ⟨_, rfl, ?_⟩
                          have n0_ := Aside0.mk (blk_below (g := gb140) (o := .cells #[.int .i64 t136, .int .i64 t137, .int .i64 t138] 70 (0, 0)) (by (with_reducible repeat (first | refine blk_drewN ?_ _ | refine blk_drew ?_ | refine blk_alloc ?_ _)); exact BK140.out) hb)
                          have n1_ := Aside0.mk (below_step (by repeat (first | (with_reducible first | exact HB.out | apply below_alloc | apply pw_below_drewN | apply below_drew1 | refine below_set ?_ GE140.out) | exact HB.out)) hb)
                          clear BK140
                          clear HB
                          have BK140 := n0_
                          have HB := n1_
                          clear n0_ n1_
                          (try clear hb)
                          (try clear hb2)
                          (try clear hk)
                          (try clear hi)
                          refine hK.out _ _ ⟨(blk_cell BK140.out 0).trans rfl, (blk_cell BK140.out 1).trans rfl, (blk_cell BK140.out 2).trans rfl⟩ (fun hHeld => ?_)
                          clear hK K
                          refine norm_ (a' := ?_) ?_ ?_
                          rotate_left
                          · show Act.put _ (some 39) _ = _
                            simp only [Act.put, List.setIfInBounds_toArray, List.set_cons_zero, List.set_cons_succ, i64_w, i32_w]
                            rfl
                          refine pure_ (i := 14) (N := some 40) (v := ?_) (a' := ?_) #[true, true, true, true, true, true, true, true, true, true, true, true, true, true, true, false, true, true, false, false, false, true, true, false, false, false, false, false] rfl rfl (any_of HT_.out (by kernel_rfl)) (fun _ _ _ h => h) (Or.inl ⟨by rfl, ?_⟩) ?_ ?_
                          rotate_left
                          · intro w'
                            go_simp
                            with_reducible rfl
                          rotate_left
                          · simp only [Act.put, List.setIfInBounds_toArray, List.set_cons_zero, List.set_cons_succ, i64_w, i32_w]
                            rfl
                          refine pure_ (i := 15) (N := some 41) (v := ?_) (a' := ?_) #[true, true, true, true, true, true, true, true, true, true, true, true, true, true, true, true, true, true, false, false, false, true, true, false, false, false, false, false] rfl rfl (any_of HT_.out (by kernel_rfl)) (fun _ _ _ h => h) (Or.inl ⟨by rfl, ?_⟩) ?_ ?_
                          rotate_left
                          · intro w'
                            go_simp
                            with_reducible rfl
                          rotate_left
                          · simp only [Act.put, List.setIfInBounds_toArray, List.set_cons_zero, List.set_cons_succ, i64_w, i32_w]
                            rfl
                          refine one_ (i := 18) (N := some 44) #[true, true, true, true, true, true, true, true, true, true, true, true, true, true, true, true, true, true, true, false, false, true, true, false, false, false, false, false] rfl rfl (one_of HT_.out (by kernel_rfl)) (by decide) (fun K hK => ?_)
                          refine goes_ Tryz.func33 (by kernel_rfl) rfl #[.int .i64 t137, .int .i64 2] (by rfl) rfl rfl (by (try simp only [List.map_toArray, List.map_cons, List.map_nil]); first | done | rfl | (simp only [List.length_drop, List.length_take]; rfl)) ?_
                          with_reducible refine (tap_pad.calls t137 2 t149 _ ?side1 A16.out).mono ?_
                          (case side1 => first | exact hL | exact LaidW.below hL (by repeat (first | (with_reducible first | exact HB.out | apply below_alloc | apply pw_below_drewN | apply below_drew1 | refine below_set ?_ GE140.out) | exact HB.out)))
                          rintro e w31 ⟨rfl, hb⟩
                          refine ⟨_, rfl, ?_⟩
                          have n0_ := Aside0.mk (blk_below (g := gb140) (o := .cells #[.int .i64 t136, .int .i64 t137, .int .i64 t138] 70 (0, 0)) (by (with_reducible repeat (first | refine blk_drewN ?_ _ | refine blk_drew ?_ | refine blk_alloc ?_ _)); exact BK140.out) hb)
                          have n1_ := Aside0.mk (below_step (by repeat (first | (with_reducible first | exact HB.out | apply below_alloc | apply pw_below_drewN | apply below_drew1 | refine below_set ?_ GE140.out) | exact HB.out)) hb)
                          clear BK140
                          clear HB
                          have BK140 := n0_
                          have HB := n1_
                          clear n0_ n1_
                          (try clear hb)
                          (try clear hb2)
                          (try clear hk)
                          (try clear hi)
                          refine hK.out _ _ ⟨(blk_cell BK140.out 0).trans rfl, (blk_cell BK140.out 1).trans rfl, (blk_cell BK140.out 2).trans rfl⟩ (fun hHeld => ?_)
                          clear hK K
                          refine norm_ (a' := ?_) ?_ ?_
                          rotate_left
                          · show Act.put _ (some 44) _ = _
                            simp only [Act.put, List.setIfInBounds_toArray, List.set_cons_zero, List.set_cons_succ, i64_w, i32_w]
                            rfl
                          refine pure_ (i := 19) (N := some 45) (v := ?_) (a' := ?_) #[true, true, true, true, true, true, true, true, true, true, true, true, true, true, true, true, true, true, true, true, false, true, true, false, false, false, false, false] rfl rfl (any_of HT_.out (by kernel_rfl)) (fun _ _ _ h => h) (Or.inl ⟨by rfl, ?_⟩) ?_ ?_
                          rotate_left
                          · intro w'
                            go_simp
                            with_reducible rfl
                          rotate_left
                          · simp only [Act.put, List.setIfInBounds_toArray, List.set_cons_zero, List.set_cons_succ, i64_w, i32_w]
                            rfl
                          refine pure_ (i := 20) (N := some 46) (v := ?_) (a' := ?_) #[true, true, true, true, true, true, true, true, true, true, true, true, true, true, true, true, true, true, true, true, true, true, true, false, false, false, false, false] rfl rfl (any_of HT_.out (by kernel_rfl)) (fun _ _ _ h => h) (Or.inl ⟨by rfl, ?_⟩) ?_ ?_
                          rotate_left
                          · intro w'
                            go_simp
                            with_reducible rfl
                          rotate_left
                          · simp only [Act.put, List.setIfInBounds_toArray, List.set_cons_zero, List.set_cons_succ, i64_w, i32_w]
                            rfl
                          refine one_ (i := 23) (N := some 49) #[true, true, true, true, true, true, true, true, true, true, true, true, true, true, true, true, true, true, true, true, true, true, true, true, false, false, false, false] rfl rfl (one_of HT_.out (by kernel_rfl)) (by decide) (fun K hK => ?_)
                          refine goes_ Tryz.func33 (by kernel_rfl) rfl #[.int .i64 t138, .int .i64 2] (by rfl) rfl rfl (by (try simp only [List.map_toArray, List.map_cons, List.map_nil]); first | done | rfl | (simp only [List.length_drop, List.length_take]; rfl)) ?_
                          with_reducible refine (tap_pad.calls t138 2 t150 _ ?side1 A19.out).mono ?_
                          (case side1 => first | exact hL | exact LaidW.below hL (by repeat (first | (with_reducible first | exact HB.out | apply below_alloc | apply pw_below_drewN | apply below_drew1 | refine below_set ?_ GE140.out) | exact HB.out)))
                          rintro e w32 ⟨rfl, hb⟩
                          refine ⟨_, rfl, ?_⟩
                          have n0_ := Aside0.mk (blk_below (g := gb140) (o := .cells #[.int .i64 t136, .int .i64 t137, .int .i64 t138] 70 (0, 0)) (by (with_reducible repeat (first | refine blk_drewN ?_ _ | refine blk_drew ?_ | refine blk_alloc ?_ _)); exact BK140.out) hb)
                          have n1_ := Aside0.mk (below_step (by repeat (first | (with_reducible first | exact HB.out | apply below_alloc | apply pw_below_drewN | apply below_drew1 | refine below_set ?_ GE140.out) | exact HB.out)) hb)
                          clear BK140
                          clear HB
                          have BK140 := n0_
                          have HB := n1_
                          clear n0_ n1_
                          (try clear hb)
                          (try clear hb2)
                          (try clear hk)
                          (try clear hi)
                          refine hK.out _ _ ⟨(blk_cell BK140.out 0).trans rfl, (blk_cell BK140.out 1).trans rfl, (blk_cell BK140.out 2).trans rfl⟩ (fun hHeld => ?_)
                          clear hK K
                          refine norm_ (a' := ?_) ?_ ?_
                          rotate_left
                          · show Act.put _ (some 49) _ = _
                            simp only [Act.put, List.setIfInBounds_toArray, List.set_cons_zero, List.set_cons_succ, i64_w, i32_w]
                            rfl
                          refine pure_ (i := 24) (N := some 50) (v := ?_) (a' := ?_) #[true, true, true, true, true, true, true, true, true, true, true, true, true, true, true, true, true, true, true, true, true, true, true, true, true, false, false, false] rfl rfl (any_of HT_.out (by kernel_rfl)) (fun _ _ _ h => h) (Or.inl ⟨by rfl, ?_⟩) ?_ ?_
                          rotate_left
                          · intro w'
                            go_simp
                            with_reducible rfl
                          rotate_left
                          · simp only [Act.put, List.setIfInBounds_toArray, List.set_cons_zero, List.set_cons_succ, i64_w, i32_w]
                            rfl
                          refine pure_ (i := 25) (N := some 51) (v := ?_) (a' := ?_) #[true, true, true, true, true, true, true, true, true, true, true, true, true, true, true, true, true, true, true, true, true, true, true, true, true, true, false, false] rfl rfl (any_of HT_.out (by kernel_rfl)) (fun _ _ _ h => h) (Or.inl ⟨by rfl, ?_⟩) ?_ ?_
                          rotate_left
                          · intro w'
                            go_simp
                            with_reducible rfl
                          rotate_left
                          · simp only [Act.put, List.setIfInBounds_toArray, List.set_cons_zero, List.set_cons_succ, i64_w, i32_w]
                            rfl
                          refine pure_ (i := 26) (N := some 2) (v := ?_) (a' := ?_) #[true, true, true, true, true, true, true, true, true, true, true, true, true, true, true, true, true, true, true, true, true, true, true, true, true, true, true, false] rfl rfl (any_of HT_.out (by kernel_rfl)) (fun _ _ _ h => h) (Or.inl ⟨by rfl, ?_⟩) ?_ ?_
                          rotate_left
                          · intro w'
                            go_simp
                            with_reducible rfl
                          rotate_left
                          · simp only [Act.put, List.setIfInBounds_toArray, List.set_cons_zero, List.set_cons_succ, i64_w, i32_w]
                            rfl
                          refine pure_ (i := 27) (N := some 3) (v := ?_) (a' := ?_) #[true, true, true, true, true, true, true, true, true, true, true, true, true, true, true, true, true, true, true, true, true, true, true, true, true, true, true, true] rfl rfl (any_of HT_.out (by kernel_rfl)) (fun _ _ _ h => h) (Or.inl ⟨by rfl, ?_⟩) ?_ ?_
                          rotate_left
                          · intro w'
                            go_simp
                            with_reducible rfl
                          rotate_left
                          · simp only [Act.put, List.setIfInBounds_toArray, List.set_cons_zero, List.set_cons_succ, i64_w, i32_w]
                            rfl
                          refine done_ (done_of HT_.out (by kernel_rfl)) ?_
                          try go_wp2
                          go_ret2
                          exact ⟨by first | rfl | (simp [errW_none, errW_some] <;> rfl) | (simp [*, errW_none, errW_some] <;> rfl), by repeat (first | (with_reducible first | exact HB.out | apply below_alloc | apply pw_below_drewN | apply below_drew1 | refine below_set ?_ GE140.out) | exact HB.out)⟩
                        · rw [if_neg c21] at H
                          exact absurd H (by simp)
                      · rw [if_neg c20] at H
                        exact absurd H (by simp)
                    · rw [if_neg c18] at H
                      exact absurd H (by simp)
                  · rw [if_neg c17] at H
                    exact absurd H (by simp)
                · rw [if_neg c15] at H
                  exact absurd H (by simp)
              · rw [if_neg c14] at H
                exact absurd H (by simp)
            · rw [if_neg c12] at H
              exact absurd H (by simp)
          · rw [if_neg c11] at H
            exact absurd H (by simp)
        · rw [if_neg c9] at H
          exact absurd H (by simp)
      · rw [if_neg c8] at H
        exact absurd H (by simp)
    · rw [if_neg c6] at H
      exact absurd H (by simp)
  · replace c3 := Bool.eq_false_iff.mpr c3
    subst c3
    have H1 : (some ((⟨#[]⟩ : ByteArray), 1)) = some (r1, r2) := by rw [if_neg (show ¬ (false = true) by decide)] at H; exact H
    clear H
    have H := H1
    clear H1
    simp only [Option.some.injEq, Prod.mk.injEq] at H
    obtain ⟨rfl, rfl⟩ := H
    go_enter Tryz.func18, Tryz.ntmps18
    go_wp2_with (first | ((with_reducible refine gate_callee (f := 31) rfl ?_); refine goesL_ (some 13) rfl rfl Tryz.func31 (by kernel_rfl) rfl #[.int .i64 a0] rfl (by (try simp only [List.map_toArray, List.map_cons, List.map_nil]); first | done | rfl | (simp only [List.length_drop, List.length_take]; rfl)) ?_; (with_reducible refine (tap_clock.calls a0 t135 t136 t137 t138 false _ A2.out).mono ?_); rintro e w33 ⟨rfl, hb⟩; refine ⟨_, rfl, ?_⟩; have n0_ := Aside0.mk (below_step (by repeat (first | (with_reducible first | exact HB.out | apply below_alloc | apply pw_below_drewN | apply below_drew1) | exact HB.out)) hb); clear HB; have HB := n0_; clear n0_; (try clear hb); (try clear hb2); (try clear hk); (try clear hi)) | ((with_reducible refine gate_dst (N := 5) rfl ?_); refine box_event ?hg (N := 5) ?hd (cs := #[.int .i64 0, .int .i64 0, .int .i64 0]) (t := 70) ?hr ?_; (case hd => rfl); (case hg => rfl); (case hr => first | (go_simp; done) | (go_simp; rfl)); intro gb140 hg w34 hbox hb; have n0_ := Aside0.mk (below_step (by repeat (first | (with_reducible first | exact HB.out | apply below_alloc | apply pw_below_drewN | apply below_drew1) | exact HB.out)) hb); have n1_ := Aside0.mk (hbox); have n2_ := Aside0.mk ((by rw [hg]; exact (below_size (by repeat (first | (with_reducible first | exact HB.out | apply below_alloc | apply pw_below_drewN | apply below_drew1) | exact HB.out))) : w.heap.size ≤ gb140)); have n3_ := Aside0.mk ((by rw [hg]; exact (below_size (by repeat (first | (with_reducible first | exact HB.out | apply below_alloc | apply pw_below_drewN | apply below_drew1) | exact HB.out))) : w.heap.size ≤ gb140)); clear HB; have HB := n0_; have BK140 := n1_; have GW140 := n2_; have GE140 := n3_; clear n0_ n1_ n2_ n3_; clear hb hbox hg; have hcz35_0 : w34.cell? ⟨gb140, 0, none⟩ = some (.int .i64 0) := (blk_cell BK140.out 0).trans rfl; have hcz35_1 : w34.cell? ⟨gb140, 1, none⟩ = some (.int .i64 0) := (blk_cell BK140.out 1).trans rfl; have hcz35_2 : w34.cell? ⟨gb140, 2, none⟩ = some (.int .i64 0) := (blk_cell BK140.out 2).trans rfl; have hfz35_0 := blk_frozen BK140.out 0; have hfz35_1 := blk_frozen BK140.out 1; have hfz35_2 := blk_frozen BK140.out 2))
    go_ret2
    exact ⟨by first | rfl | (simp [errW_none, errW_some] <;> rfl) | (simp [*, errW_none, errW_some] <;> rfl), by repeat (first | (with_reducible first | exact HB.out | apply below_alloc | apply pw_below_drewN | apply below_drew1 | refine below_set ?_ GE140.out) | exact HB.out)⟩

/-! ### tap_zone: function 35 -/
mutual
def tap_zone.j0 : Nat → ByteArray → Bool → Option (Int × Bool)
  | 0, _, _ => none
  | k + 1, x0, x20 => if x20 = true then (some (0, false)) else (if 1 ≤ (x0.size : Int) then ((tap_fields.f (x0.extract 1 x0.size) (⟨#[48, 48, 58, 48, 48]⟩ : ByteArray)).bind fun bt151 => (if bt151.2 = true then (if 0 < (bt151.1.length : Int) then (if (rd bt151.1 0) > 23 then (tap_zone.j1 k x0 bt151.1 true) else (if 1 < (bt151.1.length : Int) then (tap_zone.j1 k x0 bt151.1 (decide ((rd bt151.1 1) > 59))) else (none))) else (none)) else (tap_zone.j1 k x0 bt151.1 true))) else (none))
def tap_zone.j1 : Nat → ByteArray → List Int → Bool → Option (Int × Bool)
  | 0, _, _, _ => none
  | k + 1, x0, x4, x40 => if x40 = true then (some (0, false)) else (if 0 < (x4.length : Int) then (if 1 < (x4.length : Int) then (if 0 < (x0.size : Int) then (if (bt x0 0) = 45 then (some (wrap64 (-(wrap64 ((wrap64 (3600 * (rd x4 0))) + (wrap64 (60 * (rd x4 1)))))), true)) else (some (wrap64 ((wrap64 (3600 * (rd x4 0))) + (wrap64 (60 * (rd x4 1)))), true))) else (none)) else (none)) else (none))
end
def tap_zone.f (k : Nat) (a0 : ByteArray) : Option (Int × Bool) := if a0.toList = ([90] : List UInt8) then (some (0, true)) else (if a0.toList = ([] : List UInt8) then (tap_zone.j0 k a0 true) else (if 0 < (a0.size : Int) then (if (bt a0 0) = 43 then (tap_zone.j0 k a0 false) else (tap_zone.j0 k a0 ((bt a0 0) != 45))) else (none)))
theorem tap_zone.mono_l : ∀ k, (∀ y0 y1, LeO (tap_zone.j0 k y0 y1) (tap_zone.j0 (k + 1) y0 y1)) ∧ (∀ y0 y1 y2, LeO (tap_zone.j1 k y0 y1 y2) (tap_zone.j1 (k + 1) y0 y1 y2))
  | 0 => ⟨fun _ _ r h => by simp [tap_zone.j0] at h, fun _ _ _ r h => by simp [tap_zone.j1] at h⟩
  | k + 1 => by
    obtain ⟨ih0, ih1⟩ := tap_zone.mono_l k
    refine ⟨?_, ?_⟩
    · intro y0 y1
      unfold tap_zone.j0
      repeat' first
      | (with_reducible exact ih0 _ _)
      | (with_reducible exact ih1 _ _ _)
      | (with_reducible exact LeO.refl _)
      | (with_reducible exact LeO.none _)
      | (with_reducible refine LeO.ite ?_ ?_)
      | (with_reducible refine LeO.bind ?_ (fun _ => ?_))
      | exact ih0 _ _
      | exact ih1 _ _ _
      | exact LeO.none _
      | refine LeO.ite ?_ ?_
      | refine LeO.bind ?_ (fun _ => ?_)
    · intro y0 y1 y2
      unfold tap_zone.j1
      repeat' first
      | (with_reducible exact ih0 _ _)
      | (with_reducible exact ih1 _ _ _)
      | (with_reducible exact LeO.refl _)
      | (with_reducible exact LeO.none _)
      | (with_reducible refine LeO.ite ?_ ?_)
      | (with_reducible refine LeO.bind ?_ (fun _ => ?_))
      | exact ih0 _ _
      | exact ih1 _ _ _
      | exact LeO.none _
      | refine LeO.ite ?_ ?_
      | refine LeO.bind ?_ (fun _ => ?_)
theorem tap_zone.mono : ∀ a0 k, LeO (tap_zone.f k a0) (tap_zone.f (k + 1) a0) := by
  intro a0 k
  obtain ⟨ih0, ih1⟩ := tap_zone.mono_l k
  unfold tap_zone.f
  repeat' first
      | (with_reducible exact ih0 _ _)
      | (with_reducible exact ih1 _ _ _)
      | (with_reducible exact LeO.refl _)
      | (with_reducible exact LeO.none _)
      | (with_reducible refine LeO.ite ?_ ?_)
      | (with_reducible refine LeO.bind ?_ (fun _ => ?_))
      | exact ih0 _ _
      | exact ih1 _ _ _
      | exact LeO.none _
      | refine LeO.ite ?_ ?_
      | refine LeO.bind ?_ (fun _ => ?_)
set_option maxHeartbeats 8000000 in
set_option maxRecDepth 100000 in
theorem tap_zone.calls (k : Nat) (a0 : ByteArray) (r1 : Int) (r2 : Bool) (w : World) (h : tap_zone.f k a0 = some (r1, r2)) :
    Calls Tryz.prog 35 #[.string a0] w fun e w' => e = .returned (.tuple #[.int .i64 r1, .bool r2]) ∧ Below w.heap.size w w' := by
  have HB := Aside0.mk (Below.refl w.heap.size w)
  have H : (if a0.toList = ([90] : List UInt8) then (some (0, true)) else (if a0.toList = ([] : List UInt8) then (tap_zone.j0 k a0 true) else (if 0 < (a0.size : Int) then (if (bt a0 0) = 43 then (tap_zone.j0 k a0 false) else (tap_zone.j0 k a0 ((bt a0 0) != 45))) else (none)))) = some (r1, r2) := h
  clear h
  by_cases c2 : a0.toList = ([90] : List UInt8)
  · rw [if_pos c2] at H
    have c2b0 : (a0.toList == ([90] : List UInt8)) = true := beq_iff_eq.mpr c2
    have c2b1 : (a0.toList != ([90] : List UInt8)) = false := bne_eq_false_iff_eq.mpr c2
    clear c2
    simp only [Option.some.injEq, Prod.mk.injEq] at H
    obtain ⟨rfl, rfl⟩ := H
    go_enter Tryz.func35, Tryz.ntmps35
    go_wp2
    repeat (go_quiet (fail); try go_wp2)
    go_ret2
    exact ⟨by first | rfl | (simp [errW_none, errW_some] <;> rfl) | (simp [*, errW_none, errW_some] <;> rfl), by repeat (first | (with_reducible first | exact HB.out | apply below_alloc | apply pw_below_drewN | apply below_drew1) | exact HB.out)⟩
  · rw [if_neg c2] at H
    have c2b0 : (a0.toList == ([90] : List UInt8)) = false := beq_eq_false_iff_ne.mpr c2
    have c2b1 : (a0.toList != ([90] : List UInt8)) = true := bne_iff_ne.mpr c2
    have HC3 := Aside0.mk H
    clear H
    go_enter Tryz.func35, Tryz.ntmps35
    go_upto_region 3 with (fail)
    repeat (go_quiet (fail); go_upto_region 3 with (fail))
    go_cut [20] (fun v20 wc => ∃ (kq : Nat) (x20_2 : Bool), v20 = .bool x20_2 ∧ Aside0 (tap_zone.j0 kq a0 x20_2 = some (r1, r2)) ∧ Aside0 (kq ≤ k) ∧ Aside0 (Below w.heap.size w wc))
    case first =>
      have H := HC3.out
      clear HC3
      by_cases c4 : a0.toList = ([] : List UInt8)
      · rw [if_pos c4] at H
        have c4b0 : (a0.toList == ([] : List UInt8)) = true := beq_iff_eq.mpr c4
        have c4b1 : (a0.toList != ([] : List UInt8)) = false := bne_eq_false_iff_eq.mpr c4
        (try (have c4b2 : a0.toList.isEmpty = true := by simpa using c4))
        (try (have c4b3 : List.isEmpty a0.toList = true := by simpa using c4))
        clear c4
        (first | rw [c4b0] | (simp only [i64_w, i32_w]; rw [c4b0]) | skip); (try rw [c4b2])
        have H' := Aside0.mk H
        clear H
        go_wp2
        repeat (go_quiet (fail); try go_wp2)
        go_meet
        case rel => exact ⟨_, (true), (by first | rfl | (simp; done) | (simp [*]; done) | (simp; generalize ByteArray.toList _ = l_; cases l_ <;> rfl)), H', ⟨by first | omega | exact Nat.le_refl _⟩, ⟨by repeat (first | (with_reducible first | exact HB.out | apply below_alloc | apply pw_below_drewN | apply below_drew1) | exact HB.out)⟩⟩
      · rw [if_neg c4] at H
        have c4b0 : (a0.toList == ([] : List UInt8)) = false := beq_eq_false_iff_ne.mpr c4
        have c4b1 : (a0.toList != ([] : List UInt8)) = true := bne_iff_ne.mpr c4
        (try (have c4b2 : a0.toList.isEmpty = false := by simpa using c4))
        (try (have c4b3 : List.isEmpty a0.toList = false := by simpa using c4))
        (first | rw [c4b0] | (simp only [i64_w, i32_w]; rw [c4b0]) | skip); (try rw [c4b2])
        by_cases c5 : 0 < (a0.size : Int)
        · rw [if_pos c5] at H
          have c5b0 : decide (0 < (a0.size : Int)) = true := decide_eq_true c5
          have c5b1 : decide (0 < a0.size) = true := decide_eq_true (by omega)
          clear c5
          by_cases c7 : (bt a0 0) = 43
          · rw [if_pos c7] at H
            have c7b0 : ((bt a0 0) == 43) = true := beq_iff_eq.mpr c7
            have c7b1 : ((bt a0 0) != 43) = false := bne_eq_false_iff_eq.mpr c7
            clear c7
            have H' := Aside0.mk H
            clear H
            have p6 : 0 ≤ (0 : Int) := (by omega)
            have q6 : 0 < a0.size := (by have : (0 : Int) < (a0.size : Int) := of_decide_eq_true (by first | (with_reducible assumption) | assumption); omega)
            have hx6 : ∀ h : 0 < a0.size, ((a0[0]'h).toNat : Int) = bt a0 0 := bt_at a0 0
            clear p6
            have qi6 : (0 < (a0.size : Int)) = True := eq_true (of_decide_eq_true (by first | (with_reducible assumption) | assumption))
            replace q6 := eq_true q6
            go_wp2
            repeat (go_quiet (fail); try go_wp2)
            go_meet
            case rel => exact ⟨_, (false), (by first | rfl | (simp; done) | (simp [*]; done) | (simp; generalize ByteArray.toList _ = l_; cases l_ <;> rfl)), H', ⟨by first | omega | exact Nat.le_refl _⟩, ⟨by repeat (first | (with_reducible first | exact HB.out | apply below_alloc | apply pw_below_drewN | apply below_drew1) | exact HB.out)⟩⟩
          · rw [if_neg c7] at H
            have c7b0 : ((bt a0 0) == 43) = false := beq_eq_false_iff_ne.mpr c7
            have c7b1 : ((bt a0 0) != 43) = true := bne_iff_ne.mpr c7
            have H' := Aside0.mk H
            clear H
            have p6 : 0 ≤ (0 : Int) := (by omega)
            have q6 : 0 < a0.size := (by have : (0 : Int) < (a0.size : Int) := of_decide_eq_true (by first | (with_reducible assumption) | assumption); omega)
            have hx6 : ∀ h : 0 < a0.size, ((a0[0]'h).toNat : Int) = bt a0 0 := bt_at a0 0
            clear p6
            have qi6 : (0 < (a0.size : Int)) = True := eq_true (of_decide_eq_true (by first | (with_reducible assumption) | assumption))
            replace q6 := eq_true q6
            have p8 : 0 ≤ (0 : Int) := (by omega)
            have q8 : 0 < a0.size := (by have : (0 : Int) < (a0.size : Int) := of_decide_eq_true (by first | (with_reducible assumption) | assumption); omega)
            have hx8 : ∀ h : 0 < a0.size, ((a0[0]'h).toNat : Int) = bt a0 0 := bt_at a0 0
            clear p8
            have qi8 : (0 < (a0.size : Int)) = True := eq_true (of_decide_eq_true (by first | (with_reducible assumption) | assumption))
            replace q8 := eq_true q8
            go_wp2
            repeat (go_quiet (fail); try go_wp2)
            go_meet
            case rel => exact ⟨_, (((bt a0 0) != 45)), (by first | rfl | (simp; done) | (simp [*]; done) | (simp; generalize ByteArray.toList _ = l_; cases l_ <;> rfl)), H', ⟨by first | omega | exact Nat.le_refl _⟩, ⟨by repeat (first | (with_reducible first | exact HB.out | apply below_alloc | apply pw_below_drewN | apply below_drew1) | exact HB.out)⟩⟩
        · rw [if_neg c5] at H
          exact absurd H (by simp)
    case rest =>
      clear HC3
      try clear c2
      try clear c2b0
      try clear c2b1
      try clear p2
      try clear c3
      try clear c4
      try clear c4b0
      try clear c4b1
      try clear c4b2
      try clear c5
      try clear c5b0
      try clear c5b1
      try clear p6
      try clear q6
      try clear hx6
      try clear qi6
      try clear c7
      try clear c7b0
      try clear c7b1
      try clear p8
      try clear q8
      try clear hx8
      try clear qi8
      try clear p6
      try clear p8
      try clear q6
      try clear q8
      obtain ⟨kq, x20_2, rfl, HA, HJ2, HB⟩ := hcut
      cases kq with
      | zero => exact absurd HA.out (by simp [tap_zone.j0])
      | succ kj2 =>
        have H := HA.out
        clear HA
        simp only [tap_zone.j0] at H
        by_cases c9 : x20_2 = true
        · subst c9
          have H1 : (some (0, false)) = some (r1, r2) := by rw [if_pos rfl] at H; exact H
          clear H
          have H := H1
          clear H1
          simp only [Option.some.injEq, Prod.mk.injEq] at H
          obtain ⟨rfl, rfl⟩ := H
          go_wp2
          repeat (go_quiet (fail); try go_wp2)
          go_ret2
          exact ⟨by first | rfl | (simp [errW_none, errW_some] <;> rfl) | (simp [*, errW_none, errW_some] <;> rfl), by repeat (first | (with_reducible first | exact HB.out | apply below_alloc | apply pw_below_drewN | apply below_drew1) | exact HB.out)⟩
        · replace c9 := Bool.eq_false_iff.mpr c9
          subst c9
          have H1 : (if 1 ≤ (a0.size : Int) then ((tap_fields.f (a0.extract 1 a0.size) (⟨#[48, 48, 58, 48, 48]⟩ : ByteArray)).bind fun bt151 => (if bt151.2 = true then (if 0 < (bt151.1.length : Int) then (if (rd bt151.1 0) > 23 then (tap_zone.j1 kj2 a0 bt151.1 true) else (if 1 < (bt151.1.length : Int) then (tap_zone.j1 kj2 a0 bt151.1 (decide ((rd bt151.1 1) > 59))) else (none))) else (none)) else (tap_zone.j1 kj2 a0 bt151.1 true))) else (none)) = some (r1, r2) := by rw [if_neg (show ¬ (false = true) by decide)] at H; exact H
          clear H
          have H := H1
          clear H1
          by_cases c10 : 1 ≤ (a0.size : Int)
          · rw [if_pos c10] at H
            have c10b0 := eq_true c10
            have c10b1 : decide (1 ≤ (a0.size : Int)) = true := decide_eq_true c10
            clear c10
            replace H := Option.bind_eq_some_iff.mp H
            obtain ⟨⟨t151, t152⟩, A110, H⟩ := H
            replace H : (if t152 = true then (if 0 < (t151.length : Int) then (if (rd t151 0) > 23 then (tap_zone.j1 kj2 a0 t151 true) else (if 1 < (t151.length : Int) then (tap_zone.j1 kj2 a0 t151 (decide ((rd t151 1) > 59))) else (none))) else (none)) else (tap_zone.j1 kj2 a0 t151 true)) = some (r1, r2) := H
            have A11 := Aside0.mk A110
            clear A110
            have HC12 := Aside0.mk H
            clear H
            go_upto_region 6 with (first | (go_at_call 34; (with_reducible refine (tap_fields.calls (a0.extract 1 a0.size) (⟨#[48, 48, 58, 48, 48]⟩ : ByteArray) t151 t152 _ A11.out).mono ?_); rintro e w13 ⟨v153, rfl, ho0, hb⟩; have n0_ := Aside0.mk (Kd.R_lower ho0 (below_size (by repeat (first | (with_reducible first | exact HB.out | apply below_alloc | apply pw_below_drewN | apply below_drew1) | exact HB.out)))); have n1_ := Aside0.mk (below_step (by repeat (first | (with_reducible first | exact HB.out | apply below_alloc | apply pw_below_drewN | apply below_drew1) | exact HB.out)) hb); clear HB; have HO154 := n0_; have HB := n1_; clear n0_ n1_; (try clear hb); (try clear hb2); (try clear hk); (try clear hi); (try clear ho0)))
            repeat (go_quiet (first | (go_at_call 34; (with_reducible refine (tap_fields.calls (a0.extract 1 a0.size) (⟨#[48, 48, 58, 48, 48]⟩ : ByteArray) t151 t152 _ A11.out).mono ?_); rintro e w13 ⟨v153, rfl, ho0, hb⟩; have n0_ := Aside0.mk (Kd.R_lower ho0 (below_size (by repeat (first | (with_reducible first | exact HB.out | apply below_alloc | apply pw_below_drewN | apply below_drew1) | exact HB.out)))); have n1_ := Aside0.mk (below_step (by repeat (first | (with_reducible first | exact HB.out | apply below_alloc | apply pw_below_drewN | apply below_drew1) | exact HB.out)) hb); clear HB; have HO154 := n0_; have HB := n1_; clear n0_ n1_; (try clear hb); (try clear hb2); (try clear hk); (try clear hi); (try clear ho0))); go_upto_region 6 with (first | (go_at_call 34; (with_reducible refine (tap_fields.calls (a0.extract 1 a0.size) (⟨#[48, 48, 58, 48, 48]⟩ : ByteArray) t151 t152 _ A11.out).mono ?_); rintro e w13 ⟨v153, rfl, ho0, hb⟩; have n0_ := Aside0.mk (Kd.R_lower ho0 (below_size (by repeat (first | (with_reducible first | exact HB.out | apply below_alloc | apply pw_below_drewN | apply below_drew1) | exact HB.out)))); have n1_ := Aside0.mk (below_step (by repeat (first | (with_reducible first | exact HB.out | apply below_alloc | apply pw_below_drewN | apply below_drew1) | exact HB.out)) hb); clear HB; have HO154 := n0_; have HB := n1_; clear n0_ n1_; (try clear hb); (try clear hb2); (try clear hk); (try clear hi); (try clear ho0))))
            (try simp only [Act.put, List.setIfInBounds_toArray, List.set_cons_zero, List.set_cons_succ])
            go_cut [40] (fun v40 wc => ∃ (kq : Nat) (x40_11 : Bool), v40 = .bool x40_11 ∧ Aside0 (tap_zone.j1 kq a0 t151 x40_11 = some (r1, r2)) ∧ Aside0 (kq ≤ kj2) ∧ Aside0 (Kd.R (Kd.int .i64) 3 wc w.heap.size (fun _ => True) v153 t151) ∧ Aside0 (Below w.heap.size w wc))
            case first =>
              have H := HC12.out
              clear HC12
              by_cases c14 : t152 = true
              · subst c14
                have H1 : (if 0 < (t151.length : Int) then (if (rd t151 0) > 23 then (tap_zone.j1 kj2 a0 t151 true) else (if 1 < (t151.length : Int) then (tap_zone.j1 kj2 a0 t151 (decide ((rd t151 1) > 59))) else (none))) else (none)) = some (r1, r2) := by rw [if_pos rfl] at H; exact H
                clear H
                have H := H1
                clear H1
                by_cases c15 : 0 < (t151.length : Int)
                · rw [if_pos c15] at H
                  have c15b0 : decide (0 < (t151.length : Int)) = true := decide_eq_true c15
                  have c15b1 : decide (0 < t151.length) = true := decide_eq_true (by omega)
                  clear c15
                  (first | rw [c15b0] | (simp only [i64_w, i32_w]; rw [c15b0]) | skip)
                  by_cases c16 : (rd t151 0) > 23
                  · rw [if_pos c16] at H
                    have c16b0 : decide (23 < (rd t151 0)) = true := decide_eq_true c16
                    clear c16
                    have H' := Aside0.mk H
                    clear H
                    obtain ⟨Ao17, co17, eo17⟩ := Kd.R_slice HO154.out
                    subst eo17
                    have p155 : 0 ≤ (0 : Int) := (by omega)
                    have q155 : 0 < (t151.length : Int) := of_decide_eq_true (by first | (with_reducible assumption) | assumption)
                    obtain ⟨ad155, e155, hx155_0⟩ := Kd.at_int (Kd.R_reads' HO154.out).2.2 0 p155 q155
                    cases e155
                    have qi155 : (0 < t151.length) = True := eq_true (by omega)
                    (try rw [show ((0 : Int)).toNat = 0 from rfl] at hx155_0)
                    (try rw [Addr.add_zero'] at hx155_0)
                    replace p155 := eq_true p155
                    replace q155 := eq_true q155
                    go_wp2
                    repeat (go_quiet (fail); try go_wp2)
                    go_meet
                    case rel => exact ⟨_, (true), (by first | rfl | (simp; done) | (simp [*]; done) | (simp; generalize ByteArray.toList _ = l_; cases l_ <;> rfl)), H', ⟨by have := HJ2.out; first | omega | exact Nat.le_refl _⟩, ⟨by (with_reducible repeat (first | apply Kd.R_alloc | apply Kd.R_drewN | apply Kd.R_drew)); exact HO154.out⟩, ⟨by repeat (first | (with_reducible first | exact HB.out | apply below_alloc | apply pw_below_drewN | apply below_drew1) | exact HB.out)⟩⟩
                  · rw [if_neg c16] at H
                    have c16b0 : decide (23 < (rd t151 0)) = false := decide_eq_false c16
                    clear c16
                    by_cases c18 : 1 < (t151.length : Int)
                    · rw [if_pos c18] at H
                      have c18b0 : decide (1 < (t151.length : Int)) = true := decide_eq_true c18
                      have c18b1 : decide (1 < t151.length) = true := decide_eq_true (by omega)
                      clear c18
                      have H' := Aside0.mk H
                      clear H
                      obtain ⟨Ao19, co19, eo19⟩ := Kd.R_slice HO154.out
                      subst eo19
                      have p155 : 0 ≤ (0 : Int) := (by omega)
                      have q155 : 0 < (t151.length : Int) := of_decide_eq_true (by first | (with_reducible assumption) | assumption)
                      obtain ⟨ad155, e155, hx155_0⟩ := Kd.at_int (Kd.R_reads' HO154.out).2.2 0 p155 q155
                      cases e155
                      have qi155 : (0 < t151.length) = True := eq_true (by omega)
                      (try rw [show ((0 : Int)).toNat = 0 from rfl] at hx155_0)
                      (try rw [Addr.add_zero'] at hx155_0)
                      replace p155 := eq_true p155
                      replace q155 := eq_true q155
                      have p156 : 0 ≤ (1 : Int) := (by omega)
                      have q156 : 1 < (t151.length : Int) := of_decide_eq_true (by first | (with_reducible assumption) | assumption)
                      obtain ⟨ad156, e156, hx156_0⟩ := Kd.at_int (Kd.R_reads' HO154.out).2.2 1 p156 q156
                      obtain rfl : ad155 = ad156 := (by injection e156)
                      (try simp only [show (1 : Int).toNat = 1 from rfl, Nat.reduceMul, Nat.reduceEqDiff, Go.Addr.add, ↓reduceIte] at hx156_0)
                      have qi156 : (1 < t151.length) = True := eq_true (by omega)
                      (try rw [show ((1 : Int)).toNat = 1 from rfl] at hx156_0)
                      replace p156 := eq_true p156
                      replace q156 := eq_true q156
                      go_wp2
                      repeat (go_quiet (fail); try go_wp2)
                      go_meet
                      case rel => exact ⟨_, (decide ((rd t151 1) > 59)), (by first | rfl | (simp; done) | (simp [*]; done) | (simp; generalize ByteArray.toList _ = l_; cases l_ <;> rfl)), H', ⟨by have := HJ2.out; first | omega | exact Nat.le_refl _⟩, ⟨by (with_reducible repeat (first | apply Kd.R_alloc | apply Kd.R_drewN | apply Kd.R_drew)); exact HO154.out⟩, ⟨by repeat (first | (with_reducible first | exact HB.out | apply below_alloc | apply pw_below_drewN | apply below_drew1) | exact HB.out)⟩⟩
                    · rw [if_neg c18] at H
                      exact absurd H (by simp)
                · rw [if_neg c15] at H
                  exact absurd H (by simp)
              · replace c14 := Bool.eq_false_iff.mpr c14
                subst c14
                have H1 : (tap_zone.j1 kj2 a0 t151 true) = some (r1, r2) := by rw [if_neg (show ¬ (false = true) by decide)] at H; exact H
                clear H
                have H := H1
                clear H1
                have H' := Aside0.mk H
                clear H
                go_wp2
                repeat (go_quiet (fail); try go_wp2)
                go_meet
                case rel => exact ⟨_, (true), (by first | rfl | (simp; done) | (simp [*]; done) | (simp; generalize ByteArray.toList _ = l_; cases l_ <;> rfl)), H', ⟨by have := HJ2.out; first | omega | exact Nat.le_refl _⟩, ⟨by (with_reducible repeat (first | apply Kd.R_alloc | apply Kd.R_drewN | apply Kd.R_drew)); exact HO154.out⟩, ⟨by repeat (first | (with_reducible first | exact HB.out | apply below_alloc | apply pw_below_drewN | apply below_drew1) | exact HB.out)⟩⟩
            case rest =>
              clear HC12
              try clear c1
              try clear p1
              try clear q1
              try clear hx1
              try clear qi1
              try clear c2
              try clear c2b0
              try clear c2b1
              try clear p2
              try clear c3
              try clear c4
              try clear c4b0
              try clear c4b1
              try clear c4b2
              try clear c5
              try clear c5b0
              try clear c5b1
              try clear p6
              try clear q6
              try clear hx6
              try clear qi6
              try clear c7
              try clear c7b0
              try clear c7b1
              try clear p8
              try clear q8
              try clear hx8
              try clear qi8
              try clear c9
              try clear c10
              try clear c10b0
              try clear c10b1
              try clear c14
              try clear c15
              try clear c15b0
              try clear c15b1
              try clear p15
              try clear q15
              try clear hx15
              try clear qi15
              try clear c16
              try clear c16b0
              try clear c18
              try clear c18b0
              try clear c18b1
              try clear hx155_0
              try clear hx156_0
              try clear p155
              try clear p156
              try clear p2
              try clear p6
              try clear p8
              try clear q155
              try clear q156
              try clear q6
              try clear q8
              obtain ⟨kq, x40_11, rfl, HA, HJ11, HO_4, HB⟩ := hcut
              cases kq with
              | zero => exact absurd HA.out (by simp [tap_zone.j1])
              | succ kj11 =>
                have H := HA.out
                clear HA
                simp only [tap_zone.j1] at H
                by_cases c20 : x40_11 = true
                · subst c20
                  have H1 : (some (0, false)) = some (r1, r2) := by rw [if_pos rfl] at H; exact H
                  clear H
                  have H := H1
                  clear H1
                  simp only [Option.some.injEq, Prod.mk.injEq] at H
                  obtain ⟨rfl, rfl⟩ := H
                  go_wp2
                  repeat (go_quiet (fail); try go_wp2)
                  go_ret2
                  exact ⟨by first | rfl | (simp [errW_none, errW_some] <;> rfl) | (simp [*, errW_none, errW_some] <;> rfl), by repeat (first | (with_reducible first | exact HB.out | apply below_alloc | apply pw_below_drewN | apply below_drew1) | exact HB.out)⟩
                · replace c20 := Bool.eq_false_iff.mpr c20
                  subst c20
                  have H1 : (if 0 < (t151.length : Int) then (if 1 < (t151.length : Int) then (if 0 < (a0.size : Int) then (if (bt a0 0) = 45 then (some (wrap64 (-(wrap64 ((wrap64 (3600 * (rd t151 0))) + (wrap64 (60 * (rd t151 1)))))), true)) else (some (wrap64 ((wrap64 (3600 * (rd t151 0))) + (wrap64 (60 * (rd t151 1)))), true))) else (none)) else (none)) else (none)) = some (r1, r2) := by rw [if_neg (show ¬ (false = true) by decide)] at H; exact H
                  clear H
                  have H := H1
                  clear H1
                  by_cases c21 : 0 < (t151.length : Int)
                  · rw [if_pos c21] at H
                    have c21b0 : decide (0 < (t151.length : Int)) = true := decide_eq_true c21
                    have c21b1 : decide (0 < t151.length) = true := decide_eq_true (by omega)
                    clear c21
                    by_cases c22 : 1 < (t151.length : Int)
                    · rw [if_pos c22] at H
                      have c22b0 : decide (1 < (t151.length : Int)) = true := decide_eq_true c22
                      have c22b1 : decide (1 < t151.length) = true := decide_eq_true (by omega)
                      clear c22
                      by_cases c23 : 0 < (a0.size : Int)
                      · rw [if_pos c23] at H
                        have c23b0 : decide (0 < (a0.size : Int)) = true := decide_eq_true c23
                        have c23b1 : decide (0 < a0.size) = true := decide_eq_true (by omega)
                        clear c23
                        by_cases c25 : (bt a0 0) = 45
                        · rw [if_pos c25] at H
                          have c25b0 : ((bt a0 0) == 45) = true := beq_iff_eq.mpr c25
                          have c25b1 : ((bt a0 0) != 45) = false := bne_eq_false_iff_eq.mpr c25
                          clear c25
                          simp only [Option.some.injEq, Prod.mk.injEq] at H
                          obtain ⟨rfl, rfl⟩ := H
                          obtain ⟨Ao26, co26, eo26⟩ := Kd.R_slice HO_4.out
                          subst eo26
                          have p157 : 0 ≤ (0 : Int) := (by omega)
                          have q157 : 0 < (t151.length : Int) := of_decide_eq_true (by first | (with_reducible assumption) | assumption)
                          obtain ⟨ad157, e157, hx157_0⟩ := Kd.at_int (Kd.R_reads' HO_4.out).2.2 0 p157 q157
                          cases e157
                          have qi157 : (0 < t151.length) = True := eq_true (by omega)
                          (try rw [show ((0 : Int)).toNat = 0 from rfl] at hx157_0)
                          (try rw [Addr.add_zero'] at hx157_0)
                          replace p157 := eq_true p157
                          replace q157 := eq_true q157
                          have p158 : 0 ≤ (1 : Int) := (by omega)
                          have q158 : 1 < (t151.length : Int) := of_decide_eq_true (by first | (with_reducible assumption) | assumption)
                          obtain ⟨ad158, e158, hx158_0⟩ := Kd.at_int (Kd.R_reads' HO_4.out).2.2 1 p158 q158
                          obtain rfl : ad157 = ad158 := (by injection e158)
                          (try simp only [show (1 : Int).toNat = 1 from rfl, Nat.reduceMul, Nat.reduceEqDiff, Go.Addr.add, ↓reduceIte] at hx158_0)
                          have qi158 : (1 < t151.length) = True := eq_true (by omega)
                          (try rw [show ((1 : Int)).toNat = 1 from rfl] at hx158_0)
                          replace p158 := eq_true p158
                          replace q158 := eq_true q158
                          have p24 : 0 ≤ (0 : Int) := (by omega)
                          have q24 : 0 < a0.size := (by have : (0 : Int) < (a0.size : Int) := of_decide_eq_true (by first | (with_reducible assumption) | assumption); omega)
                          have hx24 : ∀ h : 0 < a0.size, ((a0[0]'h).toNat : Int) = bt a0 0 := bt_at a0 0
                          clear p24
                          have qi24 : (0 < (a0.size : Int)) = True := eq_true (of_decide_eq_true (by first | (with_reducible assumption) | assumption))
                          replace q24 := eq_true q24
                          go_wp2
                          repeat (go_quiet (fail); try go_wp2)
                          go_ret2
                          exact ⟨by first | rfl | (simp [errW_none, errW_some] <;> rfl) | (simp [*, errW_none, errW_some] <;> rfl), by repeat (first | (with_reducible first | exact HB.out | apply below_alloc | apply pw_below_drewN | apply below_drew1) | exact HB.out)⟩
                        · rw [if_neg c25] at H
                          have c25b0 : ((bt a0 0) == 45) = false := beq_eq_false_iff_ne.mpr c25
                          have c25b1 : ((bt a0 0) != 45) = true := bne_iff_ne.mpr c25
                          simp only [Option.some.injEq, Prod.mk.injEq] at H
                          obtain ⟨rfl, rfl⟩ := H
                          obtain ⟨Ao27, co27, eo27⟩ := Kd.R_slice HO_4.out
                          subst eo27
                          have p157 : 0 ≤ (0 : Int) := (by omega)
                          have q157 : 0 < (t151.length : Int) := of_decide_eq_true (by first | (with_reducible assumption) | assumption)
                          obtain ⟨ad157, e157, hx157_0⟩ := Kd.at_int (Kd.R_reads' HO_4.out).2.2 0 p157 q157
                          cases e157
                          have qi157 : (0 < t151.length) = True := eq_true (by omega)
                          (try rw [show ((0 : Int)).toNat = 0 from rfl] at hx157_0)
                          (try rw [Addr.add_zero'] at hx157_0)
                          replace p157 := eq_true p157
                          replace q157 := eq_true q157
                          have p158 : 0 ≤ (1 : Int) := (by omega)
                          have q158 : 1 < (t151.length : Int) := of_decide_eq_true (by first | (with_reducible assumption) | assumption)
                          obtain ⟨ad158, e158, hx158_0⟩ := Kd.at_int (Kd.R_reads' HO_4.out).2.2 1 p158 q158
                          obtain rfl : ad157 = ad158 := (by injection e158)
                          (try simp only [show (1 : Int).toNat = 1 from rfl, Nat.reduceMul, Nat.reduceEqDiff, Go.Addr.add, ↓reduceIte] at hx158_0)
                          have qi158 : (1 < t151.length) = True := eq_true (by omega)
                          (try rw [show ((1 : Int)).toNat = 1 from rfl] at hx158_0)
                          replace p158 := eq_true p158
                          replace q158 := eq_true q158
                          have p24 : 0 ≤ (0 : Int) := (by omega)
                          have q24 : 0 < a0.size := (by have : (0 : Int) < (a0.size : Int) := of_decide_eq_true (by first | (with_reducible assumption) | assumption); omega)
                          have hx24 : ∀ h : 0 < a0.size, ((a0[0]'h).toNat : Int) = bt a0 0 := bt_at a0 0
                          clear p24
                          have qi24 : (0 < (a0.size : Int)) = True := eq_true (of_decide_eq_true (by first | (with_reducible assumption) | assumption))
                          replace q24 := eq_true q24
                          go_wp2
                          repeat (go_quiet (fail); try go_wp2)
                          go_ret2
                          exact ⟨by first | rfl | (simp [errW_none, errW_some] <;> rfl) | (simp [*, errW_none, errW_some] <;> rfl), by repeat (first | (with_reducible first | exact HB.out | apply below_alloc | apply pw_below_drewN | apply below_drew1) | exact HB.out)⟩
                      · rw [if_neg c23] at H
                        exact absurd H (by simp)
                    · rw [if_neg c22] at H
                      exact absurd H (by simp)
                  · rw [if_neg c21] at H
                    exact absurd H (by simp)
          · rw [if_neg c10] at H
            exact absurd H (by simp)

end Go.Proofs.YtallfkecjibpmaaGreatDoor.M
