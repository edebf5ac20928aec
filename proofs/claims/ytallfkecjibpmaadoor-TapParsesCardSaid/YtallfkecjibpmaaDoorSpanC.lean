/- Span and ParseSpan, for the printer. -/
import Derived.Test.YtallfkecjibpmaaDoorSpanW
set_option linter.unusedVariables false
namespace Go.Proofs.YtallfkecjibpmaaDoor.G
open Go.RowKit Go.Proofs.YtallfkecjibpmaaDoorW.PrintWords Go.Proofs.YtallfkecjibpmaaDoor.Nm Go.Lib
def tap_Span.f (a0 : Int) : Option (ByteArray × Int) := if a0 < 0 ∨ 1000000000 < a0 then some (⟨#[]⟩, 1) else some (spanOut a0.toNat, 0)
theorem tap_Span.calls (a0 : Int) (r1 : ByteArray) (r2 : Int) (w : World) (hL : LaidW w) (h : tap_Span.f a0 = some (r1, r2)) :
    Calls Tryd.prog 28 #[.int .i64 a0] w fun e w' => e = .returned (.tuple #[.string r1, .int .i64 r2]) ∧ Below w.heap.size w w' := by
  unfold tap_Span.f at h
  by_cases hb : a0 < 0 ∨ 1000000000 < a0
  · rw [if_pos hb] at h
    simp only [Option.some.injEq, Prod.mk.injEq] at h
    obtain ⟨rfl, rfl⟩ := h
    exact Span_bad a0 w hb
  · rw [if_neg hb] at h
    simp only [Option.some.injEq, Prod.mk.injEq] at h
    obtain ⟨rfl, rfl⟩ := h
    obtain ⟨n, rfl⟩ := Int.eq_ofNat_of_zero_le (show 0 ≤ a0 by omega)
    rw [Int.toNat_natCast]
    exact Span_good n w hL (by omega)
def tap_ParseSpan.f (a0 : ByteArray) : Option (Int × Int) := if a0.size ≤ 1000000000 then some (psRes a0) else none
theorem tap_ParseSpan.calls (a0 : ByteArray) (r1 r2 : Int) (w : World) (h : tap_ParseSpan.f a0 = some (r1, r2)) :
    Calls Tryd.prog 26 #[.string a0] w fun e w' => e = .returned (.tuple #[.int .i64 r1, .int .i64 r2]) ∧ Below w.heap.size w w' := by
  unfold tap_ParseSpan.f at h
  split at h
  case isFalse => cases h
  case isTrue hs =>
  have h2 := Option.some.inj h
  have := ParseSpan_any a0 w hs
  rw [h2] at this
  exact this
end Go.Proofs.YtallfkecjibpmaaDoor.G
