/- CharsClasses: chars.Is and chars.Spans, for the printer. -/
import Derived.Test.YtegapacamclipaaDoorSpans1
import Derived.Lib.LazyBuf
set_option linter.unusedVariables false
set_option linter.unusedSimpArgs false
namespace Go.Proofs.YtegapacamclipaaDoor.G
open Go.RowKit Go.Proofs.YtegapacamclipaaDoorW.PrintWords Go.Proofs.YtegapacamclipaaDoor.Cls Go.Proofs.YtegapacamclipaaDoor.C Go.Lib Go.Shelf
/-- The class of a name: upper, lower, letter, digit, mark, blank, word, any. -/
def clsOf (l : List UInt8) : Option (Fin 8) :=
  if l = [117, 112, 112, 101, 114] then some 0 else if l = [108, 111, 119, 101, 114] then some 1 else if l = [108, 101, 116, 116, 101, 114] then some 2
  else if l = [100, 105, 103, 105, 116] then some 3 else if l = [109, 97, 114, 107] then some 4 else if l = [98, 108, 97, 110, 107] then some 5
  else if l = [119, 111, 114, 100] then some 6 else if l = [97, 110, 121] then some 7 else none
theorem ba_of {s : ByteArray} {l : List UInt8} (h : s.data.toList = l) : s = ⟨l.toArray⟩ := by
  apply ByteArray.ext
  rw [← h]
theorem parts_eq (k : Nat) (s : ByteArray) : chars_partsOf.f (k + 1) s = some (match clsOf s.data.toList with | some cl => (partsN cl).map nameR | none => []) := by
  unfold chars_partsOf.f clsOf
  simp only [chars_partsOf.j0, ByteArray.toList_eq]
  by_cases h0 : s.data.toList = [117, 112, 112, 101, 114]
  · obtain rfl := ba_of h0
    rfl
  by_cases h1 : s.data.toList = [108, 111, 119, 101, 114]
  · obtain rfl := ba_of h1
    rfl
  by_cases h2 : s.data.toList = [108, 101, 116, 116, 101, 114]
  · obtain rfl := ba_of h2
    rfl
  by_cases h3 : s.data.toList = [100, 105, 103, 105, 116]
  · obtain rfl := ba_of h3
    rfl
  by_cases h4 : s.data.toList = [109, 97, 114, 107]
  · obtain rfl := ba_of h4
    rfl
  by_cases h5 : s.data.toList = [98, 108, 97, 110, 107]
  · obtain rfl := ba_of h5
    rfl
  by_cases h6 : s.data.toList = [119, 111, 114, 100]
  · obtain rfl := ba_of h6
    rfl
  by_cases h7 : s.data.toList = [97, 110, 121]
  · obtain rfl := ba_of h7
    rfl
  rw [if_neg h0, if_neg h1, if_neg h3, if_neg h4, if_neg h5, beq_eq_false_iff_ne.2 h7, if_neg (by decide), if_neg h2, if_neg h6, if_neg h0, if_neg h1, if_neg h2, if_neg h3, if_neg h4, if_neg h5, if_neg h6, if_neg h7]
def spansN (l : List (Nat × Nat)) : List S49 := l.map fun x => ⟨(x.1 : Int), (x.2 : Int)⟩
theorem spansN_len (l : List (Nat × Nat)) : (spansN l).length = l.length := by simp [spansN]
theorem reps_spans (w : World) (base : Nat) (ok : Nat → Prop) (l : List (Nat × Nat)) : Reps (k49.M w base ok) 2 (spansN l) (flatP l) := by
  refine ⟨by rw [flat_len, spansN_len], fun j p hj => ?_⟩
  obtain ⟨hl, hp⟩ := List.getElem?_eq_some_iff.1 hj
  have hl' : j < l.length := by rw [spansN_len] at hl; exact hl
  rw [flat_take2 l j hl', ← hp]
  have := k49_mkM w base ok (spansN l)[j]
  simpa [spansN] using this
def chars_Spans.f (s : ByteArray) : Option (List S49 × Int) := match clsOf s.data.toList with
  | some cl => some (spansN (clsL cl), 0)
  | none => some ([], 4)
def chars_Is.f (c : Int) (s : ByteArray) : Option (Bool × Int) := match clsOf s.data.toList with
  | some cl => if 0 ≤ c ∧ c ≤ 1114111 ∧ (c < 55296 ∨ 57343 < c) then some ((clsL cl).any fun x => decide ((x.1 : Int) ≤ c) && decide (c ≤ (x.2 : Int)), 0) else some (false, 1)
  | none => some (false, 4)
theorem parts_bd : ∀ cl, 0 < (partsN cl).length ∧ (partsN cl).length ≤ 6 := by decide
set_option maxHeartbeats 4000000 in
set_option maxRecDepth 100000 in
theorem chars_Spans.calls (s : ByteArray) (r1 : List S49) (r2 : Int) (w : World) (h : chars_Spans.f s = some (r1, r2)) :
    Calls Tryd.prog 42 #[.string s] w fun e w' => ∃ v0_ : Value, e = .returned (.tuple #[v0_, .int .i64 r2]) ∧ Kd.R k49 49 w' w.heap.size (fun _ => True) v0_ r1 ∧ Below w.heap.size w w' := by
  have hp := parts_eq 0 s
  unfold chars_Spans.f at h
  cases hc : clsOf s.data.toList with
  | some cl =>
    rw [hc] at h hp
    simp only [Option.some.injEq, Prod.mk.injEq] at h hp
    obtain ⟨rfl, rfl⟩ := h
    have hsp := Aside0.mk (spans_some _ s cl w hp (parts_bd cl).1 (parts_bd cl).2)
    have hl := (cls_len cl).2.2.1
    have hnil := fun (W : World) (a : Option Addr) (n c : Nat) => run_eql_slice_nil (P := Tryd.prog) W 45 49 a n c Tryd.underlying45
    clear hp hc
    go_enter Tryd.func42, Tryd.ntmps42
    go_wp2_with (go_at_call 70; refine hsp.out.mono ?_; rintro e w1 ⟨v, rfl, hO, hB⟩; obtain ⟨g, cap, rfl, hgb, hgl, _, _, _, _⟩ := own_form hO hl)
    go_ret2
    exact ⟨_, rfl, ⟨fun _ _ => trivial, flatP (clsL cl), by rw [spansN_len]; exact hO, reps_spans _ _ _ _⟩, hB⟩
  | none =>
    rw [hc] at h hp
    simp only [Option.some.injEq, Prod.mk.injEq] at h hp
    obtain ⟨rfl, rfl⟩ := h
    have hsp := Aside0.mk (spans_none _ s w hp)
    have hnil := fun (W : World) (a : Option Addr) (n c : Nat) => run_eql_slice_nil (P := Tryd.prog) W 45 49 a n c Tryd.underlying45
    clear hp hc
    go_enter Tryd.func42, Tryd.ntmps42
    go_wp2_with (go_at_call 70; refine hsp.out.mono ?_; rintro e w1 ⟨rfl, hB⟩)
    go_ret2
    exact ⟨_, rfl, Kd.R_nil _ _ _ _ _, hB⟩
end Go.Proofs.YtegapacamclipaaDoor.G
