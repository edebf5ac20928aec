/- Of this claim's texts (RdB): the declarations that the claim reaches (slimclaim.py). -/
import Derived.Test.YtallfkecjibpmaaDoorVRdA
import Derived.Test.YtallfkecjibpmaaDoorVJ1
set_option linter.unusedVariables false
set_option linter.unusedSimpArgs false
namespace Go.Proofs.YtallfkecjibpmaaDoor.G
open Go.RowKit Go.Proofs.YtallfkecjibpmaaDoorW.PrintWords Go.Proofs.YtallfkecjibpmaaDoor.Nm Go.Lib Go.Proofs.YtallfkecjibpmaaDoor.Rd
theorem idx_contains (l : List UInt8) (c : UInt8) : decide (0 ≤ Lib.indexByte l c) = l.contains c := by
  induction l with
  | nil => rfl
  | cons b l ih =>
    rw [Lib.indexByte, List.contains_cons]
    by_cases h : b = c
    · subst h; simp
    · have h1 : (b == c) = false := beq_eq_false_iff_ne.2 h
      have h2 : (c == b) = false := beq_eq_false_iff_ne.2 (fun h' => h h'.symm)
      have hg := Lib.indexByte_ge l c
      rw [h1, h2, Bool.false_or, ← ih]
      simp only [Bool.false_eq_true, if_false]
      by_cases h3 : Lib.indexByte l c = -1
      · rw [h3]; rfl
      · rw [if_neg (by simpa using h3)]
        exact decide_eq_decide.2 (by omega)
theorem hash_any (s : ByteArray) (w : World) : Calls Tryd.prog 51 #[.string s, .string ⟨#[35]⟩] w fun e w' => e = .returned (.bool (!noHash s.data.toList)) ∧ w' = w := by
  refine (Tryd.strings_Contains_one s 35 w).mono fun e w' h => ?_
  rw [idx_contains] at h
  unfold noHash
  rw [Bool.not_not]
  exact h
theorem isText_f (s : ByteArray) (hs : s.size ≤ 9223372036854775807) : J.tap_isText.f s = some (okText s.data.toList) := by
  unfold J.tap_isText.f okText
  by_cases h : s.size ≤ 200
  · rw [if_pos (by omega)]
    have e1 : strings_Contains.f s (⟨#[10]⟩ : ByteArray) = some (s.data.toList.contains 10) := by unfold strings_Contains.f; simp only; rw [idx_contains]
    have e2 : strings_Trim.f s (⟨#[32]⟩ : ByteArray) = some (mkD (trimS s.data.toList)) := by
      unfold strings_Trim.f; simp only; rw [if_pos ⟨by decide, hs⟩]; rfl
    rw [e1, e2, decide_eq_true (show s.data.toList.length ≤ 200 by rw [← size_len]; exact h)]
    simp only [Option.bind_some, toL_data, mkD_list]
    cases s.data.toList.contains 10 <;> rfl
  · rw [if_neg (by omega), decide_eq_false (show ¬ s.data.toList.length ≤ 200 by rw [← size_len]; exact h)]
    rfl
theorem isName_f (s : ByteArray) (hs : s.size ≤ 9223372036854775807) : J.tap_isName.f s = some (okName s.data.toList) := by
  unfold J.tap_isName.f okName
  have e1 : strings_Contains.f s (⟨#[35]⟩ : ByteArray) = some (s.data.toList.contains 35) := by unfold strings_Contains.f; simp only; rw [idx_contains]
  rw [isText_f s hs, e1]
  unfold noHash
  simp only [Option.bind_some]
  cases okText s.data.toList <;> rfl
theorem isText_any (s : ByteArray) (w : World) (hL : LaidW w) (hs : s.size ≤ 9223372036854775807) : Calls Tryd.prog 82 #[.string s] w fun e w' => e = .returned (.bool (okText s.data.toList)) ∧ Below w.heap.size w w' :=
  J.tap_isText.calls s _ w hL (isText_f s hs)
theorem isName_any (s : ByteArray) (w : World) (hL : LaidW w) (hs : s.size ≤ 9223372036854775807) : Calls Tryd.prog 81 #[.string s] w fun e w' => e = .returned (.bool (okName s.data.toList)) ∧ Below w.heap.size w w' :=
  J.tap_isName.calls s _ w hL (isName_f s hs)
theorem index_cutH : ∀ s : List UInt8, Lib.index s [32, 35] = (match cutH s with | some x => (x.1.length : Int) | none => -1)
  | [] => rfl
  | [c] => by
    rw [Lib.index, if_neg (by simp [List.isPrefixOf])]
    rfl
  | c :: d :: r => by
    rw [Lib.index, index_cutH (d :: r), cutH]
    by_cases h : c = 32 ∧ d = 35
    · obtain ⟨rfl, rfl⟩ := h
      rw [if_pos (by rfl), if_pos ⟨rfl, rfl⟩]; rfl
    · rw [if_neg (by
        simp only [List.isPrefixOf, Bool.and_eq_true, beq_iff_eq, Bool.and_true]
        exact fun h' => h ⟨h'.1.symm, h'.2.symm⟩), if_neg h]
      cases cutH (d :: r) with
      | none => rfl
      | some x =>
        simp only [Option.map_some]
        rw [if_neg (by rw [beq_iff_eq]; omega)]
        show (x.1.length : Int) + 1 = ((x.1.length + 1 : Nat) : Int)
        omega
theorem cut_cutH (s : List UInt8) : Lib.cut s [32, 35] = (match cutH s with | some x => (x.1, x.2, true) | none => (s, [], false)) := by
  unfold Lib.cut
  rw [index_cutH]
  cases h : cutH s with
  | none => rfl
  | some x =>
    obtain ⟨b, a⟩ := x
    obtain ⟨e, _⟩ := cutH_some h
    simp only
    rw [if_pos (by omega), Int.toNat_natCast]
    rw [e, List.take_left]
    congr 2
    rw [show b.length + [(32 : UInt8), 35].length = (b ++ [32, 35]).length by simp, show b ++ 32 :: 35 :: a = (b ++ [32, 35]) ++ a by simp, List.drop_left]
theorem index_32 : ∀ s : List UInt8, (0 ≤ Lib.index s [32] → (toBl s).length = (Lib.index s [32]).toNat ∧ toBl s = s.take (Lib.index s [32]).toNat) ∧ (¬ 0 ≤ Lib.index s [32] → toBl s = s ∧ Lib.index s [32] = -1)
  | [] => ⟨fun h => absurd h (by decide), fun _ => ⟨rfl, rfl⟩⟩
  | c :: s => by
    obtain ⟨h1, h2⟩ := index_32 s
    rw [toBl_cons, Lib.index]
    by_cases h : c = 32
    · subst h
      rw [if_pos rfl, if_pos (by rfl)]
      exact ⟨fun _ => ⟨rfl, rfl⟩, fun h => absurd (by decide) h⟩
    · rw [if_neg h, if_neg (by simp [List.isPrefixOf]; exact fun h' => h h'.symm)]
      by_cases h3 : 0 ≤ Lib.index s [32]
      · rw [if_neg (by rw [beq_iff_eq]; omega)]
        refine ⟨fun _ => ?_, fun h' => absurd (by omega) h'⟩
        obtain ⟨e1, e2⟩ := h1 h3
        rw [show (Lib.index s [32] + 1).toNat = (Lib.index s [32]).toNat + 1 by omega, List.length_cons, e1, List.take_succ_cons, ← e2]
        exact ⟨rfl, rfl⟩
      · obtain ⟨e1, e2⟩ := h2 h3
        rw [e1, e2]
        exact ⟨fun h' => absurd h' (by decide), fun _ => ⟨rfl, rfl⟩⟩
theorem cut_toBl (s : List UInt8) : (Lib.cut s [32]).1 = toBl s := by
  obtain ⟨h1, h2⟩ := index_32 s
  unfold Lib.cut
  by_cases h : 0 ≤ Lib.index s [32]
  · rw [if_pos h]; exact (h1 h).2.symm
  · rw [if_neg h]; exact (h2 h).1.symm
def FrB (g : Nat) (w w' : World) : Prop := w.heap.size ≤ w'.heap.size ∧ ∀ k, k < w.heap.size → k ≠ g → w'.heap[k]? = w.heap[k]?
theorem FrB.refl (g : Nat) (w : World) : FrB g w w := ⟨Nat.le_refl _, fun _ _ _ => rfl⟩
theorem FrB.trans {g : Nat} {w w1 w2 : World} (h : FrB g w w1) (k : FrB g w1 w2) : FrB g w w2 :=
  ⟨Nat.le_trans h.1 k.1, fun j hj hg => by rw [k.2 j (by have := h.1; omega) hg, h.2 j hj hg]⟩
theorem FrB.of_below {g : Nat} {w w1 : World} (h : Below w.heap.size w w1) : FrB g w w1 := ⟨h.size, fun k hk _ => h.block k hk⟩
theorem FrB.set (g : Nat) (w : World) (j : Nat) (u : Value) : FrB g w (w.setCell ⟨g, j, none⟩ u) := ⟨by simp [World.setCell], fun k _ hg => Below.heap_setCell _ _ _ _ hg⟩
theorem directives_any (w : World) : Calls Tryd.prog 83 #[] w fun e w' => e = .returned (.slice (some ⟨w.heap.size, 0, none⟩) 3 3) ∧ w' = w.alloc (.cells #[.string ⟨#[]⟩, .string ⟨#[83, 75, 73, 80]⟩, .string ⟨#[84, 79, 68, 79]⟩] 9) := by
  go_enter Tryd.func83, Tryd.ntmps83
  go_wp2_with fail
  go_ret
  exact ⟨rfl, rfl⟩
end Go.Proofs.YtallfkecjibpmaaDoor.G
