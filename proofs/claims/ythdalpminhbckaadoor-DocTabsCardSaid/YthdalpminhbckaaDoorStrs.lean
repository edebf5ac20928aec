/- What the functions of package strings that this seat's program calls give, as Lean functions. -/
import Derived.Test.YthdalpminhbckaaDoorValid
import Derived.Test.YthdalpminhbckaaDoorStrL
set_option linter.unusedVariables false
set_option linter.unusedSimpArgs false
namespace Go.Proofs.YthdalpminhbckaaDoor.G
open Go.RowKit Go.Proofs.YthdalpminhbckaaDoorW.PrintWords Go.Proofs.YthdalpminhbckaaDoor.Tx Go.Lib

def strings_IndexByte.f (a0 : ByteArray) (a1 : Int) : Option Int := some (Lib.indexByte a0.data.toList a1.toNat.toUInt8)
theorem strings_IndexByte.calls (a0 : ByteArray) (a1 : Int) (r : Int) (w : World) (h : strings_IndexByte.f a0 a1 = some r) :
    Calls Tryd.prog 80 #[.string a0, .int .u8 a1] w fun e w' => e = .returned (.int .i64 r) ∧ Drawn0 w w' := by
  obtain rfl := Option.some.inj h
  exact (Tryd.strings_IndexByte a0 a1 w).mono fun e w' ⟨h1, h2⟩ => ⟨h1, h2 ▸ Drawn0.refl _⟩
def strings_Split.f (a0 a1 : ByteArray) : Option (List ByteArray) := if a0.size < 4294967281 ∧ a1.size = 1 then some (Lib.splitB a1 0 (Lib.countB a0 a1) a0) else none
theorem strings_Split.calls (a0 a1 : ByteArray) (r : List ByteArray) (w : World) (hL : LaidW w) (h : strings_Split.f a0 a1 = some r) :
    Calls Tryd.prog 54 #[.string a0, .string a1] w fun e w' => ∃ v0_ : Value, e = .returned (v0_) ∧ Kd.R Kd.string 9 w' w.heap.size (fun _ => True) v0_ r ∧ Below w.heap.size w w' := by
  unfold strings_Split.f at h
  split at h
  case isFalse => cases h
  case isTrue hs =>
  obtain rfl := Option.some.inj h
  obtain ⟨m, hm⟩ := hL.max
  obtain ⟨c, rfl⟩ := Lib.one_byte a1 hs.2
  have hl : Lib.countB a0 ⟨#[c]⟩ + 1 = (Lib.splitB ⟨#[c]⟩ 0 (Lib.countB a0 ⟨#[c]⟩) a0).length := (Sl.splitB_len a0 c).symm
  have hz : (Lib.splitB ⟨#[c]⟩ 0 (Lib.countB a0 ⟨#[c]⟩) a0).length ≤ 9223372036854775807 := by
    have h1 := Sl.count_size a0 c
    rw [← size_len] at h1
    have h2 := hs.1
    omega
  refine (Tryd.strings_Split a0 ⟨#[c]⟩ m w hs.1 hm (Nat.le_refl 1)).mono fun e w' ⟨h1, h2⟩ => ?_
  subst h1
  subst h2
  refine ⟨_, rfl, ?_, (Below.refl _ w).alloc (Nat.le_refl _) _⟩
  rw [hl]
  exact Kd.R_of_own (own_lit_of w w.heap.size 9 _ (Nat.le_refl _) hz) (fun _ _ => trivial)
def strings_Trim.f (a0 a1 : ByteArray) : Option ByteArray := match a1.data.toList with
  | [c] => if c.toNat < 128 ∧ a0.size ≤ 9223372036854775807 then some ⟨(Lib.trimB a0.data.toList c).toArray⟩ else none
  | _ => none
theorem one_of {a : ByteArray} {c : UInt8} (h : a.data.toList = [c]) : a = ⟨#[c]⟩ := by
  obtain ⟨⟨l⟩⟩ := a
  simp at h
  subst h
  rfl
theorem strings_Trim.calls (a0 a1 : ByteArray) (r : ByteArray) (w : World) (h : strings_Trim.f a0 a1 = some r) :
    Calls Tryd.prog 89 #[.string a0, .string a1] w fun e w' => e = .returned (.string r) ∧ Drawn0 w w' := by
  unfold strings_Trim.f at h
  split at h
  · rename_i c hc
    split at h
    · rename_i hs
      obtain rfl := Option.some.inj h
      rw [one_of hc]
      refine (Tryd.strings_Trim_one a0 c hs.1 w hs.2).mono fun e w' ⟨h1, h2⟩ => ⟨h1, ?_⟩
      rcases h2 with rfl | rfl
      · exact Drawn0.refl _
      · exact ⟨⟨1, rfl⟩⟩
    · cases h
  · cases h
def strings_TrimLeft.f (a0 a1 : ByteArray) : Option ByteArray := match a1.data.toList with
  | [c] => if c.toNat < 128 then some ⟨(Lib.trimLeftB a0.data.toList c).toArray⟩ else none
  | _ => none
theorem strings_TrimLeft.calls (a0 a1 : ByteArray) (r : ByteArray) (w : World) (h : strings_TrimLeft.f a0 a1 = some r) :
    Calls Tryd.prog 60 #[.string a0, .string a1] w fun e w' => e = .returned (.string r) ∧ Drawn0 w w' := by
  unfold strings_TrimLeft.f at h
  split at h
  · rename_i c hc
    split at h
    · rename_i hs
      obtain rfl := Option.some.inj h
      rw [one_of hc]
      exact (Tryd.strings_TrimLeft_one a0 c hs w).mono fun e w' ⟨h1, h2⟩ => ⟨h1, h2 ▸ Drawn0.refl _⟩
    · cases h
  · cases h
def strings_TrimSuffix.f (a0 a1 : ByteArray) : Option ByteArray := if a0.size ≤ 9223372036854775807 then some ⟨(Lib.trimSuffix a0.data.toList a1.data.toList).toArray⟩ else none
theorem strings_TrimSuffix.calls (a0 a1 : ByteArray) (r : ByteArray) (w : World) (h : strings_TrimSuffix.f a0 a1 = some r) :
    Calls Tryd.prog 106 #[.string a0, .string a1] w fun e w' => e = .returned (.string r) ∧ Drawn0 w w' := by
  unfold strings_TrimSuffix.f at h
  split at h
  · rename_i hs
    obtain rfl := Option.some.inj h
    exact (Tryd.strings_TrimSuffix a0 a1 w hs).mono fun e w' ⟨h1, h2⟩ => ⟨h1, h2 ▸ Drawn0.refl _⟩
  · cases h
def strings_Join.f (l0 : List ByteArray) (a1 : ByteArray) : Option ByteArray := if l0.length ≤ 140737488355328 ∧ (Lib.join (l0.map (·.data.toList)) a1.data.toList).length ≤ 140737488355328 then some ⟨(Lib.join (l0.map (·.data.toList)) a1.data.toList).toArray⟩ else none
theorem strings_Join.calls (A0 : Option Addr) (c0 : Nat) (l0 : List ByteArray) (a1 : ByteArray) (r : ByteArray) (w : World) (hr0 : Kd.C Kd.string w A0 l0.length l0) (hc0 : l0.length ≤ c0) (h : strings_Join.f l0 a1 = some r) :
    Calls Tryd.prog 56 #[.slice A0 l0.length c0, .string a1] w fun e w' => e = .returned (.string r) ∧ Below w.heap.size w w' := by
  unfold strings_Join.f at h
  split at h
  · rename_i hs
    obtain rfl := Option.some.inj h
    by_cases hn : l0.length = 0
    · obtain rfl := List.length_eq_zero_iff.1 hn
      refine (Tryd.strings_Join_none A0 c0 a1 w).mono fun e w' ⟨h1, h2⟩ => ⟨?_, ?_⟩
      · rw [h1]; rfl
      · rw [h2]; exact Below.refl _ _
    · obtain ⟨ad, rfl, h0⟩ := Kd.at_string hr0 0 (by omega) (by omega)
      have h0' : w.cell? ad = some (.string (rdOf ByteArray.empty l0 0)) := h0
      obtain ⟨b, o, sp⟩ := ad
      have hsp : sp = none := by
        cases sp with
        | none => rfl
        | some x =>
          unfold World.cell? at h0'
          split at h0'
          · simp at h0'
          · cases h0'
      subst hsp
      refine Tryd.strings_Join b o c0 l0 a1 w (fun j x hx => ?_) (World.block_lt_of_cell? w _ h0') hs.1 hc0 hs.2
      obtain ⟨hj, hx'⟩ := List.getElem?_eq_some_iff.1 hx
      obtain ⟨ad2, he, h2⟩ := Kd.at_string hr0 (j : Int) (by omega) (by omega)
      injection he with he
      subst he
      rw [Int.toNat_natCast] at h2
      have ea : (⟨b, o, none⟩ : Addr).add j = ⟨b, o + j, none⟩ := by
        unfold Addr.add
        split
        · rename_i h9; subst h9; rfl
        · rfl
      rw [ea] at h2
      rw [h2, rdOf, Int.toNat_natCast, List.getD_eq_getElem?_getD, hx]
      rfl
  · cases h
def strings_ReplaceAll.f (a0 a1 a2 : ByteArray) : Option ByteArray := if a0.size < 4294967281 ∧ 1 ≤ a1.size ∧ a0.size + Lib.countB a0 a1 * a2.size ≤ 140737488355328 then some ⟨(Lib.replaceAll a0.data.toList a1.data.toList a2.data.toList).toArray⟩ else none
theorem strings_ReplaceAll.calls (a0 a1 a2 : ByteArray) (r : ByteArray) (w : World) (hL : LaidW w) (h : strings_ReplaceAll.f a0 a1 a2 = some r) :
    Calls Tryd.prog 45 #[.string a0, .string a1, .string a2] w fun e w' => e = .returned (.string r) ∧ Below w.heap.size w w' := by
  unfold strings_ReplaceAll.f at h
  split at h
  · rename_i hs
    obtain rfl := Option.some.inj h
    obtain ⟨m, hm⟩ := hL.max
    exact Tryd.strings_ReplaceAll a0 a1 a2 m w hs.1 hm hs.2.1 hs.2.2
  · cases h
end Go.Proofs.YthdalpminhbckaaDoor.G
