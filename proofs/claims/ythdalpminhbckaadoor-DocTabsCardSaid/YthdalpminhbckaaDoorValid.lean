/- chars.Valid, proved by walking it; the listed tables as a fact on the world. -/
import Derived.Test.YthdalpminhbckaaDoorShelf
import Derived.Shelf.Strings.BuilderRune
import Derived.Shelf.Utf8.AppendRune
import Derived.WalkKit
import Derived.Test.YthdalpminhbckaaDoorText
import Derived.Test.YthdalpminhbckaaDoorWWords
import Derived.Test.YthdalpminhbckaaDoorWMore
import Derived.BigCall
set_option linter.unusedVariables false
namespace Go.Proofs.YthdalpminhbckaaDoor.G
open Go.RowKit Go.Proofs.YthdalpminhbckaaDoorW.PrintWords Go.Proofs.YthdalpminhbckaaDoor.Tx

/-- The two tables of unicode/utf8 hold what their text lays, and the variable that strings.Index reads holds some number. -/
structure LaidW (w : World) : Prop where
  tabs : Lib.Utf8Tabs 0 1 w
  max : ∃ m, w.cell? ⟨2, 0, none⟩ = some (.int .i64 m)
theorem LaidW.below {w w' : World} (h : LaidW w) (hb : Below w.heap.size w w') : LaidW w' :=
  ⟨⟨fun c hc => pw_cell_below hb (h.tabs.1 c hc), fun i hi => ⟨pw_cell_below hb (h.tabs.2 i hi).1, pw_cell_below hb (h.tabs.2 i hi).2⟩⟩, h.max.elim fun m hm => ⟨m, pw_cell_below hb hm⟩⟩

theorem decodeGo_drop (s : ByteArray) (pos : Nat) (h : pos < s.size) : Lib.decodeGo (s.extract pos s.size) = dec (s.data.toList.drop pos) := by
  have hs : (s.extract pos s.size).data.toList = s.data.toList.drop pos := by
    rw [Lib.extract_data]
    rw [List.take_of_length_le]
    rw [List.length_drop, ← size_len]
    omega
  have hz : (s.extract pos s.size).size ≠ 0 := by
    rw [size_len, hs, List.length_drop, ← size_len]
    omega
  rw [Lib.decodeGo, if_neg hz, dec_eq, hs, List.drop_zero]
theorem drop_ne {s : ByteArray} {pos : Nat} (h : pos < s.size) : s.data.toList.drop pos ≠ [] := by
  intro e
  have := congrArg List.length e
  rw [List.length_drop, ← size_len] at this
  simp at this
  omega

def chars_Valid.f (a0 : ByteArray) : Option (Int × Bool) := if a0.size ≤ 140737488351232 then some ((valid a0.data.toList : Int), decide ((valid a0.data.toList : Int) = (a0.size : Int))) else none

theorem ret_pair {k : IntKind} {a b : Int} {p q : Bool} (h : a = b) (h2 : p = q) : Ending.returned (.tuple #[.int k a, .bool p]) = .returned (.tuple #[.int k b, .bool q]) := by rw [h, h2]
set_option maxHeartbeats 1000000 in
set_option maxRecDepth 100000 in
theorem chars_Valid.calls (a0 : ByteArray) (r1 : Int) (r2 : Bool) (w : World) (hL : LaidW w) (h : chars_Valid.f a0 = some (r1, r2)) :
    Calls Tryd.prog 65 #[.string a0] w fun e w' => e = .returned (.tuple #[.int .i64 r1, .bool r2]) ∧ Below w.heap.size w w' := by
  unfold chars_Valid.f at h
  split at h
  case isFalse => cases h
  case isTrue hs =>
  simp only [Option.some.injEq, Prod.mk.injEq] at h
  obtain ⟨rfl, rfl⟩ := h
  go_enter Tryd.func65, Tryd.ntmps65
  go_wp2_with fail
  go_loopw [4] (fun n wr => ∃ pos : Nat, n = .int .i64 a0.size ∧ pos ≤ a0.size ∧ wr.heap[w.heap.size]? = some (.stringIter a0 pos) ∧ Below w.heap.size w wr ∧ Aside0 (valid a0.data.toList = pos + valid (a0.data.toList.drop pos))) (fun _ wr => a0.size - wr.iterPos w.heap.size)
  case atStart =>
    refine ⟨0, rfl, by omega, by simp [World.iter_heap], (Below.refl _ w).alloc (Nat.le_refl _) _, ⟨by simp⟩⟩
  case round =>
    obtain ⟨pos, rfl, hpl, hit, hbw, hv⟩ := hrel
    have hszr : w.heap.size < wr.heap.size := (Array.getElem?_eq_some_iff.1 hit).1
    by_cases hp : pos < a0.size
    · have hnx : ∀ ty, (Instr.next (.pointer (some ⟨w.heap.size, 0, none⟩)) true ty).run Tryd.prog wr = _ := fun ty => Lib.run_next_any_at wr w.heap.size a0 pos ty hit hp
      rw [dec_eq] at hnx
      have hD := Aside0.mk (decodeGo_drop a0 pos hp)
      have hne := Aside0.mk (drop_ne hp)
      have hwd := dec_width (a0.data.toList.drop pos)
      have hft := dec_fits _ hne.out
      rw [List.length_drop, ← size_len] at hft
      have hbd : Aside0 (bad (a0.data.toList.drop pos) ↔ (dec (a0.data.toList.drop pos)).1 = 65533 ∧ (dec (a0.data.toList.drop pos)).2 = 1) := ⟨Iff.rfl⟩
      have hwdr := Aside0.mk (List.drop_drop (l := a0.data.toList) (i := (dec (a0.data.toList.drop pos)).2) (j := pos))
      have hvb := Aside0.mk (valid_bad hne.out)
      have hvc := Aside0.mk (valid_cons hne.out)
      generalize hd : dec (a0.data.toList.drop pos) = d at *
      obtain ⟨c, k⟩ := d
      simp only at *
      have hit2 := Lib.iterAt_heap wr w.heap.size a0 pos (pos + k) hit
      have hbw2 := Lib.below_iterAt hbw (k := w.heap.size) (by omega) a0 (pos + k)
      have hL2 := (LaidW.below hL hbw2).tabs
      have hps : (pos : Int) ≤ (a0.size : Int) := by omega
      clear hd
      have hcb : ((c : Int) == 65533) = true ∨ ((c : Int) == 65533) = false := by cases ((c : Int) == 65533) <;> simp
      have hkb : ((k : Int) == 1) = true ∨ ((k : Int) == 1) = false := by cases ((k : Int) == 1) <;> simp
      rcases hcb with hcb | hcb <;> rcases hkb with hkb | hkb
      all_goals
        go_wp2_with (go_at_call 96; refine (Tryd.utf8_DecodeRuneInString _ _ hL2).mono ?_; rw [hD.out]; rintro e w1 ⟨rfl, hb1⟩)
        skip
      · have hc : c = 65533 := by have := beq_iff_eq.1 hcb; omega
        have hk : k = 1 := by have := beq_iff_eq.1 hkb; omega
        have hv2 := hvb.out (hbd.out.2 ⟨hc, hk⟩)
        rw [hv.out, hv2, Nat.add_zero]
        go_ret2
        refine ⟨?_, (hbw2.trans (hb1.mono (by have := hbw2.size; omega)))⟩
        show Ending.returned (.tuple #[.int .i64 (pos : Int), .bool ((pos : Int) == (a0.size : Int))]) = _
        rfl
      all_goals
        go_roundw
        case rel =>
          have hnb : ¬ bad (a0.data.toList.drop pos) := by
            rw [hbd.out]
            rintro ⟨rfl, rfl⟩
            first | (simp at hcb; done) | (simp at hkb; done)
          refine ⟨pos + k, rfl, by omega, ?_, hbw2.trans (hb1.mono (by have := hbw2.size; omega)), ⟨?_⟩⟩
          · exact (hb1.block _ (by rw [Lib.iterAt_size]; exact hszr)).trans hit2
          · rw [hv.out, hvc.out hnb, hwdr.out]
            omega
        case measure =>
          have hi1 : w1.heap[w.heap.size]? = some (.stringIter a0 (pos + k)) := (hb1.block _ (by rw [Lib.iterAt_size]; exact hszr)).trans hit2
          simp only [World.iterPos, hi1, hit]
          omega
    · have hnx : ∀ ty, (Instr.next (.pointer (some ⟨w.heap.size, 0, none⟩)) true ty).run Tryd.prog wr = _ := fun ty => Lib.run_next_end_at wr w.heap.size a0 pos ty hit hp
      go_wp2_with fail
      have hv2 : valid a0.data.toList = a0.size := by
        rw [hv.out, List.drop_of_length_le (by rw [← size_len]; omega), valid_nil]
        omega
      rw [hv2]
      go_ret2
      exact ⟨rfl, hbw⟩

/-! ### a string's iterator beside a row of the call's own -/
section
variable {α : Type} {d : Kd α} {e : Nat} {w w1 : World} {base : Nat} {ok : Nat → Prop} {v : Value} {xs : List α} {k : Nat} {s : ByteArray} {pos : Nat}
theorem R_iter (h : d.R e w base ok v xs) (hk : w.heap[k]? = some (.stringIter s pos)) (pos' : Nat) : d.R e (w.iterAt k s pos') base ok v xs :=
  Kd.R_mono (Kd.R_step (Kd.R_bound h) (fun j hj _ => Lib.iterAt_other w k j s pos' (by
    rintro rfl
    obtain ⟨_, _, _, q, _, cells, hc⟩ := hj
    rw [hk] at hc
    cases hc))) (fun _ hj => hj.1)
theorem R_iter_ne (h : d.R e w base ok v xs) (hk : w.heap[k]? = some (.stringIter s pos)) : some k ≠ v.ownBlock := by
  intro he
  obtain ⟨inner, ho⟩ := Kd.R_own h
  obtain ⟨cells, hc⟩ := own_typed ho k he.symm
  rw [hk] at hc
  cases hc
end
end Go.Proofs.YthdalpminhbckaaDoor.G
