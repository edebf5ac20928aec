/- What the functions of this seat that the printer does not take give: proved by walking them. -/
import Derived.Test.YtegapacamclipaaGreatDoorBuild
import Derived.Test.YtegapacamclipaaGreatDoorText
import Derived.Test.YtegapacamclipaaGreatDoorWWords
import Derived.Test.YtegapacamclipaaGreatDoorWMore
import Derived.BigCall
set_option linter.unusedVariables false
namespace Go.Proofs.YtegapacamclipaaGreatDoor.G
open Go.RowKit Go.Proofs.YtegapacamclipaaGreatDoorW.PrintWords Go.Proofs.YtegapacamclipaaGreatDoor.Tx

/-- The two tables of unicode/utf8 hold what their text lays; the number that strings.Index reads; the entry of math/bits' table that is read at 16. -/
structure LaidW (w : World) : Prop where
  tabs : Lib.Utf8Tabs 2 3 w
  max : ∃ m, w.cell? ⟨1, 0, none⟩ = some (.int .i64 m)
  tz : w.cell? ⟨7, 15, none⟩ = some (.int .u8 4)
theorem LaidW.below {w w' : World} (h : LaidW w) (hb : Below w.heap.size w w') : LaidW w' :=
  ⟨⟨fun c hc => pw_cell_below hb (h.tabs.1 c hc), fun i hi => ⟨pw_cell_below hb (h.tabs.2 i hi).1, pw_cell_below hb (h.tabs.2 i hi).2⟩⟩, h.max.elim fun m hm => ⟨m, pw_cell_below hb hm⟩, pw_cell_below hb h.tz⟩

theorem decodeGo_drop (s : ByteArray) (pos : Nat) (h : pos < s.size) : Lib.decodeGo (s.extract pos s.size) = dec (s.data.toList.drop pos) := by
  have hs : (s.extract pos s.size).data.toList = s.data.toList.drop pos := by
    rw [Lib.extract_data]
    rw [List.take_of_length_le]
    rw [List.length_drop, ← size_len]
    omega
  have hz : (s.extract pos s.size).size ≠ 0 := by
    rw [size_len, hs, List.length_drop, ← size_len]
    omega
  rw [Lib.decodeGo, if_neg hz, dec_eq, hs, List.drop_zero]
theorem drop_ne {s : ByteArray} {pos : Nat} (h : pos < s.size) : s.data.toList.drop pos ≠ [] := by
  intro e
  have := congrArg List.length e
  rw [List.length_drop, ← size_len] at this
  simp at this
  omega

def chars_Valid.f (a0 : ByteArray) : Option (Int × Bool) := if a0.size ≤ 140737488351232 then some ((valid a0.data.toList : Int), decide ((valid a0.data.toList : Int) = (a0.size : Int))) else none

theorem ret_pair {k : IntKind} {a b : Int} {p q : Bool} (h : a = b) (h2 : p = q) : Ending.returned (.tuple #[.int k a, .bool p]) = .returned (.tuple #[.int k b, .bool q]) := by rw [h, h2]
set_option maxHeartbeats 1000000 in
set_option maxRecDepth 100000 in
theorem chars_Valid.calls (a0 : ByteArray) (r1 : Int) (r2 : Bool) (w : World) (hL : LaidW w) (h : chars_Valid.f a0 = some (r1, r2)) :
    Calls Tryz.prog 40 #[.string a0] w fun e w' => e = .returned (.tuple #[.int .i64 r1, .bool r2]) ∧ Below w.heap.size w w' := by
  unfold chars_Valid.f at h
  split at h
  case isFalse => cases h
  case isTrue hs =>
  simp only [Option.some.injEq, Prod.mk.injEq] at h
  obtain ⟨rfl, rfl⟩ := h
  go_enter Tryz.func40, Tryz.ntmps40
  go_wp2_with fail
  go_loopw [4] (fun n wr => ∃ pos : Nat, n = .int .i64 a0.size ∧ pos ≤ a0.size ∧ wr.heap[w.heap.size]? = some (.stringIter a0 pos) ∧ Below w.heap.size w wr ∧ Aside0 (valid a0.data.toList = pos + valid (a0.data.toList.drop pos))) (fun _ wr => a0.size - wr.iterPos w.heap.size)
  case atStart =>
    refine ⟨0, rfl, by omega, by simp [World.iter_heap], (Below.refl _ w).alloc (Nat.le_refl _) _, ⟨by simp⟩⟩
  case round =>
    obtain ⟨pos, rfl, hpl, hit, hbw, hv⟩ := hrel
    have hszr : w.heap.size < wr.heap.size := (Array.getElem?_eq_some_iff.1 hit).1
    by_cases hp : pos < a0.size
    · have hnx : ∀ ty, (Instr.next (.pointer (some ⟨w.heap.size, 0, none⟩)) true ty).run Tryz.prog wr = _ := fun ty => Lib.run_next_any_at wr w.heap.size a0 pos ty hit hp
      rw [dec_eq] at hnx
      have hD := Aside0.mk (decodeGo_drop a0 pos hp)
      have hne := Aside0.mk (drop_ne hp)
      have hwd := dec_width (a0.data.toList.drop pos)
      have hft := dec_fits _ hne.out
      rw [List.length_drop, ← size_len] at hft
      have hbd : Aside0 (bad (a0.data.toList.drop pos) ↔ (dec (a0.data.toList.drop pos)).1 = 65533 ∧ (dec (a0.data.toList.drop pos)).2 = 1) := ⟨Iff.rfl⟩
      have hwdr := Aside0.mk (List.drop_drop (l := a0.data.toList) (i := (dec (a0.data.toList.drop pos)).2) (j := pos))
      have hvb := Aside0.mk (valid_bad hne.out)
      have hvc := Aside0.mk (valid_cons hne.out)
      generalize hd : dec (a0.data.toList.drop pos) = d at *
      obtain ⟨c, k⟩ := d
      simp only at *
      have hit2 := Lib.iterAt_heap wr w.heap.size a0 pos (pos + k) hit
      have hbw2 := Lib.below_iterAt hbw (k := w.heap.size) (by omega) a0 (pos + k)
      have hL2 := LaidW.below hL hbw2
      have hps : (pos : Int) ≤ (a0.size : Int) := by omega
      clear hd
      have hcb : ((c : Int) == 65533) = true ∨ ((c : Int) == 65533) = false := by cases ((c : Int) == 65533) <;> simp
      have hkb : ((k : Int) == 1) = true ∨ ((k : Int) == 1) = false := by cases ((k : Int) == 1) <;> simp
      rcases hcb with hcb | hcb <;> rcases hkb with hkb | hkb
      all_goals
        go_wp2_with (go_at_call 52; refine (Tryz.utf8_DecodeRuneInString _ _ hL2.tabs).mono ?_; rw [hD.out]; rintro e w1 ⟨rfl, hb1⟩)
        skip
      · have hc : c = 65533 := by have := beq_iff_eq.1 hcb; omega
        have hk : k = 1 := by have := beq_iff_eq.1 hkb; omega
        have hv2 := hvb.out (hbd.out.2 ⟨hc, hk⟩)
        rw [hv.out, hv2, Nat.add_zero]
        go_ret2
        refine ⟨?_, (hbw2.trans (hb1.mono (by have := hbw2.size; omega)))⟩
        show Ending.returned (.tuple #[.int .i64 (pos : Int), .bool ((pos : Int) == (a0.size : Int))]) = _
        rfl
      all_goals
        go_roundw
        case rel =>
          have hnb : ¬ bad (a0.data.toList.drop pos) := by
            rw [hbd.out]
            rintro ⟨rfl, rfl⟩
            first | (simp at hcb; done) | (simp at hkb; done)
          refine ⟨pos + k, rfl, by omega, ?_, hbw2.trans (hb1.mono (by have := hbw2.size; omega)), ⟨?_⟩⟩
          · exact (hb1.block _ (by rw [Lib.iterAt_size]; exact hszr)).trans hit2
          · rw [hv.out, hvc.out hnb, hwdr.out]
            omega
        case measure =>
          have hi1 : w1.heap[w.heap.size]? = some (.stringIter a0 (pos + k)) := (hb1.block _ (by rw [Lib.iterAt_size]; exact hszr)).trans hit2
          simp only [World.iterPos, hi1, hit]
          omega
    · have hnx : ∀ ty, (Instr.next (.pointer (some ⟨w.heap.size, 0, none⟩)) true ty).run Tryz.prog wr = _ := fun ty => Lib.run_next_end_at wr w.heap.size a0 pos ty hit hp
      go_wp2_with fail
      have hv2 : valid a0.data.toList = a0.size := by
        rw [hv.out, List.drop_of_length_le (by rw [← size_len]; omega), valid_nil]
        omega
      rw [hv2]
      go_ret2
      exact ⟨rfl, hbw⟩

/-! ### a string's iterator beside a row of the call's own -/
section
variable {α : Type} {d : Kd α} {e : Nat} {w w1 : World} {base : Nat} {ok : Nat → Prop} {v : Value} {xs : List α} {k : Nat} {s : ByteArray} {pos : Nat}
theorem R_iter (h : d.R e w base ok v xs) (hk : w.heap[k]? = some (.stringIter s pos)) (pos' : Nat) : d.R e (w.iterAt k s pos') base ok v xs :=
  Kd.R_mono (Kd.R_step (Kd.R_bound h) (fun j hj _ => Lib.iterAt_other w k j s pos' (by
    rintro rfl
    obtain ⟨_, _, _, q, _, cells, hc⟩ := hj
    rw [hk] at hc
    cases hc))) (fun _ hj => hj.1)
theorem R_iter_ne (h : d.R e w base ok v xs) (hk : w.heap[k]? = some (.stringIter s pos)) : some k ≠ v.ownBlock := by
  intro he
  obtain ⟨inner, ho⟩ := Kd.R_own h
  obtain ⟨cells, hc⟩ := own_typed ho k he.symm
  rw [hk] at hc
  cases hc
end
theorem infoInt : (Tryz.prog.info? 3).map (fun i => (i.zero, i.size, i.bytes)) = some (some (.int .i64 0), 1, 8) := by kernel_rfl

def chars_points.f (a0 : ByteArray) : Option (List Int) := if a0.size ≤ 17592186044415 then some (runes a0.data.toList) else none
set_option maxHeartbeats 1000000 in
set_option maxRecDepth 100000 in
theorem chars_points.calls (a0 : ByteArray) (r : List Int) (w : World) (h : chars_points.f a0 = some r) :
    Calls Tryz.prog 33 #[.string a0] w fun e w' => ∃ v0_ : Value, e = .returned (v0_) ∧ Kd.R (Kd.int .i64) 3 w' w.heap.size (fun _ => True) v0_ r ∧ Below w.heap.size w w' := by
  unfold chars_points.f at h
  split at h
  case isFalse => cases h
  case isTrue hs =>
  obtain rfl := Option.some.inj h
  go_enter Tryz.func33, Tryz.ntmps33
  go_wp2_with fail
  go_loopw [3] (fun v wr => ∃ (pos : Nat) (acc : List Int), Aside0 (Kd.R (Kd.int .i64) 3 wr w.heap.size (fun _ => True) v acc) ∧ pos ≤ a0.size ∧ acc.length ≤ pos ∧ wr.heap[w.heap.size]? = some (.stringIter a0 pos) ∧ Below w.heap.size w wr ∧ Aside0 (acc ++ runes (a0.data.toList.drop pos) = runes a0.data.toList)) (fun _ wr => a0.size - wr.iterPos w.heap.size)
  case atStart =>
    exact ⟨0, [], ⟨Kd.R_nil _ _ _ _ _⟩, by omega, by simp, by simp [World.iter_heap], (Below.refl _ w).alloc (Nat.le_refl _) _, ⟨by simp⟩⟩
  case round =>
    obtain ⟨pos, acc, hR, hpl, hal, hit, hbw, hv⟩ := hrel
    have hszr : w.heap.size < wr.heap.size := (Array.getElem?_eq_some_iff.1 hit).1
    by_cases hp : pos < a0.size
    · have hnx : ∀ ty, (Instr.next (.pointer (some ⟨w.heap.size, 0, none⟩)) true ty).run Tryz.prog wr = _ := fun ty => Lib.run_next_any_at wr w.heap.size a0 pos ty hit hp
      rw [dec_eq] at hnx
      have hne := Aside0.mk (drop_ne hp)
      have hwd := dec_width (a0.data.toList.drop pos)
      have hsm := dec_small (a0.data.toList.drop pos)
      have hft := dec_fits _ hne.out
      rw [List.length_drop, ← size_len] at hft
      have hwdr := Aside0.mk (List.drop_drop (l := a0.data.toList) (i := (dec (a0.data.toList.drop pos)).2) (j := pos))
      have hrc := Aside0.mk (runes_cons hne.out)
      generalize hd : dec (a0.data.toList.drop pos) = d at *
      obtain ⟨c, k⟩ := d
      simp only at *
      have hit2 := Lib.iterAt_heap wr w.heap.size a0 pos (pos + k) hit
      have hbw2 := Aside0.mk (Lib.below_iterAt hbw (k := w.heap.size) (by omega) a0 (pos + k))
      have hR2 := Aside0.mk (R_iter hR.out hit (pos + k))
      have hne2 := Aside0.mk (R_iter_ne hR2.out hit2)
      have hsz2 := Aside0.mk (Lib.iterAt_size wr w.heap.size a0 (pos + k))
      have hsz3 := hbw2.out.size
      clear hd
      go_wp2_with (at_builtin; refine Kd.R_append (Kd.int .i64) (w0 := w) w.heap.size rfl _ _ 29 3 (.int .i64 0) 8 rfl Tryz.underlying29 infoInt rfl (by decide) (by omega) u3 acc (c : Int) [.int .i64 (c : Int)] (fun _ => True) (fun _ => False) rfl rfl ?aP (fun _ hk => hk.elim) ?aF ?aO ?aB ?aS ?aL ?_)
      case aP => rfl
      case aF => exact fun _ _ => trivial
      case aO => exact hR2.out
      case aB => exact hbw2.out
      case aS => omega
      case aL => omega
      intro v1 w1 ho hb hg _
      have ho := Aside0.mk ho
      have hi1 : w1.heap[w.heap.size]? = some (.stringIter a0 (pos + k)) := (hg.block _ (by rw [hsz2.out]; exact hszr) hne2.out).trans hit2
      clear hg
      go_wp2
      go_roundw
      case rel =>
        refine ⟨pos + k, acc ++ [(c : Int)], ho, by omega, by simp; omega, hi1, hb, ⟨?_⟩⟩
        rw [← hv.out, hrc.out, hwdr.out]
        simp
      case measure =>
        simp only [World.iterPos, hi1, hit]
        omega
    · have hnx : ∀ ty, (Instr.next (.pointer (some ⟨w.heap.size, 0, none⟩)) true ty).run Tryz.prog wr = _ := fun ty => Lib.run_next_end_at wr w.heap.size a0 pos ty hit hp
      go_wp2_with fail
      have hv2 : acc = runes a0.data.toList := by
        rw [← hv.out, List.drop_of_length_le (by rw [← size_len]; omega), runes_nil, List.append_nil]
      go_ret
      exact ⟨_, rfl, hv2 ▸ hR.out, hbw⟩
end Go.Proofs.YtegapacamclipaaGreatDoor.G
