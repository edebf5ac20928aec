/- doc: tabs and blanks: walked by hand. -/
import Derived.Test.YthdalpminhbckaaDoorK3
import Derived.Test.YthdalpminhbckaaDoorStrs
import Derived.Test.YthdalpminhbckaaDoorBuild
import Derived.Test.YthdalpminhbckaaDoorWMore
import Derived.WalkKit
import Derived.BigCall
import Derived.Shelf.Strings.MapGrows
set_option linter.unusedVariables false
set_option linter.unusedSimpArgs false
namespace Go.Proofs.YthdalpminhbckaaDoor.G
open Go.RowKit Go.Proofs.YthdalpminhbckaaDoorW.PrintWords Go.Proofs.YthdalpminhbckaaDoor.Tx Go.Lib
/-- Rows of blanks of one line become tabs: b blanks are not written yet. -/
def unL (tab : Nat) : List Int → Nat → Nat → List Int
  | [], _, b => List.replicate b 32
  | c :: r, col, b =>
    if c = 32 then (if (col + 1) % tab = 0 then (if 1 < b + 1 then 9 else 32) :: unL tab r (col + 1) 0 else unL tab r (col + 1) (b + 1))
    else if c = 9 then List.replicate b 32 ++ 9 :: unL tab r (col + (tab - col % tab)) 0
    else List.replicate b 32 ++ c :: unL tab r (col + 1) 0
theorem e9 : encodeRune 9 = [9] := by rw [encodeRune, encodeRuneZ_one (by omega) (by omega)]; rfl
theorem e32 : encodeRune 32 = [32] := by rw [encodeRune, encodeRuneZ_one (by omega) (by omega)]; rfl
theorem u32a (tab : Nat) (r : List Int) (col b : Nat) (h : (col + 1) % tab = 0) : unL tab (32 :: r) col b = (if 1 < b + 1 then 9 else 32) :: unL tab r (col + 1) 0 := by rw [unL, if_pos rfl, if_pos h]
theorem u32b (tab : Nat) (r : List Int) (col b : Nat) (h : ¬ (col + 1) % tab = 0) : unL tab (32 :: r) col b = unL tab r (col + 1) (b + 1) := by rw [unL, if_pos rfl, if_neg h]
theorem enc_rep : ∀ b : Nat, enc (List.replicate b 32) = List.replicate b 32
  | 0 => rfl
  | b + 1 => by rw [List.replicate_succ, enc_cons, e32, enc_rep b, List.replicate_succ]; rfl
theorem un9 (tab : Nat) (r : List Int) (col b : Nat) : enc (unL tab (9 :: r) col b) = List.replicate b 32 ++ ([9] ++ enc (unL tab r (col + (tab - col % tab)) 0)) := by
  rw [unL, if_neg (by omega), if_pos rfl, enc_append, enc_rep, enc_cons, e9]
theorem uc (tab : Nat) (c : Int) (r : List Int) (col b : Nat) (h : ¬ c = 32) (h9 : ¬ c = 9) : enc (unL tab (c :: r) col b) = List.replicate b 32 ++ (encodeRune c ++ enc (unL tab r (col + 1) 0)) := by
  rw [unL, if_neg h, if_neg h9, enc_append, enc_rep, enc_cons]
theorem tab_w1 (tab col : Nat) (h1 : 1 ≤ tab) (h2 : tab ≤ 16) : wrap64 ((tab : Int) - (col : Int) % (tab : Int)) = ((tab - col % tab : Nat) : Int) := by
  have hml : col % tab < tab := Nat.mod_lt _ (by omega)
  rw [← Int.natCast_emod]
  generalize col % tab = m at *
  unfold wrap64; omega
theorem tab_w2 (tab col : Nat) (h1 : 1 ≤ tab) (h2 : tab ≤ 16) (h : col ≤ 1000000) : wrap64 ((col : Int) + ((tab - col % tab : Nat) : Int)) = ((col + (tab - col % tab) : Nat) : Int) := by
  have hm : tab - col % tab ≤ 16 := by omega
  generalize tab - col % tab = m at *
  unfold wrap64; omega
def rep (b : Nat) : ByteArray := ⟨(List.replicate b 32).toArray⟩
theorem rep_size (b : Nat) : (rep b).size = b := by simp [rep, ByteArray.size]
theorem rep_calls (b : Nat) (w : World) (h : b ≤ 100000) : Calls Tryd.prog 53 #[.string (⟨#[32]⟩ : ByteArray), .int .i64 b] w fun e w' => e = .returned (.string (rep b)) ∧ Below w.heap.size w w' := by
  have g := Tryd.strings_Repeat (⟨#[32]⟩ : ByteArray) b w (by omega) (by show 1 * b ≤ _; omega)
  have e : Lib.repeatL (⟨#[32]⟩ : ByteArray).data.toList b = List.replicate b 32 := by
    have := repeatL_replicate 32 1 b
    rw [Nat.mul_one] at this
    exact this
  rw [e] at g
  exact g
set_option maxHeartbeats 2000000 in
set_option maxRecDepth 100000 in
theorem untabbed_any (a0 : ByteArray) (tab : Nat) (h1 : 1 ≤ tab) (h2 : tab ≤ 16) (w : World) (hs : a0.size ≤ 4096) :
    Calls Tryd.prog 55 #[.string a0, .int .i64 tab] w fun e w' => e = .returned (.string ⟨(enc (unL tab (runes a0.data.toList) 0 0)).toArray⟩) ∧ Below w.heap.size w w' := by
  go_enter Tryd.func55, Tryd.ntmps55
  go_wp2_with fail
  go_loopw [6, 7] (fun cv bv wr => ∃ (pos col b : Nat) (acc : List UInt8), cv = .int .i64 col ∧ bv = .int .i64 b ∧ Aside0 (IsB w.heap.size w.heap.size (byteCells acc) wr) ∧ pos ≤ a0.size ∧ acc.length + b ≤ 4 * pos ∧ col ≤ 17 * pos ∧ wr.heap[w.heap.size + 1]? = some (.stringIter a0 pos) ∧ Below w.heap.size w wr ∧ Aside0 (acc ++ enc (unL tab (runes (a0.data.toList.drop pos)) col b) = enc (unL tab (runes a0.data.toList) 0 0))) (fun _ _ wr => a0.size - wr.iterPos (w.heap.size + 1))
  case atStart =>
    refine ⟨0, 0, 0, [], rfl, rfl, ⟨(IsBuilderF.of (fresh_isBuilder 51 5 w)).alloc _⟩, by omega, by simp, by omega, ?_, ((Below.refl _ w).alloc (Nat.le_refl _) _).alloc (by simp) _, ⟨by simp⟩⟩
    have := World.iter_heap (w.alloc (.cells #[.pointer none, .slice none 0 0] 51)) a0 0
    simpa using this
  case round =>
    obtain ⟨pos, col, b, acc, rfl, rfl, hI, hpl, hal, hcl, hit, hbw, hv⟩ := hrel
    have hszr : w.heap.size + 1 < wr.heap.size := (Array.getElem?_eq_some_iff.1 hit).1
    by_cases hp : pos < a0.size
    · have hnx : ∀ ty, (Instr.next (.pointer (some ⟨w.heap.size + 1, 0, none⟩)) true ty).run Tryd.prog wr = _ := fun ty => run_next_any_at wr (w.heap.size + 1) a0 pos ty hit hp
      rw [dec_eq] at hnx
      have hne := Aside0.mk (drop_ne hp)
      have hwd := dec_width (a0.data.toList.drop pos)
      have hsm := dec_small (a0.data.toList.drop pos)
      have hft := dec_fits _ hne.out
      rw [List.length_drop, ← size_len] at hft
      have hwdr := Aside0.mk (List.drop_drop (l := a0.data.toList) (i := (dec (a0.data.toList.drop pos)).2) (j := pos))
      have hrc := Aside0.mk (runes_cons hne.out)
      generalize hd : dec (a0.data.toList.drop pos) = d at *
      obtain ⟨c, k⟩ := d
      simp only at *
      have hit2 := iterAt_heap wr (w.heap.size + 1) a0 pos (pos + k) hit
      have hbw2 := Aside0.mk (below_iterAt hbw (k := w.heap.size + 1) (by omega) a0 (pos + k))
      have hI2 := Aside0.mk (IsBuilderF.iterAt hI.out hit (pos + k))
      have hsz2 := hbw2.out.size
      clear hd
      have hcb : (((c : Nat) : Int) == 32) = true ∨ (((c : Nat) : Int) == 32) = false := by cases (((c : Nat) : Int) == 32) <;> simp
      have hit3 := Aside0.mk hit2
      have hwb := Aside0.mk (fun x : Int => writeByte_any w.heap.size w.heap.size (byteCells acc) x _ hI2.out (by rw [byteCells_length]; omega) (by omega))
      have hmod : ∀ m : Nat, (((m : Int) % (tab : Int) == 0) = true → m % tab = 0) ∧ (((m : Int) % (tab : Int) == 0) = false → ¬ m % tab = 0) := fun m => by
        rw [← Int.natCast_emod]
        exact ⟨fun h => by have := beq_iff_eq.1 h; omega, fun h g => by rw [g] at h; simp at h⟩
      have hmd := Aside0.mk hmod
      clear hmod
      rcases hcb with hcb | hcb
      · have hci := Aside0.mk (beq_iff_eq.1 hcb)
        go_wp2_with (go_at_call 42; refine (hwb.out _).mono ?_; rintro e w1 ⟨rfl, h1b, hb1, hk1⟩)
        · have hm := (hmd.out (col + 1)).1 (by assumption)
          have hb9 : 1 < b + 1 := by have : (1 : Int) < (b : Int) + 1 := (by assumption); omega
          have hi1 : w1.heap[w.heap.size + 1]? = some (.stringIter a0 (pos + k)) := hk1.iter hit3.out (by omega)
          go_roundw
          case rel => exact ⟨pos + k, col + 1, 0, acc ++ [9], rfl, rfl, ⟨by rw [byteCells_append]; exact Or.inr h1b⟩, by omega, by simp; omega, by omega, hi1, hbw2.out.trans hb1, ⟨by rw [← hv.out, hrc.out, hwdr.out, hci.out, u32a _ _ _ _ hm, if_pos hb9, enc_cons, e9]; simp⟩⟩
          case measure => simp only [World.iterPos, hi1, hit]; omega
        · have hm := (hmd.out (col + 1)).1 (by assumption)
          have hb9 : ¬ 1 < b + 1 := by have : (b : Int) + 1 ≤ 1 := (by assumption); omega
          have hi1 : w1.heap[w.heap.size + 1]? = some (.stringIter a0 (pos + k)) := hk1.iter hit3.out (by omega)
          go_roundw
          case rel => exact ⟨pos + k, col + 1, 0, acc ++ [32], rfl, rfl, ⟨by rw [byteCells_append]; exact Or.inr h1b⟩, by omega, by simp; omega, by omega, hi1, hbw2.out.trans hb1, ⟨by rw [← hv.out, hrc.out, hwdr.out, hci.out, u32a _ _ _ _ hm, if_neg hb9, enc_cons, e32]; simp⟩⟩
          case measure => simp only [World.iterPos, hi1, hit]; omega
        · have hm := (hmd.out (col + 1)).2 (by assumption)
          go_roundw
          case rel => exact ⟨pos + k, col + 1, b + 1, acc, rfl, rfl, hI2, by omega, by omega, by omega, hit3.out, hbw2.out, ⟨by rw [← hv.out, hrc.out, hwdr.out, hci.out, u32b _ _ _ _ hm]⟩⟩
          case measure => simp only [World.iterPos, hit3.out, hit]; omega
      · have hci : ¬ ((c : Nat) : Int) = 32 := fun h => by rw [h] at hcb; simp at hcb
        have hcn := Aside0.mk hci
        have hrep := Aside0.mk (fun W => rep_calls b W (by omega))
        have hc9 : ((((c : Nat) : Int) == 9) = true ∨ (((c : Nat) : Int) == 9) = false) := by cases (((c : Nat) : Int) == 9) <;> simp
        have hw1 := Aside0.mk (tab_w1 tab col h1 h2)
        have hw2 := Aside0.mk (tab_w2 tab col h1 h2 (by omega))
        clear hci
        rcases hc9 with hc9 | hc9
        all_goals
          go_wp2_with (go_at_call 53; refine (hrep.out _).mono ?_; rintro e w1 ⟨rfl, hb1⟩)
          have hI3 := Aside0.mk (IsBuilderF.below hI2.out hb1)
          have hs3 := hb1.size
          have hsw3 : w.heap.size ≤ w1.heap.size := by omega
          have hws := Aside0.mk (writeString_any w.heap.size w.heap.size (byteCells acc) (rep b) w1 hI3.out (by rw [byteCells_length, rep_size]; omega) hsw3)
          go_wp2_with (go_at_call 44; refine hws.out.mono ?_; rintro e w2 ⟨rfl, h2b, hb2, hk2⟩)
          have hI4 : Aside0 (IsB w.heap.size w.heap.size (byteCells (acc ++ List.replicate b 32)) w2) := ⟨by rw [byteCells_append]; exact Or.inr h2b⟩
          have hs4 := hb2.size
          have hi1 := Aside0.mk (hk2.iter ((hb1.block _ (by rw [iterAt_size]; exact hszr)).trans hit3.out) (by omega))
          have hwr := Aside0.mk (writeRune_any w.heap.size w.heap.size (byteCells (acc ++ List.replicate b 32)) (c : Int) (by omega) (by omega) w2 hI4.out (by rw [byteCells_length, List.length_append, List.length_replicate]; omega) (by omega))
          clear h2b hk2
          go_wp2_with (go_at_call 52; refine hwr.out.mono ?_; rintro e w3 ⟨⟨m, rfl⟩, h3b, hb3, hk3⟩)
          all_goals
            have hi3 := Aside0.mk (hk3.iter hi1.out (by omega))
            have hbz := Aside0.mk ((hbw2.out.trans (hb1.mono (by omega))).trans (hb2.trans hb3))
            have hel := (encodeRune_length (c : Int)).2
            have hI5 : Aside0 (IsB w.heap.size w.heap.size (byteCells (acc ++ List.replicate b 32 ++ encodeRune (c : Int))) w3) := ⟨by rw [byteCells_append, byteCells_encodeRune]; exact Or.inr h3b⟩
            have hln : (acc ++ List.replicate b 32 ++ encodeRune (c : Int)).length + 0 ≤ 4 * (pos + k) := by rw [List.length_append, List.length_append, List.length_replicate]; omega
            have hml : tab - col % tab ≤ 17 := by omega
            clear hb1 hb2 hb3 hk3 h3b
            go_roundw
            case rel =>
              first
              | exact ⟨pos + k, col + 1, 0, _, rfl, rfl, hI5, by omega, hln, by omega, hi3.out, hbz.out, ⟨by rw [← hv.out, hrc.out, hwdr.out, uc _ _ _ _ _ hcn.out (fun h => by rw [h] at hc9; simp at hc9)]; simp⟩⟩
              | exact ⟨pos + k, col + (tab - col % tab), 0, _, by rw [hw1.out, hw2.out], rfl, hI5, by omega, hln, by omega, hi3.out, hbz.out, ⟨by rw [← hv.out, hrc.out, hwdr.out, beq_iff_eq.1 hc9, un9, e9]; simp⟩⟩
            case measure => simp only [World.iterPos, hi3.out, hit]; omega
    · have hnx : ∀ ty, (Instr.next (.pointer (some ⟨w.heap.size + 1, 0, none⟩)) true ty).run Tryd.prog wr = _ := fun ty => run_next_end_at wr (w.heap.size + 1) a0 pos ty hit hp
      have hrep := Aside0.mk (rep_calls b wr (by omega))
      have hsz := hbw.size
      have hv2 := Aside0.mk (show enc (unL tab (runes a0.data.toList) 0 0) = acc ++ List.replicate b 32 by
        rw [← hv.out, List.drop_of_length_le (by rw [← size_len]; omega), runes_nil]
        simp [unL, enc_rep])
      go_wp2_with (go_at_call 53; refine hrep.out.mono ?_; rintro e w1 ⟨rfl, hb1⟩)
      have hI3 := Aside0.mk (IsBuilderF.below hI.out hb1)
      have hs3 := hb1.size
      have hws := Aside0.mk (writeString_any w.heap.size w.heap.size (byteCells acc) (rep b) w1 hI3.out (by rw [byteCells_length, rep_size]; omega) (by omega))
      go_wp2_with (go_at_call 44; refine hws.out.mono ?_; rintro e w2 ⟨rfl, h2b, hb2, hk2⟩)
      have hI4 : Aside0 (IsB w.heap.size w.heap.size (byteCells (acc ++ List.replicate b 32)) w2) := ⟨by rw [byteCells_append]; exact Or.inr h2b⟩
      have hs4 := hb2.size
      clear h2b hk2
      go_wp2_with (go_at_call 47; refine (Tryd.Builder_String_any_k w.heap.size w.heap.size (acc ++ List.replicate b 32) w2 hI4.out (by omega)).mono ?_; rintro e w3 ⟨rfl, _, b1, _⟩)
      go_ret
      exact ⟨congrArg (fun l : List UInt8 => Ending.returned (.string ⟨l.toArray⟩)) hv2.out.symm, (hbw.trans (hb1.mono (by omega))).trans (hb2.trans b1)⟩
def doc_untabbed.f (a0 : ByteArray) (a1 : Int) : Option ByteArray := if a0.size ≤ 4096 ∧ 1 ≤ a1 ∧ a1 ≤ 16 then some ⟨(enc (unL a1.toNat (runes a0.data.toList) 0 0)).toArray⟩ else none
theorem doc_untabbed.calls (a0 : ByteArray) (a1 : Int) (r : ByteArray) (w : World) (h : doc_untabbed.f a0 a1 = some r) :
    Calls Tryd.prog 55 #[.string a0, .int .i64 a1] w fun e w' => e = .returned (.string r) ∧ Below w.heap.size w w' := by
  unfold doc_untabbed.f at h
  split at h
  case isFalse => cases h
  case isTrue hs =>
  obtain rfl := Option.some.inj h
  obtain ⟨n, rfl⟩ := Int.eq_ofNat_of_zero_le (show 0 ≤ a1 by omega)
  exact untabbed_any a0 n (by omega) (by omega) w hs.1
end Go.Proofs.YthdalpminhbckaaDoor.G
