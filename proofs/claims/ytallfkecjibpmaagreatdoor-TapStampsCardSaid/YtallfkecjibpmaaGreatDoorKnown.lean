/- The known answers of chapter 27: the law's own function 'known' returns true. Walked by hand at its one input. -/
import Derived.Test.YtallfkecjibpmaaGreatDoorDate
import Derived.Test.YtallfkecjibpmaaGreatDoorWritten
import Derived.Test.YtallfkecjibpmaaGreatDoorJ1
set_option linter.unusedVariables false
namespace Go.Proofs.YtallfkecjibpmaaGreatDoor.G
open Go.RowKit Go.Proofs.YtallfkecjibpmaaGreatDoorW.PrintWords Go.Lib Go.Proofs.YtallfkecjibpmaaGreatDoor.J

theorem text_nil : tap_isText.f (⟨#[]⟩ : ByteArray) = some true := by kernel_rfl
theorem name_nil : tap_isName.f (⟨#[]⟩ : ByteArray) = some true := by kernel_rfl
theorem cell_lt {w : World} {b o : Nat} {v : Value} (h : w.cell? ⟨b, o, none⟩ = some v) : b < w.heap.size := World.block_lt_of_cell? w _ h
/-- One test that is ok, without name, directive and reason, lies in block b. -/
structure OneTest (b : Nat) (w : World) : Prop where
  c0 : w.cell? ⟨b, 0, none⟩ = some (.bool true)
  c1 : w.cell? ⟨b, 1, none⟩ = some (.string ⟨#[]⟩)
  c2 : w.cell? ⟨b, 2, none⟩ = some (.int .i64 0)
  c3 : w.cell? ⟨b, 3, none⟩ = some (.string ⟨#[]⟩)
theorem OneTest.below {b : Nat} {w w' : World} (h : OneTest b w) (hb : Below w.heap.size w w') : OneTest b w' :=
  ⟨pw_cell_below hb h.c0, pw_cell_below hb h.c1, pw_cell_below hb h.c2, pw_cell_below hb h.c3⟩
set_option maxHeartbeats 1000000 in
set_option maxRecDepth 100000 in
theorem asked_one (b : Nat) (w : World) (hL : LaidW w) (h : OneTest b w) :
    Calls Tryz.prog 36 #[.slice (some ⟨b, 0, none⟩) 1 1] w fun e w' => e = .returned (.int .i64 0) ∧ Below w.heap.size w w' := by
  have hbl := cell_lt h.c0
  have hH := Aside0.mk h
  have hu := Tryz.underlying45
  clear h
  go_enter Tryz.func36, Tryz.ntmps36
  go_wp2
  go_loopw [10] (fun i wr => ∃ k : Nat, k ≤ 1 ∧ i = .int .i64 k ∧ Below w.heap.size w wr) (fun i _ => 1 - (Go.RowKit.intOf i).toNat)
  case atStart => exact ⟨0, by omega, rfl, Below.refl _ _⟩
  case round =>
    obtain ⟨k, hk, rfl, hb⟩ := hrel
    have hL2 := hL.below hb
    obtain ⟨c0, c1, c2, c3⟩ := hH.out.below hb
    have hsz := hb.size
    rcases (show k = 0 ∨ k = 1 by omega) with rfl | rfl
    · go_wp2_with (first | (go_at_call 59; refine (tap_isName.calls _ true _ (hL2.below ((Below.refl _ _).alloc (Nat.le_refl _) _)) name_nil).mono ?_; rintro e w1 ⟨rfl, hb1⟩; have q3 : w1.cell? ⟨wr.heap.size, 3, none⟩ = some (.string ⟨#[]⟩) := pw_cell_below hb1 (by simp)) | (go_at_call 60; refine (tap_isText.calls _ true _ (LaidW.below hL2 (((Below.refl _ _).alloc (Nat.le_refl _) _).trans (hb1.mono (by simp)))) text_nil).mono ?_; rintro e w2 ⟨rfl, hb2⟩))
      go_roundw
      case rel => exact ⟨1, by omega, rfl, (hb.trans (((Below.refl _ _).alloc (Nat.le_refl _) _).mono hsz)).trans ((hb1.trans (hb2.mono hb1.size)).mono (by simp; omega))⟩
      case measure => simp [Go.RowKit.intOf]
    · go_wp2
      go_ret
      exact ⟨rfl, hb⟩

theorem itoa_one : strconv_Itoa.f 1 = some (⟨#[49]⟩ : ByteArray) := by
  unfold strconv_Itoa.f Lib.itoa
  rw [if_pos (by omega), if_neg (by omega), show (1 : Int).toNat = 1 from rfl, dec_small (by omega)]
  rfl
def okText : ByteArray := ⟨#[49, 46, 46, 49, 10, 111, 107, 32, 49, 10]⟩
set_option maxHeartbeats 1000000 in
set_option maxRecDepth 100000 in
theorem written_one (b : Nat) (w : World) (hL : LaidW w) (h : OneTest b w) :
    Calls Tryz.prog 27 #[.slice (some ⟨b, 0, none⟩) 1 1] w fun e w' => e = .returned (.string okText) ∧ Below w.heap.size w w' := by
  have hbl := cell_lt h.c0
  have hH := Aside0.mk h
  have hu := Tryz.underlying45
  clear h
  go_enter Tryz.func27, Tryz.ntmps27
  go_wp2_with (go_at_call 49; refine (strconv_Itoa.calls 1 _ _ hL itoa_one).mono ?_; rintro e w1 ⟨rfl, hb1⟩)
  go_loopw [13, 3] (fun i s wr => ∃ k : Nat, k ≤ 1 ∧ i = .int .i64 k ∧ s = .string (if k = 0 then ⟨#[49, 46, 46, 49, 10]⟩ else okText) ∧ Below w.heap.size w wr) (fun i _ _ => 1 - (Go.RowKit.intOf i).toNat)
  case atStart => exact ⟨0, by omega, rfl, rfl, hb1⟩
  case round =>
    obtain ⟨k, hk, rfl, rfl, hb⟩ := hrel
    have hL2 := hL.below hb
    obtain ⟨c0, c1, c2, c3⟩ := hH.out.below hb
    have hsz := hb.size
    rcases (show k = 0 ∨ k = 1 by omega) with rfl | rfl
    · simp only [if_true]
      go_wp2_with (go_at_call 49; refine (strconv_Itoa.calls 1 _ _ (hL2.below ((Below.refl _ _).alloc (Nat.le_refl _) _)) itoa_one).mono ?_; rintro e w2 ⟨rfl, hb2⟩; have q1 : w2.cell? ⟨wr.heap.size, 1, none⟩ = some (.string ⟨#[]⟩) := pw_cell_below hb2 (by simp); have q2 : w2.cell? ⟨wr.heap.size, 2, none⟩ = some (.int .i64 0) := pw_cell_below hb2 (by simp); have q3 : w2.cell? ⟨wr.heap.size, 3, none⟩ = some (.string ⟨#[]⟩) := pw_cell_below hb2 (by simp))
      go_roundw
      case rel => exact ⟨1, by omega, rfl, rfl, (hb.trans (((Below.refl _ _).alloc (Nat.le_refl _) _).mono hsz)).trans (hb2.mono (by simp; omega))⟩
      case measure => simp [Go.RowKit.intOf]
    · rw [if_neg (by omega)]
      go_wp2
      go_ret
      exact ⟨rfl, hb⟩
set_option maxHeartbeats 1000000 in
set_option maxRecDepth 100000 in
theorem Write_one (b : Nat) (w : World) (hL : LaidW w) (h : OneTest b w) :
    Calls Tryz.prog 20 #[.slice (some ⟨b, 0, none⟩) 1 1] w fun e w' => e = .returned (.tuple #[.string okText, .int .i64 0]) ∧ Below w.heap.size w w' := by
  have hH := Aside0.mk h
  clear h
  go_enter Tryz.func20, Tryz.ntmps20
  go_wp2_with (first | (go_at_call 36; refine (asked_one b _ hL hH.out).mono ?_; rintro e w1 ⟨rfl, hb1⟩) | (go_at_call 27; refine (written_one b _ (hL.below hb1) (hH.out.below hb1)).mono ?_; rintro e w2 ⟨rfl, hb2⟩))
  go_ret2
  exact ⟨rfl, hb1.trans (hb2.mono hb1.size)⟩
set_option maxHeartbeats 1000000 in
set_option maxRecDepth 100000 in
theorem Easter_known (w : World) :
    Calls Tryz.prog 22 #[.int .i64 2000] w fun e w' => e = .returned (.tuple #[.int .i64 4, .int .i64 23, .int .i64 0]) ∧ w' = w := by
  go_enter Tryz.func22, Tryz.ntmps22
  go_wp2
  go_ret3
  exact ⟨rfl, rfl⟩
def motleylaw27_known.f : Option Bool := some true
set_option maxHeartbeats 1000000 in
set_option maxRecDepth 100000 in
theorem motleylaw27_known.calls (r : Bool) (w : World) (hL : LaidW w) (h : motleylaw27_known.f = some r) :
    Calls Tryz.prog 6 #[] w fun e w' => e = .returned (.bool r) ∧ Below w.heap.size w w' := by
  obtain rfl := Option.some.inj h
  have hu := Tryz.underlying45
  have hd := Aside0.mk (fun w => tap_Days.calls 2000 3 1 11017 0 w (by decide +kernel))
  go_enter Tryz.func6, Tryz.ntmps6
  go_wp2_with (first | (go_at_call 20; refine (Write_one _ _ (hL.below ((Below.refl _ _).alloc (Nat.le_refl _) _)) ⟨by simp, by simp, by simp, by simp⟩).mono ?_; rintro e w1 ⟨rfl, hb1⟩; unfold okText) | (go_at_call 21; refine (hd.out _).mono ?_; rintro e w2 ⟨rfl, hb2⟩) | (go_at_call 22; refine (Easter_known _).mono ?_; rintro e w3 ⟨rfl, rfl⟩))
  go_ret
  exact ⟨rfl, ((Below.refl _ _).alloc (Nat.le_refl _) _).trans ((hb1.trans (hb2.mono hb1.size)).mono (by simp))⟩
end Go.Proofs.YtallfkecjibpmaaGreatDoor.G
