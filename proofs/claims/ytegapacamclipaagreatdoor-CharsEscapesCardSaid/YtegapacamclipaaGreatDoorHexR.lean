/- chars.hex: walked by hand. -/
import Derived.Test.YtegapacamclipaaGreatDoorHexP
import Derived.Test.YtegapacamclipaaGreatDoorForms
import Derived.Shelf.Strings.SlTrimAscii
set_option linter.unusedVariables false
set_option linter.unusedSimpArgs false
namespace Go.Proofs.YtegapacamclipaaGreatDoor.G
open Go.RowKit Go.Proofs.YtegapacamclipaaGreatDoorW.PrintWords Go.Proofs.YtegapacamclipaaGreatDoor.Tx Go.Lib
set_option maxHeartbeats 1000000 in
theorem parse16 (ds : List UInt8) (h0 : 0 < ds.length) (h6 : ds.length ≤ 6) (hd : ∀ c ∈ ds, isH c = true) (w : World) :
    Calls Tryz.prog 47 #[.string (mkB ds), .int .i64 16, .int .i64 32] w fun e w' => e = .returned (.tuple #[.int .i64 (hval ds 0 : Int), .nilIface]) ∧ Below w.heap.size w w' := by
  have hp := Aside0.mk (parseI16 ds h0 h6 hd w)
  clear h0 h6 hd
  go_enter Tryz.func47, Tryz.ntmps47
  go_wp2_with (go_at_call 67; refine hp.out.mono ?_; rintro e w1 ⟨rfl, hB⟩)
  go_ret2
  exact ⟨rfl, hB⟩
def hexSet : List UInt8 := [48, 49, 50, 51, 52, 53, 54, 55, 56, 57, 97, 98, 99, 100, 101, 102, 65, 66, 67, 68, 69, 70]
theorem set_is (c : UInt8) : hexSet.contains c = isH c := by
  have h : ∀ n : Fin 256, hexSet.contains (UInt8.ofNat n.1) = isH (UInt8.ofNat n.1) := by decide +kernel
  have := h ⟨c.toNat, c.toNat_lt⟩
  simpa using this
theorem trimL_nil : ∀ l : List UInt8, Lib.trimLeftS l hexSet = [] ↔ l.all isH = true
  | [] => by simp [Lib.trimLeftS]
  | c :: l => by
    have ih := trimL_nil l
    unfold Lib.trimLeftS at ih ⊢
    rw [List.dropWhile_cons, set_is]
    cases h : isH c with
    | true => simp only [if_true, List.all_cons, h, Bool.true_and]; exact ih
    | false => simp [h]
theorem trimR_nil (l : List UInt8) (h : l.all isH = true) : Lib.trimRightS l hexSet = [] := by
  unfold Lib.trimRightS
  have := (trimL_nil l.reverse).2 (by rw [List.all_reverse]; exact h)
  unfold Lib.trimLeftS at this
  rw [this]; rfl
theorem trimR_some (l : List UInt8) (h : l.all isH = false) : (Lib.trimRightS l hexSet).all isH = false := by
  unfold Lib.trimRightS
  rw [List.all_reverse]
  rw [← List.all_reverse] at h
  generalize l.reverse = m at *
  induction m with
  | nil => cases h
  | cons c m ih =>
    rw [List.dropWhile_cons, set_is]
    cases hc : isH c with
    | true =>
      simp only [if_true]
      rw [List.all_cons, hc, Bool.true_and] at h
      exact ih h
    | false => simp [hc]
theorem trim_set (d : List UInt8) (w : World) (hs : d.length ≤ 1000000000) :
    Calls Tryz.prog 46 #[.string (mkB d), .string ⟨#[48, 49, 50, 51, 52, 53, 54, 55, 56, 57, 97, 98, 99, 100, 101, 102, 65, 66, 67, 68, 69, 70]⟩] w fun e w' => e = .returned (.string (mkB (Lib.trimS d hexSet))) ∧ Below w.heap.size w w' := by
  have h := Any.strings_Trim_laid Tryz.lays160 (by kernel_rfl) (mkB d) (mkB hexSet) w (by rw [mkB_size]; omega) (by decide) (ascii_of_all (by decide))
  rw [mkB_list, mkB_list] at h
  exact h
theorem trim_yes (d : List UInt8) (w : World) (hs : d.length ≤ 1000000000) (h : d.all isH = true) :
    Calls Tryz.prog 46 #[.string (mkB d), .string ⟨#[48, 49, 50, 51, 52, 53, 54, 55, 56, 57, 97, 98, 99, 100, 101, 102, 65, 66, 67, 68, 69, 70]⟩] w fun e w' => e = .returned (.string ⟨#[]⟩) ∧ Below w.heap.size w w' := by
  have h2 := trim_set d w hs
  unfold Lib.trimS at h2
  rw [trimR_nil d h] at h2
  exact h2
theorem trim_no (d : List UInt8) (w : World) (hs : d.length ≤ 1000000000) (h : d.all isH = false) :
    Calls Tryz.prog 46 #[.string (mkB d), .string ⟨#[48, 49, 50, 51, 52, 53, 54, 55, 56, 57, 97, 98, 99, 100, 101, 102, 65, 66, 67, 68, 69, 70]⟩] w fun e w' => ∃ c t, e = .returned (.string (mkB (c :: t))) ∧ Below w.heap.size w w' := by
  refine (trim_set d w hs).mono fun e w' ⟨h1, h2⟩ => ?_
  unfold Lib.trimS at h1
  cases h3 : Lib.trimLeftS (Lib.trimRightS d hexSet) hexSet with
  | nil =>
    have := (trimL_nil _).1 h3
    rw [trimR_some d h] at this
    cases this
  | cons c t => exact ⟨c, t, by rw [h1, h3], h2⟩
theorem isChar_any (c : Int) (w : World) : Calls Tryz.prog 48 #[.int .i64 c] w fun e w' => e = .returned (.bool (decide (chr c))) ∧ Drawn0 w w' := by
  have e1 : ∀ b : Bool, (b = true ↔ chr c) → decide (chr c) = b := fun b h => by cases b <;> simp [← h]
  by_cases h1 : 0 ≤ c
  · by_cases h2 : c ≤ 1114111
    · by_cases h3 : c < 55296
      · rw [e1 true (by unfold chr; simp; omega)]
        have d1 : decide ((0 : Int) ≤ c) = true := decide_eq_true h1
        have d2 : decide (c ≤ (1114111 : Int)) = true := decide_eq_true h2
        have d3 : decide (c < (55296 : Int)) = true := decide_eq_true h3
        go_enter Tryz.func48, Tryz.ntmps48
        go_wp2
        go_ret
        exact ⟨rfl, Drawn0.refl _⟩
      · rw [e1 (decide (57343 < c)) (by rw [decide_eq_true_iff]; unfold chr; omega)]
        have d1 : decide ((0 : Int) ≤ c) = true := decide_eq_true h1
        have d2 : decide (c ≤ (1114111 : Int)) = true := decide_eq_true h2
        have d3 : decide (c < (55296 : Int)) = false := decide_eq_false h3
        go_enter Tryz.func48, Tryz.ntmps48
        go_wp2
        go_ret
        exact ⟨rfl, Drawn0.refl _⟩
    · rw [e1 false (by unfold chr; simp; omega)]
      have d1 : decide ((0 : Int) ≤ c) = true := decide_eq_true h1
      have d2 : decide (c ≤ (1114111 : Int)) = false := decide_eq_false h2
      go_enter Tryz.func48, Tryz.ntmps48
      go_wp2
      go_ret
      exact ⟨rfl, Drawn0.refl _⟩
  · rw [e1 false (by unfold chr; simp; omega)]
    have d1 : decide ((0 : Int) ≤ c) = false := decide_eq_false h1
    go_enter Tryz.func48, Tryz.ntmps48
    go_wp2
    go_ret
    exact ⟨rfl, Drawn0.refl _⟩
theorem ne_empty (c : UInt8) (t : List UInt8) : ((mkB (c :: t)).toList != ([] : List UInt8)) = true ∧ (mkB (c :: t)).toList.isEmpty = false ∧ ((mkB (c :: t)).toList = []) = False := by
  have e : (mkB (c :: t)).toList = c :: t := by rw [ByteArray.toList_eq, mkB_list]
  rw [e]
  exact ⟨rfl, rfl, by simp⟩
def hexRes (b1 b2 : Bool) (d : List UInt8) : Int × Int := if b1 = true ∧ b2 = true ∧ 1 ≤ d.length ∧ d.length ≤ 6 ∧ d.all isH = true ∧ chr (hval d 0 : Int) then ((hval d 0 : Int), (d.length : Int) + 3) else (0, 0)
set_option maxHeartbeats 4000000 in
theorem hex_walk (s : ByteArray) (r d v : List UInt8) (b1 b2 : Bool) (w : World)
    (hP : ∀ W, Calls Tryz.prog 45 #[.string s, .string ⟨#[120, 123]⟩] W fun e w' => e = .returned (.tuple #[.string (mkB r), .bool b1]) ∧ w' = W)
    (hC : ∀ W, W.heap = w.heap → Calls Tryz.prog 24 #[.string (mkB r), .string ⟨#[125]⟩] W fun e w' => e = .returned (.tuple #[.string (mkB d), .string (mkB v), .bool b2]) ∧ ∃ n, w' = W.drewN n) (hl : d.length ≤ 1000000000) :
    Calls Tryz.prog 29 #[.string s] w fun e w' => e = .returned (.tuple #[.int .i64 (hexRes b1 b2 d).1, .int .i64 (hexRes b1 b2 d).2]) ∧ Below w.heap.size w w' := by
  have hPA := Aside0.mk (hP w)
  have hCA := Aside0.mk (hC w rfl)
  have hz := mkB_size d
  have hB := Aside0.mk (fun n => pw_below_drewN (Below.refl w.heap.size w) n)
  clear hP hC
  have fin0 : ¬ (b1 = true ∧ b2 = true ∧ 1 ≤ d.length ∧ d.length ≤ 6 ∧ d.all isH = true ∧ chr (hval d 0 : Int)) → hexRes b1 b2 d = (0, 0) := fun h => by unfold hexRes; rw [if_neg h]
  cases b1 with
  | false =>
    rw [fin0 (by simp)]
    clear fin0
    go_enter Tryz.func29, Tryz.ntmps29
    go_wp2_with (first | (go_at_call 45; refine hPA.out.mono ?_; rintro e w' ⟨rfl, rfl⟩) | (go_at_call 24; refine hCA.out.mono ?_; rintro e w' ⟨rfl, nd, rfl⟩))
    go_ret2
    exact ⟨rfl, hB.out _⟩
  | true =>
  cases b2 with
  | false =>
    rw [fin0 (by simp)]
    clear fin0
    go_enter Tryz.func29, Tryz.ntmps29
    go_wp2_with (first | (go_at_call 45; refine hPA.out.mono ?_; rintro e w' ⟨rfl, rfl⟩) | (go_at_call 24; refine hCA.out.mono ?_; rintro e w' ⟨rfl, nd, rfl⟩))
    go_ret2
    exact ⟨rfl, hB.out _⟩
  | true =>
  by_cases h1 : d.length < 1
  · rw [fin0 (by omega)]
    have d1 : decide ((d.length : Int) < 1) = true := decide_eq_true (by omega)
    clear fin0 h1
    go_enter Tryz.func29, Tryz.ntmps29
    go_wp2_with (first | (go_at_call 45; refine hPA.out.mono ?_; rintro e w' ⟨rfl, rfl⟩) | (go_at_call 24; refine hCA.out.mono ?_; rintro e w' ⟨rfl, nd, rfl⟩))
    go_ret2
    exact ⟨rfl, hB.out _⟩
  by_cases h2 : 6 < d.length
  · rw [fin0 (by omega)]
    have d1 : decide ((d.length : Int) < 1) = false := decide_eq_false (by omega)
    have d2 : decide ((6 : Int) < (d.length : Int)) = true := decide_eq_true (by omega)
    clear fin0 h1 h2
    go_enter Tryz.func29, Tryz.ntmps29
    go_wp2_with (first | (go_at_call 45; refine hPA.out.mono ?_; rintro e w' ⟨rfl, rfl⟩) | (go_at_call 24; refine hCA.out.mono ?_; rintro e w' ⟨rfl, nd, rfl⟩))
    go_ret2
    exact ⟨rfl, hB.out _⟩
  have d1 : decide ((d.length : Int) < 1) = false := decide_eq_false (by omega)
  have d2 : decide ((6 : Int) < (d.length : Int)) = false := decide_eq_false (by omega)
  cases h3 : d.all isH with
  | false =>
    rw [fin0 (by simp [h3])]
    have ht := Aside0.mk (fun W => trim_no d W hl h3)
    clear fin0 h1 h2 h3
    go_enter Tryz.func29, Tryz.ntmps29
    go_wp2_with (first | (go_at_call 45; refine hPA.out.mono ?_; rintro e w' ⟨rfl, rfl⟩) | (go_at_call 24; refine hCA.out.mono ?_; rintro e w' ⟨rfl, nd, rfl⟩) | (go_at_call 46; refine (ht.out _).mono ?_; rintro e w' ⟨c, t, rfl, hB2⟩; have q1 := ne_empty c t))
    go_ret2
    exact ⟨rfl, (hB.out nd).trans hB2⟩
  | true =>
    have ht := Aside0.mk (fun W => trim_yes d W hl h3)
    have hpa := Aside0.mk (fun W => parse16 d (by omega) (by omega) (List.all_eq_true.1 h3) W)
    have hic := Aside0.mk (fun W => isChar_any (hval d 0 : Int) W)
    by_cases h4 : chr (hval d 0 : Int)
    · have hr : hexRes true true d = ((hval d 0 : Int), (d.length : Int) + 3) := by unfold hexRes; rw [if_pos ⟨rfl, rfl, by omega, by omega, h3, h4⟩]
      rw [hr]
      rw [decide_eq_true h4] at hic
      have hl6 : (d.length : Int) ≤ 6 := by omega
      have hl0 : (0 : Int) ≤ (d.length : Int) := by omega
      clear fin0 h1 h2 h3 h4 hr hl
      generalize hval d 0 = m at *
      go_enter Tryz.func29, Tryz.ntmps29
      go_wp2_with (first | (go_at_call 45; refine hPA.out.mono ?_; rintro e w' ⟨rfl, rfl⟩) | (go_at_call 24; refine hCA.out.mono ?_; rintro e w' ⟨rfl, nd, rfl⟩) | (go_at_call 46; refine (ht.out _).mono ?_; rintro e w2 ⟨rfl, hB2⟩) | (go_at_call 47; refine (hpa.out _).mono ?_; rintro e w3 ⟨rfl, hB3⟩) | (go_at_call 48; refine (hic.out _).mono ?_; rintro e w4 ⟨rfl, ⟨nd4, rfl⟩⟩))
      go_ret2
      exact ⟨congrArg (fun x : Int => Ending.returned (.tuple #[.int .i64 (m : Int), .int .i64 x])) (by omega), pw_below_drewN (((hB.out nd).trans hB2).trans (hB3.mono (Nat.le_trans (hB.out nd).size hB2.size))) nd4⟩
    · rw [fin0 (by simp [h4])]
      rw [decide_eq_false h4] at hic
      have hl6 : (d.length : Int) ≤ 6 := by omega
      have hl0 : (0 : Int) ≤ (d.length : Int) := by omega
      clear fin0 h1 h2 h3 h4 hl
      generalize hval d 0 = m at *
      go_enter Tryz.func29, Tryz.ntmps29
      go_wp2_with (first | (go_at_call 45; refine hPA.out.mono ?_; rintro e w' ⟨rfl, rfl⟩) | (go_at_call 24; refine hCA.out.mono ?_; rintro e w' ⟨rfl, nd, rfl⟩) | (go_at_call 46; refine (ht.out _).mono ?_; rintro e w2 ⟨rfl, hB2⟩) | (go_at_call 47; refine (hpa.out _).mono ?_; rintro e w3 ⟨rfl, hB3⟩) | (go_at_call 48; refine (hic.out _).mono ?_; rintro e w4 ⟨rfl, ⟨nd4, rfl⟩⟩))
      go_ret2
      exact ⟨rfl, pw_below_drewN (((hB.out nd).trans hB2).trans (hB3.mono (Nat.le_trans (hB.out nd).size hB2.size))) nd4⟩
/-- The character of an escape, and its bytes behind the backslash; 0 and 0 if there is none. -/
def hexR (l : List UInt8) : Int × Int := hexRes (Lib.hasPrefix l [120, 123]) (Lib.cut (Lib.trimPrefix l [120, 123]) [125]).2.2 (Lib.cut (Lib.trimPrefix l [120, 123]) [125]).1
theorem trimP_len (l p : List UInt8) : (Lib.trimPrefix l p).length ≤ l.length := by
  unfold Lib.trimPrefix; split
  · rw [List.length_drop]; omega
  · exact Nat.le_refl _
theorem cut_len (l p : List UInt8) : (Lib.cut l p).1.length ≤ l.length ∧ (Lib.cut l p).2.1.length ≤ l.length := by
  unfold Lib.cut; split
  · simp only [List.length_take, List.length_drop]; omega
  · simp
theorem hex_any (s : ByteArray) (w : World) (hL : LaidW w) (hs : s.size ≤ 1000000000) :
    Calls Tryz.prog 29 #[.string s] w fun e w' => e = .returned (.tuple #[.int .i64 (hexR s.data.toList).1, .int .i64 (hexR s.data.toList).2]) ∧ Below w.heap.size w w' := by
  have h1 := trimP_len s.data.toList [120, 123]
  have h2 := cut_len (Lib.trimPrefix s.data.toList [120, 123]) [125]
  rw [← size_len] at h1
  obtain ⟨m, hm⟩ := hL.max
  refine hex_walk s _ _ (Lib.cut (Lib.trimPrefix s.data.toList [120, 123]) [125]).2.1 _ _ w (fun W => Tryz.strings_CutPrefix s ⟨#[120, 123]⟩ W) (fun W hW => ?_) (by omega)
  have := Tryz.strings_Cut (mkB (Lib.trimPrefix s.data.toList [120, 123])) ⟨#[125]⟩ m W (by rw [mkB_size]; omega) (by unfold World.cell? at hm ⊢; rw [hW]; exact hm)
  rw [mkB_list] at this
  exact this
end Go.Proofs.YtegapacamclipaaGreatDoor.G
