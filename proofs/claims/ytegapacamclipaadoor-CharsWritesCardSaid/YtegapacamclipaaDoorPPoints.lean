/- Points and Text, of the program and of the reference, in plain Lean. -/
import Derived.Test.YtegapacamclipaaDoorPText
import Derived.Test.YtegapacamclipaaDoorM14
import Derived.Test.YtegapacamclipaaDoorM15
import Derived.Test.YtegapacamclipaaDoorM8
set_option linter.unusedVariables false
set_option linter.unusedSimpArgs false
namespace Go.Proofs.YtegapacamclipaaDoor.Q
open Go.RowKit Go.Proofs.YtegapacamclipaaDoorW.PrintWords Go.Proofs.YtegapacamclipaaDoor.Tx Go.Proofs.YtegapacamclipaaDoor.G Go.Proofs.YtegapacamclipaaDoor.M Go.Lib

theorem cValid_any (s : ByteArray) (h : s.size ≤ 140737488351232) : chars_Valid.f s = some ((valid s.data.toList : Int), decide (valid s.data.toList = s.size)) := by
  unfold chars_Valid.f
  rw [if_pos (by omega)]
  congr 2
  exact decide_eq_decide.2 (by omega)
def pointsR (s : ByteArray) : List Int × Int := if checkI s = 0 then (runes s.data.toList, 0) else ([], checkI s)
theorem rPoints_eq (s : ByteArray) (k : Nat) (hk : 4200 ≤ k) : motleyref02_Points.f k s = some (pointsR s) := by
  unfold motleyref02_Points.f pointsR
  rw [Checked_eq s k hk]
  simp only [Option.bind_some]
  by_cases h : checkI s = 0
  · rw [if_pos h, if_pos h, Runes_eq s h k hk]; rfl
  · rw [if_neg h, if_neg h]
theorem cPoints_eq (s : ByteArray) (k : Nat) (hk : 4200 ≤ k) : chars_Points.f k s = some (pointsR s) := by
  unfold chars_Points.f pointsR
  rw [asked_one s k (by omega)]
  simp only [Option.bind_some]
  by_cases h : checkI s = 0
  · rw [if_pos h, if_pos h, points_eq s h]; rfl
  · rw [if_neg h, if_neg h]
theorem pointsR_length (s : ByteArray) : (pointsR s).1.length ≤ 4096 := by
  unfold pointsR
  split
  · exact runes_le (by assumption)
  · exact Nat.zero_le _
theorem pointsR_chr (s : ByteArray) : allChr (pointsR s).1 := by
  unfold pointsR
  split
  · exact runes_all _
  · intro c hc; cases hc

instance (l : List Int) : Decidable (allChr l) := by unfold allChr; exact inferInstance
def textR (l : List Int) : ByteArray × Int := if allChr l then sizeR (enc l) else (mk [], 1)
theorem any_iff (l : List Int) : l.any noChr = true ↔ ¬ allChr l := by
  unfold allChr
  rw [List.any_eq_true]
  constructor
  · rintro ⟨c, h1, h2⟩ h
    have := h c h1
    unfold noChr at h2
    rw [decide_eq_true this] at h2
    cases h2
  · intro h
    apply Classical.byContradiction
    intro h2
    apply h
    intro c hc
    apply Classical.byContradiction
    intro h3
    exact h2 ⟨c, hc, by unfold noChr; rw [decide_eq_false h3]; rfl⟩
theorem cText_eq (l : List Int) (hl : l.length ≤ 1000000000) : chars_Text.f l = some (textR l) := by
  unfold chars_Text.f textR anyNoChar.f
  simp only [Option.bind_some]
  by_cases h : allChr l
  · rw [if_neg (fun h2 => (any_iff l).1 h2 h), if_pos h, ctext_eq l h hl]
    simp only [Option.bind_some]
    rw [csized_eq]; rfl
  · rw [if_pos ((any_iff l).2 h), if_neg h]; rfl
theorem rText_l0 (l : List Int) (hl : l.length ≤ 1000000000) : ∀ (d k i : Nat), i + d = l.length → l.length + d + 1 < k → allChr (l.take i) →
    motleyref02_Text.l0 k l (i : Int) = some (textR l)
  | 0, k, i, hi, hk, ha => by
    obtain ⟨k, rfl⟩ : ∃ j, k = j + 1 := ⟨k - 1, by omega⟩
    simp only [motleyref02_Text.l0]
    rw [List.take_of_length_le (by omega)] at ha
    rw [if_neg (by omega), Write_eq l ha hl k (by omega)]
    simp only [Option.bind_some]
    rw [rsized_eq]
    unfold textR
    rw [if_pos ha]; rfl
  | d + 1, k, i, hi, hk, ha => by
    obtain ⟨k, rfl⟩ : ∃ j, k = j + 1 := ⟨k - 1, by omega⟩
    simp only [motleyref02_Text.l0]
    have h1 : i < l.length := by omega
    rw [if_pos (by omega), if_pos (by omega), rd_nat, IsChar_eq]
    simp only [Option.bind_some, decide_eq_true_eq]
    have eg : l.getD i 0 = l[i] := by rw [List.getD_eq_getElem?_getD, List.getElem?_eq_getElem h1]; rfl
    by_cases hc : chr (l.getD i 0)
    · rw [if_pos hc]
      have e1 : wrap64 ((i : Int) + 1) = ((i + 1 : Nat) : Int) := by rw [wrap64_id (by omega) (by omega)]; omega
      rw [e1]
      refine rText_l0 l hl d k (i + 1) (by omega) (by omega) ?_
      rw [List.take_succ_eq_append_getElem h1]
      intro c hm
      rcases List.mem_append.1 hm with hm | hm
      · exact ha c hm
      · rw [List.mem_singleton.1 hm, ← eg]; exact hc
    · rw [if_neg hc]
      unfold textR
      rw [if_neg (fun h => hc (allChr_at h i h1))]; rfl
theorem rText_eq (l : List Int) (hl : l.length ≤ 1000000000) (k : Nat) (hk : 2 * l.length + 1 < k) : motleyref02_Text.f k l = some (textR l) := by
  unfold motleyref02_Text.f
  exact rText_l0 l hl l.length k 0 (by omega) (by omega) (by rw [List.take_zero]; intro c hc; cases hc)
end Go.Proofs.YtegapacamclipaaDoor.Q
