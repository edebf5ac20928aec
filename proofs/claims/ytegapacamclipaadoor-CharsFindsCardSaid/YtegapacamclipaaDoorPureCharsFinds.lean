/- The plain law of CharsFinds: what it computes is true. -/
import Derived.Test.YtegapacamclipaaDoorPBoth
import Derived.Test.YtegapacamclipaaDoorM16
set_option linter.unusedVariables false
set_option linter.unusedSimpArgs false
namespace Go.Proofs.YtegapacamclipaaDoor.Q
open Go.RowKit Go.Proofs.YtegapacamclipaaDoorW.PrintWords Go.Proofs.YtegapacamclipaaDoorW.PrintMore Go.Proofs.YtegapacamclipaaDoor.Tx Go.Proofs.YtegapacamclipaaDoor.G Go.Proofs.YtegapacamclipaaDoor.M Go.Lib

theorem rStands_eq (l m : List Int) (hl : l.length ≤ 4096) (hm : m.length ≤ 4096) (i : Int) (h0 : 0 ≤ i) (h1 : i ≤ l.length) : motleyref02_stands.f l m i = some (standsB l m i.toNat) := by
  unfold motleyref02_stands.f
  rw [if_pos ⟨h0, h1, by omega, by omega⟩]
theorem cStands_eq (l m : List Int) (hl : l.length ≤ 4096) (hm : m.length ≤ 4096) (i : Int) (h0 : 0 ≤ i) (h1 : i ≤ l.length) (k : Nat) : chars_stands.f l m i = some (standsB l m i.toNat) := by
  unfold chars_stands.f
  rw [if_pos ⟨h0, h1, by omega, by omega⟩]
theorem Index_l0 (l m : List Int) (hl : l.length ≤ 4096) (hm : m.length ≤ 4096) : ∀ (d k : Nat) (i : Int), 0 ≤ i → i + d = l.length + 1 → d < k →
    ∃ r, motleyref02_Index.l0 k l m i = some r ∧ chars_Index.l0 k l m i = some r
  | 0, k, i, h0, hi, hk => by
    obtain ⟨k, rfl⟩ : ∃ j, k = j + 1 := ⟨k - 1, by omega⟩
    simp only [motleyref02_Index.l0, chars_Index.l0]
    rw [if_neg (by omega), if_neg (by omega)]
    exact ⟨_, rfl, rfl⟩
  | d + 1, k, i, h0, hi, hk => by
    obtain ⟨k, rfl⟩ : ∃ j, k = j + 1 := ⟨k - 1, by omega⟩
    simp only [motleyref02_Index.l0, chars_Index.l0]
    rw [if_pos (by omega), if_pos (by omega), rStands_eq l m hl hm i h0 (by omega), cStands_eq l m hl hm i h0 (by omega) k]
    simp only [Option.bind_some]
    by_cases h : standsB l m i.toNat = true
    · rw [if_pos h, if_pos h]
      exact ⟨_, rfl, rfl⟩
    · rw [if_neg h, if_neg h, wrap64_id (by omega) (by omega)]
      exact Index_l0 l m hl hm d k (i + 1) (by omega) (by omega) (by omega)
theorem Last_l0 (l m : List Int) (hl : l.length ≤ 4096) (hm : m.length ≤ 4096) : ∀ (d k : Nat) (i : Int), i ≤ l.length → i < d → d < k →
    ∃ r, motleyref02_Last.l0 k l m i = some r ∧ chars_Last.l0 k l m i = some r
  | d, k, i, h1, hi, hk => by
    obtain ⟨k, rfl⟩ : ∃ j, k = j + 1 := ⟨k - 1, by omega⟩
    simp only [motleyref02_Last.l0, chars_Last.l0]
    by_cases h0 : i ≥ 0
    case neg =>
      have e : mx i (-1) = -1 := by unfold mx; split <;> omega
      rw [if_neg h0, if_neg h0, e]
      exact ⟨_, rfl, rfl⟩
    have e : mx i (-1) = i := by unfold mx; split <;> omega
    rw [if_pos h0, if_pos h0, rStands_eq l m hl hm i h0 h1, cStands_eq l m hl hm i h0 h1 k]
    simp only [Option.bind_some]
    by_cases h : standsB l m i.toNat = true
    · rw [if_pos h, if_pos h, e]
      exact ⟨_, rfl, rfl⟩
    · rw [if_neg h, if_neg h, wrap64_id (by omega) (by omega)]
      cases d with
      | zero => omega
      | succ d => exact Last_l0 l m hl hm d k (i - 1) (by omega) (by omega) (by omega)
theorem Index_both (s t : ByteArray) (f : Int) (k : Nat) (hk : 10000 ≤ k) : ∃ r, motleyref02_Index.f k s t f = some r ∧ chars_Index.f k s t f = some r := by
  unfold motleyref02_Index.f chars_Index.f
  rw [both_eq s t k (by omega), asked_two s t k (by omega)]
  simp only [Option.bind_some]
  by_cases h : bothI s t = 0
  case neg =>
    rw [if_neg h, if_neg h]
    exact ⟨_, rfl, rfl⟩
  obtain ⟨h1, h2⟩ := both0 h
  have l1 := runes_le h1
  have l2 := runes_le h2
  rw [if_pos h, if_pos h, Runes_eq s h1 k (by omega), Runes_eq t h2 k (by omega), points_eq s h1, points_eq t h2]
  simp only [Option.bind_some]
  have hm : 0 ≤ mn (mx f 0) ((runes s.data.toList).length : Int) ∧ mn (mx f 0) ((runes s.data.toList).length : Int) ≤ (runes s.data.toList).length := by
    unfold mn mx
    repeat' split
    all_goals omega
  generalize mn (mx f 0) ((runes s.data.toList).length : Int) = i at *
  obtain ⟨n, rfl⟩ := Int.eq_ofNat_of_zero_le hm.1
  exact Index_l0 _ _ l1 l2 ((runes s.data.toList).length + 1 - n) k n (by omega) (by omega) (by omega)
theorem Last_both (s t : ByteArray) (f : Int) (k : Nat) (hk : 10000 ≤ k) : ∃ r, motleyref02_Last.f k s t f = some r ∧ chars_Last.f k s t f = some r := by
  unfold motleyref02_Last.f chars_Last.f
  rw [both_eq s t k (by omega), asked_two s t k (by omega)]
  simp only [Option.bind_some]
  by_cases h : bothI s t = 0
  case neg =>
    rw [if_neg h, if_neg h]
    exact ⟨_, rfl, rfl⟩
  obtain ⟨h1, h2⟩ := both0 h
  have l1 := runes_le h1
  have l2 := runes_le h2
  rw [if_pos h, if_pos h, Runes_eq s h1 k (by omega), Runes_eq t h2 k (by omega), points_eq s h1, points_eq t h2]
  simp only [Option.bind_some]
  have hm : mn f ((runes s.data.toList).length : Int) ≤ (runes s.data.toList).length := by
    unfold mn
    split <;> omega
  exact Last_l0 _ _ l1 l2 ((runes s.data.toList).length + 1) k _ hm (by omega) (by omega)
end Go.Proofs.YtegapacamclipaaDoor.Q
namespace Go.Proofs.YtegapacamclipaaDoor.Pure
open Go.RowKit Go.Proofs.YtegapacamclipaaDoorW.PrintWords Go.Proofs.YtegapacamclipaaDoor.Tx Go.Proofs.YtegapacamclipaaDoor.G Go.Proofs.YtegapacamclipaaDoor.M Go.Proofs.YtegapacamclipaaDoor.Q Go.Lib
theorem CharsFinds : motleylaw02_CharsFinds.Pure := by
  intro s t f hs ht hf
  refine ⟨30002, ?_⟩
  obtain ⟨r1, a1, b1⟩ := Index_both s t f 30001 (by omega)
  obtain ⟨r2, a2, b2⟩ := Last_both s t f 30001 (by omega)
  have go : motleylaw02_CharsFinds.j0 30002 s t f false = some true := by
    simp only [motleylaw02_CharsFinds.j0, Bool.false_eq_true, if_false]
    rw [a1, a2, b1, b2, known_eq 30001 (by omega)]
    simp only [Option.bind_some, if_true]
  have kn : motleylaw02_CharsFinds.j0 30002 s t f true = some true := by
    simp only [motleylaw02_CharsFinds.j0, if_true]
    rw [known_eq 30001 (by omega)]; rfl
  unfold motleylaw02_CharsFinds.f
  by_cases hz : s.size > 5000
  · rw [if_pos (by omega), kn]
  rw [if_neg (by omega)]
  by_cases hz2 : t.size > 5000
  · rw [decide_eq_true (by omega), kn]
  · rw [decide_eq_false (by omega), go]
end Go.Proofs.YtegapacamclipaaDoor.Pure
