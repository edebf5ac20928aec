/- The plain law of CharsSubs: what it computes is true. -/
import Derived.Test.YtegapacamclipaaDoorPText
import Derived.Test.YtegapacamclipaaDoorM12
set_option linter.unusedVariables false
set_option linter.unusedSimpArgs false
namespace Go.Proofs.YtegapacamclipaaDoor.Q
open Go.RowKit Go.Proofs.YtegapacamclipaaDoorW.PrintWords Go.Proofs.YtegapacamclipaaDoor.Tx Go.Proofs.YtegapacamclipaaDoor.G Go.Proofs.YtegapacamclipaaDoor.M Go.Lib

theorem allChr_part {l : List Int} (h : allChr l) (i j : Nat) : allChr ((l.take j).drop i) := fun c hc => h c (List.mem_of_mem_take (List.mem_of_mem_drop hc))
theorem enc_part (l : List Int) (i j : Nat) : (enc ((l.take j).drop i)).length ≤ (enc l).length := by
  have e1 := congrArg List.length (enc_append (l.take j) (l.drop j))
  have e2 := congrArg List.length (enc_append ((l.take j).take i) ((l.take j).drop i))
  rw [List.take_append_drop, List.length_append] at e1 e2
  omega
theorem part_length (l : List Int) (i j : Nat) : ((l.take j).drop i).length ≤ l.length := by rw [List.length_drop, List.length_take]; omega
theorem cSub_fin (l : List Int) (hc : allChr l) (hz : (enc l).length ≤ 4096) (hl : l.length ≤ 4096) (i j : Int) (h0 : 0 ≤ i) (h1 : i ≤ j) (h2 : j ≤ l.length) :
    (if 0 ≤ i then (if i ≤ j then (if j ≤ (l.length : Int) then ((chars_text.f ((l.take j.toNat).drop i.toNat)).bind fun t => ((chars_sized.f t).bind fun bt => (some (bt.1, bt.2)))) else none) else none) else none) = some (mk (enc ((l.take j.toNat).drop i.toNat)), (0 : Int)) := by
  have hp := part_length l i.toNat j.toNat
  rw [if_pos h0, if_pos h1, if_pos h2, ctext_eq _ (allChr_part hc _ _) (by omega)]
  simp only [Option.bind_some]
  rw [csized_eq, sizeR_small (by have := enc_part l i.toNat j.toNat; omega)]
  rfl
theorem rSub_fin (l : List Int) (hc : allChr l) (hl : l.length ≤ 4096) (i j : Int) (h0 : 0 ≤ i) (h1 : i ≤ j) (h2 : j ≤ l.length) (k : Nat) (hk : 5000 ≤ k) :
    (if 0 ≤ i then (if i ≤ j then (if j ≤ (l.length : Int) then ((motleyref02_Write.f k ((l.take j.toNat).drop i.toNat)).bind fun t => (some (t, (0 : Int)))) else none) else none) else none) = some (mk (enc ((l.take j.toNat).drop i.toNat)), (0 : Int)) := by
  have hp := part_length l i.toNat j.toNat
  rw [if_pos h0, if_pos h1, if_pos h2, Write_eq _ (allChr_part hc _ _) (by omega) k (by omega)]
  rfl
def endI (N f n : Int) : Int := if n < -N then 0 else if n < 0 then N + n else if n < N - f then f + n else N
def subL (l : List Int) (f n : Int) : ByteArray × Int := if endI l.length f n < f then (mk [], 0) else (mk (enc ((l.take (endI l.length f n).toNat).drop f.toNat)), 0)
def subR (s : ByteArray) (from_ n : Int) : ByteArray × Int :=
  if checkI s = 0 then
    (if from_ < -((runes s.data.toList).length : Int) ∨ from_ > (runes s.data.toList).length then (mk [], 1) else subL (runes s.data.toList) (if from_ < 0 then from_ + (runes s.data.toList).length else from_) n)
  else (mk [], checkI s)
theorem rSub_j1 (l : List Int) (hc : allChr l) (hl : l.length ≤ 4096) (f n : Int) (h0 : 0 ≤ f) (h1 : f ≤ l.length) (n0 : -9223372036854775808 ≤ n) (n1 : n ≤ 9223372036854775807) (k : Nat) (hk : 5001 ≤ k) :
    motleyref02_Sub.j1 k f n l = some (subL l f n) := by
  obtain ⟨k, rfl⟩ : ∃ j, k = j + 1 := ⟨k - 1, by omega⟩
  simp only [motleyref02_Sub.j1]
  unfold subL endI
  rw [wrap64_id (x := -(l.length : Int)) (by omega) (by omega), wrap64_id (x := (l.length : Int) - f) (by omega) (by omega)]
  by_cases c1 : n < -(l.length : Int)
  · rw [if_pos c1, if_pos c1]
    by_cases c2 : 0 < f
    · rw [if_pos c2, if_pos c2]; rfl
    · rw [if_neg c2, if_neg c2]
      exact rSub_fin l hc hl f 0 h0 (by omega) (by omega) k (by omega)
  rw [if_neg c1, if_neg c1]
  by_cases c2 : n < 0
  · rw [if_pos c2, if_pos c2, wrap64_id (x := (l.length : Int) + n) (by omega) (by omega)]
    by_cases c3 : (l.length : Int) + n < f
    · rw [if_pos c3, if_pos c3]; rfl
    · rw [if_neg c3, if_neg c3]
      exact rSub_fin l hc hl f _ h0 (by omega) (by omega) k (by omega)
  rw [if_neg c2, if_neg c2]
  by_cases c3 : n < (l.length : Int) - f
  · rw [if_pos c3, if_pos c3, wrap64_id (x := f + n) (by omega) (by omega), if_neg (show ¬ f + n < f by omega), if_neg (show ¬ f + n < f by omega)]
    exact rSub_fin l hc hl f _ h0 (by omega) (by omega) k (by omega)
  rw [if_neg c3, if_neg c3, if_neg (show ¬ (l.length : Int) < f by omega), if_neg (show ¬ (l.length : Int) < f by omega)]
  exact rSub_fin l hc hl f _ h0 (by omega) (by omega) k (by omega)
theorem cSub_j2 (l : List Int) (hc : allChr l) (hz : (enc l).length ≤ 4096) (hl : l.length ≤ 4096) (f n : Int) (h0 : 0 ≤ f) (h1 : f ≤ l.length) (n0 : -9223372036854775808 ≤ n) (n1 : n ≤ 9223372036854775807) (k : Nat) (hk : 5001 ≤ k) :
    chars_Sub.j2 k f n l (l.length : Int) false = some (subL l f n) := by
  obtain ⟨k, rfl⟩ : ∃ j, k = j + 1 := ⟨k - 1, by omega⟩
  simp only [chars_Sub.j2, Bool.false_eq_true, if_false]
  have nil : ∀ j : Int, j = f → enc ((l.take j.toNat).drop f.toNat) = [] := by
    rintro j rfl
    rw [List.drop_eq_nil_of_le (by rw [List.length_take]; omega)]
    rfl
  unfold subL endI
  rw [wrap64_id (x := -(l.length : Int)) (by omega) (by omega), wrap64_id (x := (l.length : Int) - f) (by omega) (by omega)]
  by_cases c1 : n < -(l.length : Int)
  · rw [if_pos c1, if_pos c1]
    refine (cSub_fin l hc hz hl f f h0 (by omega) (by omega)).trans ?_
    by_cases c2 : 0 < f
    · rw [if_pos c2, nil f rfl]
    · rw [if_neg c2, show f = 0 by omega]
  rw [if_neg c1, if_neg c1]
  by_cases c2 : n < 0
  · rw [if_pos c2, if_pos c2, wrap64_id (x := (l.length : Int) + n) (by omega) (by omega)]
    by_cases c3 : (l.length : Int) + n < f
    · have e : mx f ((l.length : Int) + n) = f := by unfold mx; first | omega | (split <;> omega)
      rw [if_pos c3, e]
      refine (cSub_fin l hc hz hl f f h0 (by omega) (by omega)).trans ?_
      rw [nil f rfl]
    · have e : mx f ((l.length : Int) + n) = (l.length : Int) + n := by unfold mx; first | omega | (split <;> omega)
      rw [if_neg c3, e]
      exact cSub_fin l hc hz hl f _ h0 (by omega) (by omega)
  rw [if_neg c2, if_neg c2]
  by_cases c3 : n < (l.length : Int) - f
  · rw [if_pos c3, if_pos c3, wrap64_id (x := f + n) (by omega) (by omega), if_neg (show ¬ f + n < f by omega)]
    exact cSub_fin l hc hz hl f _ h0 (by omega) (by omega)
  rw [if_neg c3, if_neg c3, if_neg (show ¬ (l.length : Int) < f by omega)]
  exact cSub_fin l hc hz hl f _ h0 (by omega) (by omega)
theorem i64_bounds {n : Int} (h : (Lit.int .i64 n).wf = true) : -9223372036854775808 ≤ n ∧ n ≤ 9223372036854775807 := by
  have e1 : IntKind.i64.min = -9223372036854775808 := rfl
  have e2 : IntKind.i64.max = 9223372036854775807 := rfl
  simp [Lit.wf, e1, e2] at h
  omega
theorem enc_le {s : ByteArray} (h : checkI s = 0) : (enc (runes s.data.toList)).length ≤ 4096 := by
  rw [← mk_size, enc_runes' h]
  exact (check0 h).1
theorem rSub_eq (s : ByteArray) (f n : Int) (hf : (Lit.int .i64 f).wf = true) (hn : (Lit.int .i64 n).wf = true) (k : Nat) (hk : 10000 ≤ k) : motleyref02_Sub.f k s f n = some (subR s f n) := by
  obtain ⟨f0, f1⟩ := i64_bounds hf
  obtain ⟨n0, n1⟩ := i64_bounds hn
  obtain ⟨k, rfl⟩ : ∃ j, k = j + 1 := ⟨k - 1, by omega⟩
  unfold motleyref02_Sub.f subR
  rw [Checked_eq s _ (by omega)]
  simp only [Option.bind_some]
  by_cases h : checkI s = 0
  case neg => rw [if_neg h, if_neg h]; rfl
  rw [if_pos h, if_pos h, Runes_eq s h _ (by omega)]
  have hl := runes_le h
  have hc := runes_all s.data.toList
  simp only [Option.bind_some]
  generalize runes s.data.toList = l at *
  rw [wrap64_id (x := -(l.length : Int)) (by omega) (by omega)]
  simp only [motleyref02_Sub.j0]
  by_cases c1 : f < -(l.length : Int)
  · rw [if_pos c1, if_pos (show f < -(l.length : Int) ∨ f > l.length from .inl c1)]; rfl
  rw [if_neg c1]
  by_cases c2 : f > (l.length : Int)
  · rw [if_pos (decide_eq_true c2), if_pos (show f < -(l.length : Int) ∨ f > l.length from .inr c2)]; rfl
  rw [if_neg (by rw [decide_eq_true_eq]; exact c2), if_neg (show ¬ (f < -(l.length : Int) ∨ f > l.length) by omega)]
  by_cases c3 : f < 0
  · rw [if_pos c3, if_pos c3, wrap64_id (x := f + (l.length : Int)) (by omega) (by omega)]
    exact rSub_j1 l hc hl _ n (by omega) (by omega) n0 n1 k (by omega)
  · rw [if_neg c3, if_neg c3]
    exact rSub_j1 l hc hl _ n (by omega) (by omega) n0 n1 k (by omega)
theorem cSub_eq (s : ByteArray) (f n : Int) (hf : (Lit.int .i64 f).wf = true) (hn : (Lit.int .i64 n).wf = true) (k : Nat) (hk : 10000 ≤ k) : chars_Sub.f k s f n = some (subR s f n) := by
  obtain ⟨f0, f1⟩ := i64_bounds hf
  obtain ⟨n0, n1⟩ := i64_bounds hn
  obtain ⟨k, rfl⟩ : ∃ j, k = j + 2 := ⟨k - 2, by omega⟩
  unfold chars_Sub.f subR
  rw [asked_one s _ (by omega)]
  simp only [Option.bind_some]
  by_cases h : checkI s = 0
  case neg => rw [if_neg h, if_neg h]; rfl
  rw [if_pos h, if_pos h, points_eq s h]
  have hl := runes_le h
  have hz := enc_le h
  have hc := runes_all s.data.toList
  simp only [Option.bind_some]
  generalize runes s.data.toList = l at *
  rw [wrap64_id (x := -(l.length : Int)) (by omega) (by omega)]
  simp only [chars_Sub.j0, chars_Sub.j1]
  have bad : ∀ x b : Bool, x = true → chars_Sub.j2 k f n l (l.length : Int) x = some (mk [], 1) := by
    rintro x b rfl
    obtain ⟨k, rfl⟩ : ∃ j, k = j + 1 := ⟨k - 1, by omega⟩
    simp only [chars_Sub.j2, if_true]; rfl
  by_cases c3 : f < 0
  · rw [if_pos c3]
    by_cases c1 : f < -(l.length : Int)
    · rw [if_neg (by rw [decide_eq_true_eq]; omega), if_pos c3, if_pos (show f < -(l.length : Int) ∨ f > l.length from .inl c1)]
      exact bad _ true rfl
    · rw [if_pos (decide_eq_true (show f ≥ -(l.length : Int) by omega)), if_neg (show ¬ (f < -(l.length : Int) ∨ f > l.length) by omega), wrap64_id (x := f + (l.length : Int)) (by omega) (by omega), if_neg (show ¬ f + (l.length : Int) < 0 by omega), decide_eq_false (show ¬ f + (l.length : Int) > l.length by omega), if_pos c3]
      exact cSub_j2 l hc hz hl _ n (by omega) (by omega) n0 n1 k (by omega)
  · rw [if_neg c3]
    simp only [Bool.false_eq_true, if_false]
    rw [if_neg c3]
    by_cases c2 : f > (l.length : Int)
    · rw [decide_eq_true c2, if_pos (show f < -(l.length : Int) ∨ f > l.length from .inr c2)]
      exact bad _ true rfl
    · rw [decide_eq_false c2, if_neg (show ¬ (f < -(l.length : Int) ∨ f > l.length) by omega), if_neg c3]
      exact cSub_j2 l hc hz hl _ n (by omega) (by omega) n0 n1 k (by omega)
def widthR (s : ByteArray) : Int × Int := if checkI s = 0 then ((runes s.data.toList).length, 0) else (0, checkI s)
theorem rWidth_eq (s : ByteArray) (k : Nat) (hk : 4200 ≤ k) : motleyref02_Width.f k s = some (widthR s) := by
  unfold motleyref02_Width.f widthR
  rw [Checked_eq s _ (by omega)]
  simp only [Option.bind_some]
  by_cases h : checkI s = 0
  · rw [if_pos h, if_pos h, Runes_eq s h _ (by omega)]; rfl
  · rw [if_neg h, if_neg h]
theorem cWidth_eq (s : ByteArray) (k : Nat) (hk : 4200 ≤ k) : chars_Width.f k s = some (widthR s) := by
  unfold chars_Width.f widthR utf8_RuneCountInString.f
  rw [asked_one s _ (by omega)]
  simp only [Option.bind_some]
  by_cases h : checkI s = 0
  · rw [if_pos h, if_pos h, if_pos (by have := (check0 h).1; omega)]; rfl
  · rw [if_neg h, if_neg h]
end Go.Proofs.YtegapacamclipaaDoor.Q
namespace Go.Proofs.YtegapacamclipaaDoor.Pure
open Go.RowKit Go.Proofs.YtegapacamclipaaDoorW.PrintWords Go.Proofs.YtegapacamclipaaDoor.Tx Go.Proofs.YtegapacamclipaaDoor.G Go.Proofs.YtegapacamclipaaDoor.M Go.Proofs.YtegapacamclipaaDoor.Q Go.Lib
theorem CharsSubs : motleylaw02_CharsSubs.Pure := by
  intro s f n hs hf hn
  refine ⟨30000, ?_⟩
  unfold motleylaw02_CharsSubs.f
  by_cases hz : s.size > 20000
  · rw [if_pos (by omega), known_eq _ (by omega)]; rfl
  rw [if_neg (by omega), rSub_eq s f n hf hn _ (by omega), rWidth_eq s _ (by omega), cSub_eq s f n hf hn _ (by omega), cWidth_eq s _ (by omega)]
  simp only [Option.bind_some, if_true]
  rw [known_eq 30000 (by omega)]
  rfl
end Go.Proofs.YtegapacamclipaaDoor.Pure
