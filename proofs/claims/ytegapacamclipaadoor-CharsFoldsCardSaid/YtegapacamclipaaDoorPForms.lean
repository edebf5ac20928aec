/- The forms of characters and of texts, of the reference and of the program, in plain Lean. -/
import Derived.Test.YtegapacamclipaaDoorPText
import Derived.Test.YtegapacamclipaaDoorM6
set_option linter.unusedVariables false
set_option linter.unusedSimpArgs false
namespace Go.Proofs.YtegapacamclipaaDoor.Q
open Go.RowKit Go.Proofs.YtegapacamclipaaDoorW.PrintWords Go.Proofs.YtegapacamclipaaDoor.Tx Go.Proofs.YtegapacamclipaaDoor.G Go.Proofs.YtegapacamclipaaDoor.M Go.Lib

theorem within_eq (a b c : Int) : motleyref02_within.f a b c = some (decide (b ≤ a ∧ a ≤ c)) := by
  unfold motleyref02_within.f
  by_cases h : a ≥ b
  · rw [if_pos h]
    exact congrArg some (decide_eq_decide.2 ⟨fun h2 => ⟨h, h2⟩, fun h2 => h2.2⟩)
  · rw [if_neg h, decide_eq_false (by omega)]
set_option maxHeartbeats 2000000 in
theorem small_eq (c : Int) (hc : chr c) (k : Nat) : motleyref02_small.f (k + 3) c = some (smallI c) := by
  unfold chr at hc
  simp only [motleyref02_small.f, motleyref02_small.j0, motleyref02_small.j1, within_eq, Option.bind_some, decide_eq_true_eq, bne_iff_ne, ne_eq, Bool.false_eq_true, if_false]
  unfold smallI isUp
  repeat' split
  all_goals first | rfl | (exfalso; omega) | (congr 1; unfold wrap64; omega)
theorem small_at (c : Int) (hc : chr c) (k : Nat) (hk : 3 ≤ k) : motleyref02_small.f k c = some (smallI c) := by
  obtain ⟨k, rfl⟩ : ∃ j, k = j + 3 := ⟨k - 3, by omega⟩
  exact small_eq c hc k
def ligI (a : Int) (b d s t : Int) (i l : Int) (c : Int) : List Int := if c = 64256 then [a, a] else if c = 64257 then [a, i] else if c = 64258 then [a, l] else if c = 64259 then [a, a, i] else if c = 64260 then [a, a, l] else [s, t]
def foldI (c : Int) : List Int := if c = 181 then [956] else if c = 223 ∨ c = 7838 then [115, 115] else if c = 329 then [700, 110] else if c = 383 then [115] else if c = 962 then [963]
  else if 64256 ≤ c ∧ c ≤ 64262 then ligI 102 0 0 115 116 105 108 c else [smallI c]
def capI (c : Int) : List Int := if c = 962 then [931] else if c = 383 then [83] else if c = 223 then [83, 83] else if c = 329 then [700, 78]
  else if 64256 ≤ c ∧ c ≤ 64262 then ligI 70 0 0 83 84 73 76 c else if isLow c then [c - 32] else [c]
theorem enc_one (c : Int) : enc [c] = encodeRune c := by rw [enc_cons, enc_nil, List.append_nil]
theorem lig_at {c : Int} (h : 64256 ≤ c ∧ c ≤ 64262) : c = 64256 ∨ c = 64257 ∨ c = 64258 ∨ c = 64259 ∨ c = 64260 ∨ c = 64261 ∨ c = 64262 := by omega
theorem ligI_fold {c : Int} (h : 64256 ≤ c ∧ c ≤ 64262) : enc (ligI 102 0 0 115 116 105 108 c) = ligL c := by
  rcases lig_at h with rfl | rfl | rfl | rfl | rfl | rfl | rfl <;> rfl
theorem ligI_cap {c : Int} (h : 64256 ≤ c ∧ c ≤ 64262) : enc (ligI 70 0 0 83 84 73 76 c) = ligU c := by
  rcases lig_at h with rfl | rfl | rfl | rfl | rfl | rfl | rfl <;> rfl
theorem enc_foldI (c : Int) : enc (foldI c) = foldU c := by
  unfold foldI foldU
  by_cases h1 : c = 181
  · rw [if_pos h1, if_pos h1]; rfl
  by_cases h2 : c = 223 ∨ c = 7838
  · rw [if_neg h1, if_neg h1, if_pos h2, if_pos h2]; rfl
  by_cases h3 : c = 329
  · rw [if_neg h1, if_neg h1, if_neg h2, if_neg h2, if_pos h3, if_pos h3]; rfl
  by_cases h4 : c = 383
  · rw [if_neg h1, if_neg h1, if_neg h2, if_neg h2, if_neg h3, if_neg h3, if_pos h4, if_pos h4]; rfl
  by_cases h5 : c = 962
  · rw [if_neg h1, if_neg h1, if_neg h2, if_neg h2, if_neg h3, if_neg h3, if_neg h4, if_neg h4, if_pos h5, if_pos h5]; rfl
  rw [if_neg h1, if_neg h1, if_neg h2, if_neg h2, if_neg h3, if_neg h3, if_neg h4, if_neg h4, if_neg h5, if_neg h5]
  by_cases h6 : 64256 ≤ c ∧ c ≤ 64262
  · rw [if_pos h6, if_pos h6]
    exact ligI_fold h6
  · rw [if_neg h6, if_neg h6]
    exact enc_one _
theorem enc_capI (c : Int) : enc (capI c) = capU c := by
  unfold capI capU ligI ligU
  repeat' split
  all_goals first | rfl | exact enc_one _
theorem fold_mem' (c : Int) (h : ¬ (foldI c = [smallI c] ∧ ¬ c = 181 ∧ ¬ (c = 223 ∨ c = 7838) ∧ ¬ c = 329 ∧ ¬ c = 383 ∧ ¬ c = 962 ∧ ¬ (64256 ≤ c ∧ c ≤ 64262))) (d : Int) (hd : d ∈ foldI c) : d = 956 ∨ d = 115 ∨ d = 700 ∨ d = 110 ∨ d = 963 ∨ d = 102 ∨ d = 105 ∨ d = 108 ∨ d = 116 := by
  unfold foldI at hd h
  by_cases h1 : c = 181
  · rw [if_pos h1, List.mem_singleton] at hd; omega
  by_cases h2 : c = 223 ∨ c = 7838
  · rw [if_neg h1, if_pos h2] at hd; simp only [List.mem_cons, List.mem_nil_iff, or_false] at hd; omega
  by_cases h3 : c = 329
  · rw [if_neg h1, if_neg h2, if_pos h3] at hd; simp only [List.mem_cons, List.mem_nil_iff, or_false] at hd; omega
  by_cases h4 : c = 383
  · rw [if_neg h1, if_neg h2, if_neg h3, if_pos h4] at hd; simp only [List.mem_cons, List.mem_nil_iff, or_false] at hd; omega
  by_cases h5 : c = 962
  · rw [if_neg h1, if_neg h2, if_neg h3, if_neg h4, if_pos h5] at hd; simp only [List.mem_cons, List.mem_nil_iff, or_false] at hd; omega
  by_cases h6 : 64256 ≤ c ∧ c ≤ 64262
  · rw [if_neg h1, if_neg h2, if_neg h3, if_neg h4, if_neg h5, if_pos h6] at hd
    clear h
    rcases lig_at h6 with rfl | rfl | rfl | rfl | rfl | rfl | rfl <;> (unfold ligI at hd; simp at hd; omega)
  · exfalso
    apply h
    rw [if_neg h1, if_neg h2, if_neg h3, if_neg h4, if_neg h5, if_neg h6]
    exact ⟨rfl, h1, h2, h3, h4, h5, h6⟩
theorem fold_mem (c : Int) (h : ¬ foldI c = [smallI c]) (d : Int) (hd : d ∈ foldI c) : d = 956 ∨ d = 115 ∨ d = 700 ∨ d = 110 ∨ d = 963 ∨ d = 102 ∨ d = 105 ∨ d = 108 ∨ d = 116 :=
  fold_mem' c (fun h2 => h h2.1) d hd
theorem foldI_chr {c : Int} (h : chr c) : allChr (foldI c) := by
  intro d hd
  by_cases hs : foldI c = [smallI c]
  · rw [hs, List.mem_singleton] at hd
    rw [hd]; exact smallI_chr h
  · have := fold_mem c hs d hd
    unfold chr
    omega
theorem capI_chr {c : Int} (h : chr c) : allChr (capI c) := by
  intro d hd
  by_cases hl : isLow c ∧ capI c = [c - 32]
  · rw [hl.2, List.mem_singleton] at hd
    have := hl.1
    unfold isLow at this
    unfold chr
    omega
  by_cases hc : capI c = [c]
  · rw [hc, List.mem_singleton] at hd
    rw [hd]; exact h
  · have hm : d = 931 ∨ d = 83 ∨ d = 700 ∨ d = 78 ∨ d = 70 ∨ d = 84 ∨ d = 73 ∨ d = 76 := by
      unfold capI at hd hl hc
      by_cases h1 : c = 962
      · rw [if_pos h1, List.mem_singleton] at hd; omega
      rw [if_neg h1] at hd hl hc
      by_cases h1 : c = 383
      · rw [if_pos h1, List.mem_singleton] at hd; omega
      rw [if_neg h1] at hd hl hc
      by_cases h1 : c = 223
      · rw [if_pos h1] at hd; simp only [List.mem_cons, List.mem_nil_iff, or_false] at hd; omega
      rw [if_neg h1] at hd hl hc
      by_cases h1 : c = 329
      · rw [if_pos h1] at hd; simp only [List.mem_cons, List.mem_nil_iff, or_false] at hd; omega
      rw [if_neg h1] at hd hl hc
      by_cases h1 : 64256 ≤ c ∧ c ≤ 64262
      · rw [if_pos h1] at hd
        rcases lig_at h1 with rfl | rfl | rfl | rfl | rfl | rfl | rfl <;> (unfold ligI at hd; simp at hd; omega)
      rw [if_neg h1] at hd hl hc
      by_cases h1 : isLow c
      · rw [if_pos h1] at hl; exact absurd ⟨h1, rfl⟩ hl
      · rw [if_neg h1] at hc; exact absurd rfl hc
    unfold chr
    omega
theorem ligI_length (a b d s t i l c : Int) : 1 ≤ (ligI a b d s t i l c).length ∧ (ligI a b d s t i l c).length ≤ 3 := by
  unfold ligI
  repeat' split
  all_goals simp
theorem foldI_length (c : Int) : 1 ≤ (foldI c).length ∧ (foldI c).length ≤ 3 := by
  unfold foldI
  repeat' split
  all_goals first | exact ligI_length _ _ _ _ _ _ _ _ | simp
theorem capI_length (c : Int) : 1 ≤ (capI c).length ∧ (capI c).length ≤ 3 := by
  unfold capI
  repeat' split
  all_goals first | exact ligI_length _ _ _ _ _ _ _ _ | simp
theorem FoldOf_eq (c : Int) (hc : chr c) (k : Nat) : motleyref02_FoldOf.f (k + 5) c = some (foldI c) := by
  have h2 := small_eq c hc (k + 1)
  simp only [motleyref02_FoldOf.f, motleyref02_FoldOf.j0, beq_iff_eq, h2, Option.bind_some]
  unfold foldI
  by_cases h1 : c = 181
  · rw [if_pos h1, if_pos h1]
  rw [if_neg h1, if_neg h1]
  by_cases h2 : c = 223
  · rw [if_pos h2, if_pos h2, if_pos (.inl h2)]
  rw [if_neg h2]
  by_cases h3 : c = 7838
  · rw [if_pos h3, if_pos (.inr h3)]
  rw [if_neg h3, if_neg (show ¬ (c = 223 ∨ c = 7838) by omega)]
  by_cases h4 : c = 329
  · rw [if_pos h4, if_pos h4]
  rw [if_neg h4, if_neg h4]
  by_cases h5 : c = 383
  · rw [if_pos h5, if_pos h5]
  rw [if_neg h5, if_neg h5]
  by_cases h6 : c = 962
  · rw [if_pos h6, if_pos h6]
  rw [if_neg h6, if_neg h6]
  by_cases h7 : 64256 ≤ c ∧ c ≤ 64262
  · rw [if_pos h7]
    clear h2
    rcases lig_at h7 with rfl | rfl | rfl | rfl | rfl | rfl | rfl <;> rfl
  · rw [if_neg h7, if_neg (by omega), if_neg (by omega), if_neg (by omega), if_neg (by omega), if_neg (by omega), if_neg (by omega), if_neg (by omega)]
theorem FoldOf_at (c : Int) (hc : chr c) (k : Nat) (hk : 5 ≤ k) : motleyref02_FoldOf.f k c = some (foldI c) := by
  obtain ⟨k, rfl⟩ : ∃ j, k = j + 5 := ⟨k - 5, by omega⟩
  exact FoldOf_eq c hc k
theorem small_small (c : Int) : smallI (smallI c) = smallI c := by
  have fix : ∀ d : Int, ¬ isUp d → d ≠ 7838 → d ≠ 8490 → d ≠ 8491 → smallI d = d := fun d h1 h2 h3 h4 => by
    unfold smallI
    rw [if_neg h1, if_neg h2, if_neg h3, if_neg h4]
  by_cases h : isUp c
  · have e : smallI c = c + 32 := by unfold smallI; rw [if_pos h]
    unfold isUp at h
    rw [e, fix _ (by unfold isUp; omega) (by omega) (by omega) (by omega)]
  by_cases h1 : c = 7838
  · subst h1; rfl
  by_cases h2 : c = 8490
  · subst h2; rfl
  by_cases h3 : c = 8491
  · subst h3; rfl
  rw [fix c h h1 h2 h3, fix c h h1 h2 h3]
theorem fold_fold (c : Int) : ∀ d ∈ foldI c, foldI d = [d] := by
  intro d hd
  by_cases h : foldI c = [smallI c] ∧ ¬ c = 181 ∧ ¬ (c = 223 ∨ c = 7838) ∧ ¬ c = 329 ∧ ¬ c = 383 ∧ ¬ c = 962 ∧ ¬ (64256 ≤ c ∧ c ≤ 64262)
  · rw [h.1, List.mem_singleton] at hd
    subst hd
    have e := small_small c
    have : ¬ smallI c = 181 ∧ ¬ (smallI c = 223 ∨ smallI c = 7838) ∧ ¬ smallI c = 329 ∧ ¬ smallI c = 383 ∧ ¬ smallI c = 962 ∧ ¬ (64256 ≤ smallI c ∧ smallI c ≤ 64262) := by
      obtain ⟨_, h⟩ := h
      by_cases hu : isUp c
      · have e : smallI c = c + 32 := by unfold smallI; rw [if_pos hu]
        unfold isUp at hu
        rw [e]
        omega
      by_cases h1 : c = 7838
      · omega
      by_cases h2 : c = 8490
      · subst h2; decide
      by_cases h3 : c = 8491
      · subst h3; decide
      have e : smallI c = c := by unfold smallI; rw [if_neg hu, if_neg h1, if_neg h2, if_neg h3]
      rw [e]
      exact h
    unfold foldI
    rw [if_neg this.1, if_neg this.2.1, if_neg this.2.2.1, if_neg this.2.2.2.1, if_neg this.2.2.2.2.1, if_neg this.2.2.2.2.2, e]
  · have hm : d = 956 ∨ d = 115 ∨ d = 700 ∨ d = 110 ∨ d = 963 ∨ d = 102 ∨ d = 105 ∨ d = 108 ∨ d = 116 := fold_mem' c h d hd
    rcases hm with rfl | rfl | rfl | rfl | rfl | rfl | rfl | rfl | rfl <;> rfl
/-- A text in a form: F: what is written for a character. -/
def formR (F : Int → List Int) (s : ByteArray) : ByteArray × Int := if checkI s = 0 then sizeR (enc ((runes s.data.toList).flatMap F)) else (mk [], checkI s)
theorem allChr_flat {F : Int → List Int} (hF : ∀ c, chr c → allChr (F c)) {l : List Int} (h : allChr l) : allChr (l.flatMap F) := by
  intro d hd
  obtain ⟨c, h1, h2⟩ := List.mem_flatMap.1 hd
  exact hF c (h c h1) d h2
theorem flat_flat {F : Int → List Int} (h : ∀ c, ∀ d ∈ F c, F d = [d]) (l : List Int) : (l.flatMap F).flatMap F = l.flatMap F := by
  rw [List.flatMap_assoc]
  congr 1
  funext c
  have : ∀ m : List Int, (∀ d ∈ m, F d = [d]) → m.flatMap F = m := by
    intro m
    induction m with
    | nil => intro _; rfl
    | cons a m ih =>
      intro hm
      rw [List.flatMap_cons, hm a List.mem_cons_self, ih (fun d hd => hm d (List.mem_cons_of_mem _ hd))]
      rfl
  exact this _ (h c)
theorem formR_again {F : Int → List Int} (hF : ∀ c, chr c → allChr (F c)) (h : ∀ c, ∀ d ∈ F c, F d = [d]) (s : ByteArray) (h0 : (formR F s).2 = 0) : formR F (formR F s).1 = ((formR F s).1, 0) := by
  have hc := allChr_flat hF (runes_all s.data.toList)
  by_cases h1 : checkI s = 0
  case neg =>
    unfold formR at h0
    rw [if_neg h1] at h0
    exact absurd h0 h1
  have e : formR F s = sizeR (enc ((runes s.data.toList).flatMap F)) := by unfold formR; rw [if_pos h1]
  rw [e] at h0 ⊢
  by_cases h2 : (enc ((runes s.data.toList).flatMap F)).length ≤ 4096
  · rw [sizeR_small h2]
    unfold formR
    rw [if_pos (check_enc hc h2), mk_list, (runes_enc _ hc).1, flat_flat h, sizeR_small h2]
  · unfold sizeR at h0
    rw [if_pos (by omega)] at h0
    cases h0
theorem enc_flat (F : Int → List Int) (U : Int → List UInt8) (h : ∀ c, enc (F c) = U c) (l : List Int) : mapL U l = enc (l.flatMap F) := by
  induction l with
  | nil => rfl
  | cons c l ih => rw [mapL_cons, List.flatMap_cons, enc_append, h, ih]
theorem flat_length {F : Int → List Int} (hF : ∀ c, (F c).length ≤ 3) (l : List Int) : (l.flatMap F).length ≤ 3 * l.length := by
  induction l with
  | nil => simp
  | cons c l ih => rw [List.flatMap_cons, List.length_append, List.length_cons]; have := hF c; omega
theorem mapFold_eq (s : ByteArray) (h : checkI s = 0) : mapped_FoldOf.f s = some (mk (enc ((runes s.data.toList).flatMap foldI))) := by
  have := (check0 h).1
  unfold mapped_FoldOf.f
  rw [if_pos (by omega), enc_flat foldI foldU enc_foldI]
  rfl
theorem mapCap_eq (s : ByteArray) (h : checkI s = 0) : mapped_capital.f s = some (mk (enc ((runes s.data.toList).flatMap capI))) := by
  have := (check0 h).1
  unfold mapped_capital.f
  rw [if_pos (by omega), enc_flat capI capU enc_capI]
  rfl
theorem mapLow_eq (s : ByteArray) (h : s.size ≤ 17592186044415) : mapped_lowered.f s = some (mk (enc ((runes s.data.toList).flatMap fun c => [smallI c]))) := by
  unfold mapped_lowered.f
  rw [if_pos (by omega), enc_flat (fun c => [smallI c]) lowU (fun c => enc_one _)]
  rfl
end Go.Proofs.YtegapacamclipaaDoor.Q
