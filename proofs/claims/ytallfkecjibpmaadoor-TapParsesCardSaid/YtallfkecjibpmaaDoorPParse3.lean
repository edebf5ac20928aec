/- The plain law of TapParses, third part: spans. Plain Lean. -/
import Derived.Test.YtallfkecjibpmaaDoorPParse
import Derived.Test.YtallfkecjibpmaaDoorM3
set_option linter.unusedVariables false
set_option linter.unusedSimpArgs false
namespace Go.Proofs.YtallfkecjibpmaaDoor.Q
open Go.RowKit Go.Proofs.YtallfkecjibpmaaDoorW.PrintWords Go.Proofs.YtallfkecjibpmaaDoor.G Go.Proofs.YtallfkecjibpmaaDoor.M Go.Proofs.YtallfkecjibpmaaDoor.Cal Go.Proofs.YtallfkecjibpmaaDoor.Nm Go.Lib
theorem rd_Ls (v : Nat) (h : v < 4) : rd ([86400, 3600, 60, 1] : List Int) (v : Int) = ((usz v : Nat) : Int) := by
  have : v = 0 ∨ v = 1 ∨ v = 2 ∨ v = 3 := by omega
  rcases this with rfl | rfl | rfl | rfl <;> rfl
theorem bt_nm (v : Nat) (h : v < 4) : bt (⟨#[100, 104, 109, 115]⟩ : ByteArray) (v : Int) = ((unm v).toNat : Int) := by
  have : v = 0 ∨ v = 1 ∨ v = 2 ∨ v = 3 := by omega
  rcases this with rfl | rfl | rfl | rfl <;> rfl
def finR (o : Option Nat) : Int × Int := match o with | none => (0, 2) | some t => if 1000000000 < t then (0, 1) else ((t : Int), 0)
theorem pspan_l1 (s : ByteArray) (L : List Int) (t u : Int) (i : Nat) (hi : i ≤ s.size) (hs : s.size ≤ 1000000) : ∀ (d k n : Nat), i + n + d = dEnd s i → d < k → motleyref27_ParseSpan.l1 k s L t (i : Int) u (n : Int) = motleyref27_ParseSpan.j5 (k - d - 1) s L t (i : Int) u ((dEnd s i - i : Nat) : Int)
  | 0, k, n, hn, hk => by
    obtain ⟨k, rfl⟩ : ∃ j, k = j + 1 := ⟨k - 1, by omega⟩
    have hb := dEnd_le s i hi
    have e1 : Aside0 (wrap64 ((i : Int) + (n : Int)) = ((i + n : Nat) : Int)) := ⟨by rw [w64 (by omega) (by omega)]; omega⟩
    have e3 : n = dEnd s i - i := by omega
    simp only [motleyref27_ParseSpan.l1]
    rw [e1.out, show k + 1 - 0 - 1 = k by omega, ← e3]
    by_cases h : i + n < s.size
    · have ho := dEnd_out s i hi (by omega)
      rw [show dEnd s i = i + n by omega] at ho
      rw [if_pos (by omega), if_pos (by omega), bt_bAt, isDigit_eq]
      simp only [Option.bind_some]
      rw [if_neg (by simpa [isDb] using ho)]
    · rw [if_neg (by omega)]
  | d + 1, k, n, hn, hk => by
    obtain ⟨k, rfl⟩ : ∃ j, k = j + 1 := ⟨k - 1, by omega⟩
    have hb := dEnd_le s i hi
    have e1 : Aside0 (wrap64 ((i : Int) + (n : Int)) = ((i + n : Nat) : Int)) := ⟨by rw [w64 (by omega) (by omega)]; omega⟩
    have e2 : Aside0 (wrap64 ((n : Int) + 1) = ((n + 1 : Nat) : Int)) := ⟨by rw [w64 (by omega) (by omega)]; omega⟩
    have hin := dEnd_in s i (i + n) (by omega) (by omega)
    simp only [motleyref27_ParseSpan.l1]
    rw [e1.out, if_pos (by omega), if_pos (by omega), bt_bAt, isDigit_eq]
    simp only [Option.bind_some]
    rw [if_pos (by simpa [isDb] using hin), e2.out, pspan_l1 s L t u i hi hs d k (n + 1) (by omega) (by omega), show k + 1 - (d + 1) - 1 = k - d - 1 by omega]
theorem pspan_l2 (s : ByteArray) (t i j : Nat) (hij : i < j) (hj : j < s.size) (hs : s.size ≤ 1000000) (num : Nat) (hnum : num ≤ 1000000000) (ht : t ≤ 500000000000000) (hdig : ∀ k, 20 ≤ k → motleyref27_digits.f k (s.extract i j) = some (num : Int)) (R : Option (Int × Int)) (K : Nat) (hK : 30 ≤ K) :
    ∀ (f u k : Nat), u + f = 4 → K + f + 5 ≤ k → (findU u (bAt s j) = 4 → R = some (0, 2)) → (∀ v, findU u (bAt s j) = v → v < 4 → ∀ k', K ≤ k' → motleyref27_ParseSpan.l0 k' s ([86400, 3600, 60, 1] : List Int) ((t + num * usz v : Nat) : Int) ((j + 1 : Nat) : Int) ((v + 1 : Nat) : Int) = R) → motleyref27_ParseSpan.l2 k s ([86400, 3600, 60, 1] : List Int) (t : Int) (i : Int) ((j - i : Nat) : Int) (u : Int) = R
  | 0, u, k, hu, hk, h4, hv => by
    obtain ⟨k, rfl⟩ : ∃ j, k = j + 1 := ⟨k - 1, by omega⟩
    obtain rfl : u = 4 := by omega
    simp only [motleyref27_ParseSpan.l2]
    rw [if_neg (by omega), if_pos (by omega), h4 rfl]
  | f + 1, u, k, hu, hk, h4, hv => by
    obtain ⟨k, rfl⟩ : ∃ j, k = j + 1 := ⟨k - 1, by omega⟩
    have ej : Aside0 (wrap64 ((i : Int) + ((j - i : Nat) : Int)) = (j : Int)) := ⟨by rw [w64 (by omega) (by omega)]; omega⟩
    have eu : Aside0 (wrap64 ((u : Int) + 1) = ((u + 1 : Nat) : Int)) := ⟨by rw [w64 (by omega) (by omega)]; omega⟩
    have ej1 : Aside0 (wrap64 ((j : Int) + 1) = ((j + 1 : Nat) : Int)) := ⟨by rw [w64 (by omega) (by omega)]; omega⟩
    simp only [motleyref27_ParseSpan.l2]
    rw [if_pos (by omega), if_pos (by omega), ej.out, if_pos (by omega), if_pos (by omega), bt_nm u (by omega), bt_bAt]
    by_cases he : unm u = bAt s j
    · rw [if_pos (by rw [he]), if_neg (by omega), if_pos (by omega), if_pos (by omega), if_pos (by omega), Int.toNat_natCast, Int.toNat_natCast, hdig k (by omega)]
      simp only [Option.bind_some]
      have hz := usz_le u
      have hm : num * usz u ≤ 1000000000 * 86400 := Nat.mul_le_mul hnum hz.2
      have em : (num : Int) * ((usz u : Nat) : Int) = ((num * usz u : Nat) : Int) := by rw [Int.natCast_mul]
      rw [if_pos (by simp; omega), rd_Ls u (by omega), em]
      have hv := hv u (findU_hit (by omega) he) (by omega) k (by omega)
      generalize num * usz u = m at *
      have ew : Aside0 (wrap64 ((t : Int) + wrap64 (m : Int)) = ((t + m : Nat) : Int)) := ⟨by rw [w64 (x := (m : Int)) (by omega) (by omega), w64 (by omega) (by omega)]; omega⟩
      rw [ew.out, ej1.out, eu.out]
      exact hv
    · have hne : ¬ (((unm u).toNat : Int) = ((bAt s j).toNat : Int)) := fun e => he (UInt8.toNat_inj.1 (by omega))
      have hmiss := findU_miss (show u < 4 by omega) he
      rw [if_neg hne, eu.out]
      rw [hmiss] at h4 hv
      exact pspan_l2 s t i j hij hj hs num hnum ht hdig R K hK f (u + 1) k (by omega) (by omega) h4 hv
theorem pspan_end (s : ByteArray) (L : List Int) (t u k : Nat) (hu : 0 < u) (hk : 2 ≤ k) : motleyref27_ParseSpan.l0 k s L (t : Int) (s.size : Int) (u : Int) = some (finR (some t)) := by
  obtain ⟨k, rfl⟩ : ∃ j, k = j + 2 := ⟨k - 2, by omega⟩
  simp only [motleyref27_ParseSpan.l0]
  rw [if_neg (by omega)]
  simp only [motleyref27_ParseSpan.j1]
  have hb : ((u : Int) == 0) = false := beq_eq_false_iff_ne.2 (by omega)
  rw [hb, if_neg (by simp)]
  unfold finR
  by_cases h : 1000000000 < t
  · rw [if_pos (by omega)]; simp only; rw [if_pos h]
  · rw [if_neg (by omega)]; simp only; rw [if_neg h]
theorem pspan_head (s : ByteArray) (L : List Int) (t : Int) (u i k : Nat) (hi : i < s.size) (hs : s.size ≤ 1000000) : motleyref27_ParseSpan.l0 (k + 4) s L t (i : Int) (u : Int) = motleyref27_ParseSpan.l1 k s L t ((skipB s (decide (u = 0)) i : Nat) : Int) (u : Int) 0 := by
  have e1 : Aside0 (wrap64 ((i : Int) + 1) = ((i + 1 : Nat) : Int)) := ⟨by rw [w64 (by omega) (by omega)]; omega⟩
  simp only [motleyref27_ParseSpan.l0]
  rw [if_pos (by omega)]
  simp only [motleyref27_ParseSpan.j1]
  rw [if_pos trivial]
  by_cases hu : 0 < u
  · rw [if_pos (by omega), if_pos (by omega), if_pos (by omega), bt_bAt]
    simp only [motleyref27_ParseSpan.j2]
    have hd : decide (u = 0) = false := decide_eq_false (by omega)
    rw [hd]
    unfold skipB
    by_cases h32 : bAt s i = 32
    · rw [if_pos (by rw [h32]; rfl), if_pos ⟨rfl, h32⟩]
      simp only [motleyref27_ParseSpan.j3]
      rw [e1.out]
    · have hn := sign_ne 32 32 rfl h32
      rw [if_neg (fun e => hn (eq_of_beq e)), if_neg (fun e => h32 e.2)]
      simp only [motleyref27_ParseSpan.j3]
  · rw [if_neg (by omega)]
    simp only [motleyref27_ParseSpan.j2]
    have hd : decide (u = 0) = true := decide_eq_true (by omega)
    rw [hd, if_neg (by simp)]
    unfold skipB
    rw [if_neg (by simp)]
    simp only [motleyref27_ParseSpan.j3]
theorem dig_at (s : ByteArray) (i : Nat) (hi : i ≤ s.size) (h9 : dEnd s i - i ≤ 9) (k : Nat) (hk : 20 ≤ k) : motleyref27_digits.f k (s.extract i (dEnd s i)) = some ((numAt s i (dEnd s i) : Nat) : Int) := by
  unfold numAt
  refine digits_eq _ _ (Lib.extract_data s i (dEnd s i)) ?_ (by rw [List.length_take]; omega) k hk
  intro c hc
  rw [← take_dEnd] at hc
  have := List.all_takeWhile (p := isDb) (l := s.data.toList.drop i)
  rw [List.all_eq_true] at this
  simpa [isDb] using this c hc
theorem pspan_l0 (s : ByteArray) (hs : s.size ≤ 1000000) (N : Nat) (hN : N = s.size + 100) : ∀ (d u i t F k : Nat), 4 ≤ u + d → u ≤ 4 → (u = 0 → i < s.size) → i ≤ s.size → s.size - i < F → t ≤ u * 86400000000000 → (d + 1) * N ≤ k → motleyref27_ParseSpan.l0 k s ([86400, 3600, 60, 1] : List Int) (t : Int) (i : Int) (u : Int) = some (finR (pS F (s.data.toList.drop i) (decide (u = 0)) u t))
  | d, u, i, t, F, k, hd, hu4, hu0, hi, hF, ht, hk => by
    rw [Nat.succ_mul] at hk
    obtain ⟨F, rfl⟩ : ∃ f, F = f + 1 := ⟨F - 1, by omega⟩
    by_cases hlt : i < s.size
    case neg =>
      obtain rfl : i = s.size := by omega
      rw [pspan_end s _ t u k (by omega) (by omega), List.drop_of_length_le (by rw [← size_len]; omega)]
      rfl
    case pos =>
      have hst := pS_step s (decide (u = 0)) u t F i _ _ hlt rfl rfl
      have hsk : i ≤ skipB s (decide (u = 0)) i ∧ skipB s (decide (u = 0)) i ≤ s.size := by unfold skipB; split <;> omega
      obtain ⟨k, rfl⟩ : ∃ j, k = j + 4 := ⟨k - 4, by omega⟩
      rw [pspan_head s _ (t : Int) u i k hlt hs, hst]
      clear hst
      generalize skipB s (decide (u = 0)) i = i1 at *
      have hde := dEnd_le s i1 hsk.2
      have hl1 := pspan_l1 s ([86400, 3600, 60, 1] : List Int) (t : Int) (u : Int) i1 hsk.2 hs (dEnd s i1 - i1) k 0 (by omega) (by omega)
      rw [show (((0 : Nat) : Int)) = 0 from rfl] at hl1
      rw [hl1]
      clear hl1
      have hnum := num_lt s i1 hsk.2
      have hdg := dig_at s i1 hsk.2
      generalize hj : dEnd s i1 = j at *
      obtain ⟨q, hq⟩ : ∃ q, k - (j - i1) - 1 = q + 2 := ⟨k - (j - i1) - 3, by omega⟩
      have hqb : d * N + 80 ≤ q := by omega
      rw [hq]
      have ej : Aside0 (wrap64 ((i1 : Int) + ((j - i1 : Nat) : Int)) = (j : Int)) := ⟨by rw [w64 (by omega) (by omega)]; omega⟩
      simp only [motleyref27_ParseSpan.j5]
      rw [ej.out]
      simp only [motleyref27_ParseSpan.j6]
      by_cases h1 : j = i1
      · rw [if_pos (show ((j - i1 : Nat) : Int) < 1 by omega), if_pos trivial, if_pos (show j = i1 ∨ 9 < j - i1 ∨ j = s.size from .inl h1)]; rfl
      rw [if_neg (show ¬ (((j - i1 : Nat) : Int) < 1) by omega)]
      by_cases h2 : 9 < j - i1
      · rw [if_pos (show ((j - i1 : Nat) : Int) > 9 by omega), if_pos trivial, if_pos (show j = i1 ∨ 9 < j - i1 ∨ j = s.size from .inr (.inl h2))]; rfl
      rw [if_neg (show ¬ (((j - i1 : Nat) : Int) > 9) by omega)]
      by_cases h3 : j = s.size
      · rw [if_pos (show ((j : Int) == (s.size : Int)) = true from beq_iff_eq.2 (by omega)), if_pos (show j = i1 ∨ 9 < j - i1 ∨ j = s.size from .inr (.inr h3))]; rfl
      rw [if_neg (show ¬ (((j : Int) == (s.size : Int)) = true) from fun e => h3 (by have := eq_of_beq e; omega)), if_neg (show ¬ (j = i1 ∨ 9 < j - i1 ∨ j = s.size) by omega)]
      have hnum := hnum h2
      have hdg := hdg (by omega)
      have hfl := findF_le (4 - u) u (bAt s j)
      have hfl' : findU u (bAt s j) ≤ 4 ∧ u ≤ findU u (bAt s j) := by unfold findU; omega
      refine pspan_l2 s t i1 j (by omega) (by omega) hs (numAt s i1 j) (by omega) (by omega) hdg _ (d * N + 60) (by omega) (4 - u) u q (by omega) (by omega) ?_ ?_
      · intro h4
        rw [if_pos h4]; rfl
      · intro v hv hv4 k' hk'
        rw [hv] at hfl' ⊢
        rw [if_neg (by omega)]
        match d, hd, hk' with
        | 0, hd, hk' => omega
        | d + 1, hd, hk' =>
          have hz := usz_le v
          have hm : numAt s i1 j * usz v ≤ 1000000000 * 86400 := Nat.mul_le_mul (by omega) hz.2
          have := pspan_l0 s hs N hN d (v + 1) (j + 1) (t + numAt s i1 j * usz v) F k' (by omega) (by omega) (by omega) (by omega) (by omega) (by
            generalize numAt s i1 j * usz v = m at *
            omega) (by omega)
          rw [this, decide_eq_false (show ¬ (v + 1 = 0) by omega)]
theorem pspan_eq (s : ByteArray) (hs : s.size ≤ 1000000) (k : Nat) (hk : 5 * (s.size + 100) ≤ k) : motleyref27_ParseSpan.f k s = some (psRes s) := by
  unfold motleyref27_ParseSpan.f psRes
  by_cases h0 : s.size = 0
  · rw [if_pos h0]
    obtain ⟨k, rfl⟩ : ∃ j, k = j + 10 := ⟨k - 10, by omega⟩
    simp [motleyref27_ParseSpan.l0, motleyref27_ParseSpan.j1, motleyref27_ParseSpan.j2, motleyref27_ParseSpan.j3, motleyref27_ParseSpan.l1, motleyref27_ParseSpan.j5, motleyref27_ParseSpan.j6, h0, wrap64]
  · rw [if_neg h0]
    have := pspan_l0 s hs _ rfl 4 0 0 0 (s.size + 1) k (by omega) (by omega) (by omega) (by omega) (by omega) (by omega) (by omega)
    rw [List.drop_zero] at this
    refine this.trans ?_
    unfold psR finR
    rfl
end Go.Proofs.YtallfkecjibpmaaDoor.Q
