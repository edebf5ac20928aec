/- The plain law of TapSpans: what it computes is true. -/
import Derived.Test.YtallfkecjibpmaaDoorSpanC
import Derived.Test.YtallfkecjibpmaaDoorM1
set_option linter.unusedVariables false
set_option linter.unusedSimpArgs false
namespace Go.Proofs.YtallfkecjibpmaaDoor.Q
open Go.RowKit Go.Proofs.YtallfkecjibpmaaDoorW.PrintWords Go.Proofs.YtallfkecjibpmaaDoor.G Go.Proofs.YtallfkecjibpmaaDoor.M Go.Proofs.YtallfkecjibpmaaDoor.Nm Go.Lib
theorem w64' {x : Int} (h0 : -9223372036854775808 ≤ x) (h1 : x ≤ 9223372036854775807) : wrap64 x = x := by unfold wrap64; omega
theorem mkB_size (l : List UInt8) : (mkB l).size = l.length := by simp [mkB, ByteArray.size]
theorem mkB_list (l : List UInt8) : (mkB l).data.toList = l := by simp [mkB]
theorem mkB_cat (a b : List UInt8) : mkB a ++ mkB b = mkB (a ++ b) := ba_cat a b
theorem mkB_nil (l : List UInt8) : (mkB l).toList = [] ↔ l = [] := by rw [ByteArray.toList_eq, mkB_list]
theorem pS_any : ∀ (g1 g2 : Nat) (l : List UInt8) (first : Bool) (u t : Nat), l.length < g1 → l.length < g2 → pS g1 l first u t = pS g2 l first u t
  | 0, g2, l, first, u, t, h1, h2 => by omega
  | g1 + 1, 0, l, first, u, t, h1, h2 => by omega
  | g1 + 1, g2 + 1, [], first, u, t, h1, h2 => rfl
  | g1 + 1, g2 + 1, c0 :: l, first, u, t, h1, h2 => by
    rw [pS, pS]
    have hl : (if first = false ∧ c0 = 32 then l else c0 :: l).length ≤ l.length + 1 := by split <;> simp
    generalize (if first = false ∧ c0 = 32 then l else c0 :: l) = l1 at *
    have hd : (l1.dropWhile isDb).length ≤ l1.length := List.Sublist.length_le (List.dropWhile_sublist _)
    split
    · rfl
    · generalize l1.dropWhile isDb = d at *
      cases d with
      | nil => rfl
      | cons c r =>
        simp only
        split
        · rfl
        · rw [List.length_cons] at hd h1 h2
          exact pS_any g1 g2 r false _ _ (by omega) (by omega)
def addL : List UInt8 → List (List UInt8) → List UInt8
  | out, [] => out
  | out, p :: ps => addL (if out = [] then p else out ++ ([32] ++ p)) ps
theorem addL_on : ∀ (ps : List (List UInt8)) (out : List UInt8), out ≠ [] → addL out ps = out ++ runOn false ps
  | [], out, h => by simp [addL, runOn]
  | p :: ps, out, h => by
    rw [addL, if_neg h, addL_on ps _ (by simp), runOn]
    simp
theorem addL_nil (ps : List (List UInt8)) (h : ∀ p ∈ ps, p ≠ []) : addL [] ps = runOn true ps := by
  cases ps with
  | nil => rfl
  | cons p ps =>
    rw [addL, if_pos rfl, addL_on ps p (h p (by simp)), runOn]
    simp
theorem join_on : ∀ ps : List (List UInt8), join ps [32] = runOn true ps
  | [] => rfl
  | [x] => by simp [join, List.intercalate, runOn]
  | x :: y :: r => by
    have ih := join_on (y :: r)
    have e : join (x :: y :: r) [32] = x ++ [32] ++ join (y :: r) [32] := by simp [join, List.intercalate, List.intersperse]
    rw [e, ih]
    simp [runOn]
theorem spL_ne : ∀ (f j n : Nat), ∀ p ∈ spL f j n, p ≠ []
  | 0, j, n, p, hp => by simp [spL] at hp
  | f + 1, j, n, p, hp => by
    unfold spL at hp
    rcases List.mem_append.1 hp with hp | hp
    · split at hp
      · rw [List.mem_singleton] at hp
        rw [hp]; simp
      · cases hp
    · exact spL_ne f (j + 1) _ p hp
def finS (u : List UInt8) : ByteArray × Int := if u = [] then (⟨#[48, 115]⟩, 0) else (mkB u, 0)
theorem spanOut_eq (n : Nat) : (spanOut n, (0 : Int)) = finS (addL [] (spL 4 0 n)) := by
  rw [addL_nil _ (spL_ne 4 0 n), ← join_on]
  unfold spanOut finS
  cases h : spL 4 0 n with
  | nil => rfl
  | cons p ps =>
    have hp := spL_ne 4 0 n p (by rw [h]; simp)
    rw [if_neg (by simp), if_neg]
    rw [join_on, runOn]
    intro e
    simp at e
    exact hp e.1
def GoodL (L : List Int) : Nat → Nat → Nat → Prop
  | 0, _, _ => True
  | f + 1, i, m => rd L (i : Int) = ((m / usz i : Nat) : Int) ∧ GoodL L f (i + 1) (m % usz i)
theorem name_at (i : Nat) (h : i < 4) : (⟨#[100, 104, 109, 115]⟩ : ByteArray).extract i (i + 1) = mkB [unm i] := by
  have : i = 0 ∨ i = 1 ∨ i = 2 ∨ i = 3 := by omega
  rcases this with rfl | rfl | rfl | rfl <;> rfl
theorem rSpan_l0 (L : List Int) (hL : L.length = 4) : ∀ (f i m k : Nat) (out : List UInt8), f + i = 4 → f < k → m ≤ 1000000000 → out.length ≤ 100 * i → GoodL L f i m →
    motleyref27_Span.l0 k L (mkB out) (i : Int) = some (finS (addL out (spL f i m)))
  | 0, i, m, k, out, hi, hk, hm, ho, hg => by
    obtain ⟨k, rfl⟩ : ∃ j, k = j + 1 := ⟨k - 1, by omega⟩
    simp only [motleyref27_Span.l0]
    rw [if_neg (by omega), spL_zero, addL]
    unfold finS
    by_cases h : out = []
    · rw [if_pos ((mkB_nil out).2 h), if_pos h]
    · rw [if_neg (fun e => h ((mkB_nil out).1 e)), if_neg h]
  | f + 1, i, m, k, out, hi, hk, hm, ho, hg => by
    obtain ⟨k, rfl⟩ : ∃ j, k = j + 1 := ⟨k - 1, by omega⟩
    obtain ⟨hr, hg⟩ := hg
    have hmd : m % usz i ≤ m := Nat.mod_le _ _
    have hq : m / usz i ≤ m := Nat.div_le_self _ _
    have hskip := spL_skip f i m
    have htake := spL_take f i m
    obtain ⟨q, hqq⟩ : ∃ q, m / usz i = q := ⟨_, rfl⟩
    rw [hqq] at hr hq hskip htake
    have ih := fun out ho => rSpan_l0 L hL f (i + 1) (m % usz i) k out (by omega) (by omega) (by omega) ho hg
    have e1 : Aside0 (wrap64 ((i : Int) + 1) = ((i + 1 : Nat) : Int)) := ⟨by rw [w64' (by omega) (by omega)]; omega⟩
    have h19 := dec19 (show q ≤ 9223372036854775807 by omega)
    have hW : motleyref01_Written.f ((q : Nat) : Int) = some (mkB (decDigits (q))) := by
      unfold motleyref01_Written.f
      rw [if_pos (by omega), itoa_nonneg]
      rfl
    simp only [motleyref27_Span.l0]
    rw [if_pos (by omega), if_pos (by omega), if_pos (by omega), hr, e1.out, Int.toNat_natCast, Int.toNat_natCast, name_at i (by omega), hW]
    simp only [Option.bind_some]
    by_cases h0 : 0 < q
    case neg =>
      rw [if_pos (by omega), hskip h0]
      exact ih out (by omega)
    rw [if_neg (by omega), htake h0, addL]
    have s1 : (mkB (decDigits (q))).size ≤ 19 := by rw [mkB_size]; exact h19
    have s2 : (mkB [unm i]).size = 1 := rfl
    have s3 : (mkB out).size ≤ 400 := by rw [mkB_size]; omega
    have s4 : (⟨#[32]⟩ : ByteArray) = mkB [32] := rfl
    by_cases hn : out = []
    · rw [if_pos ((mkB_nil out).2 hn), if_pos hn, if_pos (by omega), if_pos (by omega), if_pos (by omega), if_pos (by rw [ByteArray.size_append]; omega), mkB_cat, mkB_cat]
      subst hn
      rw [List.nil_append]
      exact ih _ (by simp only [List.length_append, List.length_singleton]; omega)
    · rw [if_neg (fun e => hn ((mkB_nil out).1 e)), if_neg hn, s4, if_pos (by omega), if_pos (by omega), if_pos (by omega), if_pos (by omega), if_pos (by rw [ByteArray.size_append, ByteArray.size_append]; have : (mkB [32]).size = 1 := rfl; omega), mkB_cat, mkB_cat, mkB_cat, List.append_assoc]
      exact ih _ (by simp only [List.length_append, List.length_singleton]; omega)
theorem rSpan_eq (n : Int) (k : Nat) (hk : 10 ≤ k) : motleyref27_Span.f k n = tap_Span.f n := by
  obtain ⟨k, rfl⟩ : ∃ j, k = j + 1 := ⟨k - 1, by omega⟩
  unfold motleyref27_Span.f tap_Span.f
  simp only [motleyref27_Span.j0]
  by_cases h0 : n < 0
  · rw [if_pos h0, if_pos trivial, if_pos (.inl h0)]
  rw [if_neg h0]
  by_cases h1 : n > 1000000000
  · rw [if_pos (by simpa using h1), if_pos (.inr h1)]
  rw [if_neg (by simpa using h1), if_neg (by omega)]
  obtain ⟨m, rfl⟩ := Int.eq_ofNat_of_zero_le (show 0 ≤ n by omega)
  have hm : m ≤ 1000000000 := by omega
  rw [Int.toNat_natCast, spanOut_eq]
  rw [Int.tdiv_eq_ediv_of_nonneg (by omega), Int.tdiv_eq_ediv_of_nonneg (by omega), Int.tdiv_eq_ediv_of_nonneg (by omega), w64' (x := (m : Int) / 86400) (by omega) (by omega), w64' (x := (m : Int) / 3600) (by omega) (by omega), w64' (x := (m : Int) / 60) (by omega) (by omega), Int.tmod_eq_emod_of_nonneg (by omega), Int.tmod_eq_emod_of_nonneg (by omega), Int.tmod_eq_emod_of_nonneg (by omega)]
  refine rSpan_l0 _ rfl 4 0 m k [] (by omega) (by omega) hm (by simp) ?_
  refine ⟨?_, ?_, ?_, ?_, trivial⟩
  · show (m : Int) / 86400 = ((m / 86400 : Nat) : Int); omega
  · show (m : Int) / 3600 % 24 = ((m % 86400 / 3600 : Nat) : Int); omega
  · show (m : Int) / 60 % 60 = ((m % 86400 % 3600 / 60 : Nat) : Int); omega
  · show (m : Int) % 60 = ((m % 86400 % 3600 % 60 / 1 : Nat) : Int); omega
theorem span_back (n : Nat) (hn : n ≤ 1000000000) : tap_ParseSpan.f (spanOut n) = some ((n : Int), 0) := by
  have hb := fun g hg => pS_back 4 0 n 0 0 g true (by omega) (by omega) hn (by omega) (by omega) hg
  have hjl := join_le (spL 4 0 n) (spL_mem 4 0 n hn)
  have hsl := spL_len 4 0 n
  unfold tap_ParseSpan.f
  by_cases h : spL 4 0 n = []
  · rw [h] at hb
    have h1 := hb 5 (by omega)
    simp only [runOn, pS, Nat.zero_add, Option.some.injEq] at h1
    subst h1
    unfold spanOut
    rw [if_pos h, if_pos (by decide)]
    decide
  · have hs : (spanOut n).data.toList = runOn true (spL 4 0 n) := by
      unfold spanOut
      rw [if_neg h, mkB_list, join_on]
    have hz : (spanOut n).size = (runOn true (spL 4 0 n)).length := by rw [size_len, hs]
    have hz2 : (spanOut n).size ≤ 84 := by rw [hz, ← join_on]; omega
    have hz3 : (spanOut n).size ≠ 0 := by
      rw [hz]
      cases h2 : spL 4 0 n with
      | nil => exact absurd h2 h
      | cons p ps =>
        have hp := spL_ne 4 0 n p (by rw [h2]; simp)
        have := List.length_pos_iff.2 hp
        simp only [runOn, if_true, List.nil_append, List.length_append]
        omega
    rw [if_pos (by omega)]
    unfold psRes psR
    rw [if_neg hz3, hs, pS_any _ ((spanOut n).size + 10) _ _ _ _ (by rw [← hz]; omega) (by rw [← hz]; omega), hb _ (by omega)]
    simp only [Nat.zero_add]
    rw [if_neg (by omega)]
end Go.Proofs.YtallfkecjibpmaaDoor.Q
namespace Go.Proofs.YtallfkecjibpmaaDoor.Pure
open Go.RowKit Go.Proofs.YtallfkecjibpmaaDoor.M Go.Proofs.YtallfkecjibpmaaDoor.Q Go.Proofs.YtallfkecjibpmaaDoor.G
theorem TapSpans : M.motleylaw27_TapSpans.Pure := by
  intro n hw
  refine ⟨11, ?_⟩
  unfold motleylaw27_TapSpans.f
  rw [rSpan_eq n 11 (by omega)]
  unfold tap_Span.f
  by_cases h : n < 0 ∨ 1000000000 < n
  · rw [if_pos h]
    simp [motleylaw27_TapSpans.j0, motleylaw27_known.f]
  · rw [if_neg h]
    obtain ⟨m, rfl⟩ := Int.eq_ofNat_of_zero_le (show 0 ≤ n by omega)
    have hb := span_back m (by omega)
    rw [Int.toNat_natCast]
    simp [motleylaw27_TapSpans.j0, motleylaw27_known.f, hb]
end Go.Proofs.YtallfkecjibpmaaDoor.Pure
