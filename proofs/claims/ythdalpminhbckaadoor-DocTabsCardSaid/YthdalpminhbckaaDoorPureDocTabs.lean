/- The plain law of DocTabs: what it computes is true. -/
import Derived.Test.YthdalpminhbckaaDoorPDoc
import Derived.Test.YthdalpminhbckaaDoorPRunes
import Derived.Test.YthdalpminhbckaaDoorExpand
import Derived.Test.YthdalpminhbckaaDoorM4
set_option linter.unusedVariables false
set_option linter.unusedSimpArgs false
namespace Go.Proofs.YthdalpminhbckaaDoor.Q
open Go.RowKit Go.Proofs.YthdalpminhbckaaDoorW.PrintWords Go.Proofs.YthdalpminhbckaaDoor.Tx Go.Proofs.YthdalpminhbckaaDoor.G Go.Proofs.YthdalpminhbckaaDoor.M Go.Lib Go.Proofs.YthdalpminhbckaaDoor.Tabs

theorem drop_c (l : List Int) (i : Nat) (h : i < l.length) : l.drop i = l.getD i 0 :: l.drop (i + 1) := by
  rw [List.getD_eq_getElem?_getD, List.getElem?_eq_getElem h]
  exact List.drop_eq_getElem_cons h
theorem take_one (l : List Int) (i : Nat) (h : i < l.length) : (l.take (i + 1)).drop i = [l.getD i 0] := by
  rw [List.take_succ_eq_append_getElem h, List.drop_append, List.drop_of_length_le (by rw [List.length_take]; omega), List.length_take, show i - min i l.length = 0 by omega, List.getD_eq_getElem?_getD, List.getElem?_eq_getElem h]
  rfl
theorem mk_cat (a b : List UInt8) : mk a ++ mk b = mk (a ++ b) := by apply ba_ext; simp [mk]
theorem b32 : (⟨#[32]⟩ : ByteArray) = mk [32] := rfl
theorem b10 : (⟨#[10]⟩ : ByteArray) = mk [10] := rfl
theorem b9 : (⟨#[9]⟩ : ByteArray) = mk [9] := rfl
theorem b0 : (⟨#[]⟩ : ByteArray) = mk [] := rfl
def sizeT (u : List UInt8) : ByteArray × Int := if 4096 < u.length then (⟨#[]⟩, 3) else (mk u, 0)
theorem tm_nat (a b : Nat) : Int.tmod (a : Int) (b : Int) = ((a % b : Nat) : Int) := by rw [Int.tmod_eq_emod_of_nonneg (by omega)]; rfl
theorem write_one (c : Int) (hc : chr c) (k : Nat) (hk : 2 ≤ k) : motleyref02_Write.f k [c] = some (mk (encodeRune c)) := by
  rw [Write_eq [c] (by intro x hx; rw [List.mem_singleton] at hx; rw [hx]; exact hc) (by simp) k (by simp; omega), enc_cons, enc_nil, List.append_nil]
theorem rExpand_l1 (l : List Int) (tab N : Nat) (col i : Int) (hN : N ≤ 16) : ∀ (n j k K : Nat) (out : List UInt8), j + n = N → K = k + n + 1 → out.length + n ≤ 1000000 →
    motleyref25_Expand.l1 K (tab : Int) (mk out) col l i (N : Int) (j : Int) = motleyref25_Expand.l0 k (tab : Int) (mk (out ++ List.replicate n 32)) (wrap64 (col + (N : Int))) l (wrap64 (i + 1))
  | 0, j, k, K, out, hj, hK, ho => by
    subst hK
    simp only [motleyref25_Expand.l1]
    rw [if_neg (by omega), List.replicate_zero, List.append_nil]
  | n + 1, j, k, K, out, hj, hK, ho => by
    obtain ⟨K', hK'⟩ : ∃ K', K' = k + n + 1 := ⟨_, rfl⟩
    obtain rfl : K = K' + 1 := by omega
    have e1 : Aside0 (wrap64 ((j : Int) + 1) = ((j + 1 : Nat) : Int)) := ⟨by rw [wrap64_id (by omega) (by omega)]; omega⟩
    simp only [motleyref25_Expand.l1]
    rw [if_pos (by omega), if_pos (by rw [mk_size]; omega), b32, mk_cat, e1.out, rExpand_l1 l tab N col i hN n (j + 1) k K' (out ++ [32]) (by omega) hK' (by simp; omega), List.replicate_succ, List.append_assoc]
    rfl
theorem rExpand_l0 (l : List Int) (hc : allChr l) (hl : l.length ≤ 4096) (tab : Nat) (h1 : 1 ≤ tab) (h2 : tab ≤ 16) : ∀ (d i col k : Nat) (out : List UInt8), i + d = l.length → 30 * d + 10 ≤ k → out.length ≤ 16 * i → col ≤ 17 * i →
    motleyref25_Expand.l0 k (tab : Int) (mk out) (col : Int) l (i : Int) = some (sizeT (out ++ enc (expR tab (l.drop i) col)))
  | 0, i, col, k, out, hi, hk, ho, hcl => by
    obtain ⟨k, rfl⟩ : ∃ j, k = j + 1 := ⟨k - 1, by omega⟩
    simp only [motleyref25_Expand.l0]
    rw [if_neg (by omega), mk_size, List.drop_of_length_le (by omega)]
    simp only [expR, enc_nil, List.append_nil]
    unfold sizeT
    by_cases h : 4096 < out.length
    · rw [if_pos (by omega), if_pos h]
    · rw [if_neg (by omega), if_neg h]
  | d + 1, i, col, k, out, hi, hk, ho, hcl => by
    obtain ⟨k, rfl⟩ : ∃ j, k = j + 1 := ⟨k - 1, by omega⟩
    have hlt : i < l.length := by omega
    have hch := allChr_at hc i hlt
    have hen := encodeRune_length (l.getD i 0)
    have e1 : Aside0 (wrap64 ((i : Int) + 1) = ((i + 1 : Nat) : Int)) := ⟨by rw [wrap64_id (by omega) (by omega)]; omega⟩
    simp only [motleyref25_Expand.l0]
    rw [if_pos (by omega), if_pos (by omega), rd_nat, drop_c l i hlt, e1.out, Int.toNat_natCast, Int.toNat_natCast, take_one l i hlt]
    generalize l.getD i 0 = c at *
    by_cases h9 : c = 9
    · subst h9
      have hml : col % tab < tab := Nat.mod_lt _ (by omega)
      have e2 : Aside0 (wrap64 ((tab : Int) - Int.tmod (col : Int) (tab : Int)) = ((tab - col % tab : Nat) : Int)) := ⟨by rw [tm_nat, wrap64_id (by omega) (by omega)]; omega⟩
      obtain ⟨m, hm⟩ : ∃ m, tab - col % tab = m := ⟨_, rfl⟩
      have hm2 : m ≤ 16 := by omega
      obtain ⟨j, rfl⟩ : ∃ j, k = j + m + 1 := ⟨k - m - 1, by omega⟩
      have e3 : Aside0 (wrap64 ((col : Int) + (m : Int)) = ((col + m : Nat) : Int)) := ⟨by rw [wrap64_id (by omega) (by omega)]; omega⟩
      rw [if_pos rfl, if_neg (by omega), e2.out, hm]
      have step := rExpand_l1 l tab m (col : Int) (i : Int) hm2 m 0 j (j + m + 1) out (by omega) rfl (by omega)
      rw [show ((0 : Nat) : Int) = 0 from rfl] at step
      rw [step, e3.out, e1.out, rExpand_l0 l hc hl tab h1 h2 d (i + 1) (col + m) j _ (by omega) (by omega) (by simp; omega) (by omega), expR, if_neg (by omega), if_pos rfl, hm, enc_append, enc_rep, List.append_assoc]
    rw [if_neg h9]
    by_cases h10 : c = 10
    · subst h10
      rw [if_pos rfl, if_pos (by rw [mk_size]; omega), b10, mk_cat]
      have ih := rExpand_l0 l hc hl tab h1 h2 d (i + 1) 0 k (out ++ [10]) (by omega) (by omega) (by simp; omega) (by omega)
      rw [show ((0 : Nat) : Int) = 0 from rfl] at ih
      rw [ih, expR, if_pos rfl, enc_cons, e10, List.append_assoc]
    · have e3 : Aside0 (wrap64 ((col : Int) + 1) = ((col + 1 : Nat) : Int)) := ⟨by rw [wrap64_id (by omega) (by omega)]; omega⟩
      rw [if_neg h10, if_pos (by omega), if_pos (by omega), write_one c hch k (by omega)]
      simp only [Option.bind_some]
      rw [if_pos (by rw [mk_size, mk_size]; omega), mk_cat, e3.out, rExpand_l0 l hc hl tab h1 h2 d (i + 1) (col + 1) k _ (by omega) (by omega) (by simp; omega) (by omega), expR, if_neg h10, if_neg h9, enc_cons, List.append_assoc]
theorem uR_a (tab : Nat) (r : List Int) (col b : Nat) (h : (col + 1) % tab = 0) : unR tab (32 :: r) col b = (if 1 < b + 1 then 9 else 32) :: unR tab r (col + 1) 0 := by rw [unR, if_neg (by omega), if_pos rfl, if_pos h]
theorem uR_b (tab : Nat) (r : List Int) (col b : Nat) (h : ¬ (col + 1) % tab = 0) : unR tab (32 :: r) col b = unR tab r (col + 1) (b + 1) := by rw [unR, if_neg (by omega), if_pos rfl, if_neg h]
theorem take_back (a : List UInt8) (b : Nat) : (mk (a ++ List.replicate b 32)).extract 0 a.length = mk a := by
  apply ba_ext
  rw [Lib.extract_data, mk_list, mk_list, List.drop_zero, Nat.sub_zero, List.take_left]
theorem rUnexpand_l0 (l : List Int) (hc : allChr l) (hl : l.length ≤ 4096) (tab : Nat) (h1 : 1 ≤ tab) (h2 : tab ≤ 16) : ∀ (d i col b k : Nat) (pre : List UInt8), i + d = l.length → 10 * d + 10 ≤ k → pre.length + b ≤ 4 * i → col ≤ 17 * i →
    motleyref25_Unexpand.l0 k (tab : Int) (mk (pre ++ List.replicate b 32)) (col : Int) (b : Int) l (i : Int) = some (mk (pre ++ enc (unR tab (l.drop i) col b)), 0)
  | 0, i, col, b, k, pre, hi, hk, ho, hcl => by
    obtain ⟨k, rfl⟩ : ∃ j, k = j + 1 := ⟨k - 1, by omega⟩
    simp only [motleyref25_Unexpand.l0]
    rw [if_neg (by omega), List.drop_of_length_le (by omega), unR, enc_rep]
  | d + 1, i, col, b, k, pre, hi, hk, ho, hcl => by
    obtain ⟨k, rfl⟩ : ∃ j, k = j + 4 := ⟨k - 4, by omega⟩
    have hlt : i < l.length := by omega
    have hch := allChr_at hc i hlt
    have hen := encodeRune_length (l.getD i 0)
    have ih := rUnexpand_l0 l hc hl tab h1 h2 d (i + 1)
    have e1 : Aside0 (wrap64 ((i : Int) + 1) = ((i + 1 : Nat) : Int)) := ⟨by rw [wrap64_id (by omega) (by omega)]; omega⟩
    have e2 : Aside0 (wrap64 ((b : Int) + 1) = ((b + 1 : Nat) : Int)) := ⟨by rw [wrap64_id (by omega) (by omega)]; omega⟩
    have e3 : Aside0 (wrap64 ((col : Int) + 1) = ((col + 1 : Nat) : Int)) := ⟨by rw [wrap64_id (by omega) (by omega)]; omega⟩
    have hml : col % tab < tab := Nat.mod_lt _ (by omega)
    have e4 : Aside0 (wrap64 ((col : Int) + wrap64 ((tab : Int) - Int.tmod (col : Int) (tab : Int))) = ((col + (tab - col % tab) : Nat) : Int)) := ⟨by rw [tm_nat, wrap64_id (x := (tab : Int) - _) (by omega) (by omega), wrap64_id (by omega) (by omega)]; omega⟩
    -- behind the character: no row of blanks is open
    have plain : ∀ (u : List UInt8) (col' : Nat), u.length ≤ 4 * (i + 1) → col' ≤ 17 * (i + 1) → l.getD i 0 ≠ 32 → ∀ k, 10 * d + 12 ≤ k → motleyref25_Unexpand.j3 k (tab : Int) (mk u) (col' : Int) 0 l (i : Int) = some (mk (u ++ enc (unR tab (l.drop (i + 1)) col' 0)), 0) := by
      intro u col' hu hcl' h32 k hk
      obtain ⟨k, rfl⟩ : ∃ j, k = j + 2 := ⟨k - 2, by omega⟩
      have g := ih col' 0 k u (by omega) (by omega) (by omega) hcl'
      rw [List.replicate_zero, List.append_nil, show ((0 : Nat) : Int) = 0 from rfl] at g
      simp only [motleyref25_Unexpand.j3, motleyref25_Unexpand.j4]
      rw [if_neg (by omega), e1.out, rd_nat, g]
      by_cases hz : Int.tmod (col' : Int) (tab : Int) = 0
      · rw [if_pos hz, if_pos (by omega), if_pos (by omega), if_neg (by simpa using h32)]
      · rw [if_neg hz, if_neg (by simp)]
    simp only [motleyref25_Unexpand.l0, motleyref25_Unexpand.j2]
    rw [if_pos (by omega), if_pos (by omega), rd_nat, drop_c l i hlt, e1.out, Int.toNat_natCast, Int.toNat_natCast, take_one l i hlt, write_one _ hch _ (by omega)]
    simp only [Option.bind_some]
    by_cases h32 : l.getD i 0 = 32
    · clear plain
      rw [h32] at hch hen ⊢
      rw [if_pos rfl, if_pos (by omega), if_pos (by omega), if_pos (by omega), if_pos (by rw [mk_size, mk_size]; simp only [List.length_append, List.length_replicate]; omega), if_pos (by omega), mk_cat, if_neg (by omega), if_neg (by omega), e2.out, e3.out, e32, List.append_assoc, show List.replicate b (32 : UInt8) ++ [32] = List.replicate (b + 1) 32 from (List.replicate_succ').symm]
      simp only [motleyref25_Unexpand.j3, motleyref25_Unexpand.j4]
      rw [if_neg (by omega), tm_nat, rd_nat, h32, e1.out]
      by_cases hz : (col + 1) % tab = 0
      · rw [if_pos (by omega), if_pos (by omega), if_pos (by omega), if_pos (beq_self_eq_true _), uR_a _ _ _ _ hz]
        by_cases hb : 1 ≤ b
        · have e5 : Aside0 (wrap64 (((mk (pre ++ List.replicate (b + 1) 32)).size : Int) - ((b + 1 : Nat) : Int)) = ((pre.length : Nat) : Int)) := ⟨by rw [mk_size, List.length_append, List.length_replicate, wrap64_id (by omega) (by omega)]; omega⟩
          rw [if_pos (by omega), e5.out, if_pos (by omega), if_pos (by rw [mk_size, List.length_append]; omega), Int.toNat_natCast, take_back, if_pos (by rw [mk_size]; omega), b9, mk_cat, if_pos (by omega)]
          have g := ih (col + 1) 0 (k + 1 - 1) (pre ++ [9]) (by omega) (by omega) (by simp; omega) (by omega)
          rw [List.replicate_zero, List.append_nil, show ((0 : Nat) : Int) = 0 from rfl, Nat.add_sub_cancel] at g
          rw [g, enc_cons, e9, List.append_assoc]
        · obtain rfl : b = 0 := by omega
          rw [if_neg (by omega), if_neg (by omega)]
          have g := ih (col + 1) 0 (k + 1 - 1) (pre ++ [32]) (by omega) (by omega) (by simp; omega) (by omega)
          rw [List.replicate_zero, List.append_nil, show ((0 : Nat) : Int) = 0 from rfl, Nat.add_sub_cancel] at g
          rw [show List.replicate (0 + 1) (32 : UInt8) = [32] from rfl, g, enc_cons, e32, List.append_assoc]
      · rw [if_neg (by omega), if_neg (by simp), uR_b _ _ _ _ hz]
        exact ih (col + 1) (b + 1) _ pre (by omega) (by omega) (by omega) (by omega)
    · rw [if_neg h32, if_pos (by omega), if_pos (by omega), if_pos (by omega), if_pos (by rw [mk_size, mk_size]; simp only [List.length_append, List.length_replicate]; omega), if_pos (by omega), mk_cat]
      by_cases h10 : l.getD i 0 = 10
      · have g := plain (pre ++ List.replicate b 32 ++ encodeRune (l.getD i 0)) 0 (by simp only [List.length_append, List.length_replicate]; omega) (by omega) h32 (k + 2) (by omega)
        rw [show ((0 : Nat) : Int) = 0 from rfl] at g
        rw [if_pos h10, g, h10, unR, if_pos rfl, enc_append, enc_rep, enc_cons]
        simp
      · rw [if_neg h10]
        by_cases h9 : l.getD i 0 = 9
        · have g := plain (pre ++ List.replicate b 32 ++ encodeRune (l.getD i 0)) (col + (tab - col % tab)) (by simp only [List.length_append, List.length_replicate]; omega) (by omega) h32 (k + 2) (by omega)
          rw [if_pos h9, if_neg (by omega), e4.out, g, h9, unR, if_neg (by omega), if_neg (by omega), if_pos rfl, enc_append, enc_rep, enc_cons]
          simp
        · have g := plain (pre ++ List.replicate b 32 ++ encodeRune (l.getD i 0)) (col + 1) (by simp only [List.length_append, List.length_replicate]; omega) (by omega) h32 (k + 2) (by omega)
          rw [if_neg h9, e3.out, g, unR, if_neg h10, if_neg h32, if_neg h9, enc_append, enc_rep, enc_cons]
          simp

/-- What both sides give. -/
def exRes (s : ByteArray) (t : Int) : ByteArray × Int := if checkI s = 0 then (if t < 1 ∨ t > 16 then (⟨#[]⟩, 1) else sizeT (enc (expR t.toNat (runes s.data.toList) 0))) else (⟨#[]⟩, checkI s)
def unRes (s : ByteArray) (t : Int) : ByteArray × Int := if checkI s = 0 then (if t < 1 ∨ t > 16 then (⟨#[]⟩, 1) else (mk (enc (unR t.toNat (runes s.data.toList) 0 0)), 0)) else (⟨#[]⟩, checkI s)
theorem rExpand_eq (s : ByteArray) (t : Int) (k : Nat) (hk : 200000 ≤ k) : motleyref25_Expand.f k s t = some (exRes s t) := by
  unfold motleyref25_Expand.f exRes
  rw [rAsked_eq s k (by omega)]
  simp only [Option.bind_some]
  by_cases h0 : checkI s = 0
  case neg => rw [if_neg h0, if_neg h0]
  rw [if_pos h0, if_pos h0]
  obtain ⟨k, rfl⟩ : ∃ j, k = j + 1 := ⟨k - 1, by omega⟩
  simp only [motleyref25_Expand.j0]
  by_cases h1 : t < 1
  · rw [if_pos h1, if_pos trivial, if_pos (.inl h1)]
  rw [if_neg h1]
  by_cases h2 : t > 16
  · rw [if_pos (by simpa using h2), if_pos (.inr h2)]
  rw [if_neg (by simpa using h2), if_neg (by omega), Runes_eq s h0 k (by omega)]
  simp only [Option.bind_some]
  obtain ⟨tab, rfl⟩ := Int.eq_ofNat_of_zero_le (show 0 ≤ t by omega)
  have hr := runes_le h0
  have g := rExpand_l0 (runes s.data.toList) (runes_all _) hr tab (by omega) (by omega) (runes s.data.toList).length 0 0 k [] (by omega) (by omega) (by simp) (by omega)
  rw [show ((0 : Nat) : Int) = 0 from rfl, List.drop_zero, List.nil_append] at g
  rw [Int.toNat_natCast]
  exact g
theorem dExpand_eq (s : ByteArray) (t : Int) : doc_Expand.f s t = some (exRes s t) := by
  unfold doc_Expand.f exRes
  rw [show K.doc_asked.f s = some (checkI s) from dAsked_eq s]
  simp only
  by_cases h0 : checkI s = 0
  case neg => rw [if_neg h0, if_neg h0]
  rw [if_pos h0, if_pos h0, if_pos (check0 h0).1]
  by_cases h1 : t < 1 ∨ t > 16
  · rw [if_pos h1, if_pos h1]
  rw [if_neg h1, if_neg h1]
  unfold sizeT
  by_cases h2 : 4096 < (enc (expR t.toNat (runes s.data.toList) 0)).length
  · rw [if_pos h2, if_pos h2]
  · rw [if_neg h2, if_neg h2]; rfl
theorem rUnexpand_eq (s : ByteArray) (t : Int) (k : Nat) (hk : 200000 ≤ k) : motleyref25_Unexpand.f k s t = some (unRes s t) := by
  unfold motleyref25_Unexpand.f unRes
  rw [rAsked_eq s k (by omega)]
  simp only [Option.bind_some]
  by_cases h0 : checkI s = 0
  case neg => rw [if_neg h0, if_neg h0]
  rw [if_pos h0, if_pos h0]
  obtain ⟨k, rfl⟩ : ∃ j, k = j + 1 := ⟨k - 1, by omega⟩
  simp only [motleyref25_Unexpand.j0]
  by_cases h1 : t < 1
  · rw [if_pos h1, if_pos trivial, if_pos (.inl h1)]
  rw [if_neg h1]
  by_cases h2 : t > 16
  · rw [if_pos (by simpa using h2), if_pos (.inr h2)]
  rw [if_neg (by simpa using h2), if_neg (by omega), Runes_eq s h0 k (by omega)]
  simp only [Option.bind_some]
  obtain ⟨tab, rfl⟩ := Int.eq_ofNat_of_zero_le (show 0 ≤ t by omega)
  have hr := runes_le h0
  have g := rUnexpand_l0 (runes s.data.toList) (runes_all _) hr tab (by omega) (by omega) (runes s.data.toList).length 0 0 0 k [] (by omega) (by omega) (by simp) (by omega)
  rw [show ((0 : Nat) : Int) = 0 from rfl, List.drop_zero, List.nil_append, List.nil_append] at g
  rw [Int.toNat_natCast]
  exact g
def lines10 (s : ByteArray) : List ByteArray := Lib.splitB ⟨#[10]⟩ 0 (Lib.countB s ⟨#[10]⟩) s
theorem lines10_data (s : ByteArray) : (lines10 s).map (·.data.toList) = Sl.segs 10 s.data.toList := Sl.splitB_one s 10
theorem segs_bd : ∀ (l : List UInt8), (∀ x ∈ Sl.segs 10 l, x.length ≤ l.length) ∧ (Sl.segs 10 l).length ≤ l.length + 1
  | [] => by simp [Sl.segs]
  | c :: r => by
    obtain ⟨h1, h2⟩ := segs_bd r
    obtain ⟨x, t, hx⟩ : ∃ x t, Sl.segs 10 r = x :: t := by
      cases h : Sl.segs 10 r with
      | nil => exact absurd h (Sl.segs_ne 10 r)
      | cons x t => exact ⟨x, t, rfl⟩
    rw [hx] at h1 h2
    unfold Sl.segs
    rw [hx]
    split
    · refine ⟨fun y hy => ?_, by simp at h2 ⊢; omega⟩
      rcases List.mem_cons.1 hy with rfl | hy
      · simp
      · have := h1 y hy; simp; omega
    · refine ⟨fun y hy => ?_, by simp at h2 ⊢; omega⟩
      rcases List.mem_cons.1 hy with rfl | hy
      · have := h1 x (by simp); simp; omega
      · have := h1 y (by simp [hy]); simp; omega
theorem dUnexpand_l0 (L : List ByteArray) (hL : ∀ x ∈ L, x.size ≤ 4096) (hlen : L.length ≤ 5000) (tab : Nat) (h1 : 1 ≤ tab) (h2 : tab ≤ 16) :
    ∀ (d i k : Nat), i + d = L.length → d < k →
      doc_Unexpand.l0 k (tab : Int) ((L.take i).map fun x => mk (enc (unL tab (runes x.data.toList) 0 0))) L (L.length : Int) (i : Int) = (strings_Join.f (L.map fun x => mk (enc (unL tab (runes x.data.toList) 0 0))) (⟨#[10]⟩ : ByteArray)).bind fun t => some (t, 0)
  | 0, i, k, hi, hk => by
    obtain ⟨k, rfl⟩ : ∃ j, k = j + 1 := ⟨k - 1, by omega⟩
    simp only [doc_Unexpand.l0]
    rw [if_neg (by omega), List.take_of_length_le (by omega)]
  | d + 1, i, k, hi, hk => by
    obtain ⟨k, rfl⟩ : ∃ j, k = j + 1 := ⟨k - 1, by omega⟩
    have hlt : i < L.length := by omega
    have e1 : Aside0 (wrap64 ((i : Int) + 1) = ((i + 1 : Nat) : Int)) := ⟨by rw [wrap64_id (by omega) (by omega)]; omega⟩
    have hx : rdOf ByteArray.empty L (i : Int) = L[i] := by
      unfold rdOf
      rw [Int.toNat_natCast, List.getD_eq_getElem?_getD, List.getElem?_eq_getElem hlt]; rfl
    have hz := hL _ (List.getElem_mem hlt)
    simp only [doc_Unexpand.l0]
    rw [if_pos (by omega), if_pos (by omega), if_pos (by omega), hx, e1.out]
    have hu : doc_untabbed.f L[i] (tab : Int) = some (mk (enc (unL tab (runes L[i].data.toList) 0 0))) := by
      unfold doc_untabbed.f
      rw [if_pos ⟨hz, by omega, by omega⟩, Int.toNat_natCast]
      rfl
    rw [hu]
    simp only [Option.bind_some]
    rw [if_pos (by rw [List.length_map, List.length_take]; omega)]
    have ht : ((L.take i).map fun x => mk (enc (unL tab (runes x.data.toList) 0 0))) ++ [mk (enc (unL tab (runes L[i].data.toList) 0 0))] = (L.take (i + 1)).map fun x => mk (enc (unL tab (runes x.data.toList) 0 0)) := by
      rw [List.take_succ_eq_append_getElem hlt, List.map_append]; rfl
    rw [ht]
    exact dUnexpand_l0 L hL hlen tab h1 h2 d (i + 1) k (by omega) (by omega)
theorem un_size {s : ByteArray} (h0 : checkI s = 0) (tab : Nat) : (enc (unR tab (runes s.data.toList) 0 0)).length ≤ 4096 := by
  have h1 := unR_len tab (runes s.data.toList) 0 0
  have h2 := check0 h0
  rw [enc_runes _ _ (Nat.le_refl _) h2.2, ← size_len] at h1
  omega
theorem dUnexpand_eq (s : ByteArray) (t : Int) (k : Nat) (hk : 200000 ≤ k) : doc_Unexpand.f k s t = some (unRes s t) := by
  unfold doc_Unexpand.f unRes
  rw [show doc_asked.f s = some (checkI s) from dAsked_eq s]
  simp only [Option.bind_some]
  by_cases h0 : checkI s = 0
  case neg => rw [if_neg h0, if_neg h0]
  rw [if_pos h0, if_pos h0]
  obtain ⟨k, rfl⟩ : ∃ j, k = j + 1 := ⟨k - 1, by omega⟩
  simp only [doc_Unexpand.j0]
  by_cases h1 : t < 1
  · rw [if_pos h1, if_pos trivial, if_pos (.inl h1)]
  rw [if_neg h1]
  by_cases h2 : t > 16
  · rw [if_pos (by simpa using h2), if_pos (.inr h2)]
  have hs := (check0 h0).1
  have hsp : strings_Split.f s (⟨#[10]⟩ : ByteArray) = some (lines10 s) := by unfold strings_Split.f; rw [if_pos ⟨by omega, rfl⟩]; rfl
  rw [if_neg (by simpa using h2), if_neg (by omega), hsp]
  simp only [Option.bind_some]
  obtain ⟨tab, rfl⟩ := Int.eq_ofNat_of_zero_le (show 0 ≤ t by omega)
  obtain ⟨b1, b2⟩ := segs_bd s.data.toList
  rw [← lines10_data, ← size_len] at b2
  rw [List.length_map] at b2
  have hL : ∀ x ∈ lines10 s, x.size ≤ 4096 := fun x hx => by
    have hm : x.data.toList ∈ Sl.segs 10 s.data.toList := by rw [← lines10_data]; exact List.mem_map_of_mem hx
    have := b1 _ hm
    rw [← size_len, ← size_len] at this; omega
  have g := dUnexpand_l0 (lines10 s) hL (by omega) tab (by omega) (by omega) (lines10 s).length 0 k (by omega) (by omega)
  rw [List.take_zero, List.map_nil, show ((0 : Nat) : Int) = 0 from rfl] at g
  have hcs := runes_all s.data.toList
  have he : enc (runes s.data.toList) = s.data.toList := enc_runes _ _ (Nat.le_refl _) (check0 h0).2
  have hj : Lib.join (((lines10 s).map fun x => mk (enc (unL tab (runes x.data.toList) 0 0))).map (·.data.toList)) [10] = enc (unR tab (runes s.data.toList) 0 0) := by
    rw [← un_text tab (runes s.data.toList) hcs, he, ← lines10_data, List.map_map, List.map_map]
    congr 1
  have hjf : strings_Join.f ((lines10 s).map fun x => mk (enc (unL tab (runes x.data.toList) 0 0))) (⟨#[10]⟩ : ByteArray) = some (mk (enc (unR tab (runes s.data.toList) 0 0))) := by
    unfold strings_Join.f
    rw [show (⟨#[10]⟩ : ByteArray).data.toList = [10] from rfl, hj]
    have := un_size h0 tab
    rw [if_pos ⟨by rw [List.length_map]; omega, by omega⟩]
    first | done | rfl
  rw [hjf] at g
  rw [Int.toNat_natCast]
  exact g
theorem expR_chr (tab : Nat) : ∀ (cs : List Int) (col : Nat), (∀ c ∈ cs, chr c) → ∀ c ∈ expR tab cs col, chr c
  | [], _, _, c, h => by cases h
  | d :: r, col, hc, c, h => by
    have hr : ∀ c ∈ r, chr c := fun y hy => hc y (by simp [hy])
    unfold expR at h
    split at h
    · rcases List.mem_cons.1 h with rfl | h
      · unfold chr; omega
      · exact expR_chr tab r _ hr c h
    · split at h
      · rcases List.mem_append.1 h with h | h
        · have := (List.mem_replicate.1 h).2; subst this; unfold chr; omega
        · exact expR_chr tab r _ hr c h
      · rcases List.mem_cons.1 h with rfl | h
        · exact hc _ (by simp)
        · exact expR_chr tab r _ hr c h
/-- Blanks made tabs are blanks again. -/
theorem tabs_back (s : ByteArray) (t : Int) (h0 : checkI s = 0) (ht : ¬ (t < 1 ∨ t > 16)) (h : (exRes s t).1.toList = s.toList) (h3 : (exRes s t).2 = 0) : exRes (unRes s t).1 t = (s, 0) := by
  unfold exRes at h h3
  rw [if_pos h0, if_neg ht] at h h3
  unfold sizeT at h h3
  have hlen : ¬ 4096 < (enc (expR t.toNat (runes s.data.toList) 0)).length := by
    intro hc
    rw [if_pos hc] at h3
    cases h3
  rw [if_neg hlen] at h
  simp only at h
  rw [toList_mk, toList_data] at h
  have hcs := runes_all s.data.toList
  have he : enc (runes s.data.toList) = s.data.toList := enc_runes _ _ (Nat.le_refl _) (check0 h0).2
  have hex : ∀ c ∈ expR t.toNat (runes s.data.toList) 0, chr c := by
    exact expR_chr _ _ 0 hcs
  have hno : ∀ c ∈ runes s.data.toList, c ≠ 9 := by
    have hr : expR t.toNat (runes s.data.toList) 0 = runes s.data.toList := by
      have h5 := (runes_enc _ hex).1
      rw [h] at h5
      exact h5.symm
    rw [← hr]
    exact exp_no t.toNat (runes s.data.toList) 0
  have hu : (unRes s t).1 = mk (enc (unR t.toNat (runes s.data.toList) 0 0)) := by unfold unRes; rw [if_pos h0, if_neg ht]
  have huc := unR_chr t.toNat (runes s.data.toList) 0 0 hcs
  have hus := un_size h0 t.toNat
  have hck : checkI (unRes s t).1 = 0 := by
    rw [hu]
    unfold checkI
    rw [mk_size, mk_list, (runes_enc _ huc).2, if_neg (by omega), if_pos rfl]
  unfold exRes
  rw [if_pos hck, if_neg ht, hu, mk_list, (runes_enc _ huc).1]
  have hb := exp_un t.toNat (by omega) (runes s.data.toList) 0 0 hno (.inr rfl)
  rw [List.replicate_zero, List.nil_append, Nat.add_zero] at hb
  unfold sizeT
  rw [hb, he, if_neg (by rw [← size_len]; have := (check0 h0).1; omega), mk_of]
end Go.Proofs.YthdalpminhbckaaDoor.Q
namespace Go.Proofs.YthdalpminhbckaaDoor.Pure
open Go.RowKit Go.Proofs.YthdalpminhbckaaDoorW.PrintWords Go.Proofs.YthdalpminhbckaaDoor.Tx Go.Proofs.YthdalpminhbckaaDoor.G Go.Proofs.YthdalpminhbckaaDoor.M Go.Proofs.YthdalpminhbckaaDoor.Q Go.Lib
theorem DocTabs : M.motleylaw25_DocTabs.Pure := by
  intro s t hs ht
  obtain ⟨k, hk⟩ : ∃ k : Nat, k = 1000000 := ⟨_, rfl⟩
  refine ⟨k + 2, ?_⟩
  unfold motleylaw25_DocTabs.f motleylaw25_over.f
  rw [dKnown_eq (k + 2) (by omega), rExpand_eq s t (k + 2) (by omega), rUnexpand_eq s t (k + 2) (by omega), dExpand_eq, dUnexpand_eq s t (k + 2) (by omega)]
  simp only [Option.bind_some, if_true, bne_self_eq_false]
  split
  · rfl
  simp only [motleylaw25_DocTabs.j0, motleylaw25_DocTabs.j1]
  rw [dKnown_eq k (by omega)]
  simp only [Option.bind_some]
  rw [if_neg (by simp)]
  by_cases h3 : (exRes s t).2 = 0
  case neg => rw [if_neg h3, if_pos trivial]
  rw [if_pos h3]
  by_cases he : (exRes s t).1.toList = s.toList
  case neg => rw [if_pos (by simpa using he)]
  rw [if_neg (by simpa using he)]
  have h0 : checkI s = 0 := by
    apply Classical.byContradiction
    intro h
    unfold exRes at h3
    rw [if_neg h] at h3
    exact h h3
  have h1 : ¬ (t < 1 ∨ t > 16) := by
    intro h
    unfold exRes at h3
    rw [if_pos h0, if_pos h] at h3
    cases h3
  rw [dExpand_eq, tabs_back s t h0 h1 he h3]
  simp only [Option.bind_some, if_true]
end Go.Proofs.YthdalpminhbckaaDoor.Pure
