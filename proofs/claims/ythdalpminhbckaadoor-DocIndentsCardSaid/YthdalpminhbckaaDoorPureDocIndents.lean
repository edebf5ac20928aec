/- The plain law of DocIndents: what it computes is true. -/
import Derived.Test.YthdalpminhbckaaDoorPDoc
import Derived.Test.YthdalpminhbckaaDoorIndent
import Derived.Test.YthdalpminhbckaaDoorM3
set_option linter.unusedVariables false
set_option linter.unusedSimpArgs false
namespace Go.Proofs.YthdalpminhbckaaDoor.Ind
open Go.Lib Go.Proofs.YthdalpminhbckaaDoor.Sl
theorem join_nil' (sep : List UInt8) : join [] sep = [] := rfl
theorem join_one' (x sep : List UInt8) : join [x] sep = x := by simp [join, List.intercalate]
theorem join_two (x y sep : List UInt8) (r : List (List UInt8)) : join (x :: y :: r) sep = x ++ sep ++ join (y :: r) sep := by simp [join, List.intercalate, List.intersperse]
/-- The lines of a text as the reference has them; what stands in the present one is cur. -/
def rl : List UInt8 → List UInt8 → List (List UInt8)
  | [], cur => if cur = [] then [] else [cur]
  | c :: r, cur => if c = 10 then cur :: rl r [] else rl r (cur ++ [c])
def nl : List UInt8 → Bool
  | [] => false
  | [c] => c == 10
  | _ :: d :: r => nl (d :: r)
def pre (cur : List UInt8) : List (List UInt8) → List (List UInt8)
  | [] => [cur]
  | x :: r => (cur ++ x) :: r
theorem segs_ne' (c : UInt8) : ∀ l, ∃ x r, segs c l = x :: r
  | [] => ⟨[], [], rfl⟩
  | b :: l => by
    obtain ⟨x, r, h⟩ := segs_ne' c l
    unfold segs
    rw [h]
    split
    · exact ⟨_, _, rfl⟩
    · exact ⟨_, _, rfl⟩
theorem rl_segs : ∀ (l cur : List UInt8), rl l cur ++ (if (l = [] ∧ cur = []) ∨ nl l = true then [[]] else []) = pre cur (segs 10 l)
  | [], cur => by
    by_cases h : cur = [] <;> simp [rl, segs, pre, h, nl]
  | c :: r, cur => by
    obtain ⟨x, t, hx⟩ := segs_ne' 10 r
    by_cases hc : c = 10
    · subst hc
      have ih := rl_segs r []
      rw [hx] at ih
      simp only [rl, if_true, segs, hx, pre, List.append_nil, List.cons_append]
      congr 1
      have e : ((10 :: r = [] ∧ cur = []) ∨ nl (10 :: r) = true) ↔ ((r = [] ∧ ([] : List UInt8) = []) ∨ nl r = true) := by
        cases r with
        | nil => simp [nl]
        | cons d r => simp [nl]
      have e2 : (if (10 :: r = [] ∧ cur = []) ∨ nl (10 :: r) = true then [[]] else []) = (if (r = [] ∧ ([] : List UInt8) = []) ∨ nl r = true then [([] : List UInt8)] else []) := by simp only [e]
      rw [e2, ih]
      rfl
    · have ih := rl_segs r (cur ++ [c])
      rw [hx] at ih
      simp only [rl, if_neg hc, segs, hx, pre]
      have e : ((c :: r = [] ∧ cur = []) ∨ nl (c :: r) = true) ↔ ((r = [] ∧ cur ++ [c] = []) ∨ nl r = true) := by
        cases r with
        | nil => simp [nl, hc]
        | cons d r => simp [nl]
      simp only [e, ih, pre, List.append_assoc, List.singleton_append]
def blnk (x : List UInt8) : Bool := x.all (· == 32)
def lead (x : List UInt8) : Nat := x.length - (x.dropWhile (· == 32)).length
def leastL (xs : List (List UInt8)) (n : Int) : Int := xs.foldl (fun n x => if blnk x = true then n else if n < 0 ∨ (lead x : Int) < n then (lead x : Int) else n) n
def cutL (n : Nat) (x : List UInt8) : List UInt8 := if blnk x = true then [] else x.drop n
/-- The lines written, as the reference does. -/
def puts (n : Nat) (e : Bool) : List (List UInt8) → List UInt8
  | [] => []
  | [x] => cutL n x ++ (if e then [10] else [])
  | x :: y :: r => cutL n x ++ ([10] ++ puts n e (y :: r))
theorem puts_join (n : Nat) : ∀ xs : List (List UInt8), puts n false xs = join (xs.map (cutL n)) [10]
  | [] => rfl
  | [x] => by simp [puts, join_one']
  | x :: y :: r => by
    rw [puts, puts_join n (y :: r), show (x :: y :: r).map (cutL n) = cutL n x :: cutL n y :: r.map (cutL n) from rfl, join_two]
    simp
theorem cutN_nil (n : Nat) : cutL n [] = [] := rfl
theorem puts_end (n : Nat) : ∀ xs : List (List UInt8), puts n true xs = join ((xs ++ [[]]).map (cutL n)) [10]
  | [] => by simp [puts, join_one', cutN_nil]
  | [x] => by simp [puts, join_two, join_one', cutN_nil]
  | x :: y :: r => by
    rw [puts, puts_end n (y :: r), show ((x :: y :: r ++ [[]] : List (List UInt8))).map (cutL n) = cutL n x :: cutL n y :: (r ++ [[]] : List (List UInt8)).map (cutL n) from rfl, join_two]
    simp
theorem least_end (xs : List (List UInt8)) (n : Int) : leastL (xs ++ [[]]) n = leastL xs n := by
  unfold leastL
  rw [List.foldl_append]
  rfl
theorem ref_lines (l : List UInt8) : segs 10 l = rl l [] ++ (if l = [] ∨ nl l = true then [[]] else []) := by
  have := rl_segs l []
  obtain ⟨x, t, hx⟩ := segs_ne' 10 l
  rw [hx] at this ⊢
  simpa [pre] using this.symm
theorem least_eq (l : List UInt8) (n : Int) : leastL (segs 10 l) n = leastL (rl l []) n := by
  rw [ref_lines]
  split
  · rw [least_end]
  · rw [List.append_nil]
theorem out_eq (l : List UInt8) (n : Nat) : join ((segs 10 l).map (cutL n)) [10] = puts n (nl l) (rl l []) := by
  cases h : nl l with
  | true =>
    rw [ref_lines, if_pos (.inr h), puts_end]
  | false =>
    rw [puts_join, ref_lines]
    by_cases e : l = []
    · subst e; rfl
    · rw [if_neg (by rintro (x | x); exact e x; rw [h] at x; cases x), List.append_nil]
/-- All are blanks exactly if nothing is left of them. -/
theorem drop_all (l : List UInt8) : l.dropWhile (· == 32) = [] ↔ blnk l = true := by
  induction l with
  | nil => simp [blnk]
  | cons c l ih =>
    unfold blnk at ih ⊢
    by_cases h : c = 32
    · subst h; simp [ih]
    · simp [h]
theorem blank_rev (l : List UInt8) : blnk l.reverse = blnk l := by unfold blnk; rw [List.all_reverse]
theorem trim_nil (l : List UInt8) : Lib.trimB l 32 = [] ↔ blnk l = true := by
  unfold Lib.trimB Lib.trimLeftB Lib.trimRightB
  constructor
  · intro h
    rw [drop_all, blank_rev] at h
    -- what is left of the turned text, turned: all blanks; then it is empty
    have h2 : (l.reverse.dropWhile (· == 32)) = [] := by
      rcases hq : l.reverse.dropWhile (· == 32) with _ | ⟨c, r⟩
      · rfl
      · exfalso
        rw [hq] at h
        have hc : c ≠ 32 := by
          have := List.head_dropWhile_not (p := (· == (32 : UInt8))) (l := l.reverse) (by rw [hq]; simp)
          simp only [hq, List.head_cons] at this
          simpa using this
        unfold blnk at h
        simp at h
        exact hc h.1
    rw [drop_all, blank_rev] at h2
    exact h2
  · intro h
    have : l.reverse.dropWhile (· == 32) = [] := by rw [drop_all, blank_rev]; exact h
    rw [this]
    rfl
theorem lead_le (l : List UInt8) : lead l ≤ l.length := by unfold lead; omega
theorem lead_step {c : UInt8} (r : List UInt8) (h : c = 32) : lead (c :: r) = lead r + 1 := by
  subst h
  unfold lead
  have : (List.dropWhile (· == (32 : UInt8)) r).length ≤ r.length := List.Sublist.length_le (List.dropWhile_sublist _)
  simp
  omega
theorem lead_stop {c : UInt8} (r : List UInt8) (h : c ≠ 32) : lead (c :: r) = 0 := by
  unfold lead
  simp [h]
/-- The text's last byte ends a line. -/
theorem nl_last : ∀ l : List UInt8, nl l = (match l.getLast? with | some c => c == 10 | none => false)
  | [] => rfl
  | [c] => rfl
  | c :: d :: r => by
    rw [nl, nl_last (d :: r), List.getLast?_cons_cons]
end Go.Proofs.YthdalpminhbckaaDoor.Ind
namespace Go.Proofs.YthdalpminhbckaaDoor.Q
open Go.RowKit Go.Proofs.YthdalpminhbckaaDoorW.PrintWords Go.Proofs.YthdalpminhbckaaDoor.Tx Go.Proofs.YthdalpminhbckaaDoor.G Go.Proofs.YthdalpminhbckaaDoor.M Go.Lib Go.Proofs.YthdalpminhbckaaDoor.Ind

theorem blankB_eq (s : ByteArray) : blankB s = blnk s.data.toList := by
  unfold blankB
  rw [Bool.eq_iff_iff, decide_eq_true_eq]
  exact trim_nil _
theorem leadB_eq (s : ByteArray) : leadB s = (lead s.data.toList : Int) := by
  unfold leadB lead Lib.trimLeftB
  rw [size_len]
  have : (List.dropWhile (· == (32 : UInt8)) s.data.toList).length ≤ s.data.toList.length := List.Sublist.length_le (List.dropWhile_sublist _)
  omega
theorem leastB_eq : ∀ (xs : List ByteArray) (n : Int), leastB xs n = leastL (xs.map (·.data.toList)) n
  | [], n => rfl
  | x :: xs, n => by
    show leastB xs (stepB n x) = _
    rw [leastB_eq xs, List.map_cons]
    unfold leastL
    rw [List.foldl_cons]
    congr 1
    unfold stepB
    rw [blankB_eq, leadB_eq]
theorem cutB_eq (n : Nat) (s : ByteArray) : (cutB n s).data.toList = cutL n s.data.toList := by
  unfold cutB cutL
  rw [blankB_eq]
  split
  · rfl
  · rw [ext_drop]
theorem lines10_data (s : ByteArray) : (lines10 s).map (·.data.toList) = Sl.segs 10 s.data.toList := Sl.splitB_one s 10
theorem indOut_eq (s : ByteArray) : indOut s = puts (indN s).toNat (nl s.data.toList) (rl s.data.toList []) := by
  unfold indOut
  rw [← out_eq, ← lines10_data, List.map_map, List.map_map]
  congr 1
  apply List.map_congr_left
  intro x _
  exact cutB_eq _ x
theorem indN_eq (s : ByteArray) : indN s = if leastL (rl s.data.toList []) (-1) < 0 then 0 else leastL (rl s.data.toList []) (-1) := by
  unfold indN
  rw [leastB_eq, lines10_data, least_eq]
theorem ext_mk (s : ByteArray) (a b : Nat) : s.extract a b = mk ((s.data.toList.drop a).take (b - a)) := by
  apply ba_ext
  rw [Lib.extract_data, mk_list]
theorem lines_l0 (s : ByteArray) (hs : s.size ≤ 4096) : ∀ (d at_ i k : Nat) (acc : List ByteArray), i ≤ s.size → at_ ≤ i → s.size - i = d → d < k → acc.length ≤ i →
    motleyref25_lines.l0 k s acc (at_ : Int) (i : Int) = some (acc ++ (rl (s.data.toList.drop i) ((s.data.toList.drop at_).take (i - at_))).map mk)
  | d, at_, i, k, acc, hi, ha, hd, hk, hl => by
    obtain ⟨k, rfl⟩ : ∃ j, k = j + 1 := ⟨k - 1, by omega⟩
    simp only [motleyref25_lines.l0]
    have hlen := size_len s
    by_cases h : i < s.size
    case neg =>
      have hnil : s.data.toList.drop i = [] := List.drop_eq_nil_of_le (by omega)
      rw [if_neg (by omega), hnil]
      simp only [rl]
      by_cases h2 : at_ < s.size
      · have hne : (s.data.toList.drop at_).take (i - at_) ≠ [] := by
          intro e
          have := congrArg List.length e
          rw [List.length_take, List.length_drop] at this
          simp at this
          omega
        rw [if_pos (by omega), if_pos (by omega), if_pos (by omega), if_pos (by omega), if_neg hne, Int.toNat_natCast, ext_mk]
        congr 4
        obtain rfl : i = s.size := by omega
        rfl
      · have he : (s.data.toList.drop at_).take (i - at_) = [] := by
          rw [List.drop_eq_nil_of_le (by omega), List.take_nil]
        rw [if_neg (by omega), if_pos he]
        simp
    have hlt : i < s.data.toList.length := by omega
    have hdrop : s.data.toList.drop i = s.data.toList.getD i 0 :: s.data.toList.drop (i + 1) := by
      rw [List.getD_eq_getElem?_getD, List.getElem?_eq_getElem hlt]
      exact List.drop_eq_getElem_cons hlt
    have e1 : wrap64 ((i : Int) + 1) = ((i + 1 : Nat) : Int) := by rw [wrap64_id (by omega) (by omega)]; omega
    rw [if_pos (by omega), if_pos (by omega), bt_getD, e1, hdrop]
    simp only [rl]
    cases d with
    | zero => omega
    | succ d =>
      by_cases hc : s.data.toList.getD i 0 = 10
      · rw [if_pos (by rw [hc]; rfl), if_pos (by omega), if_pos (by omega), if_pos (by omega), if_pos (by omega), if_pos hc, Int.toNat_natCast, Int.toNat_natCast]
        rw [lines_l0 s hs d (i + 1) (i + 1) k _ (by omega) (by omega) (by omega) (by omega) (by simp; omega), ext_mk]
        simp
      · have hn : ¬ ((s.data.toList.getD i 0).toNat : Int) = 10 := fun h => hc (UInt8.toNat_inj.1 (by have h2 : (10 : UInt8).toNat = 10 := rfl; omega))
        rw [if_neg hn, if_neg hc, lines_l0 s hs d at_ (i + 1) k acc (by omega) (by omega) (by omega) (by omega) (by omega)]
        congr 4
        have : i + 1 - at_ = (i - at_) + 1 := by omega
        rw [this, List.take_add_one, List.getElem?_drop, show at_ + (i - at_) = i by omega, List.getD_eq_getElem?_getD, List.getElem?_eq_getElem hlt]
        rfl
theorem lines_eq (s : ByteArray) (hs : s.size ≤ 4096) (k : Nat) (hk : 4100 ≤ k) : motleyref25_lines.f k s = some ((rl s.data.toList []).map mk) := by
  unfold motleyref25_lines.f
  have := lines_l0 s hs s.size 0 0 k [] (by omega) (by omega) (by omega) (by omega) (by simp)
  simpa using this
theorem rBlank_l0 (s : ByteArray) (hs : s.size ≤ 140737488351232) : ∀ (d i k : Nat), i ≤ s.size → s.size - i = d → d < k → motleyref25_isBlank.l0 k s (i : Int) = some (blnk (s.data.toList.drop i))
  | d, i, k, hi, hd, hk => by
    obtain ⟨k, rfl⟩ : ∃ j, k = j + 1 := ⟨k - 1, by omega⟩
    simp only [motleyref25_isBlank.l0]
    have hlen := size_len s
    by_cases h : i < s.size
    case neg =>
      rw [if_neg (by omega), List.drop_eq_nil_of_le (by omega)]; rfl
    have hlt : i < s.data.toList.length := by omega
    have hdrop : s.data.toList.drop i = s.data.toList.getD i 0 :: s.data.toList.drop (i + 1) := by
      rw [List.getD_eq_getElem?_getD, List.getElem?_eq_getElem hlt]
      exact List.drop_eq_getElem_cons hlt
    have e1 : wrap64 ((i : Int) + 1) = ((i + 1 : Nat) : Int) := by rw [wrap64_id (by omega) (by omega)]; omega
    rw [if_pos (by omega), if_pos (by omega), bt_getD, e1, hdrop]
    cases d with
    | zero => omega
    | succ d =>
      by_cases hc : s.data.toList.getD i 0 = 32
      · rw [if_pos (by rw [hc]; rfl), rBlank_l0 s hs d (i + 1) k (by omega) (by omega) (by omega), hc]
        simp [blnk]
      · have hn : ¬ ((s.data.toList.getD i 0).toNat : Int) = 32 := fun h => hc (UInt8.toNat_inj.1 (by have h2 : (32 : UInt8).toNat = 32 := rfl; omega))
        rw [if_neg hn]
        unfold blnk
        rw [List.all_cons, show (s.data.toList.getD i 0 == 32) = false by simpa using hc]
        rfl
theorem rBlank_eq (s : ByteArray) (hs : s.size ≤ 4096) (k : Nat) (hk : 4100 ≤ k) : motleyref25_isBlank.f k s = some (blnk s.data.toList) := by
  unfold motleyref25_isBlank.f
  have := rBlank_l0 s (by omega) s.size 0 k (by omega) (by omega) (by omega)
  simpa using this
theorem rd_mk (Y : List (List UInt8)) (i : Nat) (h : i < Y.length) : rdOf ByteArray.empty (Y.map mk) (i : Int) = mk (Y.getD i []) := by
  unfold rdOf
  rw [Int.toNat_natCast, List.getD_eq_getElem?_getD, List.getElem?_map, List.getElem?_eq_getElem h, List.getD_eq_getElem?_getD, List.getElem?_eq_getElem h]
  rfl
/-- One line's part in the leastL number. -/
def stepL (n : Int) (x : List UInt8) : Int := if blnk x = true then n else if n < 0 ∨ (lead x : Int) < n then (lead x : Int) else n
theorem least_cons (x : List UInt8) (Y : List (List UInt8)) (n : Int) : leastL (x :: Y) n = leastL Y (stepL n x) := rfl
theorem not_all_lt : ∀ (x : List UInt8), blnk x = false → lead x < x.length
  | [], h => by simp [blnk] at h
  | c :: r, h => by
    by_cases hc : c = 32
    · have : blnk r = false := by unfold blnk at h ⊢; subst hc; simpa using h
      have ih := not_all_lt r this
      rw [lead_step r hc, List.length_cons]
      omega
    · rw [lead_stop r hc, List.length_cons]; omega
theorem rIndent_l1 (s : ByteArray) (Y : List (List UInt8)) (n : Int) (i : Nat) (hi : i < Y.length) (hY : ∀ x ∈ Y, x.length ≤ 4096) (hlen : Y.length ≤ 5000) (hb : blnk (Y.getD i []) = false) (res : Option (ByteArray × Int × Int)) (K : Nat)
    (hn : ∀ k, K ≤ k → motleyref25_Indent.l0 k s (Y.map mk) (stepL n (Y.getD i [])) ((i + 1 : Nat) : Int) = res) :
    ∀ (d j k : Nat), j + lead ((Y.getD i []).drop j) = lead (Y.getD i []) → j < (Y.getD i []).length → blnk ((Y.getD i []).drop j) = false → (Y.getD i []).length - j = d → K + d + 5 ≤ k → motleyref25_Indent.l1 k s (Y.map mk) n (i : Int) (j : Int) = res
  | d, j, k, hj, hjl, hbj, hd, hk => by
    obtain ⟨k, rfl⟩ : ∃ m, k = m + 1 := ⟨k - 1, by omega⟩
    simp only [motleyref25_Indent.l1]
    have hx : Y.getD i [] ∈ Y := by rw [List.getD_eq_getElem?_getD, List.getElem?_eq_getElem hi]; exact List.getElem_mem hi
    have hxl := hY _ hx
    rw [rd_mk Y i hi, mk_size, List.length_map, if_pos (by omega), if_pos (by omega), if_pos (by omega), if_pos (by omega), bt_getD, mk_list]
    have e1 : Aside0 (wrap64 ((j : Int) + 1) = ((j + 1 : Nat) : Int)) := ⟨by rw [wrap64_id (by omega) (by omega)]; omega⟩
    have e2 : Aside0 (wrap64 ((i : Int) + 1) = ((i + 1 : Nat) : Int)) := ⟨by rw [wrap64_id (by omega) (by omega)]; omega⟩
    rw [e1.out, e2.out]
    have hst : stepL n (Y.getD i []) = if n < 0 ∨ (lead (Y.getD i []) : Int) < n then (lead (Y.getD i []) : Int) else n := by unfold stepL; rw [hb, if_neg (by simp)]
    generalize hxx : Y.getD i [] = x at *
    have hdrop : x.drop j = x.getD j 0 :: x.drop (j + 1) := by
      rw [List.getD_eq_getElem?_getD, List.getElem?_eq_getElem hjl]
      exact List.drop_eq_getElem_cons hjl
    by_cases hc : x.getD j 0 = 32
    · rw [if_pos (by rw [hc]; rfl)]
      have hb2 : blnk (x.drop (j + 1)) = false := by rw [hdrop, hc] at hbj; unfold blnk at hbj ⊢; simpa using hbj
      have hl2 : j + 1 + lead (x.drop (j + 1)) = lead x := by rw [hdrop, lead_step _ hc] at hj; omega
      have hj2 : j + 1 < x.length := by
        rcases Nat.lt_or_ge (j + 1) x.length with h | h
        · exact h
        · rw [List.drop_eq_nil_of_le h] at hb2; simp [blnk] at hb2
      cases d with
      | zero => omega
      | succ d =>
        have := rIndent_l1 s Y n i hi hY hlen (by rw [hxx]; exact hb) res K (by rw [hxx]; exact hn) d (j + 1) k (by rw [hxx]; exact hl2) (by rw [hxx]; exact hj2) (by rw [hxx]; exact hb2) (by rw [hxx]; omega) (by omega)
        exact this
    · have hnn : ¬ ((x.getD j 0).toNat : Int) = 32 := fun h => hc (UInt8.toNat_inj.1 (by have h2 : (32 : UInt8).toNat = 32 := rfl; omega))
      rw [if_neg hnn]
      have hjx : j = lead x := by rw [hdrop, lead_stop _ hc] at hj; omega
      subst hjx
      have hgo := hn k (by omega)
      rw [hst] at hgo
      by_cases h1 : n < 0
      · rw [if_pos h1]; rw [if_pos (.inl h1)] at hgo; exact hgo
      rw [if_neg h1]
      by_cases h2 : (lead x : Int) < n
      · rw [if_pos h2]; rw [if_pos (.inr h2)] at hgo; exact hgo
      · rw [if_neg h2]; rw [if_neg (by rintro (h | h); exact h1 h; exact h2 h)] at hgo; exact hgo
theorem rIndent_l0 (s : ByteArray) (Y : List (List UInt8)) (hY : ∀ x ∈ Y, x.length ≤ 4096) (hlen : Y.length ≤ 5000) (res : Option (ByteArray × Int × Int)) (K : Nat) (n0 : Int)
    (hn : ∀ k, K ≤ k → motleyref25_Indent.l2 k s (Y.map mk) (mx (leastL Y n0) 0) (⟨#[]⟩ : ByteArray) 0 = res) :
    ∀ (d i : Nat) (n : Int), i ≤ Y.length → Y.length - i = d → leastL (Y.drop i) n = leastL Y n0 → ∀ k, K + 10000 + 5000 * d ≤ k → motleyref25_Indent.l0 k s (Y.map mk) n (i : Int) = res
  | d, i, n, hi, hd, hl, k, hk => by
    obtain ⟨k, rfl⟩ : ∃ m, k = m + 1 := ⟨k - 1, by omega⟩
    simp only [motleyref25_Indent.l0]
    rw [List.length_map]
    by_cases h : i < Y.length
    case neg =>
      rw [if_neg (by omega)]
      rw [List.drop_eq_nil_of_le (by omega)] at hl
      have hl2 : n = leastL Y n0 := hl
      rw [hl2]
      exact hn k (by omega)
    have hx : Y.getD i [] ∈ Y := by rw [List.getD_eq_getElem?_getD, List.getElem?_eq_getElem h]; exact List.getElem_mem h
    have hxl := hY _ hx
    have hdrop : Y.drop i = Y.getD i [] :: Y.drop (i + 1) := by
      rw [List.getD_eq_getElem?_getD, List.getElem?_eq_getElem h]
      exact List.drop_eq_getElem_cons h
    rw [hdrop, least_cons] at hl
    have e1 : Aside0 (wrap64 ((i : Int) + 1) = ((i + 1 : Nat) : Int)) := ⟨by rw [wrap64_id (by omega) (by omega)]; omega⟩
    rw [if_pos (by omega), if_pos (by omega), rd_mk Y i h, rBlank_eq _ (by rw [mk_size]; exact hxl) k (by omega), mk_list, e1.out]
    simp only [Option.bind_some]
    cases d with
    | zero => omega
    | succ d =>
      have ih := rIndent_l0 s Y hY hlen res K n0 hn d (i + 1) (stepL n (Y.getD i [])) (by omega) (by omega) hl
      rcases (Bool.eq_false_or_eq_true (blnk (Y.getD i []))) with hb | hb
      · rw [if_pos hb]
        have hs0 : stepL n (Y.getD i []) = n := by unfold stepL; rw [if_pos hb]
        rw [hs0] at ih
        exact ih k (by omega)
      · rw [if_neg (by rw [hb]; simp)]
        refine rIndent_l1 s Y n i h hY hlen hb res (K + 10000 + 5000 * d) ih (Y.getD i []).length 0 k (by rw [List.drop_zero]; omega) ?_ (by rw [List.drop_zero]; exact hb) (by omega) (by omega)
        have := not_all_lt _ hb
        omega
theorem puts_one (n : Nat) (e : Bool) (x : List UInt8) : puts n e [x] = cutL n x ++ (if e then [10] else []) := rfl
theorem mk_app (a : ByteArray) (l m : List UInt8) : a ++ mk l ++ mk m = a ++ mk (l ++ m) := by apply ba_ext; simp [mk]
theorem mk_app1 (a : ByteArray) (m : List UInt8) : a ++ mk m = a ++ mk m := rfl
set_option maxRecDepth 100000 in
theorem rIndent_l2 (s : ByteArray) (hs0 : s.size ≤ 4096) (Y : List (List UInt8)) (hY : ∀ x ∈ Y, x.length ≤ 4096) (hlen : Y.length ≤ 5000) (n : Nat) (hn : n ≤ 5000) (hle : ∀ x ∈ Y, blnk x = false → n ≤ x.length) (hne : Y ≠ [] → 0 < s.size) :
    ∀ (d i k : Nat) (out : ByteArray), i ≤ Y.length → Y.length - i = d → d + 5000 ≤ k → out.size ≤ 5000 * i → motleyref25_Indent.l2 k s (Y.map mk) (n : Int) out (i : Int) = some (out ++ mk (puts n (nl s.data.toList) (Y.drop i)), (n : Int), 0)
  | d, i, k, out, hi, hd, hk, ho => by
    obtain ⟨k, rfl⟩ : ∃ m, k = m + 1 := ⟨k - 1, by omega⟩
    simp only [motleyref25_Indent.l2]
    rw [List.length_map]
    by_cases h : i < Y.length
    case neg =>
      rw [if_neg (by omega), List.drop_eq_nil_of_le (by omega)]
      congr 2
      apply ba_ext
      simp [puts, mk]
    have hx : Y.getD i [] ∈ Y := by rw [List.getD_eq_getElem?_getD, List.getElem?_eq_getElem h]; exact List.getElem_mem h
    have hxl := hY _ hx
    have hlx := hle _ hx
    have hdrop : Y.drop i = Y.getD i [] :: Y.drop (i + 1) := by
      rw [List.getD_eq_getElem?_getD, List.getElem?_eq_getElem h]
      exact List.drop_eq_getElem_cons h
    have hpos : 0 < s.size := hne (by intro e; rw [e] at h; simp at h)
    have hsl := size_len s
    have e1 : Aside0 (wrap64 ((i : Int) + 1) = ((i + 1 : Nat) : Int)) := ⟨by rw [wrap64_id (by omega) (by omega)]; omega⟩
    have e3 : Aside0 (wrap64 ((s.size : Int) - 1) = ((s.size - 1 : Nat) : Int)) := ⟨by rw [wrap64_id (by omega) (by omega)]; omega⟩
    have hlast : (bt s ((s.size - 1 : Nat) : Int) = 10) ↔ nl s.data.toList = true := by
      rw [bt_getD, nl_last, List.getLast?_eq_getElem?, ← hsl, List.getD_eq_getElem?_getD, List.getElem?_eq_getElem (by omega)]
      simp only [Option.getD_some, beq_iff_eq]
      constructor
      · intro h
        exact UInt8.toNat_inj.1 (by have h2 : (10 : UInt8).toNat = 10 := rfl; omega)
      · intro h
        rw [h]; rfl
    rw [if_pos (by omega), if_pos (by omega), rd_mk Y i h, rBlank_eq _ (by rw [mk_size]; exact hxl) k (by omega), mk_list, e1.out, e3.out, Int.toNat_natCast, mk_size]
    simp only [Option.bind_some]
    have hext : (mk (Y.getD i [])).extract n (Y.getD i []).length = mk ((Y.getD i []).drop n) := by
      rw [ext_mk, mk_list, List.take_of_length_le (by rw [List.length_drop]; omega)]
    have hez : (mk ((Y.getD i []).drop n)).size ≤ 4096 := by rw [mk_size, List.length_drop]; omega
    rw [hext]
    -- what stands behind the line
    have tail : ∀ (o : ByteArray) (c : List UInt8), o.size + 1 ≤ 5000 * (i + 1) → cutL n (Y.getD i []) = c → o = out ++ mk c →
        (if ((i + 1 : Nat) : Int) < (Y.length : Int) then (if o.size + 1 ≤ 9223372036854775807 then motleyref25_Indent.l2 k s (Y.map mk) (n : Int) (o ++ (⟨#[10]⟩ : ByteArray)) ((i + 1 : Nat) : Int) else none) else (if (s.size : Int) > 0 then (if 0 ≤ ((s.size - 1 : Nat) : Int) then (if ((s.size - 1 : Nat) : Int) < (s.size : Int) then (if bt s ((s.size - 1 : Nat) : Int) = 10 then (if o.size + 1 ≤ 9223372036854775807 then motleyref25_Indent.l2 k s (Y.map mk) (n : Int) (o ++ (⟨#[10]⟩ : ByteArray)) ((i + 1 : Nat) : Int) else none) else motleyref25_Indent.l2 k s (Y.map mk) (n : Int) o ((i + 1 : Nat) : Int)) else none) else none) else motleyref25_Indent.l2 k s (Y.map mk) (n : Int) o ((i + 1 : Nat) : Int))) = some (out ++ mk (puts n (nl s.data.toList) (Y.drop i)), (n : Int), 0) := by
      intro o c hoz hcn hoc
      cases d with
      | zero => omega
      | succ d =>
        have ih := fun o2 h2 => rIndent_l2 s hs0 Y hY hlen n hn hle hne d (i + 1) k o2 (by omega) (by omega) (by omega) h2
        have ten : (⟨#[10]⟩ : ByteArray) = mk [10] := rfl
        have tsz : (o ++ (⟨#[10]⟩ : ByteArray)).size = o.size + 1 := by rw [ByteArray.size_append]; rfl
        by_cases hm : i + 1 < Y.length
        · have hd2 : Y.drop (i + 1) = Y.getD (i + 1) [] :: Y.drop (i + 2) := by
            rw [List.getD_eq_getElem?_getD, List.getElem?_eq_getElem hm]
            exact List.drop_eq_getElem_cons hm
          rw [if_pos (by omega), if_pos (by omega), ih _ (by rw [tsz]; exact hoz), hdrop, hd2]
          simp only [puts]
          rw [hcn, hoc, ten]
          congr 2
          apply ba_ext
          simp [mk]
        · have hd2 : Y.drop (i + 1) = [] := List.drop_eq_nil_of_le (by omega)
          rw [if_neg (by omega), if_pos (by omega), if_pos (by omega), if_pos (by omega)]
          by_cases hq : nl s.data.toList = true
          · rw [if_pos (hlast.2 hq), if_pos (by omega), ih _ (by rw [tsz]; exact hoz), hdrop, hd2, puts_one, hcn, hoc, ten, hq]
            congr 2
            apply ba_ext
            simp [mk, puts]
          · rw [if_neg (fun h => hq (hlast.1 h)), ih _ (by omega), hdrop, hd2, puts_one, hcn, hoc, if_neg hq]
            congr 2
            apply ba_ext
            simp [mk, puts]
    rcases (Bool.eq_false_or_eq_true (blnk (Y.getD i []))) with hb | hb
    · rw [if_pos hb]
      exact tail out [] (by omega) (by unfold cutL; rw [if_pos hb]) (by apply ba_ext; simp [mk])
    · have hl3 := hlx hb
      rw [if_neg (by rw [hb]; simp), if_pos (by omega), if_pos (by omega), if_pos (by omega)]
      exact tail (out ++ mk ((Y.getD i []).drop n)) ((Y.getD i []).drop n) (by rw [ByteArray.size_append]; omega) (by unfold cutL; rw [if_neg (by rw [hb]; simp)]) rfl
theorem segs_bd : ∀ (l : List UInt8), (∀ x ∈ Sl.segs 10 l, x.length ≤ l.length) ∧ (Sl.segs 10 l).length ≤ l.length + 1
  | [] => by simp [Sl.segs]
  | c :: r => by
    obtain ⟨h1, h2⟩ := segs_bd r
    obtain ⟨x, t, hx⟩ := Ind.segs_ne' 10 r
    rw [hx] at h1 h2
    unfold Sl.segs
    rw [hx]
    split
    · refine ⟨fun y hy => ?_, by simp at h2 ⊢; omega⟩
      rcases List.mem_cons.1 hy with rfl | hy
      · simp
      · have := h1 y hy; simp; omega
    · refine ⟨fun y hy => ?_, by simp at h2 ⊢; omega⟩
      rcases List.mem_cons.1 hy with rfl | hy
      · have := h1 x (by simp); simp; omega
      · have := h1 y (by simp [hy]); simp; omega
def sumL : List (List UInt8) → Nat
  | [] => 0
  | x :: r => x.length + sumL r
theorem rl_bd : ∀ (l cur : List UInt8), (∀ x ∈ rl l cur, x.length ≤ l.length + cur.length) ∧ (rl l cur).length ≤ l.length + 1 ∧ sumL (rl l cur) ≤ l.length + cur.length
  | [], cur => by
    unfold rl
    split
    · simp [sumL]
    · simp [sumL]
  | c :: r, cur => by
    unfold rl
    split
    · obtain ⟨h1, h2, h3⟩ := rl_bd r []
      refine ⟨fun y hy => ?_, by simp; omega, by simp only [sumL, List.length_cons, List.length_nil] at h3 ⊢; omega⟩
      rcases List.mem_cons.1 hy with rfl | hy
      · simp
      · have := h1 y hy; simp at this ⊢; omega
    · obtain ⟨h1, h2, h3⟩ := rl_bd r (cur ++ [c])
      refine ⟨fun y hy => ?_, by simp; omega, by simp at h3 ⊢; omega⟩
      have := h1 y hy
      simp at this ⊢
      omega
theorem cutL_len (n : Nat) (x : List UInt8) : (cutL n x).length ≤ x.length := by
  unfold cutL
  split
  · simp
  · rw [List.length_drop]; omega
theorem puts_len (n : Nat) (e : Bool) : ∀ Y : List (List UInt8), (puts n e Y).length ≤ sumL Y + Y.length
  | [] => by simp [puts]
  | [x] => by
    have := cutL_len n x
    cases e <;> simp [puts, sumL] <;> omega
  | x :: y :: r => by
    have h1 := cutL_len n x
    have h2 := puts_len n e (y :: r)
    simp only [puts, sumL, List.length_append, List.length_cons, List.length_nil] at h2 ⊢
    omega
theorem leastL_keep : ∀ (Y : List (List UInt8)) (n : Int), 0 ≤ n → 0 ≤ leastL Y n ∧ leastL Y n ≤ n
  | [], n, h => ⟨h, Int.le_refl _⟩
  | x :: Y, n, h => by
    have h1 : 0 ≤ stepL n x ∧ stepL n x ≤ n := by
      unfold stepL
      repeat' split
      all_goals omega
    have h2 := leastL_keep Y (stepL n x) h1.1
    rw [least_cons]
    omega
theorem leastL_le : ∀ (Y : List (List UInt8)) (n : Int) (x : List UInt8), x ∈ Y → blnk x = false → leastL Y n ≤ (lead x : Int)
  | y :: Y, n, x, hx, hb => by
    rw [least_cons]
    rcases List.mem_cons.1 hx with rfl | hx
    · have h1 : 0 ≤ stepL n x ∧ stepL n x ≤ (lead x : Int) := by
        unfold stepL
        rw [hb, if_neg (by simp)]
        split <;> omega
      have h2 := leastL_keep Y (stepL n x) h1.1
      omega
    · exact leastL_le Y (stepL n y) x hx hb
theorem leastL_bd : ∀ (Y : List (List UInt8)) (n : Int) (m : Nat), n ≤ m → (∀ x ∈ Y, x.length ≤ m) → leastL Y n ≤ m
  | [], n, m, h1, _ => h1
  | x :: Y, n, m, h1, h => by
    have hx := h x (by simp)
    have hl := lead_le x
    rw [least_cons]
    refine leastL_bd Y (stepL n x) m ?_ (fun y hy => h y (by simp [hy]))
    unfold stepL
    repeat' split
    all_goals omega
theorem rl_pos {s : ByteArray} (h : rl s.data.toList [] ≠ []) : 0 < s.size := by
  rcases Nat.eq_zero_or_pos s.size with h0 | h0
  · exfalso
    have : s.data.toList = [] := List.eq_nil_of_length_eq_zero (by rw [← size_len]; exact h0)
    rw [this] at h
    exact h rfl
  · exact h0
theorem mx_zero (n : Int) : mx n 0 = if n < 0 then 0 else n := rfl
theorem rIndent_eq (s : ByteArray) (k : Nat) (hk : 50000000 ≤ k) : motleyref25_Indent.f k s = G.doc_Indent.f s := by
  unfold motleyref25_Indent.f G.doc_Indent.f
  rw [rAsked_eq s k (by omega), show K.doc_asked.f s = some (checkI s) from dAsked_eq s]
  simp only [Option.bind_some]
  by_cases h0 : checkI s = 0
  case neg => rw [if_neg h0, if_neg h0]
  rw [if_pos h0, if_pos h0]
  obtain ⟨hs, _⟩ := check0 h0
  have hl := size_len s
  obtain ⟨b1, b2, b3⟩ := rl_bd s.data.toList []
  obtain ⟨c1, c2⟩ := segs_bd s.data.toList
  have hsz : ∀ x ∈ lines10 s, x.size ≤ 4096 := fun x hx => by
    have hm : x.data.toList ∈ Sl.segs 10 s.data.toList := by rw [← lines10_data]; exact List.mem_map_of_mem hx
    have := c1 _ hm
    rw [size_len]; omega
  have hln : (lines10 s).length ≤ 5000 := by
    have := congrArg List.length (lines10_data s)
    rw [List.length_map] at this
    omega
  have hout : (indOut s).length ≤ 100000 := by
    rw [indOut_eq]
    have := puts_len (indN s).toNat (nl s.data.toList) (rl s.data.toList [])
    simp only [List.length_nil] at b3
    omega
  rw [if_pos ⟨hs, hln, hsz, hout⟩, lines_eq s hs k (by omega)]
  simp only [Option.bind_some]
  have hY : ∀ x ∈ rl s.data.toList [], x.length ≤ 4096 := fun x hx => by have := b1 x hx; simp only [List.length_nil] at this; omega
  have hN := indN_eq s
  have hbd := leastL_bd (rl s.data.toList []) (-1) 4096 (by omega) hY
  have hN0 : 0 ≤ indN s ∧ indN s ≤ 4096 := by rw [hN]; split <;> omega
  have hle : ∀ x ∈ rl s.data.toList [], blnk x = false → (indN s).toNat ≤ x.length := fun x hx hb => by
    have h1 := leastL_le (rl s.data.toList []) (-1) x hx hb
    have h2 := lead_le x
    have h3 : indN s ≤ (lead x : Int) := by rw [hN]; split <;> omega
    omega
  have key := rIndent_l0 s (rl s.data.toList []) hY (by omega) (some (⟨(indOut s).toArray⟩, indN s, 0)) 20000 (-1) (fun k hk => by
    rw [mx_zero, ← hN, indOut_eq]
    have h4 := rIndent_l2 s hs (rl s.data.toList []) hY (by omega) (indN s).toNat (by omega) hle rl_pos (rl s.data.toList []).length 0 k ⟨#[]⟩ (by omega) (by omega) (by omega) (by show 0 ≤ _; omega)
    rw [show (((indN s).toNat : Nat) : Int) = indN s by omega, List.drop_zero] at h4
    rw [show ((0 : Nat) : Int) = 0 from rfl] at h4
    rw [h4, show (⟨#[]⟩ : ByteArray) ++ mk (puts (indN s).toNat (nl s.data.toList) (rl s.data.toList [])) = ⟨(puts (indN s).toNat (nl s.data.toList) (rl s.data.toList [])).toArray⟩ from by apply ba_ext; simp [mk]]) (rl s.data.toList []).length 0 (-1) (by omega) (by omega) (by rw [List.drop_zero]) k (by omega)
  exact key
end Go.Proofs.YthdalpminhbckaaDoor.Q
namespace Go.Proofs.YthdalpminhbckaaDoor.Pure
open Go.RowKit Go.Proofs.YthdalpminhbckaaDoorW.PrintWords Go.Proofs.YthdalpminhbckaaDoor.Tx Go.Proofs.YthdalpminhbckaaDoor.G Go.Proofs.YthdalpminhbckaaDoor.M Go.Proofs.YthdalpminhbckaaDoor.Q Go.Lib
theorem DocIndents : M.motleylaw25_DocIndents.Pure := by
  intro s hs
  obtain ⟨k, hk⟩ : ∃ k : Nat, k = 50000000 := ⟨_, rfl⟩
  refine ⟨k, ?_⟩
  unfold motleylaw25_DocIndents.f motleylaw25_over.f
  rw [dKnown_eq k (by omega), rIndent_eq s k (by omega)]
  simp only [Option.bind_some]
  cases hq : G.doc_Indent.f s with
  | none =>
    exfalso
    have h1 := rIndent_eq s k (by omega)
    rw [hq] at h1
    unfold G.doc_Indent.f at hq
    rw [show K.doc_asked.f s = some (checkI s) from dAsked_eq s] at hq
    simp only at hq
    split at hq
    · rename_i h0
      split at hq
      · cases hq
      · rename_i hno
        obtain ⟨h5, _⟩ := check0 h0
        apply hno
        have hl := size_len s
        obtain ⟨b1, b2, b3⟩ := rl_bd s.data.toList []
        obtain ⟨c1, c2⟩ := segs_bd s.data.toList
        refine ⟨h5, ?_, fun x hx => ?_, ?_⟩
        · have := congrArg List.length (lines10_data s)
          rw [List.length_map] at this
          omega
        · have hm : x.data.toList ∈ Sl.segs 10 s.data.toList := by rw [← lines10_data]; exact List.mem_map_of_mem hx
          have := c1 _ hm
          rw [size_len]; omega
        · rw [indOut_eq]
          have := Q.puts_len (indN s).toNat (Ind.nl s.data.toList) (Ind.rl s.data.toList [])
          simp only [List.length_nil] at b3
          omega
    · cases hq
  | some r =>
    obtain ⟨a, b, c⟩ := r
    simp only [Option.bind_some, if_true]
    split <;> rfl
end Go.Proofs.YthdalpminhbckaaDoor.Pure
