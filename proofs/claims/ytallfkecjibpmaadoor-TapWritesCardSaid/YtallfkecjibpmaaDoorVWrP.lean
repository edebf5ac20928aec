/- Of this claim's texts (WrP): the declarations that the claim reaches (slimclaim.py). -/
import Derived.Test.YtallfkecjibpmaaDoorVPWr1
set_option linter.unusedVariables false
set_option linter.unusedSimpArgs false
namespace Go.Proofs.YtallfkecjibpmaaDoor.Rd
open Go.RowKit Go.Lib Go.Proofs.YtallfkecjibpmaaDoor.Nm Go.Proofs.YtallfkecjibpmaaDoor.Q Go.Proofs.YtallfkecjibpmaaDoor.G
def wordL (d : Int) : Bs := if d = 1 then [83, 75, 73, 80] else [84, 79, 68, 79]
def nmL (t : Tst) : Bs := if t.name = [] then [] else 32 :: 45 :: 32 :: t.name
def rsL (t : Tst) : Bs := if t.reason = [] then [] else 32 :: t.reason
def drL (t : Tst) : Bs := if t.dir = 0 then [] else 32 :: 35 :: 32 :: (wordL t.dir ++ rsL t)
def restL (t : Tst) (n : Nat) : Bs := 32 :: (decDigits n ++ (nmL t ++ drL t))
def lineL (t : Tst) (n : Nat) : Bs := (if t.ok = true then [] else [110, 111, 116, 32]) ++ 111 :: 107 :: restL t n
def numT (t : Tst) (n : Nat) : Tst := ⟨t.ok, t.name, t.dir, t.reason, n⟩
theorem cutH_free : ∀ (p q : Bs), noHash p = true → cutH (p ++ 32 :: 35 :: q) = some (p, q)
  | [], q, _ => by rw [List.nil_append, cutH, if_pos ⟨rfl, rfl⟩]
  | [c], q, h => by
    show cutH (c :: 32 :: 35 :: q) = _
    rw [cutH, if_neg (by rintro ⟨_, h⟩; exact absurd h (by decide)), cutH, if_pos ⟨rfl, rfl⟩]; rfl
  | c :: d :: p, q, h => by
    rw [noHash_cons, Bool.and_eq_true] at h
    have hd : d ≠ 35 := by
      rintro rfl
      rw [noHash_cons, Bool.and_eq_true] at h
      exact absurd h.2.1 (by decide)
    have ih := cutH_free (d :: p) q h.2
    show cutH (c :: d :: (p ++ 32 :: 35 :: q)) = _
    rw [cutH, if_neg (fun h => hd h.2)]
    rw [List.cons_append] at ih
    rw [ih]; rfl
theorem cutH_none : ∀ p : Bs, noHash p = true → cutH p = none
  | [], _ => rfl
  | [c], _ => rfl
  | c :: d :: p, h => by
    rw [noHash_cons, Bool.and_eq_true] at h
    have hd : d ≠ 35 := by
      rintro rfl
      rw [noHash_cons, Bool.and_eq_true] at h
      exact absurd h.2.1 (by decide)
    rw [cutH, if_neg (fun h => hd h.2), cutH_none (d :: p) h.2]; rfl
theorem dec_all (n : Nat) : (decDigits n).all isDb = true := by
  rw [List.all_eq_true]
  intro c hc
  unfold isDb
  exact decide_eq_true (dec_isD n c hc)
theorem dec_zero : decDigits 0 = [48] := by rw [dec_small (by omega)]; rfl
theorem numP_dec (n : Nat) (h : n < 1000000000) : numP (decDigits n) = ((n : Int), true) := by
  unfold numP
  rw [if_neg, val_dec]
  rintro (h1 | h1 | ⟨h1, h2⟩ | h1)
  · exact dec_ne n h1
  · have := dec_len 8 n (by simpa using h)
    omega
  · cases hd : decDigits n with
    | nil => exact dec_ne n hd
    | cons c r =>
      rw [hd] at h1 h2
      have := dec_head n c r hd (by have h3 : c = 48 := h1; rw [h3]; rfl)
      subst this
      rw [dec_zero] at hd
      exact h2 hd.symm
  · exact h1 (dec_all n)
theorem toBl_dig : ∀ (d x : Bs), d.all isDb = true → (x = [] ∨ ∃ r, x = 32 :: r) → toBl (d ++ x) = d
  | [], x, _, hx => by
    rcases hx with rfl | ⟨r, rfl⟩
    · rfl
    · rw [List.nil_append, toBl_cons, if_pos rfl]
  | c :: d, x, h, hx => by
    rw [List.all_cons, Bool.and_eq_true] at h
    have hc : c ≠ 32 := by
      rintro rfl
      rw [db32] at h
      exact absurd h.1 (by decide)
    rw [List.cons_append, toBl_cons, if_neg hc, toBl_dig d x h.2 hx]
theorem okText_trim {l : Bs} (h : okText l = true) : trimS l = l := by
  unfold okText at h
  rw [Bool.and_eq_true] at h
  exact beq_iff_eq.1 h.2
theorem okName_text {l : Bs} (h : okName l = true) : okText l = true := by
  unfold okName at h
  rw [Bool.and_eq_true] at h
  exact h.1
theorem okName_hash {l : Bs} (h : okName l = true) : noHash l = true := by
  unfold okName at h
  rw [Bool.and_eq_true] at h
  exact h.2
theorem trimS_bl (l : Bs) : trimS (32 :: l) = trimS l := by rw [trimS_def, trimS_def, bL_cons, if_pos rfl]
theorem nm_hash {t : Tst} (hv : vT t) : noHash (nmL t) = true := by
  unfold nmL
  split
  · rfl
  · rw [noHash_cons, noHash_cons, noHash_cons, okName_hash hv.1]; rfl
theorem rs_trim {t : Tst} (hv : vT t) : trimS (rsL t) = t.reason ∧ headOk (rsL t) = true := by
  unfold rsL
  split
  · rename_i h
    exact ⟨by rw [h]; exact trimS_nil, rfl⟩
  · exact ⟨by rw [trimS_bl, okText_trim hv.2.1], rfl⟩
theorem dirP_one (r : Bs) (h1 : headOk r = true) (h2 : okText (trimS r) = true) : dirP (32 :: ([83, 75, 73, 80] ++ r)) = some (1, trimS r) := by
  have e1 : Lib.hasPrefix (32 :: ([83, 75, 73, 80] ++ r)) sk = true := (hp_iff _ _).2 ⟨r, rfl⟩
  have e2 : (32 :: ([83, 75, 73, 80] ++ r) : Bs).drop 5 = r := rfl
  unfold dirP
  rw [e1, e2, h1, Bool.and_self, if_pos rfl, if_pos h2]
theorem dirP_two (r : Bs) (h1 : headOk r = true) (h2 : okText (trimS r) = true) : dirP (32 :: ([84, 79, 68, 79] ++ r)) = some (2, trimS r) := by
  have e0 : Lib.hasPrefix (32 :: ([84, 79, 68, 79] ++ r)) sk = false := rfl
  have e1 : Lib.hasPrefix (32 :: ([84, 79, 68, 79] ++ r)) td = true := (hp_iff _ _).2 ⟨r, rfl⟩
  have e2 : (32 :: ([84, 79, 68, 79] ++ r) : Bs).drop 5 = r := rfl
  unfold dirP
  rw [e0, e1, e2, h1, Bool.and_self, if_neg (by decide), if_pos rfl, if_pos h2]
theorem cut_line {t : Tst} (hv : vT t) (n : Nat) : cutP (restL t n) = some (32 :: (decDigits n ++ nmL t), t.dir, t.reason) := by
  have hx : noHash (32 :: (decDigits n ++ nmL t)) = true := by
    rw [noHash_cons, noHash_digits _ _ (dec_all n), nm_hash hv]; rfl
  have ht := rs_trim hv
  obtain ⟨_, hr, hd⟩ := hv
  unfold cutP restL
  rcases hd with ⟨h0, h1⟩ | h0 | h0
  · have e : drL t = [] := by unfold drL; rw [if_pos h0]
    rw [e, List.append_nil, cutH_none _ hx, if_pos hx, h0, h1]
  · have e : (32 :: (decDigits n ++ (nmL t ++ drL t)) : Bs) = (32 :: (decDigits n ++ nmL t)) ++ 32 :: 35 :: (32 :: ([83, 75, 73, 80] ++ rsL t)) := by
      have e2 : drL t = 32 :: 35 :: 32 :: ([83, 75, 73, 80] ++ rsL t) := by unfold drL wordL; rw [if_neg (by omega), if_pos h0]
      rw [e2]; simp
    rw [e, cutH_free _ _ hx]
    simp only
    rw [dirP_one _ ht.2 (by rw [ht.1]; exact hr), ht.1]
    simp only
    rw [if_pos hx, h0]
  · have e : (32 :: (decDigits n ++ (nmL t ++ drL t)) : Bs) = (32 :: (decDigits n ++ nmL t)) ++ 32 :: 35 :: (32 :: ([84, 79, 68, 79] ++ rsL t)) := by
      have e2 : drL t = 32 :: 35 :: 32 :: ([84, 79, 68, 79] ++ rsL t) := by unfold drL wordL; rw [if_neg (by omega), if_neg (by omega)]
      rw [e2]; simp
    rw [e, cutH_free _ _ hx]
    simp only
    rw [dirP_two _ ht.2 (by rw [ht.1]; exact hr), ht.1]
    simp only
    rw [if_pos hx, h0]
theorem nm_bl (t : Tst) : nmL t = [] ∨ ∃ r, nmL t = 32 :: r := by
  unfold nmL
  split
  · exact .inl rfl
  · exact .inr ⟨_, rfl⟩
theorem split_line (t : Tst) (n : Nat) (h : n < 1000000000) : numSplit (32 :: (decDigits n ++ nmL t)) = ((n : Int), nmL t) := by
  unfold numSplit
  rw [hp_b, if_pos (by decide), show (32 :: (decDigits n ++ nmL t)).drop 1 = decDigits n ++ nmL t from rfl, toBl_dig _ _ (dec_all n) (nm_bl t), numP_dec n h]
  simp only [if_true]
  rw [Nat.add_comm 1, List.drop_succ_cons, List.drop_left]
theorem name_line {t : Tst} (hv : vT t) : nameP (nmL t) = some t.name := by
  unfold nmL
  split
  · rename_i h; rw [h]; rfl
  · have e1 : Lib.hasPrefix (32 :: 45 :: 32 :: t.name) [32, 45, 32] = true := (hp_iff _ _).2 ⟨t.name, rfl⟩
    unfold nameP
    rw [if_neg (by simp), if_pos e1, show (32 :: 45 :: 32 :: t.name).drop 3 = t.name from rfl, okText_trim (okName_text hv.1), if_pos hv.1]
theorem not_line (t : Tst) (n : Nat) : afterNot (lineL t n) = 111 :: 107 :: restL t n ∧ isNot (lineL t n) = !t.ok := by
  unfold afterNot isNot lineL
  cases t.ok
  · have e : Lib.hasPrefix ((if false = true then [] else [110, 111, 116, 32]) ++ 111 :: 107 :: restL t n) [110, 111, 116, 32] = true := (hp_iff _ _).2 ⟨_, rfl⟩
    rw [e, if_pos rfl]
    exact ⟨rfl, rfl⟩
  · have e : Lib.hasPrefix ((if true = true then [] else [110, 111, 116, 32]) ++ 111 :: 107 :: restL t n) [110, 111, 116, 32] = false := rfl
    rw [e, if_neg (by decide)]
    exact ⟨rfl, rfl⟩
theorem test_line {t : Tst} (hv : vT t) (n : Nat) (h : n < 1000000000) : testP (lineL t n) = some (numT t n) := by
  obtain ⟨e1, e2⟩ := not_line t n
  unfold testP
  have hp : Lib.hasPrefix (111 :: 107 :: restL t n) [111, 107] = true := (hp_iff _ _).2 ⟨restL t n, rfl⟩
  rw [e1, e2, if_pos hp, show (111 :: 107 :: restL t n).drop 2 = restL t n from rfl]
  unfold bodyP
  rw [cut_line hv n]
  simp only
  rw [split_line t n h]
  simp only
  rw [name_line hv]
  simp only
  unfold numT
  rw [Bool.not_not]
theorem line_head (t : Tst) (n : Nat) : ∃ c r, lineL t n = c :: r ∧ c ≠ 49 ∧ c ≠ 66 := by
  unfold lineL
  cases t.ok
  · exact ⟨110, _, rfl, by decide, by decide⟩
  · exact ⟨111, _, rfl, by decide, by decide⟩
theorem plan_no {c : UInt8} {r : Bs} (h : c ≠ 49) : planP (c :: r) = none := by
  have hp : Lib.hasPrefix (c :: r) [49, 46, 46] = false := by
    rw [hp_cons, show ((49 : UInt8) == c) = false from by rw [beq_eq_false_iff_ne]; exact fun h' => h h'.symm]; rfl
  unfold planP
  rw [if_neg (fun h' => by have := skip_pre h'; rw [hp] at this; cases this), hp]
  rfl
theorem bail_no {c : UInt8} {r : Bs} (h : c ≠ 66) : bailS (c :: r) = false := by
  have hp : Lib.hasPrefix (c :: r) (bailW ++ [32]) = false := by
    show Lib.hasPrefix (c :: r) (66 :: _) = false
    rw [hp_cons, show ((66 : UInt8) == c) = false from by rw [beq_eq_false_iff_ne]; exact fun h' => h h'.symm]; rfl
  unfold bailS
  rw [hp, Bool.or_false, beq_eq_false_iff_ne]
  intro e
  unfold bailW at e
  injection e with e1 e2
  exact h e1
def linesF : Nat → List Tst → List Bs
  | _, [] => []
  | i, t :: r => lineL t (i + 1) :: linesF (i + 1) r
def numF : Nat → List Tst → List Tst
  | _, [] => []
  | i, t :: r => numT t (i + 1) :: numF (i + 1) r
theorem run_lines : ∀ (ts : List Tst) (i : Nat) (acc : List Tst) (n : Int), (∀ t ∈ ts, vT t) → i + ts.length < 1000 →
    Pr.run (linesF i ts ++ [[]]) ⟨acc, n, 1, false, false, false, false⟩ = ⟨acc ++ numF i ts, n, 1, false, false, false, false⟩
  | [], i, acc, n, _, _ => by
    show Pr.run [[]] _ = _
    rw [Pr.run, if_neg (by decide), Pr.run]
    show Pr.step _ [] = _
    unfold Pr.step
    rw [show planP [] = none from by decide, show testP [] = none from rfl]
    simp only
    rw [show numF i [] = [] from rfl, List.append_nil]
  | t :: ts, i, acc, n, hv, hl => by
    obtain ⟨c, r, e, h1, h2⟩ := line_head t (i + 1)
    rw [List.length_cons] at hl
    have ih := run_lines ts (i + 1) (acc ++ [numT t (i + 1)]) n (fun u hu => hv u (List.mem_cons_of_mem _ hu)) (by omega)
    have ep : planP (lineL t (i + 1)) = none := by rw [e]; exact plan_no h1
    have eb : bailS (lineL t (i + 1)) = false := by rw [e]; exact bail_no h2
    rw [linesF, List.cons_append, Pr.run, eb, if_neg (by decide)]
    have es : Pr.step ⟨acc, n, 1, false, false, false, false⟩ (lineL t (i + 1)) = ⟨acc ++ [numT t (i + 1)], n, 1, false, false, false, false⟩ := by
      unfold Pr.step
      rw [ep, test_line (hv t (List.mem_cons_self ..)) (i + 1) (by omega)]
      rfl
    rw [es, ih, numF, List.append_assoc]; rfl
def headL (n : Nat) : Bs := 49 :: 46 :: 46 :: decDigits n
theorem head_plan (n : Nat) (h : n < 1000) : planP (headL n) = some ((n : Int), false) := by
  have hal := dec_all n
  have hsk : ¬ skipS (headL n) = true := by
    unfold skipS headL
    rw [Bool.or_eq_true, beq_iff_eq]
    rintro (h1 | h1)
    · unfold skipW at h1
      injection h1 with _ h1
      injection h1 with _ h1
      injection h1 with _ h1
      rw [h1] at hal
      exact absurd hal (by decide)
    · obtain ⟨r, hr⟩ := (hp_iff _ _).1 h1
      unfold skipW at hr
      injection hr with _ hr
      injection hr with _ hr
      injection hr with _ hr
      have hr2 : decDigits n = 48 :: 32 :: ([35, 32, 83, 75, 73, 80, 32] ++ r) := hr
      rw [hr2, List.all_cons, List.all_cons, db32, Bool.false_and, Bool.and_false] at hal
      cases hal
  have e1 : Lib.hasPrefix (headL n) [49, 46, 46] = true := (hp_iff _ _).2 ⟨decDigits n, rfl⟩
  have e2 : Lib.trimPrefix (headL n) [49, 46, 46] = decDigits n := by unfold Lib.trimPrefix; rw [if_pos e1]; rfl
  have e3 := dec_len 2 n (by simpa using h)
  unfold planP
  rw [if_neg hsk, e1, e2, numP_dec n (by omega), decide_eq_true (by omega)]
  rfl
theorem run_whole (ts : List Tst) (hv : ∀ t ∈ ts, vT t) (hl : ts.length < 900) :
    Pr.run (headL ts.length :: (linesF 0 ts ++ [[]])) Pr.new = ⟨numF 0 ts, ts.length, 1, false, false, false, false⟩ := by
  have eb : bailS (headL ts.length) = false := bail_no (by decide)
  rw [Pr.run, eb, if_neg (by decide)]
  have es : Pr.step Pr.new (headL ts.length) = ⟨[], ts.length, 1, false, false, false, false⟩ := by
    unfold Pr.step
    rw [head_plan _ (by omega)]
    rfl
  rw [es, run_lines ts 0 [] _ hv (by omega), List.nil_append]
theorem numF_get : ∀ (ts : List Tst) (i j : Nat), (numF i ts)[j]? = ts[j]?.map fun t => numT t (i + j + 1)
  | [], i, j => rfl
  | t :: ts, i, 0 => rfl
  | t :: ts, i, j + 1 => by
    rw [numF, List.getElem?_cons_succ, List.getElem?_cons_succ, numF_get ts (i + 1) j, show i + 1 + j + 1 = i + (j + 1) + 1 by omega]
theorem numF_len : ∀ (ts : List Tst) (i : Nat), (numF i ts).length = ts.length
  | [], _ => rfl
  | t :: ts, i => by rw [numF, List.length_cons, List.length_cons, numF_len ts]
theorem numF_mism (ts : List Tst) : ∀ n : Nat, mism (numF 0 ts) n = false
  | 0 => rfl
  | n + 1 => by
    rw [mism, numF_mism ts n, Bool.false_or, numF_get]
    cases ts[n]? with
    | none => rfl
    | some t =>
      show (decide (0 ≤ (((0 + n + 1 : Nat)) : Int)) && !((((0 + n + 1 : Nat)) : Int) == (n : Int) + 1)) = false
      rw [show ((0 + n + 1 : Nat) : Int) = (n : Int) + 1 by omega]
      simp
theorem okText_nl {l : Bs} (h : okText l = true) : ¬ (10 : UInt8) ∈ l := by
  unfold okText at h
  rw [Bool.and_eq_true, Bool.and_eq_true] at h
  have h1 := h.1.2
  rw [Bool.not_eq_true'] at h1
  intro hm
  rw [List.contains_iff_mem.2 hm] at h1
  cases h1
theorem dec_nl (n : Nat) : ¬ (10 : UInt8) ∈ decDigits n := fun h => absurd (dec_isD n 10 h) (by unfold isD; decide)
theorem line_nl {t : Tst} (hv : vT t) (n : Nat) : ¬ (10 : UInt8) ∈ lineL t n := by
  have h1 := okText_nl (okName_text hv.1)
  have h2 := okText_nl hv.2.1
  have h3 := dec_nl n
  have a1 : ¬ (10 : UInt8) ∈ nmL t := by
    unfold nmL
    split
    · simp
    · simp only [List.mem_cons, not_or]; exact ⟨by decide, by decide, by decide, h1⟩
  have a2 : ¬ (10 : UInt8) ∈ rsL t := by
    unfold rsL
    split
    · simp
    · simp only [List.mem_cons, not_or]; exact ⟨by decide, h2⟩
  have a3 : ¬ (10 : UInt8) ∈ wordL t.dir := by
    unfold wordL
    split <;> decide
  have a4 : ¬ (10 : UInt8) ∈ drL t := by
    unfold drL
    split
    · simp
    · simp only [List.mem_cons, List.mem_append, not_or]; exact ⟨by decide, by decide, by decide, a3, a2⟩
  unfold lineL restL
  rw [List.mem_append, not_or]
  refine ⟨?_, ?_⟩
  · split
    · simp
    · decide
  · simp only [List.mem_cons, List.mem_append, not_or]
    exact ⟨by decide, by decide, by decide, h3, a1, a4⟩
theorem segs_lines : ∀ (ts : List Tst) (i : Nat), (∀ t ∈ ts, vT t) → Sl.segs 10 ((linesF i ts).flatMap (· ++ [10])) = linesF i ts ++ [[]]
  | [], i, _ => by show Sl.segs 10 [] = _; exact segs_none 10 [] (by simp)
  | t :: ts, i, hv => by
    rw [linesF, List.flatMap_cons, List.append_assoc, List.singleton_append, segs_cut 10 _ _ (line_nl (hv t (List.mem_cons_self ..)) _), segs_lines ts (i + 1) (fun u hu => hv u (List.mem_cons_of_mem _ hu)), List.cons_append]
theorem segs_whole (ts : List Tst) (hv : ∀ t ∈ ts, vT t) : Sl.segs 10 (headL ts.length ++ 10 :: (linesF 0 ts).flatMap (· ++ [10])) = headL ts.length :: (linesF 0 ts ++ [[]]) := by
  rw [segs_cut 10 _ _ ?_, segs_lines ts 0 hv]
  unfold headL
  simp only [List.mem_cons, not_or]
  exact ⟨by decide, by decide, by decide, dec_nl _⟩
end Go.Proofs.YtallfkecjibpmaaDoor.Rd
