/- Of this claim's texts (RdP): the declarations that the claim reaches (slimclaim.py). -/
import Derived.Test.YtallfkecjibpmaaDoorVRdN
set_option linter.unusedVariables false
set_option linter.unusedSimpArgs false
namespace Go.Proofs.YtallfkecjibpmaaDoor.Rd
open Go.Proofs.YtallfkecjibpmaaDoor.Nm
def bailW : Bs := [66, 97, 105, 108, 32, 111, 117, 116, 33]
def bailS (s : Bs) : Bool := s == bailW || Lib.hasPrefix s (bailW ++ [32])
def skipW : Bs := [49, 46, 46, 48, 32, 35, 32, 83, 75, 73, 80]
def skipS (s : Bs) : Bool := s == skipW || Lib.hasPrefix s (skipW ++ [32])
def planP (s : Bs) : Option (Int × Bool) :=
  if skipS s = true then some (0, true)
  else if (Lib.hasPrefix s [49, 46, 46] && (numP (Lib.trimPrefix s [49, 46, 46])).2 && decide ((Lib.trimPrefix s [49, 46, 46]).length ≤ 3)) = true then some ((numP (Lib.trimPrefix s [49, 46, 46])).1, false) else none
def numRm (s : Bs) (m : Nat) : Int × Nat :=
  if s.takeWhile isDb = [] ∨ m < (s.takeWhile isDb).length ∨ (1 < (s.takeWhile isDb).length ∧ (s.takeWhile isDb).headD 0 = 48) then (0, 0) else ((val (s.takeWhile isDb) : Int), (s.takeWhile isDb).length)
def planR (s : Bs) : Option (Int × Bool) :=
  if Lib.hasPrefix s [49, 46, 46] = true then
    (if skipS s = true then some (0, true) else if 0 < (numRm (s.drop 3) 3).2 ∧ (numRm (s.drop 3) 3).2 = (s.drop 3).length then some ((numRm (s.drop 3) 3).1, false) else none)
  else none
theorem skip_pre {s : Bs} (h : skipS s = true) : Lib.hasPrefix s [49, 46, 46] = true := by
  unfold skipS at h
  rw [Bool.or_eq_true, beq_iff_eq] at h
  rcases h with rfl | h
  · rfl
  · obtain ⟨r, rfl⟩ := (hp_iff _ _).1 h
    rfl
theorem tw_all : ∀ l : Bs, l.all isDb = true → l.takeWhile isDb = l
  | [], _ => rfl
  | c :: l, h => by
    rw [List.all_cons, Bool.and_eq_true] at h
    rw [List.takeWhile_cons, if_pos h.1, tw_all l h.2]
theorem tw_len : ∀ l : Bs, (l.takeWhile isDb).length = l.length → l.all isDb = true
  | [], _ => rfl
  | c :: l, h => by
    rw [List.takeWhile_cons] at h
    by_cases hc : isDb c = true
    · rw [if_pos hc, List.length_cons, List.length_cons] at h
      rw [List.all_cons, hc, tw_len l (by omega)]; rfl
    · rw [if_neg hc] at h; simp at h
theorem plan_eq (s : Bs) : planR s = planP s := by
  unfold planR planP
  by_cases hs : skipS s = true
  · rw [if_pos hs, if_pos (skip_pre hs), if_pos hs]
  · rw [if_neg hs, if_neg hs]
    by_cases hp : Lib.hasPrefix s [49, 46, 46] = true
    · rw [if_pos hp]
      have ht : Lib.trimPrefix s [49, 46, 46] = s.drop 3 := by unfold Lib.trimPrefix; rw [if_pos hp]; rfl
      rw [ht, hp, Bool.true_and]
      generalize s.drop 3 = d
      by_cases ha : d.all isDb = true
      · have e := tw_all d ha
        unfold numRm numP
        rw [e]
        by_cases h0 : d = []
        · subst h0; rfl
        · have hl : 0 < d.length := by rcases d with _ | ⟨c, d⟩; exact absurd rfl h0; simp
          have hd : (d.headD 0 = 48 ∧ d ≠ [48]) ↔ (1 < d.length ∧ d.headD 0 = 48) := by
            rcases d with _ | ⟨c, _ | ⟨c2, d⟩⟩
            · exact absurd rfl h0
            · simp
            · simp
          by_cases h3 : d.length ≤ 3
          · by_cases hz : 1 < d.length ∧ d.headD 0 = 48
            · have c1 : d = [] ∨ 3 < d.length ∨ 1 < d.length ∧ d.headD 0 = 48 := .inr (.inr hz)
              have c2 : d = [] ∨ 9 < d.length ∨ d.headD 0 = 48 ∧ d ≠ [48] ∨ ¬d.all isDb = true := .inr (.inr (.inl (hd.2 hz)))
              simp only [if_pos c1, if_pos c2]
              rw [if_neg (fun h => absurd h.1 (by decide))]; rfl
            · have c1 : ¬ (d = [] ∨ 3 < d.length ∨ 1 < d.length ∧ d.headD 0 = 48) := by
                rintro (h | h | h)
                · exact h0 h
                · omega
                · exact hz h
              have c2 : ¬ (d = [] ∨ 9 < d.length ∨ d.headD 0 = 48 ∧ d ≠ [48] ∨ ¬d.all isDb = true) := by
                rintro (h | h | h | h)
                · exact h0 h
                · omega
                · exact hz (hd.1 h)
                · exact h ha
              simp only [if_neg c1, if_neg c2]
              rw [if_pos ⟨hl, trivial⟩, decide_eq_true h3]; rfl
          · have c1 : d = [] ∨ 3 < d.length ∨ 1 < d.length ∧ d.headD 0 = 48 := .inr (.inl (by omega))
            simp only [if_pos c1]
            rw [if_neg (fun h => absurd h.1 (by decide)), decide_eq_false h3, Bool.and_false]; rfl
      · have e1 : (numP d).2 = false := by unfold numP; rw [if_pos (.inr (.inr (.inr ha)))]
        rw [e1]
        have e2 : ¬ (0 < (numRm d 3).2 ∧ (numRm d 3).2 = d.length) := by
          unfold numRm
          split
          · exact fun h => absurd h.1 (by omega)
          · exact fun h => ha (tw_len d h.2)
        rw [if_neg e2]; rfl
    · rw [if_neg hp, Bool.not_eq_true] at *
      rw [hp]; rfl
structure Pr where
  ts : List Tst
  plan : Int
  plans : Nat
  skips : Bool
  bailed : Bool
  late : Bool
  behind : Bool
def Pr.new : Pr := ⟨[], 0, 0, false, false, false, false⟩
def Pr.step (p : Pr) (s : Bs) : Pr := match planP s with
  | some (n, k) => ⟨p.ts, n, p.plans + 1, k, p.bailed, decide (0 < p.ts.length), p.behind⟩
  | none => match testP s with
    | some t => ⟨p.ts ++ [t], p.plan, p.plans, p.skips, p.bailed, p.late, p.behind || p.late⟩
    | none => p
def Pr.bail (p : Pr) : Pr := ⟨p.ts, p.plan, p.plans, p.skips, true, p.late, p.behind⟩
def Pr.run : List Bs → Pr → Pr
  | [], p => p
  | s :: r, p => if bailS s = true then p.bail else Pr.run r (p.step s)
def Pr.bad (p : Pr) : Bool := !(p.plans == 1) || p.behind || (p.skips && decide (0 < p.ts.length))
structure Rr where
  ts : List Tst
  plan : Int
  plans : Nat
  first : Nat
  skip : Bool
  ended : Bool
def Rr.new : Rr := ⟨[], 0, 0, 0, false, false⟩
def Rr.step (p : Rr) (s : Bs) : Rr := match planR s with
  | some (n, k) => ⟨p.ts, n, p.plans + 1, p.ts.length, k, p.ended⟩
  | none => match testR s with
    | some t => ⟨p.ts ++ [t], p.plan, p.plans, p.first, p.skip, p.ended⟩
    | none => p
def Rr.bail (p : Rr) : Rr := ⟨p.ts, p.plan, p.plans, p.first, p.skip, true⟩
def Rr.run : List Bs → Rr → Rr
  | [], p => p
  | s :: r, p => if bailS s = true then p.bail else Rr.run r (p.step s)
def Rr.bad (p : Rr) : Bool := !(p.plans == 1) || (!(p.first == 0) && !(p.first == p.ts.length)) || (p.skip && decide (0 < p.ts.length))
structure PR (p : Pr) (r : Rr) : Prop where
  ts : p.ts = r.ts
  plan : p.plan = r.plan
  plans : p.plans = r.plans
  skips : p.skips = r.skip
  bailed : p.bailed = r.ended
  zero : r.plans = 0 → p.late = false ∧ p.behind = false
  one : r.plans = 1 → r.first ≤ r.ts.length ∧ p.late = decide (0 < r.first) ∧ p.behind = (decide (0 < r.first) && decide (r.first < r.ts.length))
theorem PR.step {p : Pr} {r : Rr} (h : PR p r) (s : Bs) : PR (p.step s) (r.step s) := by
  unfold Pr.step Rr.step
  rw [plan_eq, ← test_eq]
  obtain ⟨h1, h2, h3, h4, h5, h6, h7⟩ := h
  cases planP s with
  | some x =>
    obtain ⟨n, k⟩ := x
    refine ⟨h1, rfl, by rw [h3], rfl, h5, fun h => absurd h (by simp), fun h => ?_⟩
    have hz := h6 (by simpa using h)
    refine ⟨Nat.le_refl _, by rw [h1], ?_⟩
    show p.behind = _
    rw [hz.2]; simp
  | none =>
    cases testP s with
    | some t =>
      refine ⟨by rw [h1], h2, h3, h4, h5, fun h => ?_, fun h => ?_⟩
      · have := h6 h
        exact ⟨this.1, by simp [this.1, this.2]⟩
      · obtain ⟨a, b, c⟩ := h7 h
        refine ⟨by simp; omega, b, ?_⟩
        show (p.behind || p.late) = _
        rw [b, c]
        by_cases hf : 0 < r.first
        · simp [hf]; omega
        · simp [hf]
    | none => exact ⟨h1, h2, h3, h4, h5, h6, h7⟩
theorem PR.bail {p : Pr} {r : Rr} (h : PR p r) : PR p.bail r.bail := ⟨h.ts, h.plan, h.plans, h.skips, rfl, h.zero, h.one⟩
theorem PR.run : ∀ (l : List Bs) {p : Pr} {r : Rr}, PR p r → PR (Pr.run l p) (Rr.run l r)
  | [], _, _, h => h
  | s :: l, _, _, h => by
    unfold Pr.run Rr.run
    by_cases hb : bailS s = true
    · rw [if_pos hb, if_pos hb]; exact h.bail
    · rw [if_neg hb, if_neg hb]; exact PR.run l (h.step s)
theorem PR.new : PR Pr.new Rr.new := ⟨rfl, rfl, rfl, rfl, rfl, fun _ => ⟨rfl, rfl⟩, fun h => by cases h⟩
theorem PR.bad {p : Pr} {r : Rr} (h : PR p r) : p.bad = r.bad := by
  unfold Pr.bad Rr.bad
  obtain ⟨h1, h2, h3, h4, h5, h6, h7⟩ := h
  rw [h1, h3, h4]
  by_cases hp : r.plans = 1
  · obtain ⟨a, b, c⟩ := h7 hp
    rw [c]
    congr 2
    by_cases hf : r.first = 0
    · simp [hf]
    · by_cases hl : r.first = r.ts.length
      · rw [show decide (r.first < r.ts.length) = false by simp; omega, show (r.first == r.ts.length) = true by simpa using hl]; simp
      · rw [show decide (r.first < r.ts.length) = true by simp; omega, show decide (0 < r.first) = true by simp; omega, beq_eq_false_iff_ne.2 hf, beq_eq_false_iff_ne.2 hl]; rfl
  · rw [beq_eq_false_iff_ne.2 hp]; rfl
def mism (ts : List Tst) : Nat → Bool
  | 0 => false
  | i + 1 => mism ts i || (match ts[i]? with | some t => decide (0 ≤ t.num) && !(t.num == (i : Int) + 1) | none => false)
theorem run_len : ∀ (l : List Bs) (p : Pr), (Pr.run l p).ts.length ≤ p.ts.length + l.length
  | [], p => by simp [Pr.run]
  | s :: l, p => by
    unfold Pr.run
    split
    · show p.ts.length ≤ _; omega
    · have h := run_len l (p.step s)
      have h2 : (p.step s).ts.length ≤ p.ts.length + 1 := by
        unfold Pr.step
        split
        · simp
        · split <;> simp
      rw [List.length_cons]; omega
end Go.Proofs.YtallfkecjibpmaaDoor.Rd
