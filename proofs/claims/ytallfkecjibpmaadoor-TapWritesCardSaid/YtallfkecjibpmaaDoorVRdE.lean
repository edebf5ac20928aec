/- Of this claim's texts (RdE): the declarations that the claim reaches (slimclaim.py). -/
import Derived.Handy
import Derived.Laws.AppendOwn
import Derived.Deep.AppendLies
import Derived.Test.YtallfkecjibpmaaDoorVRdD
import Derived.Test.YtallfkecjibpmaaDoorVRdP
set_option linter.unusedVariables false
set_option linter.unusedSimpArgs false
namespace Go.Proofs.YtallfkecjibpmaaDoor.G
open Go.RowKit Go.Proofs.YtallfkecjibpmaaDoorW.PrintWords Go.Proofs.YtallfkecjibpmaaDoor.Nm Go.Lib Go.Proofs.YtallfkecjibpmaaDoor.Rd
theorem hp_any (s p : ByteArray) (w : World) : Calls Tryd.prog 97 #[.string s, .string p] w fun e w' => e = .returned (.bool (Lib.hasPrefix s.data.toList p.data.toList)) ∧ w' = w := Tryd.strings_HasPrefix s p w
theorem beq_toL (s : ByteArray) (l : List UInt8) : (s.toList == l) = (s.data.toList == l) := by rw [toL_data]
set_option maxHeartbeats 8000000 in
set_option maxRecDepth 100000 in
theorem plan_any (s : ByteArray) (w : World) :
    Calls Tryd.prog 98 #[.string s] w fun e w' => ∃ (n : Int) (k b : Bool), e = .returned (.tuple #[.int .i64 n, .bool k, .bool b]) ∧ Below w.heap.size w w' ∧ (match planP s.data.toList with
      | some (m, q) => b = true ∧ n = m ∧ k = q
      | none => b = false) := by
  obtain ⟨Q, hQ⟩ : ∃ Q : Ending → World → Prop, Q = fun e w' => ∃ (n : Int) (k b : Bool), e = .returned (.tuple #[.int .i64 n, .bool k, .bool b]) ∧ Below w.heap.size w w' ∧ (match planP s.data.toList with
      | some (m, q) => b = true ∧ n = m ∧ k = q
      | none => b = false) := ⟨_, rfl⟩
  rw [← hQ]
  have hfin : Aside0 (∀ (n : Int) (k b : Bool) (w' : World), Below w.heap.size w w' → (match planP s.data.toList with
      | some (m, q) => b = true ∧ n = m ∧ k = q
      | none => b = false) → Q (.returned (.tuple #[.int .i64 n, .bool k, .bool b])) w') := ⟨fun n k b w' h1 h2 => by rw [hQ]; exact ⟨n, k, b, rfl, h1, h2⟩⟩
  clear hQ
  have hh := Aside0.mk (fun W => hp_any s ⟨#[49, 46, 46, 48, 32, 35, 32, 83, 75, 73, 80, 32]⟩ W)
  rw [show (⟨#[49, 46, 46, 48, 32, 35, 32, 83, 75, 73, 80, 32]⟩ : ByteArray).data.toList = skipW ++ [32] from rfl] at hh
  have hc := Aside0.mk (fun W => cp_any s ⟨#[49, 46, 46]⟩ W)
  rw [show (⟨#[49, 46, 46]⟩ : ByteArray).data.toList = [49, 46, 46] from rfl] at hc
  obtain ⟨b1, hb1⟩ : ∃ b1, (s.data.toList == skipW) = b1 := ⟨_, rfl⟩
  have e1 : (s.toList == [49, 46, 46, 48, 32, 35, 32, 83, 75, 73, 80]) = b1 := by rw [beq_toL]; exact hb1
  obtain ⟨b2, hb2⟩ : ∃ b2, Lib.hasPrefix s.data.toList (skipW ++ [32]) = b2 := ⟨_, rfl⟩
  rw [hb2] at hh
  have hsk : Aside0 (skipS s.data.toList = (b1 || b2)) := ⟨by unfold skipS; rw [hb1, hb2]⟩
  obtain ⟨p, hp⟩ : ∃ p, mkD (Lib.trimPrefix s.data.toList [49, 46, 46]) = p := ⟨_, rfl⟩
  obtain ⟨ok, hok⟩ : ∃ ok, Lib.hasPrefix s.data.toList [49, 46, 46] = ok := ⟨_, rfl⟩
  have hpL : p.data.toList = Lib.trimPrefix s.data.toList [49, 46, 46] := by rw [← hp, mkD_list]
  have hpz := size_len p
  rw [hp, hok] at hc
  have hn := Aside0.mk (fun W => number_any p W)
  obtain ⟨n, hnn⟩ : ∃ n, (numP p.data.toList).1 = n := ⟨_, rfl⟩
  obtain ⟨is, his⟩ : ∃ is, (numP p.data.toList).2 = is := ⟨_, rfl⟩
  rw [hnn, his] at hn
  have hpP : Aside0 (planP s.data.toList = if (b1 || b2) = true then some (0, true) else if (ok && is && decide (p.size ≤ 3)) = true then some (n, false) else none) := ⟨by
    unfold planP
    rw [hsk.out, hok, ← hpL, his, hnn, hpz]⟩
  clear hb1 hb2 hp hok hpL hpz hnn his hsk
  cases b1
  · cases b2
    · have hpP' : Aside0 (planP s.data.toList = if (ok && is && decide (p.size ≤ 3)) = true then some (n, false) else none) := ⟨by rw [hpP.out]; rfl⟩
      clear hpP
      cases ok
      · go_enter Tryd.func98, Tryd.ntmps98
        go_wp2_with (first | (go_at_call 97; refine (hh.out _).mono ?_; rintro e w1 ⟨rfl, rfl⟩) | (go_at_call 124; refine (hc.out _).mono ?_; rintro e w2 ⟨rfl, rfl⟩) | (go_at_call 125; refine (hn.out _).mono ?_; rintro e w3 ⟨rfl, hb3⟩; have hb3A := Aside0.mk hb3; clear hb3))
        exact hfin.out n false false _ hb3A.out (by rw [hpP'.out]; rfl)
      · cases is
        · go_enter Tryd.func98, Tryd.ntmps98
          go_wp2_with (first | (go_at_call 97; refine (hh.out _).mono ?_; rintro e w1 ⟨rfl, rfl⟩) | (go_at_call 124; refine (hc.out _).mono ?_; rintro e w2 ⟨rfl, rfl⟩) | (go_at_call 125; refine (hn.out _).mono ?_; rintro e w3 ⟨rfl, hb3⟩; have hb3A := Aside0.mk hb3; clear hb3))
          exact hfin.out n false false _ hb3A.out (by rw [hpP'.out]; rfl)
        · go_enter Tryd.func98, Tryd.ntmps98
          go_wp2_with (first | (go_at_call 97; refine (hh.out _).mono ?_; rintro e w1 ⟨rfl, rfl⟩) | (go_at_call 124; refine (hc.out _).mono ?_; rintro e w2 ⟨rfl, rfl⟩) | (go_at_call 125; refine (hn.out _).mono ?_; rintro e w3 ⟨rfl, hb3⟩; have hb3A := Aside0.mk hb3; clear hb3))
          refine hfin.out n false (decide ((p.size : Int) ≤ 3)) _ hb3A.out ?_
          rw [hpP'.out]
          by_cases h3 : p.size ≤ 3
          · rw [decide_eq_true h3]; exact ⟨decide_eq_true (by omega), rfl, rfl⟩
          · rw [decide_eq_false h3]; exact decide_eq_false (by omega)
    · clear hc hn
      go_enter Tryd.func98, Tryd.ntmps98
      go_wp2_with (first | (go_at_call 97; refine (hh.out _).mono ?_; rintro e w1 ⟨rfl, rfl⟩))
      exact hfin.out 0 true true _ (Below.refl _ _) (by rw [hpP.out]; exact ⟨rfl, rfl, rfl⟩)
  · clear hc hn hh
    go_enter Tryd.func98, Tryd.ntmps98
    go_wp2_with fail
    exact hfin.out 0 true true _ (Below.refl _ _) (by rw [hpP.out]; exact ⟨rfl, rfl, rfl⟩)
def lineB (t : Tst) : List Value := [.bool t.ok, .string (mkD t.name), .int .i64 t.dir, .string (mkD t.reason), .int .i64 t.num]
def flatT (l : List Tst) : List Value := l.flatMap lineB
theorem flatT_snoc (l : List Tst) (t : Tst) : flatT (l ++ [t]) = flatT l ++ lineB t := by simp [flatT]
def prV (p : Pr) (v : Value) : Array Value := #[v, .int .i64 p.plan, .int .i64 (p.plans : Int), .bool p.skips, .bool p.bailed, .bool p.late, .bool p.behind]
def PL (base g : Nat) (p : Pr) (v : Value) (w : World) : Prop := w.heap[g]? = some (.cells (prV p v) 95 (0, 0)) ∧ w.ownsRow base 97 5 v p.ts.length (flatT p.ts)
def FrL (base g : Nat) (w w' : World) : Prop := w.heap.size ≤ w'.heap.size ∧ ∀ k, k < base → k ≠ g → w'.heap[k]? = w.heap[k]?
theorem FrL.refl (base g : Nat) (w : World) : FrL base g w w := ⟨Nat.le_refl _, fun _ _ _ => rfl⟩
theorem FrL.trans {base g : Nat} {w w1 w2 : World} (h : FrL base g w w1) (k : FrL base g w1 w2) : FrL base g w w2 := ⟨Nat.le_trans h.1 k.1, fun j hj hg => by rw [k.2 j hj hg, h.2 j hj hg]⟩
theorem FrL.of_below {base g : Nat} {w w1 : World} (hb : base ≤ w.heap.size) (h : Below w.heap.size w w1) : FrL base g w w1 := ⟨h.size, fun k hk _ => h.block k (by omega)⟩
theorem FrL.set (base g : Nat) (w : World) (j : Nat) (u : Value) : FrL base g w (w.setCell ⟨g, j, none⟩ u) := ⟨by simp [World.setCell], fun k _ hg => Below.heap_setCell _ _ _ _ hg⟩
theorem own_below {B : Nat} {e : TypeId} {k : Nat} {v : Value} {n : Nat} {xs : List Value} {w w' : World} (h : w.ownsRow B e k v n xs) (hb : Below w.heap.size w w') : w'.ownsRow B e k v n xs :=
  h.kept (row := none) ⟨hb.os, hb.tape, hb.output, hb.size, fun j hj _ => hb.block j hj⟩ (by cases hv : v.ownBlock <;> simp)
theorem PL.below {base g : Nat} {p : Pr} {v : Value} {w w' : World} (h : PL base g p v w) (hb : Below w.heap.size w w') : PL base g p v w' :=
  ⟨(hb.block g (Array.getElem?_eq_some_iff.1 h.1).1).trans h.1, own_below h.2 hb⟩
theorem pr_cells {w : World} {g t : Nat} {a b c d e f u : Value} (h : w.heap[g]? = some (.cells #[a, b, c, d, e, f, u] t (0, 0))) :
    w.cell? ⟨g, 0, none⟩ = some a ∧ w.cell? ⟨g, 1, none⟩ = some b ∧ w.cell? ⟨g, 2, none⟩ = some c ∧ w.cell? ⟨g, 3, none⟩ = some d ∧ w.cell? ⟨g, 4, none⟩ = some e ∧ w.cell? ⟨g, 5, none⟩ = some f ∧ w.cell? ⟨g, 6, none⟩ = some u :=
  ⟨cell_of h rfl, cell_of h rfl, cell_of h rfl, cell_of h rfl, cell_of h rfl, cell_of h rfl, cell_of h rfl⟩
theorem own_slice {w : World} {base : Nat} {e : TypeId} {size : Nat} {v : Value} {n : Nat} {xs : List Value} (h : w.ownsRow base e size v n xs) : ∃ A c, v = .slice A n c := by
  rcases h.2 with ⟨rfl, h0⟩ | ⟨g, cap, cur, rfl, _⟩
  · exact ⟨none, 0, by rw [h0]⟩
  · exact ⟨_, _, rfl⟩
theorem PL.set {base g : Nat} {p q : Pr} {v : Value} {w : World} (h : PL base g p v w) (hg : g < base) (i : Nat) (u : Value) (hq : (prV p v).setIfInBounds i u = prV q v) (hts : q.ts = p.ts) : PL base g q v (w.setCell ⟨g, i, none⟩ u) :=
  ⟨by rw [← hq]; exact blk_set h.1 i u, by rw [hts]; exact ownsRow_setCell_below h.2 (a := ⟨g, i, none⟩) hg u⟩
end Go.Proofs.YtallfkecjibpmaaDoor.G
