/- CharsClasses: the parts of a class, and its unsorted spans (the first loops of chars.spans): words for the walk. -/
import Derived.Test.YtegapacamclipaaDoorC3
import Derived.Test.YtegapacamclipaaDoorSortSp
import Derived.Deep.QuietTactic
import Derived.BigQuiet
import Derived.OwnWalk
set_option linter.unusedVariables false
set_option linter.unusedSimpArgs false
namespace Go.Proofs.YtegapacamclipaaDoor.G
open Go.RowKit Go.Proofs.YtegapacamclipaaDoorW.PrintWords Go.Proofs.YtegapacamclipaaDoor.Cls Go.Proofs.YtegapacamclipaaDoor.C
theorem parts_any (k : Nat) (s : ByteArray) (P : List (Fin 8)) (w : World) (h0 : 0 < P.length) (hp : chars_partsOf.f k s = some (P.map nameR)) :
    Calls Tryd.prog 93 #[.string s] w fun e w' => ∃ g cap, e = .returned (.slice (some ⟨g, 0, none⟩) P.length cap) ∧ g < w'.heap.size ∧ (∀ i (h : i < P.length), w'.cell? ⟨g, i, none⟩ = some (.string (nameR P[i]))) ∧ Below w.heap.size w w' := by
  refine (chars_partsOf.calls k s _ w hp).mono ?_
  rintro e w' ⟨v, rfl, hR, hB⟩
  obtain ⟨inner, ho⟩ := Kd.R_own hR
  rw [List.length_map] at ho
  obtain ⟨g, cap, rfl, hg, hlt, hcc, hcm, hcell, hfr⟩ := own_form ho h0
  obtain ⟨A, c, he, hl, hC⟩ := Kd.R_reads hR
  rw [List.length_map] at he hC
  cases he
  refine ⟨g, cap, rfl, hlt, fun i hi => ?_, hB⟩
  obtain ⟨ad, cs, e1, _, hK, hc⟩ := Kd.C_get hC ⟨#[]⟩ (i : Int) (by omega) (by omega)
  cases e1
  have hK' : cs = [.string ((P.map nameR).getD i ⟨#[]⟩)] := hK
  subst hK'
  have := hc 0 _ rfl
  have e2 : ((P.map nameR).getD i ⟨#[]⟩) = nameR P[i] := by simp [List.getD_eq_getElem?_getD, hi]
  rw [e2] at this
  have e3 : (⟨g, 0, none⟩ : Addr).add ((i : Int).toNat * Kd.string.sz + 0) = ⟨g, i, none⟩ := by
    have : Kd.string.sz = 1 := rfl
    simp [Addr.add, this]
    intro h
    exact h.symm
  rw [e3] at this
  exact this
theorem rowsL_app (a b : List (Nat × Nat)) : rowsL (a ++ b) = rowsL a ++ rowsL b := by simp [rowsL]
theorem rowsL_yes (x : Nat × Nat) (h : 0 < x.2) : rowsL [x] = [(x.1, x.1 + x.2 - 1)] := by simp [rowsL, h]
theorem rowsL_no (x : Nat × Nat) (h : ¬ 0 < x.2) : rowsL [x] = [] := by
  have : x.2 = 0 := by omega
  simp [rowsL, this]
theorem rowsL_len (l : List (Nat × Nat)) : (rowsL l).length ≤ l.length := by
  unfold rowsL; rw [List.length_map]; exact List.length_filter_le _ _
theorem uns_snoc (P : List (Fin 8)) (i : Nat) (h : i < P.length) : unsorted (P.take (i + 1)) = unsorted (P.take i) ++ rowsL (rowN P[i]) := by
  unfold unsorted
  rw [List.take_succ_eq_append_getElem h, List.flatMap_append]
  simp only [List.flatMap_cons, List.flatMap_nil, List.append_nil]
theorem flat_take2 : ∀ (l : List (Nat × Nat)) (j : Nat) (h : j < l.length), ((flatP l).drop (j * 2)).take 2 = [.int .i64 (l[j].1 : Int), .int .i64 (l[j].2 : Int)]
  | x :: l, 0, _ => rfl
  | x :: l, j + 1, h => by
    have ih := flat_take2 l j (by simpa using h)
    rw [flat_cons, show (j + 1) * 2 = j * 2 + 1 + 1 by omega, List.drop_succ_cons, List.drop_succ_cons]
    exact ih
theorem idx_run (p : Fin 8) (j : Nat) (hj : j < (rowN p).length) (W : World) :
    (Instr.index 91 (rowV p) (.int .i64 (j : Int))).run Tryd.prog W = .ok (.agg #[.int .i64 ((rowN p)[j].1 : Int), .int .i64 ((rowN p)[j].2 : Int)]) W := by
  have h9 := rowN_len p
  have e := flat_take2 (rowN p) j hj
  have hlt : ((j : Nat) : Int) < 9 := by omega
  simp [Instr.index, asIntOf, rowV, run_underlying Tryd.underlying91, part, Tryd.isAgg89, Tryd.sizeOf89, e, hlt, show j < 9 by omega]
theorem join_nil (out : List (Nat × Nat)) : joinS out [] = out := rfl
theorem join_first (x : Nat × Nat) (r : List (Nat × Nat)) : joinS [] (x :: r) = joinS [x] r := rfl
theorem join_touch (o : List (Nat × Nat)) (y x : Nat × Nat) (r : List (Nat × Nat)) (h : y.2 + 1 = x.1) : joinS (o ++ [y]) (x :: r) = joinS (o ++ [(y.1, x.2)]) r := by
  simp [joinS, h]
theorem join_apart (o : List (Nat × Nat)) (y x : Nat × Nat) (r : List (Nat × Nat)) (h : ¬ y.2 + 1 = x.1) : joinS (o ++ [y]) (x :: r) = joinS (o ++ [y] ++ [x]) r := by
  simp [joinS, h]
end Go.Proofs.YtegapacamclipaaDoor.G
